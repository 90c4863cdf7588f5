/- What FnRehearsals asks of its answers, in plain Lean. Conditions: drawn rehearsals are valid, before day 5000, their notes below 900 and not of the new person. -/
import Derived.Test.YtegehdhdlljikaaAddRunLaw
import Derived.Test.YtegehdhdlljikaaDoneLaw
import Derived.Test.YtegehdhdlljikaaDueFns
import Derived.Test.YtegehdhdlljikaaRemarksFns
import Derived.Test.YtegehdhdlljikaaWhoFns
import Derived.Test.YtegehdhdlljikaaLastRunFns
namespace Go.Proofs.Ytegehdhdlljikaa
set_option linter.unusedVariables false

def nmNew : ByteArray := ⟨#[110, 101, 119]⟩
def nmAnn : ByteArray := ⟨#[97, 110, 110]⟩
def cueA : ByteArray := ⟨#[97]⟩
def cueB : ByteArray := ⟨#[98]⟩
/-- the new rehearsal -/
def newRun (d : Bool) : RunD := ⟨5000, [cueA, cueB], [⟨900, nmNew, cueA, d⟩, ⟨901, nmAnn, cueB, true⟩]⟩
theorem newRun_ok (d : Bool) : (newRun d).okB = true := by cases d <;> decide +kernel
theorem lastTo_app {xs : List RunD} {x : RunD} : ∀ k, k ≤ xs.length → lastTo (xs ++ [x]) k = lastTo xs k
  | 0, _ => rfl
  | k + 1, h => by
    have ih := lastTo_app (xs := xs) (x := x) k (by omega)
    unfold lastTo at ih ⊢
    rw [upTo_succ, upTo_succ, ih]
    simp only [lastStep, List.getElem?_append_left (show k < xs.length by omega)]
theorem gap_app {xs : List RunD} {x : RunD} {i : Nat} (h : i < xs.length) : gapB (xs ++ [x]) i = gapB xs i := by
  unfold gapB
  rw [lastTo_app i (by omega), List.getElem?_append_left h]
theorem gap_last {xs : List RunD} {x : RunD} (h : ∀ r, x.Remarks[0]? = some r → lastTo xs xs.length < r.Number) : gapB (xs ++ [x]) xs.length = true := by
  unfold gapB
  rw [lastTo_app _ (Nat.le_refl _), List.getElem?_append_right (Nat.le_refl _), Nat.sub_self]
  simp only [List.getElem?_cons_zero]
  cases hr : x.Remarks[0]? with
  | none => rfl
  | some r => simp only [decide_eq_true_eq]; exact h r hr
theorem runs_snoc {xs : List RunD} {x : RunD} (hv : runsB xs = true) (hl : xs.length < 16) (hx : x.okB = true) (hd : ∀ y ∈ xs, y.Day < x.Day) (hn : ∀ r, x.Remarks[0]? = some r → lastTo xs xs.length < r.Number) : runsB (xs ++ [x]) = true := by
  have hv' := hv
  simp only [runsB, Bool.and_eq_true, decide_eq_true_eq, List.all_eq_true, List.mem_range] at hv'
  obtain ⟨⟨h1, h2⟩, h3⟩ := hv'
  rw [runs_all]
  · simp; omega
  · intro i hi
    simp only [List.length_append, List.length_singleton] at hi
    have hok : ((xs ++ [x])[i]'(by simp; omega)).okB = true := by
      by_cases h : i < xs.length
      · rw [List.getElem_append_left h]; exact allGood_ok h2 _ (List.getElem_mem h)
      · rw [List.getElem_append_right (by omega)]; simpa using hx
    cases i with
    | zero => exact good_zero (h := by simp) hok
    | succ j =>
      refine good_succ (h := by simp; omega) hok ?_
      by_cases h : j + 1 < xs.length
      · have := allGood_lt h2 h
        rw [List.getElem_append_left h, List.getElem_append_left (show j < xs.length by omega)]; exact this
      · rw [List.getElem_append_right (show xs.length ≤ j + 1 by omega), List.getElem_append_left (show j < xs.length by omega)]
        have := hd _ (List.getElem_mem (show j < xs.length by omega))
        simp [RunD.geB]; omega
  · intro i hi
    simp only [List.length_append, List.length_singleton] at hi
    by_cases h : i < xs.length
    · rw [gap_app h]; exact h3 i h
    · obtain rfl : i = xs.length := by omega
      exact gap_last hn
theorem last_bd {xs : List RunD} {m : Int} (hm : 0 ≤ m) (h : ∀ x ∈ xs, ∀ r ∈ x.Remarks, r.Number ≤ m) : ∀ k, k ≤ xs.length → lastTo xs k ≤ m
  | 0, _ => hm
  | k + 1, hk => by
    have ih := last_bd hm h k (by omega)
    have hkx : k < xs.length := by omega
    unfold lastTo at ih ⊢
    rw [upTo_succ]
    simp only [lastStep, List.getElem?_eq_getElem hkx]
    cases hr : xs[k].Remarks.getLast? with
    | none => exact ih
    | some r => exact h _ (List.getElem_mem hkx) r (List.mem_of_getLast? hr)
/-- rehearsals as they are drawn -/
def DrawnR (xs : List RunD) : Prop := runsB xs = true ∧ xs.length ≤ 4 ∧ (∀ x ∈ xs, x.wf ∧ x.small 1048576) ∧ ∀ x ∈ xs, x.Day < 5000 ∧ ∀ r ∈ x.Remarks, r.Number < 900 ∧ r.Who ≠ nmNew
theorem hasStr_iff' {nm : ByteArray} {ns : List ByteArray} : hasStr nm ns = true ↔ nm ∈ ns := by
  simp only [hasStr, List.any_eq_true, eq_key, decide_eq_true_eq]
  exact ⟨fun ⟨x, h1, h2⟩ => key_inj h2 ▸ h1, fun h => ⟨nm, h, rfl⟩⟩
set_option linter.unusedSectionVars false
section
variable {xs : List RunD} (h : DrawnR xs)
include h
theorem new_runs (d : Bool) : runsB (xs ++ [newRun d]) = true := by
  obtain ⟨h1, h2, _, h3⟩ := h
  refine runs_snoc h1 (by omega) (newRun_ok d) (fun y hy => (h3 y hy).1) (fun r hr => ?_)
  simp only [newRun, List.getElem?_cons_zero, Option.some.injEq] at hr
  subst hr
  have := last_bd (xs := xs) (m := 899) (by omega) (fun x hx r hr => by have := ((h3 x hx).2 r hr).1; omega) xs.length (Nat.le_refl _)
  simp only; omega
theorem new_wf (d : Bool) : ∀ x ∈ xs ++ [newRun d], x.wf ∧ x.small 1048576 := fun x hx => by
  rcases List.mem_append.1 hx with hx | hx
  · exact h.2.2.1 x hx
  · simp only [List.mem_singleton] at hx
    subst hx
    constructor
    · have ha : cueA.size ≤ 10 := by decide +kernel
      have hb : cueB.size ≤ 10 := by decide +kernel
      have hn : nmNew.size ≤ 10 := by decide +kernel
      have hm : nmAnn.size ≤ 10 := by decide +kernel
      refine ⟨⟨by simp [newRun], by simp [newRun]⟩, ⟨by simp [newRun, maxLen], fun y hy => ?_⟩, ⟨by simp [newRun, maxLen], fun y hy => ?_⟩⟩
      · have : y.size ≤ 10 := by
          simp only [newRun, List.mem_cons, List.not_mem_nil, or_false] at hy
          rcases hy with rfl | rfl <;> assumption
        unfold strWf maxLen; omega
      · simp only [newRun, List.mem_cons, List.not_mem_nil, or_false] at hy
        rcases hy with rfl | rfl
        · exact ⟨⟨by simp, by simp⟩, by unfold maxLen; simp only; omega, by unfold maxLen; simp only; omega⟩
        · exact ⟨⟨by simp, by simp⟩, by unfold maxLen; simp only; omega, by unfold maxLen; simp only; omega⟩
    · simp [RunD.small, newRun]
theorem new_add : addRZ xs (newRun false) = xs ++ [newRun false] ∧ addRC xs (newRun false) = 0 := addR_ok h.1 (newRun_ok false) (by have := h.2.1; omega) (new_runs h false)
theorem new_open : openRs (xs ++ [newRun false]) = openRs xs ++ [⟨900, nmNew, cueA, false⟩] := by simp [openRs, openOf, newRun]
theorem new_rest : openRs (xs ++ [newRun true]) = openRs xs := by simp [openRs, openOf, newRun]
theorem new_who : hasStr nmNew (whoZ (xs ++ [newRun false])) = true := by
  rw [hasStr_iff', whoZ, if_pos (new_runs h false), (foldS _ [] List.Pairwise.nil).2]
  right
  rw [whoRs, new_open h]
  simp
theorem new_free : hasStr nmNew (whoZ (xs ++ [newRun true])) = false := by
  rw [Bool.eq_false_iff]
  intro hh
  rw [hasStr_iff', whoZ, if_pos (new_runs h true), (foldS _ [] List.Pairwise.nil).2] at hh
  rcases hh with hh | hh
  · cases hh
  · rw [whoRs, new_rest h] at hh
    obtain ⟨r, hr, e⟩ := List.mem_map.1 hh
    obtain ⟨x, hx, hrx⟩ := List.mem_flatMap.1 hr
    exact ((h.2.2.2 x hx).2 r (List.mem_filter.1 (show r ∈ x.Remarks.filter _ from hrx)).1).2 e
theorem new_doneAt (d : Bool) : (d = true → doneC (xs ++ [newRun d]) 900 = 6) ∧ (d = false → doneZ (xs ++ [newRun d]) 900 = xs ++ [newRun true] ∧ doneC (xs ++ [newRun d]) 900 = 0) := by
  have hi : xs.length < (xs ++ [newRun d]).length := by simp
  have e : (xs ++ [newRun d])[xs.length] = newRun d := by simp
  have hb : ∀ j (hj : j < (xs ++ [newRun d]).length), j < xs.length → doneR (xs ++ [newRun d])[j].Remarks 900 = none := fun j hj hlt => by
    rw [List.getElem_append_left hlt]
    refine doneR_none (fun q hq => ?_)
    have := ((h.2.2.2 _ (List.getElem_mem hlt)).2 _ (List.getElem_mem hq)).1
    omega
  have hk : 0 < (xs ++ [newRun d])[xs.length].Remarks.length := by rw [e]; simp [newRun]
  have key := done_hit (new_runs h d) hi hk hb (fun j hj h0 => by omega) (by simp [newRun])
  constructor
  · intro hd
    exact (key.1 (by simp [newRun, hd])).2
  · intro hd
    subst hd
    obtain ⟨k1, k2⟩ := key.2 (by simp [newRun])
    refine ⟨?_, k2⟩
    rw [k1]
    simp [newRun]
theorem new_last (d : Bool) : lastOf (xs ++ [newRun d]) cueB = 5000 ∧ lastCode (xs ++ [newRun d]) cueB = 0 := by
  have hd : dayTo cueB (xs ++ [newRun d]) (xs ++ [newRun d]).length = 5000 := by
    have hk : xs.length < (xs ++ [newRun d]).length := by simp
    have := day_yes (c := cueB) (xs := xs ++ [newRun d]) hk (by simp only [List.getElem_append_right (Nat.le_refl _), Nat.sub_self, List.getElem_cons_zero]; cases d <;> decide +kernel)
    rw [show (xs ++ [newRun d]).length = xs.length + 1 by simp, this]
    simp [newRun]
  simp only [lastOf, lastCode, new_runs h d, if_true, hd]
  decide
theorem new_due {cs : List CueD} {v : Int} (hc : cueListB cs = true) (hv : 0 ≤ v ∧ v < 20) : dueC cs (xs ++ [newRun false]) (5000 + v) 20 = 0 ∧ (dueZ cs (xs ++ [newRun false]) (5000 + v) 20).length ≤ cs.length ∧
    hasStr cueA (dueZ cs (xs ++ [newRun false]) (5000 + v) 20) = false ∧ hasStr cueB (dueZ cs (xs ++ [newRun false]) (5000 + v) 20) = false := by
  have hl : listsB cs (xs ++ [newRun false]) = true := by simp [listsB, hc, new_runs h false]
  have hd : daysB (5000 + v) 20 = true := by
    simp only [daysB, Bool.and_eq_true]
    exact ⟨inB_true.2 ⟨by omega, by omega⟩, inB_true.2 ⟨by omega, by omega⟩⟩
  obtain ⟨e1, e2⟩ := due_ok hl hd
  have hno : ∀ c : ByteArray, hasStr c (newRun false).Cues = true → hasStr c (dueAll (xs ++ [newRun false]) (5000 + v) 20 cs) = false := fun c hcc => by
    rw [Bool.eq_false_iff]
    intro hh
    rw [hasStr_iff'] at hh
    obtain ⟨x, hx, e⟩ := List.mem_map.1 hh
    obtain ⟨_, hdu⟩ := List.mem_filter.1 hx
    have hk : xs.length < (xs ++ [newRun false]).length := by simp
    have hday := day_yes (c := c) (xs := xs ++ [newRun false]) hk (by simpa using hcc)
    rw [show xs.length + 1 = (xs ++ [newRun false]).length by simp] at hday
    subst e
    simp only [dueB, hday, Bool.or_eq_true, decide_eq_true_eq] at hdu
    simp [newRun] at hdu
    omega
  refine ⟨e2, ?_, ?_, ?_⟩
  · rw [e1, dueAll, List.length_map]; exact List.length_filter_le _ _
  · rw [e1]; exact hno _ (by decide +kernel)
  · rw [e1]; exact hno _ (by decide +kernel)
end
end Go.Proofs.Ytegehdhdlljikaa
