/- DoneRemark: what it answers, in plain Lean. Conditions: none. -/
import Derived.Test.YtegehdhdlljikaaRunsFns
namespace Go.Proofs.Ytegehdhdlljikaa
set_option linter.unusedVariables false

def doneR : List RemarkD → Int → Option (Option (List RemarkD))
  | [], _ => none
  | x :: xs, m => if x.Number = m then (if x.Done = true then some none else some (some ({ x with Done := true } :: xs))) else (doneR xs m).map (Option.map (x :: ·))
theorem doneR_none {m : Int} : ∀ {xs : List RemarkD}, (∀ j (h : j < xs.length), xs[j].Number ≠ m) → doneR xs m = none
  | [], _ => rfl
  | x :: xs, h => by
    have h0 := h 0 (by simp)
    simp only [List.getElem_cons_zero] at h0
    simp only [doneR, if_neg h0]
    rw [doneR_none (fun j hj => by have := h (j + 1) (by simpa using hj); simpa using this)]
    rfl
theorem doneR_hit {m : Int} : ∀ {xs : List RemarkD} {k : Nat} (hk : k < xs.length), (∀ j (h : j < xs.length), j < k → xs[j].Number ≠ m) → xs[k].Number = m → doneR xs m = if xs[k].Done = true then some none else some (some (xs.set k { xs[k] with Done := true }))
  | x :: xs, 0, _, _, he => by
    simp only [List.getElem_cons_zero] at he
    simp only [doneR, if_pos he, List.getElem_cons_zero, List.set_cons_zero]
  | x :: xs, k + 1, hk, hb, he => by
    have h0 := hb 0 (by simp) (by omega)
    simp only [List.getElem_cons_zero] at h0
    simp only [List.getElem_cons_succ] at he
    simp only [doneR, if_neg h0, List.getElem_cons_succ, List.set_cons_succ]
    rw [doneR_hit (by simpa using hk) (fun j hj hlt => by have := hb (j + 1) (by simpa using hj) (by omega); simpa using this) he]
    split <;> rfl
def doneRun : List RunD → Int → Option (Option (List RunD))
  | [], _ => none
  | x :: xs, m => match doneR x.Remarks m with
    | some none => some none
    | some (some l) => some (some ({ x with Remarks := l } :: xs))
    | none => (doneRun xs m).map (Option.map (x :: ·))
theorem doneRun_none {m : Int} : ∀ {xs : List RunD}, (∀ j (h : j < xs.length), doneR xs[j].Remarks m = none) → doneRun xs m = none
  | [], _ => rfl
  | x :: xs, h => by
    have h0 := h 0 (by simp)
    simp only [List.getElem_cons_zero] at h0
    simp only [doneRun, h0]
    rw [doneRun_none (fun j hj => by have := h (j + 1) (by simpa using hj); simpa using this)]
    rfl
theorem doneRun_old {m : Int} : ∀ {xs : List RunD} {k : Nat} (hk : k < xs.length), (∀ j (h : j < xs.length), j < k → doneR xs[j].Remarks m = none) → doneR xs[k].Remarks m = some none → doneRun xs m = some none
  | x :: xs, 0, _, _, he => by
    simp only [List.getElem_cons_zero] at he
    simp only [doneRun, he]
  | x :: xs, k + 1, hk, hb, he => by
    have h0 := hb 0 (by simp) (by omega)
    simp only [List.getElem_cons_zero] at h0
    simp only [List.getElem_cons_succ] at he
    simp only [doneRun, h0]
    rw [doneRun_old (by simpa using hk) (fun j hj hlt => by have := hb (j + 1) (by simpa using hj) (by omega); simpa using this) he]
    rfl
theorem doneRun_new {m : Int} {l : List RemarkD} : ∀ {xs : List RunD} {k : Nat} (hk : k < xs.length), (∀ j (h : j < xs.length), j < k → doneR xs[j].Remarks m = none) → doneR xs[k].Remarks m = some (some l) → doneRun xs m = some (some (xs.set k { xs[k] with Remarks := l }))
  | x :: xs, 0, _, _, he => by
    simp only [List.getElem_cons_zero] at he
    simp only [doneRun, he, List.getElem_cons_zero, List.set_cons_zero]
  | x :: xs, k + 1, hk, hb, he => by
    have h0 := hb 0 (by simp) (by omega)
    simp only [List.getElem_cons_zero] at h0
    simp only [List.getElem_cons_succ] at he
    simp only [doneRun, h0, List.getElem_cons_succ, List.set_cons_succ]
    rw [doneRun_new (by simpa using hk) (fun j hj hlt => by have := hb (j + 1) (by simpa using hj) (by omega); simpa using this) he]
    rfl
def doneZ (xs : List RunD) (m : Int) : List RunD := if runsB xs = true then (match doneRun xs m with | some (some l) => l | _ => []) else []
def doneC (xs : List RunD) (m : Int) : Int := if runsB xs = true then (match doneRun xs m with | some (some _) => 0 | some none => 6 | none => 3) else 1
theorem done_bad {xs : List RunD} {m : Int} (h : runsB xs = false) : doneZ xs m = [] ∧ doneC xs m = 1 := by simp [doneZ, doneC, h]
/-- the note is at k in the run at i, the first of its number -/
theorem done_hit {xs : List RunD} {m : Int} {i k : Nat} (hv : runsB xs = true) (hi : i < xs.length) (hk : k < xs[i].Remarks.length) (hb : ∀ j (h : j < xs.length), j < i → doneR xs[j].Remarks m = none) (hbk : ∀ j (h : j < xs[i].Remarks.length), j < k → xs[i].Remarks[j].Number ≠ m) (he : xs[i].Remarks[k].Number = m) :
    (xs[i].Remarks[k].Done = true → doneZ xs m = [] ∧ doneC xs m = 6) ∧ (xs[i].Remarks[k].Done = false → doneZ xs m = xs.set i { xs[i] with Remarks := xs[i].Remarks.set k { xs[i].Remarks[k] with Done := true } } ∧ doneC xs m = 0) := by
  have h := doneR_hit hk hbk he
  constructor
  · intro hd
    rw [if_pos hd] at h
    have h2 := doneRun_old hi hb h
    simp only [doneZ, doneC, hv, if_true, h2, and_self]
  · intro hd
    rw [if_neg (by rw [hd]; exact Bool.false_ne_true)] at h
    have h2 := doneRun_new hi hb h
    simp only [doneZ, doneC, hv, if_true, h2, and_self]
theorem done_none {xs : List RunD} {m : Int} (hv : runsB xs = true) (hb : ∀ j (h : j < xs.length), doneR xs[j].Remarks m = none) : doneZ xs m = [] ∧ doneC xs m = 3 := by
  simp only [doneZ, doneC, hv, if_true, doneRun_none hb, and_self]
theorem doneR_len {m : Int} : ∀ {xs : List RemarkD} {l : List RemarkD}, doneR xs m = some (some l) → l.length = xs.length
  | [], l, h => by simp [doneR] at h
  | x :: xs, l, h => by
    simp only [doneR] at h
    split at h
    · split at h
      · simp at h
      · simp at h; subst h; simp
    · cases hd : doneR xs m with
      | none => rw [hd] at h; simp at h
      | some o =>
        cases o with
        | none => rw [hd] at h; simp at h
        | some l' =>
          rw [hd] at h
          simp at h; subst h
          simp [doneR_len hd]
theorem doneRun_small {m b : Int} : ∀ {xs : List RunD} {l : List RunD}, doneRun xs m = some (some l) → (∀ x ∈ xs, x.small b) → l.length = xs.length ∧ ∀ x ∈ l, x.small b
  | [], l, h, _ => by simp [doneRun] at h
  | x :: xs, l, h, hs => by
    simp only [doneRun] at h
    cases hd : doneR x.Remarks m with
    | none =>
      simp only [hd] at h
      cases hd2 : doneRun xs m with
      | none => rw [hd2] at h; simp at h
      | some o =>
        cases o with
        | none => rw [hd2] at h; simp at h
        | some l' =>
          rw [hd2] at h
          simp at h; subst h
          have ih := doneRun_small hd2 (fun y hy => hs y (by simp [hy]))
          refine ⟨by simp [ih.1], fun y hy => ?_⟩
          rcases List.mem_cons.1 hy with rfl | hy
          · exact hs _ (by simp)
          · exact ih.2 y hy
    | some o =>
      cases o with
      | none => simp [hd] at h
      | some r =>
        simp only [hd] at h
        simp at h; subst h
        have h0 := hs x (by simp)
        refine ⟨by simp, fun y hy => ?_⟩
        rcases List.mem_cons.1 hy with rfl | hy
        · simp only [RunD.small, doneR_len hd] at h0 ⊢; exact h0
        · exact hs y (by simp [hy])
theorem doneZ_small {xs : List RunD} {m b : Int} (hs : ∀ x ∈ xs, x.small b) : (doneZ xs m).length ≤ xs.length ∧ ∀ x ∈ doneZ xs m, x.small b := by
  unfold doneZ
  split
  · split
    · rename_i l h; have := doneRun_small h hs; exact ⟨by rw [this.1]; exact Nat.le_refl _, this.2⟩
    · exact ⟨Nat.zero_le _, fun x hx => by simp at hx⟩
  · exact ⟨Nat.zero_le _, fun x hx => by simp at hx⟩
end Go.Proofs.Ytegehdhdlljikaa
