/- Days on which people are free, and how many: plain lists. Conditions: told with each. -/
import Derived.Test.YtfkhhioadklomaaPeople
import Derived.Test.YtfkhhioadklomaaWhoLaw
import Derived.Test.YtfkhhioadklomaaBookLaw
import Derived.Test.YtfkhhioadklomaaLastRunFns
namespace Go.Proofs.Ytfkhhioadklomaa
set_option linter.unusedVariables false
open Go.RowKit

theorem people_bd {ps : List PersonD} (h : peopleB ps = true) : ps.length ≤ 12 ∧ ∀ x ∈ ps, x.Days.length ≤ 32 ∧ nameB x.Name = true ∧ risesB x.Days 0 99999 = true := by
  simp only [peopleB, Bool.and_eq_true, decide_eq_true_eq] at h
  refine ⟨h.1, fun x hx => ?_⟩
  have := allGood_ok h.2 x hx
  simp only [PersonD.okB, Bool.and_eq_true, decide_eq_true_eq] at this
  exact ⟨this.1.2, this.1.1, this.2⟩
theorem step_pw {α : Type} {ok : α → Bool} {key : α → List UInt8} {ge : α → α → Bool} {xs : List α} (h : allGood ok ge xs = true) (hg : ∀ x y, ge x y = false → key x < key y) : xs.Pairwise (fun a b => key a < key b) := by
  rw [List.pairwise_iff_getElem]
  have step : ∀ i d (hd : i + d + 1 < xs.length), key (xs[i]'(by omega)) < key xs[i + d + 1] := fun i d => by
    induction d with
    | zero => intro hd; exact hg _ _ (allGood_lt h hd)
    | succ d ih => intro hd; exact List.lt_trans (ih (by omega)) (hg _ _ (allGood_lt h (i := i + d + 1) hd))
  intro i j hi hj hij
  have := step i (j - i - 1) (by omega)
  have e : i + (j - i - 1) + 1 = j := by omega
  simpa only [e] using this
theorem people_pw {ps : List PersonD} (h : peopleB ps = true) : ps.Pairwise (fun a b => keyB a.Name < keyB b.Name) := by
  simp only [peopleB, Bool.and_eq_true] at h
  exact step_pw (key := fun x : PersonD => keyB x.Name) h.2 (fun x y hxy => by
    simp only [PersonD.geB, Bool.not_eq_false'] at hxy
    rw [less_key, decide_eq_true_eq] at hxy; exact hxy)
def hasP (ps : List PersonD) (nm : ByteArray) : Bool := ps.any fun p => p.Name.toList == nm.toList
def needB (ps : List PersonD) (ns : List ByteArray) : Bool := decide (ns.length ≤ 12) && allGood (hasP ps) strGe ns
theorem names_pw {ok : ByteArray → Bool} {ns : List ByteArray} (h : allGood ok strGe ns = true) : ns.Pairwise (fun a b => keyB a < keyB b) :=
  step_pw (key := keyB) h (fun x y hxy => by
    simp only [strGe, Bool.not_eq_false'] at hxy
    rw [less_key, decide_eq_true_eq] at hxy; exact hxy)
theorem hasP_iff {ps : List PersonD} {nm : ByteArray} : hasP ps nm = true ↔ ∃ p ∈ ps, p.Name = nm := by
  simp only [hasP, List.any_eq_true, eq_key, decide_eq_true_eq]
  exact ⟨fun ⟨p, h1, h2⟩ => ⟨p, h1, key_inj h2⟩, fun ⟨p, h1, h2⟩ => ⟨p, h1, by rw [h2]⟩⟩
theorem allGood_more {ok ok' : ByteArray → Bool} {ge : ByteArray → ByteArray → Bool} {xs : List ByteArray} (h : allGood ok ge xs = true) (h' : ∀ x ∈ xs, ok' x = true) : allGood ok' ge xs = true :=
  all_good (fun i hi => by
    cases i with
    | zero => exact good_zero (h := hi) (h' _ (List.getElem_mem hi))
    | succ j => exact good_succ (h := hi) (h' _ (List.getElem_mem hi)) (allGood_lt h hi))
theorem spec_need {ps : List PersonD} {ns : List ByteArray} (hp : peopleB ps = true) : ((cuesB ns && decide (ns.length ≤ 12)) && ns.all (hasP ps)) = needB ps ns := by
  rw [Bool.eq_iff_iff]
  simp only [needB, cuesB, Bool.and_eq_true, List.all_eq_true]
  constructor
  · rintro ⟨⟨h1, h2⟩, h3⟩
    exact ⟨h2, allGood_more h1 h3⟩
  · rintro ⟨h1, h2⟩
    refine ⟨⟨allGood_more h2 (fun x hx => ?_), h1⟩, fun x hx => allGood_ok h2 x hx⟩
    obtain ⟨p, hpm, rfl⟩ := hasP_iff.1 (allGood_ok h2 x hx)
    exact ((people_bd hp).2 p hpm).2.1
/-- whether somebody of that name is free on a day -/
def freeN : List PersonD → ByteArray → Int → Bool
  | [], _, _ => false
  | p :: ps, nm, d => if (p.Name.toList == nm.toList) = true then hasB p.Days d else freeN ps nm d
theorem freeN_at : ∀ {ps : List PersonD} {nm : ByteArray} {d : Int} (k : Nat) (hk : k < ps.length), (∀ i (h : i < ps.length), i < k → (ps[i].Name.toList == nm.toList) = false) → (ps[k].Name.toList == nm.toList) = true → freeN ps nm d = hasB ps[k].Days d
  | [], _, _, k, hk, _, _ => by simp at hk
  | p :: ps, nm, d, 0, hk, _, h => by
    simp only [List.getElem_cons_zero] at h ⊢
    simp only [freeN, h, if_true]
  | p :: ps, nm, d, k + 1, hk, hb, h => by
    have h0 := hb 0 (by simp) (by omega)
    simp only [List.getElem_cons_zero] at h0
    have ih := freeN_at (ps := ps) (nm := nm) (d := d) k (by simpa using hk) (fun i hi hik => by have := hb (i + 1) (by simpa using hi) (by omega); simpa using this) (by simpa using h)
    simp only [freeN, h0, Bool.false_eq_true, if_false, ih, List.getElem_cons_succ]
theorem freeN_none : ∀ {ps : List PersonD} {nm : ByteArray} {d : Int}, (∀ i (h : i < ps.length), (ps[i].Name.toList == nm.toList) = false) → freeN ps nm d = false
  | [], _, _, _ => rfl
  | p :: ps, nm, d, hb => by
    have h0 := hb 0 (by simp)
    simp only [List.getElem_cons_zero] at h0
    have ih := freeN_none (ps := ps) (nm := nm) (d := d) (fun i hi => by have := hb (i + 1) (by simpa using hi); simpa using this)
    simp only [freeN, h0, Bool.false_eq_true, if_false, ih]
theorem freeN_iff : ∀ {ps : List PersonD} {nm : ByteArray} {d : Int}, ps.Pairwise (fun a b => keyB a.Name < keyB b.Name) → (freeN ps nm d = true ↔ ∃ p ∈ ps, p.Name = nm ∧ hasB p.Days d = true)
  | [], _, _, _ => by simp [freeN]
  | p :: ps, nm, d, h => by
    have h' := List.pairwise_cons.1 h
    simp only [freeN, eq_key]
    by_cases e : keyB p.Name = keyB nm
    · have e' := key_inj e
      subst e'
      rw [decide_eq_true rfl, if_pos rfl]
      constructor
      · intro hh; exact ⟨p, List.mem_cons_self, rfl, hh⟩
      · rintro ⟨q, hq, hn, hh⟩
        rcases List.mem_cons.1 hq with rfl | hq
        · exact hh
        · have := h'.1 q hq
          rw [hn] at this
          exact absurd this (List.lt_irrefl _)
    · rw [decide_eq_false e, if_neg (by simp), freeN_iff h'.2]
      constructor
      · rintro ⟨q, hq, r⟩; exact ⟨q, List.mem_cons_of_mem _ hq, r⟩
      · rintro ⟨q, hq, hn, hh⟩
        rcases List.mem_cons.1 hq with rfl | hq
        · exact absurd (by rw [hn]) e
        · exact ⟨q, hq, hn, hh⟩
def cntTo (ps : List PersonD) (ns : List ByteArray) (d : Int) (i : Nat) : Nat := ((ns.take i).filter (fun x => freeN ps x d)).length
def onTo (ps : List PersonD) (ns : List ByteArray) (d : Int) (i : Nat) : Nat := ((ps.take i).filter (fun p => hasStr p.Name ns && hasB p.Days d)).length
theorem cnt_succ {ps : List PersonD} {ns : List ByteArray} {d : Int} {i : Nat} (h : i < ns.length) : cntTo ps ns d (i + 1) = cntTo ps ns d i + (if freeN ps ns[i] d = true then 1 else 0) := by
  unfold cntTo
  rw [List.take_succ_eq_append_getElem h, List.filter_append, List.length_append]
  cases hf : freeN ps ns[i] d <;> simp [hf]
theorem on_succ {ps : List PersonD} {ns : List ByteArray} {d : Int} {i : Nat} (h : i < ps.length) : onTo ps ns d (i + 1) = onTo ps ns d i + (if (hasStr ps[i].Name ns && hasB ps[i].Days d) = true then 1 else 0) := by
  unfold onTo
  rw [List.take_succ_eq_append_getElem h, List.filter_append, List.length_append]
  cases hf : (hasStr ps[i].Name ns && hasB ps[i].Days d) <;> simp [hf]
theorem cnt_le (ps : List PersonD) (ns : List ByteArray) (d : Int) (i : Nat) : cntTo ps ns d i ≤ i := by
  unfold cntTo
  have := List.length_filter_le (fun x => freeN ps x d) (ns.take i)
  rw [List.length_take] at this; omega
theorem on_le (ps : List PersonD) (ns : List ByteArray) (d : Int) (i : Nat) : onTo ps ns d i ≤ i := by
  unfold onTo
  have := List.length_filter_le (fun p : PersonD => hasStr p.Name ns && hasB p.Days d) (ps.take i)
  rw [List.length_take] at this; omega
theorem hasStr_iff {nm : ByteArray} {ns : List ByteArray} : hasStr nm ns = true ↔ nm ∈ ns := by
  simp only [hasStr, List.any_eq_true, eq_key, decide_eq_true_eq]
  exact ⟨fun ⟨x, h1, h2⟩ => key_inj h2 ▸ h1, fun h => ⟨nm, h, rfl⟩⟩
/-- counted by names and counted by people -/
theorem count_same {ps : List PersonD} {ns : List ByteArray} (d : Int) (hp : peopleB ps = true) (hn : needB ps ns = true) : cntTo ps ns d ns.length = onTo ps ns d ps.length := by
  simp only [needB, Bool.and_eq_true] at hn
  have h1 := names_pw hn.2
  have h2 := people_pw hp
  unfold cntTo onTo
  rw [List.take_length, List.take_length]
  have key : (ns.filter (fun x => freeN ps x d)).map keyB = (ps.filter (fun p => hasStr p.Name ns && hasB p.Days d)).map (fun p => keyB p.Name) := by
    refine pw_unique ?_ ?_ (fun x => ?_)
    · rw [List.pairwise_map]; exact h1.filter _
    · rw [List.pairwise_map]; exact h2.filter _
    · simp only [List.mem_map, List.mem_filter, Bool.and_eq_true, freeN_iff h2, hasStr_iff]
      constructor
      · rintro ⟨a, ⟨ha, p, hpm, rfl, hh⟩, rfl⟩; exact ⟨p, ⟨hpm, ha, hh⟩, rfl⟩
      · rintro ⟨p, ⟨hpm, ha, hh⟩, rfl⟩; exact ⟨p.Name, ⟨ha, p, hpm, rfl, hh⟩, rfl⟩
  have := congrArg List.length key
  simpa using this
def daysTo (ps : List PersonD) (fr un : Int) (i : Nat) : List Int := ((ps.take i).flatMap (fun p => p.Days)).filter (fun d => inB d fr un)
theorem days_succ {ps : List PersonD} {fr un : Int} {i : Nat} (h : i < ps.length) : daysTo ps fr un (i + 1) = daysTo ps fr un i ++ (ps[i].Days.take ps[i].Days.length).filter (fun d => inB d fr un) := by
  unfold daysTo
  rw [List.take_succ_eq_append_getElem h, List.flatMap_append, List.filter_append, List.take_length]
  simp
theorem filt_yes {ds : List Int} {fr un : Int} {k : Nat} (h : k < ds.length) (hf : inB ds[k] fr un = true) (D : List Int) : D ++ (ds.take (k + 1)).filter (fun d => inB d fr un) = (D ++ (ds.take k).filter (fun d => inB d fr un)) ++ [ds[k]] := by
  rw [List.take_succ_eq_append_getElem h, List.filter_append]
  simp [hf]
theorem filt_no {ds : List Int} {fr un : Int} {k : Nat} (h : k < ds.length) (hf : inB ds[k] fr un = false) (D : List Int) : D ++ (ds.take (k + 1)).filter (fun d => inB d fr un) = D ++ (ds.take k).filter (fun d => inB d fr un) := by
  rw [List.take_succ_eq_append_getElem h, List.filter_append]
  simp [hf]
theorem fold_app (D : List Int) (x : Int) : (D ++ [x]).foldl insK [] = insK (D.foldl insK []) x := by rw [List.foldl_append]; rfl
def allF (ps : List PersonD) (fr un : Int) : List Int := (daysTo ps fr un ps.length).foldl insK []
theorem insK_iff : ∀ {xs : List Int} {k y : Int}, y ∈ insK xs k ↔ y = k ∨ y ∈ xs
  | [], k, y => by simp [insK]
  | x :: xs, k, y => by
    simp only [insK]
    split
    · split
      · simp
      · rename_i h1 h2
        obtain rfl : k = x := by omega
        simp
    · simp only [List.mem_cons, insK_iff]
      constructor
      · rintro (h | h | h)
        · exact .inr (.inl h)
        · exact .inl h
        · exact .inr (.inr h)
      · rintro (h | h | h)
        · exact .inr (.inl h)
        · exact .inl h
        · exact .inr (.inr h)
theorem insK_lt : ∀ {xs : List Int} {k : Int}, xs.Pairwise (· < ·) → (insK xs k).Pairwise (· < ·)
  | [], k, _ => by simp [insK]
  | x :: xs, k, h => by
    have h' := List.pairwise_cons.1 h
    simp only [insK]
    split
    · split
      · refine List.pairwise_cons.2 ⟨fun y hy => ?_, h⟩
        rcases List.mem_cons.1 hy with rfl | hy
        · assumption
        · have := h'.1 y hy; omega
      · exact h
    · refine List.pairwise_cons.2 ⟨fun y hy => ?_, insK_lt h'.2⟩
      rcases insK_iff.1 hy with rfl | hy
      · omega
      · exact h'.1 y hy
theorem foldI : ∀ (zs ys : List Int), ys.Pairwise (· < ·) → (zs.foldl insK ys).Pairwise (· < ·) ∧ ∀ y, y ∈ zs.foldl insK ys ↔ y ∈ ys ∨ y ∈ zs
  | [], ys, h => by simpa using h
  | z :: zs, ys, h => by
    obtain ⟨h1, h2⟩ := foldI zs (insK ys z) (insK_lt h)
    refine ⟨h1, fun y => ?_⟩
    rw [List.foldl_cons, h2, insK_iff, List.mem_cons]
    constructor
    · rintro ((h | h) | h)
      · exact .inr (.inl h)
      · exact .inl h
      · exact .inr (.inr h)
    · rintro (h | h | h)
      · exact .inl (.inr h)
      · exact .inl (.inl h)
      · exact .inr h
theorem pw_uniqueI : ∀ {l1 l2 : List Int}, l1.Pairwise (· < ·) → l2.Pairwise (· < ·) → (∀ x, x ∈ l1 ↔ x ∈ l2) → l1 = l2
  | [], [], _, _, _ => rfl
  | [], b :: t, _, _, h => by have := (h b).2 List.mem_cons_self; cases this
  | a :: s, [], _, _, h => by have := (h a).1 List.mem_cons_self; cases this
  | a :: s, b :: t, h1, h2, h => by
    have p1 := List.pairwise_cons.1 h1
    have p2 := List.pairwise_cons.1 h2
    have hab : a = b := by
      rcases List.mem_cons.1 ((h a).1 List.mem_cons_self) with e | e
      · exact e
      · rcases List.mem_cons.1 ((h b).2 List.mem_cons_self) with e2 | e2
        · exact e2.symm
        · have := p1.1 b e2; have := p2.1 a e; omega
    subst hab
    rw [pw_uniqueI p1.2 p2.2 (fun x => ?_)]
    constructor
    · intro hx
      rcases List.mem_cons.1 ((h x).1 (List.mem_cons_of_mem _ hx)) with e | e
      · subst e; have := p1.1 x hx; omega
      · exact e
    · intro hx
      rcases List.mem_cons.1 ((h x).2 (List.mem_cons_of_mem _ hx)) with e | e
      · subst e; have := p2.1 x hx; omega
      · exact e
theorem compact_toI (zs : List Int) (hz : zs.Pairwise (· ≤ ·)) : ∀ m, m ≤ zs.length → (Lib.compactUpTo zs.toArray m).Pairwise (· < ·) ∧ (∀ y, y ∈ Lib.compactUpTo zs.toArray m ↔ y ∈ zs.take m)
  | 0, _ => by simp [Lib.compactUpTo]
  | m + 1, hm => by
    obtain ⟨h1, h2⟩ := compact_toI zs hz m (by omega)
    have hmx : m < zs.length := by omega
    have hg : zs.toArray[m]! = zs[m] := by simp [hmx]
    rw [Lib.compactUpTo_succ, List.take_succ_eq_append_getElem hmx, hg]
    cases hk : Lib.keeps zs.toArray m
    · simp only [Bool.false_eq_true, if_false, List.append_nil]
      refine ⟨h1, fun y => ?_⟩
      rw [h2, List.mem_append, List.mem_singleton]
      constructor
      · exact .inl
      · rintro (h | rfl)
        · exact h
        · simp only [Lib.keeps, decide_eq_false_iff_not, not_or, ne_eq, Decidable.not_not] at hk
          have h0 : m ≠ 0 := hk.1
          have hg2 : zs.toArray[m - 1]! = zs[m - 1] := by simp [show m - 1 < zs.length by omega]
          rw [hg, hg2] at hk
          rw [hk.2]
          exact List.mem_take_iff_getElem.2 ⟨m - 1, by omega, rfl⟩
    · simp only [if_true]
      refine ⟨?_, fun y => by rw [List.mem_append, List.mem_append, h2]⟩
      rw [List.pairwise_append]
      refine ⟨h1, by simp, fun a ha b hb => ?_⟩
      simp only [List.mem_singleton] at hb
      subst hb
      obtain ⟨i, hi, rfl⟩ := List.mem_take_iff_getElem.1 ((h2 a).1 ha)
      have him : i < m := by omega
      have hle : ∀ (x y : Nat) (hx : x < zs.length) (hy : y < zs.length), x ≤ y → zs[x] ≤ zs[y] := fun x y hx hy hxy => by
        rcases Nat.lt_or_ge x y with h | h
        · exact List.pairwise_iff_getElem.1 hz x y hx hy h
        · obtain rfl : x = y := by omega
          exact Int.le_refl _
      have h3 := hle i (m - 1) (by omega) (by omega) (by omega)
      have h4 := hle (m - 1) m (by omega) hmx (by omega)
      simp only [Lib.keeps, decide_eq_true_eq] at hk
      have hg2 : zs.toArray[m - 1]! = zs[m - 1] := by simp [show m - 1 < zs.length by omega]
      rw [hg, hg2] at hk
      have hne : zs[m] ≠ zs[m - 1] := by
        rcases hk with h | h
        · omega
        · exact h
      omega
theorem days_same (zs : List Int) : Lib.compact (sortI zs) = zs.foldl insK [] := by
  obtain ⟨h1, h2⟩ := foldI zs [] List.Pairwise.nil
  obtain ⟨h3, h4⟩ := compact_toI (sortI zs) (sortI_le _) (sortI zs).length (Nat.le_refl _)
  refine pw_uniqueI h3 h1 (fun x => ?_)
  rw [show Lib.compact (sortI zs) = Lib.compactUpTo (sortI zs).toArray (sortI zs).length from rfl, h4, List.take_length, (sortI_perm _).mem_iff, h2]
  simp
theorem allF_in {ps : List PersonD} {fr un : Int} : ∀ d ∈ allF ps fr un, fr ≤ d ∧ d ≤ un := fun d hd => by
  rcases ((foldI (daysTo ps fr un ps.length) [] List.Pairwise.nil).2 d).1 hd with h | h
  · cases h
  · simp only [daysTo, List.mem_filter] at h
    exact inB_true.1 h.2
theorem days_len {ps : List PersonD} (hp : peopleB ps = true) (fr un : Int) : ∀ i, i ≤ ps.length → (daysTo ps fr un i).length ≤ 32 * i
  | 0, _ => by simp [daysTo]
  | i + 1, h => by
    have ih := days_len hp fr un i (by omega)
    have hd := ((people_bd hp).2 _ (List.getElem_mem (show i < ps.length by omega))).1
    have hf := List.length_filter_le (fun d => inB d fr un) (ps[i].Days.take ps[i].Days.length)
    rw [days_succ (by omega), List.length_append]
    rw [List.length_take] at hf
    omega

end Go.Proofs.Ytfkhhioadklomaa
