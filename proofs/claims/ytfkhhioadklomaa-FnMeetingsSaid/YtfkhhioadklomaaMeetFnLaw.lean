/- What FnMeetings asks of the three answers, in plain Lean. Conditions: people are valid and free before day 12. -/
import Derived.Test.YtfkhhioadklomaaFewMore
import Derived.Test.YtfkhhioadklomaaFewMask
namespace Go.Proofs.Ytfkhhioadklomaa
set_option linter.unusedVariables false

theorem need_sub {ps : List PersonD} {ns : List ByteArray} (hp : peopleB ps = true) (hs : ns.Sublist (ps.map PersonD.Name)) : needB ps ns = true := by
  have hl := (people_bd hp).1
  have hpw : (ps.map PersonD.Name).Pairwise (fun a b => keyB a < keyB b) := by rw [List.pairwise_map]; exact people_pw hp
  have hq := hpw.sublist hs
  have hlen : ns.length ≤ ps.length := by have := hs.length_le; simpa using this
  simp only [needB, Bool.and_eq_true, decide_eq_true_eq]
  refine ⟨by omega, all_good (fun i hi => ?_)⟩
  have hh : hasP ps ns[i] = true := hasP_iff.2 (by
    obtain ⟨p, h1, h2⟩ := List.mem_map.1 (hs.subset (List.getElem_mem hi))
    exact ⟨p, h1, h2⟩)
  cases i with
  | zero => exact good_zero (h := hi) hh
  | succ j =>
    refine good_succ (h := hi) hh ?_
    simp only [strGe, Bool.not_eq_false']
    rw [less_key, decide_eq_true_eq]
    exact List.pairwise_iff_getElem.1 hq j (j + 1) (by omega) hi (by omega)
theorem allF_same {ps : List PersonD} (hd : ∀ p ∈ ps, ∀ d ∈ p.Days, 0 ≤ d ∧ d ≤ 11) : allF ps 0 99999 = allF ps 0 20 := by
  unfold allF daysTo
  congr 1
  apply List.filter_congr
  intro d hm
  obtain ⟨p, hp, hdp⟩ := List.mem_flatMap.1 hm
  have := hd p (List.mem_of_mem_take hp) d hdp
  rw [inB_true.2 (show (0 : Int) ≤ d ∧ d ≤ 99999 by omega), inB_true.2 (show (0 : Int) ≤ d ∧ d ≤ 20 by omega)]
theorem full_inv {ps : List PersonD} {ns : List ByteArray} {F : List Int} : ∀ k, k ≤ F.length → ((fullTo ps ns F k).2 = 0 ∨ ((fullTo ps ns F k).1 ∈ F ∧ (fullTo ps ns F k).2 = cntD ps ns (fullTo ps ns F k).1)) ∧ ∀ i (hi : i < F.length), i < k → cntD ps ns F[i] ≤ (fullTo ps ns F k).2
  | 0, _ => ⟨.inl (by simp [fullTo]), fun i hi h => by omega⟩
  | k + 1, h => by
    obtain ⟨h1, h2⟩ := full_inv (ps := ps) (ns := ns) (F := F) k (by omega)
    have hk : k < F.length := by omega
    rw [full_succ hk]
    unfold fullStep
    split
    · rename_i hlt
      refine ⟨.inr ⟨List.getElem_mem hk, rfl⟩, fun i hi hik => ?_⟩
      by_cases e : i = k
      · subst e; exact Nat.le_refl _
      · have := h2 i hi (by omega); simp only; omega
    · rename_i hlt
      refine ⟨h1, fun i hi hik => ?_⟩
      by_cases e : i = k
      · subst e; omega
      · exact h2 i hi (by omega)
theorem covN_one {ps : List PersonD} {ns : List ByteArray} {d : Int} (h : cntD ps ns d = ns.length) : covN ps ns [d] = true := by
  simp only [covN, List.any_cons, List.any_nil, Bool.or_false]
  simp only [cntD, cntTo, List.take_length] at h
  rw [List.all_eq_true]
  exact List.length_filter_eq_length_iff.1 h
/-- what the three answers say -/
structure MeetSays (ps : List PersonD) (ns : List ByteArray) (a : Int) (day : Int) (b full most c : Int) (zs : List Int) : Prop where
  a3 : a = 0 ∨ a = 3
  b3 : b = 0 ∨ b = 3
  c5 : c = 0 ∨ c = 3 ∨ c = 5
  all : a = 0 → onTo ps ns day ps.length = ns.length
  most_ : b = 0 → ((onTo ps ns full ps.length : Nat) : Int) = most ∧ 1 ≤ most
  both : 0 < ns.length → (a = 0 ↔ b = 0 ∧ most = (ns.length : Int))
  cov : c = 0 → ∀ i (hi : i < ns.length), zs.any (fun d => decide (onTo ps [ns[i]] d ps.length = 1)) = true
  few : c = 0 → zs.length ≤ ns.length ∧ (a = 0 → zs.length ≤ 1)
theorem meet_says {ps : List PersonD} {ns : List ByteArray} (hp : peopleB ps = true) (hd : ∀ p ∈ ps, ∀ d ∈ p.Days, 0 ≤ d ∧ d ≤ 11) (hn : needB ps ns = true) :
    MeetSays ps ns (meetC ps ns 0) (meetZ ps ns 0) (fullC ps ns 0 20) (fullD ps ns 0 20) (fullM ps ns 0 20) (fewC ps ns 0 20 5000) (fewZ ps ns 0 20 5000) := by
  have hok : okP ps ns = true := by simp [okP, hp, hn]
  have hr : rangeB 0 20 = true := by decide
  have hr0 : inB 0 0 99999 = true := by decide
  have hfew := few_ok (ps := ps) (ns := ns) (fr := 0) (un := 20) (bud := 5000) hok (by decide)
  have hsame := allF_same hd
  have hcode : ∀ F : List Int, (fewGo F (covN ps ns) (ns.length + 1) 0 5000).2 = 0 ∨ (fewGo F (covN ps ns) (ns.length + 1) 0 5000).2 = 3 ∨ (fewGo F (covN ps ns) (ns.length + 1) 0 5000).2 = 5 := fun F => fewGo_code _ _ _
  have hE : fullE ps ns 0 20 = fullTo ps ns (allF ps 0 20) (allF ps 0 20).length := rfl
  have hinv := full_inv (ps := ps) (ns := ns) (F := allF ps 0 20) (allF ps 0 20).length (Nat.le_refl _)
  rw [← hE] at hinv
  have hall : ∀ d ∈ allF ps 0 20, cntD ps ns d ≤ (fullE ps ns 0 20).2 := fun d hm => by
    obtain ⟨i, hi, rfl⟩ := List.getElem_of_mem hm
    exact hinv.2 i hi hi
  have hcnt : ∀ d, cntD ps ns d = onTo ps ns d ps.length := fun d => count_same d hp hn
  -- the meeting day
  have hmeet : (meetC ps ns 0 = 0 ∧ meetZ ps ns 0 ∈ allF ps 0 20 ∧ cntD ps ns (meetZ ps ns 0) = ns.length) ∨ (meetC ps ns 0 = 3 ∧ ∀ d ∈ allF ps 0 20, cntD ps ns d ≠ ns.length) := by
    cases hf : meetF ps ns 0 with
    | some d =>
      have h1 := meet_some hok hr0 hf
      refine .inl ⟨h1.2, ?_, ?_⟩
      · rw [h1.1, ← hsame]; exact List.mem_of_find?_eq_some hf
      · rw [h1.1]; have := List.find?_some hf; simpa using this
    | none =>
      have h1 := meet_none hok hr0 hf
      refine .inr ⟨h1.2, fun d hm => ?_⟩
      have := List.find?_eq_none.1 hf d (by rw [hsame]; exact hm)
      simpa using this
  -- the fullest day
  have hfull : (fullC ps ns 0 20 = 0 ∧ fullD ps ns 0 20 ∈ allF ps 0 20 ∧ fullM ps ns 0 20 = (cntD ps ns (fullD ps ns 0 20) : Nat) ∧ 1 ≤ fullM ps ns 0 20 ∧ ∀ d ∈ allF ps 0 20, ((cntD ps ns d : Nat) : Int) ≤ fullM ps ns 0 20) ∨ (fullC ps ns 0 20 = 3 ∧ ∀ d ∈ allF ps 0 20, cntD ps ns d = 0) := by
    obtain ⟨b, m, hbm⟩ : ∃ b m, fullE ps ns 0 20 = (b, m) := ⟨_, _, rfl⟩
    rw [hbm] at hinv hall
    simp only at hinv hall
    by_cases hm : m = 0
    · subst hm
      exact .inr ⟨(full_none hok hr hbm).2.2, fun d hd => by have := hall d hd; omega⟩
    · obtain ⟨h1, h2, h3⟩ := full_some hok hr hbm hm
      have h4 := hinv.1.resolve_left hm
      refine .inl ⟨h3, by rw [h1]; exact h4.1, by rw [h2, h1, ← h4.2], by rw [h2]; omega, fun d hd => by rw [h2]; have := hall d hd; omega⟩
  have hle : ∀ d, cntD ps ns d ≤ ns.length := fun d => cnt_le ps ns d ns.length
  refine ⟨?_, ?_, ?_, ?_, ?_, ?_, ?_, ?_⟩
  · rcases hmeet with h | h
    · exact .inl h.1
    · exact .inr h.1
  · rcases hfull with h | h
    · exact .inl h.1
    · exact .inr h.1
  · rw [hfew.2]; exact hcode _
  · intro h
    rcases hmeet with h1 | h1
    · rw [← hcnt]; exact h1.2.2
    · omega
  · intro h
    rcases hfull with h1 | h1
    · exact ⟨by rw [← hcnt]; exact h1.2.2.1.symm, h1.2.2.2.1⟩
    · omega
  · intro h0
    constructor
    · intro h
      rcases hmeet with h1 | h1
      · rcases hfull with h2 | h2
        · refine ⟨h2.1, ?_⟩
          have h3 := h2.2.2.2.2 _ h1.2.1
          have h4 := hle (fullD ps ns 0 20)
          rw [h1.2.2] at h3
          have h5 := h2.2.2.1
          omega
        · have := h2.2 _ h1.2.1
          omega
      · omega
    · rintro ⟨h, hm⟩
      rcases hfull with h1 | h1
      · rcases hmeet with h2 | h2
        · exact h2.1
        · have := h2.2 _ h1.2.1
          have h3 := h1.2.2.1
          omega
      · omega
  · intro h i hi
    rw [hfew.2] at h
    rw [hfew.1]
    have h1 := (fewGo_found _ _ _ h).1
    rw [covN, List.all_eq_true] at h1
    have h2 := h1 _ (List.getElem_mem hi)
    rw [List.any_eq_true] at h2 ⊢
    obtain ⟨d, hdm, hf⟩ := h2
    exact ⟨d, hdm, by rw [on_one d hp hn (List.getElem_mem hi), if_pos hf]; rfl⟩
  · intro h
    rw [hfew.2] at h
    rw [hfew.1]
    have h1 := (fewGo_found _ _ _ h).2
    refine ⟨by simp only [few]; omega, fun ha => ?_⟩
    rcases hmeet with h2 | h2
    · obtain ⟨i, hi, e⟩ := List.getElem_of_mem h2.2.1
      exact few_one (F := allF ps 0 20) (cov := covN ps ns) (i := i) hi (by rw [e]; exact covN_one h2.2.2) h
    · omega
end Go.Proofs.Ytfkhhioadklomaa
