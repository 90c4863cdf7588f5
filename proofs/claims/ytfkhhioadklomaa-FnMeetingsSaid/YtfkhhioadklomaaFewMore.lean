/- What the search for the fewest days finds: a list that covers all, no longer than need be. Plain Lean. Conditions: none. -/
import Derived.Test.YtfkhhioadklomaaFewLaw
namespace Go.Proofs.Ytfkhhioadklomaa
set_option linter.unusedVariables false

theorem vis_cov {F : List Int} {cov : List Int → Bool} {most : Nat} : ∀ (r : Nat) (ch : List Int) (left : Nat), (∀ c l, visR F cov most r ch left = .found c l → cov c = true) ∧ (∀ c l, loopF F cov most r ch left = .found c l → cov c = true)
  | 0, ch, left => by
    refine ⟨fun c l h => ?_, fun c l h => by simp [loopF] at h⟩
    by_cases h0 : left = 0
    · subst h0; rw [visR_full] at h; cases h
    · cases hc : cov ch with
      | true => rw [visR_cov h0 hc] at h; injection h with h1 h2; subst h1; exact hc
      | false =>
        by_cases hm : ch.length = most
        · rw [visR_most h0 hc hm] at h; cases h
        · rw [visR_loop h0 hc hm] at h; simp [loopF] at h
  | r + 1, ch, left => by
    have hloop : ∀ c l left, loopF F cov most (r + 1) ch left = .found c l → cov c = true := fun c l left h => by
      simp only [loopF] at h
      have ih := vis_cov (F := F) (cov := cov) (most := most) r (ch ++ [F.getD (F.length - (r + 1)) 0]) left
      simp only [visR] at ih
      split at h
      · rename_i l2 he
        exact (vis_cov (F := F) (cov := cov) (most := most) r ch l2).2 c l h
      · rename_i c2 l2 he
        injection h with h1 h2; subst h1
        exact ih.1 _ _ he
      · cases h
    refine ⟨fun c l h => ?_, fun c l h => hloop c l left h⟩
    by_cases h0 : left = 0
    · subst h0; rw [visR_full] at h; cases h
    · cases hc : cov ch with
      | true => rw [visR_cov h0 hc] at h; injection h with h1 h2; subst h1; exact hc
      | false =>
        by_cases hm : ch.length = most
        · rw [visR_most h0 hc hm] at h; cases h
        · rw [visR_loop h0 hc hm] at h; exact hloop c l _ h
/-- where at most one more day is asked for and none is found, no day from here on covers all -/
theorem loop_none {F : List Int} {cov : List Int → Bool} : ∀ (r : Nat) (left l : Nat), r ≤ F.length → loopF F cov 1 r [] left = .none l → ∀ i (hi : i < F.length), F.length - r ≤ i → cov [F[i]] = false
  | 0, left, l, hr, h, i, hi, hri => by omega
  | r + 1, left, l, hr, h, i, hi, hri => by
    have hF : F.length - (r + 1) < F.length := by omega
    rw [loopF_eq (i := F.length - (r + 1)) rfl hF] at h
    cases hv : visR F cov 1 r ([] ++ [F[F.length - (r + 1)]]) left with
    | full => rw [hv] at h; cases h
    | found c l2 => rw [hv] at h; cases h
    | none l2 =>
      rw [hv] at h
      by_cases e : i = F.length - (r + 1)
      · subst e
        rw [List.nil_append] at hv
        cases hc : cov [F[F.length - (r + 1)]] with
        | false => rfl
        | true =>
          by_cases h0 : left = 0
          · subst h0; rw [visR_full] at hv; cases hv
          · rw [visR_cov h0 hc] at hv; cases hv
      · exact loop_none r l2 l (by omega) h i hi (by omega)
theorem vis_none {F : List Int} {cov : List Int → Bool} {left l : Nat} (h : visR F cov 1 F.length [] left = .none l) : ∀ i (hi : i < F.length), cov [F[i]] = false := fun i hi => by
  by_cases h0 : left = 0
  · subst h0; rw [visR_full] at h; cases h
  · cases hc : cov [] with
    | true => rw [visR_cov h0 hc] at h; cases h
    | false =>
      rw [visR_loop h0 hc (by simp)] at h
      exact loop_none F.length _ l (Nat.le_refl _) h i hi (by omega)
/-- a list that is found covers all, and is no longer than the most that was tried -/
theorem fewGo_found {F : List Int} {cov : List Int → Bool} : ∀ (k m left : Nat), (fewGo F cov k m left).2 = 0 → cov (fewGo F cov k m left).1 = true ∧ (fewGo F cov k m left).1.length < m + k
  | 0, m, left, h => by simp [fewGo] at h
  | k + 1, m, left, h => by
    simp only [fewGo] at h ⊢
    cases hv : visR F cov m F.length [] left with
    | none l =>
      simp only [hv] at h ⊢
      have ih := fewGo_found k (m + 1) l h
      exact ⟨ih.1, by omega⟩
    | found c l =>
      simp only [hv] at h ⊢
      exact ⟨(vis_cov F.length [] left).1 c l hv, by have := (vis_len F.length [] left (by simp)).1 c l hv; omega⟩
    | full => simp only [hv] at h; exact absurd h (by omega)
theorem fewGo_code {F : List Int} {cov : List Int → Bool} : ∀ (k m left : Nat), (fewGo F cov k m left).2 = 0 ∨ (fewGo F cov k m left).2 = 3 ∨ (fewGo F cov k m left).2 = 5
  | 0, m, left => by simp [fewGo]
  | k + 1, m, left => by
    simp only [fewGo]
    cases hv : visR F cov m F.length [] left with
    | none l => exact fewGo_code k (m + 1) l
    | found c l => exact .inl rfl
    | full => exact .inr (.inr rfl)
/-- where one day covers all, no more than one is found -/
theorem few_one {F : List Int} {cov : List Int → Bool} {k left i : Nat} (hi : i < F.length) (hc : cov [F[i]] = true) (h : (fewGo F cov (k + 1) 0 left).2 = 0) : (fewGo F cov (k + 1) 0 left).1.length ≤ 1 := by
  simp only [fewGo] at h ⊢
  cases hv : visR F cov 0 F.length [] left with
  | full => simp only [hv] at h; exact absurd h (by omega)
  | found c l =>
    simp only [hv]
    have := (vis_len F.length [] left (by simp)).1 c l hv
    omega
  | none l =>
    simp only [hv] at h ⊢
    cases k with
    | zero => simp [fewGo] at h
    | succ k =>
      simp only [fewGo] at h ⊢
      cases hv2 : visR F cov 1 F.length [] l with
      | full => simp only [Nat.zero_add, hv2] at h; exact absurd h (by omega)
      | found c l2 =>
        simp only [Nat.zero_add, hv2]
        exact (vis_len F.length [] l (by simp)).1 c l2 hv2
      | none l2 => have := vis_none hv2 i hi; rw [hc] at this; cases this
end Go.Proofs.Ytfkhhioadklomaa
