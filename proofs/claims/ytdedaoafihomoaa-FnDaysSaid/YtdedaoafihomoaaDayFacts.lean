/- What the law FnDays asks of the four answers, in plain Lean. Conditions: none. -/
import Derived.Test.YtdedaoafihomoaaDayFnLaw
namespace Go.Proofs.Ytdedaoafihomoaa
set_option linter.unusedVariables false

theorem rise_wf {n : Nat} {l : List Int} (hn : n ≤ 1099511627776) (h : RiseTo n l) : ∀ t ∈ l, intWf t := fun t ht => by
  have := h.2 t ht
  unfold intWf; omega
/-- the code of the greedy day is not OK -/
theorem days_bad {xs : List OfferD} {ch : Int} (bud : Int) (h : greedyC xs ch ≠ 0) : confC xs ch = greedyC xs ch ∧ (richAns xs ch bud).1 = [] := by
  cases hv : offersB xs with
  | false => exact ⟨by rw [(conf_bad hv).2, (greedy_bad hv).2], by rw [richAns_bad hv]⟩
  | true =>
    cases hc : inB ch 0 240 with
    | false => exact ⟨by rw [(conf_range hv hc).2, (greedy_range hv hc).2], by rw [richAns_range hv (fun h => by rw [hc] at h; cases h.1)]⟩
    | true => exact absurd (greedy_ok hv hc).2 h
theorem days_good {xs : List OfferD} {ch : Int} (hn : xs.length ≤ 1099511627776) (h : greedyC xs ch = 0) :
    offersB xs = true ∧ confC xs ch = 0 ∧ (greedyZ xs ch).length ≤ xs.length ∧ (∀ t ∈ greedyZ xs ch, intWf t) ∧ dayB xs ch (greedyZ xs ch) = true ∧ askB xs (greedyZ xs ch) = 0 ∧
    (∀ z ∈ confZ xs ch, dayB xs ch [z.1, z.2] = false ∧ (decide (z.1 ∈ greedyZ xs ch) = false ∨ decide (z.2 ∈ greedyZ xs ch) = false) ∧ intWf z.1 ∧ intWf z.2) := by
  rcases greedy_says (xs := xs) (ch := ch) with ⟨h1, _⟩ | ⟨_, hv, hc, hr, hf⟩
  · exact absurd h h1
  · refine ⟨hv, (conf_ok hv hc).2, hr.len, rise_wf hn hr, day_of hv hc hr hf, (worth_says hv hr).1, fun z hz => ?_⟩
    obtain ⟨a, b, rfl, hab, hb, hcl⟩ := confZ_mem hz
    refine ⟨pair_none hab hb hcl, ?_, by unfold intWf; simp only; omega, by unfold intWf; simp only; omega⟩
    have := pair_both hab hb hcl hf
    by_cases h1 : (a : Int) ∈ greedyZ xs ch
    · exact .inr (decide_eq_false (fun h2 => this ⟨h1, h2⟩))
    · exact .inl (decide_eq_false h1)
theorem best_good {xs : List OfferD} {ch bud : Int} (hn : xs.length ≤ 1099511627776) (h : (richAns xs ch bud).2.2 = 0) :
    (richAns xs ch bud).1.length ≤ xs.length ∧ (∀ t ∈ (richAns xs ch bud).1, intWf t) ∧ dayB xs ch (richAns xs ch bud).1 = true ∧ askB xs (richAns xs ch bud).1 = 0 ∧ worthOf xs (richAns xs ch bud).1 = (richAns xs ch bud).2.1 ∧ worthOf xs (greedyZ xs ch) ≤ (richAns xs ch bud).2.1 := by
  rcases richAns_says xs ch bud with ⟨h1, _⟩ | ⟨_, hv, hc, hr, hm, hf, hopt⟩
  · exact absurd h h1
  · refine ⟨hr.len, rise_wf hn hr, day_of hv hc hr hf, (worth_says hv hr).1, by rw [hm]; exact (worth_says hv hr).2, ?_⟩
    rcases greedy_says (xs := xs) (ch := ch) with ⟨_, _, h2⟩ | ⟨_, _, _, hr2, hf2⟩
    · rw [hv, hc] at h2; rcases h2 with h2 | h2 <;> cases h2
    · rw [(worth_says hv hr2).2]; exact hopt _ hr2 hf2
theorem best_bad {xs : List OfferD} {ch bud : Int} (h : (richAns xs ch bud).2.2 ≠ 0) : (richAns xs ch bud).1 = [] ∧ (richAns xs ch bud).2.1 = 0 := by
  rcases richAns_says xs ch bud with ⟨_, h2⟩ | ⟨h1, _⟩
  · exact h2
  · exact absurd h1 h
end Go.Proofs.Ytdedaoafihomoaa
