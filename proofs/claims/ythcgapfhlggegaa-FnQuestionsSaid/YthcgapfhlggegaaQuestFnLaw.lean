/- Questions that are found: they rise, fit into the time, their priorities are the sum told; no list that fits has a greater one. Plain Lean. Conditions: none. -/
import Derived.Test.YthcgapfhlggegaaQuestLaw
import Derived.Test.YthcgapfhlggegaaHuntMore
namespace Go.Proofs.Ythcgapfhlggegaa
set_option linter.unusedVariables false

def lenQ (xs : List QuestionD) (p : Int) : Int := (questAt xs p.toNat).Length
def priQ (xs : List QuestionD) (p : Int) : Int := (questAt xs p.toNat).Priority
theorem lenQ_at {xs : List QuestionD} {j : Nat} (h : j < xs.length) : lenQ xs (j : Int) = xs[j].Length := by simp only [lenQ, Int.toNat_natCast]; rw [questAt_eq h]
theorem priQ_at {xs : List QuestionD} {j : Nat} (h : j < xs.length) : priQ xs (j : Int) = xs[j].Priority := by simp only [priQ, Int.toNat_natCast]; rw [questAt_eq h]
theorem from_le_drop {xs : List QuestionD} (hv : ∀ x ∈ xs, 0 ≤ x.Priority) {os : List Int} (hnd : os.Nodup) (hos : ∀ t ∈ os, 0 ≤ t ∧ t < (xs.length : Int)) : ∀ (r i : Nat), i + r = xs.length → sumFrom (priQ xs) os i ≤ sumPri (xs.drop i)
  | 0, i, hi => by
    obtain rfl : i = xs.length := by omega
    rw [sumFrom_end _ _ _ (fun t ht => (hos t ht).2), List.drop_length]; simp [sumPri]
  | r + 1, i, hi => by
    have hlt : i < xs.length := by omega
    have ih := from_le_drop hv hnd hos r (i + 1) (by omega)
    have h0 := hv _ (List.getElem_mem hlt)
    rw [sumFrom_step _ _ _ hnd, sumPri_drop xs i hlt, priQ_at hlt]
    split <;> omega
theorem from_nonneg {xs : List QuestionD} (f : Int → Int) (hf : ∀ i : Nat, i < xs.length → 0 ≤ f i) {os : List Int} (hos : ∀ t ∈ os, 0 ≤ t ∧ t < (xs.length : Int)) (i : Nat) : 0 ≤ sumFrom f os i := by
  have key : ∀ l : List Int, (∀ t ∈ l, 0 ≤ f t) → 0 ≤ sumF f l := by
    intro l
    induction l with
    | nil => intro _; simp [sumF]
    | cons t l ih =>
      intro h
      have h1 := ih (fun u hu => h u (List.mem_cons_of_mem _ hu))
      have h2 := h t List.mem_cons_self
      simp only [sumF, List.map_cons, List.sum_cons] at h1 ⊢
      omega
  refine key _ (fun t ht => ?_)
  have h1 := hos t (List.mem_filter.1 ht).1
  obtain ⟨j, rfl⟩ := Int.eq_ofNat_of_zero_le h1.1
  exact hf j (by omega)
/-- no list that fits is better -/
theorem quest_best_go (xs : List QuestionD) (tm : Int) (hv : ∀ x ∈ xs, 0 ≤ x.Length ∧ 0 ≤ x.Priority) {os : List Int} (hnd : os.Nodup) (hos : ∀ t ∈ os, 0 ≤ t ∧ t < (xs.length : Int)) :
    ∀ (r i : Nat) (ch : List Int) (a b : Int) (g : Got), i + r = xs.length → b + sumFrom (lenQ xs) os i ≤ tm → (hunt (questHunt xs tm) r ch a b g).full = false → a + sumFrom (priQ xs) os i ≤ (hunt (questHunt xs tm) r ch a b g).most
  | 0, i, ch, a, b, g, hi, hb, hf => by
    obtain rfl : i = xs.length := by omega
    rw [sumFrom_end _ _ _ (fun t ht => (hos t ht).2)]
    simp only [hunt, questHunt]
    by_cases h : g.most < a
    · simp [h]
    · simp [h]; omega
  | r + 1, i, ch, a, b, g, hi, hb, hf => by
    have hlt : i < xs.length := by omega
    have hI : (questHunt xs tm).n - (r + 1) = i := by simp only [questHunt]; omega
    have hml : ∀ a b m, (questHunt xs tm).leaf a b m = true → m ≤ a := fun a b m h => by simp only [questHunt, decide_eq_true_eq] at h; omega
    rw [hunt_eq hI] at hf ⊢
    have hx := hv _ (List.getElem_mem hlt)
    have hfl := from_le_drop (fun x hx => (hv x hx).2) hnd hos (r + 1) i hi
    have hf1 : (hunt1 (questHunt xs tm) r i ch a b g).full = false := by
      cases h : (hunt1 (questHunt xs tm) r i ch a b g).full with
      | false => rfl
      | true => rw [hunt2_full h] at hf; cases hf
    rw [sumFrom_step _ _ _ hnd] at hb hfl ⊢
    rw [priQ_at hlt] at hfl ⊢
    rw [lenQ_at hlt] at hb
    by_cases hm : (i : Int) ∈ os
    · rw [if_pos hm] at hb hfl ⊢
      have hn := from_nonneg (xs := xs) (lenQ xs) (fun j hj => by rw [lenQ_at hj]; exact (hv _ (List.getElem_mem hj)).1) hos (i + 1)
      refine Int.le_trans ?_ (hunt2_mono _ hml r i ch a b _)
      by_cases ht : (questHunt xs tm).takes i a b ch g.most = true
      · cases h : g.may ((questHunt xs tm).takes i a b ch g.most) with
        | false => rw [hunt1_no h, not_may h ht] at hf1; cases hf1
        | true =>
          rw [hunt1_yes h] at hf1 ⊢
          have h1 := quest_best_go xs tm hv hnd hos r (i + 1) _ _ _ g.pay (by omega) (by simp only [questHunt]; rw [questAt_eq hlt]; omega) hf1
          refine Int.le_trans ?_ h1
          simp only [questHunt]; rw [questAt_eq hlt]; omega
      · have hge : a + sumPri (xs.drop i) ≤ g.most := by
          simp only [questHunt, Bool.and_eq_true, decide_eq_true_eq, not_and, questAt_eq hlt] at ht
          have := ht (by omega)
          omega
        have hlow : g.most ≤ (hunt1 (questHunt xs tm) r i ch a b g).most := by
          rw [hunt1_no (by simp only [Got.may]; simp only [Bool.not_eq_true] at ht; rw [ht]; rfl)]; exact Int.le_refl _
        omega
    · rw [if_neg hm] at hb hfl ⊢
      have hfl2 := from_le_drop (fun x hx => (hv x hx).2) hnd hos r (i + 1) (by omega)
      generalize hunt1 (questHunt xs tm) r i ch a b g = g1 at hf hf1 ⊢
      by_cases ht : (questHunt xs tm).leaves i a b g1.most = true
      · cases h : g1.may ((questHunt xs tm).leaves i a b g1.most) with
        | false => rw [hunt2_no h, not_may h ht] at hf; cases hf
        | true =>
          rw [hunt2_yes h] at hf ⊢
          have h1 := quest_best_go xs tm hv hnd hos r (i + 1) ch a b g1.pay (by omega) (by omega) hf
          omega
      · simp only [questHunt, decide_eq_true_eq] at ht
        have := hunt2_mono _ hml r i ch a b g1
        simp only [questHunt] at this ⊢
        omega
theorem quest_best {xs : List QuestionD} {tm bud : Int} (hv : questsB xs = true) {os : List Int} (hnd : os.Nodup) (hos : ∀ t ∈ os, 0 ≤ t ∧ t < (xs.length : Int)) (hfit : sumF (lenQ xs) os ≤ tm) (hf : (questGot xs tm bud).full = false) :
    sumF (priQ xs) os ≤ (questGot xs tm bud).most := by
  have h := quest_best_go xs tm (fun x hx => by have := (questsB_ok hv).2 x hx; omega) hnd hos xs.length 0 [] 0 0 ⟨[], -1, bud.toNat, false⟩ (by omega)
    (by rw [sumFrom_zero _ _ (fun t ht => (hos t ht).1)]; omega) hf
  rw [sumFrom_zero _ _ (fun t ht => (hos t ht).1)] at h
  simp only [questGot]
  omega
/-- what is kept of questions that are found -/
def QuestP (xs : List QuestionD) (tm : Int) (l : List Int) (m : Int) : Prop := m < 0 ∨ (RiseTo xs.length l ∧ m = sumF (priQ xs) l ∧ sumF (lenQ xs) l ≤ tm)
theorem questGot_keeps (xs : List QuestionD) (tm bud : Int) (h0 : 0 ≤ tm) : QuestP xs tm (questGot xs tm bud).best (questGot xs tm bud).most := by
  have h := hunt_keeps (questHunt xs tm) (QuestP xs tm) (fun i ch a b => RiseTo i ch ∧ a = sumF (priQ xs) ch ∧ b = sumF (lenQ xs) ch ∧ b ≤ tm) (fun ch a b h => .inr ⟨h.1, h.2.1, by rw [← h.2.2.1]; exact h.2.2.2⟩)
    (fun i ch a b m hi h ht => ?_) (fun i ch a b hi h => ⟨h.1.more, h.2⟩) xs.length [] 0 0 ⟨[], -1, bud.toNat, false⟩ (Nat.le_refl _) ?_ (.inl (by simp))
  · exact h.1
  · simp only [questHunt, Bool.and_eq_true, decide_eq_true_eq] at ht
    refine ⟨h.1.snoc, ?_, ?_, ?_⟩
    · rw [sumF_snoc, h.2.1]; simp [questHunt, priQ]
    · rw [sumF_snoc, h.2.2.1]; simp [questHunt, lenQ]
    · simp only [questHunt]; exact ht.1
  · simp only [questHunt, Nat.sub_self]
    exact ⟨⟨List.Pairwise.nil, fun t ht => by simp at ht⟩, rfl, rfl, h0⟩
/-- all that FnQuestions asks of the best questions -/
theorem questAns_says (xs : List QuestionD) (tm bud : Int) :
    ((questAns xs tm bud).2.2 ≠ 0 ∧ (questAns xs tm bud).1 = [] ∧ (questAns xs tm bud).2.1 = 0) ∨
    ((questAns xs tm bud).2.2 = 0 ∧ questsB xs = true ∧ RiseTo xs.length (questAns xs tm bud).1 ∧ (questAns xs tm bud).2.1 = sumF (priQ xs) (questAns xs tm bud).1 ∧ sumF (lenQ xs) (questAns xs tm bud).1 ≤ tm ∧
      ∀ os : List Int, os.Nodup → (∀ t ∈ os, 0 ≤ t ∧ t < (xs.length : Int)) → sumF (lenQ xs) os ≤ tm → sumF (priQ xs) os ≤ (questAns xs tm bud).2.1) := by
  cases hv : questsB xs with
  | false => rw [questAns_bad hv]; exact .inl (by simp)
  | true =>
    by_cases hr : 0 ≤ tm ∧ inB bud 1 20000 = true
    · rw [questAns_go hv hr]
      cases hf : (questGot xs tm bud).full with
      | true => exact .inl (by simp)
      | false =>
        have hm : ¬ (questGot xs tm bud).most < 0 := by
          have := quest_best hv (os := []) (by simp) (by simp) (by simpa [sumF] using hr.1) hf
          simp [sumF] at this
          omega
        have h := (questGot_keeps xs tm bud hr.1).resolve_left hm
        exact .inr ⟨rfl, rfl, h.1, h.2.1, h.2.2, fun os h1 h2 h3 => quest_best hv h1 h2 h3 hf⟩
    · rw [questAns_range hv hr]; exact .inl (by simp)
end Go.Proofs.Ythcgapfhlggegaa
