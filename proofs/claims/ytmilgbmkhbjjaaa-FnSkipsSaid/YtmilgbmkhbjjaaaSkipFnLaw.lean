/- Skips that are found: they rise, win back enough, and their losses are the sum told; where none are found all of them are too short. Plain Lean. Conditions: none. -/
import Derived.Test.YtmilgbmkhbjjaaaSkipLaw
import Derived.Test.YtmilgbmkhbjjaaaNums
namespace Go.Proofs.Ytmilgbmkhbjjaaa
set_option linter.unusedVariables false

/-- as hunt_keeps, but the leaf's own test is handed on -/
theorem hunt_keeps2 (H : Hunt) (P : List Int → Int → Prop) (Q : Nat → List Int → Int → Int → Prop) (hleaf : ∀ ch a b m, Q H.n ch a b → H.leaf a b m = true → P ch a)
    (htake : ∀ i ch a b, i < H.n → Q i ch a b → Q (i + 1) (ch ++ [(i : Int)]) (a + H.g1 i) (b + H.g2 i)) (hleave : ∀ i ch a b, i < H.n → Q i ch a b → Q (i + 1) ch a b) :
    ∀ (r : Nat) (ch : List Int) (a b : Int) (g : Got), r ≤ H.n → Q (H.n - r) ch a b → P g.best g.most → P (hunt H r ch a b g).best (hunt H r ch a b g).most
  | 0, ch, a, b, g, _, hq, hp => by
    simp only [hunt]
    split
    · rename_i h; exact hleaf _ _ _ _ hq h
    · exact hp
  | r + 1, ch, a, b, g, hr, hq, hp => by
    have hi : H.n - (r + 1) < H.n := by omega
    have e1 : H.n - (r + 1) + 1 = H.n - r := by omega
    rw [hunt_eq rfl]
    have hone : P (hunt1 H r (H.n - (r + 1)) ch a b g).best (hunt1 H r (H.n - (r + 1)) ch a b g).most := by
      cases h : g.may (H.takes (H.n - (r + 1)) a b ch g.most) with
      | false => rw [hunt1_no h]; exact hp
      | true =>
        rw [hunt1_yes h]
        exact hunt_keeps2 H P Q hleaf htake hleave r _ _ _ g.pay (by omega) (e1 ▸ htake _ _ _ _ hi hq) hp
    generalize hunt1 H r (H.n - (r + 1)) ch a b g = g1 at hone ⊢
    cases h : g1.may (H.leaves (H.n - (r + 1)) a b g1.most) with
    | false => rw [hunt2_no h]; exact hone
    | true =>
      rw [hunt2_yes h]
      exact hunt_keeps2 H P Q hleaf htake hleave r ch a b g1.pay (by omega) (e1 ▸ hleave _ _ _ _ hi hq) hone
/-- whoever is full stays full -/
theorem hunt_full (H : Hunt) : ∀ (r : Nat) (ch : List Int) (a b : Int) (g : Got), g.full = true → (hunt H r ch a b g).full = true
  | 0, ch, a, b, g, h => by simp only [hunt]; split <;> simpa using h
  | r + 1, ch, a, b, g, h => by
    rw [hunt_eq rfl]
    refine hunt2_full ?_
    rw [hunt1_no (may_full h)]
    exact no_full h

def lenS (xs : List SkipD) (p : Int) : Int := (skipAt xs p.toNat).Length
def lossS (xs : List SkipD) (p : Int) : Int := (skipAt xs p.toNat).Loss
def sumF (f : Int → Int) (ps : List Int) : Int := (ps.map f).sum
theorem sumF_snoc (f : Int → Int) (ps : List Int) (p : Int) : sumF f (ps ++ [p]) = sumF f ps + f p := by simp [sumF]
theorem sumF_take {f : Int → Int} {ps : List Int} {k : Nat} (h : k < ps.length) : sumF f (ps.take (k + 1)) = sumF f (ps.take k) + f ps[k] := by
  rw [List.take_succ_eq_append_getElem h, sumF_snoc]
theorem sumF_bd {f : Int → Int} {m : Int} (hm : 0 ≤ m) : ∀ {ps : List Int}, (∀ p ∈ ps, 0 ≤ f p ∧ f p ≤ m) → 0 ≤ sumF f ps ∧ sumF f ps ≤ ps.length * m
  | [], _ => by simp [sumF]
  | p :: ps, h => by
    have h1 := sumF_bd hm (ps := ps) (fun q hq => h q (List.mem_cons_of_mem _ hq))
    have h2 := h p List.mem_cons_self
    have e : sumF f (p :: ps) = f p + sumF f ps := by simp [sumF]
    rw [e]
    simp only [List.length_cons, Int.natCast_add, Int.natCast_one, Int.add_mul, Int.one_mul]
    omega
/-- rising indices below i -/
def RiseTo (i : Nat) (ch : List Int) : Prop := ch.Pairwise (· < ·) ∧ ∀ t ∈ ch, 0 ≤ t ∧ t < (i : Int)
theorem RiseTo.snoc {i : Nat} {ch : List Int} (h : RiseTo i ch) : RiseTo (i + 1) (ch ++ [(i : Int)]) := by
  refine ⟨List.pairwise_append.2 ⟨h.1, List.pairwise_singleton _ _, fun a ha b hb => ?_⟩, fun t ht => ?_⟩
  · simp at hb; subst hb; exact (h.2 a ha).2
  · rcases List.mem_append.1 ht with h1 | h1
    · have := h.2 t h1; omega
    · simp at h1; omega
theorem RiseTo.more {i : Nat} {ch : List Int} (h : RiseTo i ch) : RiseTo (i + 1) ch := ⟨h.1, fun t ht => by have := h.2 t ht; omega⟩
theorem RiseTo.len {n : Nat} {ch : List Int} (h : RiseTo n ch) : ch.length ≤ n := by
  have key : ∀ k (hk : k < ch.length), (k : Int) ≤ ch[k] := by
    intro k
    induction k with
    | zero => intro hk; exact (h.2 _ (List.getElem_mem hk)).1
    | succ k ih =>
      intro hk
      have h1 := ih (by omega)
      have h2 := List.pairwise_iff_getElem.1 h.1 k (k + 1) (by omega) hk (by omega)
      omega
  rcases Nat.eq_zero_or_pos ch.length with h0 | h0
  · omega
  · have h1 := key (ch.length - 1) (by omega)
    have h2 := (h.2 _ (List.getElem_mem (show ch.length - 1 < ch.length by omega))).2
    omega
theorem RiseTo.rises {n : Nat} {ch : List Int} (h : RiseTo n ch) : risesB ch 0 ((n : Int) - 1) = true := by
  refine all_good (fun i hi => ?_)
  have hb := h.2 _ (List.getElem_mem hi)
  have hok : inB ch[i] 0 ((n : Int) - 1) = true := inB_true.2 ⟨hb.1, by omega⟩
  cases i with
  | zero => exact good_zero (h := hi) hok
  | succ j =>
    refine good_succ (h := hi) hok ?_
    have := List.pairwise_iff_getElem.1 h.1 j (j + 1) (by omega) hi (by omega)
    simp [geI]; exact this
/-- what is kept of skips that are found -/
def SkipP (xs : List SkipD) (lost : Int) (l : List Int) (m : Int) : Prop := m < 0 ∨ (RiseTo xs.length l ∧ m = sumF (lossS xs) l ∧ lost ≤ sumF (lenS xs) l)
theorem skipGot_keeps (xs : List SkipD) (lost bud : Int) : SkipP xs lost (skipGot xs lost bud).best (skipGot xs lost bud).most := by
  refine hunt_keeps2 (skipHunt xs lost) (SkipP xs lost) (fun i ch a b => RiseTo i ch ∧ a = sumF (lossS xs) ch ∧ b = sumF (lenS xs) ch) (fun ch a b m h hl => ?_) (fun i ch a b hi h => ?_) (fun i ch a b hi h => ?_) xs.length [] 0 0 _ (Nat.le_refl _) ?_ (.inl (by simp))
  · simp only [skipHunt, Bool.and_eq_true, decide_eq_true_eq] at hl h
    exact .inr ⟨h.1, h.2.1, by rw [← h.2.2]; exact hl.1⟩
  · refine ⟨h.1.snoc, ?_, ?_⟩
    · rw [sumF_snoc, h.2.1]; simp [skipHunt, lossS]
    · rw [sumF_snoc, h.2.2]; simp [skipHunt, lenS]
  · exact ⟨h.1.more, h.2⟩
  · simp only [skipHunt, Nat.sub_self]
    exact ⟨⟨List.Pairwise.nil, fun t ht => by simp at ht⟩, rfl, rfl⟩
/-- where taking all that are left would do, something is found (or the budget is lacking) -/
theorem hunt_finds (xs : List SkipD) (lost : Int) (hv : ∀ x ∈ xs, 0 ≤ x.Loss) : ∀ (r i : Nat) (ch : List Int) (a b : Int) (g : Got), i + r = xs.length → 0 ≤ a → lost ≤ b + sumLen (xs.drop i) →
    (hunt (skipHunt xs lost) r ch a b g).full = true ∨ 0 ≤ (hunt (skipHunt xs lost) r ch a b g).most
  | 0, i, ch, a, b, g, hi, ha, hl => by
    obtain rfl : i = xs.length := by omega
    rw [List.drop_length] at hl
    by_cases hm : 0 ≤ g.most
    · simp only [hunt]
      split
      · exact .inr ha
      · exact .inr hm
    · have h : (skipHunt xs lost).leaf a b g.most = true := by
        simp only [skipHunt, lessB, Bool.and_eq_true, decide_eq_true_eq]
        refine ⟨by simpa [sumLen] using hl, by simp [hm]⟩
      simp only [hunt, h, if_true]
      exact .inr ha
  | r + 1, i, ch, a, b, g, hi, ha, hl => by
    have hlt : i < xs.length := by omega
    have hI : (skipHunt xs lost).n - (r + 1) = i := by simp only [skipHunt]; omega
    rw [hunt_eq hI]
    have hkeep : ∀ G : Got, 0 ≤ G.most → (hunt2 (skipHunt xs lost) r i ch a b G).full = true ∨ 0 ≤ (hunt2 (skipHunt xs lost) r i ch a b G).most := fun G hG => by
      cases h : G.may ((skipHunt xs lost).leaves i a b G.most) with
      | false => rw [hunt2_no h]; exact .inr hG
      | true =>
        rw [hunt2_yes h]
        exact .inr (hunt_keeps2 (skipHunt xs lost) (fun _ m => 0 ≤ m) (fun _ _ a _ => 0 ≤ a) (fun ch a b m h _ => h) (fun j ch a b hj h => by
          have : 0 ≤ (skipHunt xs lost).g1 j := by simp only [skipHunt]; rw [skipAt_eq hj]; exact hv _ (List.getElem_mem hj)
          omega) (fun j ch a b hj h => h) r ch a b G.pay (by simp only [skipHunt]; omega) ha hG)
    have hfull : ∀ G : Got, G.full = true → (hunt2 (skipHunt xs lost) r i ch a b G).full = true ∨ 0 ≤ (hunt2 (skipHunt xs lost) r i ch a b G).most := fun G hG => .inl (hunt2_full hG)
    by_cases hm : 0 ≤ g.most
    · -- something is there already
      have hone : 0 ≤ (hunt1 (skipHunt xs lost) r i ch a b g).most := by
        cases h : g.may ((skipHunt xs lost).takes i a b ch g.most) with
        | false => rw [hunt1_no h]; exact hm
        | true =>
          rw [hunt1_yes h]
          have hg : ∀ j, j < (skipHunt xs lost).n → 0 ≤ (skipHunt xs lost).g1 j := fun j hj => by simp only [skipHunt] at hj ⊢; rw [skipAt_eq hj]; exact hv _ (List.getElem_mem hj)
          exact hunt_keeps2 (skipHunt xs lost) (fun _ m => 0 ≤ m) (fun _ _ a _ => 0 ≤ a) (fun ch a b m h _ => h) (fun j ch a b hj h => by have := hg j hj; omega) (fun j ch a b hj h => h) r _ _ _ g.pay (by simp only [skipHunt]; omega) (by have := hg i (by simp only [skipHunt]; exact hlt); omega) hm
      exact hkeep _ hone
    · have ht : (skipHunt xs lost).takes i a b ch g.most = true := by
        simp only [skipHunt, lessB, Bool.and_eq_true, decide_eq_true_eq]
        exact ⟨by simp [hm], hl⟩
      cases h : g.may ((skipHunt xs lost).takes i a b ch g.most) with
      | false =>
        refine hfull _ ?_
        rw [hunt1_no h, ht]
        simp only [Got.no, Bool.true_and, Bool.or_eq_true, decide_eq_true_eq]
        rw [ht] at h
        simp only [Got.may, Bool.true_and, Bool.and_eq_false_iff, decide_eq_false_iff_not] at h
        rcases h with h | h
        · left; simpa using h
        · right; omega
      | true =>
        have h1 := hunt_finds xs lost hv r (i + 1) (ch ++ [(i : Int)]) (a + (skipHunt xs lost).g1 i) (b + (skipHunt xs lost).g2 i) g.pay (by omega)
          (by have : 0 ≤ (skipHunt xs lost).g1 i := by simp only [skipHunt]; rw [skipAt_eq hlt]; exact hv _ (List.getElem_mem hlt)
              omega)
          (by simp only [skipHunt]; rw [skipAt_eq hlt]; rw [sumLen_drop xs i hlt] at hl; omega)
        rw [← hunt1_yes (b := b) (i := i) h] at h1
        rcases h1 with h1 | h1
        · exact hfull _ h1
        · exact hkeep _ h1
theorem skip_none {xs : List SkipD} {lost bud : Int} (hv : skipsB xs = true) (hf : (skipGot xs lost bud).full = false) (hm : (skipGot xs lost bud).most < 0) : sumLen xs < lost := by
  by_cases h : lost ≤ sumLen xs
  · have := hunt_finds xs lost (fun x hx => ((skipsB_ok hv).2 x hx).2.2.2.2.2.1) xs.length 0 [] 0 0 ⟨[], -1, bud.toNat, false⟩ (by omega) (by omega) (by rw [List.drop_zero]; omega)
    rcases this with h1 | h1
    · rw [skipGot] at hf; rw [hf] at h1; cases h1
    · rw [skipGot] at hm; omega
  · omega
/-- all that FnSkips asks of an answer -/
theorem skipAns_says (xs : List SkipD) (lost bud : Int) :
    ((skipAns xs lost bud).2.2 = 3 ∧ (skipAns xs lost bud).1 = [] ∧ skipsB xs = true ∧ sumLen xs < lost) ∨
    ((skipAns xs lost bud).2.2 ≠ 3 ∧ (skipAns xs lost bud).2.2 ≠ 0 ∧ (skipAns xs lost bud).1 = [] ∧ (skipAns xs lost bud).2.1 = 0) ∨
    ((skipAns xs lost bud).2.2 = 0 ∧ skipsB xs = true ∧ RiseTo xs.length (skipAns xs lost bud).1 ∧ (skipAns xs lost bud).2.1 = sumF (lossS xs) (skipAns xs lost bud).1 ∧ lost ≤ sumF (lenS xs) (skipAns xs lost bud).1) := by
  cases hv : skipsB xs with
  | false => rw [skipAns_bad hv]; exact .inr (.inl (by simp))
  | true =>
    by_cases hr : 0 ≤ lost ∧ inB bud 1 20000 = true
    · rw [skipAns_go hv hr]
      cases hf : (skipGot xs lost bud).full with
      | true => exact .inr (.inl (by simp))
      | false =>
        by_cases hm : (skipGot xs lost bud).most < 0
        · exact .inl (by simp [hm, skip_none hv hf hm])
        · have h := (skipGot_keeps xs lost bud).resolve_left hm
          refine .inr (.inr ?_)
          simp only [if_neg hm, Bool.false_eq_true, if_false]
          exact ⟨trivial, trivial, h.1, h.2.1, h.2.2⟩
    · rw [skipAns_range hv hr]; exact .inr (.inl (by simp))
end Go.Proofs.Ytmilgbmkhbjjaaa
