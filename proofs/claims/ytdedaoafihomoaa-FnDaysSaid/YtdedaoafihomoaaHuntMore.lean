/- Searches: what is found keeps to a condition; sums over lists of numbers; rising lists. Plain Lean. Conditions: none. -/
import Derived.Test.YtdedaoafihomoaaHunt
import Derived.Test.YtdedaoafihomoaaNums
namespace Go.Proofs.Ytdedaoafihomoaa
set_option linter.unusedVariables false

/-- as hunt_keeps, but the leaf's own test is handed on -/
theorem hunt_keeps2 (H : Hunt) (P : List Int → Int → Prop) (Q : Nat → List Int → Int → Int → Prop) (hleaf : ∀ ch a b m, Q H.n ch a b → H.leaf a b m = true → P ch a)
    (htake : ∀ i ch a b, i < H.n → Q i ch a b → Q (i + 1) (ch ++ [(i : Int)]) (a + H.g1 i) (b + H.g2 i)) (hleave : ∀ i ch a b, i < H.n → Q i ch a b → Q (i + 1) ch a b) :
    ∀ (r : Nat) (ch : List Int) (a b : Int) (g : Got), r ≤ H.n → Q (H.n - r) ch a b → P g.best g.most → P (hunt H r ch a b g).best (hunt H r ch a b g).most
  | 0, ch, a, b, g, _, hq, hp => by
    simp only [hunt]
    split
    · rename_i h; exact hleaf _ _ _ _ hq h
    · exact hp
  | r + 1, ch, a, b, g, hr, hq, hp => by
    have hi : H.n - (r + 1) < H.n := by omega
    have e1 : H.n - (r + 1) + 1 = H.n - r := by omega
    rw [hunt_eq rfl]
    have hone : P (hunt1 H r (H.n - (r + 1)) ch a b g).best (hunt1 H r (H.n - (r + 1)) ch a b g).most := by
      cases h : g.may (H.takes (H.n - (r + 1)) a b ch g.most) with
      | false => rw [hunt1_no h]; exact hp
      | true =>
        rw [hunt1_yes h]
        exact hunt_keeps2 H P Q hleaf htake hleave r _ _ _ g.pay (by omega) (e1 ▸ htake _ _ _ _ hi hq) hp
    generalize hunt1 H r (H.n - (r + 1)) ch a b g = g1 at hone ⊢
    cases h : g1.may (H.leaves (H.n - (r + 1)) a b g1.most) with
    | false => rw [hunt2_no h]; exact hone
    | true =>
      rw [hunt2_yes h]
      exact hunt_keeps2 H P Q hleaf htake hleave r ch a b g1.pay (by omega) (e1 ▸ hleave _ _ _ _ hi hq) hone
/-- whoever is full stays full -/
theorem hunt_full (H : Hunt) : ∀ (r : Nat) (ch : List Int) (a b : Int) (g : Got), g.full = true → (hunt H r ch a b g).full = true
  | 0, ch, a, b, g, h => by simp only [hunt]; split <;> simpa using h
  | r + 1, ch, a, b, g, h => by
    rw [hunt_eq rfl]
    refine hunt2_full ?_
    rw [hunt1_no (may_full h)]
    exact no_full h

def sumF (f : Int → Int) (ps : List Int) : Int := (ps.map f).sum
theorem sumF_snoc (f : Int → Int) (ps : List Int) (p : Int) : sumF f (ps ++ [p]) = sumF f ps + f p := by simp [sumF]
theorem sumF_take {f : Int → Int} {ps : List Int} {k : Nat} (h : k < ps.length) : sumF f (ps.take (k + 1)) = sumF f (ps.take k) + f ps[k] := by
  rw [List.take_succ_eq_append_getElem h, sumF_snoc]
theorem sumF_bd {f : Int → Int} {m : Int} (hm : 0 ≤ m) : ∀ {ps : List Int}, (∀ p ∈ ps, 0 ≤ f p ∧ f p ≤ m) → 0 ≤ sumF f ps ∧ sumF f ps ≤ ps.length * m
  | [], _ => by simp [sumF]
  | p :: ps, h => by
    have h1 := sumF_bd hm (ps := ps) (fun q hq => h q (List.mem_cons_of_mem _ hq))
    have h2 := h p List.mem_cons_self
    have e : sumF f (p :: ps) = f p + sumF f ps := by simp [sumF]
    rw [e]
    simp only [List.length_cons, Int.natCast_add, Int.natCast_one, Int.add_mul, Int.one_mul]
    omega
/-- rising indices below i -/
def RiseTo (i : Nat) (ch : List Int) : Prop := ch.Pairwise (· < ·) ∧ ∀ t ∈ ch, 0 ≤ t ∧ t < (i : Int)
theorem RiseTo.snoc {i : Nat} {ch : List Int} (h : RiseTo i ch) : RiseTo (i + 1) (ch ++ [(i : Int)]) := by
  refine ⟨List.pairwise_append.2 ⟨h.1, List.pairwise_singleton _ _, fun a ha b hb => ?_⟩, fun t ht => ?_⟩
  · simp at hb; subst hb; exact (h.2 a ha).2
  · rcases List.mem_append.1 ht with h1 | h1
    · have := h.2 t h1; omega
    · simp at h1; omega
theorem RiseTo.more {i : Nat} {ch : List Int} (h : RiseTo i ch) : RiseTo (i + 1) ch := ⟨h.1, fun t ht => by have := h.2 t ht; omega⟩
theorem RiseTo.len {n : Nat} {ch : List Int} (h : RiseTo n ch) : ch.length ≤ n := by
  have key : ∀ k (hk : k < ch.length), (k : Int) ≤ ch[k] := by
    intro k
    induction k with
    | zero => intro hk; exact (h.2 _ (List.getElem_mem hk)).1
    | succ k ih =>
      intro hk
      have h1 := ih (by omega)
      have h2 := List.pairwise_iff_getElem.1 h.1 k (k + 1) (by omega) hk (by omega)
      omega
  rcases Nat.eq_zero_or_pos ch.length with h0 | h0
  · omega
  · have h1 := key (ch.length - 1) (by omega)
    have h2 := (h.2 _ (List.getElem_mem (show ch.length - 1 < ch.length by omega))).2
    omega
theorem RiseTo.rises {n : Nat} {ch : List Int} (h : RiseTo n ch) : risesB ch 0 ((n : Int) - 1) = true := by
  refine all_good (fun i hi => ?_)
  have hb := h.2 _ (List.getElem_mem hi)
  have hok : inB ch[i] 0 ((n : Int) - 1) = true := inB_true.2 ⟨hb.1, by omega⟩
  cases i with
  | zero => exact good_zero (h := hi) hok
  | succ j =>
    refine good_succ (h := hi) hok ?_
    have := List.pairwise_iff_getElem.1 h.1 j (j + 1) (by omega) hi (by omega)
    simp [geI]; exact this

/-- what is best so far only grows, where the end's own test wants more -/
theorem hunt_mono (H : Hunt) (hl : ∀ a b m, H.leaf a b m = true → m ≤ a) : ∀ (r : Nat) (ch : List Int) (a b : Int) (g : Got), g.most ≤ (hunt H r ch a b g).most
  | 0, ch, a, b, g => by
    simp only [hunt]
    split
    · rename_i h; exact hl _ _ _ h
    · exact Int.le_refl _
  | r + 1, ch, a, b, g => by
    rw [hunt_eq rfl]
    have hone : g.most ≤ (hunt1 H r (H.n - (r + 1)) ch a b g).most := by
      cases h : g.may (H.takes (H.n - (r + 1)) a b ch g.most) with
      | false => rw [hunt1_no h]; exact Int.le_refl _
      | true => rw [hunt1_yes h]; exact hunt_mono H hl r _ _ _ g.pay
    generalize hunt1 H r (H.n - (r + 1)) ch a b g = g1 at hone ⊢
    cases h : g1.may (H.leaves (H.n - (r + 1)) a b g1.most) with
    | false => rw [hunt2_no h]; exact hone
    | true => rw [hunt2_yes h]; exact Int.le_trans hone (hunt_mono H hl r ch a b g1.pay)
theorem hunt2_mono (H : Hunt) (hl : ∀ a b m, H.leaf a b m = true → m ≤ a) (r i : Nat) (ch : List Int) (a b : Int) (g : Got) : g.most ≤ (hunt2 H r i ch a b g).most := by
  cases h : g.may (H.leaves i a b g.most) with
  | false => rw [hunt2_no h]; exact Int.le_refl _
  | true => rw [hunt2_yes h]; exact hunt_mono H hl r ch a b g.pay
/-- a node that is not gone on with although it should be lacks budget -/
theorem not_may {g : Got} {t : Bool} (h : g.may t = false) (ht : t = true) : (g.no t).full = true := by
  rw [ht] at h ⊢
  simp only [Got.may, Bool.true_and, Bool.and_eq_false_iff, decide_eq_false_iff_not] at h
  simp only [Got.no, Bool.true_and, Bool.or_eq_true, decide_eq_true_eq]
  rcases h with h | h
  · left; simpa using h
  · right; omega

/-- the sum over those of a list that are i or more -/
def sumFrom (f : Int → Int) (os : List Int) (i : Nat) : Int := sumF f (os.filter (fun t => decide ((i : Int) ≤ t)))
theorem sumFrom_cons (f : Int → Int) (t : Int) (os : List Int) (i : Nat) : sumFrom f (t :: os) i = (if (i : Int) ≤ t then f t else 0) + sumFrom f os i := by
  simp only [sumFrom, List.filter_cons, decide_eq_true_eq]
  split <;> simp [sumF]
theorem sumFrom_step (f : Int → Int) (i : Nat) : ∀ os : List Int, os.Nodup → sumFrom f os i = (if (i : Int) ∈ os then f i else 0) + sumFrom f os (i + 1)
  | [], _ => by simp [sumFrom, sumF]
  | t :: os, h => by
    have hn := List.nodup_cons.1 h
    have ih := sumFrom_step f i os hn.2
    rw [sumFrom_cons, sumFrom_cons, ih]
    by_cases he : t = (i : Int)
    · subst he
      rw [if_neg hn.1, if_pos (Int.le_refl _), if_pos List.mem_cons_self, if_neg (by omega)]
      try omega
    · have hm : ((i : Int) ∈ t :: os) ↔ ((i : Int) ∈ os) := by
        rw [List.mem_cons]; constructor
        · rintro (h | h)
          · exact absurd h.symm he
          · exact h
        · exact .inr
      by_cases hle : (i : Int) ≤ t
      · rw [if_pos hle, if_pos (show ((i + 1 : Nat) : Int) ≤ t by omega)]
        simp only [hm]; omega
      · rw [if_neg hle, if_neg (show ¬ ((i + 1 : Nat) : Int) ≤ t by omega)]
        simp only [hm]; omega
theorem sumFrom_zero (f : Int → Int) (os : List Int) (h : ∀ t ∈ os, 0 ≤ t) : sumFrom f os 0 = sumF f os := by
  unfold sumFrom
  rw [List.filter_eq_self.2 (fun t ht => by simpa using h t ht)]
theorem sumFrom_end (f : Int → Int) (os : List Int) (n : Nat) (h : ∀ t ∈ os, t < (n : Int)) : sumFrom f os n = 0 := by
  unfold sumFrom
  rw [List.filter_eq_nil_iff.2 (fun t ht => by have := h t ht; simp; omega)]
  rfl
end Go.Proofs.Ytdedaoafihomoaa
