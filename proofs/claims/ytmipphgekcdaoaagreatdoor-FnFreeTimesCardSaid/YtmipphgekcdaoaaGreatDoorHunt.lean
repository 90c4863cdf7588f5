/- A search that takes or leaves each of n things, with a budget: plain Lean. Conditions: none; nothing of the program is named here. -/
namespace Go.Proofs.YtmipphgekcdaoaaGreatDoor
set_option linter.unusedVariables false

/-- takes i sum other chosen most: the thing i may be taken; leaves i sum other most: it may be left; leaf sum other most: the end replaces what was best -/
structure Hunt where
  n : Nat
  takes : Nat → Int → Int → List Int → Int → Bool
  leaves : Nat → Int → Int → Int → Bool
  g1 : Nat → Int
  g2 : Nat → Int
  leaf : Int → Int → Int → Bool
/-- what is best so far, how many nodes are left, and whether one was lacking -/
structure Got where
  best : List Int
  most : Int
  left : Nat
  full : Bool
/-- a node is gone on with -/
def Got.may (g : Got) (t : Bool) : Bool := t && !g.full && decide (g.left ≠ 0)
def Got.pay (g : Got) : Got := ⟨g.best, g.most, g.left - 1, g.full⟩
/-- a node is not gone on with -/
def Got.no (g : Got) (t : Bool) : Got := ⟨g.best, g.most, g.left, g.full || (t && decide (g.left = 0))⟩
/-- r things are still to come -/
def hunt (H : Hunt) : Nat → List Int → Int → Int → Got → Got
  | 0, ch, a, b, g => if H.leaf a b g.most = true then ⟨ch, a, g.left, g.full⟩ else g
  | r + 1, ch, a, b, g =>
    let i := H.n - (r + 1)
    let g1 := if g.may (H.takes i a b ch g.most) = true then hunt H r (ch ++ [(i : Int)]) (a + H.g1 i) (b + H.g2 i) g.pay else g.no (H.takes i a b ch g.most)
    if g1.may (H.leaves i a b g1.most) = true then hunt H r ch a b g1.pay else g1.no (H.leaves i a b g1.most)
/-- the first half of a node -/
def hunt1 (H : Hunt) (r i : Nat) (ch : List Int) (a b : Int) (g : Got) : Got :=
  if g.may (H.takes i a b ch g.most) = true then hunt H r (ch ++ [(i : Int)]) (a + H.g1 i) (b + H.g2 i) g.pay else g.no (H.takes i a b ch g.most)
/-- the second half -/
def hunt2 (H : Hunt) (r i : Nat) (ch : List Int) (a b : Int) (g : Got) : Got :=
  if g.may (H.leaves i a b g.most) = true then hunt H r ch a b g.pay else g.no (H.leaves i a b g.most)
section
variable {H : Hunt} {r i : Nat} {ch : List Int} {a b : Int} {g : Got} {t : Bool}
theorem hunt_eq (hi : H.n - (r + 1) = i) : hunt H (r + 1) ch a b g = hunt2 H r i ch a b (hunt1 H r i ch a b g) := by subst hi; rfl
theorem hunt1_yes (h : g.may (H.takes i a b ch g.most) = true) : hunt1 H r i ch a b g = hunt H r (ch ++ [(i : Int)]) (a + H.g1 i) (b + H.g2 i) g.pay := by simp only [hunt1, h, if_true]
theorem hunt1_no (h : g.may (H.takes i a b ch g.most) = false) : hunt1 H r i ch a b g = g.no (H.takes i a b ch g.most) := by simp only [hunt1, h]; rfl
theorem hunt2_yes (h : g.may (H.leaves i a b g.most) = true) : hunt2 H r i ch a b g = hunt H r ch a b g.pay := by simp only [hunt2, h, if_true]
theorem hunt2_no (h : g.may (H.leaves i a b g.most) = false) : hunt2 H r i ch a b g = g.no (H.leaves i a b g.most) := by simp only [hunt2, h]; rfl
theorem may_true (h : g.may t = true) : t = true ∧ g.full = false ∧ g.left ≠ 0 := by
  simp only [Got.may, Bool.and_eq_true, Bool.not_eq_true', decide_eq_true_eq] at h
  exact ⟨h.1.1, h.1.2, h.2⟩
theorem may_full (h : g.full = true) : g.may t = false := by simp [Got.may, h]
theorem may_none (h : g.left = 0) : g.may t = false := by simp [Got.may, h]
theorem no_false : g.no false = g := by simp [Got.no]
theorem no_left (h : g.left ≠ 0) : g.no t = g := by simp [Got.no, h]
theorem no_zero (h : g.left = 0) (ht : t = true) : g.no t = ⟨g.best, g.most, g.left, true⟩ := by simp [Got.no, h, ht]
theorem no_full (h : g.full = true) : (g.no t).full = true := by simp [Got.no, h]
theorem hunt2_full (h : g.full = true) : (hunt2 H r i ch a b g).full = true := by rw [hunt2_no (may_full h)]; exact no_full h

/-- what is found keeps to a condition on (list, sum) that the leaf brings with it; the budget only goes down -/
theorem hunt_keeps (H : Hunt) (P : List Int → Int → Prop) (Q : Nat → List Int → Int → Int → Prop) (hleaf : ∀ ch a b, Q H.n ch a b → P ch a)
    (htake : ∀ i ch a b m, i < H.n → Q i ch a b → H.takes i a b ch m = true → Q (i + 1) (ch ++ [(i : Int)]) (a + H.g1 i) (b + H.g2 i)) (hleave : ∀ i ch a b, i < H.n → Q i ch a b → Q (i + 1) ch a b) :
    ∀ (r : Nat) (ch : List Int) (a b : Int) (g : Got), r ≤ H.n → Q (H.n - r) ch a b → P g.best g.most → P (hunt H r ch a b g).best (hunt H r ch a b g).most ∧ (hunt H r ch a b g).left ≤ g.left
  | 0, ch, a, b, g, _, hq, hp => by
    simp only [hunt]
    split
    · exact ⟨hleaf _ _ _ hq, Nat.le_refl _⟩
    · exact ⟨hp, Nat.le_refl _⟩
  | r + 1, ch, a, b, g, hr, hq, hp => by
    have hi : H.n - (r + 1) < H.n := by omega
    have e1 : H.n - (r + 1) + 1 = H.n - r := by omega
    rw [hunt_eq rfl]
    have hone : P (hunt1 H r (H.n - (r + 1)) ch a b g).best (hunt1 H r (H.n - (r + 1)) ch a b g).most ∧ (hunt1 H r (H.n - (r + 1)) ch a b g).left ≤ g.left := by
      cases h : g.may (H.takes (H.n - (r + 1)) a b ch g.most) with
      | false => rw [hunt1_no h]; exact ⟨hp, Nat.le_refl _⟩
      | true =>
        rw [hunt1_yes h]
        have := hunt_keeps H P Q hleaf htake hleave r (ch ++ [((H.n - (r + 1) : Nat) : Int)]) (a + H.g1 (H.n - (r + 1))) (b + H.g2 (H.n - (r + 1))) g.pay (by omega) (e1 ▸ htake _ _ _ _ _ hi hq (may_true h).1) hp
        exact ⟨this.1, Nat.le_trans this.2 (by simp only [Got.pay]; omega)⟩
    generalize hunt1 H r (H.n - (r + 1)) ch a b g = g1 at hone ⊢
    cases h : g1.may (H.leaves (H.n - (r + 1)) a b g1.most) with
    | false => rw [hunt2_no h]; exact ⟨hone.1, hone.2⟩
    | true =>
      rw [hunt2_yes h]
      have := hunt_keeps H P Q hleaf htake hleave r ch a b g1.pay (by omega) (e1 ▸ hleave _ _ _ _ hi hq) hone.1
      exact ⟨this.1, Nat.le_trans this.2 (Nat.le_trans (by simp only [Got.pay]; omega) hone.2)⟩
theorem hunt_left (hr : r ≤ H.n) : (hunt H r ch a b g).left ≤ g.left :=
  (hunt_keeps H (fun _ _ => True) (fun _ _ _ _ => True) (fun _ _ _ _ => trivial) (fun _ _ _ _ _ _ _ _ => trivial) (fun _ _ _ _ _ _ => trivial) r ch a b g hr trivial trivial).2
theorem hunt1_left (hr : r ≤ H.n) : (hunt1 H r i ch a b g).left ≤ g.left := by
  cases h : g.may (H.takes i a b ch g.most) with
  | false => rw [hunt1_no h]; exact Nat.le_refl _
  | true => rw [hunt1_yes h]; exact Nat.le_trans (hunt_left hr) (by simp only [Got.pay]; omega)
end
end Go.Proofs.YtmipphgekcdaoaaGreatDoor
