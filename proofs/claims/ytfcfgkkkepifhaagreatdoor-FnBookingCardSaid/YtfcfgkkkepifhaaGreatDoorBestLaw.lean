/- The block with the greatest sum: plain lists. Conditions: told with each. -/
import Derived.Test.YtfcfgkkkepifhaaGreatDoorFirstFns
namespace Go.Proofs.YtfcfgkkkepifhaaGreatDoor
set_option linter.unusedVariables false
open Go.RowKit

def bestL (f : Nat → Int) (ks : List Nat) : Option Nat := ks.foldl (fun o k => match o with | none => some k | some b => if f b < f k then some k else some b) none
def bestStep (f : Nat → Int) (o : Option Nat) (k : Nat) : Option Nat := match o with | none => some k | some b => if f b < f k then some k else some b
theorem bestL_snoc (f : Nat → Int) (ks : List Nat) (k : Nat) : bestL f (ks ++ [k]) = bestStep f (bestL f ks) k := by
  simp only [bestL, List.foldl_append, List.foldl_cons, List.foldl_nil, bestStep]
/-- the starts of blocks below m -/
def startsB (p : Int → Bool) (m : Nat) : List Nat := (List.range m).filter fun k => p (k : Int)
theorem startsB_yes {p : Int → Bool} {m : Nat} (h : p (m : Int) = true) : startsB p (m + 1) = startsB p m ++ [m] := by
  simp [startsB, List.range_succ, h]
theorem startsB_no {p : Int → Bool} {m : Nat} (h : p (m : Int) = false) : startsB p (m + 1) = startsB p m := by
  simp [startsB, List.range_succ, h]
theorem startsB_mem {p : Int → Bool} {m x : Nat} : x ∈ startsB p m ↔ x < m ∧ p (x : Int) = true := by simp [startsB]
theorem startsB_pw (p : Int → Bool) (m : Nat) : (startsB p m).Pairwise (· < ·) := List.Pairwise.filter _ List.pairwise_lt_range
theorem startsB_len (p : Int → Bool) (m : Nat) : (startsB p m).length ≤ m := by
  have := List.length_filter_le (fun k : Nat => p (k : Int)) (List.range m)
  simpa [startsB] using this
theorem inc_ext : ∀ {a b : List Nat}, a.Pairwise (· < ·) → b.Pairwise (· < ·) → (∀ x, x ∈ a ↔ x ∈ b) → a = b
  | [], [], _, _, _ => rfl
  | [], y :: b, _, _, h => absurd ((h y).2 (List.mem_cons_self ..)) (by simp)
  | x :: a, [], _, _, h => absurd ((h x).1 (List.mem_cons_self ..)) (by simp)
  | x :: a, y :: b, ha, hb, h => by
    rw [List.pairwise_cons] at ha hb
    have h1 := (h x).1 (List.mem_cons_self ..)
    have h2 := (h y).2 (List.mem_cons_self ..)
    have e : x = y := by
      rcases List.mem_cons.1 h1 with h1 | h1
      · exact h1
      · rcases List.mem_cons.1 h2 with h2 | h2
        · exact h2.symm
        · have := ha.1 _ h2; have := hb.1 _ h1; omega
    subst e
    rw [inc_ext ha.2 hb.2 (fun z => ?_)]
    constructor
    · intro hz
      have := ha.1 z hz
      rcases List.mem_cons.1 ((h z).1 (List.mem_cons_of_mem _ hz)) with e | e
      · omega
      · exact e
    · intro hz
      have := hb.1 z hz
      rcases List.mem_cons.1 ((h z).2 (List.mem_cons_of_mem _ hz)) with e | e
      · omega
      · exact e
def sumS (f : Int → Int) (k : Int) : Nat → Int
  | 0 => 0
  | j + 1 => sumS f k j + f (k + (j : Int))
theorem sumS_succ (f : Int → Int) (k : Int) (j : Nat) : sumS f k (j + 1) = sumS f k j + f (k + (j : Int)) := rfl
theorem sumS_bd {f : Int → Int} {k : Int} : ∀ {n : Nat}, (∀ j : Nat, j < n → 0 ≤ f (k + (j : Int)) ∧ f (k + (j : Int)) ≤ 1000) → 0 ≤ sumS f k n ∧ sumS f k n ≤ 1000 * (n : Int)
  | 0, _ => by simp [sumS]
  | n + 1, h => by
    have ih := sumS_bd (f := f) (k := k) (n := n) (fun j hj => h j (by omega))
    have := h n (by omega)
    rw [sumS_succ]
    omega
/-- the places q and below of the open seats that begin a block are those of the list -/
def KsOk (xs : List RingD) (os : List Int) (n q : Nat) (ks : List Nat) : Prop :=
  ks.Pairwise (· < ·) ∧ (∀ k ∈ ks, ∃ j, j < q ∧ goodI xs os n j ∧ ∃ h : j < os.length, os[j] = (k : Int)) ∧ (∀ j, j < q → goodI xs os n j → ∃ h : j < os.length, os[j].toNat ∈ ks)
theorem KsOk.zero (xs : List RingD) (os : List Int) (n : Nat) : KsOk xs os n 0 [] := ⟨List.Pairwise.nil, by simp, fun j hj => absurd hj (by omega)⟩
theorem KsOk.skip {xs : List RingD} {os : List Int} {n q : Nat} {ks : List Nat} (h : KsOk xs os n q ks) (hg : ¬ goodI xs os n q) : KsOk xs os n (q + 1) ks :=
  ⟨h.1, fun k hk => by obtain ⟨j, hj, r⟩ := h.2.1 k hk; exact ⟨j, by omega, r⟩, fun j hj hgj => by
    by_cases e : j = q
    · subst e; exact absurd hgj hg
    · exact h.2.2 j (by omega) hgj⟩
theorem KsOk.push {xs : List RingD} {os : List Int} {n q : Nat} {ks : List Nat} (h : KsOk xs os n q ks) (hp : os.Pairwise (· < ·)) (hnn : ∀ x ∈ os, 0 ≤ x) (hq : q < os.length) (hg : goodI xs os n q) : KsOk xs os n (q + 1) (ks ++ [os[q].toNat]) := by
  have h0 := hnn _ (List.getElem_mem hq)
  refine ⟨?_, fun k hk => ?_, fun j hj hgj => ?_⟩
  · rw [List.pairwise_append]
    refine ⟨h.1, List.pairwise_singleton _ _, fun a ha b hb => ?_⟩
    simp only [List.mem_singleton] at hb
    subst hb
    obtain ⟨j, hj, _, hjl, e⟩ := h.2.1 a ha
    have := pw_lt hp hj hq
    omega
  · rcases List.mem_append.1 hk with hk | hk
    · obtain ⟨j, hj, r⟩ := h.2.1 k hk; exact ⟨j, by omega, r⟩
    · simp only [List.mem_singleton] at hk
      subst hk
      exact ⟨q, by omega, hg, hq, by omega⟩
  · by_cases e : j = q
    · subst e; exact ⟨hq, by simp⟩
    · obtain ⟨hl, hm⟩ := h.2.2 j (by omega) hgj
      exact ⟨hl, List.mem_append_left _ hm⟩
theorem KsOk.final {xs : List RingD} {ps : List Int} {n m q : Nat} {ks : List Nat} (hc : ∀ x ∈ xs, 0 ≤ x.Count ∧ x.Count ≤ 1048576) (hm : sumCount xs = m) (hn : 1 ≤ n) (h : KsOk xs (openTo ps m) n q ks) (hq : (openTo ps m).length < q + n) : ks = startsB (blockB xs ps n) m := by
  refine inc_ext h.1 (startsB_pw _ _) fun x => ?_
  rw [startsB_mem]
  constructor
  · intro hx
    obtain ⟨j, _, hg, hl, e⟩ := h.2.1 x hx
    obtain ⟨h1, h2, _⟩ := good_block hc hm hn hg
    have := (open_mem.1 (List.getElem_mem h1)).1
    rw [e] at h2 this
    exact ⟨by omega, h2⟩
  · rintro ⟨hx, hb⟩
    obtain ⟨i, hg, hl, e⟩ := block_good (k := (x : Int)) hc hm hn (by omega) (by omega) hb
    have hg' := hg
    obtain ⟨g1, g2, _⟩ := hg'
    obtain ⟨_, hmem⟩ := h.2.2 i (by omega) hg
    rw [e] at hmem
    simpa using hmem

end Go.Proofs.YtfcfgkkkepifhaaGreatDoor
