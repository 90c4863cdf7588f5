/- The first free seats side by side: plain lists. Conditions: told with each. -/
import Derived.Test.YtfcfgkkkepifhaaGreatDoorOpenSeatsFns
namespace Go.Proofs.YtfcfgkkkepifhaaGreatDoor
set_option linter.unusedVariables false
open Go.RowKit

def cntAt (xs : List RingD) (k : Int) : Int := match xs[seatI xs k]? with | some r => r.Count | none => 0
/-- n seats from k on lie in one ring and none of them is booked -/
def blockB (xs : List RingD) (ps : List Int) (n : Nat) (k : Int) : Bool := decide (seatN xs k + n ≤ cntAt xs k) && (List.range n).all fun (j : Nat) => !hasB ps (k + (j : Int))
def blockL (k : Int) (n : Nat) : List Int := (List.range n).map fun (j : Nat) => k + (j : Int)
theorem blockL_len (k : Int) (n : Nat) : (blockL k n).length = n := by simp [blockL]
theorem blockL_succ (k : Int) (n : Nat) : blockL k (n + 1) = blockL k n ++ [k + (n : Int)] := by simp [blockL, List.range_succ]
/-- the first number below m that p holds of -/
def firstB (p : Int → Bool) : Nat → Option Nat
  | 0 => none
  | m + 1 => match firstB p m with | some k => some k | none => if p (m : Int) = true then some m else none
theorem firstB_none {p : Int → Bool} : ∀ {m : Nat}, (∀ k : Nat, k < m → p (k : Int) = false) → firstB p m = none
  | 0, _ => rfl
  | m + 1, h => by
    have ih := firstB_none (p := p) (m := m) (fun k hk => h k (by omega))
    simp only [firstB, ih, h m (by omega)]
    simp
theorem firstB_some {p : Int → Bool} {k : Nat} (hp : p (k : Int) = true) (h : ∀ j : Nat, j < k → p (j : Int) = false) : ∀ {m : Nat}, k < m → firstB p m = some k
  | 0, hk => by omega
  | m + 1, hk => by
    by_cases e : k = m
    · subst e
      have := firstB_none (p := p) (m := k) h
      simp only [firstB, this, hp]
      simp
    · have ih := firstB_some hp h (m := m) (by omega)
      simp only [firstB, ih]
theorem cntAt_eq {xs : List RingD} {k : Int} (h : seatI xs k < xs.length) : cntAt xs k = xs[seatI xs k].Count := by simp [cntAt, List.getElem?_eq_getElem h]
theorem sum_take_succ {xs : List RingD} {i : Nat} (h : i < xs.length) : sumCount (xs.take (i + 1)) = sumCount (xs.take i) + xs[i].Count := by
  rw [List.take_succ_eq_append_getElem h]
  simp only [sumCount, List.map_append, List.sum_append, List.map_cons, List.map_nil, List.sum_cons, List.sum_nil]
  omega
theorem sum_take_le {xs : List RingD} (hc : ∀ x ∈ xs, 0 ≤ x.Count ∧ x.Count ≤ 1048576) (i : Nat) : sumCount (xs.take i) ≤ sumCount xs := by
  have h : sumCount xs = sumCount (xs.take i) + sumCount (xs.drop i) := by
    have e : xs = xs.take i ++ xs.drop i := (List.take_append_drop i xs).symm
    have : sumCount (xs.take i ++ xs.drop i) = sumCount (xs.take i) + sumCount (xs.drop i) := by simp only [sumCount, List.map_append, List.sum_append]
    rw [← e] at this; exact this
  have := (sumCount_bd 1048576 (by omega) (xs.drop i) (fun x hx => hc x (List.mem_of_mem_drop hx))).1
  omega
section
variable {xs : List RingD} {ps : List Int} {n : Nat} {k : Int} (hc : ∀ x ∈ xs, 0 ≤ x.Count ∧ x.Count ≤ 1048576)
include hc
theorem ring_end (h0 : 0 ≤ k) (h1 : k < sumCount xs) (hn : 1 ≤ n) (h : seatN xs k + n ≤ cntAt xs k) : k + n ≤ sumCount xs ∧ seatI xs (k + n - 1) = seatI xs k := by
  obtain ⟨g1, g2, g3⟩ := seatN_bd hc k h0 h1
  rw [cntAt_eq g2] at h
  have e := sum_take_succ g2
  have e2 := sum_take_le hc (seatI xs k + 1)
  simp only [seatN] at g1 h
  refine ⟨by omega, seatI_at xs (seatI xs k) (k + n - 1) hc g2 (by omega) (by omega)⟩
theorem ring_same (h0 : 0 ≤ k) (hn : 1 ≤ n) (h1 : k + n - 1 < sumCount xs) (h : seatI xs k = seatI xs (k + n - 1)) : seatN xs k + n ≤ cntAt xs k := by
  obtain ⟨g1, g2, g3⟩ := seatN_bd hc (k + n - 1) (by omega) h1
  have g2' : seatI xs k < xs.length := by rw [h]; exact g2
  rw [cntAt_eq g2']
  simp only [seatN] at g1 g3 ⊢
  simp only [← h] at g3 g1
  omega
end
theorem open_mem {ps : List Int} {m : Nat} {x : Int} : x ∈ openTo ps m ↔ (0 ≤ x ∧ x < m) ∧ hasB ps x = false := by
  simp only [openTo, List.mem_filter, List.mem_map, List.mem_range, Bool.not_eq_true']
  constructor
  · rintro ⟨⟨a, ha, rfl⟩, h⟩; exact ⟨by omega, h⟩
  · rintro ⟨h, h2⟩; exact ⟨⟨x.toNat, by omega, by omega⟩, h2⟩
theorem open_pw (ps : List Int) (m : Nat) : (openTo ps m).Pairwise (· < ·) := by
  unfold openTo
  refine List.Pairwise.filter _ ?_
  rw [List.pairwise_map]
  exact List.pairwise_lt_range.imp (by intro a b h; omega)
theorem pw_lt {os : List Int} (h : os.Pairwise (· < ·)) {i j : Nat} (hij : i < j) (hj : j < os.length) : os[i]'(by omega) < os[j] := List.pairwise_iff_getElem.1 h i j (by omega) hj hij
theorem pw_gap {os : List Int} (h : os.Pairwise (· < ·)) (i : Nat) : ∀ d (hd : i + d < os.length), os[i]'(by omega) + (d : Int) ≤ os[i + d]
  | 0, hd => by simp
  | d + 1, hd => by
    have h1 := pw_gap h i d (by omega)
    have h2 := pw_lt h (show i + d < i + (d + 1) by omega) hd
    omega
theorem pw_run {os : List Int} (h : os.Pairwise (· < ·)) {i n : Nat} (hn : 1 ≤ n) (hi : i + n ≤ os.length) (he : os[i + (n - 1)]'(by omega) - os[i]'(by omega) = (n : Int) - 1) : ∀ j (hj : j < n), os[i + j]'(by omega) = os[i]'(by omega) + (j : Int) := by
  intro j hj
  have h1 := pw_gap h i j (by omega)
  have h2 := pw_gap h (i + j) (n - 1 - j) (by omega)
  have e : i + j + (n - 1 - j) = i + (n - 1) := by omega
  simp only [e] at h2
  omega
theorem pw_in {os : List Int} (h : os.Pairwise (· < ·)) {i n : Nat} {k : Int} (hi : i < os.length) (hk : os[i] = k) (hm : ∀ j : Nat, j < n → k + (j : Int) ∈ os) : ∀ j, j < n → ∃ hj : i + j < os.length, os[i + j] = k + (j : Int)
  | 0, _ => ⟨hi, by simpa using hk⟩
  | j + 1, hj => by
    obtain ⟨h1, h2⟩ := pw_in h hi hk hm j (by omega)
    obtain ⟨q, hq, hq2⟩ := List.getElem_of_mem (hm (j + 1) hj)
    have hlt : i + j < q := by
      rcases Nat.lt_or_ge (i + j) q with h3 | h3
      · exact h3
      · exfalso
        rcases Nat.lt_or_ge q (i + j) with h4 | h4
        · have := pw_lt h h4 h1; omega
        · obtain rfl : q = i + j := by omega
          omega
    have hl : i + (j + 1) < os.length := by omega
    refine ⟨hl, ?_⟩
    have h3 := pw_lt h (show i + j < i + (j + 1) by omega) hl
    rcases Nat.lt_or_ge (i + (j + 1)) q with h4 | h4
    · have := pw_lt h h4 hq; omega
    · obtain rfl : q = i + (j + 1) := by omega
      omega
/-- the test of the program at place i of the open seats -/
def goodI (xs : List RingD) (os : List Int) (n i : Nat) : Prop := ∃ (h1 : i < os.length) (h2 : i + (n - 1) < os.length), seatI xs os[i] = seatI xs os[i + (n - 1)] ∧ os[i + (n - 1)] - os[i] = (n : Int) - 1
section
variable {xs : List RingD} {ps : List Int} {n m : Nat} (hc : ∀ x ∈ xs, 0 ≤ x.Count ∧ x.Count ≤ 1048576) (hm : sumCount xs = m) (hn : 1 ≤ n)
include hc hm hn
theorem good_block {i : Nat} (hg : goodI xs (openTo ps m) n i) : ∃ h : i < (openTo ps m).length, blockB xs ps n (openTo ps m)[i] = true ∧ blockL (openTo ps m)[i] n = ((openTo ps m).drop i).take n := by
  obtain ⟨h1, h2, h3, h4⟩ := hg
  have hr := pw_run (open_pw ps m) hn (by omega) h4
  have hb1 := (open_mem.1 (List.getElem_mem h1)).1
  have hb2 := (open_mem.1 (List.getElem_mem h2)).1
  refine ⟨h1, ?_, ?_⟩
  · simp only [blockB, Bool.and_eq_true, decide_eq_true_eq, List.all_eq_true, List.mem_range, Bool.not_eq_true']
    refine ⟨ring_same hc hb1.1 hn (by omega) ?_, fun j hj => ?_⟩
    · rw [h3]; congr 1; omega
    · rw [← hr j hj]
      exact (open_mem.1 (List.getElem_mem _)).2
  · apply List.ext_getElem
    · simp [blockL_len]; omega
    · intro j hj1 hj2
      rw [blockL_len] at hj1
      have := hr j hj1
      simp [blockL, this]
theorem block_good {k : Int} (h0 : 0 ≤ k) (h1 : k < m) (hb : blockB xs ps n k = true) : ∃ i, goodI xs (openTo ps m) n i ∧ ∃ h : i < (openTo ps m).length, (openTo ps m)[i] = k := by
  simp only [blockB, Bool.and_eq_true, decide_eq_true_eq, List.all_eq_true, List.mem_range, Bool.not_eq_true'] at hb
  obtain ⟨e1, e2⟩ := ring_end hc h0 (by omega) hn hb.1
  have hmem : ∀ j : Nat, j < n → k + (j : Int) ∈ openTo ps m := fun j hj => open_mem.2 ⟨by omega, hb.2 j hj⟩
  obtain ⟨i, hi, hk⟩ := List.getElem_of_mem (hmem 0 (by omega))
  have hk' : (openTo ps m)[i] = k := by simpa using hk
  obtain ⟨h2, h3⟩ := pw_in (open_pw ps m) hi hk' hmem (n - 1) (by omega)
  refine ⟨i, ⟨hi, h2, ?_, ?_⟩, hi, hk'⟩
  · rw [hk', h3, ← e2]; congr 1; omega
  · rw [hk', h3]; omega
theorem first_at {i : Nat} (hg : goodI xs (openTo ps m) n i) (hb : ∀ j, j < i → ¬ goodI xs (openTo ps m) n j) : ∃ h : i < (openTo ps m).length, firstB (blockB xs ps n) m = some (openTo ps m)[i].toNat ∧ ((((openTo ps m)[i].toNat : Nat)) : Int) = (openTo ps m)[i] ∧ blockL (openTo ps m)[i] n = ((openTo ps m).drop i).take n := by
  obtain ⟨h, h1, h2⟩ := good_block hc hm hn hg
  have hb1 := (open_mem.1 (List.getElem_mem h)).1
  have hnn : ((((openTo ps m)[i].toNat : Nat)) : Int) = (openTo ps m)[i] := by omega
  refine ⟨h, firstB_some (by rw [hnn]; exact h1) (fun j hj => ?_) (by omega), hnn, h2⟩
  cases hq : blockB xs ps n (j : Int)
  · rfl
  · exfalso
    obtain ⟨i', g1, g2, g3⟩ := block_good (k := (j : Int)) hc hm hn (by omega) (by omega) hq
    rcases Nat.lt_or_ge i' i with h5 | h5
    · exact hb i' h5 g1
    · rcases Nat.lt_or_ge i i' with h6 | h6
      · have := pw_lt (open_pw ps m) h6 g2; omega
      · obtain rfl : i = i' := by omega
        omega
theorem first_none (hb : ∀ j, ¬ goodI xs (openTo ps m) n j) : firstB (blockB xs ps n) m = none :=
  firstB_none fun k hk => by
    cases hq : blockB xs ps n (k : Int)
    · rfl
    · exfalso
      obtain ⟨i', g1, _⟩ := block_good (k := (k : Int)) hc hm hn (by omega) (by omega) hq
      exact hb i' g1
end
/-- the code for rings, booked seats and a number of seats -/
def manyC (xs : List RingD) (ps : List Int) (n : Int) : Int := if bookedB xs ps = true then (if inB n 1 60 = true then 0 else 2) else 1
def firstZ (xs : List RingD) (ps : List Int) (n : Int) : List Int := if manyC xs ps n = 0 then (match firstB (blockB xs ps n.toNat) (sumCount xs).toNat with | some k => blockL (k : Int) n.toNat | none => []) else []
def firstC (xs : List RingD) (ps : List Int) (n : Int) : Int := if manyC xs ps n = 0 then (match firstB (blockB xs ps n.toNat) (sumCount xs).toNat with | some _ => 0 | none => 3) else manyC xs ps n
theorem firstZ_len (xs : List RingD) (ps : List Int) (n : Int) : (firstZ xs ps n).length ≤ 1099511627776 := by
  unfold firstZ
  split
  · rename_i h
    unfold manyC at h
    split at h
    · split at h
      · rename_i h2
        have := inB_true.1 h2
        split
        · rw [blockL_len]; omega
        · simp
      · omega
    · omega
  · simp

end Go.Proofs.YtfcfgkkkepifhaaGreatDoor
