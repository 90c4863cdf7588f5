/- The cheapest seats: the first of a stable sort by price, and what is found by looking for the cheapest again and again: plain lists. Conditions: told with each. -/
import Derived.Test.YtfcfgkkkepifhaaGreatDoorStableAll
import Derived.Test.YtfcfgkkkepifhaaGreatDoorFirstFns
import Derived.Test.YtfcfgkkkepifhaaGreatDoorBookLaw
namespace Go.Proofs.YtfcfgkkkepifhaaGreatDoor
set_option linter.unusedVariables false
open Go.RowKit

def befB (pr : Int → Int) (x y : Int) : Bool := decide (pr x < pr y) || (decide (pr x = pr y) && decide (x ≤ y))
def ordB (pr : Int → Int) (F : List Int) : List Int := F.mergeSort (befB pr)
section
variable {pr : Int → Int}
theorem ordB_perm (F : List Int) : (ordB pr F).Perm F := List.mergeSort_perm F _
theorem ordB_len (F : List Int) : (ordB pr F).length = F.length := (ordB_perm F).length_eq
theorem ordB_srt {F : List Int} (hF : F.Nodup) : Srt pr (ordB pr F) := by
  have h1 := List.pairwise_mergeSort (le := befB pr) (by intro a b c; simp only [befB, Bool.or_eq_true, Bool.and_eq_true, decide_eq_true_eq]; omega) (by intro a b; simp only [befB, Bool.or_eq_true, Bool.and_eq_true, decide_eq_true_eq]; omega) F
  have h2 := (ordB_perm (pr := pr) F).nodup_iff.2 hF
  refine (h1.and h2).imp (fun {a b} ⟨h3, h4⟩ => ?_)
  simp only [befB, Bool.or_eq_true, Bool.and_eq_true, decide_eq_true_eq] at h3
  unfold Bef; omega
theorem srt_eq {X Y : List Int} (hX : Srt pr X) (hY : Srt pr Y) (h : X.Perm Y) : X = Y :=
  List.Perm.eq_of_pairwise (le := Bef pr) (fun a b _ _ h1 h2 => by unfold Bef at h1 h2; omega) hX hY h
theorem ordB_eq {Z F : List Int} (hp : Z.Perm F) (hs : Srt pr Z) (hF : F.Nodup) : Z = ordB pr F := srt_eq hs (ordB_srt hF) (hp.trans (ordB_perm F).symm)
/-- the cheapest so far -/
def scanS (pr : Int → Int) (out : List Int) (b x : Int) : Int := if hasB out x = false ∧ (b < 0 ∨ pr x < pr b) then x else b
def scanT (pr : Int → Int) (out F : List Int) (i : Nat) : Int := (F.take i).foldl (scanS pr out) (-1)
theorem scanT_zero (out F : List Int) : scanT pr out F 0 = -1 := by simp [scanT]
theorem scanT_succ {out F : List Int} {i : Nat} (h : i < F.length) : scanT pr out F (i + 1) = scanS pr out (scanT pr out F i) F[i] := by
  unfold scanT
  rw [List.take_succ_eq_append_getElem h, List.foldl_append]; rfl
theorem scan_inv {out F : List Int} (hF : F.Pairwise (· < ·)) (h0 : ∀ x ∈ F, 0 ≤ x) : ∀ i, i ≤ F.length →
    (scanT pr out F i = -1 ∧ ∀ x ∈ F.take i, hasB out x = true) ∨ (0 ≤ scanT pr out F i ∧ scanT pr out F i ∈ F.take i ∧ hasB out (scanT pr out F i) = false ∧ ∀ y ∈ F.take i, hasB out y = false → y = scanT pr out F i ∨ Bef pr (scanT pr out F i) y)
  | 0, _ => .inl ⟨scanT_zero _ _, by simp⟩
  | i + 1, hi => by
    have ih := scan_inv (out := out) hF h0 i (by omega)
    have hx : i < F.length := by omega
    have hlt : ∀ y ∈ F.take i, y < F[i] := fun y hy => by
      obtain ⟨j, hj, rfl⟩ := List.getElem_of_mem hy
      rw [List.getElem_take]
      simp at hj
      exact List.pairwise_iff_getElem.1 hF j i (by omega) hx (by omega)
    have hmem : ∀ y, y ∈ F.take (i + 1) ↔ y ∈ F.take i ∨ y = F[i] := fun y => by rw [List.take_succ_eq_append_getElem hx, List.mem_append, List.mem_singleton]
    have hxx := h0 _ (List.getElem_mem hx)
    rw [scanT_succ hx]
    generalize scanT pr out F i = b at ih
    generalize F[i] = x at hlt hmem hxx
    unfold scanS
    cases ho : hasB out x
    · by_cases hc : b < 0 ∨ pr x < pr b
      · rw [if_pos ⟨rfl, hc⟩]
        refine .inr ⟨hxx, (hmem x).2 (.inr rfl), ho, fun y hy hn => ?_⟩
        rcases (hmem y).1 hy with hy | hy
        · rcases ih with ⟨_, h2⟩ | ⟨h1, h2, h3, h4⟩
          · rw [h2 y hy] at hn; cases hn
          · have hc := hc.resolve_left (by omega)
            rcases h4 y hy hn with rfl | h5
            · exact .inr (.inl hc)
            · have := h5.le; exact .inr (.inl (by omega))
        · exact .inl hy
      · rw [if_neg (fun h => hc h.2)]
        rcases ih with ⟨h1, _⟩ | ⟨h1, h2, h3, h4⟩
        · omega
        · refine .inr ⟨h1, (hmem b).2 (.inl h2), h3, fun y hy hn => ?_⟩
          rcases (hmem y).1 hy with hy | rfl
          · exact h4 y hy hn
          · have := hlt b h2
            unfold Bef; omega
    · rw [if_neg (by simp)]
      rcases ih with ⟨h1, h2⟩ | ⟨h1, h2, h3, h4⟩
      · refine .inl ⟨h1, fun y hy => ?_⟩
        rcases (hmem y).1 hy with hy | rfl
        · exact h2 y hy
        · exact ho
      · refine .inr ⟨h1, (hmem b).2 (.inl h2), h3, fun y hy hn => ?_⟩
        rcases (hmem y).1 hy with hy | rfl
        · exact h4 y hy hn
        · rw [ho] at hn; cases hn
theorem scanT_bd {out F : List Int} (hF : F.Pairwise (· < ·)) (h0 : ∀ x ∈ F, 0 ≤ x) {i : Nat} (hi : i ≤ F.length) : scanT pr out F i = -1 ∨ scanT pr out F i ∈ F := by
  rcases scan_inv (pr := pr) (out := out) hF h0 i hi with h | h
  · exact .inl h.1
  · exact .inr (List.mem_of_mem_take h.2.1)
theorem scan_all {out F : List Int} {k : Nat} (hF : F.Pairwise (· < ·)) (h0 : ∀ x ∈ F, 0 ≤ x) (hk : k < (ordB pr F).length) (ho : ∀ x, hasB out x = true ↔ x ∈ (ordB pr F).take k) :
    scanT pr out F F.length = (ordB pr F)[k] := by
  have hs := ordB_srt (pr := pr) (lt_nodup hF)
  have hp := ordB_perm (pr := pr) F
  have hz : (ordB pr F)[k] ∈ F := hp.mem_iff.1 (List.getElem_mem hk)
  have hnot : ∀ j (hj : j < (ordB pr F).length), k ≤ j → (ordB pr F)[j] ∉ (ordB pr F).take k := fun j hj hkj hm => by
    obtain ⟨q, hq, e⟩ := List.getElem_of_mem hm
    rw [List.getElem_take] at e
    simp at hq
    have := List.pairwise_iff_getElem.1 hs q j (by omega) hj (by omega)
    rw [e] at this; unfold Bef at this; omega
  have hzo : hasB out (ordB pr F)[k] = false := by
    cases h : hasB out (ordB pr F)[k]
    · rfl
    · exact absurd ((ho _).1 h) (hnot k hk (Nat.le_refl _))
  rcases scan_inv (pr := pr) (out := out) hF h0 F.length (Nat.le_refl _) with ⟨_, h2⟩ | ⟨h1, h2, h3, h4⟩
  · rw [h2 _ (by rw [List.take_length]; exact hz)] at hzo; cases hzo
  · rw [List.take_length] at h2 h4
    rcases h4 _ hz hzo with h5 | h5
    · exact h5.symm
    · obtain ⟨j, hj, e⟩ := List.getElem_of_mem (hp.mem_iff.2 h2)
      have hjk : ¬ j < k := fun hlt => by
        have := (ho (scanT pr out F F.length)).2 (by rw [← e, List.mem_take_iff_getElem]; exact ⟨j, by omega, rfl⟩)
        rw [h3] at this; cases this
      rcases Nat.lt_or_ge k j with h6 | h6
      · have := List.pairwise_iff_getElem.1 hs k j hk hj h6
        rw [e] at this; unfold Bef at this h5; omega
      · obtain rfl : j = k := by omega
        exact e.symm
def sumP (pr : Int → Int) : List Int → Int
  | [] => 0
  | x :: xs => pr x + sumP pr xs
theorem sumP_append (xs ys : List Int) : sumP pr (xs ++ ys) = sumP pr xs + sumP pr ys := by
  induction xs with
  | nil => simp [sumP]
  | cons x xs ih => simp only [List.cons_append, sumP, ih]; omega
theorem sumP_perm {xs ys : List Int} (h : xs.Perm ys) : sumP pr xs = sumP pr ys := by
  induction h with
  | nil => rfl
  | cons x _ ih => simp only [sumP, ih]
  | swap x y l => simp only [sumP]; omega
  | trans _ _ ih1 ih2 => exact ih1.trans ih2
theorem sumP_bd (h : ∀ x, 0 ≤ pr x ∧ pr x ≤ 10000) : ∀ xs : List Int, 0 ≤ sumP pr xs ∧ sumP pr xs ≤ xs.length * 10000
  | [] => by simp [sumP]
  | x :: xs => by
    have h1 := sumP_bd h xs
    have h2 := h x
    simp only [sumP, List.length_cons]
    rw [Int.natCast_add, Int.add_mul]
    omega
theorem sumP_take {xs : List Int} {i : Nat} (h : i < xs.length) : sumP pr (xs.take (i + 1)) = sumP pr (xs.take i) + pr xs[i] := by
  rw [List.take_succ_eq_append_getElem h, sumP_append]; simp [sumP]
/-- n numbers without a double, put in one by one, are the sorted ones -/
theorem ins_sort {zs : List Int} (h : zs.Nodup) : zs.foldl insK [] = sortI zs := by
  obtain ⟨h1, h2⟩ := fold_ins zs [] (by simp) h (by simp)
  exact sorted_eq h2 (sortI_le _) (by simpa using h1.trans (sortI_perm zs).symm)
theorem ins_mem {zs : List Int} (h : zs.Nodup) (x : Int) : hasB (zs.foldl insK []) x = true ↔ x ∈ zs := by
  rw [ins_sort h]
  simp only [hasB, decide_eq_true_eq]
  exact (sortI_perm zs).mem_iff
theorem ins_len {zs : List Int} (h : zs.Nodup) : (zs.foldl insK []).length = zs.length := by rw [ins_sort h, sortI_len]
end
def freeL (xs : List RingD) (ps : List Int) : List Int := openTo ps (sumCount xs).toNat
def cheapOk (xs : List RingD) (ps : List Int) (n : Int) : Bool := decide (manyC xs ps n = 0) && decide (n ≤ (freeL xs ps).length)
def cheapL (xs : List RingD) (ps : List Int) (n : Int) : List Int := (ordB (priceOf xs) (freeL xs ps)).take n.toNat
def cheapZ (xs : List RingD) (ps : List Int) (n : Int) : List Int := if cheapOk xs ps n = true then sortI (cheapL xs ps n) else []
def cheapS (xs : List RingD) (ps : List Int) (n : Int) : Int := if cheapOk xs ps n = true then sumP (priceOf xs) (cheapL xs ps n) else 0
def cheapC (xs : List RingD) (ps : List Int) (n : Int) : Int := if manyC xs ps n = 0 then (if n ≤ (freeL xs ps).length then 0 else 3) else manyC xs ps n
section
variable {xs : List RingD} {ps : List Int} {n : Int}
theorem cheap_bad (h : manyC xs ps n ≠ 0) : cheapZ xs ps n = [] ∧ cheapS xs ps n = 0 ∧ cheapC xs ps n = manyC xs ps n := by simp [cheapZ, cheapS, cheapC, cheapOk, h]
theorem cheap_few (h : manyC xs ps n = 0) (h2 : ¬ n ≤ (freeL xs ps).length) : cheapZ xs ps n = [] ∧ cheapS xs ps n = 0 ∧ cheapC xs ps n = 3 := by simp [cheapZ, cheapS, cheapC, cheapOk, h, h2]
theorem cheap_ok (h : manyC xs ps n = 0) (h2 : n ≤ (freeL xs ps).length) : cheapZ xs ps n = sortI (cheapL xs ps n) ∧ cheapS xs ps n = sumP (priceOf xs) (cheapL xs ps n) ∧ cheapC xs ps n = 0 := by
  have : cheapOk xs ps n = true := by simp [cheapOk, h, h2]
  simp [cheapZ, cheapS, cheapC, this, h, h2]
theorem free_pw (xs : List RingD) (ps : List Int) : (freeL xs ps).Pairwise (· < ·) := open_pw ps _
theorem free_mem {x : Int} (h : x ∈ freeL xs ps) : 0 ≤ x ∧ x < sumCount xs := by
  have := (open_mem.1 h).1
  omega
theorem free_len (hv : ringsB xs = true) : (freeL xs ps).length ≤ 120 := by
  have h1 := (rings_len hv).2
  have h2 := open_len ps (sumCount xs).toNat
  have h3 := sumCount_nn hv
  unfold freeL; omega
theorem cheapZ_len (xs : List RingD) (ps : List Int) (n : Int) : (cheapZ xs ps n).length ≤ 1099511627776 := by
  unfold cheapZ
  split
  · rename_i h
    simp only [cheapOk, Bool.and_eq_true, decide_eq_true_eq] at h
    have h1 := (many_zero h.1).1
    simp only [bookedB, Bool.and_eq_true] at h1
    have h2 := free_len (ps := ps) h1.1
    rw [sortI_len]
    unfold cheapL
    rw [List.length_take, ordB_len]
    omega
  · simp
end
end Go.Proofs.YtfcfgkkkepifhaaGreatDoor
