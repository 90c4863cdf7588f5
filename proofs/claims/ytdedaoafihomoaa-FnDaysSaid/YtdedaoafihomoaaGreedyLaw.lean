/- A day chosen one offer after the other: plain lists. Conditions: told with each. -/
import Derived.Test.YtdedaoafihomoaaOrderFns
import Derived.Test.YtdedaoafihomoaaBookLaw
import Derived.Test.YtdedaoafihomoaaIsDayFns
namespace Go.Proofs.Ytdedaoafihomoaa
set_option linter.unusedVariables false
open Go.RowKit

theorem nodup_at' {α : Type} {gs : List α} (h : gs.Nodup) {i j : Nat} (hi : i < gs.length) (hj : j < gs.length) (e : gs[i] = gs[j]) : i = j :=
  (List.getElem?_inj hi h).1 (by rw [List.getElem?_eq_getElem hi, List.getElem?_eq_getElem hj, e])
def endAt (xs : List OfferD) (p : Int) : Int := match xs[p.toNat]? with | some x => x.Start + x.Length | none => 0
theorem endAt_at {xs : List OfferD} {j : Nat} (h : j < xs.length) : endAt xs (j : Int) = xs[j].Start + xs[j].Length := by simp [endAt, List.getElem?_eq_getElem h]
def ltE (xs : List OfferD) (a b : Int) : Bool := decide (endAt xs a < endAt xs b)
def orderE (xs : List OfferD) : List Int := orderR (ltE xs) (idx xs.length)
theorem insR_perm {α : Type} (lt : α → α → Bool) (l : List α) (x : α) : (insR lt l x).Perm (x :: l) := by
  unfold insR
  refine (List.perm_middle).trans ?_
  rw [List.take_append_drop]
theorem fold_perm {α : Type} (lt : α → α → Bool) : ∀ (xs l : List α), (xs.foldl (insR lt) l).Perm (l ++ xs)
  | [], l => by simp
  | x :: xs, l => by
    rw [List.foldl_cons]
    refine (fold_perm lt xs _).trans ?_
    refine ((insR_perm lt l x).append_right xs).trans ?_
    simpa using (List.perm_middle (a := x) (l₁ := l) (l₂ := xs)).symm
theorem orderE_perm (xs : List OfferD) : (orderE xs).Perm (idx xs.length) := by have h := fold_perm (ltE xs) (idx xs.length) []; rw [List.nil_append] at h; exact h
theorem idx_nodup (n : Nat) : (idx n).Nodup := by
  unfold idx List.Nodup
  rw [List.pairwise_map]
  exact List.nodup_range.imp (by intro a b h; omega)
theorem orderE_nodup (xs : List OfferD) : (orderE xs).Nodup := (orderE_perm xs).nodup_iff.2 (idx_nodup _)
theorem orderE_len (xs : List OfferD) : (orderE xs).length = xs.length := order_idx_len _ _
theorem orderE_mem {xs : List OfferD} {o : Int} (h : o ∈ orderE xs) : ∃ j : Nat, j < xs.length ∧ o = (j : Int) := idx_mem.1 ((orderE_perm xs).mem_iff.1 h)
def stepS (xs : List OfferD) (ch : Int) (l : List Int) (o : Int) : List Int := if l.any (clashAt xs ch o.toNat) = true then l else insK l o
def stepI (xs : List OfferD) (ch : Int) (l : List Int) (o : Int) : List Int := if l.any (clashAt xs ch o.toNat) = true then l else l ++ [o]
def gS (xs : List OfferD) (ch : Int) (k : Nat) : List Int := ((orderE xs).take k).foldl (stepS xs ch) []
def gI (xs : List OfferD) (ch : Int) (k : Nat) : List Int := ((orderE xs).take k).foldl (stepI xs ch) []
section
variable {xs : List OfferD} {ch : Int} {k : Nat} (h : k < (orderE xs).length)
include h
theorem gS_succ : gS xs ch (k + 1) = stepS xs ch (gS xs ch k) (orderE xs)[k] := by
  unfold gS; rw [List.take_succ_eq_append_getElem h, List.foldl_append]; rfl
theorem gI_succ : gI xs ch (k + 1) = stepI xs ch (gI xs ch k) (orderE xs)[k] := by
  unfold gI; rw [List.take_succ_eq_append_getElem h, List.foldl_append]; rfl
end
theorem gI_mem (xs : List OfferD) (ch : Int) : ∀ k, k ≤ (orderE xs).length → ∀ x ∈ gI xs ch k, x ∈ (orderE xs).take k
  | 0, _, x, hx => by simp [gI] at hx
  | k + 1, h, x, hx => by
    rw [gI_succ (by omega)] at hx
    rw [List.take_succ_eq_append_getElem (by omega), List.mem_append]
    unfold stepI at hx
    split at hx
    · exact .inl (gI_mem xs ch k (by omega) x hx)
    · rcases List.mem_append.1 hx with hx | hx
      · exact .inl (gI_mem xs ch k (by omega) x hx)
      · exact .inr hx
theorem gI_new {xs : List OfferD} {ch : Int} {k : Nat} (h : k < (orderE xs).length) : (orderE xs)[k] ∉ gI xs ch k := fun hm => by
  obtain ⟨i, hi, e⟩ := List.getElem_of_mem (gI_mem xs ch k (by omega) _ hm)
  rw [List.getElem_take] at e
  have hl : i < k := by rw [List.length_take] at hi; omega
  have := nodup_at' (orderE_nodup xs) (by omega) h e
  omega
theorem g_same (xs : List OfferD) (ch : Int) : ∀ k, k ≤ (orderE xs).length → (gS xs ch k).Perm (gI xs ch k) ∧ (gS xs ch k).Pairwise (· ≤ ·)
  | 0, _ => by simp [gS, gI]
  | k + 1, h => by
    obtain ⟨h1, h2⟩ := g_same xs ch k (by omega)
    rw [gS_succ (by omega), gI_succ (by omega)]
    have hany : (gS xs ch k).any (clashAt xs ch ((orderE xs)[k]).toNat) = (gI xs ch k).any (clashAt xs ch ((orderE xs)[k]).toNat) := h1.any_eq
    unfold stepS stepI
    rw [hany]
    split
    · exact ⟨h1, h2⟩
    · have hn : (orderE xs)[k] ∉ gS xs ch k := fun hm => gI_new (ch := ch) (by omega) (h1.mem_iff.1 hm)
      refine ⟨(insK_perm hn).trans ?_, insK_le h2⟩
      exact (h1.cons _).trans (by simpa using (List.perm_append_singleton ((orderE xs)[k]) (gI xs ch k)).symm)
theorem g_sort (xs : List OfferD) (ch : Int) : sortI (gI xs ch xs.length) = gS xs ch xs.length := by
  obtain ⟨h1, h2⟩ := g_same xs ch xs.length (by rw [orderE_len]; exact Nat.le_refl _)
  exact sorted_eq (sortI_le _) h2 ((sortI_perm _).trans h1.symm)
theorem gS_in {xs : List OfferD} {ch : Int} {k : Nat} (h : k ≤ (orderE xs).length) : ∀ x ∈ gS xs ch k, (0 ≤ x ∧ x < (xs.length : Int)) := fun x hx => by
  have hm := gI_mem xs ch k h x ((g_same xs ch k h).1.mem_iff.1 hx)
  obtain ⟨j, hj, rfl⟩ := orderE_mem (List.mem_of_mem_take hm)
  omega
theorem gI_in {xs : List OfferD} {ch : Int} {k : Nat} (h : k ≤ (orderE xs).length) : ∀ x ∈ gI xs ch k, (0 ≤ x ∧ x < (xs.length : Int)) := fun x hx => by
  obtain ⟨j, hj, rfl⟩ := orderE_mem (List.mem_of_mem_take (gI_mem xs ch k h x hx))
  omega
theorem gS_new {xs : List OfferD} {ch : Int} {k : Nat} (h : k < (orderE xs).length) : (orderE xs)[k] ∉ gS xs ch k := fun hm => gI_new (ch := ch) h ((g_same xs ch k (by omega)).1.mem_iff.1 hm)
theorem gI_len (xs : List OfferD) (ch : Int) : ∀ k, k ≤ (orderE xs).length → (gI xs ch k).length ≤ k
  | 0, _ => by simp [gI]
  | k + 1, h => by
    have ih := gI_len xs ch k (by omega)
    rw [gI_succ (by omega)]
    unfold stepI
    split
    · omega
    · simp; omega
theorem gS_len (xs : List OfferD) (ch : Int) (k : Nat) (h : k ≤ (orderE xs).length) : (gS xs ch k).length ≤ k := by rw [(g_same xs ch k h).1.length_eq]; exact gI_len xs ch k h
def greedyC (xs : List OfferD) (ch : Int) : Int := if offersB xs = true then (if inB ch 0 240 = true then 0 else 2) else 1
def greedyZ (xs : List OfferD) (ch : Int) : List Int := if greedyC xs ch = 0 then gS xs ch xs.length else []
theorem greedy_bad {xs : List OfferD} {ch : Int} (h : offersB xs = false) : greedyZ xs ch = [] ∧ greedyC xs ch = 1 := by simp [greedyZ, greedyC, h]
theorem greedy_range {xs : List OfferD} {ch : Int} (h : offersB xs = true) (h2 : inB ch 0 240 = false) : greedyZ xs ch = [] ∧ greedyC xs ch = 2 := by simp [greedyZ, greedyC, h, h2]
theorem greedy_ok {xs : List OfferD} {ch : Int} (h : offersB xs = true) (h2 : inB ch 0 240 = true) : greedyZ xs ch = gS xs ch xs.length ∧ greedyC xs ch = 0 := by simp [greedyZ, greedyC, h, h2]
theorem greedyZ_len (xs : List OfferD) (ch : Int) : (greedyZ xs ch).length ≤ 1099511627776 := by
  unfold greedyZ
  split
  · rename_i h
    have hv : offersB xs = true := by
      cases h1 : offersB xs
      · rw [(greedy_bad h1).2] at h; omega
      · rfl
    have h1 := offers_len hv
    have h2 := gS_len xs ch xs.length (by rw [orderE_len]; exact Nat.le_refl _)
    omega
  · simp

end Go.Proofs.Ytdedaoafihomoaa
