/- The library's stable sort of a row of numbers: two sorted blocks merged. Conditions: the row is the call's own; the comparing closure answers as told and leaves what was there. -/
import Derived.Test.YtadmpefbpklibaaStableT
namespace Go.Proofs.Ytadmpefbpklibaa
set_option linter.unusedVariables false
open Go.RowKit Go.Sort

theorem dat_srt {pr : Int → Int} {P U V S L : List Int} {a m b : Nat} (hL : L = P ++ (U ++ (V ++ S))) (ha : a = P.length) (hm : m = a + U.length) (hb : b = m + V.length) (hU : Srt pr U) (hV : Srt pr V) :
    (∀ i j, a ≤ i → i ≤ j → j < m → pr (L.getD i 0) ≤ pr (L.getD j 0)) ∧ (∀ i j, m ≤ i → i ≤ j → j < b → pr (L.getD i 0) ≤ pr (L.getD j 0)) := by
  subst hL
  constructor
  · intro i j h1 h2 h3
    rw [dat_mid (by omega) (by omega), dat_mid (by omega) (by omega)]
    exact srt_le hU (by omega) (by omega)
  · intro i j h1 h2 h3
    rw [dat_mid2 (by omega) (by omega), dat_mid2 (by omega) (by omega)]
    exact srt_le hV (by omega) (by omega)
def SCase (a m b mid st rr : Nat) : Prop := (mid < m ∧ st + b = mid + m ∧ rr = mid) ∨ (¬ mid < m ∧ st = a ∧ rr = m)
theorem sym_mono {pr : Int → Int} {P U V S L : List Int} {a m b mid p st rr : Nat} (hL : L = P ++ (U ++ (V ++ S))) (ha : a = P.length) (hm : m = a + U.length) (hb : b = m + V.length) (hU : Srt pr U) (hV : Srt pr V)
    (h1 : 0 < U.length) (h2 : 0 < V.length) (hmid : mid = (a + b) / 2) (hcase : SCase a m b mid st rr) (hp : p + 1 = mid + m) : Mono (qCut pr L p) st rr := by
  obtain ⟨g1, g2⟩ := dat_srt hL ha hm hb hU hV
  have hc : ((a + b) / 2 < m ∧ st = (a + b) / 2 + m - b ∧ rr = (a + b) / 2) ∨ (¬ (a + b) / 2 < m ∧ st = a ∧ rr = m) := by
    rcases hcase with h | h
    · left; omega
    · right; omega
  have := cut_mono (g := fun k => pr (L.getD k 0)) g1 g2 (by omega) (by omega) hc
  rw [show (a + b) / 2 + m - 1 = p by omega] at this
  exact this
theorem sym_split {pr : Int → Int} {P U V S L : List Int} {a m b mid p st rr s : Nat} (hL : L = P ++ (U ++ (V ++ S))) (ha : a = P.length) (hm : m = a + U.length) (hb : b = m + V.length) (hU : Srt pr U) (hV : Srt pr V)
    (hlt : ∀ u ∈ U, ∀ v ∈ V, u < v) (hmid : mid = (a + b) / 2 ∧ a < m ∧ m < b) (hcase : SCase a m b mid st rr) (hp : p + 1 = mid + m) (hs : Srch (qCut pr L p) st rr s s) :
    ∃ U1 U2 V1 V2, U = U1 ++ U2 ∧ V = V1 ++ V2 ∧ a + U1.length = s ∧ s + U2.length = m ∧ s + V1.length = mid ∧ mid + m + V2.length = b + s ∧
      ∀ Z1 Z2 : List Int, Z1.Perm (U1 ++ V1) → Z2.Perm (U2 ++ V2) → Srt pr Z1 → Srt pr Z2 → Srt pr (Z1 ++ Z2) ∧ (Z1 ++ Z2).Perm (U ++ V) := by
  obtain ⟨g1, g2⟩ := dat_srt hL ha hm hb hU hV
  obtain ⟨hmid, ham, hmb⟩ := hmid
  have hc : ((a + b) / 2 < m ∧ st = (a + b) / 2 + m - b ∧ rr = (a + b) / 2) ∨ (¬ (a + b) / 2 < m ∧ st = a ∧ rr = m) := by
    rcases hcase with h | h
    · left; omega
    · right; omega
  have hs' : Srch (fun c => !decide ((fun k => pr (L.getD k 0)) ((a + b) / 2 + m - 1 - c) < (fun k => pr (L.getD k 0)) c)) st rr s s := by
    rw [show (a + b) / 2 + m - 1 = p by omega]; exact hs
  obtain ⟨c1, c2⟩ := cut_le (g := fun k => pr (L.getD k 0)) g1 g2 ham hmb hc hs' rfl
  have hss : a ≤ s ∧ s ≤ m ∧ s ≤ mid ∧ mid + m ≤ b + s := by
    obtain ⟨k1, -, k3, -, -⟩ := hs
    rcases hcase with ⟨q1, q2, q3⟩ | ⟨q1, q2, q3⟩ <;> omega
  refine ⟨U.take (s - a), U.drop (s - a), V.take (mid - s), V.drop (mid - s), (List.take_append_drop _ _).symm, (List.take_append_drop _ _).symm, by simp; omega, by simp; omega, by simp; omega, by simp; omega, fun Z1 Z2 p1 p2 s1 s2 => ?_⟩
  have hj := join_srt (pr := pr) (U1 := U.take (s - a)) (U2 := U.drop (s - a)) (V1 := V.take (mid - s)) (V2 := V.drop (mid - s)) (Z1 := Z1) (Z2 := Z2)
    (by rw [List.take_append_drop]; exact hU) (by rw [List.take_append_drop]; exact hV) (by rw [List.take_append_drop, List.take_append_drop]; exact hlt)
    (fun u hu v hv => by
      obtain ⟨i, hi, rfl⟩ := List.getElem_of_mem hu
      obtain ⟨j, hj, rfl⟩ := List.getElem_of_mem hv
      rw [List.getElem_take, List.getElem_drop]
      simp at hi hj
      have := c1 (a + i) (m + (mid - s + j)) (by omega) (by omega) (by omega) (by omega)
      simp only [hL] at this
      rw [dat_mid (by omega) (by omega), dat_mid2 (by omega) (by omega), show a + i - P.length = i by omega, show m + (mid - s + j) - (P.length + U.length) = mid - s + j by omega, getD_at (by omega), getD_at (by omega)] at this
      exact this)
    (fun v hv u hu => by
      obtain ⟨i, hi, rfl⟩ := List.getElem_of_mem hv
      obtain ⟨j, hj, rfl⟩ := List.getElem_of_mem hu
      rw [List.getElem_take, List.getElem_drop]
      simp at hi hj
      have := c2 (m + i) (a + (s - a + j)) (by omega) (by omega) (by omega) (by omega)
      simp only [hL] at this
      rw [dat_mid (k := a + (s - a + j)) (by omega) (by omega), dat_mid2 (k := m + i) (by omega) (by omega), show a + (s - a + j) - P.length = s - a + j by omega, show m + i - (P.length + U.length) = i by omega, getD_at (by omega), getD_at (by omega)] at this
      exact this) p1 p2 s1 s2
  rw [List.take_append_drop, List.take_append_drop] at hj
  exact hj
def SymFor (pr : Int → Int) (ok : Int → Prop) (bx N c g : Nat) (w0 : World) (K : Nat) : Prop := ∀ (P U V S : List Int) (a m b : Nat) (w : World), U.length + V.length ≤ K → 0 < U.length → 0 < V.length → a = P.length → m = P.length + U.length → b = P.length + U.length + V.length →
    Srt pr U → Srt pr V → (∀ u ∈ U, ∀ v ∈ V, u < v) → (∀ x ∈ U ++ V, ok x) → RowAt g N c w0 w (P ++ (U ++ (V ++ S))) →
    Calls Try.prog 49 #[.slice (some ⟨g, 0, none⟩) N c, .int .i64 (a : Int), .int .i64 (m : Int), .int .i64 (b : Int), .func (.func 23) #[] #[.pointer (some ⟨bx, 0, none⟩)]] w (BlockPost pr g N c w0 P (U ++ V) S)

end Go.Proofs.Ytadmpefbpklibaa
