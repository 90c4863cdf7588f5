/- Joined texts: StableLaw, StableA, StableB, StableM, StableT, StableG, StableH, StableS. Conditions: told in each. -/
import Derived.Test.YtfcfgkkkepifhaaGreatDoorOpenSeatsFns
import Derived.BigRegion
import Derived.Lib.Small
import Derived.Deep.DeepCutAuto
import Derived.Deep.CutRange
/- StableLaw -/
namespace Go.Proofs.YtfcfgkkkepifhaaGreatDoor
set_option linter.unusedVariables false

def Bef (pr : Int → Int) (x y : Int) : Prop := pr x < pr y ∨ (pr x = pr y ∧ x < y)
def Srt (pr : Int → Int) (xs : List Int) : Prop := xs.Pairwise (Bef pr)
section
variable {pr : Int → Int}
theorem Bef.trans {x y z : Int} (h : Bef pr x y) (k : Bef pr y z) : Bef pr x z := by unfold Bef at *; omega
theorem Bef.le {x y : Int} (h : Bef pr x y) : pr x ≤ pr y := by unfold Bef at h; omega
theorem set_mid {P S : List Int} {x y : Int} {k : Nat} (hk : k = P.length) : (P ++ x :: S).set k y = P ++ y :: S := by
  subst hk; rw [List.set_append, if_neg (by omega), Nat.sub_self]; rfl
theorem get_mid {P S : List Int} {x : Int} {k : Nat} (hk : k = P.length) : (P ++ x :: S)[k]? = some x := by
  subst hk; simp
theorem swap_mid {P M S : List Int} {x y : Int} {k l : Nat} (hk : k = P.length) (hl : l = P.length + 1 + M.length) :
    ((P ++ x :: (M ++ y :: S)).set k y).set l x = P ++ y :: (M ++ x :: S) := by
  rw [set_mid hk]
  have e1 : P ++ y :: (M ++ y :: S) = (P ++ y :: M) ++ y :: S := by simp
  have e2 : P ++ y :: (M ++ x :: S) = (P ++ y :: M) ++ x :: S := by simp
  rw [e1, e2, set_mid (by simp; omega)]
theorem get_mid2 {P M S : List Int} {x y : Int} {l : Nat} (hl : l = P.length + 1 + M.length) : (P ++ x :: (M ++ y :: S))[l]? = some y := by
  have e1 : P ++ x :: (M ++ y :: S) = (P ++ x :: M) ++ y :: S := by simp
  rw [e1, get_mid (by simp; omega)]
/-- the row while two ranges are being swapped: i elements are done -/
def swp (P A M B S : List Int) (i : Nat) : List Int := (P ++ B.take i) ++ (A.drop i ++ (M ++ (A.take i ++ (B.drop i ++ S))))
theorem swp_zero (P A M B S : List Int) : swp P A M B S 0 = P ++ (A ++ (M ++ (B ++ S))) := by simp [swp]
theorem swp_all {P A M B S : List Int} {n : Nat} (hA : A.length = n) (hB : B.length = n) : swp P A M B S n = P ++ (B ++ (M ++ (A ++ S))) := by
  simp [swp, List.take_of_length_le (Nat.le_of_eq hA), List.take_of_length_le (Nat.le_of_eq hB), List.drop_of_length_le (Nat.le_of_eq hA), List.drop_of_length_le (Nat.le_of_eq hB)]
theorem swp_at {P A M B S : List Int} {n i : Nat} (hA : A.length = n) (hB : B.length = n) (hi : i < n) :
    ∃ Q M' T x y, swp P A M B S i = Q ++ x :: (M' ++ y :: T) ∧ swp P A M B S (i + 1) = Q ++ y :: (M' ++ x :: T) ∧ Q.length = P.length + i ∧ M'.length + 1 = n + M.length := by
  have hAd : A.drop i = A[i]'(by omega) :: A.drop (i + 1) := List.drop_eq_getElem_cons (by omega)
  have hBd : B.drop i = B[i]'(by omega) :: B.drop (i + 1) := List.drop_eq_getElem_cons (by omega)
  have hAt : A.take (i + 1) = A.take i ++ [A[i]'(by omega)] := List.take_succ_eq_append_getElem (by omega)
  have hBt : B.take (i + 1) = B.take i ++ [B[i]'(by omega)] := List.take_succ_eq_append_getElem (by omega)
  refine ⟨P ++ B.take i, A.drop (i + 1) ++ (M ++ A.take i), B.drop (i + 1) ++ S, A[i]'(by omega), B[i]'(by omega), ?_, ?_, ?_, ?_⟩
  · unfold swp; rw [hAd, hBd]; simp only [List.append_assoc, List.cons_append, List.nil_append]
  · unfold swp; rw [hAt, hBt]; simp only [List.append_assoc, List.cons_append, List.nil_append]
  · simp; omega
  · simp; omega
/-- a search by halves for the first index at which q fails -/
def Srch (q : Nat → Bool) (lo hi i j : Nat) : Prop := lo ≤ i ∧ i ≤ j ∧ j ≤ hi ∧ (∀ k, lo ≤ k → k < i → q k = true) ∧ (∀ k, j ≤ k → k < hi → q k = false)
def Mono (q : Nat → Bool) (lo hi : Nat) : Prop := ∀ k k', lo ≤ k' → k' ≤ k → k < hi → q k = true → q k' = true
theorem Srch.start {q : Nat → Bool} {lo hi : Nat} (h : lo ≤ hi) : Srch q lo hi lo hi := ⟨Nat.le_refl _, h, Nat.le_refl _, fun k _ _ => by omega, fun k _ _ => by omega⟩
theorem Srch.up {q : Nat → Bool} {lo hi i j h : Nat} (s : Srch q lo hi i j) (hm : Mono q lo hi) (h1 : i ≤ h) (h2 : h < j) (hq : q h = true) : Srch q lo hi (h + 1) j := by
  obtain ⟨a, b, c, d, e⟩ := s
  exact ⟨by omega, by omega, c, fun k k1 k2 => hm h k k1 (by omega) (by omega) hq, e⟩
theorem Srch.down {q : Nat → Bool} {lo hi i j h : Nat} (s : Srch q lo hi i j) (hm : Mono q lo hi) (h1 : i ≤ h) (h2 : h < j) (hq : q h = false) : Srch q lo hi i h := by
  obtain ⟨a, b, c, d, e⟩ := s
  refine ⟨a, h1, by omega, d, fun k k1 k2 => ?_⟩
  cases hk : q k
  · rfl
  · have := hm k h (by omega) k1 k2 hk
    rw [hq] at this; cases this
theorem ins_srt {X : List Int} {z : Int} {t : Nat} (hX : Srt pr X) (h1 : ∀ k (hk : k < X.length), k < t → Bef pr X[k] z) (h2 : ∀ k (hk : k < X.length), t ≤ k → Bef pr z X[k]) : Srt pr (X.take t ++ z :: X.drop t) := by
  have hX' := hX
  rw [← List.take_append_drop t X] at hX'
  have hp := List.pairwise_append.1 hX'
  refine List.pairwise_append.2 ⟨hp.1, List.pairwise_cons.2 ⟨fun y hy => ?_, hp.2.1⟩, fun x hx y hy => ?_⟩
  · obtain ⟨k, hk, rfl⟩ := List.getElem_of_mem hy
    rw [List.getElem_drop]
    exact h2 _ _ (by omega)
  · rcases List.mem_cons.1 hy with rfl | hy
    · obtain ⟨k, hk, rfl⟩ := List.getElem_of_mem hx
      rw [List.getElem_take]
      simp at hk
      exact h1 _ _ (by omega)
    · exact hp.2.2 x hx y hy
theorem ins_perm (X : List Int) (z : Int) (t : Nat) : (X.take t ++ z :: X.drop t).Perm (z :: X) := by
  have := List.perm_middle (a := z) (l₁ := X.take t) (l₂ := X.drop t)
  rwa [List.take_append_drop] at this
theorem srt_le {X : List Int} (h : Srt pr X) {i j : Nat} (hij : i ≤ j) (hj : j < X.length) : pr (X.getD i 0) ≤ pr (X.getD j 0) := by
  rw [List.getD_eq_getElem?_getD, List.getD_eq_getElem?_getD, List.getElem?_eq_getElem hj, List.getElem?_eq_getElem (show i < X.length by omega)]
  simp only [Option.getD_some]
  rcases Nat.lt_or_ge i j with h1 | h1
  · exact (List.pairwise_iff_getElem.1 h i j (by omega) hj h1).le
  · obtain rfl : i = j := by omega
    exact Int.le_refl _
theorem dat_mid {P U T : List Int} {k : Nat} (h1 : P.length ≤ k) (h2 : k < P.length + U.length) : (P ++ (U ++ T)).getD k 0 = U.getD (k - P.length) 0 := by
  rw [List.getD_eq_getElem?_getD, List.getD_eq_getElem?_getD, List.getElem?_append_right h1, List.getElem?_append_left (by omega)]
theorem dat_mid2 {P U V T : List Int} {k : Nat} (h1 : P.length + U.length ≤ k) (h2 : k < P.length + U.length + V.length) : (P ++ (U ++ (V ++ T))).getD k 0 = V.getD (k - (P.length + U.length)) 0 := by
  rw [← List.append_assoc, dat_mid (by simp; omega) (by simp; omega), List.length_append]
theorem getD_mem {X : List Int} {k : Nat} (h : k < X.length) : X.getD k 0 ∈ X := by
  rw [List.getD_eq_getElem?_getD, List.getElem?_eq_getElem h]; exact List.getElem_mem h
/-- what the symmetric search has cut: the lesser parts lie before the greater ones -/
theorem scut_le {g : Nat → Int} {a m b s e st rr : Nat} (hU : ∀ i j, a ≤ i → i ≤ j → j < m → g i ≤ g j) (hV : ∀ i j, m ≤ i → i ≤ j → j < b → g i ≤ g j)
    (ham : a < m) (hmb : m < b) (hcase : ((a + b) / 2 < m ∧ st = (a + b) / 2 + m - b ∧ rr = (a + b) / 2) ∨ (¬ (a + b) / 2 < m ∧ st = a ∧ rr = m))
    (hs : Srch (fun c => !decide (g ((a + b) / 2 + m - 1 - c) < g c)) st rr s s) (he : e = (a + b) / 2 + m - s) :
    (∀ i j, a ≤ i → i < s → e ≤ j → j < b → g i ≤ g j) ∧ (∀ i j, m ≤ i → i < e → s ≤ j → j < m → g i < g j) := by
  obtain ⟨h1, -, h3, h4, h5⟩ := hs
  constructor
  · intro i j i1 i2 j1 j2
    have hst : st < s := by rcases hcase with ⟨c1, c2, c3⟩ | ⟨c1, c2, c3⟩ <;> omega
    have hq := h4 (s - 1) (by omega) (by omega)
    simp only [Bool.not_eq_true', decide_eq_false_iff_not] at hq
    rw [show (a + b) / 2 + m - 1 - (s - 1) = e by omega] at hq
    have u1 := hU i (s - 1) i1 (by omega) (by rcases hcase with ⟨c1, c2, c3⟩ | ⟨c1, c2, c3⟩ <;> omega)
    have v1 := hV e j (by rcases hcase with ⟨c1, c2, c3⟩ | ⟨c1, c2, c3⟩ <;> omega) j1 j2
    omega
  · intro i j i1 i2 j1 j2
    have hsr : s < rr := by rcases hcase with ⟨c1, c2, c3⟩ | ⟨c1, c2, c3⟩ <;> omega
    have hq := h5 s (by omega) hsr
    simp only [Bool.not_eq_false', decide_eq_true_eq] at hq
    rw [show (a + b) / 2 + m - 1 - s = e - 1 by omega] at hq
    have v1 := hV i (e - 1) i1 (by omega) (by rcases hcase with ⟨c1, c2, c3⟩ | ⟨c1, c2, c3⟩ <;> omega)
    have u1 := hU s j (by rcases hcase with ⟨c1, c2, c3⟩ | ⟨c1, c2, c3⟩ <;> omega) j1 j2
    omega
theorem cut_mono {g : Nat → Int} {a m b st rr : Nat} (hU : ∀ i j, a ≤ i → i ≤ j → j < m → g i ≤ g j) (hV : ∀ i j, m ≤ i → i ≤ j → j < b → g i ≤ g j)
    (ham : a < m) (hmb : m < b) (hcase : ((a + b) / 2 < m ∧ st = (a + b) / 2 + m - b ∧ rr = (a + b) / 2) ∨ (¬ (a + b) / 2 < m ∧ st = a ∧ rr = m)) :
    Mono (fun c => !decide (g ((a + b) / 2 + m - 1 - c) < g c)) st rr := by
  intro k k' h1 h2 h3 hq
  simp only [Bool.not_eq_true', decide_eq_false_iff_not] at hq ⊢
  have u1 := hU k' k (by rcases hcase with ⟨c1, c2, c3⟩ | ⟨c1, c2, c3⟩ <;> omega) h2 (by rcases hcase with ⟨c1, c2, c3⟩ | ⟨c1, c2, c3⟩ <;> omega)
  have v1 := hV ((a + b) / 2 + m - 1 - k) ((a + b) / 2 + m - 1 - k') (by rcases hcase with ⟨c1, c2, c3⟩ | ⟨c1, c2, c3⟩ <;> omega) (by omega) (by rcases hcase with ⟨c1, c2, c3⟩ | ⟨c1, c2, c3⟩ <;> omega)
  omega
theorem join_srt {U1 U2 V1 V2 Z1 Z2 : List Int} (hU : Srt pr (U1 ++ U2)) (hV : Srt pr (V1 ++ V2)) (hlt : ∀ u ∈ U1 ++ U2, ∀ v ∈ V1 ++ V2, u < v)
    (c1 : ∀ u ∈ U1, ∀ v ∈ V2, pr u ≤ pr v) (c2 : ∀ v ∈ V1, ∀ u ∈ U2, pr v < pr u) (p1 : Z1.Perm (U1 ++ V1)) (p2 : Z2.Perm (U2 ++ V2)) (s1 : Srt pr Z1) (s2 : Srt pr Z2) :
    Srt pr (Z1 ++ Z2) ∧ (Z1 ++ Z2).Perm ((U1 ++ U2) ++ (V1 ++ V2)) := by
  have hU' := (List.pairwise_append.1 hU).2.2
  have hV' := (List.pairwise_append.1 hV).2.2
  constructor
  · refine List.pairwise_append.2 ⟨s1, s2, fun x hx y hy => ?_⟩
    have hx := p1.mem_iff.1 hx
    have hy := p2.mem_iff.1 hy
    rcases List.mem_append.1 hx with hx | hx <;> rcases List.mem_append.1 hy with hy | hy
    · exact hU' x hx y hy
    · have := c1 x hx y hy
      have := hlt x (List.mem_append.2 (.inl hx)) y (List.mem_append.2 (.inr hy))
      unfold Bef; omega
    · exact .inl (c2 x hx y hy)
    · exact hV' x hx y hy
  · refine (p1.append p2).trans ?_
    have h : (V1 ++ U2).Perm (U2 ++ V1) := List.perm_append_comm
    have h2 : (U1 ++ ((V1 ++ U2) ++ V2)).Perm (U1 ++ ((U2 ++ V1) ++ V2)) := (h.append_right V2).append_left U1
    simpa [List.append_assoc] using h2
/-- blocks: all but the last have bs elements, the last one at most as many -/
def Chk (bs : Nat) : List (List Int) → Prop
  | [] => True
  | c :: r => (r = [] → c.length ≤ bs) ∧ (r ≠ [] → c.length = bs) ∧ Chk bs r ∧ 0 < c.length
def Goods (pr : Int → Int) (C : List (List Int)) : Prop := (∀ c ∈ C, Srt pr c) ∧ C.Pairwise fun A B => ∀ x ∈ A, ∀ y ∈ B, x < y
theorem Chk.app {bs : Nat} : ∀ {D : List (List Int)} {T : List (List Int)}, (∀ c ∈ D, c.length = bs) → 0 < bs → Chk bs T → Chk bs (D ++ T)
  | [], T, _, _, h => h
  | d :: D, T, hD, h0, h => by
    have hd := hD d (by simp)
    exact ⟨fun _ => by omega, fun _ => hd, Chk.app (fun c hc => hD c (by simp [hc])) h0 h, by omega⟩
theorem Chk.mono {bs bs' : Nat} {c : List Int} (h : Chk bs [c]) (hb : bs ≤ bs') : Chk bs' [c] := ⟨fun _ => by have := h.1 rfl; omega, fun h => absurd rfl h, trivial, h.2.2.2⟩
/-- two blocks in front are there where 2 bs elements are left -/
theorem Chk.two {bs : Nat} {T : List (List Int)} (h : Chk bs T) (h0 : 0 < bs) (hl : 2 * bs ≤ T.flatten.length) : ∃ c d r, T = c :: d :: r ∧ c.length = bs ∧ d.length = bs ∧ Chk bs r := by
  match T, h with
  | [], _ => simp at hl; omega
  | [c], h => have := h.1 rfl; simp at hl; omega
  | c :: d :: r, h =>
    refine ⟨c, d, r, rfl, h.2.1 (by simp), ?_, h.2.2.1.2.2.1⟩
    by_cases hr : r = []
    · subst hr
      have h1 := h.2.1 (by simp)
      have h2 := h.2.2.1.1 rfl
      simp at hl; omega
    · exact h.2.2.1.2.1 hr
theorem Chk.tail {bs : Nat} {T : List (List Int)} (h : Chk bs T) (h0 : 0 < bs) (hl : T.flatten.length < 2 * bs) : (bs < T.flatten.length ∧ ∃ c d, T = [c, d] ∧ c.length = bs ∧ 0 < d.length ∧ d.length < bs) ∨ (T.flatten.length ≤ bs ∧ (T = [] ∨ ∃ c, T = [c] ∧ 0 < c.length ∧ c.length ≤ bs)) := by
  match T, h with
  | [], _ => exact .inr ⟨by simp, .inl rfl⟩
  | [c], h => exact .inr ⟨by simpa using h.1 rfl, .inr ⟨c, rfl, h.2.2.2, h.1 rfl⟩⟩
  | [c, d], h =>
    have h1 := h.2.1 (by simp)
    have h2 := h.2.2.1.2.2.2
    simp at hl
    exact .inl ⟨by simp; omega, c, d, rfl, h1, h2, by omega⟩
  | c :: d :: e :: r, h =>
    have h1 := h.2.1 (by simp)
    have h2 := h.2.2.1.2.1 (by simp)
    simp at hl; omega
theorem Chk.one {bs : Nat} {T : List (List Int)} (h : Chk bs T) (h0 : 0 < bs) (hl : T.flatten.length ≤ bs) : T = [] ∨ ∃ c, T = [c] := by
  match T, h with
  | [], _ => exact .inl rfl
  | [c], h => exact .inr ⟨c, rfl⟩
  | c :: d :: r, h =>
    have h1 := h.2.1 (by simp)
    have h2 := h.2.2.1.2.2.2
    simp at hl; omega
theorem Goods.merge {D r : List (List Int)} {c d Z : List Int} (h : Goods pr (D ++ c :: d :: r)) (hp : Z.Perm (c ++ d)) (hs : Srt pr Z) : Goods pr (D ++ Z :: r) := by
  obtain ⟨h1, h2⟩ := h
  have hp1 := List.pairwise_append.1 h2
  have hp2 := List.pairwise_cons.1 hp1.2.1
  have hp3 := List.pairwise_cons.1 hp2.2
  refine ⟨fun x hx => ?_, List.pairwise_append.2 ⟨hp1.1, List.pairwise_cons.2 ⟨fun B hB x hx y hy => ?_, hp3.2⟩, fun A hA B hB x hx y hy => ?_⟩⟩
  · rcases List.mem_append.1 hx with hx | hx
    · exact h1 x (by simp [hx])
    · rcases List.mem_cons.1 hx with rfl | hx
      · exact hs
      · exact h1 x (by simp [hx])
  · rcases List.mem_append.1 (hp.mem_iff.1 hx) with hx | hx
    · exact hp2.1 B (by simp [hB]) x hx y hy
    · exact hp3.1 B hB x hx y hy
  · rcases List.mem_cons.1 hB with rfl | hB
    · rcases List.mem_append.1 (hp.mem_iff.1 hy) with hy | hy
      · exact hp1.2.2 A hA c (by simp) x hx y hy
      · exact hp1.2.2 A hA d (by simp) x hx y hy
    · exact hp1.2.2 A hA B (by simp [hB]) x hx y hy
theorem Goods.parts {D r : List (List Int)} {c d : List Int} (h : Goods pr (D ++ c :: d :: r)) : Srt pr c ∧ Srt pr d ∧ ∀ x ∈ c, ∀ y ∈ d, x < y := by
  have hp1 := List.pairwise_append.1 h.2
  have hp2 := List.pairwise_cons.1 hp1.2.1
  exact ⟨h.1 c (by simp), h.1 d (by simp), hp2.1 d (by simp)⟩
/-- one more block of a rising list, sorted -/
theorem Goods.more {D : List (List Int)} {c Z : List Int} (h : Goods pr D) (hlt : ∀ x ∈ D.flatten, ∀ y ∈ c, x < y) (hp : Z.Perm c) (hs : Srt pr Z) : Goods pr (D ++ [Z]) := by
  refine ⟨fun x hx => ?_, List.pairwise_append.2 ⟨h.2, List.pairwise_singleton _ _, fun A hA B hB x hx y hy => ?_⟩⟩
  · rcases List.mem_append.1 hx with hx | hx
    · exact h.1 x hx
    · rw [List.mem_singleton.1 hx]; exact hs
  · rw [List.mem_singleton.1 hB] at hy
    exact hlt x (List.mem_flatten.2 ⟨A, hA, hx⟩) y (hp.mem_iff.1 hy)
end
end Go.Proofs.YtfcfgkkkepifhaaGreatDoor

/- StableA -/
namespace Go.Proofs.YtfcfgkkkepifhaaGreatDoor
set_option linter.unusedVariables false
open Go.RowKit Go.Sort

theorem flat_nums (zs : List Int) : zs.flatMap intC = zs.map (Value.int .i64) := by
  induction zs with
  | nil => rfl
  | cons z zs ih => simp only [List.flatMap_cons, List.map_cons, ih]; rfl
/-- a row of the call's own, and the old blocks as they were -/
def RowAt (g n c : Nat) (w0 w : World) (L : List Int) : Prop := IsX w0 w ∧ w0.heap.size ≤ g ∧ w.ownsRow w0.heap.size 2 1 (.slice (some ⟨g, 0, none⟩) n c) n (L.map (Value.int .i64))
section
variable {g n c : Nat} {w0 w w' : World} {L : List Int}
theorem RowAt.len (h : RowAt g n c w0 w L) : L.length = n := by have := h.2.2.1; simpa using this
theorem RowAt.rd (h : RowAt g n c w0 w L) : Rd intC 1 w (some ⟨g, 0, none⟩) L := by
  have h2 := h.2.2
  rw [← flat_nums] at h2
  exact Rd.of_own (by omega) intC_len h2
theorem RowAt.cell (h : RowAt g n c w0 w L) {k : Nat} {x : Int} (hk : L[k]? = some x) : w.cell? ⟨g, k, none⟩ = some (.int .i64 x) := by
  obtain ⟨b, off, e, hb, hc⟩ := int_rd h.rd hk
  injection e with e
  injection e with e1 e2
  subst e1 e2
  simpa using hc
theorem RowAt.fz (h : RowAt g n c w0 w L) (k : Nat) : w.frozen? ⟨g, k, none⟩ = false := own_frozen h.2.2
theorem RowAt.lt (h : RowAt g n c w0 w L) : g < w.heap.size := (h.2.2.lt g rfl).2
theorem RowAt.x (h : RowAt g n c w0 w L) (hx : IsX w w') : RowAt g n c w0 w' L := ⟨h.1.trans hx, h.2.1, own_x h.2.2 hx⟩
theorem RowAt.set (h : RowAt g n c w0 w L) {k : Nat} (hk : k < n) (y : Int) : RowAt g n c w0 (w.setCell ⟨g, k, none⟩ (.int .i64 y)) (L.set k y) := by
  refine ⟨h.1.setCell (a := ⟨g, k, none⟩) h.2.1 _, h.2.1, ?_⟩
  rw [List.map_set]
  exact own_set h.2.2 (by have := h.len; simp; omega) _
theorem RowAt.swap {P M S : List Int} {x y : Int} {k l : Nat} (h : RowAt g n c w0 w (P ++ x :: (M ++ y :: S))) (hk : k = P.length) (hl : l = P.length + 1 + M.length) :
    RowAt g n c w0 ((w.setCell ⟨g, k, none⟩ (.int .i64 y)).setCell ⟨g, l, none⟩ (.int .i64 x)) (P ++ y :: (M ++ x :: S)) := by
  have hn := h.len
  simp at hn
  have := (h.set (k := k) (by omega) y).set (k := l) (by omega) x
  rwa [swap_mid hk hl] at this
theorem RowAt.swap' {P S : List Int} {x y : Int} {k l : Nat} (h : RowAt g n c w0 w (P ++ x :: y :: S)) (hk : k = P.length) (hl : l = P.length + 1) :
    RowAt g n c w0 ((w.setCell ⟨g, l, none⟩ (.int .i64 x)).setCell ⟨g, k, none⟩ (.int .i64 y)) (P ++ y :: x :: S) := by
  have hn := h.len
  simp at hn
  have := (h.set (k := l) (by omega) x).set (k := k) (by omega) y
  have e : ((P ++ x :: y :: S).set l x).set k y = P ++ y :: x :: S := by
    rw [show P ++ x :: y :: S = (P ++ [x]) ++ y :: S by simp, set_mid (by simp; omega), show (P ++ [x]) ++ x :: S = P ++ x :: x :: S by simp, set_mid hk]
  rwa [e] at this
end

set_option maxHeartbeats 3200000 in
set_option maxRecDepth 100000 in
theorem c_swapRange (F : Value) (P A M B S : List Int) (a b n N c g : Nat) (w0 w : World) (hA : A.length = n) (hB : B.length = n) (ha : a = P.length) (hb : b = P.length + n + M.length) (hN : N ≤ 1099511627776)
    (h : RowAt g N c w0 w (P ++ (A ++ (M ++ (B ++ S))))) :
    Calls Tryz.prog 176 #[.slice (some ⟨g, 0, none⟩) N c, .int .i64 (a : Int), .int .i64 (b : Int), .int .i64 (n : Int), F] w fun e w' => e = .returned (.tuple #[]) ∧ RowAt g N c w0 w' (P ++ (B ++ (M ++ (A ++ S)))) := by
  have HL := hide h.len
  have HST : Hid (RowAt g N c w0 w (swp P A M B S 0)) := hide (by rw [swp_zero]; exact h)
  have hfit : b + n ≤ N := by have := HL.out; simp at this; omega
  have hfit0 : a + n ≤ b := by omega
  have HPL := hide ha
  have HBL := hide hb
  have HAL := hide hA
  have HBB := hide hB
  clear h ha hb hA hB
  go_enter Tryz.func176, Tryz.ntmps176
  go_wp2_with fail
  go_loopw [10] (fun iv wr => ∃ i : Nat, i ≤ n ∧ iv = .int .i64 (i : Int) ∧ Hid (RowAt g N c w0 wr (swp P A M B S i))) (fun iv _ => n - (intOf iv).toNat)
  case atStart => exact ⟨0, Nat.zero_le _, rfl, HST⟩
  case round =>
    clear HST
    obtain ⟨i, hi, rfl, HR⟩ := hrel
    by_cases hlt : i < n
    · obtain ⟨Q, M', T, x, y, e1, e2, e3, e4⟩ := swp_at HAL.out HBB.out hlt (P := P) (M := M) (S := S)
      have HR1 := hide (e1 ▸ HR.out)
      have HE2 := hide e2
      have HQ := hide (show a + i = Q.length by rw [e3, ← HPL.out])
      have HM := hide (show b + i = Q.length + 1 + M'.length by have := HBL.out; omega)
      have c0 := HR1.out.cell (k := a + i) (get_mid HQ.out)
      have c1 := HR1.out.cell (k := b + i) (get_mid2 HM.out)
      have z0 := HR1.out.fz (a + i)
      have z1 := HR1.out.fz (b + i)
      have hlg := HR1.out.lt
      obtain ⟨ja, hja⟩ : ∃ ja, ja = a + i := ⟨_, rfl⟩
      obtain ⟨jb, hjb⟩ : ∃ jb, jb = b + i := ⟨_, rfl⟩
      have ta : ((a : Int) + (i : Int)) = (ja : Int) := by omega
      have tb : ((b : Int) + (i : Int)) = (jb : Int) := by omega
      rw [← hja] at c0 z0 HQ
      rw [← hjb] at c1 z1 HM
      have ba : ja < N := by omega
      have bb : jb < N := by omega
      have hne : ja ≠ jb := by omega
      have HTA := hide ta
      have HTB := hide tb
      clear e1 e2 e3 e4 hja hjb
      go_wp2_with fail
      go_region
      have HR2 := hide (HE2.out ▸ (HR1.out.x (IsX.drew (IsX.refl wr))).swap HQ.out HM.out)
      clear c0 c1 z0 z1 hlg HR1 HR
      go_wp2_with fail
      go_roundw
      case rel => exact ⟨i + 1, by omega, by go_num, HR2⟩
      case measure => simp [intOf]; omega
    · obtain rfl : i = n := by omega
      have HF := hide (swp_all HAL.out HBB.out ▸ HR.out)
      go_wp2_with fail
      go_end0
      exact ⟨rfl, HF.out⟩

set_option maxHeartbeats 3200000 in
set_option maxRecDepth 100000 in
theorem c_rotate (F : Value) (P U V S : List Int) (a m b N c g : Nat) (w0 w : World) (ha : a = P.length) (hm : m = P.length + U.length) (hb : b = P.length + U.length + V.length) (hU : 0 < U.length) (hV : 0 < V.length) (hN : N ≤ 1099511627776)
    (h : RowAt g N c w0 w (P ++ (U ++ (V ++ S)))) :
    Calls Tryz.prog 146 #[.slice (some ⟨g, 0, none⟩) N c, .int .i64 (a : Int), .int .i64 (m : Int), .int .i64 (b : Int), F] w fun e w' => e = .returned (.tuple #[]) ∧ RowAt g N c w0 w' (P ++ (V ++ (U ++ S))) := by
  have HFIT : Hid (b ≤ N) := hide (by have := h.len; simp at this; omega)
  obtain ⟨W, hW⟩ : ∃ W, W = P ++ (V ++ (U ++ S)) := ⟨_, rfl⟩
  obtain ⟨i0, hi0⟩ : ∃ i, i = U.length := ⟨_, rfl⟩
  obtain ⟨j0, hj0⟩ : ∃ j, j = V.length := ⟨_, rfl⟩
  have e1 : (m : Int) - (a : Int) = (i0 : Int) := by omega
  have e2 : (b : Int) - (m : Int) = (j0 : Int) := by omega
  have hbN := HFIT.out
  have hmj : m + j0 ≤ N := by omega
  have him : i0 ≤ m := by omega
  have him1 : 0 < i0 := by omega
  have hjm1 : 0 < j0 := by omega
  have HST : Hid (∃ P' U' V' S' : List Int, P'.length + i0 = m ∧ U'.length = i0 ∧ V'.length = j0 ∧ P' ++ (V' ++ (U' ++ S')) = W ∧ RowAt g N c w0 w (P' ++ (U' ++ (V' ++ S')))) := hide ⟨P, U, V, S, by omega, hi0.symm, hj0.symm, hW.symm, h⟩
  rw [← hW]
  have HW := hide hW
  have hbm : b ≤ 1099511627776 := by omega
  have ham : a ≤ b := by omega
  have hmb : m ≤ b := by omega
  clear h ha hm hb hU hV hi0 hj0 HW hW HFIT
  go_enter Tryz.func146, Tryz.ntmps146
  go_wp2_with fail
  clear e1 e2
  go_loopw [10, 11] (fun iv jv wr => ∃ i j : Nat, 0 < i ∧ 0 < j ∧ i ≤ m ∧ m + j ≤ N ∧ iv = .int .i64 (i : Int) ∧ jv = .int .i64 (j : Int) ∧ Hid (∃ P' U' V' S' : List Int, P'.length + i = m ∧ U'.length = i ∧ V'.length = j ∧ P' ++ (V' ++ (U' ++ S')) = W ∧ RowAt g N c w0 wr (P' ++ (U' ++ (V' ++ S'))))) (fun iv jv _ => (intOf iv).toNat + (intOf jv).toNat)
  case atStart => exact ⟨i0, j0, him1, hjm1, him, hmj, rfl, rfl, HST⟩
  case round =>
    clear HST him hmj him1 hjm1
    obtain ⟨i, j, hi1, hj1, him, hjN, rfl, rfl, HS⟩ := hrel
    obtain ⟨P', U', V', S', hP, hU, hV, hW, hr⟩ := HS.out
    by_cases heq : i = j
    · subst heq
      have HR := hide hr
      have hmi : (m : Int) - (i : Int) = ((m - i : Nat) : Int) := by omega
      have HC := hide (fun wr (h : RowAt g N c w0 wr (P' ++ (U' ++ (V' ++ S')))) => c_swapRange F P' U' [] V' S' (m - i) m i N c g w0 wr hU hV (by omega) (by simp; omega) hN (by simpa using h))
      have HWW := hide hW
      clear hr hW hP hU hV
      have hne : ((i : Int) != (i : Int)) = false := by simp
      go_wp2_with (go_at_call 176; refine (HC.out wr HR.out).mono ?_; rintro e w2 ⟨rfl, hr2⟩; have HR2 := hide hr2; clear hr2)
      go_end0
      exact ⟨rfl, by have := HR2.out; rw [← HWW.out]; simpa using this⟩
    · have hne : ((i : Int) != (j : Int)) = true := by simp; omega
      by_cases hij : j < i
      · have hgt : (i : Int) > (j : Int) := by omega
        obtain ⟨U1, U2, rfl, hU1⟩ : ∃ U1 U2, U' = U1 ++ U2 ∧ U1.length = j := ⟨U'.take j, U'.drop j, (List.take_append_drop j U').symm, by simp; omega⟩
        have HR := hide hr
        have hU2 : U2.length = i - j := by simp at hU; omega
        have hmi : (m : Int) - (i : Int) = ((m - i : Nat) : Int) := by omega
        have HC := hide (fun wr (h : RowAt g N c w0 wr (P' ++ ((U1 ++ U2) ++ (V' ++ S')))) => c_swapRange F P' U1 U2 V' S' (m - i) m j N c g w0 wr hU1 hV (by omega) (by omega) hN (by simpa using h))
        have hs : (i : Int) - (j : Int) = ((i - j : Nat) : Int) := by omega
        have HST := hide (fun wr (h : RowAt g N c w0 wr (P' ++ (V' ++ (U2 ++ (U1 ++ S'))))) => (show ∃ P' U' V' S' : List Int, P'.length + (i - j) = m ∧ U'.length = i - j ∧ V'.length = j ∧ P' ++ (V' ++ (U' ++ S')) = W ∧ RowAt g N c w0 wr (P' ++ (U' ++ (V' ++ S'))) from
          ⟨P' ++ V', U2, U1, S', by simp; omega, hU2, hU1, by rw [← hW]; simp, by simpa using h⟩))
        clear hr hW hP hU hV hU1 hU2
        go_wp2_with (go_at_call 176; refine (HC.out wr HR.out).mono ?_; rintro e w2 ⟨rfl, hr2⟩; have HR2 := hide hr2; clear hr2)
        go_roundw
        case rel => exact ⟨i - j, j, by omega, hj1, by omega, hjN, rfl, rfl, hide (HST.out _ HR2.out)⟩
        case measure => simp [intOf]; omega
      · have hgt : ¬ (i : Int) > (j : Int) := by omega
        obtain ⟨V1, V2, rfl, hV1⟩ : ∃ V1 V2, V' = V1 ++ V2 ∧ V1.length = j - i := ⟨V'.take (j - i), V'.drop (j - i), (List.take_append_drop (j - i) V').symm, by simp; omega⟩
        have HR := hide hr
        have hV2 : V2.length = i := by simp at hV; omega
        have hmi : (m : Int) - (i : Int) = ((m - i : Nat) : Int) := by omega
        have hmj : (m : Int) + (j : Int) - (i : Int) = ((m + j - i : Nat) : Int) := by omega
        have HC := hide (fun wr (h : RowAt g N c w0 wr (P' ++ (U' ++ ((V1 ++ V2) ++ S')))) => c_swapRange F P' U' V1 V2 S' (m - i) (m + j - i) i N c g w0 wr hU hV2 (by omega) (by omega) hN (by simpa using h))
        have hs : (j : Int) - (i : Int) = ((j - i : Nat) : Int) := by omega
        have HST := hide (fun wr (h : RowAt g N c w0 wr (P' ++ (V2 ++ (V1 ++ (U' ++ S'))))) => (show ∃ P' U' V' S' : List Int, P'.length + i = m ∧ U'.length = i ∧ V'.length = j - i ∧ P' ++ (V' ++ (U' ++ S')) = W ∧ RowAt g N c w0 wr (P' ++ (U' ++ (V' ++ S'))) from
          ⟨P', V2, V1, U' ++ S', hP, hV2, hV1, by rw [← hW]; simp, by simpa using h⟩))
        clear hr hW hP hU hV hV1 hV2
        go_wp2_with (go_at_call 176; refine (HC.out wr HR.out).mono ?_; rintro e w2 ⟨rfl, hr2⟩; have HR2 := hide hr2; clear hr2)
        go_roundw
        case rel => exact ⟨i, j - i, hi1, by omega, him, by omega, rfl, rfl, hide (HST.out _ HR2.out)⟩
        case measure => simp [intOf]; omega

end Go.Proofs.YtfcfgkkkepifhaaGreatDoor

/- StableB -/
namespace Go.Proofs.YtfcfgkkkepifhaaGreatDoor
set_option linter.unusedVariables false
open Go.RowKit Go.Sort

/-- the comparing closure: it orders by pr, and may make memory -/
def CmpOk (pr : Int → Int) (ok : Int → Prop) (bx : Nat) (w0 : World) : Prop :=
  ∀ W, IsX w0 W → ∀ x y, ok x → ok y → Calls Tryz.prog 50 #[.int .i64 x, .int .i64 y, .pointer (some ⟨bx, 0, none⟩)] W fun e w' => e = .returned (.int .i64 (Lib.compareInt (pr x) (pr y))) ∧ IsX W w'
theorem cmp_lt {a b : Int} (h : a < b) : Lib.compareInt a b < 0 := by unfold Lib.compareInt; rw [if_pos h]; omega
theorem cmp_ge {a b : Int} (h : ¬ a < b) : ¬ Lib.compareInt a b < 0 := by unfold Lib.compareInt; rw [if_neg h]; split <;> omega
def BlockPost (pr : Int → Int) (g N c : Nat) (w0 : World) (P X S : List Int) (e : Ending) (w' : World) : Prop := e = .returned (.tuple #[]) ∧ ∃ Z : List Int, Z.Perm X ∧ Srt pr Z ∧ RowAt g N c w0 w' (P ++ (Z ++ S))
set_option maxHeartbeats 6400000 in
set_option maxRecDepth 100000 in
theorem c_insSort (pr : Int → Int) (ok : Int → Prop) (bx : Nat) (P X S : List Int) (a b N c g : Nat) (w0 w : World) (hcmp : CmpOk pr ok bx w0) (ha : a = P.length) (hb : b = P.length + X.length) (hX : X.Pairwise (· < ·)) (hok : ∀ x ∈ X, ok x) (hN : N ≤ 1099511627776)
    (h : RowAt g N c w0 w (P ++ (X ++ S))) :
    Calls Tryz.prog 113 #[.slice (some ⟨g, 0, none⟩) N c, .int .i64 (a : Int), .int .i64 (b : Int), .func (.func 50) #[] #[.pointer (some ⟨bx, 0, none⟩)]] w (BlockPost pr g N c w0 P X S) := by
  have hbN : b ≤ N := by have := h.len; simp at this; omega
  have HCMP := hide hcmp
  have HX := hide hX
  have HOK := hide hok
  have HPL := hide ha
  obtain ⟨n, hn⟩ : ∃ n, n = X.length := ⟨_, rfl⟩
  have HN := hide hn
  have hbn : b = a + n := by omega
  have HST : Hid (∃ Z : List Int, Z.Perm (X.take 1) ∧ Srt pr Z ∧ RowAt g N c w0 w (P ++ (Z ++ (X.drop 1 ++ S)))) := hide ⟨X.take 1, List.Perm.refl _, by
    cases X with
    | nil => exact List.Pairwise.nil
    | cons x r => exact List.pairwise_singleton _ _, by rw [← List.append_assoc (X.take 1), List.take_append_drop]; exact h⟩
  have HBN := hide hbn
  have haN : a ≤ N := by omega
  clear hcmp hX hok ha hn h hbn hb
  go_enter Tryz.func113, Tryz.ntmps113
  go_wp2_with fail
  go_loopw [8] (fun iv wr => ∃ q : Nat, 1 ≤ q ∧ q ≤ n + 1 ∧ iv = .int .i64 ((a : Int) + (q : Int)) ∧ Hid (∃ Z : List Int, Z.Perm (X.take q) ∧ Srt pr Z ∧ RowAt g N c w0 wr (P ++ (Z ++ (X.drop q ++ S))))) (fun iv _ => b + 1 - (intOf iv).toNat)
  case atStart => exact ⟨1, Nat.le_refl _, by omega, by go_num, HST⟩
  case round =>
    clear HST
    obtain ⟨q, hq1, hq, rfl, HZ⟩ := hrel
    obtain ⟨Z, hp, hs, hr⟩ := HZ.out
    by_cases hlt : q < n
    · have hqx : q < X.length := HN.out ▸ hlt
      obtain ⟨u, hu⟩ : ∃ u, u = X[q] := ⟨_, rfl⟩
      have hd : X.drop q = u :: X.drop (q + 1) := by rw [hu]; exact List.drop_eq_getElem_cons hqx
      have hZl : Z.length = q := by rw [hp.length_eq, List.length_take]; omega
      have HZL := hide hZl
      have HS := hide hs
      have HP := hide hp
      have HZU : Hid (∀ z ∈ Z, z < u ∧ ok z) := hide (fun z hz => by
        have hz' := hp.mem_iff.1 hz
        obtain ⟨j, hj, e⟩ := List.getElem_of_mem hz'
        rw [List.getElem_take] at e
        simp at hj
        refine ⟨?_, HOK.out _ (List.mem_of_mem_take hz')⟩
        rw [← e, hu]
        exact List.pairwise_iff_getElem.1 HX.out j q (by omega) hqx (by omega))
      have HUO : Hid (ok u) := hide (by rw [hu]; exact HOK.out _ (List.getElem_mem hqx))
      have HTK : Hid (X.take (q + 1) = X.take q ++ [u]) := hide (by rw [hu]; exact List.take_succ_eq_append_getElem hqx)
      have HST : Hid (RowAt g N c w0 wr ((P ++ Z.take q) ++ u :: (Z.drop q ++ (X.drop (q + 1) ++ S)))) := hide (by
        rw [List.take_of_length_le (Nat.le_of_eq hZl), List.drop_of_length_le (Nat.le_of_eq hZl), List.nil_append]
        rw [hd] at hr
        simpa using hr)
      clear hr hs hp hd hu hZl
      have hlz : ((a : Int) + (q : Int)) < (b : Int) := by have := HBN.out; omega
      have hiq : (a : Int) + (q : Int) + 1 = (a : Int) + ((q + 1 : Nat) : Int) := by omega
      have HIQ := hide hiq
      clear hiq
      go_wp2_with fail
      go_loopw [9] (fun jv wr => ∃ r : Nat, r ≤ q ∧ jv = .int .i64 ((a : Int) + (r : Int)) ∧ Hid (∀ k (h : k < Z.length), r ≤ k → pr u < pr Z[k]) ∧ Hid (RowAt g N c w0 wr ((P ++ Z.take r) ++ u :: (Z.drop r ++ (X.drop (q + 1) ++ S))))) (fun jv _ => (intOf jv).toNat)
      case atStart => exact ⟨q, Nat.le_refl _, rfl, hide (fun k h hk => by have := HZL.out; omega), HST⟩
      case round =>
        clear HST
        obtain ⟨r, hrq, rfl, HGT, HR⟩ := hrel
        rcases Nat.eq_zero_or_pos r with hr0 | hr0
        · subst hr0
          have HRES := hide (show Srt pr (Z.take 0 ++ u :: Z.drop 0) from ins_srt HS.out (fun k _ hk => by omega) (fun k hk _ => .inl (HGT.out k hk (by omega))))
          have hg0 : decide ((a : Int) + ((0 : Nat) : Int) > (a : Int)) = false := decide_eq_false (by omega)
          have hg1 : ¬ (a : Int) < (a : Int) + ((0 : Nat) : Int) := by omega
          go_wp2_with fail
          refine wp_region_x (by kernel_rfl) (by kernel_rfl) ?_
          repeat (go_big_quiet_step (fail))
          refine wpQuiet_nil ?_
          rintro _ ⟨p, rfl⟩
          have HR2 := hide (HR.out.x ⟨p, rfl⟩)
          go_wp2_with fail
          go_roundw
          case rel => exact ⟨q + 1, by omega, by omega, by rw [HIQ.out], hide ⟨_, by rw [HTK.out]; exact (ins_perm Z u 0).trans ((HP.out.cons u).trans (List.perm_append_comm (l₁ := [u]))), HRES.out, by simpa using HR2.out⟩⟩
          case measure => have := HBN.out; simp [intOf]; omega
        · obtain ⟨r, rfl⟩ : ∃ r', r = r' + 1 := ⟨r - 1, by omega⟩
          have hrz : r < Z.length := by have := HZL.out; omega
          obtain ⟨z, hz⟩ : ∃ z, z = Z[r] := ⟨_, rfl⟩
          have hzu := HZU.out z (by rw [hz]; exact List.getElem_mem hrz)
          have HZ1 := hide (show Z.take (r + 1) = Z.take r ++ [z] by rw [hz]; exact List.take_succ_eq_append_getElem hrz)
          have HZ2 := hide (show Z.drop r = z :: Z.drop (r + 1) by rw [hz]; exact List.drop_eq_getElem_cons hrz)
          have hrow := HR.out
          rw [HZ1.out] at hrow
          have HR1 : Hid (RowAt g N c w0 wr ((P ++ Z.take r) ++ z :: u :: (Z.drop (r + 1) ++ (X.drop (q + 1) ++ S)))) := hide (by simpa using hrow)
          have hQl : a + r = (P ++ Z.take r).length := by have := HPL.out; have := HZL.out; simp; omega
          have HQL := hide hQl
          have c0 := HR1.out.cell (k := a + r) (get_mid hQl)
          have c1 := HR1.out.cell (k := a + (r + 1)) (show _ = some u from get_mid2 (M := []) (by rw [← hQl]; simp; omega))
          have z0 := HR1.out.fz (a + r)
          have z1 := HR1.out.fz (a + (r + 1))
          have hlg := HR1.out.lt
          have HC := hide (fun W (hW : IsX wr W) => HCMP.out W (HR1.out.1.trans hW) u z HUO.out hzu.2)
          have HB := hide hrow
          obtain ⟨ja, hja⟩ : ∃ ja, ja = a + r := ⟨_, rfl⟩
          obtain ⟨jb, hjb⟩ : ∃ jb, jb = a + (r + 1) := ⟨_, rfl⟩
          have tb : ((a : Int) + ((r + 1 : Nat) : Int)) = (jb : Int) := by omega
          have ta : (jb : Int) - 1 = (ja : Int) := by omega
          have hba : (a : Int) < (jb : Int) := by omega
          have bb : jb < N := by have := HBN.out; omega
          have bba : ja < N := by have := HBN.out; omega
          have hne : jb ≠ ja := by omega
          have HJB := hide hjb
          have HJA := hide hja
          rw [← hja] at c0 z0 HQL
          rw [← hjb] at c1 z1
          rw [tb]
          have HTB := hide tb
          have HBND := hide bba
          clear hrow hja hjb tb hQl HR hzu hr0
          have hg0 : decide ((jb : Int) > (a : Int)) = true := decide_eq_true hba
          by_cases hcv : pr u < pr z
          · have hcl := cmp_lt hcv
            have HGT2 := hide (show ∀ k (h : k < Z.length), r ≤ k → pr u < pr Z[k] from fun k h hk => by
              by_cases e : r = k
              · subst e; rw [← hz]; exact hcv
              · exact HGT.out k h (by omega))
            clear hcv hz
            generalize Lib.compareInt (pr u) (pr z) = cv at hcl HC
            go_wp2_with fail
            refine wp_region_x (by kernel_rfl) (by kernel_rfl) ?_
            repeat (go_big_quiet_step ((go_at_call 50; exact call_x (HC.out _ ⟨_, rfl⟩))))
            refine wpQuiet_nil ?_
            rintro _ ⟨p, rfl⟩
            have HR2 := hide (HR1.out.x ⟨p, rfl⟩)
            replace c0 := keep ⟨p, rfl⟩ hlg c0
            replace c1 := keep ⟨p, rfl⟩ hlg c1
            clear z0 z1
            have z0 := HR2.out.fz ja
            have z1 := HR2.out.fz jb
            replace hlg := HR2.out.lt
            clear HR1 HC
            generalize xt wr p = wq at *
            go_wp2_with fail
            go_region
            have HR3 := hide ((HR2.out.swap' (k := ja) (l := jb) HQL.out (by rw [← HQL.out, HJA.out, HJB.out]; omega)).x (IsX.drew (IsX.refl _)))
            clear c0 c1 z0 z1 hlg HR2 hcl
            go_wp2_with fail
            go_roundw
            case rel => exact ⟨r, by omega, by rw [HJA.out]; go_num, HGT2, hide (by rw [HZ2.out]; simpa using HR3.out)⟩
            case measure => have := HBN.out; simp [intOf]; omega
          · have hcl := cmp_ge hcv
            have HRES := hide (show Srt pr (Z.take (r + 1) ++ u :: Z.drop (r + 1)) from ins_srt HS.out (fun k hk hkr => by
              have h1 := (HZU.out _ (List.getElem_mem hk)).1
              have h2 : pr Z[k] ≤ pr z := by
                by_cases e : k = r
                · subst e; rw [hz]; exact Int.le_refl _
                · rw [hz]; exact (List.pairwise_iff_getElem.1 HS.out k r hk hrz (by omega)).le
              unfold Bef; omega) (fun k hk hkr => .inl (HGT.out k hk hkr)))
            clear hcv hz
            generalize Lib.compareInt (pr u) (pr z) = cv at hcl HC
            go_wp2_with fail
            refine wp_region_x (by kernel_rfl) (by kernel_rfl) ?_
            repeat (go_big_quiet_step ((go_at_call 50; exact call_x (HC.out _ ⟨_, rfl⟩))))
            refine wpQuiet_nil ?_
            rintro _ ⟨p, rfl⟩
            have HR2 := hide (HR1.out.x ⟨p, rfl⟩)
            clear c0 c1 z0 z1 hlg HR1 HC
            generalize xt wr p = wq at *
            go_wp2_with fail
            go_roundw
            case rel => exact ⟨q + 1, by omega, by omega, by rw [HIQ.out], hide ⟨_, by rw [HTK.out]; exact (ins_perm Z u (r + 1)).trans ((HP.out.cons u).trans (List.perm_append_comm (l₁ := [u]))), HRES.out, by rw [HZ1.out]; simpa using HR2.out⟩⟩
            case measure => have := HBN.out; simp [intOf]; omega
    · have HRES := hide (show Z.Perm X from by rw [List.take_of_length_le (by have := HN.out; omega)] at hp; exact hp)
      have HR := hide (show RowAt g N c w0 wr (P ++ (Z ++ S)) by
        rw [List.drop_of_length_le (by have := HN.out; omega), List.nil_append] at hr
        exact hr)
      have HS := hide hs
      have hlz : ¬ ((a : Int) + (q : Int)) < (b : Int) := by have := HBN.out; omega
      clear hr hs hp
      go_wp2_with fail
      go_end0
      exact ⟨rfl, Z, HRES.out, HS.out, HR.out⟩

end Go.Proofs.YtfcfgkkkepifhaaGreatDoor

/- StableM -/
namespace Go.Proofs.YtfcfgkkkepifhaaGreatDoor
set_option linter.unusedVariables false
open Go.RowKit Go.Sort

theorem RowAt.dat {g n c : Nat} {w0 w : World} {L : List Int} (h : RowAt g n c w0 w L) {k : Nat} (hk : k < n) : w.cell? ⟨g, k, none⟩ = some (.int .i64 (L.getD k 0)) :=
  h.cell (by have := h.len; rw [List.getD_eq_getElem?_getD, List.getElem?_eq_getElem (by omega)]; rfl)
def qOne (pr : Int → Int) (L : List Int) (a : Nat) (k : Nat) : Bool := decide (pr (L.getD k 0) < pr (L.getD a 0))
def qTwo (pr : Int → Int) (L : List Int) (m : Nat) (k : Nat) : Bool := !decide (pr (L.getD m 0) < pr (L.getD k 0))
def qCut (pr : Int → Int) (L : List Int) (p : Nat) (k : Nat) : Bool := !decide (pr (L.getD (p - k) 0) < pr (L.getD k 0))
theorem getD_at {X : List Int} {k : Nat} (h : k < X.length) : X.getD k 0 = X[k] := by rw [List.getD_eq_getElem?_getD, List.getElem?_eq_getElem h]; rfl

set_option maxHeartbeats 6400000 in
set_option maxRecDepth 100000 in
theorem c_symOne (pr : Int → Int) (ok : Int → Prop) (bx : Nat) (P V S : List Int) (u : Int) (a m b N c g : Nat) (w0 w : World) (hcmp : CmpOk pr ok bx w0) (ha : a = P.length) (hm : m = P.length + 1) (hb : b = P.length + 1 + V.length)
    (hV : Srt pr V) (hlt : ∀ v ∈ V, u < v) (hoku : ok u) (hok : ∀ x ∈ V, ok x) (hN : N ≤ 1099511627776) (h : RowAt g N c w0 w (P ++ u :: (V ++ S))) :
    Calls Tryz.prog 114 #[.slice (some ⟨g, 0, none⟩) N c, .int .i64 (a : Int), .int .i64 (m : Int), .int .i64 (b : Int), .func (.func 50) #[] #[.pointer (some ⟨bx, 0, none⟩)]] w (BlockPost pr g N c w0 P (u :: V) S) := by
  have hbN : b ≤ N := by have := h.len; simp at this; omega
  obtain ⟨L, hL⟩ : ∃ L, L = P ++ u :: (V ++ S) := ⟨_, rfl⟩
  have HDA : Hid (L.getD a 0 = u) := hide (by rw [hL, List.getD_eq_getElem?_getD, get_mid ha]; rfl)
  have HDV : Hid (∀ k (h : k < V.length), L.getD (m + k) 0 = V[k]) := hide (fun k hk => by
    rw [hL, show P ++ u :: (V ++ S) = (P ++ [u]) ++ (V ++ S) by simp, dat_mid (by simp; omega) (by simp; omega), show m + k - (P ++ [u]).length = k by simp; omega, getD_at hk])
  have HMONO : Hid (Mono (qOne pr L a) m b) := hide (fun k k' h1 h2 h3 hq => by
    obtain ⟨i, rfl⟩ : ∃ i, k' = m + i := ⟨k' - m, by omega⟩
    obtain ⟨j, rfl⟩ : ∃ j, k = m + j := ⟨k - m, by omega⟩
    simp only [qOne, decide_eq_true_eq] at hq ⊢
    rw [HDV.out j (by omega)] at hq
    rw [HDV.out i (by omega)]
    have := srt_le hV (show i ≤ j by omega) (show j < V.length by omega)
    rw [getD_at (by omega), getD_at (by omega)] at this
    omega)
  have HOK : Hid (∀ k, m ≤ k → k < b → ok (L.getD k 0)) := hide (fun k h1 h2 => by
    obtain ⟨i, rfl⟩ : ∃ i, k = m + i := ⟨k - m, by omega⟩
    rw [HDV.out i (by omega)]; exact hok _ (List.getElem_mem _))
  have HOA : Hid (ok (L.getD a 0)) := hide (by rw [HDA.out]; exact hoku)
  have HR := hide (hL ▸ h)
  have HV := hide hV
  have HLT := hide hlt
  have HCMP := hide hcmp
  have HPL := hide ha
  have HVL : Hid (b = m + V.length) := hide (by omega)
  have HL := hide hL
  have hma : m = a + 1 := by omega
  have hmb : m ≤ b := by omega
  have e1 : (m : Int) - (a : Int) = 1 := by omega
  have HMA := hide hma
  have haN : a < N := by omega
  have ham : a < m := by omega
  clear hma h hL hV hlt hok hoku hcmp ha hm hb
  go_enter Tryz.func114, Tryz.ntmps114
  go_wp2_with fail
  clear e1
  go_loopw [10, 11] (fun iv jv wr => ∃ i j : Nat, i ≤ j ∧ j ≤ b ∧ m ≤ i ∧ iv = .int .i64 (i : Int) ∧ jv = .int .i64 (j : Int) ∧ Hid (Srch (qOne pr L a) m b i j) ∧ Hid (RowAt g N c w0 wr L)) (fun iv jv _ => (intOf jv).toNat - (intOf iv).toNat)
  case atStart => exact ⟨m, b, by omega, Nat.le_refl _, Nat.le_refl _, rfl, rfl, hide (Srch.start (by omega)), HR⟩
  case round =>
    clear HR
    obtain ⟨i, j, hij, hjh, hli, rfl, rfl, HSR, HRW⟩ := hrel
    by_cases hlt : i < j
    · obtain ⟨h, hh⟩ : ∃ h, h = (i + j) / 2 := ⟨_, rfl⟩
      have thh : ((i : Int) + (j : Int)) / 2 = (h : Int) := by omega
      have hi1 : i ≤ h := by omega
      have hi2 : h < j := by omega
      clear hh
      have c0 := HRW.out.dat (k := h) (by omega)
      have c1 := HRW.out.dat (k := a) (by omega)
      have hlg := HRW.out.lt
      have HC := hide (fun W (hW : IsX wr W) => HCMP.out W (HRW.out.1.trans hW) (L.getD (h) 0) (L.getD (a) 0) (HOK.out _ (by omega) (by omega)) HOA.out)
      by_cases hcv : pr (L.getD (h) 0) < pr (L.getD (a) 0)
      · have hcl := cmp_lt hcv
        have HS2 := hide (HSR.out.up HMONO.out hi1 hi2 (show (qOne pr L a) h = true by unfold qOne; simpa using hcv))
        clear hcv
        generalize Lib.compareInt (pr (L.getD (h) 0)) (pr (L.getD (a) 0)) = cv at hcl HC
        generalize L.getD (h) 0 = dx at *
        generalize L.getD (a) 0 = dy at *
        go_wp2_with fail
        refine wp_region_x (by kernel_rfl) (by kernel_rfl) ?_
        repeat (go_big_quiet_step ((go_at_call 50; exact call_x (HC.out _ ⟨_, rfl⟩))))
        refine wpQuiet_nil ?_
        rintro _ ⟨p0, rfl⟩
        clear c0 c1 hlg HC
        go_wp2_with fail
        go_roundw
        case rel => exact ⟨h + 1, j, by omega, by omega, by omega, by go_num, rfl, HS2, hide (HRW.out.x ⟨p0, rfl⟩)⟩
        case measure => simp [intOf]; omega
      · have hcl := cmp_ge hcv
        have HS2 := hide (HSR.out.down HMONO.out hi1 hi2 (show (qOne pr L a) h = false by unfold qOne; simpa using hcv))
        clear hcv
        generalize Lib.compareInt (pr (L.getD (h) 0)) (pr (L.getD (a) 0)) = cv at hcl HC
        generalize L.getD (h) 0 = dx at *
        generalize L.getD (a) 0 = dy at *
        go_wp2_with fail
        refine wp_region_x (by kernel_rfl) (by kernel_rfl) ?_
        repeat (go_big_quiet_step ((go_at_call 50; exact call_x (HC.out _ ⟨_, rfl⟩))))
        refine wpQuiet_nil ?_
        rintro _ ⟨p0, rfl⟩
        clear c0 c1 hlg HC
        go_wp2_with fail
        go_roundw
        case rel => exact ⟨i, h, by omega, by omega, by omega, rfl, rfl, HS2, hide (HRW.out.x ⟨p0, rfl⟩)⟩
        case measure => simp [intOf]; omega
    · obtain rfl : i = j := by omega
      have hma := HMA.out
      obtain ⟨q, hq⟩ : ∃ q, q = i - m := ⟨_, rfl⟩
      have hqi : i = m + q := by omega
      have hqn : q ≤ V.length := by have := HVL.out; omega
      have HRES := hide (show Srt pr (V.take q ++ u :: V.drop q) from ins_srt HV.out
        (fun k hk hkq => by
          have := HSR.out.2.2.2.1 (m + k) (by omega) (by omega)
          simp only [qOne, decide_eq_true_eq] at this
          rw [HDV.out k hk, HDA.out] at this
          exact .inl this)
        (fun k hk hkq => by
          have := HSR.out.2.2.2.2 (m + k) (by omega) (by have := HVL.out; omega)
          simp only [qOne, decide_eq_false_iff_not] at this
          rw [HDV.out k hk, HDA.out] at this
          have h2 := HLT.out _ (List.getElem_mem hk)
          unfold Bef; omega))
      have hlim : (i : Int) - 1 = ((a + q : Nat) : Int) := by omega
      obtain ⟨lim, hlm⟩ : ∃ lim, lim = a + q := ⟨_, rfl⟩
      rw [← hlm] at hlim
      have HLM := hide hlm
      have HQN := hide hqn
      have hlimN : lim < N := by have := HVL.out; omega
      have HR : Hid (RowAt g N c w0 wr ((P ++ V.take 0) ++ u :: (V.drop 0 ++ S))) := hide (by have h := HRW.out; rw [HL.out] at h; simpa using h)
      clear hq hqi hqn hlm HSR HRW hij hjh hlt
      go_wp2_with fail
      go_loopw [13] (fun kv wr => ∃ r : Nat, r ≤ q ∧ kv = .int .i64 ((a : Int) + (r : Int)) ∧ Hid (RowAt g N c w0 wr ((P ++ V.take r) ++ u :: (V.drop r ++ S)))) (fun kv _ => lim - (intOf kv).toNat)
      case atStart => exact ⟨0, Nat.zero_le _, by go_num, HR⟩
      case round =>
        clear HR
        obtain ⟨r, hrq, rfl, HRW⟩ := hrel
        by_cases hlt : r < q
        · have hrv : r < V.length := by have := HQN.out; omega
          obtain ⟨v, hv⟩ : ∃ v, v = V[r] := ⟨_, rfl⟩
          have HZ1 := hide (show V.take (r + 1) = V.take r ++ [v] by rw [hv]; exact List.take_succ_eq_append_getElem hrv)
          have HZ2 := hide (show V.drop r = v :: V.drop (r + 1) by rw [hv]; exact List.drop_eq_getElem_cons hrv)
          have hrow := HRW.out
          rw [HZ2.out] at hrow
          have HR1 : Hid (RowAt g N c w0 wr ((P ++ V.take r) ++ u :: ([] ++ v :: (V.drop (r + 1) ++ S)))) := hide (by simpa using hrow)
          obtain ⟨ja, hja⟩ : ∃ ja, ja = a + r := ⟨_, rfl⟩
          obtain ⟨jb, hjb⟩ : ∃ jb, jb = ja + 1 := ⟨_, rfl⟩
          have HQL : Hid (ja = (P ++ V.take r).length) := hide (by have := HPL.out; simp; omega)
          have HQM : Hid (jb = (P ++ V.take r).length + 1 + ([] : List Int).length) := hide (by have := HQL.out; simp at this ⊢; omega)
          have c0 := HR1.out.cell (get_mid HQL.out)
          have c1 := HR1.out.cell (get_mid2 HQM.out)
          have z0 := HR1.out.fz ja
          have z1 := HR1.out.fz jb
          have hlg := HR1.out.lt
          have ta : ((a : Int) + (r : Int)) = (ja : Int) := by omega
          have tb : (ja : Int) + 1 = (jb : Int) := by omega
          have hll : (ja : Int) < (lim : Int) := by have := HLM.out; omega
          have ba : ja < N := by omega
          have bb : jb < N := by omega
          have hne : ja ≠ jb := by omega
          have HJA := hide hja
          rw [ta]
          clear hrow hja hjb ta HRW hv
          go_wp2_with fail
          go_region
          have HR3 := hide ((HR1.out.x (IsX.drew (IsX.refl wr))).swap HQL.out HQM.out)
          clear c0 c1 z0 z1 hlg HR1
          go_wp2_with fail
          go_roundw
          case rel => exact ⟨r + 1, by omega, by have := HJA.out; go_num, hide (by rw [HZ1.out]; have := HR3.out; simp at this ⊢; exact this)⟩
          case measure => have := HJA.out; simp [intOf]; omega
        · obtain rfl : r = q := by omega
          have hll : ¬ ((a : Int) + (r : Int) < (lim : Int)) := by have := HLM.out; omega
          have HF := hide (show RowAt g N c w0 wr (P ++ ((V.take r ++ u :: V.drop r) ++ S)) by have := HRW.out; simpa using this)
          go_wp2_with fail
          go_end0
          exact ⟨rfl, _, by simpa using ins_perm V u r, HRES.out, HF.out⟩

end Go.Proofs.YtfcfgkkkepifhaaGreatDoor

/- StableT -/
namespace Go.Proofs.YtfcfgkkkepifhaaGreatDoor
set_option linter.unusedVariables false
open Go.RowKit Go.Sort

set_option maxHeartbeats 6400000 in
set_option maxRecDepth 100000 in
theorem c_symTwo (pr : Int → Int) (ok : Int → Prop) (bx : Nat) (P U S : List Int) (v : Int) (a m b N c g : Nat) (w0 w : World) (hcmp : CmpOk pr ok bx w0) (ha : a = P.length) (hm : m = P.length + U.length) (hb : b = P.length + U.length + 1) (h2 : 2 ≤ U.length)
    (hU : Srt pr U) (hlt : ∀ u ∈ U, u < v) (hokv : ok v) (hok : ∀ x ∈ U, ok x) (hN : N ≤ 1099511627776) (h : RowAt g N c w0 w (P ++ (U ++ v :: S))) :
    Calls Tryz.prog 114 #[.slice (some ⟨g, 0, none⟩) N c, .int .i64 (a : Int), .int .i64 (m : Int), .int .i64 (b : Int), .func (.func 50) #[] #[.pointer (some ⟨bx, 0, none⟩)]] w (BlockPost pr g N c w0 P (U ++ [v]) S) := by
  have hbN : b ≤ N := by have := h.len; simp at this; omega
  obtain ⟨L, hL⟩ : ∃ L, L = P ++ (U ++ v :: S) := ⟨_, rfl⟩
  have HDM : Hid (L.getD m 0 = v) := hide (by rw [hL, show P ++ (U ++ v :: S) = (P ++ U) ++ v :: S by simp, List.getD_eq_getElem?_getD, get_mid (by simp; omega)]; rfl)
  have HDU : Hid (∀ k (h : k < U.length), L.getD (a + k) 0 = U[k]) := hide (fun k hk => by
    rw [hL, dat_mid (by omega) (by omega), show a + k - P.length = k by omega, getD_at hk])
  have HMONO : Hid (Mono (qTwo pr L m) a m) := hide (fun k k' h1 h2 h3 hq => by
    obtain ⟨i, rfl⟩ : ∃ i, k' = a + i := ⟨k' - a, by omega⟩
    obtain ⟨j, rfl⟩ : ∃ j, k = a + j := ⟨k - a, by omega⟩
    simp only [qTwo, Bool.not_eq_true', decide_eq_false_iff_not] at hq ⊢
    rw [HDU.out j (by omega)] at hq
    rw [HDU.out i (by omega)]
    have := srt_le hU (show i ≤ j by omega) (show j < U.length by omega)
    rw [getD_at (by omega), getD_at (by omega)] at this
    omega)
  have HOK : Hid (∀ k, a ≤ k → k < m → ok (L.getD k 0)) := hide (fun k h1 h2 => by
    obtain ⟨i, rfl⟩ : ∃ i, k = a + i := ⟨k - a, by omega⟩
    rw [HDU.out i (by omega)]; exact hok _ (List.getElem_mem _))
  have HOM : Hid (ok (L.getD m 0)) := hide (by rw [HDM.out]; exact hokv)
  have HR := hide (hL ▸ h)
  have HU := hide hU
  have HLT := hide hlt
  have HCMP := hide hcmp
  have HPL := hide ha
  obtain ⟨lu, hlu⟩ : ∃ lu, lu = U.length := ⟨_, rfl⟩
  have HLU := hide hlu
  have HUL : Hid (m = a + U.length) := hide (by omega)
  have HL := hide hL
  have ham : a ≤ m := by omega
  have hmN : m < N := by omega
  have e1 : (m : Int) - (a : Int) = (lu : Int) := by omega
  have e2 : (b : Int) - (m : Int) = 1 := by omega
  have e3 : ((lu : Int) == 1) = false := by simp; omega
  have hluN : lu ≤ N := by omega
  clear h hL hU hlt hok hokv hcmp ha hm hb hlu h2
  go_enter Tryz.func114, Tryz.ntmps114
  go_wp2_with fail
  clear e1 e2 e3
  go_loopw [14, 15] (fun iv jv wr => ∃ i j : Nat, i ≤ j ∧ j ≤ m ∧ a ≤ i ∧ iv = .int .i64 (i : Int) ∧ jv = .int .i64 (j : Int) ∧ Hid (Srch (qTwo pr L m) a m i j) ∧ Hid (RowAt g N c w0 wr L)) (fun iv jv _ => (intOf jv).toNat - (intOf iv).toNat)
  case atStart => exact ⟨a, m, by omega, Nat.le_refl _, Nat.le_refl _, rfl, rfl, hide (Srch.start (by omega)), HR⟩
  case round =>
    clear HR
    obtain ⟨i, j, hij, hjh, hli, rfl, rfl, HSR, HRW⟩ := hrel
    by_cases hlt : i < j
    · obtain ⟨h, hh⟩ : ∃ h, h = (i + j) / 2 := ⟨_, rfl⟩
      have thh : ((i : Int) + (j : Int)) / 2 = (h : Int) := by omega
      have hi1 : i ≤ h := by omega
      have hi2 : h < j := by omega
      clear hh
      have c0 := HRW.out.dat (k := m) (by omega)
      have c1 := HRW.out.dat (k := h) (by omega)
      have hlg := HRW.out.lt
      have HC := hide (fun W (hW : IsX wr W) => HCMP.out W (HRW.out.1.trans hW) (L.getD (m) 0) (L.getD (h) 0) HOM.out (HOK.out _ (by omega) (by omega)))
      by_cases hcv : pr (L.getD (m) 0) < pr (L.getD (h) 0)
      · have hcl := cmp_lt hcv
        have HS2 := hide (HSR.out.down HMONO.out hi1 hi2 (show (qTwo pr L m) h = false by unfold qTwo; simpa using hcv))
        clear hcv
        generalize Lib.compareInt (pr (L.getD (m) 0)) (pr (L.getD (h) 0)) = cv at hcl HC
        generalize L.getD (m) 0 = dx at *
        generalize L.getD (h) 0 = dy at *
        replace hcl : decide (cv < 0) = true := decide_eq_true hcl
        go_wp2_with fail
        refine wp_region_x (by kernel_rfl) (by kernel_rfl) ?_
        repeat (go_big_quiet_step ((go_at_call 50; exact call_x (HC.out _ ⟨_, rfl⟩))))
        refine wpQuiet_nil ?_
        rintro _ ⟨p0, rfl⟩
        clear c0 c1 hlg HC
        go_wp2_with fail
        go_roundw
        case rel => exact ⟨i, h, by omega, by omega, by omega, rfl, rfl, HS2, hide (HRW.out.x ⟨p0, rfl⟩)⟩
        case measure => simp [intOf]; omega
      · have hcl := cmp_ge hcv
        have HS2 := hide (HSR.out.up HMONO.out hi1 hi2 (show (qTwo pr L m) h = true by unfold qTwo; simpa using hcv))
        clear hcv
        generalize Lib.compareInt (pr (L.getD (m) 0)) (pr (L.getD (h) 0)) = cv at hcl HC
        generalize L.getD (m) 0 = dx at *
        generalize L.getD (h) 0 = dy at *
        replace hcl : decide (cv < 0) = false := decide_eq_false hcl
        go_wp2_with fail
        refine wp_region_x (by kernel_rfl) (by kernel_rfl) ?_
        repeat (go_big_quiet_step ((go_at_call 50; exact call_x (HC.out _ ⟨_, rfl⟩))))
        refine wpQuiet_nil ?_
        rintro _ ⟨p0, rfl⟩
        clear c0 c1 hlg HC
        go_wp2_with fail
        go_roundw
        case rel => exact ⟨h + 1, j, by omega, by omega, by omega, by go_num, rfl, HS2, hide (HRW.out.x ⟨p0, rfl⟩)⟩
        case measure => simp [intOf]; omega
    · obtain rfl : i = j := by omega
      obtain ⟨q, hq⟩ : ∃ q, q = i - a := ⟨_, rfl⟩
      have hqi : i = a + q := by omega
      have hqn : q ≤ U.length := by have := HUL.out; omega
      have HRES := hide (show Srt pr (U.take q ++ v :: U.drop q) from ins_srt HU.out
        (fun k hk hkq => by
          have := HSR.out.2.2.2.1 (a + k) (by omega) (by omega)
          simp only [qTwo, Bool.not_eq_true', decide_eq_false_iff_not] at this
          rw [HDU.out k hk, HDM.out] at this
          have h2 := HLT.out _ (List.getElem_mem hk)
          unfold Bef; omega)
        (fun k hk hkq => by
          have := HSR.out.2.2.2.2 (a + k) (by omega) (by have := HUL.out; omega)
          simp only [qTwo, Bool.not_eq_false', decide_eq_true_eq] at this
          rw [HDU.out k hk, HDM.out] at this
          exact .inl this))
      have HQI := hide hqi
      have HQN := hide hqn
      have HR : Hid (RowAt g N c w0 wr ((P ++ U.take U.length) ++ v :: (U.drop U.length ++ S))) := hide (by have h := HRW.out; rw [HL.out] at h; simpa using h)
      clear hq hqi hqn HSR HRW hij hjh hlt
      go_wp2_with fail
      go_loopw [17] (fun kv wr => ∃ r : Nat, q ≤ r ∧ r ≤ lu ∧ kv = .int .i64 ((a : Int) + (r : Int)) ∧ Hid (RowAt g N c w0 wr ((P ++ U.take r) ++ v :: (U.drop r ++ S)))) (fun kv _ => (intOf kv).toNat)
      case atStart => exact ⟨lu, by have := HLU.out; have := HQN.out; omega, Nat.le_refl _, by have := HLU.out; have := HUL.out; go_num, by rw [HLU.out]; exact HR⟩
      case round =>
        clear HR
        obtain ⟨r, hqr, hrl, rfl, HRW⟩ := hrel
        by_cases hlt : q < r
        · obtain ⟨r, rfl⟩ : ∃ r', r = r' + 1 := ⟨r - 1, by omega⟩
          have hru : r < U.length := by have := HLU.out; omega
          obtain ⟨z, hz⟩ : ∃ z, z = U[r] := ⟨_, rfl⟩
          have HZ1 := hide (show U.take (r + 1) = U.take r ++ [z] by rw [hz]; exact List.take_succ_eq_append_getElem hru)
          have HZ2 := hide (show U.drop r = z :: U.drop (r + 1) by rw [hz]; exact List.drop_eq_getElem_cons hru)
          have hrow := HRW.out
          rw [HZ1.out] at hrow
          have HR1 : Hid (RowAt g N c w0 wr ((P ++ U.take r) ++ z :: v :: (U.drop (r + 1) ++ S))) := hide (by simpa using hrow)
          obtain ⟨ja, hja⟩ : ∃ ja, ja = a + r := ⟨_, rfl⟩
          obtain ⟨jb, hjb⟩ : ∃ jb, jb = ja + 1 := ⟨_, rfl⟩
          have HQL : Hid (ja = (P ++ U.take r).length) := hide (by have := HPL.out; simp; omega)
          have HQM : Hid (jb = (P ++ U.take r).length + 1) := hide (by have := HQL.out; omega)
          have c0 := HR1.out.cell (k := ja) (get_mid HQL.out)
          have c1 := HR1.out.cell (k := jb) (show _ = some v from get_mid2 (M := []) (by rw [HQM.out]; simp))
          have z0 := HR1.out.fz ja
          have z1 := HR1.out.fz jb
          have hlg := HR1.out.lt
          have ta : ((a : Int) + ((r + 1 : Nat) : Int)) = (jb : Int) := by omega
          have tb : (jb : Int) - 1 = (ja : Int) := by omega
          have hll : (i : Int) < (jb : Int) := by have := HQI.out; omega
          have ba : ja < N := by have := HLU.out; have := HUL.out; omega
          have bb : jb < N := by have := HLU.out; have := HUL.out; omega
          have hne : jb ≠ ja := by omega
          have HJA := hide hja
          rw [ta]
          have HTA := hide ta
          clear hrow hja hjb ta HRW hz
          go_wp2_with fail
          go_region
          have HR3 := hide ((HR1.out.swap' HQL.out HQM.out).x (IsX.drew (IsX.refl _)))
          clear c0 c1 z0 z1 hlg HR1
          go_wp2_with fail
          go_roundw
          case rel => exact ⟨r, by omega, by omega, by rw [HJA.out]; go_num, hide (by rw [HZ2.out]; have := HR3.out; simp at this ⊢; exact this)⟩
          case measure => have := HJA.out; simp [intOf]; omega
        · obtain rfl : r = q := by omega
          have hll : ¬ ((i : Int) < (a : Int) + (r : Int)) := by have := HQI.out; omega
          have HF := hide (show RowAt g N c w0 wr (P ++ ((U.take r ++ v :: U.drop r) ++ S)) by have := HRW.out; simpa using this)
          go_wp2_with fail
          go_end0
          exact ⟨rfl, _, (ins_perm U v r).trans (List.perm_append_comm (l₁ := [v])), HRES.out, HF.out⟩

end Go.Proofs.YtfcfgkkkepifhaaGreatDoor

/- StableG -/
namespace Go.Proofs.YtfcfgkkkepifhaaGreatDoor
set_option linter.unusedVariables false
open Go.RowKit Go.Sort

theorem dat_srt {pr : Int → Int} {P U V S L : List Int} {a m b : Nat} (hL : L = P ++ (U ++ (V ++ S))) (ha : a = P.length) (hm : m = a + U.length) (hb : b = m + V.length) (hU : Srt pr U) (hV : Srt pr V) :
    (∀ i j, a ≤ i → i ≤ j → j < m → pr (L.getD i 0) ≤ pr (L.getD j 0)) ∧ (∀ i j, m ≤ i → i ≤ j → j < b → pr (L.getD i 0) ≤ pr (L.getD j 0)) := by
  subst hL
  constructor
  · intro i j h1 h2 h3
    rw [dat_mid (by omega) (by omega), dat_mid (by omega) (by omega)]
    exact srt_le hU (by omega) (by omega)
  · intro i j h1 h2 h3
    rw [dat_mid2 (by omega) (by omega), dat_mid2 (by omega) (by omega)]
    exact srt_le hV (by omega) (by omega)
def SCase (a m b mid st rr : Nat) : Prop := (mid < m ∧ st + b = mid + m ∧ rr = mid) ∨ (¬ mid < m ∧ st = a ∧ rr = m)
theorem sym_mono {pr : Int → Int} {P U V S L : List Int} {a m b mid p st rr : Nat} (hL : L = P ++ (U ++ (V ++ S))) (ha : a = P.length) (hm : m = a + U.length) (hb : b = m + V.length) (hU : Srt pr U) (hV : Srt pr V)
    (h1 : 0 < U.length) (h2 : 0 < V.length) (hmid : mid = (a + b) / 2) (hcase : SCase a m b mid st rr) (hp : p + 1 = mid + m) : Mono (qCut pr L p) st rr := by
  obtain ⟨g1, g2⟩ := dat_srt hL ha hm hb hU hV
  have hc : ((a + b) / 2 < m ∧ st = (a + b) / 2 + m - b ∧ rr = (a + b) / 2) ∨ (¬ (a + b) / 2 < m ∧ st = a ∧ rr = m) := by
    rcases hcase with h | h
    · left; omega
    · right; omega
  have := cut_mono (g := fun k => pr (L.getD k 0)) g1 g2 (by omega) (by omega) hc
  rw [show (a + b) / 2 + m - 1 = p by omega] at this
  exact this
theorem sym_split {pr : Int → Int} {P U V S L : List Int} {a m b mid p st rr s : Nat} (hL : L = P ++ (U ++ (V ++ S))) (ha : a = P.length) (hm : m = a + U.length) (hb : b = m + V.length) (hU : Srt pr U) (hV : Srt pr V)
    (hlt : ∀ u ∈ U, ∀ v ∈ V, u < v) (hmid : mid = (a + b) / 2 ∧ a < m ∧ m < b) (hcase : SCase a m b mid st rr) (hp : p + 1 = mid + m) (hs : Srch (qCut pr L p) st rr s s) :
    ∃ U1 U2 V1 V2, U = U1 ++ U2 ∧ V = V1 ++ V2 ∧ a + U1.length = s ∧ s + U2.length = m ∧ s + V1.length = mid ∧ mid + m + V2.length = b + s ∧
      ∀ Z1 Z2 : List Int, Z1.Perm (U1 ++ V1) → Z2.Perm (U2 ++ V2) → Srt pr Z1 → Srt pr Z2 → Srt pr (Z1 ++ Z2) ∧ (Z1 ++ Z2).Perm (U ++ V) := by
  obtain ⟨g1, g2⟩ := dat_srt hL ha hm hb hU hV
  obtain ⟨hmid, ham, hmb⟩ := hmid
  have hc : ((a + b) / 2 < m ∧ st = (a + b) / 2 + m - b ∧ rr = (a + b) / 2) ∨ (¬ (a + b) / 2 < m ∧ st = a ∧ rr = m) := by
    rcases hcase with h | h
    · left; omega
    · right; omega
  have hs' : Srch (fun c => !decide ((fun k => pr (L.getD k 0)) ((a + b) / 2 + m - 1 - c) < (fun k => pr (L.getD k 0)) c)) st rr s s := by
    rw [show (a + b) / 2 + m - 1 = p by omega]; exact hs
  obtain ⟨c1, c2⟩ := scut_le (g := fun k => pr (L.getD k 0)) g1 g2 ham hmb hc hs' rfl
  have hss : a ≤ s ∧ s ≤ m ∧ s ≤ mid ∧ mid + m ≤ b + s := by
    obtain ⟨k1, -, k3, -, -⟩ := hs
    rcases hcase with ⟨q1, q2, q3⟩ | ⟨q1, q2, q3⟩ <;> omega
  refine ⟨U.take (s - a), U.drop (s - a), V.take (mid - s), V.drop (mid - s), (List.take_append_drop _ _).symm, (List.take_append_drop _ _).symm, by simp; omega, by simp; omega, by simp; omega, by simp; omega, fun Z1 Z2 p1 p2 s1 s2 => ?_⟩
  have hj := join_srt (pr := pr) (U1 := U.take (s - a)) (U2 := U.drop (s - a)) (V1 := V.take (mid - s)) (V2 := V.drop (mid - s)) (Z1 := Z1) (Z2 := Z2)
    (by rw [List.take_append_drop]; exact hU) (by rw [List.take_append_drop]; exact hV) (by rw [List.take_append_drop, List.take_append_drop]; exact hlt)
    (fun u hu v hv => by
      obtain ⟨i, hi, rfl⟩ := List.getElem_of_mem hu
      obtain ⟨j, hj, rfl⟩ := List.getElem_of_mem hv
      rw [List.getElem_take, List.getElem_drop]
      simp at hi hj
      have := c1 (a + i) (m + (mid - s + j)) (by omega) (by omega) (by omega) (by omega)
      simp only [hL] at this
      rw [dat_mid (by omega) (by omega), dat_mid2 (by omega) (by omega), show a + i - P.length = i by omega, show m + (mid - s + j) - (P.length + U.length) = mid - s + j by omega, getD_at (by omega), getD_at (by omega)] at this
      exact this)
    (fun v hv u hu => by
      obtain ⟨i, hi, rfl⟩ := List.getElem_of_mem hv
      obtain ⟨j, hj, rfl⟩ := List.getElem_of_mem hu
      rw [List.getElem_take, List.getElem_drop]
      simp at hi hj
      have := c2 (m + i) (a + (s - a + j)) (by omega) (by omega) (by omega) (by omega)
      simp only [hL] at this
      rw [dat_mid (k := a + (s - a + j)) (by omega) (by omega), dat_mid2 (k := m + i) (by omega) (by omega), show a + (s - a + j) - P.length = s - a + j by omega, show m + i - (P.length + U.length) = i by omega, getD_at (by omega), getD_at (by omega)] at this
      exact this) p1 p2 s1 s2
  rw [List.take_append_drop, List.take_append_drop] at hj
  exact hj
def SymFor (pr : Int → Int) (ok : Int → Prop) (bx N c g : Nat) (w0 : World) (K : Nat) : Prop := ∀ (P U V S : List Int) (a m b : Nat) (w : World), U.length + V.length ≤ K → 0 < U.length → 0 < V.length → a = P.length → m = P.length + U.length → b = P.length + U.length + V.length →
    Srt pr U → Srt pr V → (∀ u ∈ U, ∀ v ∈ V, u < v) → (∀ x ∈ U ++ V, ok x) → RowAt g N c w0 w (P ++ (U ++ (V ++ S))) →
    Calls Tryz.prog 114 #[.slice (some ⟨g, 0, none⟩) N c, .int .i64 (a : Int), .int .i64 (m : Int), .int .i64 (b : Int), .func (.func 50) #[] #[.pointer (some ⟨bx, 0, none⟩)]] w (BlockPost pr g N c w0 P (U ++ V) S)

end Go.Proofs.YtfcfgkkkepifhaaGreatDoor

/- StableH -/
namespace Go.Proofs.YtfcfgkkkepifhaaGreatDoor
set_option linter.unusedVariables false
open Go.RowKit Go.Sort

set_option maxHeartbeats 12800000 in
set_option maxRecDepth 100000 in
theorem c_symMore (pr : Int → Int) (ok : Int → Prop) (bx N c g : Nat) (w0 : World) (K : Nat) (hcmp : CmpOk pr ok bx w0) (hN : N ≤ 1099511627776) (ih : SymFor pr ok bx N c g w0 K) (P U V S : List Int) (a m b : Nat) (w : World) (hsz : U.length + V.length ≤ K + 1) (h2 : 2 ≤ U.length) (h3 : 2 ≤ V.length)
    (ha : a = P.length) (hm : m = P.length + U.length) (hb : b = P.length + U.length + V.length) (hU : Srt pr U) (hV : Srt pr V) (hlt : ∀ u ∈ U, ∀ v ∈ V, u < v) (hok : ∀ x ∈ U ++ V, ok x) (h : RowAt g N c w0 w (P ++ (U ++ (V ++ S)))) :
    Calls Tryz.prog 114 #[.slice (some ⟨g, 0, none⟩) N c, .int .i64 (a : Int), .int .i64 (m : Int), .int .i64 (b : Int), .func (.func 50) #[] #[.pointer (some ⟨bx, 0, none⟩)]] w (BlockPost pr g N c w0 P (U ++ V) S) := by
  have hbN : b ≤ N := by have := h.len; simp at this; omega
  obtain ⟨L, hL⟩ : ∃ L, L = P ++ (U ++ (V ++ S)) := ⟨_, rfl⟩
  have HOKD : Hid (∀ k, a ≤ k → k < b → ok (L.getD k 0)) := hide (fun k h1 h2 => by
    rw [hL]
    by_cases hk : k < m
    · rw [dat_mid (by omega) (by omega)]; exact hok _ (List.mem_append.2 (.inl (getD_mem (by omega))))
    · rw [dat_mid2 (by omega) (by omega)]; exact hok _ (List.mem_append.2 (.inr (getD_mem (by omega)))))
  obtain ⟨mid, hmid⟩ : ∃ mid, mid = (a + b) / 2 := ⟨_, rfl⟩
  obtain ⟨nn, hnn⟩ : ∃ nn, nn = mid + m := ⟨_, rfl⟩
  obtain ⟨p, hp⟩ : ∃ p, p = nn - 1 := ⟨_, rfl⟩
  obtain ⟨st, hst⟩ : ∃ st, st = if mid < m then mid + m - b else a := ⟨_, rfl⟩
  obtain ⟨rr, hrr⟩ : ∃ rr, rr = if mid < m then mid else m := ⟨_, rfl⟩
  obtain ⟨lu, hlu⟩ : ∃ lu, lu = U.length := ⟨_, rfl⟩
  obtain ⟨lv, hlv⟩ : ∃ lv, lv = V.length := ⟨_, rfl⟩
  have hcase : SCase a m b mid st rr := by
    unfold SCase
    by_cases hc : mid < m
    · left; rw [hst, hrr, if_pos hc, if_pos hc]; omega
    · right; rw [hst, hrr, if_neg hc, if_neg hc]; exact ⟨hc, rfl, rfl⟩
  have HCASE := hide hcase
  have hbd : a ≤ st ∧ st ≤ rr ∧ rr ≤ m ∧ rr ≤ mid ∧ mid + m ≤ b + st := by
    rcases hcase with ⟨q1, q2, q3⟩ | ⟨q1, q2, q3⟩ <;> omega
  have HMONO := hide (sym_mono (p := p) hL ha (by omega) (by omega) hU hV (by omega) (by omega) hmid hcase (by omega))
  have HPP := hide (show p + 1 = nn ∧ nn = mid + m ∧ a ≤ st ∧ st ≤ rr ∧ rr ≤ m ∧ rr ≤ mid ∧ mid + m ≤ b + st ∧ a < m ∧ m < b ∧ mid < b from by omega)
  have HPM := hide (show p + 1 = mid + m by omega)
  have HMID := hide (show mid = (a + b) / 2 ∧ a < m ∧ m < b from by omega)
  have HUL := hide (show m = a + U.length by omega)
  have HVL := hide (show b = m + V.length by omega)
  have HPL := hide ha
  have HSZ := hide hsz
  have HOK := hide hok
  have HU := hide hU
  have HV := hide hV
  have HLT := hide hlt
  have HCMP := hide hcmp
  have HL := hide hL
  have IH := hide ih
  have HR := hide (hL ▸ h)
  have e1 : (m : Int) - (a : Int) = (lu : Int) := by omega
  have e2 : (b : Int) - (m : Int) = (lv : Int) := by omega
  have e3 : ((lu : Int) == 1) = false := by simp; omega
  have e4 : ((lv : Int) == 1) = false := by simp; omega
  have e5 : ((a : Int) + (b : Int)) / 2 = (mid : Int) := by omega
  have e6 : (mid : Int) + (m : Int) = (nn : Int) := by omega
  have e7 : (nn : Int) - 1 = (p : Int) := by omega
  have hluN : lu ≤ N := by omega
  have hlvN : lv ≤ N := by omega
  have hmN : m ≤ N := by omega
  have haN : a ≤ N := by omega
  have hmidN : mid ≤ N := by omega
  have hnnN : nn ≤ 2199023255552 := by omega
  have hpN : p ≤ 2199023255552 := by omega
  have hstr : st ≤ rr := hbd.2.1
  have hrrN : rr ≤ N := by omega
  have HST := hide (show (mid < m → (nn : Int) - (b : Int) = (st : Int) ∧ rr = mid) ∧ (¬ mid < m → a = st ∧ m = rr) from by
    rcases hcase with ⟨q1, q2, q3⟩ | ⟨q1, q2, q3⟩
    · exact ⟨fun _ => ⟨by omega, q3⟩, fun h => absurd q1 h⟩
    · exact ⟨fun h => absurd h q1, fun _ => ⟨q2.symm, q3.symm⟩⟩)
  clear hcase hbd hmid hnn hp hst hrr hlu hlv h hL hU hV hlt hok hcmp ih ha hm hb hsz h2 h3
  go_enter Tryz.func114, Tryz.ntmps114
  go_upto_region 27 with fail
  clear e1 e2 e3 e4 e5 e6
  go_cut [140] from 138 to 140 (fun s140 wc => s140 = .bool (decide (mid < m)) ∧ wc = w)
  case first =>
    go_wp2_with fail
    go_meet
    exact ⟨by first | rfl | simp, rfl⟩
  obtain ⟨rfl, rfl⟩ := hcut
  go_upto_if 140 with fail
  go_cut [20, 21] from 140 to 146 (fun s20 s21 wc => s20 = .int .i64 (st : Int) ∧ s21 = .int .i64 (rr : Int) ∧ Hid (RowAt g N c w0 wc L))
  case first =>
    by_cases hmm : mid < m
    · have hmd : decide (mid < m) = true := decide_eq_true hmm
      obtain ⟨q1, q2⟩ := HST.out.1 hmm
      have Q2 := hide q2
      clear q2
      go_wp2_with fail
      go_meet
      exact ⟨by first | rfl | go_num, by rw [Q2.out], HR⟩
    · have hmd : decide (mid < m) = false := decide_eq_false hmm
      have Q := hide (HST.out.2 hmm)
      go_wp2_with fail
      go_meet
      exact ⟨by rw [Q.out.1], by rw [Q.out.2], HR⟩
  case rest =>
    obtain ⟨rfl, rfl, HR2⟩ := hcut
    have HR := hide HR2.out
    clear HR2
    go_wp2_with fail
    clear e7
    go_loopw [20, 21] (fun iv jv wr => ∃ i j : Nat, i ≤ j ∧ j ≤ rr ∧ st ≤ i ∧ iv = .int .i64 (i : Int) ∧ jv = .int .i64 (j : Int) ∧ Hid (Srch (qCut pr L p) st rr i j) ∧ Hid (RowAt g N c w0 wr L)) (fun iv jv _ => (intOf jv).toNat - (intOf iv).toNat)
    case atStart => exact ⟨st, rr, by omega, Nat.le_refl _, Nat.le_refl _, rfl, rfl, hide (Srch.start (by omega)), HR⟩
    case round =>
      clear HR
      obtain ⟨i, j, hij, hjh, hli, rfl, rfl, HSR, HRW⟩ := hrel
      by_cases hlt : i < j
      · obtain ⟨h, hh⟩ : ∃ h, h = (i + j) / 2 := ⟨_, rfl⟩
        have thh : ((i : Int) + (j : Int)) / 2 = (h : Int) := by omega
        have hi1 : i ≤ h := by omega
        have hi2 : h < j := by omega
        clear hh
        obtain ⟨k, hk⟩ : ∃ k, k = p - h := ⟨_, rfl⟩
        have tk : (p : Int) - (h : Int) = (k : Int) := by have := HPP.out; omega
        have hka : a ≤ k ∧ k < b := by have := HPP.out; omega
        have hha : a ≤ h ∧ h < b := by have := HPP.out; omega
        have HK := hide hk
        clear hk
        have c0 := HRW.out.dat (k := k) (by omega)
        have c1 := HRW.out.dat (k := h) (by omega)
        have hlg := HRW.out.lt
        have HC := hide (fun W (hW : IsX wr W) => HCMP.out W (HRW.out.1.trans hW) (L.getD (k) 0) (L.getD (h) 0) (HOKD.out _ hka.1 hka.2) (HOKD.out _ hha.1 hha.2))
        by_cases hcv : pr (L.getD (k) 0) < pr (L.getD (h) 0)
        · have hcl := cmp_lt hcv
          have HS2 := hide (HSR.out.down HMONO.out hi1 hi2 (show (qCut pr L p) h = false by unfold qCut; rw [← HK.out]; simpa using hcv))
          clear hcv
          generalize Lib.compareInt (pr (L.getD (k) 0)) (pr (L.getD (h) 0)) = cv at hcl HC
          generalize L.getD (k) 0 = dx at *
          generalize L.getD (h) 0 = dy at *
          replace hcl : decide (cv < 0) = true := decide_eq_true hcl
          go_wp2_with fail
          refine wp_region_x (by kernel_rfl) (by kernel_rfl) ?_
          repeat (go_big_quiet_step ((go_at_call 50; exact call_x (HC.out _ ⟨_, rfl⟩))))
          refine wpQuiet_nil ?_
          rintro _ ⟨p0, rfl⟩
          clear c0 c1 hlg HC
          go_wp2_with fail
          go_roundw
          case rel => exact ⟨i, h, by omega, by omega, by omega, rfl, rfl, HS2, hide (HRW.out.x ⟨p0, rfl⟩)⟩
          case measure => simp [intOf]; omega
        · have hcl := cmp_ge hcv
          have HS2 := hide (HSR.out.up HMONO.out hi1 hi2 (show (qCut pr L p) h = true by unfold qCut; rw [← HK.out]; simpa using hcv))
          clear hcv
          generalize Lib.compareInt (pr (L.getD (k) 0)) (pr (L.getD (h) 0)) = cv at hcl HC
          generalize L.getD (k) 0 = dx at *
          generalize L.getD (h) 0 = dy at *
          replace hcl : decide (cv < 0) = false := decide_eq_false hcl
          go_wp2_with fail
          refine wp_region_x (by kernel_rfl) (by kernel_rfl) ?_
          repeat (go_big_quiet_step ((go_at_call 50; exact call_x (HC.out _ ⟨_, rfl⟩))))
          refine wpQuiet_nil ?_
          rintro _ ⟨p0, rfl⟩
          clear c0 c1 hlg HC
          go_wp2_with fail
          go_roundw
          case rel => exact ⟨h + 1, j, by omega, by omega, by omega, by go_num, rfl, HS2, hide (HRW.out.x ⟨p0, rfl⟩)⟩
          case measure => simp [intOf]; omega
      · obtain rfl : i = j := by omega
        have HRW2 := hide HRW.out
        have HS := hide (HSR.out)
        clear HSR HRW hij hjh hli hlt
        obtain ⟨U1, U2, V1, V2, hU12, hV12, l1, l2, l3, l4, hJ⟩ := sym_split HL.out HPL.out HUL.out HVL.out HU.out HV.out HLT.out HMID.out HCASE.out HPM.out HS.out
        obtain ⟨ee, hee⟩ : ∃ ee, ee = mid + m - i := ⟨_, rfl⟩
        have tee : (nn : Int) - (i : Int) = (ee : Int) := by have := HPP.out; omega
        have HJ := hide hJ
        have HLE := hide (show a + U1.length = i ∧ i + U2.length = m ∧ m + V1.length = ee ∧ ee + V2.length = b ∧ i + V1.length = mid from by omega)
        have HUU := hide (show Srt pr U1 ∧ Srt pr U2 ∧ Srt pr V1 ∧ Srt pr V2 from by
          have h1 := HU.out; have h2 := HV.out
          rw [hU12] at h1; rw [hV12] at h2
          exact ⟨(List.pairwise_append.1 h1).1, (List.pairwise_append.1 h1).2.1, (List.pairwise_append.1 h2).1, (List.pairwise_append.1 h2).2.1⟩)
        have HMEM := hide (show (∀ x ∈ U1, x ∈ U) ∧ (∀ x ∈ U2, x ∈ U) ∧ (∀ x ∈ V1, x ∈ V) ∧ (∀ x ∈ V2, x ∈ V) from by
          rw [hU12, hV12]; exact ⟨fun x h => List.mem_append.2 (.inl h), fun x h => List.mem_append.2 (.inr h), fun x h => List.mem_append.2 (.inl h), fun x h => List.mem_append.2 (.inr h)⟩)
        have HR : Hid (RowAt g N c w0 wr (P ++ (U1 ++ (U2 ++ (V1 ++ (V2 ++ S)))))) := hide (by have h := HRW2.out; rw [HL.out, hU12, hV12] at h; simpa using h)
        have heb : ee ≤ N := by have := HLE.out; omega
        have hib : i ≤ N := by have := HLE.out; omega
        clear hU12 hV12 l1 l2 l3 l4 hJ hee HRW2 HS
        go_upto_region 39 with fail
        clear tee
        obtain ⟨t1, ht1⟩ : ∃ t : Bool, t = decide (i < m ∧ m < ee) := ⟨_, rfl⟩
        have HT1 := hide ht1
        clear ht1
        go_cut [185] from 178 to 185 (fun s wc => s = .bool t1 ∧ wc = wr)
        case first =>
          by_cases k1 : i < m
          · by_cases k2 : m < ee
            · go_wp2_with fail
              go_meet
              exact ⟨by rw [HT1.out]; simp [k1, k2], rfl⟩
            · go_wp2_with fail
              go_meet
              exact ⟨by rw [HT1.out]; simp [k1, k2], rfl⟩
          · go_wp2_with fail
            go_meet
            exact ⟨by rw [HT1.out]; simp [k1], rfl⟩
        obtain ⟨rfl, rfl⟩ := hcut
        go_upto_if 185 with fail
        go_cut [191] from 185 to 191 (fun _ wc => Hid (RowAt g N c w0 wc (P ++ (U1 ++ (V1 ++ (U2 ++ (V2 ++ S)))))))
        case first =>
          cases t1
          rotate_left
          · have kk : i < m ∧ m < ee := of_decide_eq_true HT1.out.symm
            have HC := hide (fun wq (hq : RowAt g N c w0 wq (P ++ (U1 ++ (U2 ++ (V1 ++ (V2 ++ S)))))) => c_rotate (.func (.func 50) #[] #[.pointer (some ⟨bx, 0, none⟩)]) (P ++ U1) U2 V1 (V2 ++ S) i m ee N c g w0 wq (by have := HLE.out; have := HPL.out; simp; omega) (by have := HLE.out; have := HPL.out; simp; omega) (by have := HLE.out; have := HPL.out; simp; omega) (by have := HLE.out; omega) (by have := HLE.out; omega) hN (by simpa using hq))
            clear kk
            go_wp2_with (go_at_call 146; refine (HC.out _ HR.out).mono ?_; rintro e w2 ⟨rfl, hr2⟩; have HR2 := hide hr2; clear hr2)
            go_meet
            exact hide (by simpa using HR2.out)
          · have kk : ¬ (i < m ∧ m < ee) := of_decide_eq_false HT1.out.symm
            have h0 : U2 = [] ∨ V1 = [] := by
              by_cases k1 : i < m
              · right; exact List.eq_nil_of_length_eq_zero (by have := HLE.out; omega)
              · left; exact List.eq_nil_of_length_eq_zero (by have := HLE.out; omega)
            have HR2 := hide (show ∀ wq, RowAt g N c w0 wq (P ++ (U1 ++ (U2 ++ (V1 ++ (V2 ++ S))))) → RowAt g N c w0 wq (P ++ (U1 ++ (V1 ++ (U2 ++ (V2 ++ S))))) from fun wq h => by
              rcases h0 with h0 | h0 <;> rw [h0] at h ⊢ <;> exact h)
            clear kk h0
            go_wp2_with fail
            go_meet
            exact hide (HR2.out _ HR.out)
        have HR2 := hide hcut.out
        clear hcut HR
        go_upto_region 41 with fail
        obtain ⟨t2, ht2⟩ : ∃ t : Bool, t = decide (a < i ∧ i < mid) := ⟨_, rfl⟩
        have HT2 := hide ht2
        clear ht2
        go_cut [199] from 192 to 199 (fun s wd => s = .bool t2 ∧ Hid (RowAt g N c w0 wd (P ++ (U1 ++ (V1 ++ (U2 ++ (V2 ++ S)))))))
        case first =>
          by_cases k1 : a < i
          · by_cases k2 : i < mid
            · go_wp2_with fail
              go_meet
              exact ⟨by rw [HT2.out]; simp [k1, k2], HR2⟩
            · go_wp2_with fail
              go_meet
              exact ⟨by rw [HT2.out]; simp [k1, k2], HR2⟩
          · go_wp2_with fail
            go_meet
            exact ⟨by rw [HT2.out]; simp [k1], HR2⟩
        clear HR2
        obtain ⟨rfl, HR2⟩ := hcut
        go_upto_if 199 with fail
        go_cut [205] from 199 to 205 (fun _ wd => ∃ Z1 : List Int, Hid (Z1.Perm (U1 ++ V1) ∧ Srt pr Z1 ∧ RowAt g N c w0 wd (P ++ (Z1 ++ (U2 ++ (V2 ++ S))))))
        case first =>
          cases t2
          rotate_left
          · have kk : a < i ∧ i < mid := of_decide_eq_true HT2.out.symm
            have HC := hide (fun W hW => IH.out P U1 V1 (U2 ++ (V2 ++ S)) a i mid W (by have := HLE.out; have := HSZ.out; have := HUL.out; have := HVL.out; have := HPP.out; omega) (by have := HLE.out; omega) (by have := HLE.out; omega) HPL.out (by have := HLE.out; have := HPL.out; omega) (by have := HLE.out; have := HPL.out; omega) HUU.out.1 HUU.out.2.2.1 (fun u hu v hv => HLT.out u (HMEM.out.1 u hu) v (HMEM.out.2.2.1 v hv)) (fun x hx => by
                rcases List.mem_append.1 hx with hx | hx
                · exact HOK.out x (List.mem_append.2 (.inl (HMEM.out.1 x hx)))
                · exact HOK.out x (List.mem_append.2 (.inr (HMEM.out.2.2.1 x hx)))) hW)
            clear kk
            go_wp2_with (go_at_call 114; refine (HC.out _ HR2.out).mono ?_; rintro e w2 ⟨rfl, Z1, z1, z2, z3⟩; have HZ := hide (show _ ∧ _ ∧ _ from ⟨z1, z2, z3⟩); clear z1 z2 z3)
            go_meet
            exact ⟨Z1, HZ⟩
          · have kk : ¬ (a < i ∧ i < mid) := of_decide_eq_false HT2.out.symm
            have HZ := hide (show ∀ wq, RowAt g N c w0 wq (P ++ (U1 ++ (V1 ++ (U2 ++ (V2 ++ S))))) → ((U1 ++ V1).Perm (U1 ++ V1) ∧ Srt pr (U1 ++ V1) ∧ RowAt g N c w0 wq (P ++ ((U1 ++ V1) ++ (U2 ++ (V2 ++ S))))) from fun wq h => ⟨List.Perm.refl _, by
              by_cases k1 : a < i
              · have h0 : V1 = [] := List.eq_nil_of_length_eq_zero (by have := HLE.out; omega)
                rw [h0, List.append_nil]; exact HUU.out.1
              · have h0 : U1 = [] := List.eq_nil_of_length_eq_zero (by have := HLE.out; omega)
                rw [h0, List.nil_append]; exact HUU.out.2.2.1, by simpa using h⟩)
            clear kk
            go_wp2_with fail
            go_meet
            exact ⟨_, hide (HZ.out _ HR2.out)⟩
        clear HR2
        obtain ⟨Z1, HZ⟩ := hcut
        have hzl := HZ.out.1.length_eq
        rw [List.length_append] at hzl
        have HZL := hide hzl
        clear hzl
        by_cases k1 : mid < ee
        · by_cases k2 : ee < b
          · have HC := hide (fun W hW => IH.out (P ++ Z1) U2 V2 S mid ee b W (by have := HMID.out; have := HLE.out; have := HSZ.out; have := HUL.out; have := HVL.out; have := HPP.out; omega) (by have := HLE.out; omega) (by have := HLE.out; omega) (by have := HLE.out; have := HPL.out; have := HZL.out; simp; omega) (by have := HLE.out; have := HPL.out; have := HZL.out; simp; omega) (by have := HLE.out; have := HPL.out; have := HZL.out; simp; omega) HUU.out.2.1 HUU.out.2.2.2 (fun u hu v hv => HLT.out u (HMEM.out.2.1 u hu) v (HMEM.out.2.2.2 v hv)) (fun x hx => by
                rcases List.mem_append.1 hx with hx | hx
                · exact HOK.out x (List.mem_append.2 (.inl (HMEM.out.2.1 x hx)))
                · exact HOK.out x (List.mem_append.2 (.inr (HMEM.out.2.2.2 x hx)))) hW)
            have HF2 := hide (show ∀ wq, RowAt g N c w0 wq (P ++ (Z1 ++ (U2 ++ (V2 ++ S)))) → RowAt g N c w0 wq ((P ++ Z1) ++ (U2 ++ (V2 ++ S))) from fun wq h => by simpa using h)
            go_wp2_with (go_at_call 114; refine (HC.out _ (HF2.out _ HZ.out.2.2)).mono ?_; rintro e w2 ⟨rfl, Z2, z1, z2, z3⟩; have HZ2 := hide (show _ ∧ _ ∧ _ from ⟨z1, z2, z3⟩); clear z1 z2 z3)
            go_end0
            have hj := HJ.out Z1 Z2 HZ.out.1 HZ2.out.1 HZ.out.2.1 HZ2.out.2.1
            exact ⟨rfl, Z1 ++ Z2, hj.2, hj.1, by simpa using HZ2.out.2.2⟩
          · have HF := hide (HJ.out Z1 (U2 ++ V2) HZ.out.1 (List.Perm.refl _) HZ.out.2.1 (by
              have h0 : V2 = [] := List.eq_nil_of_length_eq_zero (by have := HLE.out; omega)
              rw [h0, List.append_nil]; exact HUU.out.2.1))
            have HR3 := hide (show ∀ wq, RowAt g N c w0 wq (P ++ (Z1 ++ (U2 ++ (V2 ++ S)))) → RowAt g N c w0 wq (P ++ ((Z1 ++ (U2 ++ V2)) ++ S)) from fun wq h => by simpa using h)
            go_wp2_with fail
            go_end0
            exact ⟨rfl, _, HF.out.2, HF.out.1, HR3.out _ HZ.out.2.2⟩
        · have HF := hide (HJ.out Z1 (U2 ++ V2) HZ.out.1 (List.Perm.refl _) HZ.out.2.1 (by
            have h0 : U2 = [] := List.eq_nil_of_length_eq_zero (by have := HLE.out; omega)
            rw [h0, List.nil_append]; exact HUU.out.2.2.2))
          have HR3 := hide (show ∀ wq, RowAt g N c w0 wq (P ++ (Z1 ++ (U2 ++ (V2 ++ S)))) → RowAt g N c w0 wq (P ++ ((Z1 ++ (U2 ++ V2)) ++ S)) from fun wq h => by simpa using h)
          go_wp2_with fail
          go_end0
          exact ⟨rfl, _, HF.out.2, HF.out.1, HR3.out _ HZ.out.2.2⟩

end Go.Proofs.YtfcfgkkkepifhaaGreatDoor

/- StableS -/
namespace Go.Proofs.YtfcfgkkkepifhaaGreatDoor
set_option linter.unusedVariables false
open Go.RowKit Go.Sort

theorem c_symMerge (pr : Int → Int) (ok : Int → Prop) (bx N c g : Nat) (w0 : World) (hcmp : CmpOk pr ok bx w0) (hN : N ≤ 1099511627776) : ∀ K, SymFor pr ok bx N c g w0 K
  | 0 => fun P U V S a m b w hk hu hv => by omega
  | K + 1 => fun P U V S a m b w hk hu hv ha hm hb hU hV hlt hok h => by
    have ih := c_symMerge pr ok bx N c g w0 hcmp hN K
    by_cases h1 : U.length = 1
    · obtain ⟨u, rfl⟩ : ∃ u, U = [u] := by
        match U, h1 with
        | [u], _ => exact ⟨u, rfl⟩
      refine (c_symOne pr ok bx P V S u a m b N c g w0 w hcmp ha hm hb hV (fun v hv => hlt u (by simp) v hv) (hok u (by simp)) (fun x hx => hok x (by simp [hx])) hN (by simpa using h)).mono ?_
      rintro e w' ⟨rfl, Z, z1, z2, z3⟩
      exact ⟨rfl, Z, z1, z2, z3⟩
    · by_cases h2 : V.length = 1
      · obtain ⟨v, rfl⟩ : ∃ v, V = [v] := by
          match V, h2 with
          | [v], _ => exact ⟨v, rfl⟩
        exact c_symTwo pr ok bx P U S v a m b N c g w0 w hcmp ha hm hb (by omega) hU (fun u hu => hlt u hu v (by simp)) (hok v (by simp)) (fun x hx => hok x (by simp [hx])) hN (by simpa using h)
      · exact c_symMore pr ok bx N c g w0 K hcmp hN ih P U V S a m b w hk (by omega) (by omega) ha hm hb hU hV hlt hok h
/-- the row after t elements have been sorted by blocks of 20 -/
def Part (pr : Int → Int) (F : List Int) (t : Nat) (D : List (List Int)) : Prop := D.flatten.Perm (F.take t) ∧ D.flatten.length = t ∧ (∀ c ∈ D, c.length = 20) ∧ Goods pr D
theorem Part.zero (pr : Int → Int) (F : List Int) : Part pr F 0 [] := ⟨by simp, rfl, fun c h => by simp at h, fun c h => by simp at h, List.Pairwise.nil⟩
theorem part_lt {F : List Int} (hF : F.Pairwise (· < ·)) {t : Nat} {x y : Int} (hx : x ∈ F.take t) (hy : y ∈ F.drop t) : x < y := by
  have h := hF
  rw [← List.take_append_drop t F] at h
  exact (List.pairwise_append.1 h).2.2 x hx y hy
theorem Part.goods {pr : Int → Int} {F : List Int} {t k : Nat} {D : List (List Int)} {Z : List Int} (h : Part pr F t D) (hF : F.Pairwise (· < ·)) (hp : Z.Perm ((F.drop t).take k)) (hs : Srt pr Z) : Goods pr (D ++ [Z]) ∧ (D ++ [Z]).flatten.Perm (F.take (t + k)) := by
  obtain ⟨h1, h2, h3, h4⟩ := h
  refine ⟨h4.more (fun x hx y hy => part_lt hF (h1.mem_iff.1 hx) (List.mem_of_mem_take hy)) hp hs, ?_⟩
  have e : F.take (t + k) = F.take t ++ (F.drop t).take k := List.take_add
  rw [e, List.flatten_append]
  simp only [List.flatten_cons, List.flatten_nil, List.append_nil]
  exact h1.append hp
theorem Part.step {pr : Int → Int} {F : List Int} {t : Nat} {D : List (List Int)} {Z : List Int} (h : Part pr F t D) (hF : F.Pairwise (· < ·)) (ht : t + 20 ≤ F.length) (hp : Z.Perm ((F.drop t).take 20)) (hs : Srt pr Z) : Part pr F (t + 20) (D ++ [Z]) := by
  obtain ⟨g1, g2⟩ := h.goods hF hp hs
  obtain ⟨h1, h2, h3, h4⟩ := h
  have hz : Z.length = 20 := by rw [hp.length_eq, List.length_take, List.length_drop]; omega
  refine ⟨g2, by rw [List.flatten_append, List.length_append, h2]; simp [hz], fun c hc => ?_, g1⟩
  rcases List.mem_append.1 hc with hc | hc
  · exact h3 c hc
  · rw [List.mem_singleton.1 hc]; exact hz
/-- sorted blocks of bs elements, the last one perhaps shorter -/
def Runs (pr : Int → Int) (F : List Int) (bs : Nat) (C : List (List Int)) : Prop := 0 < bs ∧ Chk bs C ∧ Goods pr C ∧ C.flatten.Perm F
theorem Part.done {pr : Int → Int} {F : List Int} {t : Nat} {D : List (List Int)} {Z : List Int} (h : Part pr F t D) (hF : F.Pairwise (· < ·)) (ht : F.length < t + 20) (hp : Z.Perm (F.drop t)) (hs : Srt pr Z) : ∃ C, Runs pr F 20 C ∧ C.flatten = D.flatten ++ Z := by
  have hz : Z.length < 20 := by rw [hp.length_eq, List.length_drop]; omega
  have hp' : Z.Perm ((F.drop t).take 20) := by rw [List.take_of_length_le (by rw [List.length_drop]; omega)]; exact hp
  obtain ⟨g1, g2⟩ := h.goods hF hp' hs
  rw [List.take_of_length_le (by omega)] at g2
  obtain ⟨h1, h2, h3, h4⟩ := h
  rcases Nat.eq_zero_or_pos Z.length with h0 | h0
  · have hn := List.eq_nil_of_length_eq_zero h0
    subst hn
    refine ⟨D, ⟨by omega, by have := Chk.app (T := []) h3 (by omega) trivial; simpa using this, h4, by simpa using g2⟩, by simp⟩
  · refine ⟨D ++ [Z], ⟨by omega, Chk.app h3 (by omega) ⟨fun _ => by omega, fun h => absurd rfl h, trivial, h0⟩, g1, g2⟩, by simp⟩
/-- a pass that merges blocks two by two: D is merged, T is to come -/
def Pass (pr : Int → Int) (F : List Int) (bs t : Nat) (D T : List (List Int)) : Prop := D.flatten.length = t ∧ (∀ c ∈ D, c.length = 2 * bs) ∧ 0 < bs ∧ Chk bs T ∧ Goods pr (D ++ T) ∧ (D ++ T).flatten.Perm F
theorem Runs.pass {pr : Int → Int} {F : List Int} {bs : Nat} {C : List (List Int)} (h : Runs pr F bs C) : Pass pr F bs 0 [] C := ⟨rfl, fun c h => by simp at h, h.1, h.2.1, by simpa using h.2.2.1, by simpa using h.2.2.2⟩
theorem pass_len {pr : Int → Int} {F : List Int} {bs t : Nat} {D T : List (List Int)} (h : Pass pr F bs t D T) : t + T.flatten.length = F.length := by
  have := h.2.2.2.2.2.length_eq
  rw [List.flatten_append, List.length_append, h.1] at this
  exact this
theorem flat_mid (D r : List (List Int)) (c d : List Int) : (D ++ c :: d :: r).flatten = D.flatten ++ (c ++ (d ++ r.flatten)) := by simp
theorem flat_one (D r : List (List Int)) (Z : List Int) : (D ++ Z :: r).flatten = D.flatten ++ (Z ++ r.flatten) := by simp
theorem Pass.step {pr : Int → Int} {F : List Int} {bs t : Nat} {D T : List (List Int)} (h : Pass pr F bs t D T) (ht : t + 2 * bs ≤ F.length) :
    ∃ c d r, T = c :: d :: r ∧ c.length = bs ∧ d.length = bs ∧ Srt pr c ∧ Srt pr d ∧ (∀ x ∈ c, ∀ y ∈ d, x < y) ∧ (∀ x ∈ c ++ d, x ∈ F) ∧ ∀ Z : List Int, Z.Perm (c ++ d) → Srt pr Z → Pass pr F bs (t + 2 * bs) (D ++ [Z]) r := by
  have hl := pass_len h
  obtain ⟨h1, h2, h3, h4, h5, h6⟩ := h
  obtain ⟨c, d, r, rfl, hc, hd, hr⟩ := h4.two h3 (by omega)
  obtain ⟨g1, g2, g3⟩ := h5.parts
  refine ⟨c, d, r, rfl, hc, hd, g1, g2, g3, fun x hx => h6.mem_iff.1 (by rw [flat_mid]; simp only [List.mem_append] at hx ⊢; rcases hx with hx | hx <;> simp [hx]), fun Z hp hs => ?_⟩
  have hz : Z.length = 2 * bs := by rw [hp.length_eq, List.length_append]; omega
  refine ⟨by rw [List.flatten_append, List.length_append, h1]; simp [hz], fun x hx => ?_, h3, hr, ?_, ?_⟩
  · rcases List.mem_append.1 hx with hx | hx
    · exact h2 x hx
    · rw [List.mem_singleton.1 hx]; exact hz
  · have := h5.merge hp hs
    simpa using this
  · refine List.Perm.trans ?_ h6
    rw [List.append_assoc, List.singleton_append, flat_one, flat_mid]
    refine List.Perm.append_left _ ?_
    have := hp.append_right r.flatten
    rwa [List.append_assoc] at this
theorem Pass.last {pr : Int → Int} {F : List Int} {bs t : Nat} {D T : List (List Int)} (h : Pass pr F bs t D T) (ht : F.length < t + 2 * bs) :
    (t + bs < F.length ∧ ∃ c d, T = [c, d] ∧ c.length = bs ∧ 0 < d.length ∧ Srt pr c ∧ Srt pr d ∧ (∀ x ∈ c, ∀ y ∈ d, x < y) ∧ (∀ x ∈ c ++ d, x ∈ F) ∧ ∀ Z : List Int, Z.Perm (c ++ d) → Srt pr Z → Runs pr F (2 * bs) (D ++ [Z])) ∨
    (F.length ≤ t + bs ∧ Runs pr F (2 * bs) (D ++ T)) := by
  have hl := pass_len h
  obtain ⟨h1, h2, h3, h4, h5, h6⟩ := h
  rcases h4.tail h3 (by omega) with ⟨k1, c, d, rfl, hc, hd0, hd⟩ | ⟨k1, k2⟩
  · left
    obtain ⟨g1, g2, g3⟩ := h5.parts
    refine ⟨by omega, c, d, rfl, hc, hd0, g1, g2, g3, fun x hx => h6.mem_iff.1 (by rw [flat_mid]; simp only [List.mem_append] at hx ⊢; rcases hx with hx | hx <;> simp [hx]), fun Z hp hs => ?_⟩
    have hz : Z.length = bs + d.length := by rw [hp.length_eq, List.length_append, hc]
    refine ⟨by omega, Chk.app h2 (by omega) ⟨fun _ => by omega, fun h => absurd rfl h, trivial, by omega⟩, h5.merge hp hs, ?_⟩
    refine List.Perm.trans ?_ h6
    rw [flat_one, flat_mid]
    refine List.Perm.append_left _ ?_
    have := hp.append_right ([] : List (List Int)).flatten
    rwa [List.append_assoc] at this
  · right
    refine ⟨by omega, by omega, ?_, h5, h6⟩
    rcases k2 with rfl | ⟨c, rfl, hc0, hc⟩
    · have := Chk.app (T := []) h2 (by omega) trivial
      exact this
    · exact Chk.app h2 (by omega) ⟨fun _ => by omega, fun h => absurd rfl h, trivial, hc0⟩
theorem Runs.done {pr : Int → Int} {F : List Int} {bs : Nat} {C : List (List Int)} (h : Runs pr F bs C) (hl : F.length ≤ bs) : Srt pr C.flatten ∧ C.flatten.Perm F := by
  obtain ⟨h1, h2, h3, h4⟩ := h
  refine ⟨?_, h4⟩
  rcases h2.one h1 (by rw [h4.length_eq]; exact hl) with rfl | ⟨c, rfl⟩
  · exact List.Pairwise.nil
  · simpa using h3.1 c (by simp)

set_option maxHeartbeats 6400000 in
set_option maxRecDepth 100000 in
theorem c_stable (pr : Int → Int) (ok : Int → Prop) (bx : Nat) (F : List Int) (n c g : Nat) (w0 w : World) (hcmp : CmpOk pr ok bx w0) (hF : F.Pairwise (· < ·)) (hok : ∀ x ∈ F, ok x) (hn : n = F.length) (hN : n ≤ 1099511627776) (h : RowAt g n c w0 w F) :
    Calls Tryz.prog 79 #[.slice (some ⟨g, 0, none⟩) n c, .int .i64 (n : Int), .func (.func 50) #[] #[.pointer (some ⟨bx, 0, none⟩)]] w fun e w' => e = .returned (.tuple #[]) ∧ ∃ Z : List Int, Z.Perm F ∧ Srt pr Z ∧ RowAt g n c w0 w' Z := by
  have HSM := hide (fun K => c_symMerge pr ok bx n c g w0 hcmp hN K)
  have HIS := hide (fun (P X S : List Int) (a b : Nat) (W : World) => c_insSort pr ok bx P X S a b n c g w0 W hcmp)
  have HF := hide hF
  have HOK := hide hok
  have HNN := hide hn
  have HST : Hid (∃ D, Part pr F 0 D ∧ RowAt g n c w0 w (D.flatten ++ F.drop 0)) := hide ⟨[], Part.zero pr F, by simpa using h⟩
  clear hcmp hF hok hn h
  go_enter Tryz.func79, Tryz.ntmps79
  go_wp2_with fail
  go_loopw [7, 8] (fun av bv wr => ∃ t : Nat, t ≤ n ∧ av = .int .i64 (t : Int) ∧ bv = .int .i64 ((t : Int) + 20) ∧ Hid (∃ D, Part pr F t D ∧ RowAt g n c w0 wr (D.flatten ++ F.drop t))) (fun av _ _ => n - (intOf av).toNat)
  case atStart => exact ⟨0, Nat.zero_le _, rfl, rfl, HST⟩
  case round =>
    clear HST
    obtain ⟨t, ht, rfl, rfl, HD⟩ := hrel
    obtain ⟨D, hd, hr⟩ := HD.out
    have HPT := hide hd
    have HR := hide hr
    have hdl := hd.2.1
    by_cases hlt : t + 20 ≤ n
    · have hz : ((t : Int) + 20 ≤ (n : Int)) := by omega
      obtain ⟨b, hb⟩ : ∃ b, b = t + 20 := ⟨_, rfl⟩
      have tb : (t : Int) + 20 = (b : Int) := by omega
      have HB := hide hb
      have HC := hide (HIS.out D.flatten ((F.drop t).take 20) (F.drop (t + 20)) t b wr (by omega) (by rw [List.length_take, List.length_drop, hdl]; have := HNN.out; omega)
        ((HF.out.sublist (List.drop_sublist _ _)).sublist (List.take_sublist _ _)) (fun x hx => HOK.out x (List.mem_of_mem_drop (List.mem_of_mem_take hx))) hN (by
          rw [show (F.drop t).take 20 ++ F.drop (t + 20) = F.drop t by rw [← List.drop_drop, List.take_append_drop]]
          exact hr))
      have hbN : b ≤ n := by omega
      rw [tb] at hz
      clear hd hr hdl hb
      go_wp2_with (go_at_call 113; refine HC.out.mono ?_; rintro e w2 ⟨rfl, Z, z1, z2, z3⟩; have HZ := hide (show _ ∧ _ ∧ _ from ⟨z1, z2, z3⟩); clear z1 z2 z3)
      go_roundw
      case rel => exact ⟨b, hbN, rfl, by go_num, hide ⟨D ++ [Z], by rw [HB.out]; exact HPT.out.step HF.out (by have := HNN.out; omega) HZ.out.1 HZ.out.2.1, by rw [HB.out]; have := HZ.out.2.2; simpa using this⟩⟩
      case measure => have := HB.out; simp [intOf]; omega
    · have hz : ¬ ((t : Int) + 20 ≤ (n : Int)) := by omega
      have HC := hide (HIS.out D.flatten (F.drop t) [] t n wr (by omega) (by rw [List.length_drop, hdl]; have := HNN.out; omega)
        (HF.out.sublist (List.drop_sublist _ _)) (fun x hx => HOK.out x (List.mem_of_mem_drop hx)) hN (by simpa using hr))
      have HLT := hide hlt
      clear hd hr hdl hlt
      go_wp2_with (go_at_call 113; refine HC.out.mono ?_; rintro e w2 ⟨rfl, Z, z1, z2, z3⟩; have HZ := hide (show _ ∧ _ ∧ _ from ⟨z1, z2, z3⟩); clear z1 z2 z3)
      have HRUN : Hid (∃ C, Runs pr F 20 C ∧ RowAt g n c w0 w2 C.flatten) := hide (by
        obtain ⟨C, k1, k2⟩ := HPT.out.done HF.out (by have := HNN.out; have := HLT.out; omega) HZ.out.1 HZ.out.2.1
        refine ⟨C, k1, ?_⟩
        have := HZ.out.2.2
        rw [List.append_nil] at this
        rw [k2]; exact this)
      clear hz HC HZ HR HD HPT
      go_loopw [6] (fun sv wr => ∃ bs : Nat, 20 ≤ bs ∧ bs ≤ 4398046511104 ∧ sv = .int .i64 (bs : Int) ∧ Hid (∃ C, Runs pr F bs C ∧ RowAt g n c w0 wr C.flatten)) (fun sv _ => n - (intOf sv).toNat)
      case atStart => exact ⟨20, Nat.le_refl _, by omega, rfl, HRUN⟩
      case round =>
        clear HRUN
        obtain ⟨bs, hbs, hbs2, rfl, HC⟩ := hrel
        by_cases hlt : bs < n
        · have HST2 : Hid (∃ D T, Pass pr F bs 0 D T ∧ RowAt g n c w0 wr (D ++ T).flatten) := hide (by
            obtain ⟨C, k1, k2⟩ := HC.out
            exact ⟨[], C, k1.pass, by simpa using k2⟩)
          obtain ⟨b2, hb2⟩ : ∃ b2, b2 = 2 * bs := ⟨_, rfl⟩
          have tb2 : 2 * (bs : Int) = (b2 : Int) := by omega
          have tb3 : (bs : Int) * 2 = (b2 : Int) := by omega
          have HB2 := hide hb2
          have hb20 : b2 ≤ 2199023255552 := by omega
          clear hb2 HC
          go_wp2_with fail
          go_loopw [7, 8] (fun av bv wr => ∃ t : Nat, t ≤ n ∧ av = .int .i64 (t : Int) ∧ bv = .int .i64 ((t : Int) + (b2 : Int)) ∧ Hid (∃ D T, Pass pr F bs t D T ∧ RowAt g n c w0 wr (D ++ T).flatten)) (fun av _ _ => n - (intOf av).toNat)
          case atStart => exact ⟨0, Nat.zero_le _, rfl, by go_num, HST2⟩
          case round =>
            clear HST2
            obtain ⟨t, ht, rfl, rfl, HD⟩ := hrel
            obtain ⟨D, T, hd, hr⟩ := HD.out
            have hdl := hd.1
            by_cases hle : t + b2 ≤ n
            · obtain ⟨c1, d1, r1, hT, hc, hdd, s1, s2, s3, s4, hz⟩ := hd.step (by have := HNN.out; have := HB2.out; omega)
              have HSTEP := hide hz
              obtain ⟨b, hb⟩ : ∃ b, b = t + b2 := ⟨_, rfl⟩
              obtain ⟨m, hm⟩ : ∃ m, m = t + bs := ⟨_, rfl⟩
              have tb : (t : Int) + (b2 : Int) = (b : Int) := by omega
              have tm : (t : Int) + (bs : Int) = (m : Int) := by omega
              have HB := hide hb
              have HM := hide hm
              have HCC := hide (HSM.out (c1.length + d1.length) D.flatten c1 d1 r1.flatten t m b wr (Nat.le_refl _) (by omega) (by omega) (by omega) (by omega) (by have := HB2.out; omega) s1 s2 s3 (fun x hx => HOK.out x (s4 x hx)) (by rw [hT, flat_mid] at hr; exact hr))
              have hbN : b ≤ n := by omega
              have hmN : m ≤ n := by have := HB2.out; omega
              have hzz : (t : Int) + (b2 : Int) ≤ (n : Int) := by omega
              rw [tb] at hzz ⊢
              clear hd hr hdl hb hm hT hc hdd s1 s2 s3 s4 hz tb HD hle
              go_wp2_with (go_at_call 114; refine HCC.out.mono ?_; rintro e w2 ⟨rfl, Z, z1, z2, z3⟩; have HZ := hide (show _ ∧ _ ∧ _ from ⟨z1, z2, z3⟩); clear z1 z2 z3)
              go_roundw
              case rel => exact ⟨b, hbN, rfl, by go_num, hide ⟨D ++ [Z], r1, by have := HSTEP.out Z HZ.out.1 HZ.out.2.1; rw [HB.out, HB2.out]; exact this, by have := HZ.out.2.2; simpa using this⟩⟩
              case measure => have := HB.out; have := HB2.out; simp [intOf]; omega
            · have hzz : ¬ ((t : Int) + (b2 : Int) ≤ (n : Int)) := by omega
              obtain ⟨m, hm⟩ : ∃ m, m = t + bs := ⟨_, rfl⟩
              have tm : (t : Int) + (bs : Int) = (m : Int) := by omega
              have HM := hide hm
              have hmb : m ≤ 2199023255552 := by omega
              rcases hd.last (by have := HNN.out; have := HB2.out; omega) with ⟨k1, c1, d1, hT, hc, hdd, s1, s2, s3, s4, hz⟩ | ⟨k1, k2⟩
              · have HSTEP := hide hz
                have HCC := hide (HSM.out (c1.length + d1.length) D.flatten c1 d1 [] t m n wr (Nat.le_refl _) (by omega) (by omega) (by omega) (by omega) (by have h6 := hd.2.2.2.2.2.length_eq; rw [hT, flat_mid] at h6; simp only [List.length_append, List.flatten_nil, List.length_nil] at h6; have := HNN.out; omega) s1 s2 s3 (fun x hx => HOK.out x (s4 x hx)) (by rw [hT, flat_mid] at hr; simpa using hr))
                have hmn : m < n := by have := HNN.out; omega
                clear hd hr hdl hm hT hc hdd s1 s2 s3 s4 hz HD hle k1
                go_wp2_with (go_at_call 114; refine HCC.out.mono ?_; rintro e w2 ⟨rfl, Z, z1, z2, z3⟩; have HZ := hide (show _ ∧ _ ∧ _ from ⟨z1, z2, z3⟩); clear z1 z2 z3)
                go_roundw
                case rel => exact ⟨b2, by have := HB2.out; omega, by have := HB2.out; omega, rfl, hide ⟨D ++ [Z], by have := HSTEP.out Z HZ.out.1 HZ.out.2.1; rw [HB2.out]; exact this, by have := HZ.out.2.2; simpa using this⟩⟩
                case measure => have := HB2.out; simp [intOf]; omega
              · have HRUN : Hid (∃ C, Runs pr F b2 C ∧ RowAt g n c w0 wr C.flatten) := hide ⟨D ++ T, by rw [HB2.out]; exact k2, hr⟩
                have hmn : ¬ m < n := by have := HNN.out; omega
                clear hd hr hdl hm HD hle k1 k2
                go_wp2_with fail
                go_roundw
                case rel => exact ⟨b2, by have := HB2.out; omega, by have := HB2.out; omega, rfl, HRUN⟩
                case measure => have := HB2.out; simp [intOf]; omega
        · have HFIN : Hid (∃ Z : List Int, Z.Perm F ∧ Srt pr Z ∧ RowAt g n c w0 wr Z) := hide (by
            obtain ⟨C, k1, k2⟩ := HC.out
            obtain ⟨q1, q2⟩ := k1.done (by have := HNN.out; omega)
            exact ⟨_, q2, q1, k2⟩)
          go_wp2_with fail
          go_end0
          exact ⟨rfl, HFIN.out⟩
theorem c_SortStable (pr : Int → Int) (ok : Int → Prop) (bx : Nat) (F : List Int) (n c g : Nat) (w0 w : World) (hcmp : CmpOk pr ok bx w0) (hF : F.Pairwise (· < ·)) (hok : ∀ x ∈ F, ok x) (hn : n = F.length) (hN : n ≤ 1099511627776) (h : RowAt g n c w0 w F) :
    Calls Tryz.prog 49 #[.slice (some ⟨g, 0, none⟩) n c, .func (.func 50) #[] #[.pointer (some ⟨bx, 0, none⟩)]] w fun e w' => e = .returned (.tuple #[]) ∧ ∃ Z : List Int, Z.Perm F ∧ Srt pr Z ∧ RowAt g n c w0 w' Z := by
  have HC := hide (c_stable pr ok bx F n c g w0 w hcmp hF hok hn hN h)
  clear hcmp hF hok hn h
  go_enter Tryz.func49, Tryz.ntmps49
  go_wp2_with (go_at_call 79; refine HC.out.mono ?_; rintro e w2 ⟨rfl, hz⟩; have HZ := hide hz; clear hz)
  go_end0
  exact ⟨rfl, HZ.out⟩

end Go.Proofs.YtfcfgkkkepifhaaGreatDoor
