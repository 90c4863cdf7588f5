/- A stable merging sort in plain lists. Conditions: none. -/
namespace Go.Proofs.Ytadmpefbpklibaa
set_option linter.unusedVariables false

def Bef (pr : Int → Int) (x y : Int) : Prop := pr x < pr y ∨ (pr x = pr y ∧ x < y)
def Srt (pr : Int → Int) (xs : List Int) : Prop := xs.Pairwise (Bef pr)
section
variable {pr : Int → Int}
theorem Bef.trans {x y z : Int} (h : Bef pr x y) (k : Bef pr y z) : Bef pr x z := by unfold Bef at *; omega
theorem Bef.le {x y : Int} (h : Bef pr x y) : pr x ≤ pr y := by unfold Bef at h; omega
theorem set_mid {P S : List Int} {x y : Int} {k : Nat} (hk : k = P.length) : (P ++ x :: S).set k y = P ++ y :: S := by
  subst hk; rw [List.set_append, if_neg (by omega), Nat.sub_self]; rfl
theorem get_mid {P S : List Int} {x : Int} {k : Nat} (hk : k = P.length) : (P ++ x :: S)[k]? = some x := by
  subst hk; simp
theorem swap_mid {P M S : List Int} {x y : Int} {k l : Nat} (hk : k = P.length) (hl : l = P.length + 1 + M.length) :
    ((P ++ x :: (M ++ y :: S)).set k y).set l x = P ++ y :: (M ++ x :: S) := by
  rw [set_mid hk]
  have e1 : P ++ y :: (M ++ y :: S) = (P ++ y :: M) ++ y :: S := by simp
  have e2 : P ++ y :: (M ++ x :: S) = (P ++ y :: M) ++ x :: S := by simp
  rw [e1, e2, set_mid (by simp; omega)]
theorem get_mid2 {P M S : List Int} {x y : Int} {l : Nat} (hl : l = P.length + 1 + M.length) : (P ++ x :: (M ++ y :: S))[l]? = some y := by
  have e1 : P ++ x :: (M ++ y :: S) = (P ++ x :: M) ++ y :: S := by simp
  rw [e1, get_mid (by simp; omega)]
/-- the row while two ranges are being swapped: i elements are done -/
def swp (P A M B S : List Int) (i : Nat) : List Int := (P ++ B.take i) ++ (A.drop i ++ (M ++ (A.take i ++ (B.drop i ++ S))))
theorem swp_zero (P A M B S : List Int) : swp P A M B S 0 = P ++ (A ++ (M ++ (B ++ S))) := by simp [swp]
theorem swp_all {P A M B S : List Int} {n : Nat} (hA : A.length = n) (hB : B.length = n) : swp P A M B S n = P ++ (B ++ (M ++ (A ++ S))) := by
  simp [swp, List.take_of_length_le (Nat.le_of_eq hA), List.take_of_length_le (Nat.le_of_eq hB), List.drop_of_length_le (Nat.le_of_eq hA), List.drop_of_length_le (Nat.le_of_eq hB)]
theorem swp_at {P A M B S : List Int} {n i : Nat} (hA : A.length = n) (hB : B.length = n) (hi : i < n) :
    ∃ Q M' T x y, swp P A M B S i = Q ++ x :: (M' ++ y :: T) ∧ swp P A M B S (i + 1) = Q ++ y :: (M' ++ x :: T) ∧ Q.length = P.length + i ∧ M'.length + 1 = n + M.length := by
  have hAd : A.drop i = A[i]'(by omega) :: A.drop (i + 1) := List.drop_eq_getElem_cons (by omega)
  have hBd : B.drop i = B[i]'(by omega) :: B.drop (i + 1) := List.drop_eq_getElem_cons (by omega)
  have hAt : A.take (i + 1) = A.take i ++ [A[i]'(by omega)] := List.take_succ_eq_append_getElem (by omega)
  have hBt : B.take (i + 1) = B.take i ++ [B[i]'(by omega)] := List.take_succ_eq_append_getElem (by omega)
  refine ⟨P ++ B.take i, A.drop (i + 1) ++ (M ++ A.take i), B.drop (i + 1) ++ S, A[i]'(by omega), B[i]'(by omega), ?_, ?_, ?_, ?_⟩
  · unfold swp; rw [hAd, hBd]; simp only [List.append_assoc, List.cons_append, List.nil_append]
  · unfold swp; rw [hAt, hBt]; simp only [List.append_assoc, List.cons_append, List.nil_append]
  · simp; omega
  · simp; omega
/-- a search by halves for the first index at which q fails -/
def Srch (q : Nat → Bool) (lo hi i j : Nat) : Prop := lo ≤ i ∧ i ≤ j ∧ j ≤ hi ∧ (∀ k, lo ≤ k → k < i → q k = true) ∧ (∀ k, j ≤ k → k < hi → q k = false)
def Mono (q : Nat → Bool) (lo hi : Nat) : Prop := ∀ k k', lo ≤ k' → k' ≤ k → k < hi → q k = true → q k' = true
theorem Srch.start {q : Nat → Bool} {lo hi : Nat} (h : lo ≤ hi) : Srch q lo hi lo hi := ⟨Nat.le_refl _, h, Nat.le_refl _, fun k _ _ => by omega, fun k _ _ => by omega⟩
theorem Srch.up {q : Nat → Bool} {lo hi i j h : Nat} (s : Srch q lo hi i j) (hm : Mono q lo hi) (h1 : i ≤ h) (h2 : h < j) (hq : q h = true) : Srch q lo hi (h + 1) j := by
  obtain ⟨a, b, c, d, e⟩ := s
  exact ⟨by omega, by omega, c, fun k k1 k2 => hm h k k1 (by omega) (by omega) hq, e⟩
theorem Srch.down {q : Nat → Bool} {lo hi i j h : Nat} (s : Srch q lo hi i j) (hm : Mono q lo hi) (h1 : i ≤ h) (h2 : h < j) (hq : q h = false) : Srch q lo hi i h := by
  obtain ⟨a, b, c, d, e⟩ := s
  refine ⟨a, h1, by omega, d, fun k k1 k2 => ?_⟩
  cases hk : q k
  · rfl
  · have := hm k h (by omega) k1 k2 hk
    rw [hq] at this; cases this
theorem ins_srt {X : List Int} {z : Int} {t : Nat} (hX : Srt pr X) (h1 : ∀ k (hk : k < X.length), k < t → Bef pr X[k] z) (h2 : ∀ k (hk : k < X.length), t ≤ k → Bef pr z X[k]) : Srt pr (X.take t ++ z :: X.drop t) := by
  have hX' := hX
  rw [← List.take_append_drop t X] at hX'
  have hp := List.pairwise_append.1 hX'
  refine List.pairwise_append.2 ⟨hp.1, List.pairwise_cons.2 ⟨fun y hy => ?_, hp.2.1⟩, fun x hx y hy => ?_⟩
  · obtain ⟨k, hk, rfl⟩ := List.getElem_of_mem hy
    rw [List.getElem_drop]
    exact h2 _ _ (by omega)
  · rcases List.mem_cons.1 hy with rfl | hy
    · obtain ⟨k, hk, rfl⟩ := List.getElem_of_mem hx
      rw [List.getElem_take]
      simp at hk
      exact h1 _ _ (by omega)
    · exact hp.2.2 x hx y hy
theorem ins_perm (X : List Int) (z : Int) (t : Nat) : (X.take t ++ z :: X.drop t).Perm (z :: X) := by
  have := List.perm_middle (a := z) (l₁ := X.take t) (l₂ := X.drop t)
  rwa [List.take_append_drop] at this
theorem srt_le {X : List Int} (h : Srt pr X) {i j : Nat} (hij : i ≤ j) (hj : j < X.length) : pr (X.getD i 0) ≤ pr (X.getD j 0) := by
  rw [List.getD_eq_getElem?_getD, List.getD_eq_getElem?_getD, List.getElem?_eq_getElem hj, List.getElem?_eq_getElem (show i < X.length by omega)]
  simp only [Option.getD_some]
  rcases Nat.lt_or_ge i j with h1 | h1
  · exact (List.pairwise_iff_getElem.1 h i j (by omega) hj h1).le
  · obtain rfl : i = j := by omega
    exact Int.le_refl _
theorem dat_mid {P U T : List Int} {k : Nat} (h1 : P.length ≤ k) (h2 : k < P.length + U.length) : (P ++ (U ++ T)).getD k 0 = U.getD (k - P.length) 0 := by
  rw [List.getD_eq_getElem?_getD, List.getD_eq_getElem?_getD, List.getElem?_append_right h1, List.getElem?_append_left (by omega)]
theorem dat_mid2 {P U V T : List Int} {k : Nat} (h1 : P.length + U.length ≤ k) (h2 : k < P.length + U.length + V.length) : (P ++ (U ++ (V ++ T))).getD k 0 = V.getD (k - (P.length + U.length)) 0 := by
  rw [← List.append_assoc, dat_mid (by simp; omega) (by simp; omega), List.length_append]
theorem getD_mem {X : List Int} {k : Nat} (h : k < X.length) : X.getD k 0 ∈ X := by
  rw [List.getD_eq_getElem?_getD, List.getElem?_eq_getElem h]; exact List.getElem_mem h
/-- what the symmetric search has cut: the lesser parts lie before the greater ones -/
theorem cut_le {g : Nat → Int} {a m b s e st rr : Nat} (hU : ∀ i j, a ≤ i → i ≤ j → j < m → g i ≤ g j) (hV : ∀ i j, m ≤ i → i ≤ j → j < b → g i ≤ g j)
    (ham : a < m) (hmb : m < b) (hcase : ((a + b) / 2 < m ∧ st = (a + b) / 2 + m - b ∧ rr = (a + b) / 2) ∨ (¬ (a + b) / 2 < m ∧ st = a ∧ rr = m))
    (hs : Srch (fun c => !decide (g ((a + b) / 2 + m - 1 - c) < g c)) st rr s s) (he : e = (a + b) / 2 + m - s) :
    (∀ i j, a ≤ i → i < s → e ≤ j → j < b → g i ≤ g j) ∧ (∀ i j, m ≤ i → i < e → s ≤ j → j < m → g i < g j) := by
  obtain ⟨h1, -, h3, h4, h5⟩ := hs
  constructor
  · intro i j i1 i2 j1 j2
    have hst : st < s := by rcases hcase with ⟨c1, c2, c3⟩ | ⟨c1, c2, c3⟩ <;> omega
    have hq := h4 (s - 1) (by omega) (by omega)
    simp only [Bool.not_eq_true', decide_eq_false_iff_not] at hq
    rw [show (a + b) / 2 + m - 1 - (s - 1) = e by omega] at hq
    have u1 := hU i (s - 1) i1 (by omega) (by rcases hcase with ⟨c1, c2, c3⟩ | ⟨c1, c2, c3⟩ <;> omega)
    have v1 := hV e j (by rcases hcase with ⟨c1, c2, c3⟩ | ⟨c1, c2, c3⟩ <;> omega) j1 j2
    omega
  · intro i j i1 i2 j1 j2
    have hsr : s < rr := by rcases hcase with ⟨c1, c2, c3⟩ | ⟨c1, c2, c3⟩ <;> omega
    have hq := h5 s (by omega) hsr
    simp only [Bool.not_eq_false', decide_eq_true_eq] at hq
    rw [show (a + b) / 2 + m - 1 - s = e - 1 by omega] at hq
    have v1 := hV i (e - 1) i1 (by omega) (by rcases hcase with ⟨c1, c2, c3⟩ | ⟨c1, c2, c3⟩ <;> omega)
    have u1 := hU s j (by rcases hcase with ⟨c1, c2, c3⟩ | ⟨c1, c2, c3⟩ <;> omega) j1 j2
    omega
theorem cut_mono {g : Nat → Int} {a m b st rr : Nat} (hU : ∀ i j, a ≤ i → i ≤ j → j < m → g i ≤ g j) (hV : ∀ i j, m ≤ i → i ≤ j → j < b → g i ≤ g j)
    (ham : a < m) (hmb : m < b) (hcase : ((a + b) / 2 < m ∧ st = (a + b) / 2 + m - b ∧ rr = (a + b) / 2) ∨ (¬ (a + b) / 2 < m ∧ st = a ∧ rr = m)) :
    Mono (fun c => !decide (g ((a + b) / 2 + m - 1 - c) < g c)) st rr := by
  intro k k' h1 h2 h3 hq
  simp only [Bool.not_eq_true', decide_eq_false_iff_not] at hq ⊢
  have u1 := hU k' k (by rcases hcase with ⟨c1, c2, c3⟩ | ⟨c1, c2, c3⟩ <;> omega) h2 (by rcases hcase with ⟨c1, c2, c3⟩ | ⟨c1, c2, c3⟩ <;> omega)
  have v1 := hV ((a + b) / 2 + m - 1 - k) ((a + b) / 2 + m - 1 - k') (by rcases hcase with ⟨c1, c2, c3⟩ | ⟨c1, c2, c3⟩ <;> omega) (by omega) (by rcases hcase with ⟨c1, c2, c3⟩ | ⟨c1, c2, c3⟩ <;> omega)
  omega
theorem join_srt {U1 U2 V1 V2 Z1 Z2 : List Int} (hU : Srt pr (U1 ++ U2)) (hV : Srt pr (V1 ++ V2)) (hlt : ∀ u ∈ U1 ++ U2, ∀ v ∈ V1 ++ V2, u < v)
    (c1 : ∀ u ∈ U1, ∀ v ∈ V2, pr u ≤ pr v) (c2 : ∀ v ∈ V1, ∀ u ∈ U2, pr v < pr u) (p1 : Z1.Perm (U1 ++ V1)) (p2 : Z2.Perm (U2 ++ V2)) (s1 : Srt pr Z1) (s2 : Srt pr Z2) :
    Srt pr (Z1 ++ Z2) ∧ (Z1 ++ Z2).Perm ((U1 ++ U2) ++ (V1 ++ V2)) := by
  have hU' := (List.pairwise_append.1 hU).2.2
  have hV' := (List.pairwise_append.1 hV).2.2
  constructor
  · refine List.pairwise_append.2 ⟨s1, s2, fun x hx y hy => ?_⟩
    have hx := p1.mem_iff.1 hx
    have hy := p2.mem_iff.1 hy
    rcases List.mem_append.1 hx with hx | hx <;> rcases List.mem_append.1 hy with hy | hy
    · exact hU' x hx y hy
    · have := c1 x hx y hy
      have := hlt x (List.mem_append.2 (.inl hx)) y (List.mem_append.2 (.inr hy))
      unfold Bef; omega
    · exact .inl (c2 x hx y hy)
    · exact hV' x hx y hy
  · refine (p1.append p2).trans ?_
    have h : (V1 ++ U2).Perm (U2 ++ V1) := List.perm_append_comm
    have h2 : (U1 ++ ((V1 ++ U2) ++ V2)).Perm (U1 ++ ((U2 ++ V1) ++ V2)) := (h.append_right V2).append_left U1
    simpa [List.append_assoc] using h2
/-- blocks: all but the last have bs elements, the last one at most as many -/
def Chk (bs : Nat) : List (List Int) → Prop
  | [] => True
  | c :: r => (r = [] → c.length ≤ bs) ∧ (r ≠ [] → c.length = bs) ∧ Chk bs r ∧ 0 < c.length
def Goods (pr : Int → Int) (C : List (List Int)) : Prop := (∀ c ∈ C, Srt pr c) ∧ C.Pairwise fun A B => ∀ x ∈ A, ∀ y ∈ B, x < y
theorem Chk.app {bs : Nat} : ∀ {D : List (List Int)} {T : List (List Int)}, (∀ c ∈ D, c.length = bs) → 0 < bs → Chk bs T → Chk bs (D ++ T)
  | [], T, _, _, h => h
  | d :: D, T, hD, h0, h => by
    have hd := hD d (by simp)
    exact ⟨fun _ => by omega, fun _ => hd, Chk.app (fun c hc => hD c (by simp [hc])) h0 h, by omega⟩
theorem Chk.mono {bs bs' : Nat} {c : List Int} (h : Chk bs [c]) (hb : bs ≤ bs') : Chk bs' [c] := ⟨fun _ => by have := h.1 rfl; omega, fun h => absurd rfl h, trivial, h.2.2.2⟩
/-- two blocks in front are there where 2 bs elements are left -/
theorem Chk.two {bs : Nat} {T : List (List Int)} (h : Chk bs T) (h0 : 0 < bs) (hl : 2 * bs ≤ T.flatten.length) : ∃ c d r, T = c :: d :: r ∧ c.length = bs ∧ d.length = bs ∧ Chk bs r := by
  match T, h with
  | [], _ => simp at hl; omega
  | [c], h => have := h.1 rfl; simp at hl; omega
  | c :: d :: r, h =>
    refine ⟨c, d, r, rfl, h.2.1 (by simp), ?_, h.2.2.1.2.2.1⟩
    by_cases hr : r = []
    · subst hr
      have h1 := h.2.1 (by simp)
      have h2 := h.2.2.1.1 rfl
      simp at hl; omega
    · exact h.2.2.1.2.1 hr
theorem Chk.tail {bs : Nat} {T : List (List Int)} (h : Chk bs T) (h0 : 0 < bs) (hl : T.flatten.length < 2 * bs) : (bs < T.flatten.length ∧ ∃ c d, T = [c, d] ∧ c.length = bs ∧ 0 < d.length ∧ d.length < bs) ∨ (T.flatten.length ≤ bs ∧ (T = [] ∨ ∃ c, T = [c] ∧ 0 < c.length ∧ c.length ≤ bs)) := by
  match T, h with
  | [], _ => exact .inr ⟨by simp, .inl rfl⟩
  | [c], h => exact .inr ⟨by simpa using h.1 rfl, .inr ⟨c, rfl, h.2.2.2, h.1 rfl⟩⟩
  | [c, d], h =>
    have h1 := h.2.1 (by simp)
    have h2 := h.2.2.1.2.2.2
    simp at hl
    exact .inl ⟨by simp; omega, c, d, rfl, h1, h2, by omega⟩
  | c :: d :: e :: r, h =>
    have h1 := h.2.1 (by simp)
    have h2 := h.2.2.1.2.1 (by simp)
    simp at hl; omega
theorem Chk.one {bs : Nat} {T : List (List Int)} (h : Chk bs T) (h0 : 0 < bs) (hl : T.flatten.length ≤ bs) : T = [] ∨ ∃ c, T = [c] := by
  match T, h with
  | [], _ => exact .inl rfl
  | [c], h => exact .inr ⟨c, rfl⟩
  | c :: d :: r, h =>
    have h1 := h.2.1 (by simp)
    have h2 := h.2.2.1.2.2.2
    simp at hl; omega
theorem Goods.merge {D r : List (List Int)} {c d Z : List Int} (h : Goods pr (D ++ c :: d :: r)) (hp : Z.Perm (c ++ d)) (hs : Srt pr Z) : Goods pr (D ++ Z :: r) := by
  obtain ⟨h1, h2⟩ := h
  have hp1 := List.pairwise_append.1 h2
  have hp2 := List.pairwise_cons.1 hp1.2.1
  have hp3 := List.pairwise_cons.1 hp2.2
  refine ⟨fun x hx => ?_, List.pairwise_append.2 ⟨hp1.1, List.pairwise_cons.2 ⟨fun B hB x hx y hy => ?_, hp3.2⟩, fun A hA B hB x hx y hy => ?_⟩⟩
  · rcases List.mem_append.1 hx with hx | hx
    · exact h1 x (by simp [hx])
    · rcases List.mem_cons.1 hx with rfl | hx
      · exact hs
      · exact h1 x (by simp [hx])
  · rcases List.mem_append.1 (hp.mem_iff.1 hx) with hx | hx
    · exact hp2.1 B (by simp [hB]) x hx y hy
    · exact hp3.1 B hB x hx y hy
  · rcases List.mem_cons.1 hB with rfl | hB
    · rcases List.mem_append.1 (hp.mem_iff.1 hy) with hy | hy
      · exact hp1.2.2 A hA c (by simp) x hx y hy
      · exact hp1.2.2 A hA d (by simp) x hx y hy
    · exact hp1.2.2 A hA B (by simp [hB]) x hx y hy
theorem Goods.parts {D r : List (List Int)} {c d : List Int} (h : Goods pr (D ++ c :: d :: r)) : Srt pr c ∧ Srt pr d ∧ ∀ x ∈ c, ∀ y ∈ d, x < y := by
  have hp1 := List.pairwise_append.1 h.2
  have hp2 := List.pairwise_cons.1 hp1.2.1
  exact ⟨h.1 c (by simp), h.1 d (by simp), hp2.1 d (by simp)⟩
/-- one more block of a rising list, sorted -/
theorem Goods.more {D : List (List Int)} {c Z : List Int} (h : Goods pr D) (hlt : ∀ x ∈ D.flatten, ∀ y ∈ c, x < y) (hp : Z.Perm c) (hs : Srt pr Z) : Goods pr (D ++ [Z]) := by
  refine ⟨fun x hx => ?_, List.pairwise_append.2 ⟨h.2, List.pairwise_singleton _ _, fun A hA B hB x hx y hy => ?_⟩⟩
  · rcases List.mem_append.1 hx with hx | hx
    · exact h.1 x hx
    · rw [List.mem_singleton.1 hx]; exact hs
  · rw [List.mem_singleton.1 hB] at hy
    exact hlt x (List.mem_flatten.2 ⟨A, hA, hx⟩) y (hp.mem_iff.1 hy)
end
end Go.Proofs.Ytadmpefbpklibaa
