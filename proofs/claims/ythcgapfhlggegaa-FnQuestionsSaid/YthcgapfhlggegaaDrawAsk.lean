/- DrawBestQuestions and DrawAnswerOrder: some list of well-formed questions, and two numbers. Conditions: codes no longer than 2^40. -/
import Derived.Test.YthcgapfhlggegaaDrawQuests
namespace Go.Proofs.Ythcgapfhlggegaa
set_option linter.unusedVariables false
open Go.RowKit Go.ChangeShapes

/-- some list of well-formed questions, and two numbers -/
def DrawQ (w : World) (e : Ending) (w' : World) : Prop := ∃ (A : Option Addr) (c : Nat) (xs : List QuestionD) (lost bud : Int), e = .returned (.tuple #[.slice A xs.length c, .int .i64 lost, .int .i64 bud]) ∧ xs.length ≤ 100 ∧ (∀ x ∈ xs, x.wf) ∧ intWf lost ∧ intWf bud ∧ w'.ownsRow w.heap.size 32 4 (.slice A xs.length c) xs.length (xs.flatMap QuestionD.cells) ∧ IsX w w'
structure OwnSrc (X : Nat) (N : Int) (base : Nat) (v : Value) (n : Nat) (L : List Value) (w wr : World) : Prop where
  own : wr.ownsRow base 32 4 v n L
  gr : w.grownBy wr (some X)
  src : SrcAt X N wr
  lt : X < base
theorem OwnSrc.x {X base n : Nat} {N : Int} {v : Value} {L : List Value} {w wr w1 : World} (h : OwnSrc X N base v n L w wr) (hx : IsX wr w1) : OwnSrc X N base v n L w w1 := ⟨own_x' h.own hx, gr_x h.gr hx, h.src.x hx, h.lt⟩
theorem OwnSrc.pick {X base n : Nat} {N M : Int} {v : Value} {L : List Value} {w wr w1 : World} (h : OwnSrc X N base v n L w wr) (hg : wr.grownBy w1 (some X)) (hat : SrcAt X M w1) : OwnSrc X M base v n L w w1 := ⟨own_grX h.own hg h.lt, gr_tr h.gr hg, hat, h.lt⟩
set_option maxHeartbeats 3200000 in
set_option maxRecDepth 100000 in
theorem c_DrawBestQuestions (A : Option Addr) (c : Nat) (bs : List Int) (w : World) (hn : bs.length ≤ 1099511627776) (hb : ∀ x ∈ bs, byteWf x) (hA : Rd byteC 1 w A bs) :
    Calls Try.prog 10 #[.slice A bs.length c] w (DrawQ w) := by
  have HF := hide (c_l00From A c bs w hn hb hA)
  generalize bs.length = bl at HF ⊢
  clear hn hb hA
  go_enter Try.func10, Try.ntmps10
  go_wp2_with fail
  refine HF.out.mono ?_
  rintro e w1 ⟨rfl, hs, hx⟩
  obtain ⟨X, hX⟩ : ∃ X, X = w.heap.size := ⟨_, rfl⟩
  rw [← hX] at hs ⊢
  have hXw : w.heap.size ≤ X := by omega
  clear hX
  have HX1 := hide hx
  have HS1 := hide hs
  clear hx hs HF
  go_wp2_with fail
  refine (c_drawQuestions X 0 w1 (by omega) HS1.out).mono ?_
  rintro e w2 ⟨A2, c2, xs, rfl, hxl, hwf, ho, hg, hat⟩
  have HT2 : Hid (OwnSrc X (0 + 300) w1.heap.size (.slice A2 xs.length c2) xs.length (xs.flatMap QuestionD.cells) w1 w2) := hide ⟨ho, hg, hat, HS1.out.lt⟩
  have HWF := hide hwf
  obtain ⟨n, hnn⟩ : ∃ n, n = xs.length := ⟨_, rfl⟩
  have HN := hide hnn
  rw [← hnn] at hxl HT2 ⊢
  clear ho hg hat hwf hnn HS1
  have HEND := hide (fun (V : World) (M a b : Int) (h : OwnSrc X M w1.heap.size (.slice A2 n c2) n (xs.flatMap QuestionD.cells) w1 V) (ha : intWf a) (hb : intWf b) =>
    show DrawQ w (.returned (.tuple #[.slice A2 n c2, .int .i64 a, .int .i64 b])) V from
      ⟨A2, c2, xs, a, b, by rw [← HN.out], by rw [← HN.out]; exact hxl, HWF.out, ha, hb, by rw [← HN.out]; exact row_le' h.own HX1.out.size, IsX.grown HX1.out h.gr (by intro z hz; injection hz with hz; omega)⟩)
  go_wp2_with fail
  refine (c_pick X _ 2500 w2 (by omega) (by omega) HT2.out.src).mono ?_
  rintro e w3 ⟨v, rfl, v0, v1, hg, hat⟩
  have hv1 : v ≤ 2499 := by simpa using v1
  have HT3 := hide (HT2.out.pick hg hat)
  clear hg hat v1 HT2
  go_wp2_with fail
  refine (c_one X _ 9 w3 (by omega) (by omega) HT3.out.src).mono ?_
  rintro e w4 ⟨b, rfl, hg, hat⟩
  have HT4 := hide (HT3.out.pick hg hat)
  clear hg hat HT3
  cases b
  · go_wp2_with fail
    refine (c_budget X _ w4 (by omega) HT4.out.src).mono ?_
    rintro e w5 ⟨u, rfl, u0, u1, hg, hat⟩
    have HT5 := hide (HT4.out.pick hg hat)
    clear hg hat HT4
    go_wp2_with fail
    go_ret3
    exact HEND.out _ _ _ _ HT5.out (by unfold intWf; omega) (by unfold intWf; omega)
  · go_wp2_with fail
    obtain ⟨KLm, hKL⟩ : ∃ KL, KL = w4.heap.size := ⟨_, rfl⟩
    generalize hwl : World.alloc w4 _ = wlm
    have hRl : Rd intC 1 wlm (some ⟨KLm, 0, none⟩) [-1, 0] := by
      rw [← hwl, hKL]
      exact Blk.rd (cells := intC) (xs := [-1, 0]) (t := 2) intC_len (Blk.new w4 2 _)
    have hxl5 : IsX w4 wlm := by rw [← hwl]; exact (IsX.refl w4).alloc _
    have hXK : X < KLm := by have := HT4.out.src.lt; omega
    rw [← hKL]
    have HLm := hide (HT4.out.x hxl5)
    clear hwl hxl5 hKL HT4
    refine (c_among X _ (-1) 0 (some ⟨KLm, 0, none⟩) 2 [-1, 0] wlm (by omega) (by simp) (by simp) (by simp) hRl (fun b off e => by injection e with e; injection e with e1 e2; omega) HLm.out.src).mono ?_
    rintro e w5 ⟨m, rfl, m0, m1, hg, hat⟩
    have HT5 := hide (HLm.out.pick hg hat)
    clear hg hat hRl HLm hXK
    go_wp2_with fail
    refine (c_budget X _ w5 (by omega) HT5.out.src).mono ?_
    rintro e w6 ⟨u, rfl, u0, u1, hg, hat⟩
    have HT6 := hide (HT5.out.pick hg hat)
    clear hg hat HT5
    go_wp2_with fail
    go_ret3
    exact HEND.out _ _ _ _ HT6.out (by unfold intWf; omega) (by unfold intWf; omega)
set_option maxHeartbeats 3200000 in
set_option maxRecDepth 100000 in
theorem c_DrawAnswerOrder (A : Option Addr) (c : Nat) (bs : List Int) (w : World) (hn : bs.length ≤ 1099511627776) (hb : ∀ x ∈ bs, byteWf x) (hA : Rd byteC 1 w A bs) :
    Calls Try.prog 6 #[.slice A bs.length c] w (DrawQ w) := by
  have HF := hide (c_l00From A c bs w hn hb hA)
  generalize bs.length = bl at HF ⊢
  clear hn hb hA
  go_enter Try.func6, Try.ntmps6
  go_wp2_with fail
  refine HF.out.mono ?_
  rintro e w1 ⟨rfl, hs, hx⟩
  obtain ⟨X, hX⟩ : ∃ X, X = w.heap.size := ⟨_, rfl⟩
  rw [← hX] at hs ⊢
  have hXw : w.heap.size ≤ X := by omega
  clear hX
  have HX1 := hide hx
  have HS1 := hide hs
  clear hx hs HF
  go_wp2_with fail
  refine (c_drawQuestions X 0 w1 (by omega) HS1.out).mono ?_
  rintro e w2 ⟨A2, c2, xs, rfl, hxl, hwf, ho, hg, hat⟩
  have HT2 : Hid (OwnSrc X (0 + 300) w1.heap.size (.slice A2 xs.length c2) xs.length (xs.flatMap QuestionD.cells) w1 w2) := hide ⟨ho, hg, hat, HS1.out.lt⟩
  have HWF := hide hwf
  obtain ⟨n, hnn⟩ : ∃ n, n = xs.length := ⟨_, rfl⟩
  have HN := hide hnn
  rw [← hnn] at hxl HT2 ⊢
  clear ho hg hat hwf hnn HS1
  have HEND := hide (fun (V : World) (M a b : Int) (h : OwnSrc X M w1.heap.size (.slice A2 n c2) n (xs.flatMap QuestionD.cells) w1 V) (ha : intWf a) (hb : intWf b) =>
    show DrawQ w (.returned (.tuple #[.slice A2 n c2, .int .i64 a, .int .i64 b])) V from
      ⟨A2, c2, xs, a, b, by rw [← HN.out], by rw [← HN.out]; exact hxl, HWF.out, ha, hb, by rw [← HN.out]; exact row_le' h.own HX1.out.size, IsX.grown HX1.out h.gr (by intro z hz; injection hz with hz; omega)⟩)
  go_wp2_with fail
  refine (c_pick X _ 2500 w2 (by omega) (by omega) HT2.out.src).mono ?_
  rintro e w3 ⟨v, rfl, v0, v1, hg, hat⟩
  have hv1 : v ≤ 2499 := by simpa using v1
  have HT3 := hide (HT2.out.pick hg hat)
  clear hg hat v1 HT2
  go_wp2_with fail
  refine (c_one X _ 9 w3 (by omega) (by omega) HT3.out.src).mono ?_
  rintro e w4 ⟨b, rfl, hg, hat⟩
  have HT4 := hide (HT3.out.pick hg hat)
  clear hg hat HT3
  cases b
  · go_wp2_with fail
    refine (c_pick X _ 3000 w4 (by omega) (by omega) HT4.out.src).mono ?_
    rintro e w5 ⟨u, rfl, u0, u1, hg, hat⟩
    have hu1 : u ≤ 2999 := by simpa using u1
    have HT5 := hide (HT4.out.pick hg hat)
    clear hg hat u1 HT4
    go_wp2_with fail
    go_ret3
    exact HEND.out _ _ _ _ HT5.out (by unfold intWf; omega) (by unfold intWf; omega)
  · go_wp2_with fail
    obtain ⟨KLm, hKL⟩ : ∃ KL, KL = w4.heap.size := ⟨_, rfl⟩
    generalize hwl : World.alloc w4 _ = wlm
    have hRl : Rd intC 1 wlm (some ⟨KLm, 0, none⟩) [-1, 0, 40000000] := by
      rw [← hwl, hKL]
      exact Blk.rd (cells := intC) (xs := [-1, 0, 40000000]) (t := 2) intC_len (Blk.new w4 2 _)
    have hxl5 : IsX w4 wlm := by rw [← hwl]; exact (IsX.refl w4).alloc _
    have hXK : X < KLm := by have := HT4.out.src.lt; omega
    rw [← hKL]
    have HLm := hide (HT4.out.x hxl5)
    clear hwl hxl5 hKL HT4
    refine (c_among X _ (-1) 40000000 (some ⟨KLm, 0, none⟩) 3 [-1, 0, 40000000] wlm (by omega) (by simp) (by simp) (by simp) hRl (fun b off e => by injection e with e; injection e with e1 e2; omega) HLm.out.src).mono ?_
    rintro e w5 ⟨m, rfl, m0, m1, hg, hat⟩
    have HT5 := hide (HLm.out.pick hg hat)
    clear hg hat hRl HLm hXK
    go_wp2_with fail
    obtain ⟨KLu, hKL⟩ : ∃ KL, KL = w5.heap.size := ⟨_, rfl⟩
    generalize hwl : World.alloc w5 _ = wlu
    have hRl : Rd intC 1 wlu (some ⟨KLu, 0, none⟩) [40000000, 40000001, 0] := by
      rw [← hwl, hKL]
      exact Blk.rd (cells := intC) (xs := [40000000, 40000001, 0]) (t := 2) intC_len (Blk.new w5 2 _)
    have hxl5 : IsX w5 wlu := by rw [← hwl]; exact (IsX.refl w5).alloc _
    have hXK : X < KLu := by have := HT5.out.src.lt; omega
    rw [← hKL]
    have HLu := hide (HT5.out.x hxl5)
    clear hwl hxl5 hKL HT5
    refine (c_among X _ (0) 40000001 (some ⟨KLu, 0, none⟩) 3 [40000000, 40000001, 0] wlu (by omega) (by simp) (by simp) (by simp) hRl (fun b off e => by injection e with e; injection e with e1 e2; omega) HLu.out.src).mono ?_
    rintro e w6 ⟨u, rfl, u0, u1, hg, hat⟩
    have HT6 := hide (HLu.out.pick hg hat)
    clear hg hat hRl HLu hXK
    go_wp2_with fail
    go_ret3
    exact HEND.out _ _ _ _ HT6.out (by unfold intWf; omega) (by unfold intWf; omega)
end Go.Proofs.Ythcgapfhlggegaa
