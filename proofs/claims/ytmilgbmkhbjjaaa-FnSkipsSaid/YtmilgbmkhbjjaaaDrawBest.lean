/- DrawBestSkips: some list of well-formed skips, and two numbers. Conditions: codes no longer than 2^40. -/
import Derived.Test.YtmilgbmkhbjjaaaDrawSkips
namespace Go.Proofs.Ytmilgbmkhbjjaaa
set_option linter.unusedVariables false
open Go.RowKit Go.ChangeShapes

/-- what DrawBestSkips answers: some list of well-formed skips, and two numbers -/
def DrawQ (w : World) (e : Ending) (w' : World) : Prop := ∃ (A : Option Addr) (c : Nat) (xs : List SkipD) (lost bud : Int), e = .returned (.tuple #[.slice A xs.length c, .int .i64 lost, .int .i64 bud]) ∧ xs.length ≤ 100 ∧ (∀ x ∈ xs, x.wf) ∧ intWf lost ∧ intWf bud ∧ w'.ownsRow w.heap.size 31 3 (.slice A xs.length c) xs.length (xs.flatMap SkipD.cells) ∧ IsX w w'
set_option maxHeartbeats 12800000 in
set_option maxRecDepth 100000 in
theorem c_DrawBestSkips (A : Option Addr) (c : Nat) (bs : List Int) (w : World) (hn : bs.length ≤ 1099511627776) (hb : ∀ x ∈ bs, byteWf x) (hA : Rd byteC 1 w A bs) :
    Calls Try.prog 5 #[.slice A bs.length c] w (DrawQ w) := by
  have HF := hide (c_l00From A c bs w hn hb hA)
  generalize bs.length = bl at HF ⊢
  clear hn hb hA
  go_enter Try.func5, Try.ntmps5
  go_wp2_with fail
  refine HF.out.mono ?_
  rintro e w1 ⟨rfl, hs, hx⟩
  obtain ⟨X, hX⟩ : ∃ X, X = w.heap.size := ⟨_, rfl⟩
  rw [← hX] at hs ⊢
  have hXw : w.heap.size ≤ X := by omega
  clear hX
  have hXl := hs.lt
  have HX1 := hide hx
  have HS1 := hide hs
  clear hx hs HF
  go_wp2_with fail
  refine (c_drawSkips X 0 w1 (by omega) HS1.out).mono ?_
  rintro e w2 ⟨A2, c2, xs, rfl, hxl, hwf, ho, hg, hat⟩
  have HO2 := hide ho
  have HG2 := hide hg
  have HS2 := hide hat
  have HWF := hide hwf
  obtain ⟨n, hnn⟩ : ∃ n, n = xs.length := ⟨_, rfl⟩
  have HN := hide hnn
  rw [← hnn] at hxl HO2 ⊢
  clear ho hg hat hwf hnn
  go_wp2_with fail
  refine (c_pick X _ 2500 w2 (by omega) (by omega) HS2.out).mono ?_
  rintro e w3 ⟨v, rfl, v0, v1, hg, hat⟩
  have hv1 : v ≤ 2499 := by simpa using v1
  have HO3 := hide (own_grX HO2.out hg hXl)
  have HG3 := hide (gr_tr HG2.out hg)
  have HS3 := hide hat
  clear hg hat v1 HO2 HG2 HS2
  go_wp2_with fail
  refine (c_one X _ 9 w3 (by omega) (by omega) HS3.out).mono ?_
  rintro e w4 ⟨b, rfl, hg, hat⟩
  have HO4 := hide (own_grX HO3.out hg hXl)
  have HG4 := hide (gr_tr HG3.out hg)
  have HS4 := hide hat
  clear hg hat HO3 HG3 HS3
  have HEND := hide (fun (V : World) (hg : w1.grownBy V (some X)) => show IsX w V from IsX.grown HX1.out hg (by intro z hz; injection hz with hz; omega))
  have hw1 : w.heap.size ≤ w1.heap.size := HX1.out.size
  cases b
  · go_wp2_with fail
    refine (c_budget X _ w4 (by omega) HS4.out).mono ?_
    rintro e w5 ⟨u, rfl, u0, u1, hg, hat⟩
    have HO5 := hide (own_grX HO4.out hg hXl)
    have HG5 := hide (gr_tr HG4.out hg)
    clear hg hat HO4 HG4 HS4
    go_wp2_with fail
    go_ret3
    exact ⟨A2, c2, xs, v, u, by rw [← HN.out]; rfl, by rw [← HN.out]; exact hxl, HWF.out, by unfold intWf; omega, by unfold intWf; omega, by rw [← HN.out]; exact row_le' HO5.out hw1, HEND.out _ HG5.out⟩
  · go_wp2_with fail
    obtain ⟨KL, hKL⟩ : ∃ KL, KL = w4.heap.size := ⟨_, rfl⟩
    generalize hwl : World.alloc w4 _ = wl
    have hRl : Rd intC 1 wl (some ⟨KL, 0, none⟩) [-1, 0] := by
      rw [← hwl, hKL]
      exact Blk.rd (cells := intC) (xs := [-1, 0]) (t := 2) intC_len (Blk.new w4 2 _)
    have hxl2 : IsX w4 wl := by rw [← hwl]; exact (IsX.refl w4).alloc _
    have hwK : w1.heap.size ≤ KL := by rw [hKL]; exact HG4.out.size
    rw [← hKL]
    have HOl := hide (own_x' HO4.out hxl2)
    have HGl := hide (gr_x HG4.out hxl2)
    have HSl := hide (HS4.out.x hxl2)
    clear hwl hxl2 hKL HO4 HG4 HS4
    refine (c_among X _ (-1) 0 (some ⟨KL, 0, none⟩) 2 [-1, 0] wl (by omega) (by simp) (by simp) (by simp) hRl (fun b off e => by injection e with e; injection e with e1 e2; omega) HSl.out).mono ?_
    rintro e w5 ⟨v', rfl, v0', v1', hg, hat⟩
    have HO5 := hide (own_grX HOl.out hg hXl)
    have HG5 := hide (gr_tr HGl.out hg)
    have HS5 := hide hat
    clear hg hat hRl HOl HGl HSl
    go_wp2_with fail
    refine (c_budget X _ w5 (by omega) HS5.out).mono ?_
    rintro e w6 ⟨u, rfl, u0, u1, hg, hat⟩
    have HO6 := hide (own_grX HO5.out hg hXl)
    have HG6 := hide (gr_tr HG5.out hg)
    clear hg hat HO5 HG5 HS5
    go_wp2_with fail
    go_ret3
    exact ⟨A2, c2, xs, v', u, by rw [← HN.out]; rfl, by rw [← HN.out]; exact hxl, HWF.out, by unfold intWf; omega, by unfold intWf; omega, by rw [← HN.out]; exact row_le' HO6.out hw1, HEND.out _ HG6.out⟩
end Go.Proofs.Ytmilgbmkhbjjaaa
