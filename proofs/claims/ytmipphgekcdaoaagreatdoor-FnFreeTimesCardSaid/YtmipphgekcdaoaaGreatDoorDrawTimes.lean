/- What FnFreeTimes draws: offers, indices and two times; offers and one offer more. Conditions: fewer than 2^39 choices. -/
import Derived.Test.YtmipphgekcdaoaaGreatDoorDrawChosen
namespace Go.Proofs.YtmipphgekcdaoaaGreatDoor
set_option linter.unusedVariables false
open Go.RowKit Go.ChangeShapes

/-- a row of offers and a row of numbers, the call's own; block X has been written to -/
structure TwS (X : Nat) (N : Int) (vo : Value) (no : Nat) (Lo : List Value) (vi : Value) (ni : Nat) (Li : List Value) (w wr : World) : Prop where
  oo : wr.ownsRow w.heap.size 33 5 vo no Lo
  oi : wr.ownsRow w.heap.size 2 1 vi ni Li
  gr : w.grownBy wr (some X)
  src : SrcAt X N wr
  Xw : X < w.heap.size
section
variable {X no ni : Nat} {N M : Int} {vo vi : Value} {Lo Li : List Value} {w wr w1 : World}
theorem TwS.x (h : TwS X N vo no Lo vi ni Li w wr) (hx : IsX wr w1) : TwS X N vo no Lo vi ni Li w w1 := ⟨own_x' h.oo hx, own_x' h.oi hx, gr_x h.gr hx, h.src.x hx, h.Xw⟩
theorem TwS.pick (h : TwS X N vo no Lo vi ni Li w wr) (hg : wr.grownBy w1 (some X)) (hat : SrcAt X M w1) : TwS X M vo no Lo vi ni Li w w1 := ⟨own_grX h.oo hg h.Xw, own_grX h.oi hg h.Xw, gr_tr h.gr hg, hat, h.Xw⟩
end
theorem results_tmp4 {fn : Func} {t u v x : Tmp} (h : fn.results = #[.tmp t, .tmp u, .tmp v, .tmp x]) (tmps : Array Value) (P : Program) (w : World) :
    (results fn tmps).run P w = .ok (.tuple #[tmps.getD t undef, tmps.getD u undef, tmps.getD v undef, tmps.getD x undef]) w := by
  simp [results, h]
def TimesQ (w : World) (e : Ending) (w' : World) : Prop := ∃ (A : Option Addr) (c : Nat) (xs : List OfferD) (A' : Option Addr) (c' : Nat) (ps : List Int) (op en : Int), e = .returned (.tuple #[.slice A xs.length c, .slice A' ps.length c', .int .i64 op, .int .i64 en]) ∧ xs.length ≤ 100 ∧ (∀ x ∈ xs, x.wf) ∧ ps.length ≤ 101 ∧ (∀ p ∈ ps, intWf p) ∧ (-1 ≤ op ∧ op ≤ 700) ∧ (540 ≤ en ∧ en ≤ 1441) ∧ Rd OfferD.cells 5 w' A xs ∧ Rd intC 1 w' A' ps ∧ IsX w w'
set_option maxHeartbeats 3200000 in
set_option maxRecDepth 100000 in
theorem c_DrawFreeTimes (A : Option Addr) (c : Nat) (bs : List Int) (w : World) (hn : bs.length ≤ 1099511627776) (hb : ∀ x ∈ bs, byteWf x) (hA : Rd byteC 1 w A bs) :
    Calls Tryz.prog 5 #[.slice A bs.length c] w (TimesQ w) := by
  have HF := hide (c_l00From A c bs w hn hb hA)
  generalize bs.length = bl at HF ⊢
  clear hn hb hA
  go_enter Tryz.func5, Tryz.ntmps5
  go_wp2_with fail
  refine HF.out.mono ?_
  rintro e w1 ⟨rfl, hs, hx⟩
  obtain ⟨X, hX⟩ : ∃ X, X = w.heap.size := ⟨_, rfl⟩
  rw [← hX] at hs ⊢
  have hXw : w.heap.size ≤ X := by omega
  clear hX
  have HX1 := hide hx
  have HS1 := hide hs
  have hX1 := hs.lt
  clear hx hs HF
  go_wp2_with fail
  refine (c_drawOffers X 0 w1 (by omega) HS1.out).mono ?_
  rintro e w2 ⟨A2, c2, xs, rfl, hxl, hwf, ho, hg, hat⟩
  have HO := hide ho
  have HG := hide hg
  have HS2 := hide hat
  have HWF := hide hwf
  obtain ⟨n, hnn⟩ : ∃ n, n = xs.length := ⟨_, rfl⟩
  have HN := hide hnn
  rw [← hnn] at hxl HO ⊢
  clear ho hg hat hwf hnn HS1
  go_wp2_with fail
  refine (c_drawChosen X _ (n : Int) w2 (by omega) (by omega) (by omega) HS2.out).mono ?_
  rintro e w3 ⟨A3, c3, ps, rfl, hpl, hbd, ho, hg, hat⟩
  have HT := hide (show TwS X _ (.slice A2 n c2) n (xs.flatMap OfferD.cells) (.slice A3 ps.length c3) ps.length (ps.flatMap intC) w1 w3 from ⟨own_grX HO.out hg hX1, row_le' ho HG.out.size, gr_tr HG.out hg, hat, hX1⟩)
  have HBD := hide (show ∀ p ∈ ps, intWf p from fun p hp => by have := hbd p hp; unfold intWf; omega)
  obtain ⟨m, hmm⟩ : ∃ m, m = ps.length := ⟨_, rfl⟩
  have HM := hide hmm
  rw [← hmm] at hpl HT ⊢
  clear ho hg hat hbd hmm HO HG HS2
  go_wp2_with fail
  obtain ⟨KL, hKL⟩ : ∃ KL, KL = w3.heap.size := ⟨_, rfl⟩
  generalize hwl : World.alloc w3 _ = wl
  have hRl : Rd intC 1 wl (some ⟨KL, 0, none⟩) [0, 480, 540, 600, 700, -1] := by
    rw [← hwl, hKL]
    exact Blk.rd (cells := intC) (xs := [0, 480, 540, 600, 700, -1]) (t := 2) intC_len (Blk.new w3 2 _)
  have hxl5 : IsX w3 wl := by rw [← hwl]; exact (IsX.refl w3).alloc _
  have hXK : X < KL := by have := HT.out.src.lt; omega
  rw [← hKL]
  have HL5 := hide (HT.out.x hxl5)
  clear hwl hxl5 hKL HT
  refine (c_among X _ (-1) 700 (some ⟨KL, 0, none⟩) 6 [0, 480, 540, 600, 700, -1] wl (by omega) (by simp) (by simp) (by simp) hRl (fun b off e => by injection e with e; injection e with e1 e2; omega) HL5.out.src).mono ?_
  rintro e w4 ⟨op, rfl, op0, op1, hg, hat⟩
  have HT4 := hide (HL5.out.pick hg hat)
  clear hg hat hRl HL5 hXK
  go_wp2_with fail
  obtain ⟨KL, hKL⟩ : ∃ KL, KL = w4.heap.size := ⟨_, rfl⟩
  generalize hwl : World.alloc w4 _ = wl
  have hRl : Rd intC 1 wl (some ⟨KL, 0, none⟩) [1440, 1200, 900, 1441, 540, 800] := by
    rw [← hwl, hKL]
    exact Blk.rd (cells := intC) (xs := [1440, 1200, 900, 1441, 540, 800]) (t := 2) intC_len (Blk.new w4 2 _)
  have hxl5 : IsX w4 wl := by rw [← hwl]; exact (IsX.refl w4).alloc _
  have hXK : X < KL := by have := HT4.out.src.lt; omega
  rw [← hKL]
  have HL5 := hide (HT4.out.x hxl5)
  clear hwl hxl5 hKL HT4
  refine (c_among X _ (540) 1441 (some ⟨KL, 0, none⟩) 6 [1440, 1200, 900, 1441, 540, 800] wl (by omega) (by simp) (by simp) (by simp) hRl (fun b off e => by injection e with e; injection e with e1 e2; omega) HL5.out.src).mono ?_
  rintro e w5 ⟨en, rfl, en0, en1, hg, hat⟩
  have HT5 := hide (HL5.out.pick hg hat)
  clear hg hat hRl HL5 hXK
  go_wp2_with fail
  (try simp only [Exit.inBlock, Exit.then])
  refine bodyPost_ret (results_tmp4 rfl _ _ _) rfl ?_
  have h := HT5.out
  rw [HN.out, HM.out] at h
  exact ⟨A2, c2, xs, A3, c3, ps, op, en, by rw [← HN.out, ← HM.out]; rfl, by rw [← HN.out]; exact hxl, HWF.out, by rw [← HM.out]; exact hpl, HBD.out, ⟨op0, op1⟩, ⟨en0, en1⟩, Own.rd (cells := OfferD.cells) (k := 5) (by omega) OfferD.cells_len h.oo rfl, Own.rd (cells := intC) (k := 1) (by omega) intC_len h.oi rfl, IsX.grown HX1.out h.gr (by intro z hz; injection hz with hz; omega)⟩
def AddQ (w : World) (e : Ending) (w' : World) : Prop := ∃ (A : Option Addr) (c : Nat) (xs : List OfferD) (x : OfferD), e = .returned (.tuple #[.slice A xs.length c, offerV x]) ∧ xs.length ≤ 100 ∧ (∀ x ∈ xs, x.wf) ∧ x.wf ∧ Rd OfferD.cells 5 w' A xs ∧ IsX w w'
def addNames : List ByteArray := [⟨#[97]⟩, ⟨#[98, 98]⟩, ⟨#[99]⟩, ⟨#[122]⟩]
theorem add_names : ∀ s ∈ addNames, s.size ≤ 10 := by decide +kernel
set_option maxHeartbeats 3200000 in
set_option maxRecDepth 100000 in
theorem c_DrawAddOffer (A : Option Addr) (c : Nat) (bs : List Int) (w : World) (hn : bs.length ≤ 1099511627776) (hb : ∀ x ∈ bs, byteWf x) (hA : Rd byteC 1 w A bs) :
    Calls Tryz.prog 8 #[.slice A bs.length c] w (AddQ w) := by
  have hx0 : IsX w (w.alloc (.cells #[.string ⟨#[]⟩, .string ⟨#[]⟩, .int .i64 0, .int .i64 0, .int .i64 0] 33)) := (IsX.refl w).alloc _
  have hB0 : Blk (w.alloc (.cells #[.string ⟨#[]⟩, .string ⟨#[]⟩, .int .i64 0, .int .i64 0, .int .i64 0] 33)) w.heap.size 33 #[.string ⟨#[]⟩, .string ⟨#[]⟩, .int .i64 0, .int .i64 0, .int .i64 0] := Blk.new _ _ _
  have HF := hide (c_l00From A c bs (w.alloc (.cells #[.string ⟨#[]⟩, .string ⟨#[]⟩, .int .i64 0, .int .i64 0, .int .i64 0] 33)) hn hb (hA.x hx0))
  generalize bs.length = bl at HF ⊢
  clear hn hb hA
  go_enter Tryz.func8, Tryz.ntmps8
  go_wp2_with fail
  obtain ⟨RB, hRB⟩ : ∃ RB, RB = w.heap.size := ⟨_, rfl⟩
  generalize w.alloc (.cells #[.string ⟨#[]⟩, .string ⟨#[]⟩, .int .i64 0, .int .i64 0, .int .i64 0] 33) = w0 at *
  rw [← hRB] at hB0 ⊢
  have hwR : w.heap.size ≤ RB := by omega
  clear hRB
  refine HF.out.mono ?_
  rintro e w1 ⟨rfl, hs, hx⟩
  obtain ⟨X, hX⟩ : ∃ X, X = w0.heap.size := ⟨_, rfl⟩
  rw [← hX] at hs ⊢
  have hRX : RB < X := by rw [hX]; exact hB0.lt
  have hXw : w.heap.size ≤ X := by omega
  have HX1 := hide (hx0.trans hx)
  have HB1 := hide (hB0.x hx)
  have HS1 := hide hs
  have hX1 := hs.lt
  clear hX hx hx0 hB0 hs HF
  go_wp2_with fail
  refine (c_drawOffers X 0 w1 (by omega) HS1.out).mono ?_
  rintro e w2 ⟨A2, c2, xs, rfl, hxl, hwf, ho, hg, hat⟩
  have HT := hide (show TwS X _ (.slice A2 xs.length c2) xs.length (xs.flatMap OfferD.cells) (.slice none 0 0) 0 [] w1 w2 from ⟨ho, World.ownsRow_nil _ _ _ _, hg, hat, hX1⟩)
  have HWF := hide hwf
  have HB2 := hide (HB1.out.gr hg (fun e => by injection e with e; omega))
  obtain ⟨n, hnn⟩ : ∃ n, n = xs.length := ⟨_, rfl⟩
  have HN := hide hnn
  rw [← hnn] at hxl HT ⊢
  clear ho hg hat hwf hnn HS1 HB1
  go_wp2_with fail
  obtain ⟨KL, hKL⟩ : ∃ KL, KL = w2.heap.size := ⟨_, rfl⟩
  generalize hwl : World.alloc w2 _ = wl
  have hRl : Rd strC 1 wl (some ⟨KL, 0, none⟩) [⟨#[97]⟩, ⟨#[98, 98]⟩, ⟨#[99]⟩, ⟨#[122]⟩] := by
    rw [← hwl, hKL]
    exact Blk.rd (cells := strC) (xs := [⟨#[97]⟩, ⟨#[98, 98]⟩, ⟨#[99]⟩, ⟨#[122]⟩]) (t := 9) strC_len (Blk.new w2 9 #[.string ⟨#[97]⟩, .string ⟨#[98, 98]⟩, .string ⟨#[99]⟩, .string ⟨#[122]⟩])
  have hxl5 : IsX w2 wl := by rw [← hwl]; exact (IsX.refl w2).alloc _
  have hXK : X < KL := by have := HT.out.src.lt; omega
  rw [← hKL]
  have HL5 := hide (HT.out.x hxl5)
  have HBL := hide (HB2.out.x hxl5)
  clear hwl hxl5 hKL HT HB2
  refine (c_text X _ (some ⟨KL, 0, none⟩) 4 [⟨#[97]⟩, ⟨#[98, 98]⟩, ⟨#[99]⟩, ⟨#[122]⟩] wl (by omega) (by simp) (by simp) hRl (fun b off e => by injection e with e; injection e with e1 e2; omega) HL5.out.src).mono ?_
  rintro e w3 ⟨id, rfl, him, hg, hat⟩
  have HT3 := hide (HL5.out.pick hg hat)
  have HB3 := hide (HBL.out.gr hg (fun e => by injection e with e; omega))
  have HID := hide (add_names id him)
  clear hg hat hRl HL5 hXK him HBL
  go_wp2_with fail
  refine (c_drawOne X _ id w3 (by omega) HT3.out.src).mono ?_
  rintro e w4 ⟨x, rfl, hid, hsm, hg, hat⟩
  have HT4 := hide (HT3.out.pick hg hat)
  have HB4 := hide (HB3.out.gr hg (fun e => by injection e with e; omega))
  have HI4 := hide hid
  have HSM := hide hsm
  clear hg hat hid hsm HT3 HB3
  go_wp2_with fail
  refine (c_bend X _ x w4 (by omega) HSM.out HT4.out.src).mono ?_
  rintro e w5 ⟨y, rfl, hid, hsm, hg, hat⟩
  have HT5 := hide (HT4.out.pick hg hat)
  have hB5 := HB4.out.gr hg (fun e => by injection e with e; omega)
  have HY := hide (sm_wf hsm (by rw [hid, HI4.out]; exact HID.out))
  have HB5 := hide hB5
  clear hg hat hid hsm HT4 HSM HB4
  have f0 := hB5.cell 0
  have z0 := hB5.frozen 0
  have f1 := hB5.cell 1
  have z1 := hB5.frozen 1
  have f2 := hB5.cell 2
  have z2 := hB5.frozen 2
  have f3 := hB5.cell 3
  have z3 := hB5.frozen 3
  have f4 := hB5.cell 4
  have z4 := hB5.frozen 4
  simp at f0 f1 f2 f3 f4
  have lt2 := hB5.lt
  clear hB5
  simp only [offerV]
  go_wp2_with fail
  have hX5 : IsX w w5 := IsX.grown HX1.out HT5.out.gr (by intro z hz; injection hz with hz; omega)
  have hX6 : IsX w (((((w5.setCell ⟨RB, 0, none⟩ (.string y.Id)).setCell ⟨RB, 1, none⟩ (.string y.Kind)).setCell ⟨RB, 2, none⟩ (.int .i64 y.Start)).setCell ⟨RB, 3, none⟩ (.int .i64 y.Length)).setCell ⟨RB, 4, none⟩ (.int .i64 y.Worth)) := (IsX.setCell (a := ⟨RB, 4, none⟩) (IsX.setCell (a := ⟨RB, 3, none⟩) (IsX.setCell (a := ⟨RB, 2, none⟩) (IsX.setCell (a := ⟨RB, 1, none⟩) (IsX.setCell (a := ⟨RB, 0, none⟩) hX5 hwR _) hwR _) hwR _) hwR _) hwR _)
  have hG6 : w5.grownBy (((((w5.setCell ⟨RB, 0, none⟩ (.string y.Id)).setCell ⟨RB, 1, none⟩ (.string y.Kind)).setCell ⟨RB, 2, none⟩ (.int .i64 y.Start)).setCell ⟨RB, 3, none⟩ (.int .i64 y.Length)).setCell ⟨RB, 4, none⟩ (.int .i64 y.Worth)) (some RB) := (gr_tr (gr_tr (gr_tr (gr_tr (gr_of_set w5 RB 0 (.string y.Id)) (gr_of_set _ RB 1 (.string y.Kind))) (gr_of_set _ RB 2 (.int .i64 y.Start))) (gr_of_set _ RB 3 (.int .i64 y.Length))) (gr_of_set _ RB 4 (.int .i64 y.Worth)))
  have hO6 := own_grX HT5.out.oo hG6 (by omega)
  have hB6 := (((((HB5.out.set_ 0 (.string y.Id)).set_ 1 (.string y.Kind)).set_ 2 (.int .i64 y.Start)).set_ 3 (.int .i64 y.Length)).set_ 4 (.int .i64 y.Worth))
  clear f0 f1 f2 f3 f4 z0 z1 z2 z3 z4 hG6
  generalize (((((w5.setCell ⟨RB, 0, none⟩ (.string y.Id)).setCell ⟨RB, 1, none⟩ (.string y.Kind)).setCell ⟨RB, 2, none⟩ (.int .i64 y.Start)).setCell ⟨RB, 3, none⟩ (.int .i64 y.Length)).setCell ⟨RB, 4, none⟩ (.int .i64 y.Worth)) = V6 at *
  have q0 := hB6.cell 0
  have q1 := hB6.cell 1
  have q2 := hB6.cell 2
  have q3 := hB6.cell 3
  have q4 := hB6.cell 4
  simp at q0 q1 q2 q3 q4
  rw [HN.out] at hO6
  exact bodyPost_ret (v := .tuple #[.slice A2 n c2, .agg #[.string y.Id, .string y.Kind, .int .i64 y.Start, .int .i64 y.Length, .int .i64 y.Worth]]) (by simp [results, Tryz.results8, go_sem, q0, q1, q2, q3, q4]) rfl ⟨A2, c2, xs, y, by rw [← HN.out]; rfl, by rw [← HN.out]; exact hxl, HWF.out, HY.out, Own.rd (cells := OfferD.cells) (k := 5) (by omega) OfferD.cells_len hO6 rfl, hX6⟩
end Go.Proofs.YtmipphgekcdaoaaGreatDoor
