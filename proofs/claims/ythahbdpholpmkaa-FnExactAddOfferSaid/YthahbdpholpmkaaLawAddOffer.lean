/- The law FnExactAddOffer: the walk through the law's own text. Conditions: those of the row's arguments alone. -/
import Derived.Test.YthahbdpholpmkaaAddSpec
import Derived.Test.YthahbdpholpmkaaAddImpl
import Derived.Test.YthahbdpholpmkaaMarks
import Derived.Deep.RegionHeld3
namespace Go.Proofs.Ythahbdpholpmkaa
set_option linter.unusedVariables false
open Go.RowKit

set_option maxRecDepth 100000 in
set_option maxHeartbeats 1600000 in
theorem law_FnExactAddOffer (A0 : Option Addr) (c0 : Nat) (xs0 : List OfferD) (x1 : OfferD) (w : World) (hn0 : xs0.length ≤ maxLen) (hw0 : ∀ x ∈ xs0, x.wf) (hA0 : Rd OfferD.cells 5 w A0 xs0) (hx1 : x1.wf) :
    Calls Try.prog 9 #[.slice A0 xs0.length c0, .agg #[.string x1.Id, .string x1.Kind, .int .i64 x1.Start, .int .i64 x1.Length, .int .i64 x1.Worth]] w fun e w' => e = .returned (.bool true) ∧ IsX w w' := by
  go_enter Try.func9, Try.ntmps9
  go_wp2_with fail
  obtain ⟨W, hW⟩ : ∃ W, W = w.alloc (.cells #[.string x1.Id, .string x1.Kind, .int .i64 x1.Start, .int .i64 x1.Length, .int .i64 x1.Worth] 72) := ⟨_, rfl⟩
  have hxW : IsX w W := hW ▸ (IsX.refl w).alloc _
  have hBW : Blk W w.heap.size 72 #[.string x1.Id, .string x1.Kind, .int .i64 x1.Start, .int .i64 x1.Length, .int .i64 x1.Worth] := hW ▸ Blk.new w _ _
  rw [← hW]
  clear hW
  replace hA0 := hA0.x hxW
  have HBX := hide (show ∀ V, IsX W V → V.cell? ⟨w.heap.size, 0, none⟩ = some (.string x1.Id) ∧ V.cell? ⟨w.heap.size, 1, none⟩ = some (.string x1.Kind) ∧ V.cell? ⟨w.heap.size, 2, none⟩ = some (.int .i64 x1.Start) ∧ V.cell? ⟨w.heap.size, 3, none⟩ = some (.int .i64 x1.Length) ∧ V.cell? ⟨w.heap.size, 4, none⟩ = some (.int .i64 x1.Worth) from fun V hV => ⟨(hBW.x hV).cell 0, (hBW.x hV).cell 1, (hBW.x hV).cell 2, (hBW.x hV).cell 3, (hBW.x hV).cell 4⟩)
  clear hBW
  refine (c_szOfferS A0 c0 xs0 1048576 W hn0 hw0 (by omega) (by omega) (hA0.x (IsX.refl W))).mono ?_
  rintro e w1 ⟨m1, rfl, e1a, e1b, e1c, hx1'⟩
  by_cases hm1 : m1 < 0
  · go_wp2_with fail
    go_ret
    exact ⟨rfl, hxW.trans ((IsX.refl W).trans hx1')⟩
  obtain ⟨d0, d1, d2, d3, d4⟩ := HBX.out w1 ((IsX.refl W).trans hx1')
  go_wp2_with fail
  refine (c_szOffer x1 m1 w1 hx1 (by omega) (by omega)).mono ?_
  rintro e w2 ⟨m2, rfl, e2a, e2b, e2c, hx2'⟩
  clear d0 d1 d2 d3 d4
  by_cases hm2 : m2 < 0
  · go_wp2_with fail
    go_ret
    exact ⟨rfl, hxW.trans (((IsX.refl W).trans hx1').trans hx2')⟩
  have hn0' : xs0.length ≤ 1099511627776 := by omega
  obtain ⟨d0, d1, d2, d3, d4⟩ := HBX.out w2 (((IsX.refl W).trans hx1').trans hx2')
  have n0 := World.new_ne w2 ⟨w.heap.size, 0, none⟩ d0
  go_wp2_with fail
  go_region_held3 (fun V => V.cell? ⟨w.heap.size, 0, none⟩ = some (.string x1.Id) ∧ V.cell? ⟨w.heap.size, 1, none⟩ = some (.string x1.Kind) ∧ V.cell? ⟨w.heap.size, 2, none⟩ = some (.int .i64 x1.Start) ∧ V.cell? ⟨w.heap.size, 3, none⟩ = some (.int .i64 x1.Length) ∧ V.cell? ⟨w.heap.size, 4, none⟩ = some (.int .i64 x1.Worth)) (first | go_keep | (exact HBX.out _ (IsX.drew (((IsX.refl W).trans hx1').trans hx2'))) | (exact HBX.out _ ((((IsX.refl W).trans hx1').trans hx2').trans hx3')) | (exact HBX.out _ (((((IsX.refl W).trans hx1').trans hx2').trans hx3').trans hx4')) | (exact HBX.out _ ((((((IsX.refl W).trans hx1').trans hx2').trans hx3').trans hx4').trans hx5')))
    ((first
      | (go_at_call 14; refine (c_toOfferS A0 c0 xs0 w2.drew hn0' (hA0.x (IsX.drew (((IsX.refl W).trans hx1').trans hx2')))).mono ?_; rintro e w3 ⟨g3, rfl, hg3, hB3, hx3''⟩; have hx3' : IsX w2 w3 := IsX.trans (IsX.drew (IsX.refl w2)) hx3'')
      | (go_at_call 52; refine (c_toOffer x1 _).mono ?_; rintro e w4 ⟨rfl, hx4'⟩)
      | (go_at_call 51; refine (s_AddOffer g3 xs0 x1 w4 hn0' hw0 ((hB3.x ((IsX.refl w3).trans hx4')).rd OfferD.cells_len) hx1).mono ?_; rintro e w5 ⟨AR5, cR5, rfl, hR5, hx5'⟩)))
  clear n0 d0 d1 d2 d3 d4
  go_wp2_with fail
  refine (c_toOfferS A0 c0 xs0 w5 hn0' (hA0.x ((((((IsX.refl W).trans hx1').trans hx2').trans hx3').trans hx4').trans hx5'))).mono ?_
  rintro e w6 ⟨g6, rfl, hg6, hB6, hx6'⟩
  obtain ⟨d0, d1, d2, d3, d4⟩ := HBX.out w6 (((((((IsX.refl W).trans hx1').trans hx2').trans hx3').trans hx4').trans hx5').trans hx6')
  go_wp2_with fail
  refine (c_toOffer x1 w6).mono ?_
  rintro e w7 ⟨rfl, hx7'⟩
  clear d0 d1 d2 d3 d4
  go_wp2_with fail
  refine (i_AddOffer g6 xs0 x1 w7 hn0' hw0 ((hB6.x ((IsX.refl w6).trans hx7')).rd OfferD.cells_len) hx1).mono ?_
  rintro e w8 ⟨AR8, cR8, rfl, hR8, hx8'⟩
  have hzl := addZ_len xs0 x1
  go_wp2_with fail
  refine (c_eqOfferS AR8 AR5 cR8 cR5 (addZ xs0 x1) w8 hzl ((hR8).rd (by omega) OfferD.cells_len rfl) ((hR5.x ((((IsX.refl w5).trans hx6').trans hx7').trans hx8')).rd (by omega) OfferD.cells_len rfl)).mono ?_
  rintro e w9 ⟨rfl, hx9'⟩
  go_wp2_with fail
  refine (c_toOfferS A0 c0 xs0 w9 hn0' (hA0.x ((((((((((IsX.refl W).trans hx1').trans hx2').trans hx3').trans hx4').trans hx5').trans hx6').trans hx7').trans hx8').trans hx9'))).mono ?_
  rintro e w10 ⟨g10, rfl, hg10, hB10, hx10'⟩
  go_wp2_with fail
  refine (c_eqOfferS (some ⟨g6, 0, none⟩) (some ⟨g10, 0, none⟩) xs0.length xs0.length xs0 w10 hn0' ((hB6.x (((((IsX.refl w6).trans hx7').trans hx8').trans hx9').trans hx10')).rd OfferD.cells_len) (hB10.rd OfferD.cells_len)).mono ?_
  rintro e w11 ⟨rfl, hx11'⟩
  have HW := hide ((((((((((((IsX.refl W).trans hx1').trans hx2').trans hx3').trans hx4').trans hx5').trans hx6').trans hx7').trans hx8').trans hx9').trans hx10').trans hx11')
  have HS := hide (((((((IsX.refl w5).trans hx6').trans hx7').trans hx8').trans hx9').trans hx10').trans hx11')
  have HG : Hid (Own OfferD.cells 5 76 w11 w7.heap.size _ _) := hide (hR8.x ((((IsX.refl w8).trans hx9').trans hx10').trans hx11'))
  have HRS := hide hR5
  have HX0 := hide ((hB6.x ((((((IsX.refl w6).trans hx7').trans hx8').trans hx9').trans hx10').trans hx11')).own' OfferD.cells_len (Nat.le_refl g6) (by unfold maxLen; omega))
  have HL0 : Hid (w5.heap.size ≤ g6 ∧ g6 < w7.heap.size) := by
    unfold Hid
    have z1 := hB6.lt
    have y6 := hx6'.size; have y7 := hx7'.size
    omega
  have HZ0 : Hid (W.heap.size ≤ w5.heap.size) := hide ((((((IsX.refl W).trans hx1').trans hx2').trans hx3').trans hx4').trans hx5').size
  have HZ1 : Hid (w5.heap.size ≤ w7.heap.size) := hide (((IsX.refl w5).trans hx6').trans hx7').size
  clear hx1' hx2' hx3' hx4' hx5' hx6' hx7' hx8' hx9' hx10' hx11'
  clear hR5 hR8
  go_wp2_with fail
  refine (c_markOfferS (some ⟨g6, 0, none⟩) xs0.length xs0.length g6 _ _ w11 hn0' (by omega) (by omega) HX0.out).mono ?_
  rintro e w12 ⟨rfl, L12, _, _, hgr⟩
  replace hgr : _root_.Go.World.grownBy w11 w12 (some g6) := hgr
  replace HW := hide (IsX.grown HW.out hgr (by intro k hk; injection hk with hk; have := HL0.out; have := HZ0.out; omega))
  replace HS := hide (IsX.grown HS.out hgr (by intro k hk; injection hk with hk; have := HL0.out; omega))
  replace HG : Hid (Own OfferD.cells 5 76 w12 w7.heap.size _ _) := hide (own_under HG.out hgr HL0.out.2)
  clear hgr
  go_wp2_with fail
  refine (c_eqOfferS AR8 AR5 cR8 cR5 (addZ xs0 x1) w12 hzl (Own.rd (cells := OfferD.cells) (k := 5) (t := 76) (by omega) OfferD.cells_len HG.out rfl) ((HRS.out.x HS.out).rd (by omega) OfferD.cells_len rfl)).mono ?_
  rintro e w13 ⟨rfl, hxx⟩
  replace HW := hide (HW.out.trans hxx)
  replace HS := hide (HS.out.trans hxx)
  replace HG := hide (own_x HG.out hxx)
  clear hxx
  go_wp2_with fail
  refine (c_markOfferS AR8 cR8 ((addZ xs0 x1)).length w7.heap.size _ 1 w13 hzl (by omega) (by omega) HG.out).mono ?_
  rintro e w14 ⟨rfl, LG, hO, hM, hgr⟩
  replace HW := hide (IsX.grown HW.out hgr (by intro k hk; have := (HG.out.lt k hk).1; have := HZ0.out; have := HZ1.out; omega))
  replace HS := hide (IsX.grown HS.out hgr (by intro k hk; have := (HG.out.lt k hk).1; have := HZ1.out; omega))
  replace HG := hide hO
  have HM := hide hM
  clear hgr hO hM
  go_wp2_with fail
  refine (c_heldOfferS AR8 cR8 ((addZ xs0 x1)).length w7.heap.size LG 1 w14 hzl (by omega) (by omega) HG.out HM.out).mono ?_
  rintro e w15 ⟨rfl, hxx⟩
  replace HW := hide (HW.out.trans hxx)
  replace HS := hide (HS.out.trans hxx)
  replace HG := hide (own_x HG.out hxx)
  clear hxx
  obtain ⟨d0, d1, d2, d3, d4⟩ := HBX.out w15 (HW.out)
  have n0 := World.new_ne w15 ⟨w.heap.size, 0, none⟩ d0
  go_wp2_with fail
  go_region_held3 (fun V => V.cell? ⟨w.heap.size, 0, none⟩ = some (.string x1.Id) ∧ V.cell? ⟨w.heap.size, 1, none⟩ = some (.string x1.Kind) ∧ V.cell? ⟨w.heap.size, 2, none⟩ = some (.int .i64 x1.Start) ∧ V.cell? ⟨w.heap.size, 3, none⟩ = some (.int .i64 x1.Length) ∧ V.cell? ⟨w.heap.size, 4, none⟩ = some (.int .i64 x1.Worth)) (first | go_keep | (exact HBX.out _ (IsX.drew (HW.out))) | (exact HBX.out _ ((HW.out).trans hx16')) | (exact HBX.out _ (((HW.out).trans hx16').trans hx17')) | (exact HBX.out _ ((((HW.out).trans hx16').trans hx17').trans hx18')))
    ((first
      | (go_at_call 14; refine (c_toOfferS A0 c0 xs0 w15.drew hn0' (hA0.x (IsX.drew (HW.out)))).mono ?_; rintro e w16 ⟨g16, rfl, hg16, hB16, hx16''⟩; have hx16' : IsX w15 w16 := IsX.trans (IsX.drew (IsX.refl w15)) hx16'')
      | (go_at_call 52; refine (c_toOffer x1 _).mono ?_; rintro e w17 ⟨rfl, hx17'⟩)
      | (go_at_call 53; refine (i_AddOffer g16 xs0 x1 w17 hn0' hw0 ((hB16.x ((IsX.refl w16).trans hx17')).rd OfferD.cells_len) hx1).mono ?_; rintro e w18 ⟨AR18, cR18, rfl, hR18, hx18'⟩)))
  clear n0 d0 d1 d2 d3 d4
  replace HW := hide (((HW.out.trans hx16').trans hx17').trans hx18')
  replace HS := hide (((HS.out.trans hx16').trans hx17').trans hx18')
  replace HG := hide (own_x (own_x (own_x HG.out hx16') hx17') hx18')
  go_wp2_with fail
  refine (c_eqOfferS AR18 AR5 cR18 cR5 (addZ xs0 x1) w18 hzl ((hR18).rd (by omega) OfferD.cells_len rfl) ((HRS.out.x HS.out).rd (by omega) OfferD.cells_len rfl)).mono ?_
  rintro e w19 ⟨rfl, hxx⟩
  replace HW := hide (HW.out.trans hxx)
  replace HS := hide (HS.out.trans hxx)
  replace HG := hide (own_x HG.out hxx)
  clear hxx
  go_wp2_with fail
  refine (c_heldOfferS AR8 cR8 ((addZ xs0 x1)).length w7.heap.size LG 1 w19 hzl (by omega) (by omega) HG.out HM.out).mono ?_
  rintro e w20 ⟨rfl, hxx⟩
  replace HW := hide (HW.out.trans hxx)
  replace HS := hide (HS.out.trans hxx)
  replace HG := hide (own_x HG.out hxx)
  clear hxx
  go_wp2_with fail
  go_ret
  exact ⟨rfl, hxW.trans (HW.out)⟩

end Go.Proofs.Ythahbdpholpmkaa
