/- The law FnExactRichestDay: the walk through the law's own text. Conditions: those of the row's arguments alone. -/
import Derived.Test.YtlbcoplpdnidnaaOfferBest
import Derived.Test.YtlbcoplpdnidnaaRichBest
import Derived.Test.YtlbcoplpdnidnaaMarks
namespace Go.Proofs.Ytlbcoplpdnidnaa
set_option linter.unusedVariables false
open Go.RowKit

set_option maxRecDepth 100000 in
set_option maxHeartbeats 1600000 in
theorem law_FnExactRichestDay (A0 : Option Addr) (c0 : Nat) (xs0 : List OfferD) (n1 : Int) (n2 : Int) (w : World) (hn0 : xs0.length ≤ maxLen) (hw0 : ∀ x ∈ xs0, x.wf) (hA0 : Rd OfferD.cells 5 w A0 xs0) (hb1 : intWf n1) (hb2 : intWf n2) :
    Calls Try.prog 6 #[.slice A0 xs0.length c0, .int .i64 n1, .int .i64 n2] w fun e w' => e = .returned (.bool true) ∧ IsX w w' := by
  go_enter Try.func6, Try.ntmps6
  go_wp2_with fail
  refine (c_szOfferS A0 c0 xs0 1048576 w hn0 hw0 (by omega) (by omega) (hA0.x (IsX.refl w))).mono ?_
  rintro e w1 ⟨m1, rfl, e1a, e1b, e1c, hx1'⟩
  by_cases hm1 : m1 < 0
  · go_wp2_with fail
    go_ret
    exact ⟨rfl, (IsX.refl w).trans hx1'⟩
  have hn0' : xs0.length ≤ 1099511627776 := by omega
  go_wp2_with fail
  refine (c_toOfferS A0 c0 xs0 w1 hn0' (hA0.x ((IsX.refl w).trans hx1'))).mono ?_
  rintro e w2 ⟨g2, rfl, hg2, hB2, hx2'⟩
  go_wp2_with fail
  refine (s_RichestDay (some ⟨g2, 0, none⟩) xs0.length xs0 n1 n2 w2 hn0' hw0 ((hB2.x (IsX.refl w2)).rd OfferD.cells_len) hb1 hb2).mono ?_
  rintro e w3 ⟨AR3, cR3, rfl, hR3, hx3'⟩
  go_wp2_with fail
  refine (c_toOfferS A0 c0 xs0 w3 hn0' (hA0.x ((((IsX.refl w).trans hx1').trans hx2').trans hx3'))).mono ?_
  rintro e w4 ⟨g4, rfl, hg4, hB4, hx4'⟩
  go_wp2_with fail
  refine (i_RichestDay (some ⟨g4, 0, none⟩) xs0.length xs0 n1 n2 w4 hn0' hw0 ((hB4.x (IsX.refl w4)).rd OfferD.cells_len) hb1 hb2 rfl).mono ?_
  rintro e w5 ⟨AR5, cR5, rfl, hR5, hx5'⟩
  have hzl := richAns_len xs0 n1 n2
  go_wp2_with fail
  refine (c_eqInt64S AR5 AR3 cR5 cR3 (richAns xs0 n1 n2).1 w5 hzl ((hR5).rd (by omega) intC_len rfl) ((hR3.x (((IsX.refl w3).trans hx4').trans hx5')).rd (by omega) intC_len rfl)).mono ?_
  rintro e w6 ⟨rfl, hx6'⟩
  go_wp2_with fail
  refine (c_toOfferS A0 c0 xs0 w6 hn0' (hA0.x (((((((IsX.refl w).trans hx1').trans hx2').trans hx3').trans hx4').trans hx5').trans hx6'))).mono ?_
  rintro e w7 ⟨g7, rfl, hg7, hB7, hx7'⟩
  go_wp2_with fail
  refine (c_eqOfferS (some ⟨g4, 0, none⟩) (some ⟨g7, 0, none⟩) xs0.length xs0.length xs0 w7 hn0' ((hB4.x ((((IsX.refl w4).trans hx5').trans hx6').trans hx7')).rd OfferD.cells_len) (hB7.rd OfferD.cells_len)).mono ?_
  rintro e w8 ⟨rfl, hx8'⟩
  have HW := hide (((((((((IsX.refl w).trans hx1').trans hx2').trans hx3').trans hx4').trans hx5').trans hx6').trans hx7').trans hx8')
  have HS := hide ((((((IsX.refl w3).trans hx4').trans hx5').trans hx6').trans hx7').trans hx8')
  have HG : Hid (Own intC 1 2 w8 w4.heap.size _ _) := hide (hR5.x ((((IsX.refl w5).trans hx6').trans hx7').trans hx8'))
  have HRS := hide hR3
  have HX0 := hide ((hB4.x (((((IsX.refl w4).trans hx5').trans hx6').trans hx7').trans hx8')).own' OfferD.cells_len (Nat.le_refl g4) (by unfold maxLen; omega))
  have HL0 : Hid (w3.heap.size ≤ g4 ∧ g4 < w4.heap.size) := by
    unfold Hid
    have z1 := hB4.lt
    have y4 := hx4'.size
    omega
  have HZ0 : Hid (w.heap.size ≤ w3.heap.size) := hide ((((IsX.refl w).trans hx1').trans hx2').trans hx3').size
  have HZ1 : Hid (w3.heap.size ≤ w4.heap.size) := hide ((IsX.refl w3).trans hx4').size
  clear hx1' hx2' hx3' hx4' hx5' hx6' hx7' hx8'
  clear hR3 hR5
  go_wp2_with fail
  refine (c_markOfferS (some ⟨g4, 0, none⟩) xs0.length xs0.length g4 _ _ w8 hn0' (by omega) (by omega) HX0.out).mono ?_
  rintro e w9 ⟨rfl, L9, _, _, hgr⟩
  replace hgr : _root_.Go.World.grownBy w8 w9 (some g4) := hgr
  replace HW := hide (IsX.grown HW.out hgr (by intro k hk; injection hk with hk; have := HL0.out; have := HZ0.out; omega))
  replace HS := hide (IsX.grown HS.out hgr (by intro k hk; injection hk with hk; have := HL0.out; omega))
  replace HG : Hid (Own intC 1 2 w9 w4.heap.size _ _) := hide (own_under HG.out hgr HL0.out.2)
  clear hgr
  go_wp2_with fail
  refine (c_eqInt64S AR5 AR3 cR5 cR3 (richAns xs0 n1 n2).1 w9 hzl (Own.rd (cells := intC) (k := 1) (t := 2) (by omega) intC_len HG.out rfl) ((HRS.out.x HS.out).rd (by omega) intC_len rfl)).mono ?_
  rintro e w10 ⟨rfl, hxx⟩
  replace HW := hide (HW.out.trans hxx)
  replace HS := hide (HS.out.trans hxx)
  replace HG := hide (own_x HG.out hxx)
  clear hxx
  go_wp2_with fail
  refine (c_markInt64S AR5 cR5 ((richAns xs0 n1 n2).1).length w4.heap.size _ 1 w10 hzl (by omega) (by omega) HG.out).mono ?_
  rintro e w11 ⟨rfl, LG, hO, hM, hgr⟩
  replace HW := hide (IsX.grown HW.out hgr (by intro k hk; have := (HG.out.lt k hk).1; have := HZ0.out; have := HZ1.out; omega))
  replace HS := hide (IsX.grown HS.out hgr (by intro k hk; have := (HG.out.lt k hk).1; have := HZ1.out; omega))
  replace HG := hide hO
  have HM := hide hM
  clear hgr hO hM
  go_wp2_with fail
  refine (c_heldInt64S AR5 cR5 ((richAns xs0 n1 n2).1).length w4.heap.size LG 1 w11 hzl (by omega) (by omega) HG.out HM.out).mono ?_
  rintro e w12 ⟨rfl, hxx⟩
  replace HW := hide (HW.out.trans hxx)
  replace HS := hide (HS.out.trans hxx)
  replace HG := hide (own_x HG.out hxx)
  clear hxx
  go_wp2_with fail
  refine (c_toOfferS A0 c0 xs0 w12 hn0' (hA0.x (HW.out))).mono ?_
  rintro e w13 ⟨g13, rfl, hg13, hB13, hx13'⟩
  replace HW := hide (HW.out.trans hx13')
  replace HS := hide (HS.out.trans hx13')
  replace HG := hide (own_x HG.out hx13')
  go_wp2_with fail
  refine (i_RichestDay (some ⟨g13, 0, none⟩) xs0.length xs0 n1 n2 w13 hn0' hw0 ((hB13.x (IsX.refl w13)).rd OfferD.cells_len) hb1 hb2 rfl).mono ?_
  rintro e w14 ⟨AR14, cR14, rfl, hR14, hx14'⟩
  replace HW := hide (HW.out.trans hx14')
  replace HS := hide (HS.out.trans hx14')
  replace HG := hide (own_x HG.out hx14')
  go_wp2_with fail
  refine (c_eqInt64S AR14 AR3 cR14 cR3 (richAns xs0 n1 n2).1 w14 hzl ((hR14).rd (by omega) intC_len rfl) ((HRS.out.x HS.out).rd (by omega) intC_len rfl)).mono ?_
  rintro e w15 ⟨rfl, hxx⟩
  replace HW := hide (HW.out.trans hxx)
  replace HS := hide (HS.out.trans hxx)
  replace HG := hide (own_x HG.out hxx)
  clear hxx
  go_wp2_with fail
  refine (c_heldInt64S AR5 cR5 ((richAns xs0 n1 n2).1).length w4.heap.size LG 1 w15 hzl (by omega) (by omega) HG.out HM.out).mono ?_
  rintro e w16 ⟨rfl, hxx⟩
  replace HW := hide (HW.out.trans hxx)
  replace HS := hide (HS.out.trans hxx)
  replace HG := hide (own_x HG.out hxx)
  clear hxx
  go_wp2_with fail
  go_ret
  exact ⟨rfl, HW.out⟩

end Go.Proofs.Ytlbcoplpdnidnaa
