/- The law FnExactFewestUniverses: the walk through the law's own text. Conditions: those of the row's arguments alone. -/
import Derived.Test.YtlbcoplpdnidnaaUniProg
import Derived.Test.YtlbcoplpdnidnaaMarks
namespace Go.Proofs.Ytlbcoplpdnidnaa
set_option linter.unusedVariables false
open Go.RowKit

set_option maxRecDepth 100000 in
set_option maxHeartbeats 1600000 in
theorem law_FnExactFewestUniverses (A0 : Option Addr) (c0 : Nat) (xs0 : List Int) (n1 : Int) (w : World) (hn0 : xs0.length ≤ maxLen) (hw0 : ∀ x ∈ xs0, intWf x) (hA0 : Rd intC 1 w A0 xs0) (hb1 : intWf n1) :
    Calls Try.prog 3 #[.slice A0 xs0.length c0, .int .i64 n1] w fun e w' => e = .returned (.bool true) ∧ IsX w w' := by
  by_cases hg0 : 1048576 < xs0.length
  · skip
    unfold maxLen at hn0
    go_enter Try.func3, Try.ntmps3
    go_wp2_with fail
    go_ret
    exact ⟨rfl, IsX.refl _⟩
  go_enter Try.func3, Try.ntmps3
  have hn0' : xs0.length ≤ 1099511627776 := by omega
  go_wp2_with fail
  refine (c_toInt64S A0 c0 xs0 w hn0' (hA0.x (IsX.refl w))).mono ?_
  rintro e w1 ⟨g1, rfl, hg1, hB1, hx1'⟩
  go_wp2_with fail
  refine (s_FewestUniverses (some ⟨g1, 0, none⟩) xs0.length xs0 n1 w1 hn0' hw0 ((hB1.x (IsX.refl w1)).rd intC_len) hb1).mono ?_
  rintro e w2 ⟨AR2, cR2, rfl, hR2, hx2'⟩
  go_wp2_with fail
  refine (c_toInt64S A0 c0 xs0 w2 hn0' (hA0.x (((IsX.refl w).trans hx1').trans hx2'))).mono ?_
  rintro e w3 ⟨g3, rfl, hg3, hB3, hx3'⟩
  go_wp2_with fail
  refine (i_FewestUniverses (some ⟨g3, 0, none⟩) xs0.length xs0 n1 w3 hn0' hw0 ((hB3.x (IsX.refl w3)).rd intC_len) hb1).mono ?_
  rintro e w4 ⟨AR4, cR4, rfl, hR4, hx4'⟩
  have hzl := uniAns_len xs0 n1
  go_wp2_with fail
  refine (c_eqInt64S AR4 AR2 cR4 cR2 (uniAns xs0 n1).1 w4 hzl ((hR4).rd (by omega) intC_len rfl) ((hR2.x (((IsX.refl w2).trans hx3').trans hx4')).rd (by omega) intC_len rfl)).mono ?_
  rintro e w5 ⟨rfl, hx5'⟩
  go_wp2_with fail
  refine (c_toInt64S A0 c0 xs0 w5 hn0' (hA0.x ((((((IsX.refl w).trans hx1').trans hx2').trans hx3').trans hx4').trans hx5'))).mono ?_
  rintro e w6 ⟨g6, rfl, hg6, hB6, hx6'⟩
  go_wp2_with fail
  refine (c_eqInt64S (some ⟨g3, 0, none⟩) (some ⟨g6, 0, none⟩) xs0.length xs0.length xs0 w6 hn0' ((hB3.x ((((IsX.refl w3).trans hx4').trans hx5').trans hx6')).rd intC_len) (hB6.rd intC_len)).mono ?_
  rintro e w7 ⟨rfl, hx7'⟩
  have HW := hide ((((((((IsX.refl w).trans hx1').trans hx2').trans hx3').trans hx4').trans hx5').trans hx6').trans hx7')
  have HS := hide ((((((IsX.refl w2).trans hx3').trans hx4').trans hx5').trans hx6').trans hx7')
  have HG : Hid (Own intC 1 2 w7 w3.heap.size _ _) := hide (hR4.x ((((IsX.refl w4).trans hx5').trans hx6').trans hx7'))
  have HRS := hide hR2
  have HX0 := hide ((hB3.x (((((IsX.refl w3).trans hx4').trans hx5').trans hx6').trans hx7')).own' intC_len (Nat.le_refl g3) (by unfold maxLen; omega))
  have HL0 : Hid (w2.heap.size ≤ g3 ∧ g3 < w3.heap.size) := by
    unfold Hid
    have z1 := hB3.lt
    have y3 := hx3'.size
    omega
  have HZ0 : Hid (w.heap.size ≤ w2.heap.size) := hide (((IsX.refl w).trans hx1').trans hx2').size
  have HZ1 : Hid (w2.heap.size ≤ w3.heap.size) := hide ((IsX.refl w2).trans hx3').size
  clear hx1' hx2' hx3' hx4' hx5' hx6' hx7'
  clear hR2 hR4
  go_wp2_with fail
  refine (c_markInt64S (some ⟨g3, 0, none⟩) xs0.length xs0.length g3 _ _ w7 hn0' (by omega) (by omega) HX0.out).mono ?_
  rintro e w8 ⟨rfl, L8, _, _, hgr⟩
  replace hgr : _root_.Go.World.grownBy w7 w8 (some g3) := hgr
  replace HW := hide (IsX.grown HW.out hgr (by intro k hk; injection hk with hk; have := HL0.out; have := HZ0.out; omega))
  replace HS := hide (IsX.grown HS.out hgr (by intro k hk; injection hk with hk; have := HL0.out; omega))
  replace HG : Hid (Own intC 1 2 w8 w3.heap.size _ _) := hide (own_under HG.out hgr HL0.out.2)
  clear hgr
  go_wp2_with fail
  refine (c_eqInt64S AR4 AR2 cR4 cR2 (uniAns xs0 n1).1 w8 hzl (Own.rd (cells := intC) (k := 1) (t := 2) (by omega) intC_len HG.out rfl) ((HRS.out.x HS.out).rd (by omega) intC_len rfl)).mono ?_
  rintro e w9 ⟨rfl, hxx⟩
  replace HW := hide (HW.out.trans hxx)
  replace HS := hide (HS.out.trans hxx)
  replace HG := hide (own_x HG.out hxx)
  clear hxx
  go_wp2_with fail
  refine (c_markInt64S AR4 cR4 ((uniAns xs0 n1).1).length w3.heap.size _ 1 w9 hzl (by omega) (by omega) HG.out).mono ?_
  rintro e w10 ⟨rfl, LG, hO, hM, hgr⟩
  replace HW := hide (IsX.grown HW.out hgr (by intro k hk; have := (HG.out.lt k hk).1; have := HZ0.out; have := HZ1.out; omega))
  replace HS := hide (IsX.grown HS.out hgr (by intro k hk; have := (HG.out.lt k hk).1; have := HZ1.out; omega))
  replace HG := hide hO
  have HM := hide hM
  clear hgr hO hM
  go_wp2_with fail
  refine (c_heldInt64S AR4 cR4 ((uniAns xs0 n1).1).length w3.heap.size LG 1 w10 hzl (by omega) (by omega) HG.out HM.out).mono ?_
  rintro e w11 ⟨rfl, hxx⟩
  replace HW := hide (HW.out.trans hxx)
  replace HS := hide (HS.out.trans hxx)
  replace HG := hide (own_x HG.out hxx)
  clear hxx
  go_wp2_with fail
  refine (c_toInt64S A0 c0 xs0 w11 hn0' (hA0.x (HW.out))).mono ?_
  rintro e w12 ⟨g12, rfl, hg12, hB12, hx12'⟩
  replace HW := hide (HW.out.trans hx12')
  replace HS := hide (HS.out.trans hx12')
  replace HG := hide (own_x HG.out hx12')
  go_wp2_with fail
  refine (i_FewestUniverses (some ⟨g12, 0, none⟩) xs0.length xs0 n1 w12 hn0' hw0 ((hB12.x (IsX.refl w12)).rd intC_len) hb1).mono ?_
  rintro e w13 ⟨AR13, cR13, rfl, hR13, hx13'⟩
  replace HW := hide (HW.out.trans hx13')
  replace HS := hide (HS.out.trans hx13')
  replace HG := hide (own_x HG.out hx13')
  go_wp2_with fail
  refine (c_eqInt64S AR13 AR2 cR13 cR2 (uniAns xs0 n1).1 w13 hzl ((hR13).rd (by omega) intC_len rfl) ((HRS.out.x HS.out).rd (by omega) intC_len rfl)).mono ?_
  rintro e w14 ⟨rfl, hxx⟩
  replace HW := hide (HW.out.trans hxx)
  replace HS := hide (HS.out.trans hxx)
  replace HG := hide (own_x HG.out hxx)
  clear hxx
  go_wp2_with fail
  refine (c_heldInt64S AR4 cR4 ((uniAns xs0 n1).1).length w3.heap.size LG 1 w14 hzl (by omega) (by omega) HG.out HM.out).mono ?_
  rintro e w15 ⟨rfl, hxx⟩
  replace HW := hide (HW.out.trans hxx)
  replace HS := hide (HS.out.trans hxx)
  replace HG := hide (own_x HG.out hxx)
  clear hxx
  go_wp2_with fail
  go_ret
  exact ⟨rfl, HW.out⟩

end Go.Proofs.Ytlbcoplpdnidnaa
