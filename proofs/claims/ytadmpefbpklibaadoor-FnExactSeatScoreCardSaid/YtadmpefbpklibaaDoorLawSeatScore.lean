/- The law FnExactSeatScore: the walk through the law's own text. Conditions: those of the row's arguments alone; the table of sines as the program's text lays it. -/
import Derived.Test.YtadmpefbpklibaaDoorSeatScore
namespace Go.Proofs.YtadmpefbpklibaaDoor
set_option linter.unusedVariables false
open Go.RowKit

set_option maxHeartbeats 3200000 in
set_option maxRecDepth 100000 in
theorem law_FnExactSeatScore (x0 : DomeD) (A1 : Option Addr) (c1 : Nat) (xs1 : List RingD) (n2 : Int) (w : World) (hx0 : x0.wf) (hn1 : xs1.length ≤ maxLen) (hw1 : ∀ x ∈ xs1, x.wf) (hA1 : Rd RingD.cells 5 w A1 xs1) (hb2 : intWf n2) (HT : ∀ V, IsX w V → sinTab V) :
    Calls Tryd.prog 3 #[.agg #[.string x0.Name, .int .i64 x0.Radius, .int .i64 x0.Tilt], .slice A1 xs1.length c1, .int .i64 n2] w fun e w' => e = .returned (.bool true) ∧ IsX w w' := by
  obtain ⟨W0, hW0⟩ : ∃ W, W = (w.alloc (.cells #[.string x0.Name, .int .i64 x0.Radius, .int .i64 x0.Tilt] 23)) := ⟨_, rfl⟩
  obtain ⟨BD, hBD⟩ : ∃ B, B = w.heap.size := ⟨_, rfl⟩
  have HBD := hide (show Blk W0 BD 23 #[.string x0.Name, .int .i64 x0.Radius, .int .i64 x0.Tilt] from by rw [hW0, hBD]; have h := (Blk.new w 23 #[.string x0.Name, .int .i64 x0.Radius, .int .i64 x0.Tilt]); simpa using h)
  have HX0 := hide (show IsX w W0 from by rw [hW0]; exact (IsX.refl w).alloc _)
  have HDC := hide (show ∀ V, IsX W0 V → V.cell? ⟨BD, 0, none⟩ = some (.string x0.Name) ∧ V.cell? ⟨BD, 1, none⟩ = some (.int .i64 x0.Radius) ∧ V.cell? ⟨BD, 2, none⟩ = some (.int .i64 x0.Tilt) ∧ BD < V.heap.size from fun V hV => ⟨(HBD.out.x hV).cell 0, (HBD.out.x hV).cell 1, (HBD.out.x hV).cell 2, (HBD.out.x hV).lt⟩)
  have HAW := hide (fun V (hV : IsX W0 V) => hA1.x (HX0.out.trans hV))
  go_enter Tryd.func3, Tryd.ntmps3
  go_wp2_with fail
  (try simp only [World.size_alloc, Nat.add_assoc, Nat.reduceAdd])
  rw [← hW0]
  simp only [← hBD]
  clear hW0 hBD
  refine (c_szDome x0 1048576 W0 hx0 (by omega) (by omega)).mono ?_
  rintro e w1 ⟨m1, rfl, e1a, e1b, e1c, hx1'⟩
  have X1 := (IsX.refl W0).trans hx1'
  by_cases hm1 : m1 < 0
  · go_wp2_with fail
    go_ret
    exact ⟨rfl, HX0.out.trans X1⟩
  go_wp2_with fail
  refine (c_szRingS A1 xs1.length c1 m1 w1 hn1 (by omega) (by omega)).mono ?_
  rintro e w2 ⟨m2, rfl, e2a, e2b, e2c, hx2'⟩
  have X2 := X1.trans hx2'
  by_cases hm2 : m2 < 0
  · go_wp2_with fail
    go_ret
    exact ⟨rfl, HX0.out.trans X2⟩
  have hn1' : xs1.length ≤ 1099511627776 := by omega
  obtain ⟨d0, d1, d2, dl⟩ := HDC.out w2 (X2)
  go_wp2_with fail
  refine (c_toDome x0 w2).mono ?_
  rintro e w3 ⟨rfl, hx3'⟩
  have X3 := X2.trans hx3'
  clear d0 d1 d2 dl
  go_wp2_with fail
  refine (c_toRingS A1 c1 xs1 w3 hn1' (HAW.out _ X3)).mono ?_
  rintro e w4 ⟨g4, rfl, hg4, hB4, hx4'⟩
  have X4 := X3.trans hx4'
  go_wp2_with fail
  refine (s_SeatScore x0 (some ⟨g4, 0, none⟩) xs1.length xs1 n2 w4 hx0 hn1' hw1 (hB4.rd RingD.cells_len) hb2).mono ?_
  rintro e w5 ⟨rfl, hx5'⟩
  have X5 := X4.trans hx5'
  clear hB4
  go_wp2_with fail
  refine (c_toRingS A1 c1 xs1 w5 hn1' (HAW.out _ X5)).mono ?_
  rintro e w6 ⟨g6, rfl, hg6, hB6, hx6'⟩
  have X6 := X5.trans hx6'
  obtain ⟨d0, d1, d2, dl⟩ := HDC.out w6 (X6)
  go_wp2_with fail
  refine (c_toDome x0 w6).mono ?_
  rintro e w7 ⟨rfl, hx7'⟩
  have X7 := X6.trans hx7'
  clear d0 d1 d2 dl
  go_wp2_with fail
  refine (i_SeatScore x0 (some ⟨g6, 0, none⟩) xs1.length xs1 n2 w7 hx0 hn1' hw1 ((hB6.x hx7').rd RingD.cells_len) hb2 (fun V hV => HT V ((HX0.out.trans X7).trans hV))).mono ?_
  rintro e w8 ⟨rfl, hx8'⟩
  have X8 := X7.trans hx8'
  generalize scoreW x0 xs1 n2 = sw at *
  generalize scoreK x0 xs1 n2 = sk at *
  go_wp2_with fail
  refine (c_toRingS A1 c1 xs1 w8 hn1' (HAW.out _ X8)).mono ?_
  rintro e w9 ⟨g9, rfl, hg9, hB9, hx9'⟩
  have X9 := X8.trans hx9'
  go_wp2_with fail
  refine (c_eqRingS (some ⟨g6, 0, none⟩) (some ⟨g9, 0, none⟩) xs1.length xs1.length xs1 w9 hn1' ((((hB6.x hx7').x hx8').x hx9').rd RingD.cells_len) (hB9.rd RingD.cells_len)).mono ?_
  rintro e wz ⟨rfl, hxz'⟩
  go_wp2_with fail
  go_ret
  exact ⟨rfl, HX0.out.trans (X9.trans hxz')⟩

end Go.Proofs.YtadmpefbpklibaaDoor
