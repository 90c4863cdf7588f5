/- The law FnExactSeatPlace: the walk through the law's own text. Conditions: those of the row's arguments alone; the table of sines as the program's text lays it. -/
import Derived.Test.YtkepoedicgognaaDoorSeatPlace
namespace Go.Proofs.YtkepoedicgognaaDoor
set_option linter.unusedVariables false
open Go.RowKit

set_option maxHeartbeats 1600000 in
set_option maxRecDepth 100000 in
theorem law_FnExactSeatPlace (A0 : Option Addr) (c0 : Nat) (xs0 : List RingD) (n1 : Int) (w : World) (hn0 : xs0.length ≤ maxLen) (hw0 : ∀ x ∈ xs0, x.wf) (hA0 : Rd RingD.cells 5 w A0 xs0) (hb1 : intWf n1) (HT : ∀ V, IsX w V → sinTab V) :
    Calls Tryd.prog 3 #[.slice A0 xs0.length c0, .int .i64 n1] w fun e w' => e = .returned (.bool true) ∧ IsX w w' := by
  obtain ⟨px, py, hp⟩ : ∃ px py, placeW xs0 n1 = (px, py) := ⟨_, _, rfl⟩
  have HS := hide (s_SeatPlace (n1 := n1) (xs0 := xs0))
  have HI := hide (i_SeatPlace (n1 := n1) (xs0 := xs0))
  have HQ := hide (c_eqVector (px, py))
  rw [hp] at HS HI
  simp only [placeV] at HS HI HQ
  clear hp
  go_enter Tryd.func3, Tryd.ntmps3
  go_wp2_with fail
  refine (c_szRingS A0 xs0.length c0 1048576 w hn0 (by omega) (by omega)).mono ?_
  rintro e w1 ⟨m1, rfl, e1a, e1b, e1c, hx1'⟩
  by_cases hm1 : m1 < 0
  · go_wp2_with fail
    go_ret
    exact ⟨rfl, (IsX.refl w).trans hx1'⟩
  have hn0' : xs0.length ≤ 1099511627776 := by omega
  go_wp2_with fail
  refine (c_toRingS A0 c0 xs0 w1 hn0' (hA0.x ((IsX.refl w).trans hx1'))).mono ?_
  rintro e w2 ⟨g2, rfl, hg2, hB2, hx2'⟩
  go_wp2_with fail
  refine (HS.out (some ⟨g2, 0, none⟩) xs0.length w2 hn0' hw0 ((hB2.x (IsX.refl w2)).rd RingD.cells_len) hb1).mono ?_
  rintro e w3 ⟨rfl, hx3'⟩
  have X3 := ((((IsX.refl w).trans hx1').trans hx2').trans hx3').alloc (.cells #[.int .i64 px, .int .i64 py, .int .i64 0] 25)
  have B3 := Blk.new w3 25 #[.int .i64 px, .int .i64 py, .int .i64 0]
  go_wp2_with fail
  obtain ⟨b3, hb3⟩ : ∃ b, b = w3.heap.size := ⟨_, rfl⟩
  rw [← hb3] at B3 ⊢
  clear hb3
  generalize w3.alloc (.cells #[.int .i64 px, .int .i64 py, .int .i64 0] 25) = W3 at *
  refine (c_toRingS A0 c0 xs0 W3 hn0' (hA0.x X3)).mono ?_
  rintro e w4 ⟨g4, rfl, hg4, hB4, hx4'⟩
  go_wp2_with fail
  refine (HI.out (some ⟨g4, 0, none⟩) xs0.length w4 hn0' hw0 ((hB4.x (IsX.refl w4)).rd RingD.cells_len) hb1 (fun V hV => HT V ((X3.trans hx4').trans hV))).mono ?_
  rintro e w5 ⟨rfl, hx5'⟩
  have X5 := ((X3.trans hx4').trans hx5').alloc (.cells #[.int .i64 px, .int .i64 py, .int .i64 0] 25)
  have B5 := Blk.new w5 25 #[.int .i64 px, .int .i64 py, .int .i64 0]
  have Y5 : IsX w4 (w5.alloc (.cells #[.int .i64 px, .int .i64 py, .int .i64 0] 25)) := hx5'.alloc _
  have B3' := (B3.x hx4').x hx5'
  have a0 := B3'.cell 0
  have a1 := B3'.cell 1
  have a2 := B3'.cell 2
  simp at a0 a1 a2
  have hl3 := B3'.lt
  go_wp2_with fail
  generalize w5.alloc (.cells #[.int .i64 px, .int .i64 py, .int .i64 0] 25) = W5 at *
  refine (HQ.out W5).mono ?_
  rintro e w6 ⟨rfl, hx6'⟩
  go_wp2_with fail
  refine (c_toRingS A0 c0 xs0 w6 hn0' (hA0.x (X5.trans hx6'))).mono ?_
  rintro e w7 ⟨g7, rfl, hg7, hB7, hx7'⟩
  go_wp2_with fail
  refine (c_eqRingS (some ⟨g4, 0, none⟩) (some ⟨g7, 0, none⟩) xs0.length xs0.length xs0 w7 hn0' ((hB4.x ((Y5.trans hx6').trans hx7')).rd RingD.cells_len) (hB7.rd RingD.cells_len)).mono ?_
  rintro e w8 ⟨rfl, hx8'⟩
  go_wp2_with fail
  go_ret
  exact ⟨rfl, ((X5.trans hx6').trans hx7').trans hx8'⟩

end Go.Proofs.YtkepoedicgognaaDoor
