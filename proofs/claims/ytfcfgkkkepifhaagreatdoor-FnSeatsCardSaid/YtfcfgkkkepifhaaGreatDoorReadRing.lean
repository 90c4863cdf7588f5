/- A ring read: ReadRing of the reference and of the program. Conditions: texts of at most 2^31 bytes; the library's variables as the rows lay them. -/
import Derived.Test.YtfcfgkkkepifhaaGreatDoorReadList
import Derived.Test.YtfcfgkkkepifhaaGreatDoorRings
import Derived.RegionTactic
import Derived.ChangeAlike
import Derived.BigRegion
namespace Go.Proofs.YtfcfgkkkepifhaaGreatDoor
set_option linter.unusedVariables false
open Go.RowKit

def ringN (N : List Int) : RingD := ⟨N.getD 0 0, N.getD 1 0, N.getD 2 0, N.getD 3 0, N.getD 4 0⟩
def ringW (x : RingD) : Value := .agg #[.int .i64 x.Radius, .int .i64 x.Count, .int .i64 x.From, .int .i64 x.Step, .int .i64 x.Price]
def ringB (s : ByteArray) : Bool := listOk s && decide ((listZ s).length = 5) && (ringN (listZ s)).okB
def zeroRing : RingD := ⟨0, 0, 0, 0, 0⟩
def ringZ (s : ByteArray) : RingD := if ringB s = true then ringN (listZ s) else zeroRing
theorem ring_no {s : ByteArray} (h : ringB s = false) : ringZ s = zeroRing := by simp [ringZ, h]
theorem ring_yes {s : ByteArray} (h : ringB s = true) : ringZ s = ringN (listZ s) := by simp [ringZ, h]

set_option maxRecDepth 100000 in
set_option maxHeartbeats 3200000 in
theorem i_ReadRing (s : ByteArray) (w : World) (hs : s.size ≤ 2147483648) (he : EnvOk w) :
    Calls Tryz.prog 15 #[.string s] w fun e w' => e = .returned (.tuple #[ringW (ringZ s), .bool (ringB s)]) ∧ IsX w w' := by
  have hx0 : IsX w (w.alloc (.cells #[.int .i64 0, .int .i64 0, .int .i64 0, .int .i64 0, .int .i64 0] 42)) := (IsX.refl w).alloc _
  have hB0 : Blk (w.alloc (.cells #[.int .i64 0, .int .i64 0, .int .i64 0, .int .i64 0, .int .i64 0] 42)) w.heap.size 42 #[.int .i64 0, .int .i64 0, .int .i64 0, .int .i64 0, .int .i64 0] := Blk.new _ _ _
  have HL : Hid (∀ W, IsX w W → Calls Tryz.prog 39 #[.string s] W (LPost W s)) := hide (fun W hW => i_ReadList s W hs (he.x hW))
  go_enter Tryz.func15, Tryz.ntmps15
  go_wp2_with fail
  generalize w.alloc (.cells #[.int .i64 0, .int .i64 0, .int .i64 0, .int .i64 0, .int .i64 0] 42) = w0 at *
  refine (HL.out _ hx0).mono ?_
  clear HL
  rintro e ws ⟨A, c, rfl, hO, hx1⟩
  have HB := hB0.x hx1
  have HX := hx0.trans hx1
  cases hk : listOk s
  · have HRB := hide (show ringB s = false by simp [ringB, hk])
    have HZ := hide (ring_no HRB.out)
    clear hO hk
    have f0 := HB.cell 0
    have f1 := HB.cell 1
    have f2 := HB.cell 2
    have f3 := HB.cell 3
    have f4 := HB.cell 4
    have z0 := HB.frozen 0
    have z1 := HB.frozen 1
    have z2 := HB.frozen 2
    have z3 := HB.frozen 3
    have z4 := HB.frozen 4
    have hlt5 := HB.lt
    simp at f0 f1 f2 f3 f4
    go_wp2_with fail
    have hX6 : IsX w (((((ws.setCell ⟨w.heap.size, 0, none⟩ (.int .i64 0)).setCell ⟨w.heap.size, 1, none⟩ (.int .i64 0)).setCell ⟨w.heap.size, 2, none⟩ (.int .i64 0)).setCell ⟨w.heap.size, 3, none⟩ (.int .i64 0)).setCell ⟨w.heap.size, 4, none⟩ (.int .i64 0)) := (IsX.setCell (a := ⟨w.heap.size, 4, none⟩) (IsX.setCell (a := ⟨w.heap.size, 3, none⟩) (IsX.setCell (a := ⟨w.heap.size, 2, none⟩) (IsX.setCell (a := ⟨w.heap.size, 1, none⟩) (IsX.setCell (a := ⟨w.heap.size, 0, none⟩) HX (Nat.le_refl _) _) (Nat.le_refl _) _) (Nat.le_refl _) _) (Nat.le_refl _) _) (Nat.le_refl _) _)
    have hB6 := (((((HB.set_ 0 (.int .i64 0)).set_ 1 (.int .i64 0)).set_ 2 (.int .i64 0)).set_ 3 (.int .i64 0)).set_ 4 (.int .i64 0))
    clear f0 f1 f2 f3 f4 z0 z1 z2 z3 z4
    generalize (((((ws.setCell ⟨w.heap.size, 0, none⟩ (.int .i64 0)).setCell ⟨w.heap.size, 1, none⟩ (.int .i64 0)).setCell ⟨w.heap.size, 2, none⟩ (.int .i64 0)).setCell ⟨w.heap.size, 3, none⟩ (.int .i64 0)).setCell ⟨w.heap.size, 4, none⟩ (.int .i64 0)) = V6 at *
    have r0 := hB6.cell 0
    have r1 := hB6.cell 1
    have r2 := hB6.cell 2
    have r3 := hB6.cell 3
    have r4 := hB6.cell 4
    simp at r0 r1 r2 r3 r4
    rw [HZ.out]
    exact bodyPost_ret (v := .tuple #[ringW zeroRing, .bool false]) (by simp [results, Tryz.results15, go_sem, r0, r1, r2, r3, r4, ringW, zeroRing]) rfl ⟨by rw [HRB.out], hX6⟩
  have HK := hide hk
  clear hk
  by_cases h5 : (listZ s).length = 5
  case neg =>
    have HRB := hide (show ringB s = false by simp [ringB, h5])
    have HZ := hide (ring_no HRB.out)
    obtain ⟨n, hn⟩ : ∃ n, n = (listZ s).length := ⟨_, rfl⟩
    rw [← hn] at h5 ⊢
    have g : ((n : Int) != 5) = true := by rw [bne_iff_ne]; omega
    clear hO hn
    have f0 := HB.cell 0
    have f1 := HB.cell 1
    have f2 := HB.cell 2
    have f3 := HB.cell 3
    have f4 := HB.cell 4
    have z0 := HB.frozen 0
    have z1 := HB.frozen 1
    have z2 := HB.frozen 2
    have z3 := HB.frozen 3
    have z4 := HB.frozen 4
    have hlt5 := HB.lt
    simp at f0 f1 f2 f3 f4
    go_wp2_with fail
    have hX6 : IsX w (((((ws.setCell ⟨w.heap.size, 0, none⟩ (.int .i64 0)).setCell ⟨w.heap.size, 1, none⟩ (.int .i64 0)).setCell ⟨w.heap.size, 2, none⟩ (.int .i64 0)).setCell ⟨w.heap.size, 3, none⟩ (.int .i64 0)).setCell ⟨w.heap.size, 4, none⟩ (.int .i64 0)) := (IsX.setCell (a := ⟨w.heap.size, 4, none⟩) (IsX.setCell (a := ⟨w.heap.size, 3, none⟩) (IsX.setCell (a := ⟨w.heap.size, 2, none⟩) (IsX.setCell (a := ⟨w.heap.size, 1, none⟩) (IsX.setCell (a := ⟨w.heap.size, 0, none⟩) HX (Nat.le_refl _) _) (Nat.le_refl _) _) (Nat.le_refl _) _) (Nat.le_refl _) _) (Nat.le_refl _) _)
    have hB6 := (((((HB.set_ 0 (.int .i64 0)).set_ 1 (.int .i64 0)).set_ 2 (.int .i64 0)).set_ 3 (.int .i64 0)).set_ 4 (.int .i64 0))
    clear f0 f1 f2 f3 f4 z0 z1 z2 z3 z4
    generalize (((((ws.setCell ⟨w.heap.size, 0, none⟩ (.int .i64 0)).setCell ⟨w.heap.size, 1, none⟩ (.int .i64 0)).setCell ⟨w.heap.size, 2, none⟩ (.int .i64 0)).setCell ⟨w.heap.size, 3, none⟩ (.int .i64 0)).setCell ⟨w.heap.size, 4, none⟩ (.int .i64 0)) = V6 at *
    have r0 := hB6.cell 0
    have r1 := hB6.cell 1
    have r2 := hB6.cell 2
    have r3 := hB6.cell 3
    have r4 := hB6.cell 4
    simp at r0 r1 r2 r3 r4
    rw [HZ.out]
    exact bodyPost_ret (v := .tuple #[ringW zeroRing, .bool false]) (by simp [results, Tryz.results15, go_sem, r0, r1, r2, r3, r4, ringW, zeroRing]) rfl ⟨by rw [HRB.out], hX6⟩
  have HR : Hid (Rd intC 1 ws A (listZ s)) := hide (Rd.of_own (by omega) intC_len hO)
  rw [h5]
  clear hO
  obtain ⟨x0, x1, x2, x3, x4, hN⟩ : ∃ x0 x1 x2 x3 x4, listZ s = [x0, x1, x2, x3, x4] := by
    match h : listZ s, h5 with
    | [x0, x1, x2, x3, x4], _ => exact ⟨x0, x1, x2, x3, x4, rfl⟩
  have HN := hide hN
  rw [hN] at HR
  clear hN h5
  obtain ⟨b, off, rfl, hb, c0⟩ := int_rd HR.out (show [x0, x1, x2, x3, x4][0]? = some x0 from rfl)
  obtain ⟨_, _, e1, _, c1⟩ := int_rd HR.out (show [x0, x1, x2, x3, x4][1]? = some x1 from rfl)
  injection e1 with e1
  injection e1 with e1 e2
  subst e1 e2
  obtain ⟨_, _, e1, _, c2⟩ := int_rd HR.out (show [x0, x1, x2, x3, x4][2]? = some x2 from rfl)
  injection e1 with e1
  injection e1 with e1 e2
  subst e1 e2
  obtain ⟨_, _, e1, _, c3⟩ := int_rd HR.out (show [x0, x1, x2, x3, x4][3]? = some x3 from rfl)
  injection e1 with e1
  injection e1 with e1 e2
  subst e1 e2
  obtain ⟨_, _, e1, _, c4⟩ := int_rd HR.out (show [x0, x1, x2, x3, x4][4]? = some x4 from rfl)
  injection e1 with e1
  injection e1 with e1 e2
  subst e1 e2
  rw [Nat.add_zero] at c0
  go_wp2_with fail
  go_region
  have HX2 : IsX w (ws.alloc (.cells #[.int .i64 x0, .int .i64 x1, .int .i64 x2, .int .i64 x3, .int .i64 x4] 42)).drew := (HX.alloc _).drew
  have HB2 : Blk (ws.alloc (.cells #[.int .i64 x0, .int .i64 x1, .int .i64 x2, .int .i64 x3, .int .i64 x4] 42)).drew ws.heap.size 42 #[.int .i64 x0, .int .i64 x1, .int .i64 x2, .int .i64 x3, .int .i64 x4] := (Blk.new ws 42 _).x (IsX.drew (IsX.refl _))
  have HB3 := HB.x (IsX.drew (IsX.alloc (IsX.refl ws) (.cells #[.int .i64 x0, .int .i64 x1, .int .i64 x2, .int .i64 x3, .int .i64 x4] 42)))
  have hlt6 := HB.lt
  generalize (ws.alloc (.cells #[.int .i64 x0, .int .i64 x1, .int .i64 x2, .int .i64 x3, .int .i64 x4] 42)).drew = V at *
  obtain ⟨b6, hb6⟩ : ∃ b6, b6 = ws.heap.size := ⟨_, rfl⟩
  rw [← hb6] at HB2 hlt6 ⊢
  clear hb6 c0 c1 c2 c3 c4 hb HR HB
  have d0 := HB2.cell 0
  have d1 := HB2.cell 1
  have d2 := HB2.cell 2
  have d3 := HB2.cell 3
  have d4 := HB2.cell 4
  have hl2 := HB2.lt
  simp at d0 d1 d2 d3 d4
  have HRN := hide (show ringN (listZ s) = ⟨x0, x1, x2, x3, x4⟩ by rw [HN.out]; rfl)
  have HRB := hide (show ringB s = (⟨x0, x1, x2, x3, x4⟩ : RingD).okB by unfold ringB; rw [HK.out, HRN.out, HN.out]; simp)
  have HC : Hid (Calls Tryz.prog 40 #[.agg #[.int .i64 x0, .int .i64 x1, .int .i64 x2, .int .i64 x3, .int .i64 x4]] V fun e w' => e = .returned (.bool (⟨x0, x1, x2, x3, x4⟩ : RingD).okB) ∧ IsX V w') := hide (c_validRing ⟨x0, x1, x2, x3, x4⟩ V)
  cases hq : (⟨x0, x1, x2, x3, x4⟩ : RingD).okB
  · rw [hq] at HRB HC
    have HZ := hide (ring_no HRB.out)
    go_wp2_with (go_at_call 40; refine HC.out.mono ?_; rintro e V1 ⟨rfl, hxv⟩; have HB4 := HB3.x hxv; have HX4 := HX2.trans hxv; clear d0 d1 d2 d3 d4; have f0 := HB4.cell 0; have f1 := HB4.cell 1; have f2 := HB4.cell 2; have f3 := HB4.cell 3; have f4 := HB4.cell 4; have z0 := HB4.frozen 0; have z1 := HB4.frozen 1; have z2 := HB4.frozen 2; have z3 := HB4.frozen 3; have z4 := HB4.frozen 4; have hlt5 := HB4.lt; simp at f0 f1 f2 f3 f4)
    have hX6 : IsX w (((((V1.setCell ⟨w.heap.size, 0, none⟩ (.int .i64 0)).setCell ⟨w.heap.size, 1, none⟩ (.int .i64 0)).setCell ⟨w.heap.size, 2, none⟩ (.int .i64 0)).setCell ⟨w.heap.size, 3, none⟩ (.int .i64 0)).setCell ⟨w.heap.size, 4, none⟩ (.int .i64 0)) := (IsX.setCell (a := ⟨w.heap.size, 4, none⟩) (IsX.setCell (a := ⟨w.heap.size, 3, none⟩) (IsX.setCell (a := ⟨w.heap.size, 2, none⟩) (IsX.setCell (a := ⟨w.heap.size, 1, none⟩) (IsX.setCell (a := ⟨w.heap.size, 0, none⟩) HX4 (Nat.le_refl _) _) (Nat.le_refl _) _) (Nat.le_refl _) _) (Nat.le_refl _) _) (Nat.le_refl _) _)
    have hB6 := (((((HB4.set_ 0 (.int .i64 0)).set_ 1 (.int .i64 0)).set_ 2 (.int .i64 0)).set_ 3 (.int .i64 0)).set_ 4 (.int .i64 0))
    clear f0 f1 f2 f3 f4 z0 z1 z2 z3 z4
    generalize (((((V1.setCell ⟨w.heap.size, 0, none⟩ (.int .i64 0)).setCell ⟨w.heap.size, 1, none⟩ (.int .i64 0)).setCell ⟨w.heap.size, 2, none⟩ (.int .i64 0)).setCell ⟨w.heap.size, 3, none⟩ (.int .i64 0)).setCell ⟨w.heap.size, 4, none⟩ (.int .i64 0)) = V6 at *
    have r0 := hB6.cell 0
    have r1 := hB6.cell 1
    have r2 := hB6.cell 2
    have r3 := hB6.cell 3
    have r4 := hB6.cell 4
    simp at r0 r1 r2 r3 r4
    rw [HZ.out]
    exact bodyPost_ret (v := .tuple #[ringW zeroRing, .bool false]) (by simp [results, Tryz.results15, go_sem, r0, r1, r2, r3, r4, ringW, zeroRing]) rfl ⟨by rw [HRB.out], hX6⟩
  · rw [hq] at HRB HC
    have HZ := hide (ring_yes HRB.out)
    go_wp2_with (go_at_call 40; refine HC.out.mono ?_; rintro e V1 ⟨rfl, hxv⟩; have HB4 := HB3.x hxv; have HX4 := HX2.trans hxv; have HB5 := HB2.x hxv; clear d0 d1 d2 d3 d4; have f0 := HB4.cell 0; have f1 := HB4.cell 1; have f2 := HB4.cell 2; have f3 := HB4.cell 3; have f4 := HB4.cell 4; have z0 := HB4.frozen 0; have z1 := HB4.frozen 1; have z2 := HB4.frozen 2; have z3 := HB4.frozen 3; have z4 := HB4.frozen 4; have hlt5 := HB4.lt; have d0 := HB5.cell 0; have d1 := HB5.cell 1; have d2 := HB5.cell 2; have d3 := HB5.cell 3; have d4 := HB5.cell 4; have hl5 := HB5.lt; simp at f0 f1 f2 f3 f4 d0 d1 d2 d3 d4)
    have hX6 : IsX w (((((V1.setCell ⟨w.heap.size, 0, none⟩ (.int .i64 x0)).setCell ⟨w.heap.size, 1, none⟩ (.int .i64 x1)).setCell ⟨w.heap.size, 2, none⟩ (.int .i64 x2)).setCell ⟨w.heap.size, 3, none⟩ (.int .i64 x3)).setCell ⟨w.heap.size, 4, none⟩ (.int .i64 x4)) := (IsX.setCell (a := ⟨w.heap.size, 4, none⟩) (IsX.setCell (a := ⟨w.heap.size, 3, none⟩) (IsX.setCell (a := ⟨w.heap.size, 2, none⟩) (IsX.setCell (a := ⟨w.heap.size, 1, none⟩) (IsX.setCell (a := ⟨w.heap.size, 0, none⟩) HX4 (Nat.le_refl _) _) (Nat.le_refl _) _) (Nat.le_refl _) _) (Nat.le_refl _) _) (Nat.le_refl _) _)
    have hB6 := (((((HB4.set_ 0 (.int .i64 x0)).set_ 1 (.int .i64 x1)).set_ 2 (.int .i64 x2)).set_ 3 (.int .i64 x3)).set_ 4 (.int .i64 x4))
    clear f0 f1 f2 f3 f4 z0 z1 z2 z3 z4
    generalize (((((V1.setCell ⟨w.heap.size, 0, none⟩ (.int .i64 x0)).setCell ⟨w.heap.size, 1, none⟩ (.int .i64 x1)).setCell ⟨w.heap.size, 2, none⟩ (.int .i64 x2)).setCell ⟨w.heap.size, 3, none⟩ (.int .i64 x3)).setCell ⟨w.heap.size, 4, none⟩ (.int .i64 x4)) = V6 at *
    have r0 := hB6.cell 0
    have r1 := hB6.cell 1
    have r2 := hB6.cell 2
    have r3 := hB6.cell 3
    have r4 := hB6.cell 4
    simp at r0 r1 r2 r3 r4
    rw [HZ.out, HRN.out]
    exact bodyPost_ret (v := .tuple #[ringW ⟨x0, x1, x2, x3, x4⟩, .bool true]) (by simp [results, Tryz.results15, go_sem, r0, r1, r2, r3, r4, ringW]) rfl ⟨by rw [HRB.out], hX6⟩
end Go.Proofs.YtfcfgkkkepifhaaGreatDoor
