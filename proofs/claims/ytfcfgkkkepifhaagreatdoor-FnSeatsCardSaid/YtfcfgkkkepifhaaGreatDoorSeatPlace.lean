/- The places of seats: what the reference and the program compute. Conditions: lists no longer than 2^40; the table of sines as the program's text lays it. -/
import Derived.Test.YtfcfgkkkepifhaaGreatDoorDomeLaw
import Derived.Test.YtfcfgkkkepifhaaGreatDoorAskFns
import Derived.Test.YtfcfgkkkepifhaaGreatDoorTail
namespace Go.Proofs.YtfcfgkkkepifhaaGreatDoor
set_option linter.unusedVariables false
open Go.RowKit

theorem rmul_small {r s : Int} (h0 : 0 ≤ r) (h1 : r ≤ 30000) (s0 : -1030000 ≤ s ∧ s ≤ 1030000) : -100000000000 ≤ r * s ∧ r * s ≤ 100000000000 := by
  have := mul_bd (d := s) (D := 1030000) (r := r) (Rr := 30000) (by omega) (by omega) h0 h1 (by omega)
  rw [Int.mul_comm r s]; omega
def seatAng (x : RingD) (n : Int) : Int := (x.From + n * x.Step) % 360000
def seatX (x : RingD) (n : Int) : Int := divR (x.Radius * sinA (seatAng x n)) 1000000
def seatY (x : RingD) (n : Int) : Int := divR (x.Radius * cosA (seatAng x n)) 1000000
def placeZ (xs : List RingD) (k : Int) : Int × Int := match xs[seatI xs k]? with | some x => (seatX x (seatN xs k), seatY x (seatN xs k)) | none => (0, 0)
theorem placeZ_at {xs : List RingD} {k : Int} (h : seatI xs k < xs.length) : placeZ xs k = (seatX xs[seatI xs k] (seatN xs k), seatY xs[seatI xs k] (seatN xs k)) := by
  unfold placeZ; rw [List.getElem?_eq_getElem h]

set_option maxHeartbeats 1600000 in
set_option maxRecDepth 100000 in
theorem c_seatPlace (A0 : Option Addr) (c0 : Nat) (xs : List RingD) (k : Int) (w : World) (hv : ringsB xs = true) (h0 : 0 ≤ k) (h1 : k < sumCount xs) (hn : xs.length ≤ 1099511627776) (hA : Rd RingD.cells 5 w A0 xs) (HTAB : ∀ W, IsX w W → sinTab W) :
    Calls Tryz.prog 33 #[.slice A0 xs.length c0, .int .i64 k] w fun e w' => e = .returned (.agg #[.int .i64 (placeZ xs k).1, .int .i64 (placeZ xs k).2, .int .i64 0]) ∧ IsX w w' := by
  have hs1 := (rings_len hv).2
  have hcn := rings_cnt hv
  obtain ⟨n0, hlt, n1⟩ := seatN_bd hcn k h0 h1
  have hok := rings_ok hv _ (List.getElem_mem hlt)
  have HP := hide (placeZ_at hlt)
  go_enter Tryz.func33, Tryz.ntmps33
  go_wp2_with fail
  refine (c_ringOf A0 c0 xs k _ hn hcn h0 h1 (by omega) (hA.x ((IsX.refl w).alloc _))).mono ?_
  rintro e w1 ⟨rfl, hx⟩
  have hA1 := (hA.x ((IsX.refl w).alloc _)).x hx
  obtain ⟨b, off, rfl, hb, c0', c1', c2', c3', c4'⟩ := RingD.rd hA1 (show xs[seatI xs k]? = some xs[seatI xs k] from List.getElem?_eq_getElem _)
  have hI := hlt
  generalize hsn : seatN xs k = sn at *
  generalize hrg : xs[seatI xs k] = rg at *
  generalize hsi : seatI xs k = si at *
  obtain ⟨o0, o1, o2, o3, o4, o5, o6, o7, o8, o9, o10⟩ := hok
  have m1 : 0 ≤ sn * rg.Step ∧ sn * rg.Step ≤ 5400000 := by
    have := mul_bd (d := rg.Step) (D := 90000) (r := sn) (Rr := 60) (by omega) (by omega) n0 (by omega) (by omega)
    rw [Int.mul_comm sn]
    have h2 : 0 ≤ rg.Step * sn := Int.mul_nonneg (by omega) n0
    omega
  have hang : -1000000000 ≤ rg.From + sn * rg.Step ∧ rg.From + sn * rg.Step ≤ 1000000000 := by omega
  have hang0 : 0 ≤ rg.From + sn * rg.Step := by omega
  have hz : 0 ≤ seatAng rg sn ∧ seatAng rg sn < 360000 := by unfold seatAng; omega
  have rs := rmul_small (r := rg.Radius) (by omega) o1 (sinA_small hz.1 hz.2)
  have rc := rmul_small (r := rg.Radius) (by omega) o1 (cosA_small hz.1)
  have HXY := hide (show seatX rg sn = divR (rg.Radius * sinA (seatAng rg sn)) 1000000 ∧ seatY rg sn = divR (rg.Radius * cosA (seatAng rg sn)) 1000000 from ⟨rfl, rfl⟩)
  have HAN := hide (show (rg.From + sn * rg.Step) % 360000 = seatAng rg sn from rfl)
  go_wp2_with fail
  obtain ⟨W, hW⟩ : ∃ W, W = w1.alloc (.cells #[.int .i64 rg.Radius, .int .i64 rg.Count, .int .i64 rg.From, .int .i64 rg.Step, .int .i64 rg.Price] 42) := ⟨_, rfl⟩
  have hBr : Blk W w1.heap.size 42 #[.int .i64 rg.Radius, .int .i64 rg.Count, .int .i64 rg.From, .int .i64 rg.Step, .int .i64 rg.Price] := by rw [hW]; exact Blk.new _ _ _
  have hBt : Blk W w.heap.size 29 #[.int .i64 0, .int .i64 0, .int .i64 0] := by rw [hW]; exact ((Blk.new w _ _).x hx).alloc _
  have hXW : IsX w W := by rw [hW]; exact (((IsX.refl w).alloc _).trans hx).alloc _
  rw [← hW]
  clear hW
  obtain ⟨b1, hb1⟩ : ∃ b1, b1 = w1.heap.size := ⟨_, rfl⟩
  obtain ⟨b4, hb4⟩ : ∃ b4, b4 = w.heap.size := ⟨_, rfl⟩
  rw [← hb1] at hBr ⊢
  rw [← hb4] at hBt ⊢
  have HB4 := hide hb4
  have HSI := hide (fun V hV => c_SineOf (rg.From + sn * rg.Step) V hV hang)
  have HCO := hide (fun V hV => c_CosineOf (rg.From + sn * rg.Step) V hV hang)
  rw [HAN.out] at HSI HCO
  have HXW := hide hXW
  have HTB := hide (fun V (hV : IsX W V) => HTAB V (HXW.out.trans hV))
  generalize seatAng rg sn = an at *
  generalize hsv : sinA an = sv at *
  generalize hcv : cosA an = cv at *
  obtain ⟨px, hpx⟩ : ∃ px, rg.Radius * sv = px := ⟨_, rfl⟩
  obtain ⟨py, hpy⟩ : ∃ py, rg.Radius * cv = py := ⟨_, rfl⟩
  rw [hpx, hpy] at HXY
  rw [hpx] at rs
  rw [hpy] at rc
  have HNX := hide (fun V => c_nearest_1000000 px V (by omega))
  have HNY := hide (fun V => c_nearest_1000000 py V (by omega))
  clear hA hA1 hx hXW HTAB hsv hcv c0' c1' c2' c3' c4' hb hb1 hb4 hv h0 h1 hn hs1 hcn hsn hsi hrg hlt hI HAN o2 o3 o8 o9 o10
  have l0 := hBr.cell 0
  simp at l0
  have hb1 := hBr.lt
  have HBT := hide hBt
  clear hBr hBt
  have hsp : (0 : Int) ≤ 0 := Int.le_refl _
  refine wp_region_x_tail 13 (by kernel_rfl) (by kernel_rfl) ?_
  simp only [List.take_succ_cons, List.take_zero, List.drop_succ_cons, List.drop_zero]
  repeat (go_big_quiet_step (fail))
  go_big_quiet_step ((go_at_call 66; exact call_x (HSI.out _ (HTB.out _ ⟨_, rfl⟩))))
  repeat (go_big_quiet_step (fail))
  go_big_quiet_step ((go_at_call 65; exact call_x (HNX.out _)))
  repeat (go_big_quiet_step (fail))
  go_big_quiet_step ((go_at_call 67; exact call_x (HCO.out _ (HTB.out _ ⟨_, rfl⟩))))
  repeat (go_big_quiet_step (fail))
  go_big_quiet_step ((go_at_call 65; exact call_x (HNY.out _)))
  repeat (go_big_quiet_step (fail))
  refine wpQuiet_nil ?_
  rintro _ ⟨q, rfl⟩
  have hB5 := HBT.out.x ⟨q, rfl⟩
  have f0 := hB5.cell 0
  have f1 := hB5.cell 1
  have f2 := hB5.cell 2
  have z0 := hB5.frozen 0
  have z1 := hB5.frozen 1
  have z2 := hB5.frozen 2
  have hlt5 := hB5.lt
  simp at f0 f1 f2
  have hX5 : IsX w (xt W q) := HXW.out.trans ⟨q, rfl⟩
  generalize xt W q = V at *
  clear HSI HCO HTB HNX HNY
  go_wp2
  have hX6 : IsX w (((V.setCell ⟨b4, 0, none⟩ (.int .i64 (divR px 1000000))).setCell ⟨b4, 1, none⟩ (.int .i64 (divR py 1000000))).setCell ⟨b4, 2, none⟩ (.int .i64 0)) := by
    have hge : w.heap.size ≤ b4 := by rw [HB4.out]; exact Nat.le_refl _
    exact IsX.setCell (a := ⟨b4, 2, none⟩) (IsX.setCell (a := ⟨b4, 1, none⟩) (IsX.setCell (a := ⟨b4, 0, none⟩) hX5 hge _) hge _) hge _
  have hB6 := ((hB5.set_ 0 (.int .i64 (divR px 1000000))).set_ 1 (.int .i64 (divR py 1000000))).set_ 2 (.int .i64 0)
  generalize ((V.setCell ⟨b4, 0, none⟩ (.int .i64 (divR px 1000000))).setCell ⟨b4, 1, none⟩ (.int .i64 (divR py 1000000))).setCell ⟨b4, 2, none⟩ (.int .i64 0) = V6 at *
  have r0 := hB6.cell 0
  have r1 := hB6.cell 1
  have r2 := hB6.cell 2
  simp at r0 r1 r2
  rw [HP.out, HXY.out.1, HXY.out.2]
  exact bodyPost_ret (v := .agg #[.int .i64 (divR px 1000000), .int .i64 (divR py 1000000), .int .i64 0]) (by simp [results, Tryz.results33, go_sem, r0, r1, r2]) rfl ⟨rfl, hX6⟩

set_option maxHeartbeats 1600000 in
set_option maxRecDepth 100000 in
theorem c_l23Place (A0 : Option Addr) (c0 : Nat) (xs : List RingD) (k : Int) (w : World) (hv : ringsB xs = true) (h0 : 0 ≤ k) (h1 : k < sumCount xs) (hn : xs.length ≤ 1099511627776) (hA : Rd RingD.cells 5 w A0 xs) :
    Calls Tryz.prog 60 #[.slice A0 xs.length c0, .int .i64 k] w fun e w' => e = .returned (.agg #[.int .i64 (placeZ xs k).1, .int .i64 (placeZ xs k).2, .int .i64 0]) ∧ IsX w w' := by
  have hs1 := (rings_len hv).2
  have hcn := rings_cnt hv
  obtain ⟨n0, hlt, n1⟩ := seatN_bd hcn k h0 h1
  have hok := rings_ok hv _ (List.getElem_mem hlt)
  have HP := hide (placeZ_at hlt)
  go_enter Tryz.func60, Tryz.ntmps60
  go_wp2_with fail
  refine (c_l23Split A0 c0 xs k _ hn hcn h0 h1 (by omega) (hA.x ((IsX.refl w).alloc _))).mono ?_
  rintro e w1 ⟨rfl, hx⟩
  have hA1 := (hA.x ((IsX.refl w).alloc _)).x hx
  obtain ⟨b, off, rfl, hb, c0', c1', c2', c3', c4'⟩ := RingD.rd hA1 (show xs[seatI xs k]? = some xs[seatI xs k] from List.getElem?_eq_getElem _)
  have hI := hlt
  generalize hsn : seatN xs k = sn at *
  generalize hrg : xs[seatI xs k] = rg at *
  generalize hsi : seatI xs k = si at *
  obtain ⟨o0, o1, o2, o3, o4, o5, o6, o7, o8, o9, o10⟩ := hok
  have m1 : 0 ≤ sn * rg.Step ∧ sn * rg.Step ≤ 5400000 := by
    have := mul_bd (d := rg.Step) (D := 90000) (r := sn) (Rr := 60) (by omega) (by omega) n0 (by omega) (by omega)
    rw [Int.mul_comm sn]
    have h2 : 0 ≤ rg.Step * sn := Int.mul_nonneg (by omega) n0
    omega
  have hang : -1000000000 ≤ rg.From + sn * rg.Step ∧ rg.From + sn * rg.Step ≤ 1000000000 := by omega
  have hang0 : 0 ≤ rg.From + sn * rg.Step := by omega
  have hz : 0 ≤ seatAng rg sn ∧ seatAng rg sn < 360000 := by unfold seatAng; omega
  have rs := rmul_small (r := rg.Radius) (by omega) o1 (sinA_small hz.1 hz.2)
  have rc := rmul_small (r := rg.Radius) (by omega) o1 (cosA_small hz.1)
  have HXY := hide (show seatX rg sn = divR (rg.Radius * sinA (seatAng rg sn)) 1000000 ∧ seatY rg sn = divR (rg.Radius * cosA (seatAng rg sn)) 1000000 from ⟨rfl, rfl⟩)
  have HAN := hide (show (rg.From + sn * rg.Step) % 360000 = seatAng rg sn from rfl)
  have HSI := hide (fun V => c_l02Sine (seatAng rg sn) V (by omega))
  have HCO := hide (fun V => c_l02Cosine (seatAng rg sn) V (by omega))
  have HNO := hide (fun V => c_l02Normal (rg.From + sn * rg.Step) V hang)
  rw [HAN.out] at HNO
  rw [show seatAng rg sn % 360000 = seatAng rg sn by omega] at HSI HCO
  have hBt : Blk w1 w.heap.size 29 #[.int .i64 0, .int .i64 0, .int .i64 0] := (Blk.new w _ _).x hx
  have hXW : IsX w w1 := ((IsX.refl w).alloc _).trans hx
  obtain ⟨b4, hb4⟩ : ∃ b4, b4 = w.heap.size := ⟨_, rfl⟩
  rw [← hb4] at hBt ⊢
  have HB4 := hide hb4
  have HXW := hide hXW
  have HBT := hide hBt
  generalize seatAng rg sn = an at *
  generalize hsv : sinA an = sv at *
  generalize hcv : cosA an = cv at *
  obtain ⟨px, hpx⟩ : ∃ px, rg.Radius * sv = px := ⟨_, rfl⟩
  obtain ⟨py, hpy⟩ : ∃ py, rg.Radius * cv = py := ⟨_, rfl⟩
  rw [hpx, hpy] at HXY
  rw [hpx] at rs
  rw [hpy] at rc
  have HNX := hide (fun V => c_l01Div px 1000000 V (by omega) (by omega))
  have HNY := hide (fun V => c_l01Div py 1000000 V (by omega) (by omega))
  have hdx := divR_bd (a := px) (b := 1000000) (by omega) (by omega)
  clear hA hA1 hx hXW hsv hcv hb4 hBt hv h0 h1 hn hs1 hcn hsn hsi hrg HAN o2 o3 o8 o9 o10
  go_wp2_with fail
  refine wp_region_x (by kernel_rfl) (by kernel_rfl) ?_
  repeat (go_big_quiet_step (fail))
  go_big_quiet_step ((go_at_call 91; exact call_q (HNO.out _)))
  repeat (go_big_quiet_step (fail))
  refine wpQuiet_nil ?_
  rintro _ ⟨q0, rfl⟩
  have HXW' := hide (HXW.out.trans ⟨q0, rfl⟩)
  have HBT' := hide (HBT.out.x ⟨q0, rfl⟩)
  have hx0 : IsX w1 (xt w1 q0) := ⟨q0, rfl⟩
  replace c0' := keep hx0 hb c0'
  replace hb := Nat.lt_of_lt_of_le hb hx0.size
  clear c1' c2' c3' c4' HXW HBT hx0
  generalize xt w1 q0 = W at *
  go_wp2_with fail
  refine wp_region_x_tail 19 (by kernel_rfl) (by kernel_rfl) ?_
  simp only [List.take_succ_cons, List.take_zero, List.drop_succ_cons, List.drop_zero]
  repeat (go_big_quiet_step (fail))
  go_big_quiet_step ((go_at_call 93; exact call_x (HSI.out _)))
  repeat (go_big_quiet_step (fail))
  go_big_quiet_step ((go_at_call 92; exact call_q (HNX.out _)))
  repeat (go_big_quiet_step (fail))
  go_big_quiet_step ((go_at_call 94; exact call_x (HCO.out _)))
  repeat (go_big_quiet_step (fail))
  go_big_quiet_step ((go_at_call 92; exact call_q (HNY.out _)))
  repeat (go_big_quiet_step (fail))
  refine wpQuiet_nil ?_
  rintro _ ⟨q, rfl⟩
  have hB5 := HBT'.out.x ⟨q, rfl⟩
  have f0 := hB5.cell 0
  have f1 := hB5.cell 1
  have f2 := hB5.cell 2
  have z0 := hB5.frozen 0
  have z1 := hB5.frozen 1
  have z2 := hB5.frozen 2
  have hlt5 := hB5.lt
  simp at f0 f1 f2
  have hX5 : IsX w (xt W q) := HXW'.out.trans ⟨q, rfl⟩
  generalize xt W q = V at *
  clear HSI HCO HNX HNY HNO
  go_wp2
  have hX6 : IsX w (((V.setCell ⟨b4, 0, none⟩ (.int .i64 (divR px 1000000))).setCell ⟨b4, 1, none⟩ (.int .i64 (divR py 1000000))).setCell ⟨b4, 2, none⟩ (.int .i64 0)) := by
    have hge : w.heap.size ≤ b4 := by rw [HB4.out]; exact Nat.le_refl _
    exact IsX.setCell (a := ⟨b4, 2, none⟩) (IsX.setCell (a := ⟨b4, 1, none⟩) (IsX.setCell (a := ⟨b4, 0, none⟩) hX5 hge _) hge _) hge _
  have hB6 := ((hB5.set_ 0 (.int .i64 (divR px 1000000))).set_ 1 (.int .i64 (divR py 1000000))).set_ 2 (.int .i64 0)
  generalize ((V.setCell ⟨b4, 0, none⟩ (.int .i64 (divR px 1000000))).setCell ⟨b4, 1, none⟩ (.int .i64 (divR py 1000000))).setCell ⟨b4, 2, none⟩ (.int .i64 0) = V6 at *
  have r0 := hB6.cell 0
  have r1 := hB6.cell 1
  have r2 := hB6.cell 2
  simp at r0 r1 r2
  rw [HP.out, HXY.out.1, HXY.out.2]
  exact bodyPost_ret (v := .agg #[.int .i64 (divR px 1000000), .int .i64 (divR py 1000000), .int .i64 0]) (by simp [results, Tryz.results60, go_sem, r0, r1, r2]) rfl ⟨rfl, hX6⟩

def placeW (xs : List RingD) (k : Int) : Int × Int := if askR xs k = 0 then placeZ xs k else (0, 0)
def placeV (p : Int × Int) : Value := .agg #[.int .i64 p.1, .int .i64 p.2, .int .i64 0]

set_option maxHeartbeats 800000 in
set_option maxRecDepth 100000 in
theorem i_SeatPlace (A0 : Option Addr) (c0 : Nat) (xs0 : List RingD) (n1 : Int) (w : World) (hn0 : xs0.length ≤ 1099511627776) (hw0 : ∀ x ∈ xs0, x.wf) (hA0 : Rd RingD.cells 5 w A0 xs0) (hb1 : intWf n1) (HTAB : ∀ W, IsX w W → sinTab W) :
    Calls Tryz.prog 8 #[.slice A0 xs0.length c0, .int .i64 n1] w fun e w' => e = .returned (.tuple #[placeV (placeW xs0 n1), .int .i64 (askR xs0 n1)]) ∧ IsX w w' := by
  have hx0 : IsX w (w.alloc (.cells #[.int .i64 0, .int .i64 0, .int .i64 0] 29)) := (IsX.refl w).alloc _
  have hB0 : Blk (w.alloc (.cells #[.int .i64 0, .int .i64 0, .int .i64 0] 29)) w.heap.size 29 #[.int .i64 0, .int .i64 0, .int .i64 0] := Blk.new _ _ _
  by_cases hz : askR xs0 n1 = 0
  case neg =>
    have HZ := hide (show placeW xs0 n1 = (0, 0) by simp [placeW, hz])
    have hzb : (askR xs0 n1 != 0) = true := by rw [bne_iff_ne]; exact hz
    go_enter Tryz.func8, Tryz.ntmps8
    go_wp2_with fail
    refine (c_checkSeat A0 c0 xs0 n1 _ hn0 hw0 (hA0.x hx0)).mono ?_
    rintro e w1 ⟨rfl, hx⟩
    have hB := hB0.x hx
    have hX := hx0.trans hx
    have f0 := hB.cell 0
    have f1 := hB.cell 1
    have f2 := hB.cell 2
    have z0 := hB.frozen 0
    have z1 := hB.frozen 1
    have z2 := hB.frozen 2
    have hlt5 := hB.lt
    simp at f0 f1 f2
    go_wp2_with fail
    have hX6 : IsX w (((w1.setCell ⟨w.heap.size, 0, none⟩ (.int .i64 0)).setCell ⟨w.heap.size, 1, none⟩ (.int .i64 0)).setCell ⟨w.heap.size, 2, none⟩ (.int .i64 0)) :=
      IsX.setCell (a := ⟨w.heap.size, 2, none⟩) (IsX.setCell (a := ⟨w.heap.size, 1, none⟩) (IsX.setCell (a := ⟨w.heap.size, 0, none⟩) hX (Nat.le_refl _) _) (Nat.le_refl _) _) (Nat.le_refl _) _
    have hB6 := ((hB.set_ 0 (.int .i64 0)).set_ 1 (.int .i64 0)).set_ 2 (.int .i64 0)
    clear f0 f1 f2 z0 z1 z2
    generalize ((w1.setCell ⟨w.heap.size, 0, none⟩ (.int .i64 0)).setCell ⟨w.heap.size, 1, none⟩ (.int .i64 0)).setCell ⟨w.heap.size, 2, none⟩ (.int .i64 0) = V6 at *
    have r0 := hB6.cell 0
    have r1 := hB6.cell 1
    have r2 := hB6.cell 2
    simp at r0 r1 r2
    rw [HZ.out]
    exact bodyPost_ret (v := .tuple #[placeV (0, 0), .int .i64 (askR xs0 n1)]) (by simp [results, Tryz.results8, go_sem, r0, r1, r2, placeV]) rfl ⟨rfl, hX6⟩
  have hv : ringsB xs0 = true := by
    cases h : ringsB xs0
    · rw [askR_bad h] at hz; omega
    · rfl
  have hr : inB n1 0 (sumCount xs0 - 1) = true := by
    cases h : inB n1 0 (sumCount xs0 - 1)
    · rw [askR_range hv h] at hz; omega
    · rfl
  have HZ := hide (show placeW xs0 n1 = placeZ xs0 n1 by simp [placeW, hz])
  have HZ0 := hide hz
  have hb := inB_true.1 hr
  clear hr hz
  · go_enter Tryz.func8, Tryz.ntmps8
    go_wp2_with fail
    refine (c_checkSeat A0 c0 xs0 n1 _ hn0 hw0 (hA0.x hx0)).mono ?_
    rintro e w1 ⟨rfl, hx⟩
    rw [HZ0.out]
    go_wp2_with fail
    refine (c_seatPlace A0 c0 xs0 n1 w1 hv (by omega) (by omega) hn0 (hA0.x (hx0.trans hx)) (fun V hV => HTAB V ((hx0.trans hx).trans hV))).mono ?_
    rintro e w2 ⟨rfl, hx2⟩
    have hB' := (hB0.x hx).x hx2
    have hX := (hx0.trans hx).trans hx2
    generalize placeZ xs0 n1 = pz at *
    obtain ⟨px, py⟩ := pz
    have f0 := hB'.cell 0
    have f1 := hB'.cell 1
    have f2 := hB'.cell 2
    have z0 := hB'.frozen 0
    have z1 := hB'.frozen 1
    have z2 := hB'.frozen 2
    have hlt5 := hB'.lt
    simp at f0 f1 f2
    go_wp2_with fail
    have hX6 : IsX w (((w2.setCell ⟨w.heap.size, 0, none⟩ (.int .i64 px)).setCell ⟨w.heap.size, 1, none⟩ (.int .i64 py)).setCell ⟨w.heap.size, 2, none⟩ (.int .i64 0)) :=
      IsX.setCell (a := ⟨w.heap.size, 2, none⟩) (IsX.setCell (a := ⟨w.heap.size, 1, none⟩) (IsX.setCell (a := ⟨w.heap.size, 0, none⟩) hX (Nat.le_refl _) _) (Nat.le_refl _) _) (Nat.le_refl _) _
    have hB6 := ((hB'.set_ 0 (.int .i64 px)).set_ 1 (.int .i64 py)).set_ 2 (.int .i64 0)
    clear f0 f1 f2 z0 z1 z2
    generalize ((w2.setCell ⟨w.heap.size, 0, none⟩ (.int .i64 px)).setCell ⟨w.heap.size, 1, none⟩ (.int .i64 py)).setCell ⟨w.heap.size, 2, none⟩ (.int .i64 0) = V6 at *
    have r0 := hB6.cell 0
    have r1 := hB6.cell 1
    have r2 := hB6.cell 2
    simp at r0 r1 r2
    rw [HZ.out, HZ0.out]
    exact bodyPost_ret (v := .tuple #[placeV (px, py), .int .i64 0]) (by simp [results, Tryz.results8, go_sem, r0, r1, r2, placeV]) rfl ⟨rfl, hX6⟩

end Go.Proofs.YtfcfgkkkepifhaaGreatDoor
