/- SeatScore of the reference and of the program. Conditions: lists no longer than 2^40; the table of sines as the program's text lays it. -/
import Derived.Test.YtfcfgkkkepifhaaGreatDoorDomeWS
namespace Go.Proofs.YtfcfgkkkepifhaaGreatDoor
set_option linter.unusedVariables false
open Go.RowKit

theorem scoreW_bad {x : DomeD} {xs : List RingD} {k : Int} (h : x.okB = false) : scoreW x xs k = 0 ∧ scoreK x xs k = 1 := by simp [scoreW, scoreK, h]
theorem scoreW_ask {x : DomeD} {xs : List RingD} {k : Int} (h : x.okB = true) (h2 : askR xs k ≠ 0) : scoreW x xs k = 0 ∧ scoreK x xs k = askR xs k := by simp [scoreW, scoreK, h, h2]
theorem scoreW_ok {x : DomeD} {xs : List RingD} {k : Int} (h : x.okB = true) (h2 : askR xs k = 0) : scoreW x xs k = scoreOf x.Radius xs k ∧ scoreK x xs k = 0 := by simp [scoreW, scoreK, h, h2]
theorem ask_zero {xs : List RingD} {k : Int} (hz : askR xs k = 0) : ringsB xs = true ∧ 0 ≤ k ∧ k < sumCount xs := by
  have hv : ringsB xs = true := by
    cases h : ringsB xs
    · rw [askR_bad h] at hz; omega
    · rfl
  have hr : inB k 0 (sumCount xs - 1) = true := by
    cases h : inB k 0 (sumCount xs - 1)
    · rw [askR_range hv h] at hz; omega
    · rfl
  have := inB_true.1 hr
  exact ⟨hv, by omega, by omega⟩

set_option maxHeartbeats 6400000 in
set_option maxRecDepth 100000 in
theorem s_SeatScore (x : DomeD) (A0 : Option Addr) (c0 : Nat) (xs0 : List RingD) (n1 : Int) (w : World) (hx : x.wf) (hn0 : xs0.length ≤ 1099511627776) (hw0 : ∀ y ∈ xs0, y.wf) (hA0 : Rd RingD.cells 5 w A0 xs0) (hb1 : intWf n1) :
    Calls Tryz.prog 27 #[.agg #[.string x.Name, .int .i64 x.Radius, .int .i64 x.Tilt], .slice A0 xs0.length c0, .int .i64 n1] w fun e w' => e = .returned (.tuple #[.int .i64 (scoreW x xs0 n1), .int .i64 (scoreK x xs0 n1)]) ∧ IsX w w' := by
  have hsz : x.Name.size ≤ maxLen := by obtain ⟨h1, _⟩ := hx; exact h1
  obtain ⟨W0, hW0⟩ : ∃ W, W = (w.alloc (.cells #[.string x.Name, .int .i64 x.Radius, .int .i64 x.Tilt] 38)) := ⟨_, rfl⟩
  obtain ⟨BD, hBD⟩ : ∃ B, B = w.heap.size := ⟨_, rfl⟩
  have HBD := hide (show Blk W0 BD 38 #[.string x.Name, .int .i64 x.Radius, .int .i64 x.Tilt] from by rw [hW0, hBD]; have h := (Blk.new w 38 #[.string x.Name, .int .i64 x.Radius, .int .i64 x.Tilt]); simpa using h)
  have HX0 := hide (show IsX w W0 from by rw [hW0]; exact (IsX.refl w).alloc _)
  have HDC := hide (show ∀ V, IsX W0 V → V.cell? ⟨BD, 0, none⟩ = some (.string x.Name) ∧ V.cell? ⟨BD, 1, none⟩ = some (.int .i64 x.Radius) ∧ V.cell? ⟨BD, 2, none⟩ = some (.int .i64 x.Tilt) ∧ BD < V.heap.size from fun V hV => ⟨(HBD.out.x hV).cell 0, (HBD.out.x hV).cell 1, (HBD.out.x hV).cell 2, (HBD.out.x hV).lt⟩)
  have HOK := hide (c_l09Ok x BD 0 W0 hsz (by simpa using (HDC.out _ (IsX.refl _)).1) (by simpa using (HDC.out _ (IsX.refl _)).2.1) (by simpa using (HDC.out _ (IsX.refl _)).2.2.1))
  have HAS := hide (c_l23Ask A0 c0 xs0 n1 W0 hn0 hw0 (hA0.x HX0.out))
  cases hok : x.okB
  · have HZ := hide (scoreW_bad (xs := xs0) (k := n1) hok)
    rw [hok] at HOK
    go_enter Tryz.func27, Tryz.ntmps27
    go_wp2_with fail
    (try simp only [World.size_alloc, Nat.add_assoc, Nat.reduceAdd])
    rw [← hW0]
    simp only [← hBD]
    clear hW0 hBD
    refine HOK.out.mono ?_
    rintro e w1 ⟨rfl, rfl⟩
    go_wp2_with fail
    go_ret2
    exact ⟨by rw [HZ.out.1, HZ.out.2]; rfl, HX0.out⟩
  rw [hok] at HOK
  by_cases hz : askR xs0 n1 = 0
  case neg =>
    have HZ := hide (scoreW_ask hok hz)
    obtain ⟨ak, hak⟩ : ∃ a, a = askR xs0 n1 := ⟨_, rfl⟩
    rw [← hak] at HAS HZ hz
    have hzb : (ak != 0) = true := by rw [bne_iff_ne]; exact hz
    clear hz hak
    go_enter Tryz.func27, Tryz.ntmps27
    go_wp2_with fail
    (try simp only [World.size_alloc, Nat.add_assoc, Nat.reduceAdd])
    rw [← hW0]
    simp only [← hBD]
    clear hW0 hBD
    refine HOK.out.mono ?_
    rintro e w1 ⟨rfl, rfl⟩
    go_wp2_with fail
    refine HAS.out.mono ?_
    rintro e w2 ⟨rfl, hx2⟩
    have HX2 := hide (HX0.out.trans hx2)
    clear hx2
    go_wp2_with fail
    go_ret2
    exact ⟨by rw [HZ.out.1, HZ.out.2]; rfl, HX2.out⟩
  have HZ := hide (scoreW_ok hok hz)
  obtain ⟨hv, h0, h1⟩ := ask_zero hz
  obtain ⟨hR0, hR1, _⟩ := dome_ok hok
  have hpb := place_bd hv h0 h1
  have HPL := hide (fun V (hV : IsX w V) => c_l23Place A0 c0 xs0 n1 V hv h0 h1 hn0 (hA0.x hV))
  have HSC := hide (fun V (hV : IsX W0 V) => c_l23Score BD x.Radius (placeP (placeZ xs0 n1)) V ⟨hR0, hR1⟩ ⟨by have := hpb.1; omega, by have := hpb.2.1; omega, by have := hpb.2.2; omega⟩ (HDC.out V hV).2.2.2 (HDC.out V hV).2.1)
  rw [hz] at HAS
  rw [show scoreZ x.Radius (placeP (placeZ xs0 n1)) = scoreOf x.Radius xs0 n1 from rfl] at HSC
  generalize scoreOf x.Radius xs0 n1 = sc at *
  generalize placeZ xs0 n1 = pp at *
  obtain ⟨px, py⟩ := pp
  simp only [placeP_val] at HPL HSC
  clear hpb hv h0 h1 hz hA0 hw0 hn0 hok
  go_enter Tryz.func27, Tryz.ntmps27
  go_wp2_with fail
  (try simp only [World.size_alloc, Nat.add_assoc, Nat.reduceAdd])
  rw [← hW0]
  simp only [← hBD]
  clear hW0 hBD
  refine HOK.out.mono ?_
  rintro e w1 ⟨rfl, rfl⟩
  go_wp2_with fail
  refine HAS.out.mono ?_
  rintro e w2 ⟨rfl, hx2⟩
  have HX2 := hide (HX0.out.trans hx2)
  have HX02 := hide hx2
  clear hx2
  go_wp2_with fail
  refine (HPL.out _ HX2.out).mono ?_
  rintro e w3 ⟨rfl, hx3⟩
  have HX3 := hide (HX2.out.trans hx3)
  have HX03 := hide (HX02.out.trans hx3)
  clear hx3
  go_wp2_with fail
  refine (HSC.out _ HX03.out).mono ?_
  rintro e w4 ⟨rfl, hx4⟩
  have HX4 := hide (HX3.out.trans hx4)
  clear hx4
  go_wp2_with fail
  go_ret2
  exact ⟨by rw [HZ.out.1, HZ.out.2]; rfl, HX4.out⟩

set_option maxHeartbeats 6400000 in
set_option maxRecDepth 100000 in
theorem i_SeatScore (x : DomeD) (A0 : Option Addr) (c0 : Nat) (xs0 : List RingD) (n1 : Int) (w : World) (hx : x.wf) (hn0 : xs0.length ≤ 1099511627776) (hw0 : ∀ y ∈ xs0, y.wf) (hA0 : Rd RingD.cells 5 w A0 xs0) (hb1 : intWf n1) (HTAB : ∀ W, IsX w W → sinTab W) :
    Calls Tryz.prog 12 #[.agg #[.string x.Name, .int .i64 x.Radius, .int .i64 x.Tilt], .slice A0 xs0.length c0, .int .i64 n1] w fun e w' => e = .returned (.tuple #[.int .i64 (scoreW x xs0 n1), .int .i64 (scoreK x xs0 n1)]) ∧ IsX w w' := by
  have hsz : x.Name.size ≤ maxLen := by obtain ⟨h1, _⟩ := hx; exact h1
  obtain ⟨W0, hW0⟩ : ∃ W, W = (w.alloc (.cells #[.string x.Name, .int .i64 x.Radius, .int .i64 x.Tilt] 38)) := ⟨_, rfl⟩
  obtain ⟨BD, hBD⟩ : ∃ B, B = w.heap.size := ⟨_, rfl⟩
  have HBD := hide (show Blk W0 BD 38 #[.string x.Name, .int .i64 x.Radius, .int .i64 x.Tilt] from by rw [hW0, hBD]; have h := (Blk.new w 38 #[.string x.Name, .int .i64 x.Radius, .int .i64 x.Tilt]); simpa using h)
  have HX0 := hide (show IsX w W0 from by rw [hW0]; exact (IsX.refl w).alloc _)
  have HVD := hide (fun (V : World) => c_ValidDome x V hsz)
  have HVR := hide (fun V (hV : IsX w V) => c_ValidRings A0 c0 xs0 V hn0 hw0 (hA0.x hV))
  have HAS := hide (fun V (hV : IsX w V) => c_checkSeat A0 c0 xs0 n1 V hn0 hw0 (hA0.x hV))
  cases hok : x.okB
  · have HZ := hide (scoreW_bad (xs := xs0) (k := n1) hok)
    rw [hok] at HVD
    go_enter Tryz.func12, Tryz.ntmps12
    go_wp2_with fail
    (try simp only [World.size_alloc, Nat.add_assoc, Nat.reduceAdd])
    rw [← hW0]
    simp only [← hBD]
    clear hW0 hBD
    refine (HVD.out _).mono ?_
    rintro e w1 ⟨rfl, hx1⟩
    have HX1 := hide (HX0.out.trans hx1)
    replace HBD := hide (HBD.out.x hx1)
    clear hx1
    go_wp2_with fail
    go_ret2
    exact ⟨by rw [HZ.out.1, HZ.out.2]; rfl, HX1.out⟩
  rw [hok] at HVD
  cases hv : ringsB xs0
  · have HZ := hide (scoreW_ask hok (show askR xs0 n1 ≠ 0 by rw [askR_bad hv]; omega))
    rw [askR_bad hv] at HZ
    rw [hv] at HVR
    go_enter Tryz.func12, Tryz.ntmps12
    go_wp2_with fail
    (try simp only [World.size_alloc, Nat.add_assoc, Nat.reduceAdd])
    rw [← hW0]
    simp only [← hBD]
    clear hW0 hBD
    refine (HVD.out _).mono ?_
    rintro e w1 ⟨rfl, hx1⟩
    have HX1 := hide (HX0.out.trans hx1)
    replace HBD := hide (HBD.out.x hx1)
    clear hx1
    go_wp2_with fail
    refine (HVR.out _ HX1.out).mono ?_
    rintro e w2 ⟨rfl, hx2⟩
    have HX2 := hide (HX1.out.trans hx2)
    replace HBD := hide (HBD.out.x hx2)
    clear hx2
    go_wp2_with fail
    go_ret2
    exact ⟨by rw [HZ.out.1, HZ.out.2]; rfl, HX2.out⟩
  rw [hv] at HVR
  by_cases hz : askR xs0 n1 = 0
  case neg =>
    have HZ := hide (scoreW_ask hok hz)
    obtain ⟨ak, hak⟩ : ∃ a, a = askR xs0 n1 := ⟨_, rfl⟩
    rw [← hak] at HAS HZ hz
    have hzb : (ak != 0) = true := by rw [bne_iff_ne]; exact hz
    clear hz hak
    go_enter Tryz.func12, Tryz.ntmps12
    go_wp2_with fail
    (try simp only [World.size_alloc, Nat.add_assoc, Nat.reduceAdd])
    rw [← hW0]
    simp only [← hBD]
    clear hW0 hBD
    refine (HVD.out _).mono ?_
    rintro e w1 ⟨rfl, hx1⟩
    have HX1 := hide (HX0.out.trans hx1)
    replace HBD := hide (HBD.out.x hx1)
    clear hx1
    go_wp2_with fail
    refine (HVR.out _ HX1.out).mono ?_
    rintro e w2 ⟨rfl, hx2⟩
    have HX2 := hide (HX1.out.trans hx2)
    replace HBD := hide (HBD.out.x hx2)
    clear hx2
    go_wp2_with fail
    refine (HAS.out _ HX2.out).mono ?_
    rintro e w3 ⟨rfl, hx3⟩
    have HX3 := hide (HX2.out.trans hx3)
    replace HBD := hide (HBD.out.x hx3)
    clear hx3
    go_wp2_with fail
    go_ret2
    exact ⟨by rw [HZ.out.1, HZ.out.2]; rfl, HX3.out⟩
  have HZ := hide (scoreW_ok hok hz)
  obtain ⟨_, h0, h1⟩ := ask_zero hz
  have HSC := hide (fun V (hV : IsX w V) => c_seatScore x A0 c0 xs0 n1 V hok hv h0 h1 hn0 (hA0.x hV) (fun U hU => HTAB U (hV.trans hU)))
  rw [hz] at HAS
  generalize scoreOf x.Radius xs0 n1 = sc at *
  simp only [domV] at HSC
  clear hv h0 h1 hz hA0 hw0 hn0 hok HTAB
  go_enter Tryz.func12, Tryz.ntmps12
  go_wp2_with fail
  (try simp only [World.size_alloc, Nat.add_assoc, Nat.reduceAdd])
  rw [← hW0]
  simp only [← hBD]
  clear hW0 hBD
  refine (HVD.out _).mono ?_
  rintro e w1 ⟨rfl, hx1⟩
  have HX1 := hide (HX0.out.trans hx1)
  replace HBD := hide (HBD.out.x hx1)
  clear hx1
  go_wp2_with fail
  refine (HVR.out _ HX1.out).mono ?_
  rintro e w2 ⟨rfl, hx2⟩
  have HX2 := hide (HX1.out.trans hx2)
  replace HBD := hide (HBD.out.x hx2)
  clear hx2
  go_wp2_with fail
  refine (HAS.out _ HX2.out).mono ?_
  rintro e w3 ⟨rfl, hx3⟩
  have HX3 := hide (HX2.out.trans hx3)
  replace HBD := hide (HBD.out.x hx3)
  clear hx3
  have d0 := HBD.out.cell 0
  have d1 := HBD.out.cell 1
  have d2 := HBD.out.cell 2
  simp at d0 d1 d2
  have dl := HBD.out.lt
  go_wp2_with fail
  refine (HSC.out _ HX3.out).mono ?_
  rintro e w4 ⟨rfl, hx4⟩
  have HX4 := hide (HX3.out.trans hx4)
  clear hx4
  go_wp2_with fail
  go_ret2
  exact ⟨by rw [HZ.out.1, HZ.out.2]; rfl, HX4.out⟩

end Go.Proofs.YtfcfgkkkepifhaaGreatDoor
