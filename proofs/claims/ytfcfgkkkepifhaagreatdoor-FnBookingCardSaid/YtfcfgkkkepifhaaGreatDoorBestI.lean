/- BestBlock of the program. Conditions: lists no longer than 2^40; the table of sines as the program's text lays it. -/
import Derived.Test.YtfcfgkkkepifhaaGreatDoorBestZ
import Derived.Test.YtfcfgkkkepifhaaGreatDoorBlocksAll
namespace Go.Proofs.YtfcfgkkkepifhaaGreatDoor
set_option linter.unusedVariables false
open Go.RowKit

theorem flat_ints (us : List Int) : us.flatMap intC = us.map (Value.int .i64) := by
  induction us with
  | nil => rfl
  | cons u us ih => rw [List.flatMap_cons, ih]; rfl
def intArr (us : List Int) : Array Value := (us.flatMap intC).toArray
theorem ownsRow_far {w : World} {base e size n g j : Nat} {v : Value} {L : List Value} (h : w.ownsRow base e size v n L) (hlt : g < base) (u : Value) : (w.setCell ⟨g, j, none⟩ u).ownsRow base e size v n L :=
by
  refine ⟨h.1, ?_⟩
  rcases h.2 with h2 | ⟨g', cap, cur, hv, hb, hh, r⟩
  · exact .inl h2
  · exact .inr ⟨g', cap, cur, hv, hb, (Below.heap_setCell w ⟨g, j, none⟩ u g' (by show g' ≠ g; omega)).trans hh, r⟩
theorem intArr_len (us : List Int) : (intArr us).size = us.length := by simp [intArr, flat_ints]
theorem intArr_get {us : List Int} {j : Nat} {v : Int} (h : us[j]? = some v) : (intArr us)[j]? = some (.int .i64 v) := by simp [intArr, flat_ints, h]
theorem intArr_set (us : List Int) (j : Nat) (v : Int) : (intArr us).setIfInBounds j (.int .i64 v) = intArr (us.set j v) := by simp [intArr, flat_ints, List.map_set]
theorem made_ints (n : Nat) : madeCells (Value.int .i64 0).cells (n * 1) = intArr (List.replicate n 0) := by
  have e : (Value.int .i64 0).cells = #[.int .i64 0] := rfl
  rw [e, Nat.mul_one]
  apply Array.toList_inj.1
  rw [toList_madeCells_one]
  simp [intArr, flat_ints]
theorem blk_set {w : World} {g t j : Nat} {us : List Int} (h : Blk w g t (intArr us)) (v : Int) : Blk (w.setCell ⟨g, j, none⟩ (.int .i64 v)) g t (intArr (us.set j v)) := by
  have := h.set_ j (.int .i64 v)
  rwa [intArr_set] at this
theorem make_ints (n : Nat) (hn : n ≤ 1099511627776) (W : World) :
    (Instr.makeSlice 46 (.int .i64 (n : Int)) (.int .i64 (n : Int))).run Tryz.prog W = .ok (.slice (some ⟨W.heap.size, 0, none⟩) n n) (W.alloc (.cells (intArr (List.replicate n 0)) 2)) := by
  obtain ⟨i0, hi0, hz0, hz1, hz2⟩ := info_parts Int64_info
  have h := run_make_rowN (P := Tryz.prog) 46 2 i0 _ Tryz.underlying46 hi0 hz0 .i64 .i64 n n (Nat.le_refl _) (by rw [hz2]; omega) (by omega) W
  rw [hz1, made_ints] at h
  exact h

/-- the best block so far, as the program's slots hold it -/
def BestSi (R : Int) (xs : List RingD) (n base : Nat) (wr : World) (bv : Value) (most : Int) (o : Option Nat) : Prop :=
  match o with
  | none => bv = .slice none 0 0 ∧ most = -1
  | some b => (∃ g c, bv = .slice (some ⟨g, 0, none⟩) n c ∧ Own intC 1 2 wr base (.slice (some ⟨g, 0, none⟩) n c) (blockL (b : Int) n)) ∧ most = fS R xs n b
theorem open_open {ps : List Int} {m y : Nat} (hy : y < m) (h : hasB ps (y : Int) = false) : ∃ i : Nat, ∃ hi : i < (openTo ps m).length, (openTo ps m)[i] = (y : Int) :=
  List.getElem_of_mem (open_mem.2 ⟨by omega, h⟩)
theorem block_free {xs : List RingD} {ps : List Int} {n j : Nat} {k : Int} (h : blockB xs ps n k = true) (hj : j < n) : hasB ps (k + (j : Int)) = false := by
  simp only [blockB, Bool.and_eq_true, decide_eq_true_eq, List.all_eq_true, List.mem_range, Bool.not_eq_true'] at h
  exact h.2 j hj
theorem block_end {xs : List RingD} {ps : List Int} {n m k : Nat} (hv : ringsB xs = true) (hm : sumCount xs = (m : Int)) (hn : 1 ≤ n) (hk : k < m) (h : blockB xs ps n (k : Int) = true) : k + n ≤ m := by
  simp only [blockB, Bool.and_eq_true, decide_eq_true_eq] at h
  have := (ring_end (rings_cnt hv) (k := (k : Int)) (by omega) (by rw [hm]; omega) hn h.1).1
  rw [hm] at this
  omega

set_option maxHeartbeats 6400000 in
set_option maxRecDepth 100000 in
theorem i_BestBlock (x : DomeD) (A0 : Option Addr) (c0 : Nat) (xs0 : List RingD) (A1 : Option Addr) (c1 : Nat) (xs1 : List Int) (n2 : Int) (w : World) (hx : x.wf) (hn0 : xs0.length ≤ 1099511627776) (hw0 : ∀ y ∈ xs0, y.wf) (hA0 : Rd RingD.cells 5 w A0 xs0) (hn1 : xs1.length ≤ 1099511627776) (hw1 : ∀ y ∈ xs1, intWf y) (hA1 : Rd intC 1 w A1 xs1) (hb2 : intWf n2) (HTAB : ∀ W, IsX w W → sinTab W) :
    Calls Tryz.prog 22 #[.agg #[.string x.Name, .int .i64 x.Radius, .int .i64 x.Tilt], .slice A0 xs0.length c0, .slice A1 xs1.length c1, .int .i64 n2] w (Sl3B (bestZ x xs0 xs1 n2) (bestM x xs0 xs1 n2) (bestC x xs0 xs1 n2) w) := by
  have hsz : x.Name.size ≤ maxLen := by obtain ⟨h1, _⟩ := hx; exact h1
  obtain ⟨W0, hW0⟩ : ∃ W, W = (w.alloc (.cells #[.string x.Name, .int .i64 x.Radius, .int .i64 x.Tilt] 38)) := ⟨_, rfl⟩
  obtain ⟨BD, hBD⟩ : ∃ B, B = w.heap.size := ⟨_, rfl⟩
  have HBD := hide (show Blk W0 BD 38 #[.string x.Name, .int .i64 x.Radius, .int .i64 x.Tilt] from by rw [hW0, hBD]; have h := (Blk.new w 38 #[.string x.Name, .int .i64 x.Radius, .int .i64 x.Tilt]); simpa using h)
  have HX0 := hide (show IsX w W0 from by rw [hW0]; exact (IsX.refl w).alloc _)
  have HVD := hide (fun (V : World) => c_ValidDome x V hsz)
  have HCB := hide (fun V (hV : IsX w V) => c_checkBlock A0 c0 xs0 A1 c1 xs1 n2 V hn0 hw0 (hA0.x hV) hn1 hw1 (hA1.x hV) hb2)
  cases hok : x.okB
  · have HZ := hide (best_bad (ps := xs1) (n := n2) (show bestK x xs0 xs1 n2 ≠ 0 by rw [bestK_dome hok]; omega))
    rw [bestK_dome hok] at HZ
    rw [hok] at HVD
    go_enter Tryz.func22, Tryz.ntmps22
    go_wp2_with fail
    (try simp only [World.size_alloc, Nat.add_assoc, Nat.reduceAdd])
    rw [← hW0]
    simp only [← hBD]
    clear hW0 hBD
    refine (HVD.out _).mono ?_
    rintro e w1 ⟨rfl, hx1⟩
    have HX1 := hide (HX0.out.trans hx1)
    replace HBD := hide (HBD.out.x hx1)
    clear hx1
    go_wp2_with fail
    go_ret3
    exact Sl3B.none HZ.out.1 (by rw [HZ.out.2.1, HZ.out.2.2]; rfl) HX1.out
  rw [hok] at HVD
  have HKE := hide (bestK_ok (xs := xs0) (ps := xs1) (n := n2) hok)
  by_cases hz : manyC xs0 xs1 n2 = 0
  case neg =>
    have HZ := hide (best_bad (by rw [HKE.out]; exact hz))
    rw [HKE.out] at HZ
    obtain ⟨ak, hak⟩ : ∃ a, a = manyC xs0 xs1 n2 := ⟨_, rfl⟩
    rw [← hak] at HCB HZ hz
    have hzb : (ak != 0) = true := by rw [bne_iff_ne]; exact hz
    clear hz hak
    go_enter Tryz.func22, Tryz.ntmps22
    go_wp2_with fail
    (try simp only [World.size_alloc, Nat.add_assoc, Nat.reduceAdd])
    rw [← hW0]
    simp only [← hBD]
    clear hW0 hBD
    refine (HVD.out _).mono ?_
    rintro e w1 ⟨rfl, hx1⟩
    have HX1 := hide (HX0.out.trans hx1)
    replace HBD := hide (HBD.out.x hx1)
    clear hx1
    go_wp2_with fail
    refine (HCB.out _ HX1.out).mono ?_
    rintro e w2 ⟨rfl, hx2⟩
    have HX2 := hide (HX1.out.trans hx2)
    replace HBD := hide (HBD.out.x hx2)
    clear hx2
    go_wp2_with fail
    go_ret3
    exact Sl3B.none HZ.out.1 (by rw [HZ.out.2.1, HZ.out.2.2]; rfl) HX2.out
  have HKZ := hide (HKE.out.trans hz)
  obtain ⟨hbk, hin⟩ := many_zero hz
  have hin' := inB_true.1 hin
  obtain ⟨i1, i2⟩ := hin'
  obtain ⟨k1, rfl⟩ : ∃ k1 : Nat, n2 = (k1 : Int) + 1 := ⟨(n2 - 1).toNat, by omega⟩
  have hk60 : k1 + 1 ≤ 60 := by omega
  clear i1 i2
  simp only [bookedB, Bool.and_eq_true] at hbk
  have HV := hide hbk.1
  have HRS := hide hbk.2
  have hs120 := (rings_len hbk.1).2
  obtain ⟨m, hm⟩ := Int.eq_ofNat_of_zero_le (sumCount_nn hbk.1)
  have HM := hide hm
  have hm120 : m ≤ 120 := by omega
  rw [hz] at HCB
  have HSE := hide (fun V (hV : IsX w V) => c_seatCount A0 c0 xs0 V hn0 (rings_cnt HV.out) (hA0.x hV))
  rw [hm] at HSE
  have HOP := hide (fun V (hV : IsX w V) => c_openSeats A0 c0 xs0 A1 c1 xs1 V HV.out HRS.out hn0 hn1 (hA0.x hV) (hA1.x hV))
  rw [hm, Int.toNat_natCast] at HOP
  have HSC := hide (fun (k : Nat) (hk : k < m) V (hV : IsX w V) => c_seatScore x A0 c0 xs0 (k : Int) V hok HV.out (by omega) (by rw [HM.out]; omega) hn0 (hA0.x hV) (fun U hU => HTAB U (hV.trans hU)))
  have HBL := hide (fun V (hV : IsX w V) => c_blocksOf A0 c0 xs0 A1 c1 xs1 k1 m V HV.out HRS.out HM.out hk60 hn0 hn1 (hA0.x hV) (hA1.x hV))
  have HOM : Hid (∀ z ∈ openTo xs1 m, 0 ≤ z ∧ z < (m : Int)) := hide (fun z hz => (open_mem.1 hz).1)
  have HOO := hide (fun (y : Nat) (hy : y < m) (h : hasB xs1 (y : Int) = false) => open_open hy h)
  have hol := open_len xs1 m
  obtain ⟨os, hos⟩ : ∃ os, os = openTo xs1 m := ⟨_, rfl⟩
  rw [← hos] at HOP HOM HOO hol
  obtain ⟨l, hl⟩ : ∃ l, l = os.length := ⟨_, rfl⟩
  rw [← hl] at HOP hol
  have HL := hide hl
  have hmk := make_ints m (by omega)
  simp only [domV] at HSC
  clear hz hbk hin hm hs120 hA0 hA1 hn0 hn1 hw0 hw1 hok hx hos hl HTAB hb2
  go_enter Tryz.func22, Tryz.ntmps22
  go_wp2_with fail
  (try simp only [World.size_alloc, Nat.add_assoc, Nat.reduceAdd])
  rw [← hW0]
  simp only [← hBD]
  clear hW0 hBD
  refine (HVD.out _).mono ?_
  rintro e w1 ⟨rfl, hx1⟩
  have HX1 := hide (HX0.out.trans hx1)
  replace HBD := hide (HBD.out.x hx1)
  clear hx1
  go_wp2_with fail
  refine (HCB.out _ HX1.out).mono ?_
  rintro e w2 ⟨rfl, hx2⟩
  have HX2 := hide (HX1.out.trans hx2)
  replace HBD := hide (HBD.out.x hx2)
  clear hx2
  go_wp2_with fail
  refine (HSE.out _ HX2.out).mono ?_
  rintro e w3 ⟨rfl, hx3⟩
  have HX3 := hide (HX2.out.trans hx3)
  replace HBD := hide (HBD.out.x hx3)
  clear hx3 HSE HCB HVD
  go_wp2_with fail
  obtain ⟨W4, hW4⟩ : ∃ W, W = w3.alloc (.cells (intArr (List.replicate m 0)) 2) := ⟨_, rfl⟩
  obtain ⟨SB, hSB⟩ : ∃ B, B = w3.heap.size := ⟨_, rfl⟩
  have HB4 : Hid (Blk W4 SB 2 (intArr (List.replicate m 0))) := hide (by rw [hW4, hSB]; exact Blk.new _ _ _)
  have HX4 : Hid (IsX w W4) := hide (hW4 ▸ HX3.out.alloc _)
  have HBD3 := HBD
  replace HBD : Hid (Blk W4 BD 38 #[.string x.Name, .int .i64 x.Radius, .int .i64 x.Tilt]) := hide (hW4 ▸ HBD.out.alloc _)
  have HS0 : Hid (w.heap.size ≤ SB) := hide (hSB ▸ HX3.out.size)
  have HS1 : Hid (SB < W4.heap.size) := hide HB4.out.lt
  have HS2 : Hid (BD ≠ SB) := hide (fun h => by rw [hSB] at h; have := HBD3.out.lt; omega)
  rw [← hW4, ← hSB]
  clear hW4 hSB hmk
  refine (HOP.out W4 HX4.out).mono ?_
  rintro e w5 ⟨A5, c5, rfl, hO5, hx5⟩
  have HO5 : Hid (w5.ownsRow W4.heap.size 2 1 (.slice A5 l c5) l (os.flatMap intC)) := hide (by have := hO5; unfold Own at this; rw [← HL.out] at this; exact this)
  have HX5 := hide (HX4.out.trans hx5)
  have HB5 := hide (HB4.out.x hx5)
  have HD5 := hide (HBD.out.x hx5)
  clear hO5 hx5 HOP HB4 HBD
  go_wp2_with fail
  go_loopw [39] (fun iv wr => ∃ (k : Nat) (U : List Int), k ≤ l ∧ iv = .int .i64 (k : Int) ∧ Hid (U.length = m ∧ ∀ i, i < k → ∀ y : Nat, os[i]? = some (y : Int) → U[y]? = some (scoreOf x.Radius xs0 (y : Int))) ∧ Hid (Blk wr SB 2 (intArr U)) ∧ Hid (Blk wr BD 38 #[.string x.Name, .int .i64 x.Radius, .int .i64 x.Tilt]) ∧ Hid (wr.ownsRow W4.heap.size 2 1 (.slice A5 l c5) l (os.flatMap intC)) ∧ Hid (IsX w wr)) (fun iv _ => l - (intOf iv).toNat)
  case atStart => exact ⟨0, List.replicate m 0, Nat.zero_le _, rfl, hide ⟨by simp, fun i hi => absurd hi (by omega)⟩, HB5, HD5, HO5, HX5⟩
  case round =>
    clear HB5 HD5 HO5
    obtain ⟨k, U, hk, rfl, HU, HB, HD, HO, HXR⟩ := hrel
    by_cases hkl : k < l
    · have hkl' : (k : Int) < (l : Int) := by omega
      have hko : k < os.length := by rw [← HL.out]; exact hkl
      have hmem := HOM.out _ (List.getElem_mem hko)
      obtain ⟨y, hy⟩ := Int.eq_ofNat_of_zero_le hmem.1
      have hym : y < m := by omega
      have hyo : os[k]? = some (y : Int) := by rw [List.getElem?_eq_getElem hko, hy]
      have HYO := hide hyo
      have HSy := hide (HSC.out y hym wr HXR.out)
      have HRD : Hid (Rd intC 1 wr A5 os) := hide (own_rd' HL.out.symm HO.out)
      obtain ⟨sc, hsc⟩ : ∃ s, s = scoreOf x.Radius xs0 (y : Int) := ⟨_, rfl⟩
      have HSCE := hide hsc
      rw [← hsc] at HSy
      obtain ⟨b1, o1, e1, hb1, cq⟩ := int_rd HRD.out hyo
      have HA5 := hide e1
      subst e1
      clear hmem hy hyo hsc
      have d0 := HD.out.cell 0
      have d1 := HD.out.cell 1
      have d2 := HD.out.cell 2
      simp at d0 d1 d2
      have dl := HD.out.lt
      go_wp2_with fail
      refine HSy.out.mono ?_
      rintro e w6 ⟨rfl, hx6⟩
      have HX6 := hide (HXR.out.trans hx6)
      have HB6 := hide (HB.out.x hx6)
      have HD6 := hide (HD.out.x hx6)
      have HO6 := hide (own_x HO.out hx6)
      obtain ⟨v0, cF⟩ := HB6.out.has (i := y) (by rw [intArr_len]; have := HU.out.1; omega)
      have fF := HB6.out.frozen y
      have hbF := HB6.out.lt
      have hyl : (y : Int) < (m : Int) := by omega
      clear hx6 HB HD HO HSy d0 d1 d2 dl cq hb1
      go_wp2_with fail
      go_roundw
      case rel =>
        refine ⟨k + 1, U.set y sc, by omega, by go_num, hide ⟨by rw [List.length_set]; exact HU.out.1, fun i hi y' hy' => ?_⟩, hide (blk_set HB6.out sc), hide (HD6.out.far HS2.out _), hide (ownsRow_far HO6.out HS1.out _), hide (IsX.setCell (a := ⟨SB, y, none⟩) HX6.out HS0.out _)⟩
        by_cases e : y = y'
        · subst e
          rw [List.getElem?_set_self (by have := HU.out.1; omega), HSCE.out]
        · rw [List.getElem?_set_ne e]
          refine HU.out.2 i ?_ y' hy'
          by_cases e2 : i = k
          · subst e2
            rw [HYO.out] at hy'
            injection hy' with hy'
            omega
          · omega
      case measure => simp [intOf]; omega
    · obtain rfl : k = l := by omega
      have HUF : Hid (∀ y : Nat, y < m → hasB xs1 (y : Int) = false → U[y]? = some (scoreOf x.Radius xs0 (y : Int))) := hide (fun y hy h => by
        obtain ⟨i, hi, e⟩ := HOO.out y hy h
        exact HU.out.2 i (by rw [HL.out]; exact hi) y (by rw [List.getElem?_eq_getElem hi, e]))
      clear HSC HD HO HOO HOM HU
      go_wp2_with fail
      refine (HBL.out wr HXR.out).mono ?_
      rintro e w7 ⟨A7, c7, rfl, hx7, hba⟩
      have HX7 := hide (HXR.out.trans hx7)
      have HB7 := hide (HB.out.x hx7)
      have HBA : Hid (∀ i k : Nat, (startsB (blockB xs0 xs1 (k1 + 1)) m)[i]? = some k → ∃ b g cg, A7 = some ⟨b, 0, none⟩ ∧ b < w7.heap.size ∧ w7.cell? ⟨b, i, none⟩ = some (.slice (some ⟨g, 0, none⟩) (k1 + 1) cg) ∧ Own intC 1 2 w7 w.heap.size (.slice (some ⟨g, 0, none⟩) (k1 + 1) cg) (blockL (k : Int) (k1 + 1))) := hide (fun i k hk => by
        obtain ⟨b, g, cg, h1, h2, h3, h4⟩ := hba i k hk
        obtain ⟨g', e, _, _⟩ := own_block h4 (by rw [blockL_len]; omega)
        subst e
        exact ⟨b, g', cg, h1, h2, h3, h4.mono HXR.out.size⟩)
      have HKS := hide (fun (k : Nat) (h : k ∈ startsB (blockB xs0 xs1 (k1 + 1)) m) => startsB_mem.1 h)
      have hksl := startsB_len (blockB xs0 xs1 (k1 + 1)) m
      obtain ⟨f, hf⟩ : ∃ f, f = fS x.Radius xs0 (k1 + 1) := ⟨_, rfl⟩
      have HF := hide hf
      have HBS := hide (fun (o : Option Nat) (h : bestL (fS x.Radius xs0 (k1 + 1)) (startsB (blockB xs0 xs1 (k1 + 1)) m) = o) => h)
      have HZN := hide (fun h => best_none (x := x) (ps := xs1) (N := k1 + 1) HKZ.out HM.out (rfl : x.Radius = x.Radius) h)
      have HZS := hide (fun k h => best_some (x := x) (ps := xs1) (N := k1 + 1) (k := k) HKZ.out HM.out (rfl : x.Radius = x.Radius) h)
      generalize startsB (blockB xs0 xs1 (k1 + 1)) m = ks at HBA HKS hksl HBS HZN HZS ⊢
      obtain ⟨L, hL⟩ : ∃ L, L = ks.length := ⟨_, rfl⟩
      have HKL := hide hL
      rw [← hL] at hksl ⊢
      clear hba hx7 hf hL HBS HF f HBL
      go_wp2_with fail
      go_loopw [15, 16, 56] (fun bv mv iv wr => ∃ r : Nat, r ≤ L ∧ iv = .int .i64 (r : Int) ∧ (∃ most, mv = .int .i64 most ∧ Hid (BestSi x.Radius xs0 (k1 + 1) w.heap.size w7 bv most (bestL (fS x.Radius xs0 (k1 + 1)) (ks.take r)))) ∧ w7 = wr) (fun _ _ iv _ => L - (intOf iv).toNat)
      case atStart => exact ⟨0, Nat.zero_le _, rfl, ⟨-1, rfl, hide ⟨rfl, rfl⟩⟩, rfl⟩
      case round =>
        obtain ⟨r, hr, rfl, ⟨most, rfl, HB8⟩, rfl⟩ := hrel
        by_cases hrL : r < L
        · have hrL' : (r : Int) < (L : Int) := by omega
          have hrk : r < ks.length := by rw [← HKL.out]; exact hrL
          have HTK := hide (List.take_succ_eq_append_getElem hrk)
          obtain ⟨hkm, hkb⟩ := HKS.out _ (List.getElem_mem hrk)
          obtain ⟨b, g, cg, e7, hb, cq, hown⟩ := HBA.out r _ (List.getElem?_eq_getElem hrk)
          have hke := block_end HV.out HM.out (by omega) hkm hkb
          have HFR := hide (fun (j : Nat) (hj : j < k1 + 1) => HUF.out (ks[r] + j) (by omega) (by have := block_free hkb hj; rwa [show ((ks[r] + j : Nat) : Int) = (ks[r] : Int) + (j : Int) by omega]))
          obtain ⟨kk, hkk⟩ : ∃ k, k = ks[r] := ⟨_, rfl⟩
          rw [← hkk] at HTK hkm hown HFR hke
          have HSN := hide (bestL_snoc (fS x.Radius xs0 (k1 + 1)) (ks.take r) kk)
          rw [← HTK.out] at HSN
          have HOW := hide hown
          have HRB : Hid (Rd intC 1 w7 (some ⟨g, 0, none⟩) (blockL (kk : Int) (k1 + 1))) := hide (Own.rd (cells := intC) (k := 1) (by omega) intC_len hown (blockL_len _ _).symm)
          subst e7
          clear hkk hown hkb
          go_wp2_with fail
          go_loopw [19, 62] (fun sv iv wr => ∃ j : Nat, j ≤ k1 + 1 ∧ sv = .int .i64 (sumS (scoreOf x.Radius xs0) (kk : Int) j) ∧ iv = .int .i64 (j : Int) ∧ w7 = wr) (fun _ iv _ => k1 + 1 - (intOf iv).toNat)
          case atStart => exact ⟨0, Nat.zero_le _, rfl, rfl, rfl⟩
          case round =>
            obtain ⟨j, hj, rfl, rfl, rfl⟩ := hrel
            by_cases hjn : j < k1 + 1
            · have hjn' : (j : Int) < (k1 : Int) + 1 := by omega
              have HSS := hide (sumS_succ (scoreOf x.Radius xs0) (kk : Int) j)
              have hsm := sumS_bd (f := scoreOf x.Radius xs0) (k := (kk : Int)) (n := j) (fun _ _ => scoreOf_bd _ _ _)
              have hg2 := HFR.out j hjn
              have hsb := scoreOf_bd x.Radius xs0 ((kk + j : Nat) : Int)
              obtain ⟨e, he⟩ : ∃ e, e = kk + j := ⟨_, rfl⟩
              have heq : (e : Int) < (m : Int) := by omega
              have hei : ((e : Nat) : Int) = (kk : Int) + (j : Int) := by omega
              have hg1 : (blockL (kk : Int) (k1 + 1))[j]? = some ((e : Nat) : Int) := by rw [blockL_get hjn, hei]
              rw [← he] at hg2 hsb
              rw [← hei] at HSS
              generalize scoreOf x.Radius xs0 (e : Int) = sc at *
              generalize sumS (scoreOf x.Radius xs0) (kk : Int) j = sj at *
              obtain ⟨b1, o1, e1, hb1, dq⟩ := int_rd HRB.out hg1
              injection e1 with e1
              injection e1 with e1 e2
              subst e1 e2
              simp only [Nat.zero_add] at dq
              have sq : w7.cell? ⟨SB, e, none⟩ = some (.int .i64 sc) := (HB7.out.cell e).trans (intArr_get hg2)
              have hsl := HB7.out.lt
              clear he hei hg1 hg2 cq
              go_wp2_with fail
              go_roundw
              case rel => exact ⟨j + 1, by omega, congrArg (Value.int .i64) (by rw [HSS.out]), by go_num, by first | rfl | trivial⟩
              case measure => simp [intOf]; omega
            · obtain rfl : j = k1 + 1 := by omega
              have hfb := fS_bd x.Radius xs0 (k1 + 1) kk
              rw [show sumS (scoreOf x.Radius xs0) (kk : Int) (k1 + 1) = fS x.Radius xs0 (k1 + 1) kk from rfl]
              generalize bestL (fS x.Radius xs0 (k1 + 1)) (ks.take r) = o at HSN HB8
              generalize hfk : fS x.Radius xs0 (k1 + 1) kk = fk at hfb ⊢
              have HFK := hide hfk
              clear hfk cq hb
              have hjn : ¬ (((k1 + 1 : Nat) : Int) < (k1 : Int) + 1) := by omega
              cases o with
              | none =>
                obtain ⟨rfl, rfl⟩ := HB8.out
                have hgt : (-1 : Int) < fk := by omega
                go_wp2_with fail
                go_roundw
                case rel => exact ⟨r + 1, by omega, by go_num, ⟨_, rfl, hide (by rw [HSN.out]; exact ⟨⟨g, cg, rfl, HOW.out⟩, HFK.out.symm⟩)⟩, by first | rfl | trivial⟩
                case measure => simp [intOf]; omega
              | some bb =>
                have HB6 := HB8.out
                obtain ⟨⟨gb, cb, rfl, hOb⟩, hmb⟩ := HB6
                have HOB := hide hOb
                have HMB := hide hmb
                clear hOb hmb
                by_cases hgt : most < fk
                · have HR := hide (show bestStep (fS x.Radius xs0 (k1 + 1)) (some bb) kk = some kk by simp only [bestStep]; rw [if_pos (by rw [HFK.out, ← HMB.out]; exact hgt)])
                  go_wp2_with fail
                  go_roundw
                  case rel => exact ⟨r + 1, by omega, by go_num, ⟨_, rfl, hide (by rw [HSN.out, HR.out]; exact ⟨⟨g, cg, rfl, HOW.out⟩, HFK.out.symm⟩)⟩, by first | rfl | trivial⟩
                  case measure => simp [intOf]; omega
                · have HR := hide (show bestStep (fS x.Radius xs0 (k1 + 1)) (some bb) kk = some bb by simp only [bestStep]; rw [if_neg (by rw [HFK.out, ← HMB.out]; exact hgt)])
                  go_wp2_with fail
                  go_roundw
                  case rel => exact ⟨r + 1, by omega, by go_num, ⟨_, rfl, hide (by rw [HSN.out, HR.out]; exact ⟨⟨gb, cb, rfl, HOB.out⟩, HMB.out⟩)⟩, by first | rfl | trivial⟩
                  case measure => simp [intOf]; omega
        · obtain rfl : r = L := by omega
          rw [show ks.take r = ks from List.take_of_length_le (by rw [HKL.out]; exact Nat.le_refl _)] at HB8
          generalize ho : bestL (fS x.Radius xs0 (k1 + 1)) ks = o at HB8
          cases o with
          | none =>
            have HZ := hide (HZN.out ho)
            obtain ⟨rfl, rfl⟩ := HB8.out
            clear ho
            have hq := fun (W : World) => Lib.run_eql_slice_nil (P := Tryz.prog) W 46 2 none 0 0 0 0 Tryz.underlying46
            go_wp2_with fail
            go_ret3
            exact Sl3B.none HZ.out.1 (by first | rw [HZ.out.2.1, HZ.out.2.2]; rfl | (rw [show bestM x xs0 xs1 ((k1 : Int) + 1) = 0 from HZ.out.2.1, show bestC x xs0 xs1 ((k1 : Int) + 1) = 3 from HZ.out.2.2]; rfl)) HX7.out
          | some b =>
            have HZ := hide (HZS.out b ho)
            have HB6 := HB8.out
            obtain ⟨⟨gb, cb, rfl, hOb⟩, hmb⟩ := HB6
            have HOB := hide hOb
            have HMB := hide hmb
            clear ho hOb hmb
            have hq := fun (W : World) => Lib.run_eql_slice_nil (P := Tryz.prog) W 46 2 (some ⟨gb, 0, none⟩) (k1 + 1) cb 0 0 Tryz.underlying46
            go_wp2_with fail
            go_ret3
            refine ⟨some ⟨gb, 0, none⟩, cb, ?_, ?_, HX7.out⟩
            · rw [show bestZ x xs0 xs1 ((k1 : Int) + 1) = blockL (b : Int) (k1 + 1) from HZ.out.1, show bestM x xs0 xs1 ((k1 : Int) + 1) = fS x.Radius xs0 (k1 + 1) b from HZ.out.2.1, show bestC x xs0 xs1 ((k1 : Int) + 1) = 0 from HZ.out.2.2, blockL_len, HMB.out]; rfl
            · rw [show bestZ x xs0 xs1 ((k1 : Int) + 1) = blockL (b : Int) (k1 + 1) from HZ.out.1, blockL_len]
              exact HOB.out

end Go.Proofs.YtfcfgkkkepifhaaGreatDoor
