/- Domes: validity, absolute values, whole roots: what the reference and the program compute. Conditions: told with each. -/
import Derived.Test.YtfcfgkkkepifhaaGreatDoorDomeLaw
import Derived.Test.YtfcfgkkkepifhaaGreatDoorFloatLaw
import Derived.Test.YtfcfgkkkepifhaaGreatDoorNames
import Derived.Test.YtfcfgkkkepifhaaGreatDoorFlatDome
namespace Go.Proofs.YtfcfgkkkepifhaaGreatDoor
set_option linter.unusedVariables false
open Go.RowKit

def DomeD.okB (x : DomeD) : Bool := nameB x.Name && inB x.Radius 1000 30000 && inB x.Tilt 0 45000

set_option maxHeartbeats 800000 in
theorem c_ValidDome (x : DomeD) (w : World) (hs0 : x.Name.size ≤ maxLen) :
    Calls Tryz.prog 35 #[.agg #[.string x.Name, .int .i64 x.Radius, .int .i64 x.Tilt]] w fun e w' => e = .returned (.bool x.okB) ∧ IsX w w' := by
  cases h0 : nameB x.Name
  · have HR := hide (show x.okB = false by simp [DomeD.okB, h0])
    go_enter Tryz.func35, Tryz.ntmps35
    go_wp2_with (first | (go_at_call 69; (with_reducible refine (c_IsName x.Name _ hs0).mono ?_); rintro e w' ⟨rfl, rfl⟩) | (go_at_call 63; refine (c_within _ _ _ _).mono ?_; rintro e w' ⟨rfl, rfl⟩))
    go_ret
    exact ⟨by rw [HR.out]; first | rfl | exact congrArg (fun b => Ending.returned (Value.bool b)) (by simp; omega), (IsX.refl _).alloc _⟩
  cases h1 : inB x.Radius 1000 30000
  · have HR := hide (show x.okB = false by simp [DomeD.okB, h0, h1])
    go_enter Tryz.func35, Tryz.ntmps35
    go_wp2_with (first | (go_at_call 69; (with_reducible refine (c_IsName x.Name _ hs0).mono ?_); rintro e w' ⟨rfl, rfl⟩) | (go_at_call 63; refine (c_within _ _ _ _).mono ?_; rintro e w' ⟨rfl, rfl⟩))
    go_ret
    exact ⟨by rw [HR.out]; first | rfl | exact congrArg (fun b => Ending.returned (Value.bool b)) (by simp; omega), (IsX.refl _).alloc _⟩
  cases h2 : inB x.Tilt 0 45000
  · have HR := hide (show x.okB = false by simp [DomeD.okB, h0, h1, h2])
    go_enter Tryz.func35, Tryz.ntmps35
    go_wp2_with (first | (go_at_call 69; (with_reducible refine (c_IsName x.Name _ hs0).mono ?_); rintro e w' ⟨rfl, rfl⟩) | (go_at_call 63; refine (c_within _ _ _ _).mono ?_; rintro e w' ⟨rfl, rfl⟩))
    go_ret
    exact ⟨by rw [HR.out]; first | rfl | exact congrArg (fun b => Ending.returned (Value.bool b)) (by simp; omega), (IsX.refl _).alloc _⟩
  have HR := hide (show x.okB = true by simp [DomeD.okB, h0, h1, h2])
  go_enter Tryz.func35, Tryz.ntmps35
  go_wp2_with (first | (go_at_call 69; (with_reducible refine (c_IsName x.Name _ hs0).mono ?_); rintro e w' ⟨rfl, rfl⟩) | (go_at_call 63; refine (c_within _ _ _ _).mono ?_; rintro e w' ⟨rfl, rfl⟩))
  go_ret
  exact ⟨by rw [HR.out]; first | rfl | exact congrArg (fun b => Ending.returned (Value.bool b)) (by simp; omega), (IsX.refl _).alloc _⟩

set_option maxHeartbeats 800000 in
theorem c_l09Ok (x : DomeD) (b off : Nat) (w : World) (hs0 : x.Name.size ≤ maxLen) (c0 : w.cell? ⟨b, off, none⟩ = some (.string x.Name)) (c1 : w.cell? ⟨b, off + 1, none⟩ = some (.int .i64 x.Radius)) (c2 : w.cell? ⟨b, off + 2, none⟩ = some (.int .i64 x.Tilt)) :
    Calls Tryz.prog 57 #[.pointer (some ⟨b, off, none⟩)] w fun e w' => e = .returned (.bool x.okB) ∧ w = w' := by
  cases h0 : nameB x.Name
  · have HR := hide (show x.okB = false by simp [DomeD.okB, h0])
    go_enter Tryz.func57, Tryz.ntmps57
    go_wp2_with (first | (go_at_call 86; (with_reducible refine (c_name x.Name _ hs0).mono ?_); rintro e w' ⟨rfl, rfl⟩) | (go_at_call 87; refine (c_in _ _ _ _).mono ?_; rintro e w' ⟨rfl, rfl⟩))
    go_ret
    exact ⟨by rw [HR.out]; first | rfl | exact congrArg (fun b => Ending.returned (Value.bool b)) (by simp; omega), rfl⟩
  cases h1 : inB x.Radius 1000 30000
  · have HR := hide (show x.okB = false by simp [DomeD.okB, h0, h1])
    go_enter Tryz.func57, Tryz.ntmps57
    go_wp2_with (first | (go_at_call 86; (with_reducible refine (c_name x.Name _ hs0).mono ?_); rintro e w' ⟨rfl, rfl⟩) | (go_at_call 87; refine (c_in _ _ _ _).mono ?_; rintro e w' ⟨rfl, rfl⟩))
    go_ret
    exact ⟨by rw [HR.out]; first | rfl | exact congrArg (fun b => Ending.returned (Value.bool b)) (by simp; omega), rfl⟩
  cases h2 : inB x.Tilt 0 45000
  · have HR := hide (show x.okB = false by simp [DomeD.okB, h0, h1, h2])
    go_enter Tryz.func57, Tryz.ntmps57
    go_wp2_with (first | (go_at_call 86; (with_reducible refine (c_name x.Name _ hs0).mono ?_); rintro e w' ⟨rfl, rfl⟩) | (go_at_call 87; refine (c_in _ _ _ _).mono ?_; rintro e w' ⟨rfl, rfl⟩))
    go_ret
    exact ⟨by rw [HR.out]; first | rfl | exact congrArg (fun b => Ending.returned (Value.bool b)) (by simp; omega), rfl⟩
  have HR := hide (show x.okB = true by simp [DomeD.okB, h0, h1, h2])
  go_enter Tryz.func57, Tryz.ntmps57
  go_wp2_with (first | (go_at_call 86; (with_reducible refine (c_name x.Name _ hs0).mono ?_); rintro e w' ⟨rfl, rfl⟩) | (go_at_call 87; refine (c_in _ _ _ _).mono ?_; rintro e w' ⟨rfl, rfl⟩))
  go_ret
  exact ⟨by rw [HR.out]; first | rfl | exact congrArg (fun b => Ending.returned (Value.bool b)) (by simp; omega), rfl⟩

set_option maxHeartbeats 1600000 in
set_option maxRecDepth 100000 in
theorem c_Sqrt (x y : Nat) (w : World) (h : Ieee.double.sqrt x = some y) : Calls Tryz.prog 161 #[.float .f64 x] w fun e w' => e = .returned (.float .f64 y) ∧ w = w' := by
  have HS : ∀ W : World, (Extern.MathSqrt.sqrt #[.float .f64 x]).run Tryz.prog W = .ok (.float .f64 y) W := fun W => by
    have e : Extern.MathSqrt.sqrt #[.float .f64 x] = (match FloatKind.f64.format.sqrt x with | some r => pure (.float .f64 r) | none => do pure (.float .f64 (← choose (.nanBits .f64 x x)))) := rfl
    rw [e, show FloatKind.f64.format.sqrt x = some y from h]; rfl
  go_enter Tryz.func161, Tryz.ntmps161
  go_wp2_with fail
  rw [run_callFunc_extern Tryz.func185 (by kernel_rfl) (by kernel_rfl) (by kernel_rfl) (e := Extern.MathSqrt.sqrt) (by kernel_rfl), HS]
  simp only [Result.andThen]
  rw [Oper.upon_value]
  go_wp2_with fail
  go_ret
  exact ⟨rfl, rfl⟩
set_option maxHeartbeats 1600000 in
set_option maxRecDepth 100000 in
theorem c_RootOf (n : Int) (w : World) (h0 : 0 ≤ n) (h1 : n ≤ 9223372036854775807) : Calls Tryz.prog 132 #[.int .i64 n] w fun e w' => e = .returned (.int .i64 (rootZ n)) ∧ w = w' := by
  by_cases hz : n ≤ 0
  · have HR := hide (rootZ_neg hz)
    go_enter Tryz.func132, Tryz.ntmps132
    go_wp2
    go_ret
    exact ⟨by rw [HR.out]; rfl, rfl⟩
  · obtain ⟨m, rfl⟩ := Int.eq_ofNat_of_zero_le h0
    obtain ⟨y, v, e1, e2, e3⟩ := sqrt_bd (n := m) (by omega)
    have HE := hide (show _ ∧ _ from ⟨e1, e2⟩)
    clear e1 e2
    go_enter Tryz.func132, Tryz.ntmps132
    go_wp2_with fail
    have hm1 : 1 ≤ m := by omega
    have hm2 : m ≤ 9223372036854775807 := by omega
    have hneg : decide ((m : Int) < 0) = false := decide_eq_false (by omega)
    clear h0 h1 hz
    rw [show floatOfInt FloatKind.f64 (m : Int) = Ieee.double.nearest false m 0 from by
      simp only [floatOfInt, FloatKind.nearest, FloatKind.encode, FloatKind.format, Ieee.Format.write, hneg, Int.natAbs_natCast]]
    clear hneg
    refine (c_Sqrt _ _ _ HE.out.1).mono ?_
    rintro e w1 ⟨rfl, rfl⟩
    have hfi : floatToIntVal .f64 y .i64 = some (v : Int) := by
      unfold floatToIntVal
      rw [show FloatKind.f64.decode y = Ieee.double.read y from rfl, HE.out.2]
      show (if IntKind.i64.min ≤ (v : Int) ∧ (v : Int) ≤ IntKind.i64.max then some (v : Int) else none) = some (v : Int)
      have e4 : IntKind.i64.min = -9223372036854775808 := by decide
      have e5 : IntKind.i64.max = 9223372036854775807 := by decide
      rw [e4, e5, if_pos ⟨by omega, by omega⟩]
    go_wp2_with fail
    rw [run_convert_float_int w 179 2 .f64 .i64 y v (by kernel_rfl) Tryz.underlying2 hfi]
    simp only [Result.andThen]
    rw [Oper.upon_value]
    clear hfi
    go_wp2
    all_goals
      clear HE
      go_loopw [3] (fun rv wr => ∃ r : Nat, r ≤ 3037000499 ∧ rv = .int .i64 (r : Int) ∧ w = wr) (fun rv _ => (intOf rv).toNat)
      case atStart => first | exact ⟨3037000499, by omega, rfl, rfl⟩ | exact ⟨v, by omega, rfl, rfl⟩
      case round =>
        obtain ⟨r, hr, rfl, rfl⟩ := hrel
        obtain ⟨q, hq⟩ : ∃ q : Int, q = (r : Int) * (r : Int) := ⟨_, rfl⟩
        have HQ := hide hq
        have hqb := sq_bd (a := (r : Int)) (b := 3037000499) (by omega)
        rw [← hq] at hqb
        have hq' : (r : Int) * (r : Int) = q := hq.symm
        clear hq
        by_cases hgt : (m : Int) < q
        · have hr0 : 1 ≤ r := by
            rcases Nat.eq_zero_or_pos r with h | h
            · subst h; have := HQ.out; simp at this; omega
            · exact h
          go_wp2_with fail
          go_roundw
          case rel => exact ⟨r - 1, by omega, by go_num, by first | rfl | trivial⟩
          case measure => simp [intOf]; omega
        · have hgt' : ¬ q > (m : Int) := by omega
          have HST := hide (show (r : Int) * (r : Int) ≤ (m : Int) by rw [← HQ.out]; omega)
          go_wp2_with fail
          clear hq' hqb hgt hgt' HQ
          go_loopw [3] (fun rv wr => ∃ r : Nat, r ≤ 3037000499 ∧ rv = .int .i64 (r : Int) ∧ Hid ((r : Int) * (r : Int) ≤ (m : Int)) ∧ w = wr) (fun rv _ => 3037000499 - (intOf rv).toNat)
          case atStart => exact ⟨r, hr, rfl, HST, rfl⟩
          case round =>
            clear HST
            obtain ⟨r, hr, rfl, HLE, rfl⟩ := hrel
            by_cases hlt : r < 3037000499
            · obtain ⟨q, hq⟩ : ∃ q : Int, q = ((r : Int) + 1) * ((r : Int) + 1) := ⟨_, rfl⟩
              have HQ := hide hq
              have hqb := sq_bd (a := (r : Int) + 1) (b := 3037000499) (by omega)
              rw [← hq] at hqb
              have hq' : ((r : Int) + 1) * ((r : Int) + 1) = q := hq.symm
              clear hq
              have hlz : (r : Int) < 3037000499 := by omega
              by_cases hgt : q ≤ (m : Int)
              · have HST := hide (show ((r + 1 : Nat) : Int) * ((r + 1 : Nat) : Int) ≤ (m : Int) by push_cast; rw [← HQ.out]; exact hgt)
                go_wp2_with fail
                go_roundw
                case rel => exact ⟨r + 1, by omega, by go_num, HST, by first | rfl | trivial⟩
                case measure => simp [intOf]; omega
              · have HR := hide (rootZ_eq (n := (m : Int)) (r := (r : Int)) (by omega) HLE.out (by rw [← HQ.out]; omega))
                go_wp2_with fail
                go_ret
                exact ⟨by rw [HR.out]; rfl, rfl⟩
            · obtain rfl : r = 3037000499 := by omega
              have HR := hide (rootZ_eq (n := (m : Int)) (r := ((3037000499 : Nat) : Int)) (by omega) HLE.out (by omega))
              go_wp2_with fail
              go_ret
              exact ⟨by rw [HR.out]; rfl, rfl⟩

set_option maxHeartbeats 1600000 in
set_option maxRecDepth 100000 in
theorem c_l01Root (n : Int) (w : World) (h0 : 0 ≤ n) (h1 : n ≤ 9223372036854775807) : Calls Tryz.prog 38 #[.int .i64 n] w fun e w' => e = .returned (.int .i64 (rootZ n)) ∧ w = w' := by
  obtain ⟨m, rfl⟩ := Int.eq_ofNat_of_zero_le h0
  have hm2 : m ≤ 9223372036854775807 := by omega
  clear h0 h1
  go_enter Tryz.func38, Tryz.ntmps38
  go_wp2_with fail
  go_loopw [3, 4] (fun lv hv wr => ∃ l h : Nat, l ≤ h ∧ h ≤ 3037000499 ∧ lv = .int .i64 (l : Int) ∧ hv = .int .i64 (h : Int) ∧ Hid ((l : Int) * (l : Int) ≤ (m : Int) ∧ (m : Int) < ((h : Int) + 1) * ((h : Int) + 1)) ∧ w = wr) (fun lv hv _ => (intOf hv).toNat - (intOf lv).toNat)
  case atStart => exact ⟨0, 3037000499, by omega, by omega, rfl, rfl, hide ⟨by simp, by omega⟩, rfl⟩
  case round =>
    obtain ⟨l, h, hlh, hh, rfl, rfl, HB, rfl⟩ := hrel
    by_cases hlt : l < h
    · obtain ⟨d, hd⟩ : ∃ d, d = (l + h + 1) / 2 := ⟨_, rfl⟩
      have td : ((l : Int) + (h : Int) + 1).tdiv 2 = (d : Int) := by rw [Int.tdiv_eq_ediv_of_nonneg (by omega)]; omega
      have td2 : ((l : Int) + (h : Int) + 1) / 2 = (d : Int) := by omega
      have hd1 : l < d := by omega
      have hd2 : d ≤ h := by omega
      clear hd
      obtain ⟨q, hq⟩ : ∃ q : Int, q = (d : Int) * (d : Int) := ⟨_, rfl⟩
      have HQ := hide hq
      have hqb := sq_bd (a := (d : Int)) (b := 3037000499) (by omega)
      rw [← hq] at hqb
      have hq' : (d : Int) * (d : Int) = q := hq.symm
      clear hq
      by_cases hle : q ≤ (m : Int)
      · have HB2 := hide (show (d : Int) * (d : Int) ≤ (m : Int) ∧ (m : Int) < ((h : Int) + 1) * ((h : Int) + 1) from ⟨by rw [← HQ.out]; exact hle, HB.out.2⟩)
        go_wp2_with fail
        go_roundw
        case rel => exact ⟨d, h, hd2, hh, rfl, rfl, HB2, by first | rfl | trivial⟩
        case measure => simp [intOf]; omega
      · have td3 : (d : Int) - 1 = ((d - 1 : Nat) : Int) := by omega
        have HB2 := hide (show (l : Int) * (l : Int) ≤ (m : Int) ∧ (m : Int) < (((d - 1 : Nat) : Int) + 1) * (((d - 1 : Nat) : Int) + 1) from ⟨HB.out.1, by rw [show (((d - 1 : Nat) : Int) + 1) = (d : Int) by omega, ← HQ.out]; omega⟩)
        have HTD := hide td3
        clear td3
        go_wp2_with fail
        go_roundw
        case rel => exact ⟨l, d - 1, by omega, by omega, rfl, by rw [← HTD.out], HB2, by first | rfl | trivial⟩
        case measure => simp [intOf]; omega
    · obtain rfl : l = h := by omega
      have HR := hide (rootZ_eq (n := (m : Int)) (r := (l : Int)) (by omega) HB.out.1 HB.out.2)
      go_wp2_with fail
      go_ret
      exact ⟨by rw [HR.out]; rfl, rfl⟩

end Go.Proofs.YtfcfgkkkepifhaaGreatDoor
