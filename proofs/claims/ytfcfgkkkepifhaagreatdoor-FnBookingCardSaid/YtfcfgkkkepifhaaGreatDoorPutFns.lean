/- Numbers put into rising lists, joined lists: what l00Put, slices.Grow and slices.Concat compute. Conditions: lists no longer than 2^40. -/
import Derived.Test.YtfcfgkkkepifhaaGreatDoorBookLaw
import Derived.Lib.AppendZeros
namespace Go.Proofs.YtfcfgkkkepifhaaGreatDoor
set_option linter.unusedVariables false
open Go.RowKit

theorem grown_size (w : World) (n : Nat) (e : Nat) (z : Value) (hz : z.cells.size = 1) : (Builtin.zeroCells z.cells n ++ Builtin.zeroCells z.cells (grownCap w n 0 e - n)).size = grownCap w n 0 e := by
  have := grownCap_ge w n 0 e
  simp [Builtin.zeroCells, hz]; omega
set_option maxRecDepth 100000 in
set_option maxHeartbeats 1600000 in
theorem c_Grow0 (n : Nat) (w : World) (hn : n ≤ 2199023255552) :
    Calls Tryz.prog 85 #[.slice none 0 0, .int .i64 n] w fun e w' => ∃ A c, e = .returned (.slice A 0 c) ∧ w'.ownsRow w.heap.size 2 1 (.slice A 0 c) 0 [] ∧ IsX w w' := by
  by_cases h0 : n = 0
  · subst h0
    go_enter Tryz.func85, Tryz.ntmps85
    rw [show (((0 : Nat) : Int)) = 0 from rfl]
    go_wp2_with fail
    go_ret
    exact ⟨none, 0, rfl, World.ownsRow_nil _ _ _ _, IsX.refl _⟩
  · obtain ⟨i0, hi0, hz0, hz1, hz2⟩ := info_parts Int64_info
    have hr := Lib.run_append_nil_zeros (P := Tryz.prog) w 46 3 46 2 i0 _ .i64 .i64 Tryz.underlying46 Tryz.underlying3 hi0 hz0 n (by omega) (by omega) (by omega) (by rw [hz2]; omega)
    have hc := grownCap_ge w n 0 2
    have hc2 := grownCap_le_maxLen w n 0 2 (by unfold maxLen; omega)
    have hcs := grown_size w n 2 (.int .i64 0) rfl
    obtain ⟨cur, hcur⟩ : ∃ cur, cur = Builtin.zeroCells (Value.int .i64 0).cells n ++ Builtin.zeroCells (Value.int .i64 0).cells (grownCap w n 0 2 - n) := ⟨_, rfl⟩
    rw [← hcur] at hr hcs
    generalize grownCap w n 0 2 = cap at hr hc hc2 hcs
    obtain ⟨W, hW⟩ : ∃ W, W = w.drew.alloc (.cells cur 2) := ⟨_, rfl⟩
    have HX : Hid (IsX w W) := hide (hW ▸ (IsX.refl w).drew.alloc _)
    have HB : Hid (W.heap[w.heap.size]? = some (.cells cur 2 (0, 0))) := hide (hW ▸ heap_alloc_new _ _)
    have HR := hide (show (Builtin.append_ #[46, 3] 46 #[.slice none 0 0, .int .i64 n]).run Tryz.prog w = .ok (.slice (some ⟨w.heap.size, 0, none⟩) n cap) W from hW ▸ hr)
    clear hr hi0 hz0 hz1 hz2 hW hcur
    have hpos : 0 < n := by omega
    clear h0
    have h1 : ¬ ((n : Int) < 0) := by omega
    have h3 : wrap64 ((n : Int) - 0) = (n : Int) := by unfold wrap64; omega
    have h4 : (n : Int) > 0 := by omega
    have h5 : cap ≤ 9223372036854775807 := hc2
    go_enter Tryz.func85, Tryz.ntmps85
    go_wp2_with (at_builtin; refine Lib.wpList_append_run _ rfl (.tmp 20) (.tmp 21) _ _ rfl _ _ rfl rfl _ _ HR.out ?_)
    go_ret
    exact ⟨_, _, rfl, ⟨by simp, .inr ⟨_, cap, _, rfl, Nat.le_refl _, HB.out, by omega, hc2, by rw [hcs]; omega, by simp⟩⟩, HX.out⟩
def catTo (ys zs : List Int) : Nat → List Int
  | 0 => []
  | 1 => ys
  | _ => ys ++ zs
def catN (n m : Nat) : Nat → Nat
  | 0 => 0
  | 1 => n
  | _ => n + m
set_option maxHeartbeats 3200000 in
theorem c_Concat (b t : Nat) (A1 : Option Addr) (c1 : Nat) (ys : List Int) (A2 : Option Addr) (c2 : Nat) (zs : List Int) (w : World) (hn1 : ys.length ≤ 1099511627776) (hn2 : zs.length ≤ 1099511627776) (hA1 : Rd intC 1 w A1 ys) (hA2 : Rd intC 1 w A2 zs)
    (hB : Blk w b t #[.slice A1 ys.length c1, .slice A2 zs.length c2]) :
    Calls Tryz.prog 56 #[.slice (some ⟨b, 0, none⟩) 2 2] w fun e w' => ∃ A c, e = .returned (.slice A (ys ++ zs).length c) ∧ Own intC 1 2 w' w.heap.size (.slice A (ys ++ zs).length c) (ys ++ zs) ∧ IsX w w' := by
  have HI := hide (info_parts Int64_info)
  have HR1 := hide (fun (W : World) (hx : IsX w W) => (hA1.x hx).reads (by omega) intC_len)
  have HR2 := hide (fun (W : World) (hx : IsX w W) => (hA2.x hx).reads (by omega) intC_len)
  obtain ⟨n, hnn⟩ : ∃ n, n = ys.length := ⟨_, rfl⟩
  obtain ⟨m, hmm⟩ : ∃ m, m = zs.length := ⟨_, rfl⟩
  have HL := hide (show (ys ++ zs).length = n + m by rw [List.length_append, hnn, hmm])
  rw [← hnn] at hn1
  rw [← hmm] at hn2
  have d0 := hB.cell 0
  have d1 := hB.cell 1
  simp at d0 d1
  rw [← hnn] at d0
  rw [← hmm] at d1
  have hb := hB.lt
  have HN1 := hide hnn
  have HN2 := hide hmm
  clear hnn hmm hB hA1 hA2
  go_enter Tryz.func56, Tryz.ntmps56
  go_wp2_with fail
  go_loopw [3, 11] (fun sv iv wr => ∃ q : Nat, q ≤ 2 ∧ iv = .int .i64 q ∧ sv = .int .i64 ((catN n m q : Nat) : Int) ∧ IsX w wr) (fun _ iv _ => 2 - (intOf iv).toNat)
  case atStart => exact ⟨0, by omega, rfl, rfl, IsX.refl _⟩
  case round =>
    obtain ⟨q, hq, rfl, rfl, p, rfl⟩ := hrel
    rcases (show q = 0 ∨ q = 1 ∨ q = 2 by omega) with rfl | rfl | rfl
    · rw [show (((0 : Nat) : Int)) = 0 from rfl]
      rw [show catN n m 0 = 0 from rfl]
      rw [show (((0 : Nat) : Int)) = 0 from rfl]
      go_wp2_with fail
      go_roundw
      case rel => exact ⟨1, by omega, rfl, by simp [catN], ⟨p, rfl⟩⟩
      case measure => simp [intOf]
    · rw [show (((1 : Nat) : Int)) = 1 from rfl]
      rw [show catN n m 1 = n from rfl]
      go_wp2_with fail
      go_roundw
      case rel => exact ⟨2, by omega, rfl, by simp [catN], ⟨p, rfl⟩⟩
      case measure => simp [intOf]
    · rw [show (((2 : Nat) : Int)) = 2 from rfl]
      rw [show catN n m 2 = n + m from rfl]
      go_wp2_with fail
      refine (c_Grow0 (n + m) (xt w p) (by omega)).mono ?_
      rintro e w2 ⟨A, c, rfl, hO, hx2⟩
      have HO : Hid (w2.ownsRow w.heap.size 2 1 (.slice A 0 c) 0 []) := hide (row_le hO (size_xt w p))
      clear hO
      obtain ⟨p2, rfl⟩ := IsX.trans ⟨p, rfl⟩ hx2
      clear hx2
      go_wp2_with fail
      go_loopw [6, 27] (fun ov iv wr => ∃ q : Nat, q ≤ 2 ∧ iv = .int .i64 q ∧ Hid (wr.ownsRow w.heap.size 2 1 ov (catN n m q) ((catTo ys zs q).flatMap intC)) ∧ IsX w wr) (fun _ iv _ => 2 - (intOf iv).toNat)
      case atStart => exact ⟨0, by omega, rfl, HO, ⟨p2, rfl⟩⟩
      case round =>
        clear HO
        obtain ⟨q, hq, rfl, HO, p3, rfl⟩ := hrel
        rcases (show q = 0 ∨ q = 1 ∨ q = 2 by omega) with rfl | rfl | rfl
        · rw [show (((0 : Nat) : Int)) = 0 from rfl]
          replace HO : Hid (_root_.Go.World.ownsRow (xt w p3) w.heap.size 2 1 _ 0 []) := HO
          go_wp2_with (at_builtin; obtain ⟨i0, hi0, hz0, hz1, hz2⟩ := HI.out; refine wpList_append_any _ rfl (.tmp 31) (.tmp 32) _ rfl w.heap.size 2 i0 _ 1 8 Tryz.underlying46 hi0 hz0 hz1 hz2 rfl (by omega) _ 0 [] rfl HO.out _ A1 n c1 (ys.flatMap intC) rfl (HN1.out ▸ HR1.out _ ⟨p3, rfl⟩) (cells_one ys) (by simp only [maxLen]; omega) (by omega) (size_xt w p3) ?_; clear hi0 hz0 hz1 hz2; intro v1 w1 hown1 hg1 hat1; have HO1 := hide hown1; have hx1 : IsX w w1 := IsX.grown ⟨p3, rfl⟩ hg1 (by intro z hz; exact (HO.out.lt z hz).1); clear hown1 hg1 hat1; obtain ⟨p4, rfl⟩ := hx1)
          go_roundw
          case rel => exact ⟨1, by omega, rfl, hide (by
            have h := HO1.out
            rw [Nat.zero_add, List.nil_append] at h
            exact h), ⟨p4, rfl⟩⟩
          case measure => simp [intOf]
        · rw [show (((1 : Nat) : Int)) = 1 from rfl]
          replace HO : Hid (_root_.Go.World.ownsRow (xt w p3) w.heap.size 2 1 _ n (ys.flatMap intC)) := HO
          go_wp2_with (at_builtin; obtain ⟨i0, hi0, hz0, hz1, hz2⟩ := HI.out; refine wpList_append_any _ rfl (.tmp 31) (.tmp 32) _ rfl w.heap.size 2 i0 _ 1 8 Tryz.underlying46 hi0 hz0 hz1 hz2 rfl (by omega) _ n (ys.flatMap intC) rfl HO.out _ A2 m c2 (zs.flatMap intC) rfl (HN2.out ▸ HR2.out _ ⟨p3, rfl⟩) (cells_one zs) (by simp only [maxLen]; omega) (by omega) (size_xt w p3) ?_; clear hi0 hz0 hz1 hz2; intro v1 w1 hown1 hg1 hat1; have HO1 := hide hown1; have hx1 : IsX w w1 := IsX.grown ⟨p3, rfl⟩ hg1 (by intro z hz; exact (HO.out.lt z hz).1); clear hown1 hg1 hat1; obtain ⟨p4, rfl⟩ := hx1)
          go_roundw
          case rel => exact ⟨2, by omega, rfl, hide (by
            show World.ownsRow _ _ _ _ _ (n + m) ((ys ++ zs).flatMap intC)
            rw [List.flatMap_append]
            exact HO1.out), ⟨p4, rfl⟩⟩
          case measure => simp [intOf]
        · rw [show (((2 : Nat) : Int)) = 2 from rfl]
          replace HO : Hid (_root_.Go.World.ownsRow (xt w p3) w.heap.size 2 1 _ (n + m) ((ys ++ zs).flatMap intC)) := HO
          obtain ⟨A', c', hform⟩ := row_slice HO.out
          subst hform
          go_wp2_with fail
          go_ret
          refine ⟨A', c', by rw [HL.out]; rfl, ?_, ⟨p3, rfl⟩⟩
          rw [HL.out]
          unfold Own
          rw [HL.out]
          exact HO.out

end Go.Proofs.YtfcfgkkkepifhaaGreatDoor
