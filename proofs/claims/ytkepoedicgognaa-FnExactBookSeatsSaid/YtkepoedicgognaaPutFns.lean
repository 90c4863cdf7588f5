/- Numbers put into rising lists, joined lists: what l00Put, slices.Grow and slices.Concat compute. Conditions: lists no longer than 2^40. -/
import Derived.Test.YtkepoedicgognaaBookLaw
import Derived.Lib.AppendZeros
namespace Go.Proofs.Ytkepoedicgognaa
set_option linter.unusedVariables false
open Go.RowKit

set_option maxHeartbeats 3200000 in
theorem c_l00Put (A : Option Addr) (n c : Nat) (xs : List Int) (k : Int) (w : World) (hnn : n = xs.length) (hn : n ≤ 1099511627776) (hA : Rd intC 1 w A xs) :
    Calls Try.prog 76 #[.slice A n c, .int .i64 k] w fun e w' => ∃ A' c', e = .returned (.slice A' (insK xs k).length c') ∧ Own intC 1 2 w' w.heap.size (.slice A' (insK xs k).length c') (insK xs k) ∧ IsX w w' := by
  have HI := hide (info_parts Int64_info)
  have HN := hide hnn
  clear hnn
  go_enter Try.func76, Try.ntmps76
  go_wp2_with fail
  have HO : Hid ((w.alloc (.cells #[] 2)).ownsRow w.heap.size 2 1 (.slice (some ⟨w.heap.size, 0, none⟩) 0 0) 0 []) := hide (World.ownsRow_made w #[] 0 (Nat.le_refl _) (by simp [maxLen]) rfl)
  go_loopw [5, 6, 7] (fun ov dv iv wr => ∃ (q l : Nat) (d : Bool), q ≤ n ∧ l ≤ q + 1 ∧ iv = .int .i64 q ∧ dv = .bool d ∧ Hid ((putTo xs k q).1 = d ∧ l = (putTo xs k q).2.length) ∧ Hid (l ≤ q + (if d then 1 else 0)) ∧ Hid (wr.ownsRow w.heap.size 2 1 ov l ((putTo xs k q).2.flatMap intC)) ∧ IsX w wr) (fun _ _ iv _ => n - (intOf iv).toNat)
  case atStart => exact ⟨0, 0, false, Nat.zero_le _, by omega, rfl, rfl, hide ⟨rfl, rfl⟩, hide (Nat.zero_le _), HO, (IsX.refl w).alloc _⟩
  case round =>
    clear HO
    obtain ⟨q, l, d, hq, hl, rfl, rfl, HD, HB, HO, p, rfl⟩ := hrel
    by_cases hlt : q < n
    · have hltx : q < xs.length := HN.out ▸ hlt
      obtain ⟨b, off, rfl, hb, c0⟩ := int_rd hA (show xs[q]? = some xs[q] from List.getElem?_eq_getElem _)
      clear hA
      cases d
      · by_cases hk : k ≤ xs[q]
        · by_cases hk2 : k < xs[q]
          · have HY := hide (putTo_d hltx HD.out.1 hk hk2)
            have hl2 : l ≤ q := HB.out
            go_wp2_with first | (at_builtin; obtain ⟨i0, hi0, hz0, hz1, hz2⟩ := HI.out; refine wpList_append_any _ rfl (.tmp 31) (.tmp 33) _ rfl w.heap.size 2 i0 _ 1 8 Try.underlying23 hi0 hz0 hz1 hz2 rfl (by omega) _ l ((putTo xs k q).2.flatMap intC) rfl (HO.out.alloc _) _ (some ⟨(xt w p).heap.size, 0, none⟩) 1 1 [.int .i64 k] rfl (one_reads' (xt w p) 2 k) (one_one' k) (by simp only [maxLen]; omega) (by omega) (by have := size_xt w p; simp; omega) ?_; clear hi0 hz0 hz1 hz2; intro v1 w1 hown1 hg1 hat1; have HO1 := hide hown1; have hx1 : IsX w w1 := IsX.grown (IsX.alloc (w' := xt w p) ⟨p, rfl⟩ _) hg1 (by intro z hz; exact (HO.out.lt z hz).1); clear hown1 hg1 hat1; obtain ⟨p1, rfl⟩ := hx1) | (at_builtin; obtain ⟨i0, hi0, hz0, hz1, hz2⟩ := HI.out; refine wpList_append_any _ rfl (.tmp 35) (.tmp 40) _ rfl w.heap.size 2 i0 _ 1 8 Try.underlying23 hi0 hz0 hz1 hz2 rfl (by omega) _ (l + 1) ((putTo xs k q).2.flatMap intC ++ [.int .i64 k]) rfl (HO1.out.alloc _) _ (some ⟨(xt w p1).heap.size, 0, none⟩) 1 1 [.int .i64 xs[q]] rfl (one_reads' (xt w p1) 2 xs[q]) (one_one' xs[q]) (by simp only [maxLen]; omega) (by omega) (by have := size_xt w p1; simp; omega) ?_; clear hi0 hz0 hz1 hz2; intro v1 w1 hown1 hg1 hat1; have HO2 := hide hown1; have hx1 : IsX w w1 := IsX.grown (IsX.alloc (w' := xt w p1) ⟨p1, rfl⟩ _) hg1 (by intro z hz; exact (HO1.out.lt z hz).1); clear hown1 hg1 hat1; obtain ⟨p2, rfl⟩ := hx1)
            go_roundw
            case rel => exact ⟨q + 1, l + 1 + 1, true, by omega, by omega, by go_num, rfl, hide ⟨HY.out.1, by rw [HY.out.2, HD.out.2]; simp⟩, hide (by show l + 1 + 1 ≤ q + 1 + 1; omega), hide (by
              rw [HY.out.2, List.flatMap_append, List.flatMap_append]; exact HO2.out), ⟨p2, rfl⟩⟩
            case measure => simp [intOf]; omega
          · have HY := hide (putTo_c hltx HD.out.1 hk hk2)
            have hl2 : l ≤ q := HB.out
            go_wp2_with (at_builtin; obtain ⟨i0, hi0, hz0, hz1, hz2⟩ := HI.out; refine wpList_append_any _ rfl (.tmp 35) (.tmp 40) _ rfl w.heap.size 2 i0 _ 1 8 Try.underlying23 hi0 hz0 hz1 hz2 rfl (by omega) _ l ((putTo xs k q).2.flatMap intC) rfl (HO.out.alloc _) _ (some ⟨(xt w p).heap.size, 0, none⟩) 1 1 [.int .i64 xs[q]] rfl (one_reads' (xt w p) 2 xs[q]) (one_one' xs[q]) (by simp only [maxLen]; omega) (by omega) (by have := size_xt w p; simp; omega) ?_; clear hi0 hz0 hz1 hz2; intro v1 w1 hown1 hg1 hat1; have HO1 := hide hown1; have hx1 : IsX w w1 := IsX.grown (IsX.alloc (w' := xt w p) ⟨p, rfl⟩ _) hg1 (by intro z hz; exact (HO.out.lt z hz).1); clear hown1 hg1 hat1; obtain ⟨p1, rfl⟩ := hx1)
            go_roundw
            case rel => exact ⟨q + 1, l + 1, true, by omega, by omega, by go_num, rfl, hide ⟨HY.out.1, by rw [HY.out.2, HD.out.2]; simp⟩, hide (by show l + 1 ≤ q + 1 + 1; omega), hide (by
              rw [HY.out.2, List.flatMap_append]; exact HO1.out), ⟨p1, rfl⟩⟩
            case measure => simp [intOf]; omega
        · have HY := hide (putTo_b hltx HD.out.1 hk)
          have hl2 : l ≤ q := HB.out
          go_wp2_with (at_builtin; obtain ⟨i0, hi0, hz0, hz1, hz2⟩ := HI.out; refine wpList_append_any _ rfl (.tmp 35) (.tmp 40) _ rfl w.heap.size 2 i0 _ 1 8 Try.underlying23 hi0 hz0 hz1 hz2 rfl (by omega) _ l ((putTo xs k q).2.flatMap intC) rfl (HO.out.alloc _) _ (some ⟨(xt w p).heap.size, 0, none⟩) 1 1 [.int .i64 xs[q]] rfl (one_reads' (xt w p) 2 xs[q]) (one_one' xs[q]) (by simp only [maxLen]; omega) (by omega) (by have := size_xt w p; simp; omega) ?_; clear hi0 hz0 hz1 hz2; intro v1 w1 hown1 hg1 hat1; have HO1 := hide hown1; have hx1 : IsX w w1 := IsX.grown (IsX.alloc (w' := xt w p) ⟨p, rfl⟩ _) hg1 (by intro z hz; exact (HO.out.lt z hz).1); clear hown1 hg1 hat1; obtain ⟨p1, rfl⟩ := hx1)
          go_roundw
          case rel => exact ⟨q + 1, l + 1, false, by omega, by omega, by go_num, rfl, hide ⟨HY.out.1, by rw [HY.out.2, HD.out.2]; simp⟩, hide (by show l + 1 ≤ q + 1 + 0; omega), hide (by
            rw [HY.out.2, List.flatMap_append]; exact HO1.out), ⟨p1, rfl⟩⟩
          case measure => simp [intOf]; omega
      · have HY := hide (putTo_a hltx HD.out.1)
        have hl2 : l ≤ q + 1 := HB.out
        go_wp2_with (at_builtin; obtain ⟨i0, hi0, hz0, hz1, hz2⟩ := HI.out; refine wpList_append_any _ rfl (.tmp 35) (.tmp 40) _ rfl w.heap.size 2 i0 _ 1 8 Try.underlying23 hi0 hz0 hz1 hz2 rfl (by omega) _ l ((putTo xs k q).2.flatMap intC) rfl (HO.out.alloc _) _ (some ⟨(xt w p).heap.size, 0, none⟩) 1 1 [.int .i64 xs[q]] rfl (one_reads' (xt w p) 2 xs[q]) (one_one' xs[q]) (by simp only [maxLen]; omega) (by omega) (by have := size_xt w p; simp; omega) ?_; clear hi0 hz0 hz1 hz2; intro v1 w1 hown1 hg1 hat1; have HO1 := hide hown1; have hx1 : IsX w w1 := IsX.grown (IsX.alloc (w' := xt w p) ⟨p, rfl⟩ _) hg1 (by intro z hz; exact (HO.out.lt z hz).1); clear hown1 hg1 hat1; obtain ⟨p1, rfl⟩ := hx1)
        go_roundw
        case rel => exact ⟨q + 1, l + 1, true, by omega, by omega, by go_num, rfl, hide ⟨HY.out.1, by rw [HY.out.2, HD.out.2]; simp⟩, hide (by show l + 1 ≤ q + 1 + 1; omega), hide (by
          rw [HY.out.2, List.flatMap_append]; exact HO1.out), ⟨p1, rfl⟩⟩
        case measure => simp [intOf]; omega
    · obtain rfl : q = n := by omega
      clear hA
      cases d
      · have HZ := hide (show (putTo xs k q).2 ++ [k] = insK xs k from by
          have := put_last (xs := xs) (k := k) (by rw [← HN.out]; exact HD.out.1)
          rw [← HN.out] at this
          exact this)
        go_wp2_with (at_builtin; obtain ⟨i0, hi0, hz0, hz1, hz2⟩ := HI.out; refine wpList_append_any _ rfl (.tmp 44) (.tmp 46) _ rfl w.heap.size 2 i0 _ 1 8 Try.underlying23 hi0 hz0 hz1 hz2 rfl (by omega) _ l ((putTo xs k q).2.flatMap intC) rfl (HO.out.alloc _) _ (some ⟨(xt w p).heap.size, 0, none⟩) 1 1 [.int .i64 k] rfl (one_reads' (xt w p) 2 k) (one_one' k) (by simp only [maxLen]; omega) (by omega) (by have := size_xt w p; simp; omega) ?_; clear hi0 hz0 hz1 hz2; intro v1 w1 hown1 hg1 hat1; have HO1 := hide hown1; have hx1 : IsX w w1 := IsX.grown (IsX.alloc (w' := xt w p) ⟨p, rfl⟩ _) hg1 (by intro z hz; exact (HO.out.lt z hz).1); clear hown1 hg1 hat1; obtain ⟨p1, rfl⟩ := hx1)
        obtain ⟨A', c', hform⟩ := row_slice HO1.out
        subst hform
        go_ret
        have hlen : (insK xs k).length = l + 1 := by rw [← HZ.out, List.length_append, ← HD.out.2]; rfl
        refine ⟨A', c', by rw [hlen]; rfl, ?_, ⟨p1, rfl⟩⟩
        rw [hlen]
        unfold Own
        rw [hlen, ← HZ.out, List.flatMap_append]
        exact HO1.out
      · have HZ := hide (show (putTo xs k q).2 = insK xs k from by
          have := put_done (xs := xs) (k := k) (by rw [← HN.out]; exact HD.out.1)
          rw [← HN.out] at this
          exact this)
        obtain ⟨A', c', hform⟩ := row_slice HO.out
        subst hform
        go_wp2_with fail
        go_ret
        have hlen : (insK xs k).length = l := by rw [← HZ.out, ← HD.out.2]
        refine ⟨A', c', by rw [hlen]; rfl, ?_, ⟨p, rfl⟩⟩
        rw [hlen]
        unfold Own
        rw [hlen, ← HZ.out]
        exact HO.out

theorem grown_size (w : World) (n : Nat) (e : Nat) (z : Value) (hz : z.cells.size = 1) : (Builtin.zeroCells z.cells n ++ Builtin.zeroCells z.cells (grownCap w n 0 e - n)).size = grownCap w n 0 e := by
  have := grownCap_ge w n 0 e
  simp [Builtin.zeroCells, hz]; omega
set_option maxRecDepth 100000 in
set_option maxHeartbeats 1600000 in
theorem c_Grow0 (n : Nat) (w : World) (hn : n ≤ 2199023255552) :
    Calls Try.prog 105 #[.slice none 0 0, .int .i64 n] w fun e w' => ∃ A c, e = .returned (.slice A 0 c) ∧ w'.ownsRow w.heap.size 2 1 (.slice A 0 c) 0 [] ∧ IsX w w' := by
  by_cases h0 : n = 0
  · subst h0
    go_enter Try.func105, Try.ntmps105
    rw [show (((0 : Nat) : Int)) = 0 from rfl]
    go_wp2_with fail
    go_ret
    exact ⟨none, 0, rfl, World.ownsRow_nil _ _ _ _, IsX.refl _⟩
  · obtain ⟨i0, hi0, hz0, hz1, hz2⟩ := info_parts Int64_info
    have hr := Lib.run_append_nil_zeros (P := Try.prog) w 23 3 23 2 i0 _ .i64 .i64 Try.underlying23 Try.underlying3 hi0 hz0 n (by omega) (by omega) (by omega) (by rw [hz2]; omega)
    have hc := grownCap_ge w n 0 2
    have hc2 := grownCap_le_maxLen w n 0 2 (by unfold maxLen; omega)
    have hcs := grown_size w n 2 (.int .i64 0) rfl
    obtain ⟨cur, hcur⟩ : ∃ cur, cur = Builtin.zeroCells (Value.int .i64 0).cells n ++ Builtin.zeroCells (Value.int .i64 0).cells (grownCap w n 0 2 - n) := ⟨_, rfl⟩
    rw [← hcur] at hr hcs
    generalize grownCap w n 0 2 = cap at hr hc hc2 hcs
    obtain ⟨W, hW⟩ : ∃ W, W = w.drew.alloc (.cells cur 2) := ⟨_, rfl⟩
    have HX : Hid (IsX w W) := hide (hW ▸ (IsX.refl w).drew.alloc _)
    have HB : Hid (W.heap[w.heap.size]? = some (.cells cur 2 (0, 0))) := hide (hW ▸ heap_alloc_new _ _)
    have HR := hide (show (Builtin.append_ #[23, 3] 23 #[.slice none 0 0, .int .i64 n]).run Try.prog w = .ok (.slice (some ⟨w.heap.size, 0, none⟩) n cap) W from hW ▸ hr)
    clear hr hi0 hz0 hz1 hz2 hW hcur
    have hpos : 0 < n := by omega
    clear h0
    have h1 : ¬ ((n : Int) < 0) := by omega
    have h3 : wrap64 ((n : Int) - 0) = (n : Int) := by unfold wrap64; omega
    have h4 : (n : Int) > 0 := by omega
    have h5 : cap ≤ 9223372036854775807 := hc2
    go_enter Try.func105, Try.ntmps105
    go_wp2_with (at_builtin; refine Lib.wpList_append_run _ rfl (.tmp 20) (.tmp 21) _ _ rfl _ _ rfl rfl _ _ HR.out ?_)
    go_ret
    exact ⟨_, _, rfl, ⟨by simp, .inr ⟨_, cap, _, rfl, Nat.le_refl _, HB.out, by omega, hc2, by rw [hcs]; omega, by simp⟩⟩, HX.out⟩
def catTo (ys zs : List Int) : Nat → List Int
  | 0 => []
  | 1 => ys
  | _ => ys ++ zs
def catN (n m : Nat) : Nat → Nat
  | 0 => 0
  | 1 => n
  | _ => n + m
set_option maxHeartbeats 3200000 in
theorem c_Concat (b t : Nat) (A1 : Option Addr) (c1 : Nat) (ys : List Int) (A2 : Option Addr) (c2 : Nat) (zs : List Int) (w : World) (hn1 : ys.length ≤ 1099511627776) (hn2 : zs.length ≤ 1099511627776) (hA1 : Rd intC 1 w A1 ys) (hA2 : Rd intC 1 w A2 zs)
    (hB : Blk w b t #[.slice A1 ys.length c1, .slice A2 zs.length c2]) :
    Calls Try.prog 79 #[.slice (some ⟨b, 0, none⟩) 2 2] w fun e w' => ∃ A c, e = .returned (.slice A (ys ++ zs).length c) ∧ Own intC 1 2 w' w.heap.size (.slice A (ys ++ zs).length c) (ys ++ zs) ∧ IsX w w' := by
  have HI := hide (info_parts Int64_info)
  have HR1 := hide (fun (W : World) (hx : IsX w W) => (hA1.x hx).reads (by omega) intC_len)
  have HR2 := hide (fun (W : World) (hx : IsX w W) => (hA2.x hx).reads (by omega) intC_len)
  obtain ⟨n, hnn⟩ : ∃ n, n = ys.length := ⟨_, rfl⟩
  obtain ⟨m, hmm⟩ : ∃ m, m = zs.length := ⟨_, rfl⟩
  have HL := hide (show (ys ++ zs).length = n + m by rw [List.length_append, hnn, hmm])
  rw [← hnn] at hn1
  rw [← hmm] at hn2
  have d0 := hB.cell 0
  have d1 := hB.cell 1
  simp at d0 d1
  rw [← hnn] at d0
  rw [← hmm] at d1
  have hb := hB.lt
  have HN1 := hide hnn
  have HN2 := hide hmm
  clear hnn hmm hB hA1 hA2
  go_enter Try.func79, Try.ntmps79
  go_wp2_with fail
  go_loopw [3, 11] (fun sv iv wr => ∃ q : Nat, q ≤ 2 ∧ iv = .int .i64 q ∧ sv = .int .i64 ((catN n m q : Nat) : Int) ∧ IsX w wr) (fun _ iv _ => 2 - (intOf iv).toNat)
  case atStart => exact ⟨0, by omega, rfl, rfl, IsX.refl _⟩
  case round =>
    obtain ⟨q, hq, rfl, rfl, p, rfl⟩ := hrel
    rcases (show q = 0 ∨ q = 1 ∨ q = 2 by omega) with rfl | rfl | rfl
    · rw [show (((0 : Nat) : Int)) = 0 from rfl]
      rw [show catN n m 0 = 0 from rfl]
      rw [show (((0 : Nat) : Int)) = 0 from rfl]
      go_wp2_with fail
      go_roundw
      case rel => exact ⟨1, by omega, rfl, by simp [catN], ⟨p, rfl⟩⟩
      case measure => simp [intOf]
    · rw [show (((1 : Nat) : Int)) = 1 from rfl]
      rw [show catN n m 1 = n from rfl]
      go_wp2_with fail
      go_roundw
      case rel => exact ⟨2, by omega, rfl, by simp [catN], ⟨p, rfl⟩⟩
      case measure => simp [intOf]
    · rw [show (((2 : Nat) : Int)) = 2 from rfl]
      rw [show catN n m 2 = n + m from rfl]
      go_wp2_with fail
      refine (c_Grow0 (n + m) (xt w p) (by omega)).mono ?_
      rintro e w2 ⟨A, c, rfl, hO, hx2⟩
      have HO : Hid (w2.ownsRow w.heap.size 2 1 (.slice A 0 c) 0 []) := hide (row_le hO (size_xt w p))
      clear hO
      obtain ⟨p2, rfl⟩ := IsX.trans ⟨p, rfl⟩ hx2
      clear hx2
      go_wp2_with fail
      go_loopw [6, 27] (fun ov iv wr => ∃ q : Nat, q ≤ 2 ∧ iv = .int .i64 q ∧ Hid (wr.ownsRow w.heap.size 2 1 ov (catN n m q) ((catTo ys zs q).flatMap intC)) ∧ IsX w wr) (fun _ iv _ => 2 - (intOf iv).toNat)
      case atStart => exact ⟨0, by omega, rfl, HO, ⟨p2, rfl⟩⟩
      case round =>
        clear HO
        obtain ⟨q, hq, rfl, HO, p3, rfl⟩ := hrel
        rcases (show q = 0 ∨ q = 1 ∨ q = 2 by omega) with rfl | rfl | rfl
        · rw [show (((0 : Nat) : Int)) = 0 from rfl]
          replace HO : Hid (_root_.Go.World.ownsRow (xt w p3) w.heap.size 2 1 _ 0 []) := HO
          go_wp2_with (at_builtin; obtain ⟨i0, hi0, hz0, hz1, hz2⟩ := HI.out; refine wpList_append_any _ rfl (.tmp 31) (.tmp 32) _ rfl w.heap.size 2 i0 _ 1 8 Try.underlying23 hi0 hz0 hz1 hz2 rfl (by omega) _ 0 [] rfl HO.out _ A1 n c1 (ys.flatMap intC) rfl (HN1.out ▸ HR1.out _ ⟨p3, rfl⟩) (cells_one ys) (by simp only [maxLen]; omega) (by omega) (size_xt w p3) ?_; clear hi0 hz0 hz1 hz2; intro v1 w1 hown1 hg1 hat1; have HO1 := hide hown1; have hx1 : IsX w w1 := IsX.grown ⟨p3, rfl⟩ hg1 (by intro z hz; exact (HO.out.lt z hz).1); clear hown1 hg1 hat1; obtain ⟨p4, rfl⟩ := hx1)
          go_roundw
          case rel => exact ⟨1, by omega, rfl, hide (by
            have h := HO1.out
            rw [Nat.zero_add, List.nil_append] at h
            exact h), ⟨p4, rfl⟩⟩
          case measure => simp [intOf]
        · rw [show (((1 : Nat) : Int)) = 1 from rfl]
          replace HO : Hid (_root_.Go.World.ownsRow (xt w p3) w.heap.size 2 1 _ n (ys.flatMap intC)) := HO
          go_wp2_with (at_builtin; obtain ⟨i0, hi0, hz0, hz1, hz2⟩ := HI.out; refine wpList_append_any _ rfl (.tmp 31) (.tmp 32) _ rfl w.heap.size 2 i0 _ 1 8 Try.underlying23 hi0 hz0 hz1 hz2 rfl (by omega) _ n (ys.flatMap intC) rfl HO.out _ A2 m c2 (zs.flatMap intC) rfl (HN2.out ▸ HR2.out _ ⟨p3, rfl⟩) (cells_one zs) (by simp only [maxLen]; omega) (by omega) (size_xt w p3) ?_; clear hi0 hz0 hz1 hz2; intro v1 w1 hown1 hg1 hat1; have HO1 := hide hown1; have hx1 : IsX w w1 := IsX.grown ⟨p3, rfl⟩ hg1 (by intro z hz; exact (HO.out.lt z hz).1); clear hown1 hg1 hat1; obtain ⟨p4, rfl⟩ := hx1)
          go_roundw
          case rel => exact ⟨2, by omega, rfl, hide (by
            show World.ownsRow _ _ _ _ _ (n + m) ((ys ++ zs).flatMap intC)
            rw [List.flatMap_append]
            exact HO1.out), ⟨p4, rfl⟩⟩
          case measure => simp [intOf]
        · rw [show (((2 : Nat) : Int)) = 2 from rfl]
          replace HO : Hid (_root_.Go.World.ownsRow (xt w p3) w.heap.size 2 1 _ (n + m) ((ys ++ zs).flatMap intC)) := HO
          obtain ⟨A', c', hform⟩ := row_slice HO.out
          subst hform
          go_wp2_with fail
          go_ret
          refine ⟨A', c', by rw [HL.out]; rfl, ?_, ⟨p3, rfl⟩⟩
          rw [HL.out]
          unfold Own
          rw [HL.out]
          exact HO.out

end Go.Proofs.Ytkepoedicgognaa
