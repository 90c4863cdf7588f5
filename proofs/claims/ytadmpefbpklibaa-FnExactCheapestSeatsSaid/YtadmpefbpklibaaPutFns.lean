/- Numbers put into rising lists, joined lists: what l00Put, slices.Grow and slices.Concat compute. Conditions: lists no longer than 2^40. -/
import Derived.Test.YtadmpefbpklibaaBookLaw
import Derived.Lib.AppendZeros
namespace Go.Proofs.Ytadmpefbpklibaa
set_option linter.unusedVariables false
open Go.RowKit

set_option maxHeartbeats 3200000 in
theorem c_l00Put (A : Option Addr) (n c : Nat) (xs : List Int) (k : Int) (w : World) (hnn : n = xs.length) (hn : n ≤ 1099511627776) (hA : Rd intC 1 w A xs) :
    Calls Try.prog 18 #[.slice A n c, .int .i64 k] w fun e w' => ∃ A' c', e = .returned (.slice A' (insK xs k).length c') ∧ Own intC 1 2 w' w.heap.size (.slice A' (insK xs k).length c') (insK xs k) ∧ IsX w w' := by
  have HI := hide (info_parts Int64_info)
  have HN := hide hnn
  clear hnn
  go_enter Try.func18, Try.ntmps18
  go_wp2_with fail
  have HO : Hid ((w.alloc (.cells #[] 2)).ownsRow w.heap.size 2 1 (.slice (some ⟨w.heap.size, 0, none⟩) 0 0) 0 []) := hide (World.ownsRow_made w #[] 0 (Nat.le_refl _) (by simp [maxLen]) rfl)
  go_loopw [5, 6, 7] (fun ov dv iv wr => ∃ (q l : Nat) (d : Bool), q ≤ n ∧ l ≤ q + 1 ∧ iv = .int .i64 q ∧ dv = .bool d ∧ Hid ((putTo xs k q).1 = d ∧ l = (putTo xs k q).2.length) ∧ Hid (l ≤ q + (if d then 1 else 0)) ∧ Hid (wr.ownsRow w.heap.size 2 1 ov l ((putTo xs k q).2.flatMap intC)) ∧ IsX w wr) (fun _ _ iv _ => n - (intOf iv).toNat)
  case atStart => exact ⟨0, 0, false, Nat.zero_le _, by omega, rfl, rfl, hide ⟨rfl, rfl⟩, hide (Nat.zero_le _), HO, (IsX.refl w).alloc _⟩
  case round =>
    clear HO
    obtain ⟨q, l, d, hq, hl, rfl, rfl, HD, HB, HO, p, rfl⟩ := hrel
    by_cases hlt : q < n
    · have hltx : q < xs.length := HN.out ▸ hlt
      obtain ⟨b, off, rfl, hb, c0⟩ := int_rd hA (show xs[q]? = some xs[q] from List.getElem?_eq_getElem _)
      clear hA
      cases d
      · by_cases hk : k ≤ xs[q]
        · by_cases hk2 : k < xs[q]
          · have HY := hide (putTo_d hltx HD.out.1 hk hk2)
            have hl2 : l ≤ q := HB.out
            go_wp2_with first | (at_builtin; obtain ⟨i0, hi0, hz0, hz1, hz2⟩ := HI.out; refine wpList_append_any _ rfl (.tmp 31) (.tmp 33) _ rfl w.heap.size 2 i0 _ 1 8 Try.underlying23 hi0 hz0 hz1 hz2 rfl (by omega) _ l ((putTo xs k q).2.flatMap intC) rfl (HO.out.alloc _) _ (some ⟨(xt w p).heap.size, 0, none⟩) 1 1 [.int .i64 k] rfl (one_reads' (xt w p) 2 k) (one_one' k) (by simp only [maxLen]; omega) (by omega) (by have := size_xt w p; simp; omega) ?_; clear hi0 hz0 hz1 hz2; intro v1 w1 hown1 hg1 hat1; have HO1 := hide hown1; have hx1 : IsX w w1 := IsX.grown (IsX.alloc (w' := xt w p) ⟨p, rfl⟩ _) hg1 (by intro z hz; exact (HO.out.lt z hz).1); clear hown1 hg1 hat1; obtain ⟨p1, rfl⟩ := hx1) | (at_builtin; obtain ⟨i0, hi0, hz0, hz1, hz2⟩ := HI.out; refine wpList_append_any _ rfl (.tmp 35) (.tmp 40) _ rfl w.heap.size 2 i0 _ 1 8 Try.underlying23 hi0 hz0 hz1 hz2 rfl (by omega) _ (l + 1) ((putTo xs k q).2.flatMap intC ++ [.int .i64 k]) rfl (HO1.out.alloc _) _ (some ⟨(xt w p1).heap.size, 0, none⟩) 1 1 [.int .i64 xs[q]] rfl (one_reads' (xt w p1) 2 xs[q]) (one_one' xs[q]) (by simp only [maxLen]; omega) (by omega) (by have := size_xt w p1; simp; omega) ?_; clear hi0 hz0 hz1 hz2; intro v1 w1 hown1 hg1 hat1; have HO2 := hide hown1; have hx1 : IsX w w1 := IsX.grown (IsX.alloc (w' := xt w p1) ⟨p1, rfl⟩ _) hg1 (by intro z hz; exact (HO1.out.lt z hz).1); clear hown1 hg1 hat1; obtain ⟨p2, rfl⟩ := hx1)
            go_roundw
            case rel => exact ⟨q + 1, l + 1 + 1, true, by omega, by omega, by go_num, rfl, hide ⟨HY.out.1, by rw [HY.out.2, HD.out.2]; simp⟩, hide (by show l + 1 + 1 ≤ q + 1 + 1; omega), hide (by
              rw [HY.out.2, List.flatMap_append, List.flatMap_append]; exact HO2.out), ⟨p2, rfl⟩⟩
            case measure => simp [intOf]; omega
          · have HY := hide (putTo_c hltx HD.out.1 hk hk2)
            have hl2 : l ≤ q := HB.out
            go_wp2_with (at_builtin; obtain ⟨i0, hi0, hz0, hz1, hz2⟩ := HI.out; refine wpList_append_any _ rfl (.tmp 35) (.tmp 40) _ rfl w.heap.size 2 i0 _ 1 8 Try.underlying23 hi0 hz0 hz1 hz2 rfl (by omega) _ l ((putTo xs k q).2.flatMap intC) rfl (HO.out.alloc _) _ (some ⟨(xt w p).heap.size, 0, none⟩) 1 1 [.int .i64 xs[q]] rfl (one_reads' (xt w p) 2 xs[q]) (one_one' xs[q]) (by simp only [maxLen]; omega) (by omega) (by have := size_xt w p; simp; omega) ?_; clear hi0 hz0 hz1 hz2; intro v1 w1 hown1 hg1 hat1; have HO1 := hide hown1; have hx1 : IsX w w1 := IsX.grown (IsX.alloc (w' := xt w p) ⟨p, rfl⟩ _) hg1 (by intro z hz; exact (HO.out.lt z hz).1); clear hown1 hg1 hat1; obtain ⟨p1, rfl⟩ := hx1)
            go_roundw
            case rel => exact ⟨q + 1, l + 1, true, by omega, by omega, by go_num, rfl, hide ⟨HY.out.1, by rw [HY.out.2, HD.out.2]; simp⟩, hide (by show l + 1 ≤ q + 1 + 1; omega), hide (by
              rw [HY.out.2, List.flatMap_append]; exact HO1.out), ⟨p1, rfl⟩⟩
            case measure => simp [intOf]; omega
        · have HY := hide (putTo_b hltx HD.out.1 hk)
          have hl2 : l ≤ q := HB.out
          go_wp2_with (at_builtin; obtain ⟨i0, hi0, hz0, hz1, hz2⟩ := HI.out; refine wpList_append_any _ rfl (.tmp 35) (.tmp 40) _ rfl w.heap.size 2 i0 _ 1 8 Try.underlying23 hi0 hz0 hz1 hz2 rfl (by omega) _ l ((putTo xs k q).2.flatMap intC) rfl (HO.out.alloc _) _ (some ⟨(xt w p).heap.size, 0, none⟩) 1 1 [.int .i64 xs[q]] rfl (one_reads' (xt w p) 2 xs[q]) (one_one' xs[q]) (by simp only [maxLen]; omega) (by omega) (by have := size_xt w p; simp; omega) ?_; clear hi0 hz0 hz1 hz2; intro v1 w1 hown1 hg1 hat1; have HO1 := hide hown1; have hx1 : IsX w w1 := IsX.grown (IsX.alloc (w' := xt w p) ⟨p, rfl⟩ _) hg1 (by intro z hz; exact (HO.out.lt z hz).1); clear hown1 hg1 hat1; obtain ⟨p1, rfl⟩ := hx1)
          go_roundw
          case rel => exact ⟨q + 1, l + 1, false, by omega, by omega, by go_num, rfl, hide ⟨HY.out.1, by rw [HY.out.2, HD.out.2]; simp⟩, hide (by show l + 1 ≤ q + 1 + 0; omega), hide (by
            rw [HY.out.2, List.flatMap_append]; exact HO1.out), ⟨p1, rfl⟩⟩
          case measure => simp [intOf]; omega
      · have HY := hide (putTo_a hltx HD.out.1)
        have hl2 : l ≤ q + 1 := HB.out
        go_wp2_with (at_builtin; obtain ⟨i0, hi0, hz0, hz1, hz2⟩ := HI.out; refine wpList_append_any _ rfl (.tmp 35) (.tmp 40) _ rfl w.heap.size 2 i0 _ 1 8 Try.underlying23 hi0 hz0 hz1 hz2 rfl (by omega) _ l ((putTo xs k q).2.flatMap intC) rfl (HO.out.alloc _) _ (some ⟨(xt w p).heap.size, 0, none⟩) 1 1 [.int .i64 xs[q]] rfl (one_reads' (xt w p) 2 xs[q]) (one_one' xs[q]) (by simp only [maxLen]; omega) (by omega) (by have := size_xt w p; simp; omega) ?_; clear hi0 hz0 hz1 hz2; intro v1 w1 hown1 hg1 hat1; have HO1 := hide hown1; have hx1 : IsX w w1 := IsX.grown (IsX.alloc (w' := xt w p) ⟨p, rfl⟩ _) hg1 (by intro z hz; exact (HO.out.lt z hz).1); clear hown1 hg1 hat1; obtain ⟨p1, rfl⟩ := hx1)
        go_roundw
        case rel => exact ⟨q + 1, l + 1, true, by omega, by omega, by go_num, rfl, hide ⟨HY.out.1, by rw [HY.out.2, HD.out.2]; simp⟩, hide (by show l + 1 ≤ q + 1 + 1; omega), hide (by
          rw [HY.out.2, List.flatMap_append]; exact HO1.out), ⟨p1, rfl⟩⟩
        case measure => simp [intOf]; omega
    · obtain rfl : q = n := by omega
      clear hA
      cases d
      · have HZ := hide (show (putTo xs k q).2 ++ [k] = insK xs k from by
          have := put_last (xs := xs) (k := k) (by rw [← HN.out]; exact HD.out.1)
          rw [← HN.out] at this
          exact this)
        go_wp2_with (at_builtin; obtain ⟨i0, hi0, hz0, hz1, hz2⟩ := HI.out; refine wpList_append_any _ rfl (.tmp 44) (.tmp 46) _ rfl w.heap.size 2 i0 _ 1 8 Try.underlying23 hi0 hz0 hz1 hz2 rfl (by omega) _ l ((putTo xs k q).2.flatMap intC) rfl (HO.out.alloc _) _ (some ⟨(xt w p).heap.size, 0, none⟩) 1 1 [.int .i64 k] rfl (one_reads' (xt w p) 2 k) (one_one' k) (by simp only [maxLen]; omega) (by omega) (by have := size_xt w p; simp; omega) ?_; clear hi0 hz0 hz1 hz2; intro v1 w1 hown1 hg1 hat1; have HO1 := hide hown1; have hx1 : IsX w w1 := IsX.grown (IsX.alloc (w' := xt w p) ⟨p, rfl⟩ _) hg1 (by intro z hz; exact (HO.out.lt z hz).1); clear hown1 hg1 hat1; obtain ⟨p1, rfl⟩ := hx1)
        obtain ⟨A', c', hform⟩ := row_slice HO1.out
        subst hform
        go_ret
        have hlen : (insK xs k).length = l + 1 := by rw [← HZ.out, List.length_append, ← HD.out.2]; rfl
        refine ⟨A', c', by rw [hlen]; rfl, ?_, ⟨p1, rfl⟩⟩
        rw [hlen]
        unfold Own
        rw [hlen, ← HZ.out, List.flatMap_append]
        exact HO1.out
      · have HZ := hide (show (putTo xs k q).2 = insK xs k from by
          have := put_done (xs := xs) (k := k) (by rw [← HN.out]; exact HD.out.1)
          rw [← HN.out] at this
          exact this)
        obtain ⟨A', c', hform⟩ := row_slice HO.out
        subst hform
        go_wp2_with fail
        go_ret
        have hlen : (insK xs k).length = l := by rw [← HZ.out, ← HD.out.2]
        refine ⟨A', c', by rw [hlen]; rfl, ?_, ⟨p, rfl⟩⟩
        rw [hlen]
        unfold Own
        rw [hlen, ← HZ.out]
        exact HO.out

end Go.Proofs.Ytadmpefbpklibaa
