/- An offer added: the reference's walk. Conditions: lists no longer than 2^40. -/
import Derived.Test.YthahbdpholpmkaaAddLaw
import Derived.Test.YthahbdpholpmkaaTail
namespace Go.Proofs.Ythahbdpholpmkaa
set_option linter.unusedVariables false
open Go.RowKit

set_option maxRecDepth 100000 in
set_option maxHeartbeats 6400000 in
theorem s_AddOffer (b0 : Nat) (xs0 : List OfferD) (x1 : OfferD) (w : World) (hn0 : xs0.length ≤ 1099511627776) (hw0 : ∀ x ∈ xs0, x.wf) (hA0 : Rd OfferD.cells 5 w (some ⟨b0, 0, none⟩) xs0) (hx1 : x1.wf) :
    Calls Try.prog 51 #[.slice (some ⟨b0, 0, none⟩) xs0.length xs0.length, .agg #[.string x1.Id, .string x1.Kind, .int .i64 x1.Start, .int .i64 x1.Length, .int .i64 x1.Worth]] w (SlPost OfferD.cells 5 76 w (addZ xs0 x1) (addC xs0 x1)) := by
  have hs0 : x1.Id.size ≤ maxLen := by simp only [OfferD.wf] at hx1; omega
  have hs1 : x1.Kind.size ≤ maxLen := by simp only [OfferD.wf] at hx1; omega
  cases hv : offersB xs0
  · have HB := hide (add_bad (x := x1) (show addOk xs0 x1 = false by simp [addOk, hv]))
    go_enter Try.func51, Try.ntmps51
    go_wp2_with fail
    obtain ⟨W, hW⟩ : ∃ W, W = w.alloc (.cells #[.string x1.Id, .string x1.Kind, .int .i64 x1.Start, .int .i64 x1.Length, .int .i64 x1.Worth] 76) := ⟨_, rfl⟩
    have hx : IsX w W := hW ▸ (IsX.refl w).alloc _
    have hB : Blk W w.heap.size 76 #[.string x1.Id, .string x1.Kind, .int .i64 x1.Start, .int .i64 x1.Length, .int .i64 x1.Worth] := hW ▸ Blk.new w _ _
    rw [← hW]
    clear hW
    refine (cb (c_l22Ok (some ⟨b0, 0, none⟩) xs0.length xs0 W hn0 hw0 (hA0.x hx)) hv).mono ?_
    rintro e w1 ⟨rfl, hx2⟩
    replace hB := hB.x hx2
    replace hx := hx.trans hx2
    clear hx2
    go_wp2_with fail
    go_ret2
    exact SlPost.none HB.out.1 (by rw [HB.out.2]; rfl) hx
  cases ho : x1.okB
  · have HB := hide (add_bad (show addOk xs0 x1 = false by simp [addOk, ho]))
    go_enter Try.func51, Try.ntmps51
    go_wp2_with fail
    obtain ⟨W, hW⟩ : ∃ W, W = w.alloc (.cells #[.string x1.Id, .string x1.Kind, .int .i64 x1.Start, .int .i64 x1.Length, .int .i64 x1.Worth] 76) := ⟨_, rfl⟩
    have hx : IsX w W := hW ▸ (IsX.refl w).alloc _
    have hB : Blk W w.heap.size 76 #[.string x1.Id, .string x1.Kind, .int .i64 x1.Start, .int .i64 x1.Length, .int .i64 x1.Worth] := hW ▸ Blk.new w _ _
    rw [← hW]
    clear hW
    refine (cb (c_l22Ok (some ⟨b0, 0, none⟩) xs0.length xs0 W hn0 hw0 (hA0.x hx)) hv).mono ?_
    rintro e w1 ⟨rfl, hx2⟩
    replace hB := hB.x hx2
    replace hx := hx.trans hx2
    clear hx2
    go_wp2_with fail
    refine (cb (c_l22One x1 w.heap.size 0 w1 hs0 hs1 hB.lt (hB.cell 0) (hB.cell 1) (hB.cell 2) (hB.cell 3) (hB.cell 4)) ho).mono ?_
    rintro e w2 ⟨rfl, hx2⟩
    replace hB := hB.x hx2
    replace hx := hx.trans hx2
    clear hx2
    go_wp2_with fail
    go_ret2
    exact SlPost.none HB.out.1 (by rw [HB.out.2]; rfl) hx
  have HOK := hide (show addOk xs0 x1 = true by simp [addOk, hv, ho])
  have hcl := offers_len hv
  have HI := hide (info_parts Offer_info)
  go_enter Try.func51, Try.ntmps51
  go_wp2_with fail
  obtain ⟨W, hW⟩ : ∃ W, W = w.alloc (.cells #[.string x1.Id, .string x1.Kind, .int .i64 x1.Start, .int .i64 x1.Length, .int .i64 x1.Worth] 76) := ⟨_, rfl⟩
  have hx : IsX w W := hW ▸ (IsX.refl w).alloc _
  have hB : Blk W w.heap.size 76 #[.string x1.Id, .string x1.Kind, .int .i64 x1.Start, .int .i64 x1.Length, .int .i64 x1.Worth] := hW ▸ Blk.new w _ _
  rw [← hW]
  clear hW
  refine (cb (c_l22Ok (some ⟨b0, 0, none⟩) xs0.length xs0 W hn0 hw0 (hA0.x hx)) hv).mono ?_
  rintro e w1 ⟨rfl, hx2⟩
  replace hB := hB.x hx2
  replace hx := hx.trans hx2
  clear hx2
  go_wp2_with fail
  refine (cb (c_l22One x1 w.heap.size 0 w1 hs0 hs1 hB.lt (hB.cell 0) (hB.cell 1) (hB.cell 2) (hB.cell 3) (hB.cell 4)) ho).mono ?_
  rintro e w2 ⟨rfl, hx2⟩
  replace hB := hB.x hx2
  replace hx := hx.trans hx2
  clear hx2
  have HX := hide hx
  have hw2 := hx.size
  have HRA := hide (hA0.x hx)
  have k0 : w2.cell? ⟨w.heap.size, 0, none⟩ = some (.string x1.Id) := hB.cell 0
  have k1 : w2.cell? ⟨w.heap.size, 1, none⟩ = some (.string x1.Kind) := hB.cell 1
  have k2 : w2.cell? ⟨w.heap.size, 2, none⟩ = some (.int .i64 x1.Start) := hB.cell 2
  have k3 : w2.cell? ⟨w.heap.size, 3, none⟩ = some (.int .i64 x1.Length) := hB.cell 3
  have k4 : w2.cell? ⟨w.heap.size, 4, none⟩ = some (.int .i64 x1.Worth) := hB.cell 4
  have hbx := hB.lt
  obtain ⟨n, hnn⟩ : ∃ n, n = xs0.length := ⟨_, rfl⟩
  have HN := hide hnn
  rw [← hnn] at hcl ⊢
  clear hnn hv ho hw0 hA0 hx hn0 hB hs0 hs1 hx1
  go_wp2
  go_loopw [6] (fun iv wr => ∃ k : Nat, k ≤ n ∧ iv = .int .i64 k ∧ Hid (∀ i (h : i < xs0.length), i < k → lessB x1 xs0[i] = true) ∧ IsX w2 wr) (fun iv _ => n - (intOf iv).toNat)
  case atStart => exact ⟨0, Nat.zero_le _, rfl, hide (fun i h hi => absurd hi (by omega)), IsX.refl _⟩
  case round =>
    obtain ⟨k, hk, rfl, HF, p, rfl⟩ := hrel
    by_cases hlt : k < n
    · have hkx : k < xs0.length := HN.out ▸ hlt
      obtain ⟨b, off, e0, hb, c0, c1, c2, c3, c4⟩ := OfferD.rd HRA.out (show xs0[k]? = some xs0[k] from List.getElem?_eq_getElem _)
      injection e0 with e0
      injection e0 with e0 e1
      subst e0 e1
      simp only [Nat.zero_add] at c0 c1 c2 c3 c4
      clear c1 c2 c3 c4
      have hdn : decide ((k : Int) < (n : Int)) = true := decide_eq_true (by omega)
      cases hl : Op.bytesLess xs0[k].Id.toList x1.Id.toList
      rotate_left
      · have HS := hide (step_all (p := lessB x1) hkx HF.out hl)
        go_wp2
        refine wp_region_x (by kernel_rfl) (by kernel_rfl) ?_
        repeat (go_big_quiet_step (fail))
        refine wpQuiet_nil ?_
        rintro _ ⟨q, rfl⟩
        go_wp2
        go_roundw
        case rel => exact ⟨k + 1, by omega, by go_num, HS, IsX.xt ⟨p, rfl⟩ q⟩
        case measure => simp [intOf]; omega
      have HK := hide (addK_at hkx HF.out hl)
      have hta := taken_at hkx HK.out
      cases ht : (xs0[k].Id.toList == x1.Id.toList)
      rotate_left
      · have HB := hide (add_taken HOK.out (by rw [hta, ht]))
        clear hta
        try clear h16
        go_wp2
        refine wp_region_x (by kernel_rfl) (by kernel_rfl) ?_
        repeat (go_big_quiet_step (fail))
        refine wpQuiet_nil ?_
        rintro _ ⟨q, rfl⟩
        obtain ⟨pn, en⟩ : IsX w2 _ := IsX.xt ⟨p, rfl⟩ q
        rw [en]
        clear en q
        go_wp2
        refine wp_region_x (by kernel_rfl) (by kernel_rfl) ?_
        repeat (go_big_quiet_step (fail))
        refine wpQuiet_nil ?_
        rintro _ ⟨q2, rfl⟩
        go_wp2
        go_ret2
        exact SlPost.none HB.out.1 (by rw [HB.out.2]; rfl) (HX.out.trans (IsX.xt ⟨pn, rfl⟩ q2))
      rw [ht] at hta
      by_cases h16 : n = 16
      · have HB := hide (add_full HOK.out hta (by rw [← HN.out]; exact h16))
        have HN16 : Hid (((n : Int) == 16) = true) := hide (by simp; omega)
        clear hta
        try clear h16
        go_wp2
        refine wp_region_x (by kernel_rfl) (by kernel_rfl) ?_
        repeat (go_big_quiet_step (fail))
        refine wpQuiet_nil ?_
        rintro _ ⟨q, rfl⟩
        obtain ⟨pn, en⟩ : IsX w2 _ := IsX.xt ⟨p, rfl⟩ q
        rw [en]
        clear en q
        go_wp2
        refine wp_region_x (by kernel_rfl) (by kernel_rfl) ?_
        repeat (go_big_quiet_step (fail))
        refine wpQuiet_nil ?_
        rintro _ ⟨q2, rfl⟩
        have hn16 := HN16.out
        go_wp2
        go_ret2
        exact SlPost.none HB.out.1 (by rw [HB.out.2]; rfl) (HX.out.trans (IsX.xt ⟨pn, rfl⟩ q2))
      have HB := hide (add_ok HOK.out hta (by rw [← HN.out]; exact h16))
      have HN16 : Hid (((n : Int) == 16) = false) := hide (by simp; omega)
      have hnk : ¬ (n - k = 0) := by omega
      clear hta
      go_wp2
      refine wp_region_x (by kernel_rfl) (by kernel_rfl) ?_
      repeat (go_big_quiet_step (fail))
      refine wpQuiet_nil ?_
      rintro _ ⟨q, rfl⟩
      obtain ⟨pn, en⟩ : IsX w2 _ := IsX.xt ⟨p, rfl⟩ q
      rw [en]
      clear en q
      go_wp2
      refine wp_region_x (by kernel_rfl) (by kernel_rfl) ?_
      repeat (go_big_quiet_step (fail))
      refine wpQuiet_nil ?_
      rintro _ ⟨q2, rfl⟩
      obtain ⟨pm, em⟩ : IsX w2 _ := IsX.xt ⟨pn, rfl⟩ q2
      rw [em]
      clear em q2 pn p
      obtain ⟨p, hp⟩ : ∃ p, p = pm := ⟨_, rfl⟩
      rw [← hp]
      have hn16 := HN16.out
      clear hp pm c0
      have HRT := hide (show ∀ W, IsX w2 W → Reads W W.heap.size 5 (some ⟨b0, 0, none⟩) k ((xs0.take k).flatMap OfferD.cells) from fun W hx => by
        have h := (offer_part (a := 0) (m := k) (HRA.out.x hx)).reads (by omega) OfferD.cells_len
        rw [List.drop_zero, Nat.zero_mul, List.length_take, HN.out.symm, Nat.min_eq_left (by omega)] at h
        exact h)
      have HR2 := hide (show ∀ W, IsX w2 W → Reads W W.heap.size 5 (some ⟨b0, k * 5, none⟩) (n - k) ((xs0.drop k).flatMap OfferD.cells) from fun W hx => by
        have h := (offer_part (a := k) (m := n - k) (HRA.out.x hx)).reads (by omega) OfferD.cells_len
        have hdl : (xs0.drop k).take (n - k) = xs0.drop k := List.take_of_length_le (by rw [List.length_drop, ← HN.out]; exact Nat.le_refl _)
        rw [hdl, List.length_drop, ← HN.out] at h
        exact h)
      go_wp2_with (first | go_loud ((at_builtin; obtain ⟨i0, hi0, hz0, hz1, hz2⟩ := HI.out; refine wpList_append_any _ rfl (.tmp 48) (.tmp 51) _ rfl (xt w2 p).heap.size 76 i0 _ 5 56 Try.underlying27 hi0 hz0 hz1 hz2 rfl (by omega) (.slice (some ⟨(xt w2 p).heap.size, 0, none⟩) 0 0) 0 [] rfl (World.ownsRow_made (xt w2 p) #[] 0 (Nat.le_refl _) (by simp [maxLen]) rfl) _ (some ⟨b0, 0, none⟩) k n ((xs0.take k).flatMap OfferD.cells) rfl (HRT.out _ (IsX.alloc ⟨p, rfl⟩ _)) (offer_one _) (by simp only [maxLen]; omega) (by omega) (by simp) ?_; clear hi0 hz0 hz1 hz2; intro v1 w3 hown1 hg1 hat1; have HO1 : Hid (_root_.Go.World.ownsRow w3 w2.heap.size 76 5 v1 k ((xs0.take k).flatMap OfferD.cells)) := hide (by have h := rowLe hown1 (size_xt w2 p); rw [Nat.zero_add, List.nil_append] at h; exact h); have hx1 : IsX w2 w3 := IsX.grown (IsX.alloc (w' := xt w2 p) ⟨p, rfl⟩ _) hg1 (by intro z hz; simp [Value.ownBlock] at hz; have := size_xt w2 p; omega); clear hown1 hg1 hat1; obtain ⟨p1, rfl⟩ := hx1)) | go_loud ((at_builtin; obtain ⟨i0, hi0, hz0, hz1, hz2⟩ := HI.out; refine wpList_append_any _ rfl (.tmp 53) (.tmp 55) _ rfl w2.heap.size 76 i0 _ 5 56 Try.underlying27 hi0 hz0 hz1 hz2 rfl (by omega) _ k ((xs0.take k).flatMap OfferD.cells) rfl (HO1.out.alloc _) _ (some ⟨(xt w2 p1).heap.size, 0, none⟩) 1 1 x1.cells rfl (offer_reads (xt w2 p1) x1) (fun u hu => offer_one [x1] u (by simpa using hu)) (by simp only [maxLen]; omega) (by omega) (by have := size_xt w2 p1; simp; omega) ?_; clear hi0 hz0 hz1 hz2; intro v2 w4 hown1 hg1 hat1; have HO2 := hide hown1; have hx1 : IsX w2 w4 := IsX.grown (IsX.alloc (w' := xt w2 p1) ⟨p1, rfl⟩ _) hg1 (by intro z hz; exact (HO1.out.lt z hz).1); clear hown1 hg1 hat1; obtain ⟨p2, rfl⟩ := hx1)) | go_loud ((at_builtin; obtain ⟨i0, hi0, hz0, hz1, hz2⟩ := HI.out; refine wpList_append_any _ rfl (.tmp 57) (.tmp 60) _ rfl w2.heap.size 76 i0 _ 5 56 Try.underlying27 hi0 hz0 hz1 hz2 rfl (by omega) _ (k + 1) ((xs0.take k).flatMap OfferD.cells ++ x1.cells) rfl HO2.out _ (some ⟨b0, k * 5, none⟩) (n - k) (n - k) ((xs0.drop k).flatMap OfferD.cells) rfl (HR2.out _ ⟨p2, rfl⟩) (offer_one _) (by simp only [maxLen]; omega) (by omega) (size_xt w2 p2) ?_; clear hi0 hz0 hz1 hz2; intro v3 w5 hown1 hg1 hat1; have HO3 := hide hown1; have hx1 : IsX w2 w5 := IsX.grown ⟨p2, rfl⟩ hg1 (by intro z hz; exact (HO2.out.lt z hz).1); clear hown1 hg1 hat1; obtain ⟨p3, rfl⟩ := hx1)))
      go_ret2
      have HL := hide (show (addZ xs0 x1).length = n + 1 by rw [HB.out.1, addAll_len, HN.out])
      have h := HO3.out
      rw [show k + 1 + (n - k) = n + 1 by omega] at h
      obtain ⟨A', c', hform⟩ := own_form' h
      subst hform
      refine ⟨A', c', by rw [HB.out.2, HL.out]; rfl, ?_, HX.out.trans ⟨p3, rfl⟩⟩
      have e : (addZ xs0 x1).flatMap OfferD.cells = (xs0.take k).flatMap OfferD.cells ++ x1.cells ++ (xs0.drop k).flatMap OfferD.cells := by
        rw [HB.out.1, addAll, HK.out, List.flatMap_append, List.flatMap_append]; simp
      unfold Own
      rw [HL.out, e]
      exact rowLe h hw2
    · obtain rfl : k = n := by omega
      have hdn : decide ((k : Int) < (k : Int)) = false := by simp
      have HK := hide (show addK xs0 x1 = k by rw [HN.out]; exact addK_end (fun i h => HF.out i h (by rw [HN.out]; exact h)))
      have hta := taken_end (xs := xs0) (x := x1) (by rw [HK.out]; exact HN.out)
      by_cases h16 : k = 16
      · have HB := hide (add_full HOK.out hta (by rw [← HN.out]; exact h16))
        have HN16 : Hid (((k : Int) == 16) = true) := hide (by simp; omega)
        clear hta
        try clear h16
        go_wp2
        refine wp_region_x (by kernel_rfl) (by kernel_rfl) ?_
        repeat (go_big_quiet_step (fail))
        refine wpQuiet_nil ?_
        rintro _ ⟨q, rfl⟩
        obtain ⟨pn, en⟩ : IsX w2 _ := IsX.xt ⟨p, rfl⟩ q
        rw [en]
        clear en q
        go_wp2
        refine wp_region_x (by kernel_rfl) (by kernel_rfl) ?_
        repeat (go_big_quiet_step (fail))
        refine wpQuiet_nil ?_
        rintro _ ⟨q2, rfl⟩
        have hn16 := HN16.out
        go_wp2
        go_ret2
        exact SlPost.none HB.out.1 (by rw [HB.out.2]; rfl) (HX.out.trans (IsX.xt ⟨pn, rfl⟩ q2))
      have HB := hide (add_ok HOK.out hta (by rw [← HN.out]; exact h16))
      have HN16 : Hid (((k : Int) == 16) = false) := hide (by simp; omega)
      clear hta
      go_wp2
      refine wp_region_x (by kernel_rfl) (by kernel_rfl) ?_
      repeat (go_big_quiet_step (fail))
      refine wpQuiet_nil ?_
      rintro _ ⟨q, rfl⟩
      obtain ⟨pn, en⟩ : IsX w2 _ := IsX.xt ⟨p, rfl⟩ q
      rw [en]
      clear en q
      go_wp2
      refine wp_region_x (by kernel_rfl) (by kernel_rfl) ?_
      repeat (go_big_quiet_step (fail))
      refine wpQuiet_nil ?_
      rintro _ ⟨q2, rfl⟩
      obtain ⟨pm, em⟩ : IsX w2 _ := IsX.xt ⟨pn, rfl⟩ q2
      rw [em]
      clear em q2 pn p
      obtain ⟨p, hp⟩ : ∃ p, p = pm := ⟨_, rfl⟩
      rw [← hp]
      have hn16 := HN16.out
      clear hp pm
      obtain ⟨n, hnk⟩ : ∃ n, n = k := ⟨_, rfl⟩
      subst hnk
      have HRT := hide (show ∀ W, IsX w2 W → Reads W W.heap.size 5 (some ⟨b0, 0, none⟩) n ((xs0.take n).flatMap OfferD.cells) from fun W hx => by
        have h := (offer_part (a := 0) (m := n) (HRA.out.x hx)).reads (by omega) OfferD.cells_len
        rw [List.drop_zero, Nat.zero_mul, List.length_take, HN.out.symm, Nat.min_eq_left (by omega)] at h
        exact h)
      have HR2 := hide (show ∀ W, IsX w2 W → Reads W W.heap.size 5 (some ⟨b0, 0, none⟩) (0) ((xs0.drop n).flatMap OfferD.cells) from fun W hx => by
        rw [List.drop_of_length_le (by rw [← HN.out]; exact Nat.le_refl _)]; exact Reads.none_)
      go_wp2_with (first | go_loud ((at_builtin; obtain ⟨i0, hi0, hz0, hz1, hz2⟩ := HI.out; refine wpList_append_any _ rfl (.tmp 48) (.tmp 51) _ rfl (xt w2 p).heap.size 76 i0 _ 5 56 Try.underlying27 hi0 hz0 hz1 hz2 rfl (by omega) (.slice (some ⟨(xt w2 p).heap.size, 0, none⟩) 0 0) 0 [] rfl (World.ownsRow_made (xt w2 p) #[] 0 (Nat.le_refl _) (by simp [maxLen]) rfl) _ (some ⟨b0, 0, none⟩) n n ((xs0.take n).flatMap OfferD.cells) rfl (HRT.out _ (IsX.alloc ⟨p, rfl⟩ _)) (offer_one _) (by simp only [maxLen]; omega) (by omega) (by simp) ?_; clear hi0 hz0 hz1 hz2; intro v1 w3 hown1 hg1 hat1; have HO1 : Hid (_root_.Go.World.ownsRow w3 w2.heap.size 76 5 v1 n ((xs0.take n).flatMap OfferD.cells)) := hide (by have h := rowLe hown1 (size_xt w2 p); rw [Nat.zero_add, List.nil_append] at h; exact h); have hx1 : IsX w2 w3 := IsX.grown (IsX.alloc (w' := xt w2 p) ⟨p, rfl⟩ _) hg1 (by intro z hz; simp [Value.ownBlock] at hz; have := size_xt w2 p; omega); clear hown1 hg1 hat1; obtain ⟨p1, rfl⟩ := hx1)) | go_loud ((at_builtin; obtain ⟨i0, hi0, hz0, hz1, hz2⟩ := HI.out; refine wpList_append_any _ rfl (.tmp 53) (.tmp 55) _ rfl w2.heap.size 76 i0 _ 5 56 Try.underlying27 hi0 hz0 hz1 hz2 rfl (by omega) _ n ((xs0.take n).flatMap OfferD.cells) rfl (HO1.out.alloc _) _ (some ⟨(xt w2 p1).heap.size, 0, none⟩) 1 1 x1.cells rfl (offer_reads (xt w2 p1) x1) (fun u hu => offer_one [x1] u (by simpa using hu)) (by simp only [maxLen]; omega) (by omega) (by have := size_xt w2 p1; simp; omega) ?_; clear hi0 hz0 hz1 hz2; intro v2 w4 hown1 hg1 hat1; have HO2 := hide hown1; have hx1 : IsX w2 w4 := IsX.grown (IsX.alloc (w' := xt w2 p1) ⟨p1, rfl⟩ _) hg1 (by intro z hz; exact (HO1.out.lt z hz).1); clear hown1 hg1 hat1; obtain ⟨p2, rfl⟩ := hx1)) | go_loud ((at_builtin; obtain ⟨i0, hi0, hz0, hz1, hz2⟩ := HI.out; refine wpList_append_any _ rfl (.tmp 57) (.tmp 60) _ rfl w2.heap.size 76 i0 _ 5 56 Try.underlying27 hi0 hz0 hz1 hz2 rfl (by omega) _ (n + 1) ((xs0.take n).flatMap OfferD.cells ++ x1.cells) rfl HO2.out _ (some ⟨b0, 0, none⟩) (0) (0) ((xs0.drop n).flatMap OfferD.cells) rfl (HR2.out _ ⟨p2, rfl⟩) (offer_one _) (by simp only [maxLen]; omega) (by omega) (size_xt w2 p2) ?_; clear hi0 hz0 hz1 hz2; intro v3 w5 hown1 hg1 hat1; have HO3 := hide hown1; have hx1 : IsX w2 w5 := IsX.grown ⟨p2, rfl⟩ hg1 (by intro z hz; exact (HO2.out.lt z hz).1); clear hown1 hg1 hat1; obtain ⟨p3, rfl⟩ := hx1)))
      go_ret2
      have HL := hide (show (addZ xs0 x1).length = n + 1 by rw [HB.out.1, addAll_len, HN.out])
      have h := HO3.out
      rw [show n + 1 + (0) = n + 1 by omega] at h
      obtain ⟨A', c', hform⟩ := own_form' h
      subst hform
      refine ⟨A', c', by rw [HB.out.2, HL.out]; rfl, ?_, HX.out.trans ⟨p3, rfl⟩⟩
      have e : (addZ xs0 x1).flatMap OfferD.cells = (xs0.take n).flatMap OfferD.cells ++ x1.cells ++ (xs0.drop n).flatMap OfferD.cells := by
        rw [HB.out.1, addAll, HK.out, List.flatMap_append, List.flatMap_append]; simp
      unfold Own
      rw [HL.out, e]
      exact rowLe h hw2

end Go.Proofs.Ythahbdpholpmkaa
