/- An offer added: the program's walk. Conditions: lists no longer than 2^40. -/
import Derived.Test.YthahbdpholpmkaaAddIns
import Derived.Test.YthahbdpholpmkaaTail
import Derived.Deep.RegionHeld3
namespace Go.Proofs.Ythahbdpholpmkaa
set_option linter.unusedVariables false
open Go.RowKit

set_option maxRecDepth 100000 in
set_option maxHeartbeats 6400000 in
theorem i_AddOffer (b0 : Nat) (xs0 : List OfferD) (x1 : OfferD) (w : World) (hn0 : xs0.length ≤ 1099511627776) (hw0 : ∀ x ∈ xs0, x.wf) (hA0 : Rd OfferD.cells 5 w (some ⟨b0, 0, none⟩) xs0) (hx1 : x1.wf) :
    Calls Try.prog 53 #[.slice (some ⟨b0, 0, none⟩) xs0.length xs0.length, .agg #[.string x1.Id, .string x1.Kind, .int .i64 x1.Start, .int .i64 x1.Length, .int .i64 x1.Worth]] w (SlPost OfferD.cells 5 76 w (addZ xs0 x1) (addC xs0 x1)) := by
  have hs0 : x1.Id.size ≤ maxLen := by simp only [OfferD.wf] at hx1; omega
  have hs1 : x1.Kind.size ≤ maxLen := by simp only [OfferD.wf] at hx1; omega
  cases hv : offersB xs0
  · have HB := hide (add_bad (x := x1) (show addOk xs0 x1 = false by simp [addOk, hv]))
    go_enter Try.func53, Try.ntmps53
    go_wp2_with fail
    obtain ⟨W, hW⟩ : ∃ W, W = w.alloc (.cells #[.string x1.Id, .string x1.Kind, .int .i64 x1.Start, .int .i64 x1.Length, .int .i64 x1.Worth] 76) := ⟨_, rfl⟩
    have hx : IsX w W := hW ▸ (IsX.refl w).alloc _
    have hB : Blk W w.heap.size 76 #[.string x1.Id, .string x1.Kind, .int .i64 x1.Start, .int .i64 x1.Length, .int .i64 x1.Worth] := hW ▸ Blk.new w _ _
    rw [← hW]
    clear hW
    refine (cb (c_ValidOffers (some ⟨b0, 0, none⟩) xs0.length xs0 W hn0 hw0 (hA0.x hx)) hv).mono ?_
    rintro e w1 ⟨rfl, hx2⟩
    replace hB := hB.x hx2
    replace hx := hx.trans hx2
    clear hx2
    have e0 : w1.cell? ⟨w.heap.size, 0, none⟩ = some (.string x1.Id) := hB.cell 0
    have e1 : w1.cell? ⟨w.heap.size, 1, none⟩ = some (.string x1.Kind) := hB.cell 1
    have e2 : w1.cell? ⟨w.heap.size, 2, none⟩ = some (.int .i64 x1.Start) := hB.cell 2
    have e3 : w1.cell? ⟨w.heap.size, 3, none⟩ = some (.int .i64 x1.Length) := hB.cell 3
    have e4 : w1.cell? ⟨w.heap.size, 4, none⟩ = some (.int .i64 x1.Worth) := hB.cell 4
    go_wp2_with fail
    go_ret2
    exact SlPost.none HB.out.1 (by rw [HB.out.2]; rfl) hx
  cases ho : x1.okB
  · have HB := hide (add_bad (show addOk xs0 x1 = false by simp [addOk, ho]))
    go_enter Try.func53, Try.ntmps53
    go_wp2_with fail
    obtain ⟨W, hW⟩ : ∃ W, W = w.alloc (.cells #[.string x1.Id, .string x1.Kind, .int .i64 x1.Start, .int .i64 x1.Length, .int .i64 x1.Worth] 76) := ⟨_, rfl⟩
    have hx : IsX w W := hW ▸ (IsX.refl w).alloc _
    have hB : Blk W w.heap.size 76 #[.string x1.Id, .string x1.Kind, .int .i64 x1.Start, .int .i64 x1.Length, .int .i64 x1.Worth] := hW ▸ Blk.new w _ _
    rw [← hW]
    clear hW
    refine (cb (c_ValidOffers (some ⟨b0, 0, none⟩) xs0.length xs0 W hn0 hw0 (hA0.x hx)) hv).mono ?_
    rintro e w1 ⟨rfl, hx2⟩
    replace hB := hB.x hx2
    replace hx := hx.trans hx2
    clear hx2
    have e0 : w1.cell? ⟨w.heap.size, 0, none⟩ = some (.string x1.Id) := hB.cell 0
    have e1 : w1.cell? ⟨w.heap.size, 1, none⟩ = some (.string x1.Kind) := hB.cell 1
    have e2 : w1.cell? ⟨w.heap.size, 2, none⟩ = some (.int .i64 x1.Start) := hB.cell 2
    have e3 : w1.cell? ⟨w.heap.size, 3, none⟩ = some (.int .i64 x1.Length) := hB.cell 3
    have e4 : w1.cell? ⟨w.heap.size, 4, none⟩ = some (.int .i64 x1.Worth) := hB.cell 4
    go_wp2_with fail
    refine (cb (c_validOffer x1 w1 hs0 hs1) ho).mono ?_
    rintro e w2 ⟨rfl, hx2⟩
    clear e0 e1 e2 e3 e4
    replace hB := hB.x hx2
    replace hx := hx.trans hx2
    clear hx2
    go_wp2_with fail
    go_ret2
    exact SlPost.none HB.out.1 (by rw [HB.out.2]; rfl) hx
  have HOK := hide (show addOk xs0 x1 = true by simp [addOk, hv, ho])
  have hcl := offers_len hv
  have HI := hide (info_parts Offer_info)
  go_enter Try.func53, Try.ntmps53
  go_wp2_with fail
  obtain ⟨W, hW⟩ : ∃ W, W = w.alloc (.cells #[.string x1.Id, .string x1.Kind, .int .i64 x1.Start, .int .i64 x1.Length, .int .i64 x1.Worth] 76) := ⟨_, rfl⟩
  have hx : IsX w W := hW ▸ (IsX.refl w).alloc _
  have hB : Blk W w.heap.size 76 #[.string x1.Id, .string x1.Kind, .int .i64 x1.Start, .int .i64 x1.Length, .int .i64 x1.Worth] := hW ▸ Blk.new w _ _
  rw [← hW]
  clear hW
  refine (cb (c_ValidOffers (some ⟨b0, 0, none⟩) xs0.length xs0 W hn0 hw0 (hA0.x hx)) hv).mono ?_
  rintro e w1 ⟨rfl, hx2⟩
  replace hB := hB.x hx2
  replace hx := hx.trans hx2
  clear hx2
  have e0 : w1.cell? ⟨w.heap.size, 0, none⟩ = some (.string x1.Id) := hB.cell 0
  have e1 : w1.cell? ⟨w.heap.size, 1, none⟩ = some (.string x1.Kind) := hB.cell 1
  have e2 : w1.cell? ⟨w.heap.size, 2, none⟩ = some (.int .i64 x1.Start) := hB.cell 2
  have e3 : w1.cell? ⟨w.heap.size, 3, none⟩ = some (.int .i64 x1.Length) := hB.cell 3
  have e4 : w1.cell? ⟨w.heap.size, 4, none⟩ = some (.int .i64 x1.Worth) := hB.cell 4
  go_wp2_with fail
  refine (cb (c_validOffer x1 w1 hs0 hs1) ho).mono ?_
  rintro e w2 ⟨rfl, hx2⟩
  clear e0 e1 e2 e3 e4
  replace hB := hB.x hx2
  replace hx := hx.trans hx2
  clear hx2
  have HX := hide hx
  have hw2 := hx.size
  have HRA := hide (hA0.x hx)
  have k0 : w2.cell? ⟨w.heap.size, 0, none⟩ = some (.string x1.Id) := hB.cell 0
  have k1 : w2.cell? ⟨w.heap.size, 1, none⟩ = some (.string x1.Kind) := hB.cell 1
  have k2 : w2.cell? ⟨w.heap.size, 2, none⟩ = some (.int .i64 x1.Start) := hB.cell 2
  have k3 : w2.cell? ⟨w.heap.size, 3, none⟩ = some (.int .i64 x1.Length) := hB.cell 3
  have k4 : w2.cell? ⟨w.heap.size, 4, none⟩ = some (.int .i64 x1.Worth) := hB.cell 4
  have hbx := hB.lt
  obtain ⟨n, hnn⟩ : ∃ n, n = xs0.length := ⟨_, rfl⟩
  have HN := hide hnn
  rw [← hnn] at hcl ⊢
  clear hnn hv ho hw0 hA0 hx hn0 hB hs0 hs1 hx1
  go_wp2
  go_loopw [6] (fun iv wr => ∃ k : Nat, k ≤ n ∧ iv = .int .i64 k ∧ Hid (∀ i (h : i < xs0.length), i < k → lessB x1 xs0[i] = true) ∧ IsX w2 wr) (fun iv _ => n - (intOf iv).toNat)
  case atStart => exact ⟨0, Nat.zero_le _, rfl, hide (fun i h hi => absurd hi (by omega)), IsX.refl _⟩
  case round =>
    obtain ⟨k, hk, rfl, HF, p, rfl⟩ := hrel
    by_cases hlt : k < n
    · have hkx : k < xs0.length := HN.out ▸ hlt
      obtain ⟨b, off, e0, hb, c0, c1, c2, c3, c4⟩ := OfferD.rd HRA.out (show xs0[k]? = some xs0[k] from List.getElem?_eq_getElem _)
      injection e0 with e0
      injection e0 with e0 e1
      subst e0 e1
      simp only [Nat.zero_add] at c0 c1 c2 c3 c4
      clear c1 c2 c3 c4
      have hdn : decide ((k : Int) < (n : Int)) = true := decide_eq_true (by omega)
      cases hl : Op.bytesLess xs0[k].Id.toList x1.Id.toList
      rotate_left
      · have HS := hide (step_all (p := lessB x1) hkx HF.out hl)
        go_wp2
        refine wp_region_x (by kernel_rfl) (by kernel_rfl) ?_
        repeat (go_big_quiet_step (fail))
        refine wpQuiet_nil ?_
        rintro _ ⟨q, rfl⟩
        go_wp2
        go_roundw
        case rel => exact ⟨k + 1, by omega, by go_num, HS, IsX.xt ⟨p, rfl⟩ q⟩
        case measure => simp [intOf]; omega
      have HK := hide (addK_at hkx HF.out hl)
      have hta := taken_at hkx HK.out
      cases ht : (xs0[k].Id.toList == x1.Id.toList)
      rotate_left
      · have HB := hide (add_taken HOK.out (by rw [hta, ht]))
        clear hta
        try clear h16
        go_wp2
        refine wp_region_x (by kernel_rfl) (by kernel_rfl) ?_
        repeat (go_big_quiet_step (fail))
        refine wpQuiet_nil ?_
        rintro _ ⟨q, rfl⟩
        obtain ⟨pn, en⟩ : IsX w2 _ := IsX.xt ⟨p, rfl⟩ q
        rw [en]
        clear en q
        go_wp2
        refine wp_region_x (by kernel_rfl) (by kernel_rfl) ?_
        repeat (go_big_quiet_step (fail))
        refine wpQuiet_nil ?_
        rintro _ ⟨q2, rfl⟩
        go_wp2
        go_ret2
        exact SlPost.none HB.out.1 (by rw [HB.out.2]; rfl) (HX.out.trans (IsX.xt ⟨pn, rfl⟩ q2))
      rw [ht] at hta
      by_cases h16 : n = 16
      · have HB := hide (add_full HOK.out hta (by rw [← HN.out]; exact h16))
        have HN16 : Hid (((n : Int) == 16) = true) := hide (by simp; omega)
        clear hta
        try clear h16
        go_wp2
        refine wp_region_x (by kernel_rfl) (by kernel_rfl) ?_
        repeat (go_big_quiet_step (fail))
        refine wpQuiet_nil ?_
        rintro _ ⟨q, rfl⟩
        obtain ⟨pn, en⟩ : IsX w2 _ := IsX.xt ⟨p, rfl⟩ q
        rw [en]
        clear en q
        go_wp2
        refine wp_region_x (by kernel_rfl) (by kernel_rfl) ?_
        repeat (go_big_quiet_step (fail))
        refine wpQuiet_nil ?_
        rintro _ ⟨q2, rfl⟩
        have hn16 := HN16.out
        go_wp2
        go_ret2
        exact SlPost.none HB.out.1 (by rw [HB.out.2]; rfl) (HX.out.trans (IsX.xt ⟨pn, rfl⟩ q2))
      have HB := hide (add_ok HOK.out hta (by rw [← HN.out]; exact h16))
      have HN16 : Hid (((n : Int) == 16) = false) := hide (by simp; omega)
      have hnk : ¬ (n - k = 0) := by omega
      clear hta
      go_wp2
      refine wp_region_x (by kernel_rfl) (by kernel_rfl) ?_
      repeat (go_big_quiet_step (fail))
      refine wpQuiet_nil ?_
      rintro _ ⟨q, rfl⟩
      obtain ⟨pn, en⟩ : IsX w2 _ := IsX.xt ⟨p, rfl⟩ q
      rw [en]
      clear en q
      go_wp2
      refine wp_region_x (by kernel_rfl) (by kernel_rfl) ?_
      repeat (go_big_quiet_step (fail))
      refine wpQuiet_nil ?_
      rintro _ ⟨q2, rfl⟩
      obtain ⟨pm, em⟩ : IsX w2 _ := IsX.xt ⟨pn, rfl⟩ q2
      rw [em]
      clear em q2 pn p
      obtain ⟨p, hp⟩ : ∃ p, p = pm := ⟨_, rfl⟩
      rw [← hp]
      have hn16 := HN16.out
      clear hp pm c0
      have HCL := hide (show ∀ V, IsX w2 V → Calls Try.prog 112 #[.slice (some ⟨b0, 0, none⟩) n n] V fun e w' => ∃ A' c', e = .returned (.slice A' n c') ∧ w'.ownsRow V.heap.size 76 5 (.slice A' n c') n (xs0.flatMap OfferD.cells) ∧ IsX V w' from fun V hV => by
        have h := c_CloneOffer (some ⟨b0, 0, none⟩) xs0.length xs0 V (by have := HN.out; omega) (HRA.out.x hV)
        unfold Own at h
        rw [← HN.out] at h
        exact h)
      have HS := hide (show ∀ V, IsX w2 V → V.cell? ⟨w.heap.size, 0, none⟩ = some (.string x1.Id) ∧ V.cell? ⟨w.heap.size, 1, none⟩ = some (.string x1.Kind) ∧ V.cell? ⟨w.heap.size, 2, none⟩ = some (.int .i64 x1.Start) ∧ V.cell? ⟨w.heap.size, 3, none⟩ = some (.int .i64 x1.Length) ∧ V.cell? ⟨w.heap.size, 4, none⟩ = some (.int .i64 x1.Worth) from fun V hV => ⟨keep hV hbx k0, keep hV hbx k1, keep hV hbx k2, keep hV hbx k3, keep hV hbx k4⟩)
      obtain ⟨W, hW⟩ : ∃ W, W = xt w2 p := ⟨_, rfl⟩
      have HWX := hide (show IsX w2 W from ⟨p, hW⟩)
      rw [← hW]
      clear hW p
      obtain ⟨d0, d1, d2, d3, d4⟩ := HS.out W HWX.out
      have n0 := World.new_ne W ⟨w.heap.size, 0, none⟩ d0
      clear k0 k1 k2 k3 k4
      have HIB := hide (show ∀ (A' : Option Addr) (c' : Nat) (w5 : World), IsX W.drew w5 → w5.ownsRow W.drew.heap.size 76 5 (.slice A' n c') n (xs0.flatMap OfferD.cells) → Calls Try.prog 111 #[.slice A' n c', .int .i64 (k : Int), .slice (some ⟨w5.heap.size, 0, none⟩) 1 1] (w5.alloc (.cells #[.string x1.Id, .string x1.Kind, .int .i64 x1.Start, .int .i64 x1.Length, .int .i64 x1.Worth] 76)) fun e w' => ∃ A2 c2, e = .returned (.slice A2 (n + 1) c2) ∧ w'.ownsRow W.heap.size 76 5 (.slice A2 (n + 1) c2) (n + 1) ((xs0.take k ++ [x1] ++ xs0.drop k).flatMap OfferD.cells) ∧ IsX W w' from fun A' c' w5 hx5 hO5 =>
        c_InsertOffer W A' n c' k w5.heap.size W.heap.size xs0 x1 _ HN.out (hO5.alloc _) (Nat.le_refl _) (Nat.le_trans (IsX.size (IsX.trans (IsX.drew (IsX.refl W)) hx5)) (IsX.size ((IsX.refl w5).alloc _))) (IsX.alloc (IsX.trans (IsX.drew (IsX.refl W)) hx5) _) (by omega) (by omega) (Blk.new w5 76 _) (fun g hg => by have := (hO5.lt g (by rw [hg]; rfl)).2; omega))
      have HIA := hide (show ∀ (A' : Option Addr) (c' : Nat) (w5 : World), IsX (W.alloc (.cells #[.string x1.Id, .string x1.Kind, .int .i64 x1.Start, .int .i64 x1.Length, .int .i64 x1.Worth] 76)).drew w5 → w5.ownsRow (W.alloc (.cells #[.string x1.Id, .string x1.Kind, .int .i64 x1.Start, .int .i64 x1.Length, .int .i64 x1.Worth] 76)).drew.heap.size 76 5 (.slice A' n c') n (xs0.flatMap OfferD.cells) → Calls Try.prog 111 #[.slice A' n c', .int .i64 (k : Int), .slice (some ⟨W.heap.size, 0, none⟩) 1 1] w5 fun e w' => ∃ A2 c2, e = .returned (.slice A2 (n + 1) c2) ∧ w'.ownsRow W.heap.size 76 5 (.slice A2 (n + 1) c2) (n + 1) ((xs0.take k ++ [x1] ++ xs0.drop k).flatMap OfferD.cells) ∧ IsX W w' from fun A' c' w5 hx5 hO5 => by
        have hWW : IsX W (W.alloc (.cells #[.string x1.Id, .string x1.Kind, .int .i64 x1.Start, .int .i64 x1.Length, .int .i64 x1.Worth] 76)).drew := IsX.drew ((IsX.refl W).alloc _)
        have hsz : (W.alloc (.cells #[.string x1.Id, .string x1.Kind, .int .i64 x1.Start, .int .i64 x1.Length, .int .i64 x1.Worth] 76)).drew.heap.size = W.heap.size + 1 := by simp
        refine c_InsertOffer W A' n c' k W.heap.size W.heap.size xs0 x1 w5 HN.out (rowLe hO5 hWW.size) (Nat.le_refl _) (hWW.trans hx5).size (hWW.trans hx5) (by omega) (by omega) (((Blk.new W 76 _).x (IsX.drew (IsX.refl _))).x hx5) (fun g hg => ?_)
        have := (hO5.lt g (by rw [hg]; rfl)).1
        rw [hsz] at this
        omega)
      go_wp2_with fail
      go_region_held3 (fun V => V.cell? ⟨w.heap.size, 0, none⟩ = some (.string x1.Id) ∧ V.cell? ⟨w.heap.size, 1, none⟩ = some (.string x1.Kind) ∧ V.cell? ⟨w.heap.size, 2, none⟩ = some (.int .i64 x1.Start) ∧ V.cell? ⟨w.heap.size, 3, none⟩ = some (.int .i64 x1.Length) ∧ V.cell? ⟨w.heap.size, 4, none⟩ = some (.int .i64 x1.Worth))
        (first | go_keep | (exact HS.out _ (HWX.out.trans (IsX.drew (IsX.alloc (IsX.refl _) _)))) | (exact HS.out _ (HWX.out.trans (IsX.alloc (IsX.refl _) _))) | (exact HS.out _ (HWX.out.trans hx5)) | (exact HS.out _ (HWX.out.trans (hx5.alloc _))) | (exact HS.out _ (HWX.out.trans (IsX.drew (hx5.alloc _)))) | (exact HS.out _ (HWX.out.trans hx6)))
        ((first
          | (go_at_call 112; refine (HCL.out _ (HWX.out.trans (by first | exact IsX.refl _ | exact IsX.drew (IsX.refl _) | exact IsX.drew (IsX.alloc (IsX.refl _) _) | exact IsX.alloc (IsX.refl _) _ | exact IsX.alloc (IsX.drew (IsX.refl _)) _))).mono ?_; rintro e w5 ⟨A', c', rfl, hO5, hx5'⟩; have hx5 : IsX W w5 := IsX.trans (by first | exact IsX.refl _ | exact IsX.drew (IsX.refl _) | exact IsX.drew (IsX.alloc (IsX.refl _) _) | exact IsX.alloc (IsX.refl _) _ | exact IsX.alloc (IsX.drew (IsX.refl _)) _) hx5')
          | (go_at_call 111; (first | (refine (HIB.out _ _ _ hx5' hO5).mono ?_) | (refine (HIA.out _ _ _ hx5' hO5).mono ?_)); rintro e w6 ⟨A2, c2, rfl, hO6, hx6⟩)))
      all_goals
        go_wp2
        go_ret2
        have HL := hide (show (addZ xs0 x1).length = n + 1 by rw [HB.out.1, addAll_len, HN.out])
        refine ⟨A2, c2, by rw [HB.out.2, HL.out]; rfl, ?_, HX.out.trans (HWX.out.trans hx6)⟩
        unfold Own
        rw [HL.out, HB.out.1, addAll, HK.out]
        exact rowLe hO6 (Nat.le_trans hw2 HWX.out.size)
    · obtain rfl : k = n := by omega
      have hdn : decide ((k : Int) < (k : Int)) = false := by simp
      have HK := hide (show addK xs0 x1 = k by rw [HN.out]; exact addK_end (fun i h => HF.out i h (by rw [HN.out]; exact h)))
      have hta := taken_end (xs := xs0) (x := x1) (by rw [HK.out]; exact HN.out)
      by_cases h16 : k = 16
      · have HB := hide (add_full HOK.out hta (by rw [← HN.out]; exact h16))
        have HN16 : Hid (((k : Int) == 16) = true) := hide (by simp; omega)
        clear hta
        try clear h16
        go_wp2
        refine wp_region_x (by kernel_rfl) (by kernel_rfl) ?_
        repeat (go_big_quiet_step (fail))
        refine wpQuiet_nil ?_
        rintro _ ⟨q, rfl⟩
        obtain ⟨pn, en⟩ : IsX w2 _ := IsX.xt ⟨p, rfl⟩ q
        rw [en]
        clear en q
        go_wp2
        refine wp_region_x (by kernel_rfl) (by kernel_rfl) ?_
        repeat (go_big_quiet_step (fail))
        refine wpQuiet_nil ?_
        rintro _ ⟨q2, rfl⟩
        have hn16 := HN16.out
        go_wp2
        go_ret2
        exact SlPost.none HB.out.1 (by rw [HB.out.2]; rfl) (HX.out.trans (IsX.xt ⟨pn, rfl⟩ q2))
      have HB := hide (add_ok HOK.out hta (by rw [← HN.out]; exact h16))
      have HN16 : Hid (((k : Int) == 16) = false) := hide (by simp; omega)
      clear hta
      go_wp2
      refine wp_region_x (by kernel_rfl) (by kernel_rfl) ?_
      repeat (go_big_quiet_step (fail))
      refine wpQuiet_nil ?_
      rintro _ ⟨q, rfl⟩
      obtain ⟨pn, en⟩ : IsX w2 _ := IsX.xt ⟨p, rfl⟩ q
      rw [en]
      clear en q
      go_wp2
      refine wp_region_x (by kernel_rfl) (by kernel_rfl) ?_
      repeat (go_big_quiet_step (fail))
      refine wpQuiet_nil ?_
      rintro _ ⟨q2, rfl⟩
      obtain ⟨pm, em⟩ : IsX w2 _ := IsX.xt ⟨pn, rfl⟩ q2
      rw [em]
      clear em q2 pn p
      obtain ⟨p, hp⟩ : ∃ p, p = pm := ⟨_, rfl⟩
      rw [← hp]
      have hn16 := HN16.out
      clear hp pm
      obtain ⟨n, hnk⟩ : ∃ n, n = k := ⟨_, rfl⟩
      subst hnk
      have HCL := hide (show ∀ V, IsX w2 V → Calls Try.prog 112 #[.slice (some ⟨b0, 0, none⟩) n n] V fun e w' => ∃ A' c', e = .returned (.slice A' n c') ∧ w'.ownsRow V.heap.size 76 5 (.slice A' n c') n (xs0.flatMap OfferD.cells) ∧ IsX V w' from fun V hV => by
        have h := c_CloneOffer (some ⟨b0, 0, none⟩) xs0.length xs0 V (by have := HN.out; omega) (HRA.out.x hV)
        unfold Own at h
        rw [← HN.out] at h
        exact h)
      have HS := hide (show ∀ V, IsX w2 V → V.cell? ⟨w.heap.size, 0, none⟩ = some (.string x1.Id) ∧ V.cell? ⟨w.heap.size, 1, none⟩ = some (.string x1.Kind) ∧ V.cell? ⟨w.heap.size, 2, none⟩ = some (.int .i64 x1.Start) ∧ V.cell? ⟨w.heap.size, 3, none⟩ = some (.int .i64 x1.Length) ∧ V.cell? ⟨w.heap.size, 4, none⟩ = some (.int .i64 x1.Worth) from fun V hV => ⟨keep hV hbx k0, keep hV hbx k1, keep hV hbx k2, keep hV hbx k3, keep hV hbx k4⟩)
      obtain ⟨W, hW⟩ : ∃ W, W = xt w2 p := ⟨_, rfl⟩
      have HWX := hide (show IsX w2 W from ⟨p, hW⟩)
      rw [← hW]
      clear hW p
      obtain ⟨d0, d1, d2, d3, d4⟩ := HS.out W HWX.out
      have n0 := World.new_ne W ⟨w.heap.size, 0, none⟩ d0
      clear k0 k1 k2 k3 k4
      have HIB := hide (show ∀ (A' : Option Addr) (c' : Nat) (w5 : World), IsX W.drew w5 → w5.ownsRow W.drew.heap.size 76 5 (.slice A' n c') n (xs0.flatMap OfferD.cells) → Calls Try.prog 111 #[.slice A' n c', .int .i64 (n : Int), .slice (some ⟨w5.heap.size, 0, none⟩) 1 1] (w5.alloc (.cells #[.string x1.Id, .string x1.Kind, .int .i64 x1.Start, .int .i64 x1.Length, .int .i64 x1.Worth] 76)) fun e w' => ∃ A2 c2, e = .returned (.slice A2 (n + 1) c2) ∧ w'.ownsRow W.heap.size 76 5 (.slice A2 (n + 1) c2) (n + 1) ((xs0.take n ++ [x1] ++ xs0.drop n).flatMap OfferD.cells) ∧ IsX W w' from fun A' c' w5 hx5 hO5 =>
        c_InsertOffer W A' n c' n w5.heap.size W.heap.size xs0 x1 _ HN.out (hO5.alloc _) (Nat.le_refl _) (Nat.le_trans (IsX.size (IsX.trans (IsX.drew (IsX.refl W)) hx5)) (IsX.size ((IsX.refl w5).alloc _))) (IsX.alloc (IsX.trans (IsX.drew (IsX.refl W)) hx5) _) (by omega) (by omega) (Blk.new w5 76 _) (fun g hg => by have := (hO5.lt g (by rw [hg]; rfl)).2; omega))
      have HIA := hide (show ∀ (A' : Option Addr) (c' : Nat) (w5 : World), IsX (W.alloc (.cells #[.string x1.Id, .string x1.Kind, .int .i64 x1.Start, .int .i64 x1.Length, .int .i64 x1.Worth] 76)).drew w5 → w5.ownsRow (W.alloc (.cells #[.string x1.Id, .string x1.Kind, .int .i64 x1.Start, .int .i64 x1.Length, .int .i64 x1.Worth] 76)).drew.heap.size 76 5 (.slice A' n c') n (xs0.flatMap OfferD.cells) → Calls Try.prog 111 #[.slice A' n c', .int .i64 (n : Int), .slice (some ⟨W.heap.size, 0, none⟩) 1 1] w5 fun e w' => ∃ A2 c2, e = .returned (.slice A2 (n + 1) c2) ∧ w'.ownsRow W.heap.size 76 5 (.slice A2 (n + 1) c2) (n + 1) ((xs0.take n ++ [x1] ++ xs0.drop n).flatMap OfferD.cells) ∧ IsX W w' from fun A' c' w5 hx5 hO5 => by
        have hWW : IsX W (W.alloc (.cells #[.string x1.Id, .string x1.Kind, .int .i64 x1.Start, .int .i64 x1.Length, .int .i64 x1.Worth] 76)).drew := IsX.drew ((IsX.refl W).alloc _)
        have hsz : (W.alloc (.cells #[.string x1.Id, .string x1.Kind, .int .i64 x1.Start, .int .i64 x1.Length, .int .i64 x1.Worth] 76)).drew.heap.size = W.heap.size + 1 := by simp
        refine c_InsertOffer W A' n c' n W.heap.size W.heap.size xs0 x1 w5 HN.out (rowLe hO5 hWW.size) (Nat.le_refl _) (hWW.trans hx5).size (hWW.trans hx5) (by omega) (by omega) (((Blk.new W 76 _).x (IsX.drew (IsX.refl _))).x hx5) (fun g hg => ?_)
        have := (hO5.lt g (by rw [hg]; rfl)).1
        rw [hsz] at this
        omega)
      go_wp2_with fail
      go_region_held3 (fun V => V.cell? ⟨w.heap.size, 0, none⟩ = some (.string x1.Id) ∧ V.cell? ⟨w.heap.size, 1, none⟩ = some (.string x1.Kind) ∧ V.cell? ⟨w.heap.size, 2, none⟩ = some (.int .i64 x1.Start) ∧ V.cell? ⟨w.heap.size, 3, none⟩ = some (.int .i64 x1.Length) ∧ V.cell? ⟨w.heap.size, 4, none⟩ = some (.int .i64 x1.Worth))
        (first | go_keep | (exact HS.out _ (HWX.out.trans (IsX.drew (IsX.alloc (IsX.refl _) _)))) | (exact HS.out _ (HWX.out.trans (IsX.alloc (IsX.refl _) _))) | (exact HS.out _ (HWX.out.trans hx5)) | (exact HS.out _ (HWX.out.trans (hx5.alloc _))) | (exact HS.out _ (HWX.out.trans (IsX.drew (hx5.alloc _)))) | (exact HS.out _ (HWX.out.trans hx6)))
        ((first
          | (go_at_call 112; refine (HCL.out _ (HWX.out.trans (by first | exact IsX.refl _ | exact IsX.drew (IsX.refl _) | exact IsX.drew (IsX.alloc (IsX.refl _) _) | exact IsX.alloc (IsX.refl _) _ | exact IsX.alloc (IsX.drew (IsX.refl _)) _))).mono ?_; rintro e w5 ⟨A', c', rfl, hO5, hx5'⟩; have hx5 : IsX W w5 := IsX.trans (by first | exact IsX.refl _ | exact IsX.drew (IsX.refl _) | exact IsX.drew (IsX.alloc (IsX.refl _) _) | exact IsX.alloc (IsX.refl _) _ | exact IsX.alloc (IsX.drew (IsX.refl _)) _) hx5')
          | (go_at_call 111; (first | (refine (HIB.out _ _ _ hx5' hO5).mono ?_) | (refine (HIA.out _ _ _ hx5' hO5).mono ?_)); rintro e w6 ⟨A2, c2, rfl, hO6, hx6⟩)))
      all_goals
        go_wp2
        go_ret2
        have HL := hide (show (addZ xs0 x1).length = n + 1 by rw [HB.out.1, addAll_len, HN.out])
        refine ⟨A2, c2, by rw [HB.out.2, HL.out]; rfl, ?_, HX.out.trans (HWX.out.trans hx6)⟩
        unfold Own
        rw [HL.out, HB.out.1, addAll, HK.out]
        exact rowLe hO6 (Nat.le_trans hw2 HWX.out.size)

end Go.Proofs.Ythahbdpholpmkaa
