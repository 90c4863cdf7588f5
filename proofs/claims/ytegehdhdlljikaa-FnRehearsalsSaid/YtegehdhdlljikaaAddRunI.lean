/- AddRun of the program. Conditions: those of the row alone. -/
import Derived.Test.YtegehdhdlljikaaAddRunLaw
namespace Go.Proofs.Ytegehdhdlljikaa
set_option linter.unusedVariables false
open Go.RowKit


set_option maxRecDepth 100000 in
set_option maxHeartbeats 12800000 in
theorem i_AddRun (A0 : Option Addr) (c0 : Nat) (xs0 : List RunD) (x1 : RunD) (qA rA : Option Addr) (qC rC : Nat) (w : World) (hn0 : xs0.length ≤ 1099511627776) (hw0 : ∀ x ∈ xs0, x.wf) (hs0 : ∀ x ∈ xs0, x.small 1099511627776) (hA0 : RdRun 0 w A0 xs0) (hx1 : x1.wf) (hx1s : x1.small 1048576) (hq : Rd strC 1 w qA x1.Cues) (hr : Rd RemarkD.cells 4 w rA x1.Remarks) :
    Calls Try.prog 6 #[.slice A0 xs0.length c0, .agg #[.int .i64 x1.Day, .slice qA x1.Cues.length qC, .slice rA x1.Remarks.length rC]] w (NePost w (addRZ xs0 x1) (addRC xs0 x1)) := by
  obtain ⟨hxc, hxr⟩ : x1.Cues.length ≤ 1048576 ∧ x1.Remarks.length ≤ 1048576 := by have := hx1s; simp only [RunD.small] at this; omega
  obtain ⟨V, hV⟩ : ∃ V, V = w.alloc (.cells #[.int .i64 x1.Day, .slice qA x1.Cues.length qC, .slice rA x1.Remarks.length rC] 31) := ⟨_, rfl⟩
  have hxV : IsX w V := hV ▸ (IsX.refl w).alloc _
  have hbox : Blk V w.heap.size 31 #[.int .i64 x1.Day, .slice qA x1.Cues.length qC, .slice rA x1.Remarks.length rC] := hV ▸ Blk.new w _ _
  have HXV := hide hxV
  have HBOX := hide hbox
  have HOKC := hide (c_ValidRuns A0 c0 xs0 V hn0 hw0 hs0 (hA0.x hxV))
  have HONE := hide (fun (W : World) (hW : IsX V W) => c_rightRun x1 qA rA qC rC W hx1 ⟨by omega, by omega⟩ (hq.x (hxV.trans hW)) (hr.x (hxV.trans hW)))
  have HA := hide hA0
  have HQ := hide hq
  have HRR := hide hr
  have HW0 := hide (show ∀ y ∈ xs0 ++ [x1], y.wf from fun y hy => by
    rcases List.mem_append.1 hy with h | h
    · exact hw0 y h
    · simp at h; subst h; exact hx1)
  obtain ⟨n, hnn⟩ : ∃ n, n = xs0.length := ⟨_, rfl⟩
  have HN := hide hnn
  rw [← hnn] at hn0 HOKC ⊢
  clear hxV hbox hw0 hs0 hA0 hx1 hx1s hq hr hnn
  cases hv : runsB xs0
  · have HF := hide (addR_bad (x := x1) hv)
    go_enter Try.func6, Try.ntmps6
    go_wp2_with fail
    rw [← hV]
    clear hV
    refine (cb HOKC.out hv).mono ?_
    rintro e w1 ⟨rfl, hx⟩
    have HX := hide (HXV.out.trans hx)
    clear hx
    go_wp2_with fail
    go_ret2
    exact NePost.none HF.out.1 (by rw [HF.out.2]; rfl) HX.out
  cases hok : x1.okB
  · have HF := hide (addR_one (xs := xs0) hok)
    go_enter Try.func6, Try.ntmps6
    go_wp2_with fail
    rw [← hV]
    clear hV
    refine (cb HOKC.out hv).mono ?_
    rintro e w1 ⟨rfl, hx⟩
    have e0 := (HBOX.out.x hx).cell 0
    have e1 := (HBOX.out.x hx).cell 1
    have e2 := (HBOX.out.x hx).cell 2
    have hbb := (HBOX.out.x hx).lt
    simp at e0 e1 e2
    have HX := hide hx
    clear hx
    go_wp2_with fail
    refine (cb (HONE.out w1 HX.out) hok).mono ?_
    rintro e w2 ⟨rfl, hx2⟩
    have HX2 := hide (HX.out.trans hx2)
    clear hx2 e0 e1 e2 hbb
    go_wp2_with fail
    go_ret2
    exact NePost.none HF.out.1 (by rw [HF.out.2]; rfl) (HXV.out.trans HX2.out)
  obtain ⟨hn16, -⟩ := runs_parts hv
  have HSM := hide (show ∀ y ∈ xs0 ++ [x1], y.small 1048576 from fun y hy => by
    rcases List.mem_append.1 hy with h | h
    · exact runs_small hv y h
    · simp at h; subst h; simp only [RunD.small]; omega)
  by_cases h16 : n = 16
  · have HF := hide (addR_full hv hok (by rw [← HN.out]; exact h16))
    have q16 : (((n : Nat) : Int) == 16) = true := by rw [h16]; rfl
    clear h16
    go_enter Try.func6, Try.ntmps6
    go_wp2_with fail
    rw [← hV]
    clear hV
    refine (cb HOKC.out hv).mono ?_
    rintro e w1 ⟨rfl, hx⟩
    have e0 := (HBOX.out.x hx).cell 0
    have e1 := (HBOX.out.x hx).cell 1
    have e2 := (HBOX.out.x hx).cell 2
    have hbb := (HBOX.out.x hx).lt
    simp at e0 e1 e2
    have HX := hide hx
    clear hx
    go_wp2_with fail
    refine (cb (HONE.out w1 HX.out) hok).mono ?_
    rintro e w2 ⟨rfl, hx2⟩
    have HX2 := hide (HX.out.trans hx2)
    clear hx2 e0 e1 e2 hbb
    go_wp2_with fail
    go_ret2
    exact NePost.none HF.out.1 (by rw [HF.out.2]; rfl) (HXV.out.trans HX2.out)
  have q16 : (((n : Nat) : Int) == 16) = false := by simp only [beq_eq_false_iff_ne, ne_eq]; omega
  have HFO := hide (fun h => addR_order hv hok (by rw [← HN.out]; exact h16) h)
  have HFK := hide (fun h => addR_ok hv hok (by rw [← HN.out]; exact h16) h)
  have hn15 : n ≤ 15 := by have := HN.out; omega
  clear h16
  go_enter Try.func6, Try.ntmps6
  go_wp2_with fail
  rw [← hV]
  clear hV
  refine (cb HOKC.out hv).mono ?_
  rintro e w1 ⟨rfl, hx⟩
  have e0 := (HBOX.out.x hx).cell 0
  have e1 := (HBOX.out.x hx).cell 1
  have e2 := (HBOX.out.x hx).cell 2
  have hbb := (HBOX.out.x hx).lt
  simp at e0 e1 e2
  have HX := hide hx
  clear hx
  go_wp2_with fail
  refine (cb (HONE.out w1 HX.out) hok).mono ?_
  rintro e w2 ⟨rfl, hx2⟩
  have HX2 := hide (HX.out.trans hx2)
  clear hx2 e0 e1 e2 hbb
  clear HOKC HONE HX
  go_wp2_with fail
  have e0 := (HBOX.out.x HX2.out).cell 0
  have e1 := (HBOX.out.x HX2.out).cell 1
  have e2 := (HBOX.out.x HX2.out).cell 2
  have hbb := (HBOX.out.x HX2.out).lt
  simp at e0 e1 e2
  have HIW := hide (HXV.out.trans HX2.out)
  have n0 := World.new_ne w2 ⟨w.heap.size, 0, none⟩ e0
  have n1 := World.new_ne w2 ⟨w.heap.size, 1, none⟩ e1
  have n2 := World.new_ne w2 ⟨w.heap.size, 2, none⟩ e2
  obtain ⟨B, hB⟩ : ∃ B, B = w.heap.size := ⟨_, rfl⟩
  rw [← hB] at e0 e1 e2 hbb n0 n1 n2 ⊢
  have HBE := hide hB
  clear hB
  have HSW := hide (fun (W : World) (hW : IsX w2 W) => show W.cell? ⟨B, 0, none⟩ = some (.int .i64 x1.Day) ∧ W.cell? ⟨B, 1, none⟩ = some (.slice qA x1.Cues.length qC) ∧ W.cell? ⟨B, 2, none⟩ = some (.slice rA x1.Remarks.length rC) from ⟨keep hW hbb e0, keep hW hbb e1, keep hW hbb e2⟩)
  have HRX := hide (show ∀ W, IsX w W → RunR.ok 0 W (⟨x1.Day, qA, qC, x1.Cues, rA, rC, x1.Remarks⟩ : RunR) from fun W hW => ⟨⟨HQ.out.x hW, fun _ _ _ _ => Nat.zero_le _⟩, ⟨HRR.out.x hW, fun _ _ _ _ => Nat.zero_le _⟩⟩)
  have HIT := hide (info_parts Run_info)
  have HC1 := hide (show ∀ W, IsX w2 W → Calls Try.prog 19 #[.slice A0 n c0] W fun e w' => ∃ A' c' es, e = .returned (.slice A' n c') ∧ RunRow w' W.heap.size (.slice A' n c') es ∧ OfL es xs0 ∧ IsX W w' from fun W hW => by
    have h := c_cloneRuns A0 c0 xs0 W (by have := HN.out; omega) (runs_small hv) (HA.out.x (HIW.out.trans hW))
    rw [← HN.out] at h
    exact h)
  have HC2 := hide (show ∀ (W : World) (g : Nat), IsX w2 W → Blk W g 31 (RunR.cells (⟨x1.Day, qA, qC, x1.Cues, rA, rC, x1.Remarks⟩ : RunR)).toArray → Calls Try.prog 19 #[.slice (some ⟨g, 0, none⟩) 1 1] W (fun e w' => ∃ A' c' es, e = .returned (.slice A' 1 c') ∧ RunRow w' W.heap.size (.slice A' 1 c') es ∧ OfL es [x1] ∧ IsX W w') from fun W g hW hb => c_cloneRuns (some ⟨g, 0, none⟩) 1 [x1] W (by simp) (fun y hy => HSM.out y (by simp at hy; subst hy; simp)) (rd_one hb (HRX.out W (HIW.out.trans hW))))
  have HBX : Hid (Blk (w2.alloc (.cells #[.int .i64 x1.Day, .slice qA x1.Cues.length qC, .slice rA x1.Remarks.length rC] 31)).drew w2.heap.size 31 (RunR.cells (⟨x1.Day, qA, qC, x1.Cues, rA, rC, x1.Remarks⟩ : RunR)).toArray) := hide (Blk.new w2 31 #[.int .i64 x1.Day, .slice qA x1.Cues.length qC, .slice rA x1.Remarks.length rC])
  have XA : Hid (IsX w2 w2.drew) := hide (IsX.refl w2).drew
  have XB : Hid (IsX w2 (w2.alloc (.cells #[.int .i64 x1.Day, .slice qA x1.Cues.length qC, .slice rA x1.Remarks.length rC] 31)).drew) := hide ((IsX.refl w2).alloc _).drew
  go_region_held_law (fun W => W.cell? ⟨B, 0, none⟩ = some (.int .i64 x1.Day) ∧ W.cell? ⟨B, 1, none⟩ = some (.slice qA x1.Cues.length qC) ∧ W.cell? ⟨B, 2, none⟩ = some (.slice rA x1.Remarks.length rC)) (first | go_keep | (exact HSW.out _ HX3.out) | (exact HSW.out _ (HX3.out.alloc _)) | (exact HSW.out _ (HX3.out.trans HX5.out)) | (exact HSW.out _ HX4.out))
    (first
      | (go_at_call 19; with_reducible refine (HC1.out _ XA.out).mono ?_; rintro e w3 ⟨A3, k3, es3, rfl, hR3, hO3, hx3⟩; have HR3 := hide (hR3.mono XA.out.size); have HO3 := hide hO3; have HX3 : Hid (IsX w2 w3) := hide (XA.out.trans hx3); clear hR3 hO3 hx3)
      | (go_at_call 19; with_reducible refine (HC1.out _ XB.out).mono ?_; rintro e w3 ⟨A3, k3, es3, rfl, hR3, hO3, hx3⟩; have HR3 := hide (hR3.mono XB.out.size); have HO3 := hide hO3; have HBS := hide (HBX.out.x hx3); have HX3 : Hid (IsX w2 w3) := hide (XB.out.trans hx3); clear hR3 hO3 hx3)
      | (go_at_call 19; have HCA := hide (HC2.out (w3.alloc (.cells #[.int .i64 x1.Day, .slice qA x1.Cues.length qC, .slice rA x1.Remarks.length rC] 31)) w3.heap.size (HX3.out.alloc _) (Blk.new w3 31 #[.int .i64 x1.Day, .slice qA x1.Cues.length qC, .slice rA x1.Remarks.length rC])); with_reducible refine HCA.out.mono ?_; clear HCA; rintro e w5 ⟨A5, k5, es5, rfl, hR5, hO5, hx5⟩; obtain ⟨e5, rfl, hof5⟩ := hO5.one; have HR5 := hide (hR5.mono (base' := w3.heap.size) (by simp)); have HOF5 := hide hof5; have HX5 : Hid (IsX w3 w5) := hide (((IsX.refl w3).alloc _).trans hx5); clear hR5 hO5 hof5 hx5)
      | (go_at_call 19; have HCA := hide (HC2.out w3 w2.heap.size HX3.out HBS.out); with_reducible refine HCA.out.mono ?_; clear HCA; rintro e w5 ⟨A5, k5, es5, rfl, hR5, hO5, hx5⟩; obtain ⟨e5, rfl, hof5⟩ := hO5.one; have HR5 := hide (hR5.mono (base' := w3.heap.size) (Nat.le_refl _)); have HOF5 := hide hof5; have HX5 : Hid (IsX w3 w5) := hide hx5; clear hR5 hO5 hof5 hx5)
      | (obtain ⟨i0, hi0, hz0, hz1, hz2⟩ := HIT.out; have hl3 := HO3.out.len; rw [← HN.out] at hl3; have hrow3 := (HR3.out.x HX5.out).row; rw [hl3] at hrow3; have HROW := hide hrow3; have HL3 := hide hl3; clear hrow3 hl3; refine step_append_any _ rfl (.tmp 19) (.tmp 22) _ rfl w2.heap.size 31 i0 _ 3 56 Try.underlying24 hi0 hz0 hz1 hz2 rfl (by omega) _ n (es3.flatMap RunE.cells) rfl HROW.out w5.heap.size A5 1 k5 ([e5].flatMap RunE.cells) rfl (Reads.of_own HR5.out.row) (fun u hu => of_one HOF5.out u (by simpa using hu)) (by unfold maxLen; omega) (by omega) (HX3.out.trans HX5.out).size ?_; clear hi0 hz0 hz1 hz2; intro v4 w4 hown4 hg4 hat4; have HX4 : Hid (IsX w2 w4) := hide (IsX.grown (HX3.out.trans HX5.out) hg4 (by intro z hz; exact (HROW.out.lt z hz).1)); have HR4 := hide (HR3.out.push0 (e := e5) HX5.out HX3.out.size (HR5.out.cue e5 (by simp)) (HR5.out.rem e5 (by simp)) (by rw [HL3.out]; simpa using hown4) hg4); have HO4 := hide (HO3.out.snoc HOF5.out); obtain ⟨A4, c4, rfl⟩ := own_formR hown4; obtain ⟨es4, hes4⟩ : ∃ es4, es4 = es3 ++ [e5] := ⟨_, rfl⟩; rw [← hes4] at HR4 HO4; clear hown4 hg4 hat4 hes4 HROW HL3))
  all_goals
    have HIW4 := hide (HIW.out.trans HX4.out)
    clear HBX XA XB e0 e1 e2 n0 n1 n2 HC1 HC2 HSW
    go_wp2_with fail
    have HCAP := hide (run_cap HR4.out)
    have HLEN := hide (show (xs0 ++ [x1]).length = n + 1 by simp [HN.out])
    have HOK6 := hide (c_ValidRunsC A4 c4 (xs0 ++ [x1]) w4 (by simp; have := HN.out; omega) HW0.out (fun y hy => by have := HSM.out y hy; simp only [RunD.small] at this ⊢; omega) (HR4.out.rd HO4.out) (by rw [HLEN.out]; exact HCAP.out))
    rw [HLEN.out] at HOK6
    cases h3 : runsB (xs0 ++ [x1])
    · have HF := hide (HFO.out h3)
      rw [h3] at HOK6
      go_wp2_with fail
      refine HOK6.out.mono ?_
      rintro e w6 ⟨rfl, hx6⟩
      have HX6 := hide (HIW4.out.trans hx6)
      clear hx6
      go_wp2_with fail
      go_ret2
      exact NePost.none HF.out.1 (by rw [HF.out.2]; rfl) HX6.out
    · have HF := hide (HFK.out h3)
      rw [h3] at HOK6
      go_wp2_with fail
      refine HOK6.out.mono ?_
      rintro e w6 ⟨rfl, hx6⟩
      have HX6 := hide hx6
      clear hx6
      go_wp2_with fail
      go_ret2
      refine ⟨A4, c4, es4, by rw [HF.out.1, HF.out.2, HLEN.out]; rfl, ?_, by rw [HF.out.1]; exact HO4.out, HIW4.out.trans HX6.out⟩
      rw [HF.out.1, HLEN.out]
      exact (HR4.out.x HX6.out).mono (HIW.out.size)
end Go.Proofs.Ytegehdhdlljikaa
