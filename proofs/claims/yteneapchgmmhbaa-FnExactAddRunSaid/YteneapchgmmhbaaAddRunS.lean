/- AddRun: the walks of the reference and of the program. Conditions: those of the row alone. -/
import Derived.Test.YteneapchgmmhbaaAddRunLaw
namespace Go.Proofs.Yteneapchgmmhbaa
set_option linter.unusedVariables false
open Go.RowKit


set_option maxRecDepth 100000 in
set_option maxHeartbeats 12800000 in
theorem s_AddRun (A0 : Option Addr) (c0 : Nat) (xs0 : List RunD) (x1 : RunD) (qA rA : Option Addr) (qC rC : Nat) (w : World) (hn0 : xs0.length ≤ 1099511627776) (hw0 : ∀ x ∈ xs0, x.wf) (hs0 : ∀ x ∈ xs0, x.small 1099511627776) (hA0 : RdRun 0 w A0 xs0) (hx1 : x1.wf) (hx1s : x1.small 1048576) (hq : Rd strC 1 w qA x1.Cues) (hr : Rd RemarkD.cells 4 w rA x1.Remarks) :
    Calls Try.prog 13 #[.slice A0 xs0.length xs0.length, .agg #[.int .i64 x1.Day, .slice qA x1.Cues.length qC, .slice rA x1.Remarks.length rC]] w (NePost w (addRZ xs0 x1) (addRC xs0 x1)) := by
  obtain ⟨hxc, hxr⟩ : x1.Cues.length ≤ 1048576 ∧ x1.Remarks.length ≤ 1048576 := by have := hx1s; simp only [RunD.small] at this; omega
  obtain ⟨V, hV⟩ : ∃ V, V = w.alloc (.cells #[.int .i64 x1.Day, .slice qA x1.Cues.length qC, .slice rA x1.Remarks.length rC] 39) := ⟨_, rfl⟩
  have hxV : IsX w V := hV ▸ (IsX.refl w).alloc _
  have hbox : Blk V w.heap.size 39 #[.int .i64 x1.Day, .slice qA x1.Cues.length qC, .slice rA x1.Remarks.length rC] := hV ▸ Blk.new w _ _
  have HXV := hide hxV
  have HBOX := hide hbox
  have HOKC := hide (c_l21Ok A0 xs0.length xs0 V hn0 hw0 hs0 (hA0.x hxV))
  have HONE := hide (fun (W : World) (hW : IsX V W) => c_l21Run x1 w.heap.size 0 qA rA qC rC W (hbox.x hW).lt hx1 ⟨by omega, by omega⟩ ((hbox.x hW).cell 0) ((hbox.x hW).cell 1) ((hbox.x hW).cell 2) (hq.x (hxV.trans hW)) (hr.x (hxV.trans hW)))
  have HA := hide hA0
  have HQ := hide hq
  have HRR := hide hr
  have HW0 := hide (show ∀ y ∈ xs0 ++ [x1], y.wf from fun y hy => by
    rcases List.mem_append.1 hy with h | h
    · exact hw0 y h
    · simp at h; subst h; exact hx1)
  obtain ⟨n, hnn⟩ : ∃ n, n = xs0.length := ⟨_, rfl⟩
  have HN := hide hnn
  rw [← hnn] at hn0 HOKC ⊢
  clear hxV hbox hw0 hs0 hA0 hx1 hx1s hq hr hnn
  cases hv : runsB xs0
  · have HF := hide (addR_bad (x := x1) hv)
    go_enter Try.func13, Try.ntmps13
    go_wp2_with fail
    rw [← hV]
    clear hV
    refine (cb HOKC.out hv).mono ?_
    rintro e w1 ⟨rfl, hx⟩
    have HX := hide (HXV.out.trans hx)
    clear hx
    go_wp2_with fail
    go_ret2
    exact NePost.none HF.out.1 (by rw [HF.out.2]; rfl) HX.out
  cases hok : x1.okB
  · have HF := hide (addR_one (xs := xs0) hok)
    go_enter Try.func13, Try.ntmps13
    go_wp2_with fail
    rw [← hV]
    clear hV
    refine (cb HOKC.out hv).mono ?_
    rintro e w1 ⟨rfl, hx⟩
    have e0 := (HBOX.out.x hx).cell 0
    have e1 := (HBOX.out.x hx).cell 1
    have e2 := (HBOX.out.x hx).cell 2
    have hbb := (HBOX.out.x hx).lt
    simp at e0 e1 e2
    have HX := hide hx
    clear hx
    go_wp2_with fail
    refine (cb (HONE.out w1 HX.out) hok).mono ?_
    rintro e w2 ⟨rfl, hx2⟩
    have HX2 := hide (HX.out.trans hx2)
    clear hx2 e0 e1 e2 hbb
    go_wp2_with fail
    go_ret2
    exact NePost.none HF.out.1 (by rw [HF.out.2]; rfl) (HXV.out.trans HX2.out)
  obtain ⟨hn16, -⟩ := runs_parts hv
  have HSM := hide (show ∀ y ∈ xs0 ++ [x1], y.small 1048576 from fun y hy => by
    rcases List.mem_append.1 hy with h | h
    · exact runs_small hv y h
    · simp at h; subst h; simp only [RunD.small]; omega)
  by_cases h16 : n = 16
  · have HF := hide (addR_full hv hok (by rw [← HN.out]; exact h16))
    have q16 : (((n : Nat) : Int) == 16) = true := by rw [h16]; rfl
    clear h16
    go_enter Try.func13, Try.ntmps13
    go_wp2_with fail
    rw [← hV]
    clear hV
    refine (cb HOKC.out hv).mono ?_
    rintro e w1 ⟨rfl, hx⟩
    have e0 := (HBOX.out.x hx).cell 0
    have e1 := (HBOX.out.x hx).cell 1
    have e2 := (HBOX.out.x hx).cell 2
    have hbb := (HBOX.out.x hx).lt
    simp at e0 e1 e2
    have HX := hide hx
    clear hx
    go_wp2_with fail
    refine (cb (HONE.out w1 HX.out) hok).mono ?_
    rintro e w2 ⟨rfl, hx2⟩
    have HX2 := hide (HX.out.trans hx2)
    clear hx2 e0 e1 e2 hbb
    go_wp2_with fail
    go_ret2
    exact NePost.none HF.out.1 (by rw [HF.out.2]; rfl) (HXV.out.trans HX2.out)
  have q16 : (((n : Nat) : Int) == 16) = false := by simp only [beq_eq_false_iff_ne, ne_eq]; omega
  have HFO := hide (fun h => addR_order hv hok (by rw [← HN.out]; exact h16) h)
  have HFK := hide (fun h => addR_ok hv hok (by rw [← HN.out]; exact h16) h)
  have hn15 : n ≤ 15 := by have := HN.out; omega
  clear h16
  go_enter Try.func13, Try.ntmps13
  go_wp2_with fail
  rw [← hV]
  clear hV
  refine (cb HOKC.out hv).mono ?_
  rintro e w1 ⟨rfl, hx⟩
  have e0 := (HBOX.out.x hx).cell 0
  have e1 := (HBOX.out.x hx).cell 1
  have e2 := (HBOX.out.x hx).cell 2
  have hbb := (HBOX.out.x hx).lt
  simp at e0 e1 e2
  have HX := hide hx
  clear hx
  go_wp2_with fail
  refine (cb (HONE.out w1 HX.out) hok).mono ?_
  rintro e w2 ⟨rfl, hx2⟩
  have HX2 := hide (HX.out.trans hx2)
  clear hx2 e0 e1 e2 hbb
  clear HOKC HONE HX
  go_wp2_with fail
  have e0 := (HBOX.out.x HX2.out).cell 0
  have e1 := (HBOX.out.x HX2.out).cell 1
  have e2 := (HBOX.out.x HX2.out).cell 2
  have hbb := (HBOX.out.x HX2.out).lt
  simp at e0 e1 e2
  have HIW := hide (HXV.out.trans HX2.out)
  have n0 := World.new_ne w2 ⟨w.heap.size, 0, none⟩ e0
  have n1 := World.new_ne w2 ⟨w.heap.size, 1, none⟩ e1
  have n2 := World.new_ne w2 ⟨w.heap.size, 2, none⟩ e2
  obtain ⟨B, hB⟩ : ∃ B, B = w.heap.size := ⟨_, rfl⟩
  rw [← hB] at e0 e1 e2 hbb n0 n1 n2 ⊢
  have HBE := hide hB
  clear hB
  have HSW := hide (fun (W : World) (hW : IsX w2 W) => show W.cell? ⟨B, 0, none⟩ = some (.int .i64 x1.Day) ∧ W.cell? ⟨B, 1, none⟩ = some (.slice qA x1.Cues.length qC) ∧ W.cell? ⟨B, 2, none⟩ = some (.slice rA x1.Remarks.length rC) from ⟨keep hW hbb e0, keep hW hbb e1, keep hW hbb e2⟩)
  have HRX := hide (show ∀ W, IsX w W → RunR.ok 0 W (⟨x1.Day, qA, qC, x1.Cues, rA, rC, x1.Remarks⟩ : RunR) from fun W hW => ⟨⟨HQ.out.x hW, fun _ _ _ _ => Nat.zero_le _⟩, ⟨HRR.out.x hW, fun _ _ _ _ => Nat.zero_le _⟩⟩)
  have HIT := hide (info_parts Run_info)
  obtain ⟨rs, hrs, hrd0, hrok⟩ := HA.out
  have hrl : rs.length = n := by rw [HN.out, ← hrs, List.length_map]
  have HRS := hide (fun (W : World) (hW : IsX w2 W) => hrl ▸ (hrd0.reads (by omega) RunR.cells_len).below (HIW.out.trans hW).below)
  have HRO := hide (runR_one rs)
  have HXO := hide (show ∀ u ∈ RunR.cells (⟨x1.Day, qA, qC, x1.Cues, rA, rC, x1.Remarks⟩ : RunR), u.oneCell' = true from fun u hu => runR_one [(⟨x1.Day, qA, qC, x1.Cues, rA, rC, x1.Remarks⟩ : RunR)] u (by simpa using hu))
  have HL21 := hide (show ∀ (W : World) (A : Option Addr) (k : Nat), IsX w2 W → W.ownsRow w2.heap.size 39 3 (.slice A (n + 1) k) (n + 1) (rs.flatMap RunR.cells ++ RunR.cells (⟨x1.Day, qA, qC, x1.Cues, rA, rC, x1.Remarks⟩ : RunR)) → Calls Try.prog 19 #[.slice A (n + 1) k] W fun e w' => ∃ A' c' es, e = .returned (.slice A' (n + 1) c') ∧ RunRow w' W.heap.size (.slice A' (n + 1) c') es ∧ OfL es (xs0 ++ [x1]) ∧ IsX W w' from fun W A k hW ho => by
    have hrd : RdRun 0 W A (xs0 ++ [x1]) := by
      refine ⟨rs ++ [(⟨x1.Day, qA, qC, x1.Cues, rA, rC, x1.Remarks⟩ : RunR)], by rw [List.map_append, hrs]; rfl, ?_, fun r hr => ?_⟩
      · refine Own.rd (cells := RunR.cells) (k := 3) (t := 39) (base := w2.heap.size) (n := n + 1) (c := k) (by omega) RunR.cells_len ?_ (by simp [hrl])
        unfold Own
        rw [List.length_append, hrl, List.flatMap_append]
        simpa using ho
      · rcases List.mem_append.1 hr with h | h
        · exact (hrok r h).x (HIW.out.trans hW)
        · simp at h; subst h; exact HRX.out W (HIW.out.trans hW)
    have h := c_l21Own A k (xs0 ++ [x1]) W (by simp; have := HN.out; omega) HSM.out hrd
    have hl : (xs0 ++ [x1]).length = n + 1 := by simp [HN.out]
    rw [hl] at h
    exact h)
  have HSA : Hid ((w2.drew.alloc (.cells #[] 39)).ownsRow w2.heap.size 39 3 (.slice (some ⟨w2.heap.size, 0, none⟩) 0 0) 0 []) := hide (World.ownsRow_made w2.drew #[] 0 (Nat.le_refl _) (by simp [maxLen]) rfl)
  have HSB := hide (own_x HSA.out ((IsX.refl _).alloc (.cells #[.int .i64 x1.Day, .slice qA x1.Cues.length qC, .slice rA x1.Remarks.length rC] 39)))
  have HSC : Hid (((w2.drew.alloc (.cells #[.int .i64 x1.Day, .slice qA x1.Cues.length qC, .slice rA x1.Remarks.length rC] 39)).alloc (.cells #[] 39)).ownsRow w2.heap.size 39 3 (.slice (some ⟨w2.heap.size + 1, 0, none⟩) 0 0) 0 []) := hide (by have h := World.ownsRow_made (base := w2.heap.size) (e := 39) (size := 3) (w2.drew.alloc (.cells #[.int .i64 x1.Day, .slice qA x1.Cues.length qC, .slice rA x1.Remarks.length rC] 39)) #[] 0 (by simp) (by simp [maxLen]) rfl; simpa using h)
  have HBB : Hid (Blk ((w2.drew.alloc (.cells #[] 39)).alloc (.cells #[.int .i64 x1.Day, .slice qA x1.Cues.length qC, .slice rA x1.Remarks.length rC] 39)) (w2.heap.size + 1) 39 (RunR.cells (⟨x1.Day, qA, qC, x1.Cues, rA, rC, x1.Remarks⟩ : RunR)).toArray) := hide (by have h := Blk.new (w2.drew.alloc (.cells #[] 39)) 39 #[.int .i64 x1.Day, .slice qA x1.Cues.length qC, .slice rA x1.Remarks.length rC]; rw [show (w2.drew.alloc (.cells #[] 39)).heap.size = w2.heap.size + 1 by simp] at h; exact h)
  have HBC : Hid (Blk ((w2.drew.alloc (.cells #[.int .i64 x1.Day, .slice qA x1.Cues.length qC, .slice rA x1.Remarks.length rC] 39)).alloc (.cells #[] 39)) w2.heap.size 39 (RunR.cells (⟨x1.Day, qA, qC, x1.Cues, rA, rC, x1.Remarks⟩ : RunR)).toArray) := hide ((Blk.new w2.drew 39 #[.int .i64 x1.Day, .slice qA x1.Cues.length qC, .slice rA x1.Remarks.length rC]).alloc _)
  have XA : Hid (IsX w2 (w2.drew.alloc (.cells #[] 39))) := hide ((IsX.refl w2).drew.alloc _)
  have XB : Hid (IsX w2 ((w2.drew.alloc (.cells #[] 39)).alloc (.cells #[.int .i64 x1.Day, .slice qA x1.Cues.length qC, .slice rA x1.Remarks.length rC] 39))) := hide (((IsX.refl w2).drew.alloc _).alloc _)
  have XC : Hid (IsX w2 ((w2.drew.alloc (.cells #[.int .i64 x1.Day, .slice qA x1.Cues.length qC, .slice rA x1.Remarks.length rC] 39)).alloc (.cells #[] 39))) := hide (((IsX.refl w2).drew.alloc _).alloc _)
  clear hrs hrd0 hrok hrl
  go_region_held_law (fun W => W.cell? ⟨B, 0, none⟩ = some (.int .i64 x1.Day) ∧ W.cell? ⟨B, 1, none⟩ = some (.slice qA x1.Cues.length qC) ∧ W.cell? ⟨B, 2, none⟩ = some (.slice rA x1.Remarks.length rC)) (first | go_keep | (exact HSW.out _ HX1.out) | (exact HSW.out _ (HX1.out.alloc _)) | (exact HSW.out _ HX2'.out) | (exact HSW.out _ HX4.out))
    (first
      | (obtain ⟨i0, hi0, hz0, hz1, hz2⟩ := HIT.out; refine step_append_any _ rfl (.tmp 17) (.tmp 18) _ rfl w2.heap.size 39 i0 _ 3 56 Try.underlying24 hi0 hz0 hz1 hz2 rfl (by omega) _ 0 [] rfl HSA.out w.heap.size A0 n n (rs.flatMap RunR.cells) rfl (HRS.out _ XA.out) HRO.out (by unfold maxLen; omega) (by omega) XA.out.size ?_; clear hi0 hz0 hz1 hz2; intro v1 w1' hown1 hg1 hat1; rw [Nat.zero_add, List.nil_append] at hown1; obtain ⟨A1, k1, rfl⟩ := own_form hown1; have HX1 : Hid (IsX w2 w1') := hide (IsX.grown XA.out hg1 (by intro z hz; exact (HSA.out.lt z hz).1)); have HC1 := hide hown1; have HG1 := hide hg1; clear hown1 hg1 hat1)
      | (obtain ⟨i0, hi0, hz0, hz1, hz2⟩ := HIT.out; refine step_append_any _ rfl (.tmp 17) (.tmp 18) _ rfl w2.heap.size 39 i0 _ 3 56 Try.underlying24 hi0 hz0 hz1 hz2 rfl (by omega) _ 0 [] rfl HSB.out w.heap.size A0 n n (rs.flatMap RunR.cells) rfl (HRS.out _ XB.out) HRO.out (by unfold maxLen; omega) (by omega) XB.out.size ?_; clear hi0 hz0 hz1 hz2; intro v1 w1' hown1 hg1 hat1; rw [Nat.zero_add, List.nil_append] at hown1; obtain ⟨A1, k1, rfl⟩ := own_form hown1; have HX1 : Hid (IsX w2 w1') := hide (IsX.grown XB.out hg1 (by intro z hz; exact (HSB.out.lt z hz).1)); have HC1 := hide hown1; have HG1 := hide hg1; clear hown1 hg1 hat1)
      | (obtain ⟨i0, hi0, hz0, hz1, hz2⟩ := HIT.out; refine step_append_any _ rfl (.tmp 17) (.tmp 18) _ rfl w2.heap.size 39 i0 _ 3 56 Try.underlying24 hi0 hz0 hz1 hz2 rfl (by omega) _ 0 [] rfl HSC.out w.heap.size A0 n n (rs.flatMap RunR.cells) rfl (HRS.out _ XC.out) HRO.out (by unfold maxLen; omega) (by omega) XC.out.size ?_; clear hi0 hz0 hz1 hz2; intro v1 w1' hown1 hg1 hat1; rw [Nat.zero_add, List.nil_append] at hown1; obtain ⟨A1, k1, rfl⟩ := own_form hown1; have HX1 : Hid (IsX w2 w1') := hide (IsX.grown XC.out hg1 (by intro z hz; exact (HSC.out.lt z hz).1)); have HC1 := hide hown1; have HG1 := hide hg1; clear hown1 hg1 hat1)
      | (obtain ⟨i0, hi0, hz0, hz1, hz2⟩ := HIT.out; have hrd := hide (blk_reads (Blk.new w1' 39 (⟨x1.Day, qA, qC, x1.Cues, rA, rC, x1.Remarks⟩ : RunR).cells.toArray)); refine step_append_any _ rfl (.tmp 19) (.tmp 21) _ rfl w2.heap.size 39 i0 _ 3 56 Try.underlying24 hi0 hz0 hz1 hz2 rfl (by omega) _ n (rs.flatMap RunR.cells) rfl (own_x HC1.out ((IsX.refl w1').alloc _)) _ _ 1 1 (RunR.cells (⟨x1.Day, qA, qC, x1.Cues, rA, rC, x1.Remarks⟩ : RunR)) rfl hrd.out HXO.out (by unfold maxLen; omega) (by omega) ((HX1.out.alloc _)).size ?_; clear hi0 hz0 hz1 hz2; intro v2 w2' hown2 hg2 hat2; obtain ⟨A2, k2, rfl⟩ := own_form hown2; have HX2' : Hid (IsX w2 w2') := hide (IsX.grown (HX1.out.alloc _) hg2 (by intro z hz; exact (HC1.out.lt z hz).1)); have HC2 := hide hown2; clear hown2 hg2 hat2 hrd HC1 HG1 HX1)
      | (obtain ⟨i0, hi0, hz0, hz1, hz2⟩ := HIT.out; have hrd := hide (blk_reads (HBB.out.grown HG1.out (fun e => absurd (Option.some.inj e) (Nat.succ_ne_self _)))); refine step_append_any _ rfl (.tmp 19) (.tmp 21) _ rfl w2.heap.size 39 i0 _ 3 56 Try.underlying24 hi0 hz0 hz1 hz2 rfl (by omega) _ n (rs.flatMap RunR.cells) rfl HC1.out _ _ 1 1 (RunR.cells (⟨x1.Day, qA, qC, x1.Cues, rA, rC, x1.Remarks⟩ : RunR)) rfl hrd.out HXO.out (by unfold maxLen; omega) (by omega) (HX1.out).size ?_; clear hi0 hz0 hz1 hz2; intro v2 w2' hown2 hg2 hat2; obtain ⟨A2, k2, rfl⟩ := own_form hown2; have HX2' : Hid (IsX w2 w2') := hide (IsX.grown HX1.out hg2 (by intro z hz; exact (HC1.out.lt z hz).1)); have HC2 := hide hown2; clear hown2 hg2 hat2 hrd HC1 HG1 HX1)
      | (obtain ⟨i0, hi0, hz0, hz1, hz2⟩ := HIT.out; have hrd := hide (blk_reads (HBC.out.grown HG1.out (fun e => absurd (Option.some.inj e).symm (Nat.succ_ne_self _)))); refine step_append_any _ rfl (.tmp 19) (.tmp 21) _ rfl w2.heap.size 39 i0 _ 3 56 Try.underlying24 hi0 hz0 hz1 hz2 rfl (by omega) _ n (rs.flatMap RunR.cells) rfl HC1.out _ _ 1 1 (RunR.cells (⟨x1.Day, qA, qC, x1.Cues, rA, rC, x1.Remarks⟩ : RunR)) rfl hrd.out HXO.out (by unfold maxLen; omega) (by omega) (HX1.out).size ?_; clear hi0 hz0 hz1 hz2; intro v2 w2' hown2 hg2 hat2; obtain ⟨A2, k2, rfl⟩ := own_form hown2; have HX2' : Hid (IsX w2 w2') := hide (IsX.grown HX1.out hg2 (by intro z hz; exact (HC1.out.lt z hz).1)); have HC2 := hide hown2; clear hown2 hg2 hat2 hrd HC1 HG1 HX1)
      | (go_at_call 19; refine (HL21.out _ A2 k2 HX2'.out HC2.out).mono ?_; rintro e w4 ⟨A4, c4, es4, rfl, hR4, hO4, hx4⟩; have HR4 := hide (hR4.mono HX2'.out.size); have HO4 := hide hO4; have HX4 : Hid (IsX w2 w4) := hide (HX2'.out.trans hx4); clear hR4 hO4 hx4 HC2 HX2'))
  all_goals
    have HIW4 := hide (HIW.out.trans HX4.out)
    clear HSA HSB HSC HBB HBC XA XB XC e0 e1 e2 n0 n1 n2 HRS HRO HXO HL21 HSW
    go_wp2_with fail
    have HCAP := hide (run_cap HR4.out)
    have HLEN := hide (show (xs0 ++ [x1]).length = n + 1 by simp [HN.out])
    have HOK6 := hide (c_l21OkC A4 c4 (xs0 ++ [x1]) w4 (by simp; have := HN.out; omega) HW0.out (fun y hy => by have := HSM.out y hy; simp only [RunD.small] at this ⊢; omega) (HR4.out.rd HO4.out) (by rw [HLEN.out]; exact HCAP.out))
    rw [HLEN.out] at HOK6
    cases h3 : runsB (xs0 ++ [x1])
    · have HF := hide (HFO.out h3)
      rw [h3] at HOK6
      go_wp2_with fail
      refine HOK6.out.mono ?_
      rintro e w6 ⟨rfl, hx6⟩
      have HX6 := hide (HIW4.out.trans hx6)
      clear hx6
      go_wp2_with fail
      go_ret2
      exact NePost.none HF.out.1 (by rw [HF.out.2]; rfl) HX6.out
    · have HF := hide (HFK.out h3)
      rw [h3] at HOK6
      go_wp2_with fail
      refine HOK6.out.mono ?_
      rintro e w6 ⟨rfl, hx6⟩
      have HX6 := hide hx6
      clear hx6
      go_wp2_with fail
      go_ret2
      refine ⟨A4, c4, es4, by rw [HF.out.1, HF.out.2, HLEN.out]; rfl, ?_, by rw [HF.out.1]; exact HO4.out, HIW4.out.trans HX6.out⟩
      rw [HF.out.1, HLEN.out]
      exact (HR4.out.x HX6.out).mono (HIW.out.size)
end Go.Proofs.Yteneapchgmmhbaa
