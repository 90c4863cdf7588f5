/- Copies of runs whose slices are copied too: l21Own and cloneRuns. Conditions: lists no longer than 2^20. -/
import Derived.Test.YteneapchgmmhbaaRunMarks
import Derived.Test.YteneapchgmmhbaaOwn
import Derived.Deep.RegionHeldLaw
import Derived.Deep.RegionHeld3
namespace Go.Proofs.Yteneapchgmmhbaa
set_option linter.unusedVariables false
open Go.RowKit

theorem own_form {w : World} {base e size n : Nat} {v : Value} {xs : List Value} (h : w.ownsRow base e size v n xs) : ∃ A c, v = .slice A n c := by
  rcases h.2 with ⟨rfl, rfl⟩ | ⟨g, cap, cur, rfl, _⟩
  · exact ⟨none, 0, rfl⟩
  · exact ⟨_, _, rfl⟩
theorem str_one (xs : List ByteArray) : ∀ u ∈ xs.flatMap strC, u.oneCell' = true := by
  intro u hu
  rw [List.mem_flatMap] at hu
  obtain ⟨x, _, hx⟩ := hu
  simp only [strC, List.mem_singleton] at hx
  subst hx; rfl
theorem rem_one (xs : List RemarkD) : ∀ u ∈ xs.flatMap RemarkD.cells, u.oneCell' = true := by
  intro u hu
  rw [List.mem_flatMap] at hu
  obtain ⟨x, _, hx⟩ := hu
  simp only [RemarkD.cells, List.mem_cons, List.not_mem_nil, or_false] at hx
  rcases hx with rfl | rfl | rfl | rfl <;> rfl
theorem run_one (d : Int) (ca ra : Option Addr) (cn cc rn rc : Nat) (cl rl : List Value) : ∀ u ∈ RunE.cells ⟨.int .i64 d, ca, cn, cc, cl, ra, rn, rc, rl⟩, u.oneCell' = true := by
  intro u hu
  simp only [RunE.cells, RunE.cv, RunE.rv, List.mem_cons, List.not_mem_nil, or_false] at hu
  rcases hu with rfl | rfl | rfl <;> rfl
theorem run_reads (W : World) (e : RunE) : Reads (W.alloc (.cells #[e.day, e.cv, e.rv] 39)) (W.alloc (.cells #[e.day, e.cv, e.rv] 39)).heap.size 3 (some ⟨W.heap.size, 0, none⟩) 1 e.cells := by
  have h := Rd.reads (cells := RunE.cells) (xs := [e]) (by omega) RunE.cells_len (Blk.rd (cells := RunE.cells) (xs := [e]) (t := 39) RunE.cells_len (Blk.new W 39 #[e.day, e.cv, e.rv]))
  simpa using h
theorem take_snoc {α : Type} {xs : List α} {k : Nat} (h : k < xs.length) : xs.take (k + 1) = xs.take k ++ [xs[k]] := List.take_succ_eq_append_getElem h

set_option maxRecDepth 100000 in
set_option maxHeartbeats 12800000 in
theorem c_l21Own (A : Option Addr) (c : Nat) (xs : List RunD) (w : World) (hn : xs.length ≤ 1048576) (hs : ∀ x ∈ xs, x.small 1048576) (hA : RdRun 0 w A xs) :
    Calls Try.prog 19 #[.slice A xs.length c] w fun e w' => ∃ A' c' es, e = .returned (.slice A' xs.length c') ∧ RunRow w' w.heap.size (.slice A' xs.length c') es ∧ OfL es xs ∧ IsX w w' := by
  have HIS := hide (info_parts String_info)
  have HIM := hide (info_parts Remark_info)
  have HIT := hide (info_parts Run_info)
  have HA := hide hA
  have HS := hide hs
  obtain ⟨n, hnn⟩ : ∃ n, n = xs.length := ⟨_, rfl⟩
  have HN := hide hnn
  rw [← hnn] at hn ⊢
  clear hnn hA hs
  go_enter Try.func19, Try.ntmps19
  go_wp2_with fail
  go_loopw [3, 4] (fun ov iv wr => ∃ (k : Nat) (es : List RunE), k ≤ n ∧ iv = .int .i64 k ∧ (∃ A c, ov = .slice A k c) ∧ Hid (RunRow wr w.heap.size ov es) ∧ Hid (OfL es (xs.take k)) ∧ IsX w wr) (fun _ iv _ => n - (intOf iv).toNat)
  case atStart => exact ⟨0, [], Nat.zero_le _, rfl, ⟨_, _, rfl⟩, hide (RunRow.made w), hide OfL.nil, (IsX.refl w).alloc _⟩
  case round =>
    obtain ⟨k, es, hk, rfl, ⟨Ao, co, rfl⟩, HR, HO, p, rfl⟩ := hrel
    by_cases hlt : k < n
    · have hltx : k < xs.length := HN.out ▸ hlt
      have HEL := hide (show es.length = k by rw [HO.out.len, List.length_take]; omega)
      obtain ⟨b, off, qC, qR, qCc, qRc, rfl, hb, c0, c1, c2, r0, r1⟩ := RdRun.rd HA.out (show xs[k]? = some xs[k] from List.getElem?_eq_getElem _)
      have hsk := HS.out _ (List.getElem_mem hltx)
      simp only [RunD.small] at hsk
      have HRC0 := hide (r0.reads (by omega) strC_len)
      have HRR0 := hide (r1.reads (by omega) RemarkD.cells_len)
      have HOC := hide (str_one xs[k].Cues)
      have HOR := hide (rem_one xs[k].Remarks)
      have HOF := hide (fun (e : RunE) (h : e.of xs[k]) => (take_snoc hltx ▸ HO.out.snoc h : OfL (es ++ [e]) (xs.take (k + 1))))
      have HMK := hide (fun (A1 A2 : Option Addr) (k1 k2 : Nat) => (⟨rfl, rfl, rfl, rfl, rfl⟩ : RunE.of ⟨.int .i64 xs[k].Day, A1, xs[k].Cues.length, k1, xs[k].Cues.flatMap strC, A2, xs[k].Remarks.length, k2, xs[k].Remarks.flatMap RemarkD.cells⟩ xs[k]))
      clear r0 r1
      generalize xs[k].Cues.flatMap strC = cl at HRC0 HOC HMK
      generalize xs[k].Remarks.flatMap RemarkD.cells = rl at HRR0 HOR HMK
      generalize xs[k].Cues.length = m1 at c1 hsk HRC0 HMK
      generalize xs[k].Remarks.length = m2 at c2 hsk HRR0 HMK
      generalize xs[k].Day = dy at c0 HMK
      obtain ⟨hs1, hs2⟩ := hsk
      go_wp2_with fail
      have HSC0 := hide (show ∀ W, IsX w W → W.cell? ⟨b, off + k * 3, none⟩ = some (.int .i64 dy) ∧ W.cell? ⟨b, off + k * 3 + 1, none⟩ = some (.slice qC m1 qCc) ∧ W.cell? ⟨b, off + k * 3 + 2, none⟩ = some (.slice qR m2 qRc) from fun W hW => ⟨keep hW hb c0, keep hW hb c1, keep hW hb c2⟩)
      have e0 := keep (⟨p, rfl⟩ : IsX w (xt w p)) hb c0
      have e1 := keep (⟨p, rfl⟩ : IsX w (xt w p)) hb c1
      have e2 := keep (⟨p, rfl⟩ : IsX w (xt w p)) hb c2
      have hbb : b < (xt w p).heap.size := Nat.lt_of_lt_of_le hb (size_xt w p)
      have HIW := hide (show IsX w (xt w p) from ⟨p, rfl⟩)
      generalize xt w p = V at HR HIW hbb e0 e1 e2 ⊢
      clear c0 c1 c2 hb
      have n0 := World.new_ne V ⟨b, off + k * 3, none⟩ e0
      have n1 := World.new_ne V ⟨b, off + k * 3 + 1, none⟩ e1
      have n2 := World.new_ne V ⟨b, off + k * 3 + 2, none⟩ e2
      have HSW := hide (fun (W : World) (hW : IsX V W) => HSC0.out W (HIW.out.trans hW))
      have HRC := hide (fun (W : World) (hW : IsX V W) => HRC0.out.below (HIW.out.trans hW).below)
      have HRR := hide (fun (W : World) (hW : IsX V W) => HRR0.out.below (HIW.out.trans hW).below)
      have HROW : Hid (V.ownsRow w.heap.size 39 3 (.slice Ao k co) k (es.flatMap RunE.cells)) := hide (by have h := HR.out.row; rw [HEL.out] at h; exact h)
      have HSA : Hid ((V.drew.alloc (.cells #[] 9)).ownsRow V.heap.size 9 1 (.slice (some ⟨V.heap.size, 0, none⟩) 0 0) 0 []) := hide (World.ownsRow_made V.drew #[] 0 (Nat.le_refl _) (by simp [maxLen]) rfl)
      have HSB := hide (own_x HSA.out ((IsX.refl _).alloc (.cells #[] 47)))
      have HMC0 : Hid ((V.drew.alloc (.cells #[] 47)).ownsRow V.heap.size 47 4 (.slice (some ⟨V.heap.size, 0, none⟩) 0 0) 0 []) := hide (World.ownsRow_made V.drew #[] 0 (Nat.le_refl _) (by simp [maxLen]) rfl)
      have HMC := hide (own_x HMC0.out ((IsX.refl _).alloc (.cells #[] 9)))
      have HMB : Hid (((V.drew.alloc (.cells #[] 9)).alloc (.cells #[] 47)).ownsRow V.heap.size 47 4 (.slice (some ⟨V.heap.size + 1, 0, none⟩) 0 0) 0 []) := hide (by have h := World.ownsRow_made (base := V.heap.size) (e := 47) (size := 4) (V.drew.alloc (.cells #[] 9)) #[] 0 (by simp) (by simp [maxLen]) rfl; simpa using h)
      have HSC : Hid (((V.drew.alloc (.cells #[] 47)).alloc (.cells #[] 9)).ownsRow V.heap.size 9 1 (.slice (some ⟨V.heap.size + 1, 0, none⟩) 0 0) 0 []) := hide (by have h := World.ownsRow_made (base := V.heap.size) (e := 9) (size := 1) (V.drew.alloc (.cells #[] 47)) #[] 0 (by simp) (by simp [maxLen]) rfl; simpa using h)
      have XA : Hid (IsX V (V.drew.alloc (.cells #[] 9))) := hide ((IsX.refl V).drew.alloc _)
      have XB : Hid (IsX V ((V.drew.alloc (.cells #[] 9)).alloc (.cells #[] 47))) := hide (((IsX.refl V).drew.alloc _).alloc _)
      have XC : Hid (IsX V ((V.drew.alloc (.cells #[] 47)).alloc (.cells #[] 9))) := hide (((IsX.refl V).drew.alloc _).alloc _)
      clear HMC0 HRC0 HRR0
      go_region_held_law (fun W => W.cell? ⟨b, off + k * 3, none⟩ = some (.int .i64 dy) ∧ W.cell? ⟨b, off + k * 3 + 1, none⟩ = some (.slice qC m1 qCc) ∧ W.cell? ⟨b, off + k * 3 + 2, none⟩ = some (.slice qR m2 qRc)) (first | go_keep | (exact HSW.out _ HX1.out) | (exact HSW.out _ (HX1.out.alloc _)) | (exact HSW.out _ HX2.out) | (exact HSW.out _ (HX2.out.alloc _)) | (exact HSC0.out _ HX4.out))
        (first
          | (obtain ⟨i0, hi0, hz0, hz1, hz2⟩ := HIS.out; refine step_append_any _ rfl (.tmp 18) (.tmp 23) _ rfl V.heap.size 9 i0 _ 1 16 Try.underlying31 hi0 hz0 hz1 hz2 rfl (by omega) _ 0 [] rfl HSA.out w.heap.size qC m1 qCc cl rfl (HRC.out _ XA.out) HOC.out (by unfold maxLen; omega) (by omega) XA.out.size ?_; clear hi0 hz0 hz1 hz2; intro v1 w1 hown1 hg1 hat1; rw [Nat.zero_add, List.nil_append] at hown1; obtain ⟨A1, k1, rfl⟩ := own_form hown1; have HX1 : Hid (IsX V w1) := hide (IsX.grown XA.out hg1 (by intro z hz; exact (HSA.out.lt z hz).1)); have HC1 := hide hown1; have HG1 := hide hg1; clear hown1 hg1 hat1)
          | (obtain ⟨i0, hi0, hz0, hz1, hz2⟩ := HIS.out; refine step_append_any _ rfl (.tmp 18) (.tmp 23) _ rfl V.heap.size 9 i0 _ 1 16 Try.underlying31 hi0 hz0 hz1 hz2 rfl (by omega) _ 0 [] rfl HSB.out w.heap.size qC m1 qCc cl rfl (HRC.out _ XB.out) HOC.out (by unfold maxLen; omega) (by omega) XB.out.size ?_; clear hi0 hz0 hz1 hz2; intro v1 w1 hown1 hg1 hat1; rw [Nat.zero_add, List.nil_append] at hown1; obtain ⟨A1, k1, rfl⟩ := own_form hown1; have HX1 : Hid (IsX V w1) := hide (IsX.grown XB.out hg1 (by intro z hz; exact (HSB.out.lt z hz).1)); have HC1 := hide hown1; have HG1 := hide hg1; clear hown1 hg1 hat1)
          | (obtain ⟨i0, hi0, hz0, hz1, hz2⟩ := HIS.out; refine step_append_any _ rfl (.tmp 18) (.tmp 23) _ rfl V.heap.size 9 i0 _ 1 16 Try.underlying31 hi0 hz0 hz1 hz2 rfl (by omega) _ 0 [] rfl HSC.out w.heap.size qC m1 qCc cl rfl (HRC.out _ XC.out) HOC.out (by unfold maxLen; omega) (by omega) XC.out.size ?_; clear hi0 hz0 hz1 hz2; intro v1 w1 hown1 hg1 hat1; rw [Nat.zero_add, List.nil_append] at hown1; obtain ⟨A1, k1, rfl⟩ := own_form hown1; have HX1 : Hid (IsX V w1) := hide (IsX.grown XC.out hg1 (by intro z hz; exact (HSC.out.lt z hz).1)); have HC1 := hide hown1; have HG1 := hide hg1; clear hown1 hg1 hat1)
          | (obtain ⟨i0, hi0, hz0, hz1, hz2⟩ := HIM.out; have hrw := hide (World.ownsRow_made (base := V.heap.size) (e := 47) (size := 4) w1 #[] 0 HX1.out.size (by simp [maxLen]) rfl); refine step_append_any _ rfl (.tmp 25) (.tmp 30) _ rfl V.heap.size 47 i0 _ 4 48 Try.underlying37 hi0 hz0 hz1 hz2 rfl (by omega) _ 0 [] rfl hrw.out w.heap.size qR m2 qRc rl rfl (HRR.out _ (HX1.out.alloc _)) HOR.out (by unfold maxLen; omega) (by omega) ((HX1.out.alloc _)).size ?_; clear hi0 hz0 hz1 hz2; intro v2 w2 hown2 hg2 hat2; rw [Nat.zero_add, List.nil_append] at hown2; obtain ⟨A2, k2, rfl⟩ := own_form hown2; have HX2 : Hid (IsX V w2) := hide (IsX.grown (HX1.out.alloc _) hg2 (by intro z hz; exact (hrw.out.lt z hz).1)); have HC2 := hide ((own_x HC1.out ((IsX.refl w1).alloc _)).kept hg2 (own_type (own_x HC1.out ((IsX.refl w1).alloc _)) hrw.out (by omega))); have HM2 := hide hown2; clear hown2 hg2 hat2 hrw HC1 HG1 HX1)
          | (obtain ⟨i0, hi0, hz0, hz1, hz2⟩ := HIM.out; have hrw := hide (HMB.out.kept HG1.out (own_type HMB.out HSB.out (by omega))); refine step_append_any _ rfl (.tmp 25) (.tmp 30) _ rfl V.heap.size 47 i0 _ 4 48 Try.underlying37 hi0 hz0 hz1 hz2 rfl (by omega) _ 0 [] rfl hrw.out w.heap.size qR m2 qRc rl rfl (HRR.out _ HX1.out) HOR.out (by unfold maxLen; omega) (by omega) (HX1.out).size ?_; clear hi0 hz0 hz1 hz2; intro v2 w2 hown2 hg2 hat2; rw [Nat.zero_add, List.nil_append] at hown2; obtain ⟨A2, k2, rfl⟩ := own_form hown2; have HX2 : Hid (IsX V w2) := hide (IsX.grown HX1.out hg2 (by intro z hz; exact (hrw.out.lt z hz).1)); have HC2 := hide (HC1.out.kept hg2 (own_type HC1.out hrw.out (by omega))); have HM2 := hide hown2; clear hown2 hg2 hat2 hrw HC1 HG1 HX1)
          | (obtain ⟨i0, hi0, hz0, hz1, hz2⟩ := HIM.out; have hrw := hide (HMC.out.kept HG1.out (own_type HMC.out HSC.out (by omega))); refine step_append_any _ rfl (.tmp 25) (.tmp 30) _ rfl V.heap.size 47 i0 _ 4 48 Try.underlying37 hi0 hz0 hz1 hz2 rfl (by omega) _ 0 [] rfl hrw.out w.heap.size qR m2 qRc rl rfl (HRR.out _ HX1.out) HOR.out (by unfold maxLen; omega) (by omega) (HX1.out).size ?_; clear hi0 hz0 hz1 hz2; intro v2 w2 hown2 hg2 hat2; rw [Nat.zero_add, List.nil_append] at hown2; obtain ⟨A2, k2, rfl⟩ := own_form hown2; have HX2 : Hid (IsX V w2) := hide (IsX.grown HX1.out hg2 (by intro z hz; exact (hrw.out.lt z hz).1)); have HC2 := hide (HC1.out.kept hg2 (own_type HC1.out hrw.out (by omega))); have HM2 := hide hown2; clear hown2 hg2 hat2 hrw HC1 HG1 HX1)
          | (obtain ⟨i0, hi0, hz0, hz1, hz2⟩ := HIT.out; refine step_append_any _ rfl (.tmp 12) (.tmp 33) _ rfl w.heap.size 39 i0 _ 3 56 Try.underlying24 hi0 hz0 hz1 hz2 rfl (by omega) _ k (es.flatMap RunE.cells) rfl (own_x HROW.out (HX2.out.alloc _)) _ (some ⟨w2.heap.size, 0, none⟩) 1 1 (RunE.cells (⟨.int .i64 dy, A1, m1, k1, cl, A2, m2, k2, rl⟩ : RunE)) rfl (run_reads w2 (⟨.int .i64 dy, A1, m1, k1, cl, A2, m2, k2, rl⟩ : RunE)) (run_one _ _ _ _ _ _ _ _ _) (by unfold maxLen; omega) (by omega) (HIW.out.trans (HX2.out.alloc _)).size ?_; clear hi0 hz0 hz1 hz2; intro v4 w4 hown4 hg4 hat4; have HX4 : Hid (IsX w w4) := hide (IsX.grown (HIW.out.trans (HX2.out.alloc _)) hg4 (by intro z hz; exact (HROW.out.lt z hz).1)); have HR4 := hide (HR.out.push (e := (⟨.int .i64 dy, A1, m1, k1, cl, A2, m2, k2, rl⟩ : RunE)) HX2.out HIW.out.size HC2.out HM2.out (by rw [HEL.out]; exact hown4) hg4); obtain ⟨A4, c4, rfl⟩ := own_form hown4; clear hown4 hg4 hat4 HC2 HM2 HX2))
      all_goals
        clear HSA HSB HSC HMB HMC XA XB XC HROW e0 e1 e2 n0 n1 n2
        go_wp2_with fail
        go_roundw
        case rel => exact ⟨k + 1, _, by omega, by go_num, ⟨_, _, rfl⟩, HR4, hide (HOF.out _ (HMK.out A1 A2 k1 k2)), HX4.out⟩
        case measure => simp [intOf]; omega
    · obtain rfl : k = n := by omega
      have HT := hide (show xs.take k = xs by rw [HN.out]; exact List.take_length)
      go_wp2_with fail
      go_ret
      exact ⟨Ao, co, es, rfl, HR.out, HT.out ▸ HO.out, ⟨p, rfl⟩⟩
end Go.Proofs.Yteneapchgmmhbaa
