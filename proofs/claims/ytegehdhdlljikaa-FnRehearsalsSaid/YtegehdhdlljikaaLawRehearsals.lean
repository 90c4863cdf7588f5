/- FnRehearsals: the walk through the law's own text. Conditions: those of the row's arguments alone. -/
import Derived.Test.YtegehdhdlljikaaLawFns
import Derived.Test.YtegehdhdlljikaaDrawRuns
import Derived.Test.YtegehdhdlljikaaDrawCues
import Derived.Test.YtegehdhdlljikaaAddRunI
import Derived.Test.YtegehdhdlljikaaDoneFns
import Derived.Test.YtegehdhdlljikaaDueFns
namespace Go.Proofs.Ytegehdhdlljikaa
set_option linter.unusedVariables false
open Go.RowKit

theorem rem_lit : (newRun false).Remarks.flatMap RemarkD.cells = [.int .i64 900, .string ⟨#[110, 101, 119]⟩, .string ⟨#[97]⟩, .bool false, .int .i64 901, .string ⟨#[97, 110, 110]⟩, .string ⟨#[98]⟩, .bool true] := rfl
theorem sm_more {xs : List RunD} (h : ∀ x ∈ xs, x.wf ∧ x.small 1048576) : ∀ x ∈ xs, x.small 1099511627776 := fun x hx => by
  have := (h x hx).2
  simp only [RunD.small] at this ⊢; omega
set_option maxHeartbeats 12800000 in
set_option maxRecDepth 100000 in
theorem law_FnRehearsals (A : Option Addr) (c : Nat) (bs : List Int) (B : Option Addr) (c' : Nat) (ms : List Int) (w : World) (hn : bs.length ≤ maxLen) (hb : ∀ x ∈ bs, byteWf x) (hA : Rd byteC 1 w A bs) (hn' : ms.length ≤ maxLen) (hb' : ∀ x ∈ ms, byteWf x) (hB : Rd byteC 1 w B ms) :
    Calls Try.prog 3 #[.slice A bs.length c, .slice B ms.length c'] w fun e w' => e = .returned (.bool true) ∧ IsX w w' := by
  by_cases hl : 1048576 < bs.length ∨ 1048576 < ms.length
  · generalize bs.length = n at hl hn ⊢
    generalize ms.length = n' at hl hn' ⊢
    unfold maxLen at hn hn'
    have hd : (decide ((n : Int) > 1048576) || decide ((n' : Int) > 1048576)) = true := by
      simp only [Bool.or_eq_true, decide_eq_true_eq]; omega
    have HL := hide (cb (c_r8Long A n c B n' c' w) hd)
    clear hd hl hn hn'
    go_enter Try.func3, Try.ntmps3
    go_wp2_with fail
    refine HL.out.mono ?_
    rintro e w' ⟨rfl, rfl⟩
    go_wp2_with fail
    go_ret
    exact ⟨rfl, IsX.refl _⟩
  have hd : (decide ((bs.length : Int) > 1048576) || decide ((ms.length : Int) > 1048576)) = false := by
    simp only [Bool.or_eq_false_iff, decide_eq_false_iff_not]; omega
  have HR0 := hide (c_R8Runs A c bs w (by omega) hb hA)
  have HA0 := hide (fun (V : World) (hV : IsX w V) => c_r8At B c' ms 0 20 V (by omega) (by omega) (by omega) (by omega) hb' (hB.x hV))
  have HRC := hide (fun (V : World) (hV : IsX w V) => c_R8Cues B c' ms V (by omega) hb' (hB.x hV))
  have HL := hide (fun (V : World) => cb (c_r8Long A bs.length c B ms.length c' V) hd)
  generalize bs.length = bl at HR0 HL ⊢
  generalize ms.length = ml at HA0 HRC HL ⊢
  clear hn hb hA hn' hb' hB hd hl
  go_enter Try.func3, Try.ntmps3
  go_wp2_with fail
  refine (HL.out w).mono ?_
  rintro e w' ⟨rfl, rfl⟩
  clear HL
  go_wp2_with fail
  refine HR0.out.mono ?_
  rintro e w1 ⟨A1, c1, xs, rfl, hdr, hcap, hrd, hx⟩
  have HX1 := hide hx
  have HRD := hide hrd
  have HDR := hide hdr
  obtain ⟨n, hnn⟩ : ∃ n, n = xs.length := ⟨_, rfl⟩
  have HN := hide hnn
  have hn4 : n ≤ 4 := by rw [hnn]; exact hdr.2.1
  rw [← hnn] at hcap ⊢
  clear hx hrd hdr hnn HR0
  go_wp2_with fail
  obtain ⟨K0, hK0⟩ : ∃ K, K = w1.heap.size := ⟨_, rfl⟩
  obtain ⟨K1, hK1⟩ : ∃ K, K = K0 + 1 := ⟨_, rfl⟩
  generalize hw2 : World.alloc (World.alloc (World.alloc w1 _) _) _ = w2
  have HX2 : Hid (IsX w1 w2) := hide (by rw [← hw2]; exact (((IsX.refl w1).alloc _).alloc _).alloc _)
  have HQA : Hid (Rd strC 1 w2 (some ⟨K0, 0, none⟩) [⟨#[97]⟩, ⟨#[98]⟩]) := hide (by
    rw [← hw2, hK0]
    have h := Blk.rd (cells := strC) (xs := [⟨#[97]⟩, ⟨#[98]⟩]) (t := 9) strC_len (Blk.new w1 9 #[.string ⟨#[97]⟩, .string ⟨#[98]⟩])
    exact (h.x ((IsX.refl _).alloc _)).x ((IsX.refl _).alloc _))
  have HQR : Hid (Rd RemarkD.cells 4 w2 (some ⟨K1, 0, none⟩) (newRun false).Remarks) := hide (by
    rw [← hw2, hK1, hK0]
    have h := Blk.rd (cells := RemarkD.cells) (xs := (newRun false).Remarks) (t := 28) RemarkD.cells_len (w := (w1.alloc (.cells #[.string ⟨#[97]⟩, .string ⟨#[98]⟩] 9)).alloc (.cells #[.int .i64 900, .string ⟨#[110, 101, 119]⟩, .string ⟨#[97]⟩, .bool false, .int .i64 901, .string ⟨#[97, 110, 110]⟩, .string ⟨#[98]⟩, .bool true] 28)) (g := (w1.alloc (.cells #[.string ⟨#[97]⟩, .string ⟨#[98]⟩] 9)).heap.size) (by rw [rem_lit]; exact Blk.new _ 28 _)
    rw [World.size_alloc] at h
    exact h.x ((IsX.refl _).alloc _))
  rw [← hK0, ← hK1]
  clear hw2 hK0 hK1
  have HADD : Hid (Calls Try.prog 6 #[.slice A1 n c1, .agg #[.int .i64 5000, .slice (some ⟨K0, 0, none⟩) 2 2, .slice (some ⟨K1, 0, none⟩) 2 2]] w2 (NePost w2 (xs ++ [newRun false]) 0)) := hide (by
    have h := i_AddRun A1 c1 xs (newRun false) (some ⟨K0, 0, none⟩) (some ⟨K1, 0, none⟩) 2 2 w2 (by have := HDR.out.2.1; omega) (fun x hx => (HDR.out.2.2.1 x hx).1) (sm_more HDR.out.2.2.1) (HRD.out.x HX2.out) (new_wf HDR.out false _ (by simp)).1 (new_wf HDR.out false _ (by simp)).2 HQA.out HQR.out
    rw [(new_add HDR.out).1, (new_add HDR.out).2, ← HN.out] at h
    exact h)
  refine HADD.out.mono ?_
  rintro e w3 ⟨A3, c3, es, rfl, hR, hO, hx3⟩
  have HX3 := hide (HX2.out.trans hx3)
  have HRY := hide (hR.rd hO)
  clear hR hO hx3 HADD HQA HQR HX2
  obtain ⟨ys, hys⟩ : ∃ ys, ys = xs ++ [newRun false] := ⟨_, rfl⟩
  obtain ⟨zs, hzs⟩ : ∃ zs, zs = xs ++ [newRun true] := ⟨_, rfl⟩
  have HYL := hide (show ys.length = n + 1 by rw [hys, HN.out]; simp)
  have HZL := hide (show zs.length = n + 1 by rw [hzs, HN.out]; simp)
  have HVY := hide (show runsB ys = true by rw [hys]; exact new_runs HDR.out false)
  have HVZ := hide (show runsB zs = true by rw [hzs]; exact new_runs HDR.out true)
  have HWY := hide (show ∀ x ∈ ys, x.wf ∧ x.small 1048576 by rw [hys]; exact new_wf HDR.out false)
  have HWZ := hide (show ∀ x ∈ zs, x.wf ∧ x.small 1048576 by rw [hzs]; exact new_wf HDR.out true)
  have HOY := hide (show openRs ys = openRs xs ++ [⟨900, nmNew, cueA, false⟩] by rw [hys]; exact new_open HDR.out)
  have HOZ := hide (show openRs zs = openRs xs by rw [hzs]; exact new_rest HDR.out)
  have HWHO := hide (show hasStr nmNew (whoZ ys) = true by rw [hys]; exact new_who HDR.out)
  have HFREE := hide (show hasStr nmNew (whoZ zs) = false by rw [hzs]; exact new_free HDR.out)
  have HDY := hide (show doneZ ys 900 = zs ∧ doneC ys 900 = 0 by rw [hys, hzs]; exact (new_doneAt HDR.out false).2 rfl)
  have HDZ := hide (show doneC zs 900 = 6 by rw [hzs]; exact (new_doneAt HDR.out true).1 rfl)
  have HLY := hide (show lastOf ys cueB = 5000 ∧ lastCode ys cueB = 0 by rw [hys]; exact new_last HDR.out false)
  have HDUE := hide (show ∀ (cs : List CueD) (v : Int), cueListB cs = true → 0 ≤ v ∧ v < 20 → dueC cs ys (5000 + v) 20 = 0 ∧ (dueZ cs ys (5000 + v) 20).length ≤ cs.length ∧ hasStr cueA (dueZ cs ys (5000 + v) 20) = false ∧ hasStr cueB (dueZ cs ys (5000 + v) 20) = false by rw [hys]; exact fun cs v hc hv => new_due HDR.out hc hv)
  rw [← hys] at HRY ⊢
  rw [HYL.out]
  clear hys hzs
  obtain ⟨lo, hlo⟩ : ∃ lo, lo = (openRs xs).length := ⟨_, rfl⟩
  have hlo128 : lo ≤ 128 := by rw [hlo]; exact who_len HDR.out.1
  have HLO := hide hlo
  have HO1 := hide (show Calls Try.prog 7 #[.slice A1 n c1] w3 (SlPost RemarkD.cells 4 28 w3 (openRs xs) 0) from by
    have h := i_OpenRemarks A1 c1 xs w3 (by have := HDR.out.2.1; omega) (fun x hx => (HDR.out.2.2.1 x hx).1) (sm_more HDR.out.2.2.1) (HRD.out.x HX3.out)
    rw [show openZ xs = openRs xs by simp [openZ, HDR.out.1], show openC xs = 0 by simp [openC, HDR.out.1], ← HN.out] at h
    exact h)
  have HO2 := hide (fun (V : World) (hV : IsX w3 V) => show Calls Try.prog 7 #[.slice A3 (n + 1) c3] V (SlPost RemarkD.cells 4 28 V (openRs ys) 0) from by
    have h := i_OpenRemarks A3 c3 ys V (by rw [HYL.out]; omega) (fun x hx => (HWY.out x hx).1) (sm_more HWY.out) (HRY.out.x hV)
    rw [show openZ ys = openRs ys by simp [openZ, HVY.out], show openC ys = 0 by simp [openC, HVY.out], HYL.out] at h
    exact h)
  have HW2 := hide (fun (V : World) (hV : IsX w3 V) => show Calls Try.prog 8 #[.slice A3 (n + 1) c3] V (SlPost strC 1 9 V (whoZ ys) 0) from by
    have h := i_WhoMustCome A3 c3 ys V (by rw [HYL.out]; omega) (fun x hx => (HWY.out x hx).1) (sm_more HWY.out) (HRY.out.x hV)
    rw [show openC ys = 0 by simp [openC, HVY.out], HYL.out] at h
    exact h)
  have HL2 := hide (fun (V : World) (hV : IsX w3 V) => show Calls Try.prog 9 #[.slice A3 (n + 1) c3, .string cueB] V (fun e w' => e = .returned (.tuple #[.int .i64 5000, .int .i64 0]) ∧ IsX V w') from by
    have h := i_LastRehearsed A3 c3 ys cueB V (by rw [HYL.out]; omega) (fun x hx => (HWY.out x hx).1) (sm_more HWY.out) (HRY.out.x hV) (by decide +kernel)
    rw [HLY.out.1, HLY.out.2, HYL.out] at h
    exact h)
  have HD2 := hide (fun (V : World) (hV : IsX w3 V) => show Calls Try.prog 11 #[.slice A3 (n + 1) c3, .int .i64 900] V (NePost V zs 0) from by
    have h := i_DoneRemark A3 c3 ys 900 V (by rw [HYL.out]; omega) (fun x hx => (HWY.out x hx).1) (sm_more HWY.out) (HRY.out.x hV) (by unfold intWf; omega)
    rw [HDY.out.1, HDY.out.2, HYL.out] at h
    exact h)
  clear hlo
  go_wp2_with fail
  refine HO1.out.mono ?_
  rintro e w4 ⟨A4, c4, rfl, ho4, hx4⟩
  have HX4 := hide hx4
  rw [← HLO.out]
  clear ho4 hx4 HO1
  go_wp2_with fail
  refine (HO2.out w4 HX4.out).mono ?_
  rintro e w5 ⟨A5, c5, rfl, ho5, hx5⟩
  have HX5 := hide (HX4.out.trans hx5)
  have HL5 := hide (show (openRs ys).length = lo + 1 by rw [HOY.out, HLO.out]; simp)
  rw [HL5.out]
  clear ho5 hx5 HO2
  go_wp2_with fail
  refine (HW2.out w5 HX5.out).mono ?_
  rintro e w6 ⟨A6, c6, rfl, ho6, hx6⟩
  have HX6 := hide (HX5.out.trans hx6)
  have HR6 := hide (show Rd strC 1 w6 A6 (whoZ ys) from Own.rd (cells := strC) (k := 1) (by omega) strC_len ho6 rfl)
  have hw6 : (whoZ ys).length ≤ 1099511627776 := by
    rcases ho6.2 with ⟨_, h⟩ | ⟨_, cap, _, _, _, _, h1, h2, h3, h4⟩
    · omega
    · rw [whoZ, if_pos HVY.out]
      have h1 := foldS_len (whoRs ys) []
      have h2 := who_len HVY.out
      rw [whoRs, List.length_map] at h1
      simp at h1
      simp only [whoRs]
      omega
  have HT6 := hide (fun (V : World) (hV : IsX w6 V) => cb (c_r8HasText A6 c6 (whoZ ys) nmNew V hw6 (HR6.out.x hV)) HWHO.out)
  generalize (whoZ ys).length = l6 at HT6 ⊢
  clear ho6 hx6 hw6 HW2 HR6 HX5
  go_wp2_with fail
  refine (HL2.out w6 HX6.out).mono ?_
  rintro e w7 ⟨rfl, hx7⟩
  have HX7 := hide hx7
  clear hx7 HL2
  go_wp2_with fail
  refine (HT6.out w7 HX7.out).mono ?_
  rintro e w8 ⟨rfl, hx8⟩
  have HX8 := hide (HX6.out.trans (HX7.out.trans hx8))
  clear hx8 HT6 HX7 HX6
  go_wp2_with fail
  refine (HD2.out w8 HX8.out).mono ?_
  rintro e w9 ⟨A9, c9, es9, rfl, hR9, hO9, hx9⟩
  have HX9 := hide (HX8.out.trans hx9)
  have HRZ := hide (hR9.rd hO9)
  rw [HZL.out]
  clear hR9 hO9 hx9 HD2 HX8
  have HO3 := hide (show Calls Try.prog 7 #[.slice A9 (n + 1) c9] w9 (SlPost RemarkD.cells 4 28 w9 (openRs zs) 0) from by
    have h := i_OpenRemarks A9 c9 zs w9 (by rw [HZL.out]; omega) (fun x hx => (HWZ.out x hx).1) (sm_more HWZ.out) HRZ.out
    rw [show openZ zs = openRs zs by simp [openZ, HVZ.out], show openC zs = 0 by simp [openC, HVZ.out], HZL.out] at h
    exact h)
  have HW3 := hide (fun (V : World) (hV : IsX w9 V) => show Calls Try.prog 8 #[.slice A9 (n + 1) c9] V (SlPost strC 1 9 V (whoZ zs) 0) from by
    have h := i_WhoMustCome A9 c9 zs V (by rw [HZL.out]; omega) (fun x hx => (HWZ.out x hx).1) (sm_more HWZ.out) (HRZ.out.x hV)
    rw [show openC zs = 0 by simp [openC, HVZ.out], HZL.out] at h
    exact h)
  have HD3 := hide (fun (V : World) (hV : IsX w9 V) => show Calls Try.prog 11 #[.slice A9 (n + 1) c9, .int .i64 900] V (NePost V (doneZ zs 900) 6) from by
    have h := i_DoneRemark A9 c9 zs 900 V (by rw [HZL.out]; omega) (fun x hx => (HWZ.out x hx).1) (sm_more HWZ.out) (HRZ.out.x hV) (by unfold intWf; omega)
    rw [HDZ.out, HZL.out] at h
    exact h)
  go_wp2_with fail
  refine HO3.out.mono ?_
  rintro e wa ⟨Aa, ca, rfl, hoa, hxa⟩
  have HXa := hide hxa
  have HLa := hide (show (openRs zs).length = lo by rw [HOZ.out, HLO.out])
  rw [HLa.out]
  clear hoa hxa HO3
  go_wp2_with fail
  refine (HD3.out wa HXa.out).mono ?_
  rintro e wb ⟨Ab, cb', esb, rfl, hRb, hOb, hxb⟩
  have HXb := hide (HXa.out.trans hxb)
  generalize (doneZ zs 900).length = lb
  clear hRb hOb hxb HD3 HXa
  go_wp2_with fail
  refine (HW3.out wb HXb.out).mono ?_
  rintro e wc ⟨Ac, cc, rfl, hoc, hxc⟩
  have HXc := hide (HXb.out.trans hxc)
  have HRc := hide (show Rd strC 1 wc Ac (whoZ zs) from Own.rd (cells := strC) (k := 1) (by omega) strC_len hoc rfl)
  have hwc : (whoZ zs).length ≤ 1099511627776 := by
    rw [whoZ, if_pos HVZ.out]
    have h1 := foldS_len (whoRs zs) []
    have h2 := who_len HVZ.out
    rw [whoRs, List.length_map] at h1
    simp at h1
    simp only [whoRs]
    omega
  have HTc := hide (cb (c_r8HasText Ac cc (whoZ zs) nmNew wc hwc HRc.out) HFREE.out)
  generalize (whoZ zs).length = lc at HTc ⊢
  clear hoc hxc hwc HW3 HRc HXb
  go_wp2_with fail
  refine HTc.out.mono ?_
  rintro e wd ⟨rfl, hxd⟩
  have HXd := hide (HX9.out.trans (HXc.out.trans hxd))
  clear hxd HTc HXc HX9
  have HXW := hide (HX1.out.trans (HX3.out.trans HXd.out))
  go_wp2_with fail
  refine (HRC.out wd HXW.out).mono ?_
  rintro e we ⟨Ae, ce, cs, rfl, hcc, hcv, hcw, hcr, hxe⟩
  have HXe := hide (HXd.out.trans hxe)
  have HXWe := hide (HXW.out.trans hxe)
  have hcl : cs.length ≤ 32 := cues_len hcv
  have HCV := hide hcv
  have HDU := hide (fun (V : World) (hV : IsX we V) (v : Int) (h0 : 0 ≤ v) (h1 : v < 20) => show Calls Try.prog 13 #[.slice Ae cs.length ce, .slice A3 (n + 1) c3, .int .i64 (5000 + v), .int .i64 20] V (SlPost strC 1 9 V (dueZ cs ys (5000 + v) 20) 0) from by
    have h := i_CuesToRehearse Ae ce cs A3 c3 ys (5000 + v) 20 V (by omega) hcw (hcr.x hV) (by rw [HYL.out]; omega) (fun x hx => (HWY.out x hx).1) (sm_more HWY.out) (HRY.out.x (HXe.out.trans hV)) (by unfold intWf; omega) (by unfold intWf; omega) hcc
    rw [(HDUE.out cs v hcv ⟨h0, h1⟩).1, HYL.out] at h
    exact h)
  obtain ⟨m, hm⟩ : ∃ m, m = cs.length := ⟨_, rfl⟩
  have HM := hide hm
  rw [← hm] at HDU hcl ⊢
  clear hcc hcv hcw hcr hxe hm HRC HXW
  go_wp2_with fail
  refine (HA0.out we HXWe.out).mono ?_
  rintro e wf ⟨v, rfl, v0, v1, rfl⟩
  go_wp2_with fail
  refine (HDU.out we (IsX.refl _) v v0 v1).mono ?_
  rintro e wg ⟨Ag, cg, rfl, hog, hxg⟩
  have HXg := hide (HXWe.out.trans hxg)
  obtain ⟨_, hd2, hd3, hd4⟩ := HDUE.out cs v HCV.out ⟨v0, v1⟩
  rw [← HM.out] at hd2
  have HRg := hide (show Rd strC 1 wg Ag (dueZ cs ys (5000 + v) 20) from Own.rd (cells := strC) (k := 1) (by omega) strC_len hog rfl)
  have HTA := hide (cb (c_r8HasText Ag cg (dueZ cs ys (5000 + v) 20) cueA wg (by omega) HRg.out) hd3)
  have HTB := hide (fun (V : World) (hV : IsX wg V) => cb (c_r8HasText Ag cg (dueZ cs ys (5000 + v) 20) cueB V (by omega) (HRg.out.x hV)) hd4)
  generalize (dueZ cs ys (5000 + v) 20).length = ld at HTA HTB hd2 ⊢
  have g0 : decide ((ld : Int) > (m : Int)) = false := decide_eq_false (by omega)
  clear hog hxg hd3 hd4 HDU HRg
  go_wp2_with fail
  refine HTA.out.mono ?_
  rintro e wh ⟨rfl, hxh⟩
  have HXh := hide hxh
  clear hxh HTA g0
  go_wp2_with fail
  refine (HTB.out wh HXh.out).mono ?_
  rintro e wi ⟨rfl, hxi⟩
  have HXi := hide (HXg.out.trans (HXh.out.trans hxi))
  clear hxi HTB
  go_wp2_with fail
  go_ret
  exact ⟨rfl, HXi.out⟩
end Go.Proofs.Ytegehdhdlljikaa
