/- FewestUniverses of the program. Conditions: those of the row alone. -/
import Derived.Test.YthcgapfhlggegaaUniGo
namespace Go.Proofs.Ythcgapfhlggegaa
set_option linter.unusedVariables false
open Go.RowKit

theorem made_zero (m : Nat) : (madeCells #[Value.int .i64 0] m).toList = (List.replicate m (0 : Int)).flatMap intC := by
  have e : ∀ m : Nat, (List.replicate m (0 : Int)).flatMap intC = List.replicate m (Value.int .i64 0) := fun m => by
    induction m with
    | zero => rfl
    | succ m ih => rw [List.replicate_succ, List.flatMap_cons, ih, List.replicate_succ]; rfl
  rw [e]
  apply List.ext_getElem
  · simp [madeCells]
  · intro a h1 h2
    simp [madeCells, Nat.mod_one]
set_option maxHeartbeats 3200000 in
set_option maxRecDepth 100000 in
theorem i_FewestUniverses (A : Option Addr) (c : Nat) (xs : List Int) (bud : Int) (w : World) (hn : xs.length ≤ 1099511627776) (hw : ∀ x ∈ xs, intWf x) (hA : Rd intC 1 w A xs) (hb : intWf bud) :
    Calls Try.prog 13 #[.slice A xs.length c, .int .i64 bud] w (Sl3Post intC 1 2 w (uniAns xs bud).1 (uniAns xs bud).2.1 (uniAns xs bud).2.2) := by
  have HOKC := hide (c_areWidths A c xs w hn hA)
  by_cases hv : widthsB xs = true ∧ inB bud 1 20000 = true
  rotate_left
  · have HR := hide (uniAns_no hv)
    have hvs : widthsB xs = false ∨ (widthsB xs = true ∧ inB bud 1 20000 = false) := by
      cases h1 : widthsB xs <;> cases h2 : inB bud 1 20000 <;> simp_all
    clear hv
    rcases hvs with h1 | ⟨h1, h2⟩
    all_goals
      rw [h1] at HOKC
      clear h1
      go_enter Try.func13, Try.ntmps13
      go_wp2_with fail
      refine HOKC.out.mono ?_
      rintro e w1 ⟨rfl, hx⟩
      go_wp2_with (go_at_call 23; refine (c_within _ _ _ _).mono ?_; rintro e w' ⟨rfl, rfl⟩)
      go_ret3
      rw [HR.out]
      exact Sl3Post.none rfl rfl hx
  · have HR := hide (uniAns_go hv)
    obtain ⟨hv, hbd⟩ := hv
    obtain ⟨hbl, hbh⟩ := inB_true.1 hbd
    have HV := hide (widths_of hv)
    rw [hv] at HOKC
    obtain ⟨n, hnn⟩ : ∃ n, n = xs.length := ⟨_, rfl⟩
    have HN := hide hnn
    have hn16 : n ≤ 16 := by rw [hnn]; exact HV.out.1
    rw [← hnn] at hn HOKC ⊢
    clear hnn hv
    obtain ⟨R, hR⟩ : ∃ R, R = uniAns xs bud := ⟨_, rfl⟩
    rw [← hR] at HR ⊢
    clear hR
    have HA := hide hA
    clear hA
    obtain ⟨i0, hi0, hz0, hz1, hz2⟩ := info_parts Int64_info
    have HMK := hide (show ∀ (m : Nat) (V : World), m ≤ 1000 → (Instr.makeSlice 27 (.int .i64 (m : Int)) (.int .i64 (m : Int))).run Try.prog V = .ok (.slice (some ⟨V.heap.size, 0, none⟩) m m) (V.alloc (.cells (madeCells #[.int .i64 0] m) 2)) from fun m V hm => by
      have h := run_make_rowN (P := Try.prog) 27 2 i0 _ Try.underlying27 hi0 hz0 .i64 .i64 m m (Nat.le_refl _) (by rw [hz2]; omega) (by omega) V
      rw [hz1, Nat.mul_one] at h
      exact h)
    clear hi0 hz0 hz1 hz2
    go_enter Try.func13, Try.ntmps13
    go_wp2_with fail
    refine HOKC.out.mono ?_
    rintro e w1 ⟨rfl, hx⟩
    go_wp2_with (go_at_call 23; refine (c_within _ _ _ _).mono ?_; rintro e w' ⟨rfl, rfl⟩)
    obtain ⟨XB, hXB⟩ : ∃ XB, XB = w1.heap.size := ⟨_, rfl⟩
    generalize hw2 : World.alloc w1 _ = w2
    have hX2 : Blk w2 XB 62 (ugC (.slice A n c) (.slice none 0 0) (.slice none 0 0) ⟨[], bud.toNat, false⟩) := by
      rw [← hw2, hXB]
      have h := Blk.new w1 62 (ugC (.slice A n c) (.slice none 0 0) (.slice none 0 0) ⟨[], bud.toNat, false⟩)
      simp only [ugC, show ((bud.toNat : Nat) : Int) = bud by omega] at h ⊢
      simpa using h
    have hx2 : IsX w w2 := by rw [← hw2]; exact hx.alloc _
    have hXw : w.heap.size ≤ XB := by rw [hXB]; exact hx.size
    rw [← hXB]
    clear hXB hw2 hx
    have hlX := hX2.lt
    have HX2 := hide hX2
    have HIX2 := hide hx2
    obtain ⟨B, hB⟩ : ∃ B, B = w2.heap.size := ⟨_, rfl⟩
    have hAo : Out B XB A ∨ xs = [] := by
      rcases Nat.eq_zero_or_pos xs.length with h0 | h0
      · exact .inr (List.eq_nil_of_length_eq_zero h0)
      · refine .inl fun b off e => ?_
        obtain ⟨b', off', e', hb', _⟩ := HA.out 0 _ (List.getElem?_eq_getElem h0)
        rw [e] at e'
        injection e' with e'
        injection e' with e1 e2
        have := hx2.size
        omega
    have HAO := hide hAo
    have HRA2 := hide (HA.out.x hx2)
    clear hX2 hx2 hAo
    have hB2 : B ≤ w2.heap.size := by omega
    have hwB : w.heap.size ≤ B := by have := HIX2.out.size; omega
    have hXlB : XB < B := by omega
    go_wp2_with fail
    go_loopw [8] (fun mv wr => ∃ (m left : Nat) (vc vu : Value), mv = .int .i64 m ∧ m ≤ n ∧ left ≤ 20000 ∧ Hid (Fr B XB w2 wr) ∧ Hid (Blk wr XB 62 (ugC (.slice A n c) vc vu ⟨[], left, false⟩)) ∧ Hid (R = fewU xs (n + 1 - m) m left)) (fun mv _ => n + 1 - (intOf mv).toNat)
    case atStart => exact ⟨0, bud.toNat, _, _, rfl, Nat.zero_le _, by omega, hide (Fr.refl _ _ _), HX2, hide (by rw [HR.out, HN.out]; rfl)⟩
    case round =>
      clear HX2 hB2 HR hlX
      obtain ⟨m, left, vc, vu, rfl, hmn, hlb, HF, HX, HRF⟩ := hrel
      have hmk := HMK.out m wr (by omega)
      have hlX := HX.out.lt
      have d1 := HX.out.cell 1
      simp [ugC] at d1
      have f1 := HX.out.frozen 1
      go_upto_region 7 with fail
      have hWB : B ≤ wr.heap.size := by have := HF.out.size; omega
      have hsz1 : (wr.setCell ⟨XB, 1, none⟩ (.slice (some ⟨wr.heap.size, 0, none⟩) m m)).heap.size = wr.heap.size := by simp [World.setCell]
      have HX3 := hide ((HX.out.set_ 1 (.slice (some ⟨wr.heap.size, 0, none⟩) m m)).alloc (.cells (madeCells #[.int .i64 0] m) 2))
      have hbn := Blk.new (wr.setCell ⟨XB, 1, none⟩ (.slice (some ⟨wr.heap.size, 0, none⟩) m m)) 2 (madeCells #[.int .i64 0] m)
      rw [hsz1] at hbn
      have HU3 := hide (hbn.own (base := B) (k := 1) (n := m) hWB (by simp only [maxLen]; omega) (by rw [size_madeCells]; omega))
      have HF3 : Hid (Fr B XB w2 _) := hide ((HF.out.set ⟨XB, 1, none⟩ (.slice (some ⟨wr.heap.size, 0, none⟩) m m) (.inl rfl)).x ((IsX.refl _).alloc (.cells (madeCells #[.int .i64 0] m) 2)) (by omega))
      rw [made_zero] at HU3
      generalize World.alloc (World.setCell wr ⟨XB, 1, none⟩ (.slice (some ⟨wr.heap.size, 0, none⟩) m m)) (.cells (madeCells #[.int .i64 0] m) 2) = w3 at HX3 HU3 HF3 ⊢
      clear hbn hsz1
      generalize wr.heap.size = gu at HX3 HU3 ⊢
      clear hmk d1 f1 hlX HX HF hWB
      have hlX := HX3.out.lt
      have d2 := HX3.out.cell 2
      simp [ugC] at d2
      have f2 := HX3.out.frozen 2
      go_upto_region 8 with fail
      have HX4 := hide (HX3.out.set_ 2 (.slice none 0 0))
      have HU4 := hide (own_set_other HU3.out 2 (.slice none 0 0) hXlB)
      have HF4 : Hid (Fr B XB w2 _) := hide (HF3.out.set ⟨XB, 2, none⟩ (.slice none 0 0) (.inl rfl))
      generalize World.setCell w3 ⟨XB, 2, none⟩ (.slice none 0 0) = w4 at HX4 HU4 HF4 ⊢
      clear d2 f2 hlX HX3 HU3 HF3
      have hB4 : B ≤ w4.heap.size := by have := HF4.out.size; omega
      have HAT4 : Hid (UgAt XB B (.slice A n c) [] ⟨padU m [], left, false⟩ w4) := hide ⟨none, 0, some ⟨gu, 0, none⟩, m, by simp only [padU, List.nil_append, List.length_replicate, List.length_nil, Nat.sub_zero]; have := HX4.out; simpa [ugC] using this, World.ownsRow_nil _ _ _ _, by simp only [padU, List.nil_append, List.length_replicate, List.length_nil, Nat.sub_zero]; exact HU4.out, by simp only [padU, List.nil_append, List.length_replicate, List.length_nil, Nat.sub_zero]; exact apart_none _⟩
      have HCALL : Hid (Calls Try.prog 29 #[.pointer (some ⟨XB, 0, none⟩)] w4 (UgQ XB B (.slice A n c) m [] [] (putU m xs [] [] left) w4)) := by
        rcases HAO.out with hAo | h0
        · have h := c_ugGo A c n xs HN.out hn16 HV.out.2 m (by omega) XB B n 0 [] [] left w4 (by omega) {
            XB := hXlB
            Bw := hB4
            lft := hlb
            chl := rfl
            usm := Nat.zero_le _
            usb := fun x hx => by simp at hx
            rdA := HRA2.out.fr hAo HF4.out
            Ao := hAo
            at_ := HAT4.out }
          rw [List.drop_zero] at h
          exact hide h
        · have hn0 : n = 0 := by rw [HN.out, h0]; rfl
          subst h0
          exact hide (c_ugEnd A c n m XB B [] [] left w4 (by omega) (by rw [hn0]; rfl) HAT4.out)
      clear HX4 HU4 HAT4
      go_wp2_with fail
      refine HCALL.out.mono ?_
      rintro e w5 ⟨f5, en5, rfl, hfr5, hres5⟩
      have HF5 := hide (HF4.out.trans hfr5)
      clear HCALL hfr5
      cases hrr : putU m xs [] [] left with
      | found c8 =>
        rw [hrr] at hres5
        obtain ⟨rfl, rfl, u5, l5, hat5⟩ := hres5
        have HRR := hide (show R = (c8, (m : Int), 0) by rw [HRF.out, show n + 1 - m = (n - m) + 1 by omega]; exact fewU_found hrr)
        obtain ⟨A4, cc4, Au4, cu4, hX4, hC4, hU4, hAp4⟩ := hat5
        have d2 := hX4.cell 2
        simp [ugC] at d2
        have hlX4 := hX4.lt
        have HC4 := hide hC4
        clear hrr hX4 hC4 hU4 hAp4
        go_wp2_with fail
        go_ret3
        rw [HRR.out]
        exact ⟨A4, cc4, rfl, row_le' HC4.out hwB, HF5.out.isx HIX2.out hXw hwB⟩
      | full =>
        rw [hrr] at hres5
        obtain ⟨rfl, rfl⟩ := hres5
        have HRR := hide (show R = ([], 0, 5) by rw [HRF.out, show n + 1 - m = (n - m) + 1 by omega]; exact fewU_full hrr)
        clear hrr
        go_wp2_with fail
        go_ret3
        rw [HRR.out]
        exact Sl3Post.none rfl rfl (HF5.out.isx HIX2.out hXw hwB)
      | none l5 =>
        rw [hrr] at hres5
        obtain ⟨rfl, rfl, hat5⟩ := hres5
        have hmn2 : m < n := by
          rcases Nat.lt_or_ge m n with h1 | h1
          · exact h1
          · exact absurd hrr (putU_ends m xs [] [] left (by have := HN.out; simp; omega) l5)
        have HRR := hide (show R = fewU xs (n + 1 - (m + 1)) (m + 1) l5 by rw [HRF.out, show n + 1 - m = (n - m) + 1 by omega, fewU_none hrr]; congr 1; omega)
        have hl5 : l5 ≤ left := putU_left m _ _ _ _ _ hrr
        obtain ⟨A4, cc4, Au4, cu4, hX4, hC4, hU4, hAp4⟩ := hat5
        have HX5 : Hid (Blk w5 XB 62 (ugC (.slice A n c) _ _ ⟨[], l5, false⟩)) := hide (by simpa [ugC] using hX4)
        clear hrr hX4 hC4 hU4 hAp4
        go_wp2_with fail
        go_roundw
        case rel => exact ⟨m + 1, l5, _, _, by go_num, by omega, by omega, HF5, HX5, HRR⟩
        case measure => simp [intOf]; omega
end Go.Proofs.Ythcgapfhlggegaa
