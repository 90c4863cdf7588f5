/- FewestDays of the program. Conditions: those of the row alone. -/
import Derived.Test.YtfkhhioadklomaaFewMask
namespace Go.Proofs.Ytfkhhioadklomaa
set_option linter.unusedVariables false
open Go.RowKit

set_option maxRecDepth 100000 in
set_option maxHeartbeats 12800000 in
theorem i_FewestDays (A0 : Option Addr) (c0 : Nat) (xs0 : List PersonD) (A1 : Option Addr) (c1 : Nat) (xs1 : List ByteArray) (n2 : Int) (n3 : Int) (n4 : Int) (w : World) (hn0 : xs0.length ≤ 1099511627776) (hw0 : ∀ x ∈ xs0, x.wf) (hs0 : ∀ x ∈ xs0, x.small 1099511627776) (hA0 : RdPerson 0 w A0 xs0) (hn1 : xs1.length ≤ 1099511627776) (hw1 : ∀ x ∈ xs1, strWf x) (hA1 : Rd strC 1 w A1 xs1) (hb2 : intWf n2) (hb3 : intWf n3) (hb4 : intWf n4) : Calls Try.prog 11 #[.slice A0 xs0.length c0, .slice A1 xs1.length c1, .int .i64 n2, .int .i64 n3, .int .i64 n4] w (SlPost intC 1 2 w (fewZ xs0 xs1 n2 n3 n4) (fewC xs0 xs1 n2 n3 n4)) := by
  have HOKC := hide (c_ValidPeople A0 c0 xs0 w hn0 hw0 hs0 hA0)
  cases hv : peopleB xs0
  · have HB := hide (few_bad (fr := n2) (un := n3) (bud := n4) (show okP xs0 xs1 = false by simp [okP, hv]))
    go_enter Try.func11, Try.ntmps11
    go_wp2_with fail
    refine (cb HOKC.out hv).mono ?_
    rintro e w1 ⟨rfl, hx⟩
    have HX1 := hide hx
    clear hx
    go_wp2_with fail
    go_ret2
    exact SlPost.none HB.out.1 (by rw [HB.out.2]; rfl) HX1.out
  have HNEC := hide (fun (V : World) (hV : IsX w V) => c_areNeeded A0 c0 xs0 A1 c1 xs1 V hv hn1 (hA0.x hV) (hA1.x hV))
  have HA0 := hide hA0
  have HA1 := hide hA1
  have hn12 := hn1
  clear hA0 hA1 hw0 hs0 hw1
  cases hne : needB xs0 xs1
  · have HB := hide (few_bad (fr := n2) (un := n3) (bud := n4) (show okP xs0 xs1 = false by simp [okP, hne]))
    go_enter Try.func11, Try.ntmps11
    go_wp2_with fail
    refine (cb HOKC.out hv).mono ?_
    rintro e w1 ⟨rfl, hx⟩
    have HX1 := hide hx
    clear hx
    go_wp2_with fail
    refine (cb (HNEC.out w1 HX1.out) hne).mono ?_
    rintro e w2 ⟨rfl, hx⟩
    have HX2 := hide (HX1.out.trans hx)
    clear hx
    go_wp2_with fail
    go_ret2
    exact SlPost.none HB.out.1 (by rw [HB.out.2]; rfl) HX2.out
  have hok : okP xs0 xs1 = true := by simp [okP, hv, hne]
  cases hb : inB n4 1 20000
  · have HB := hide (few_range (fr := n2) (un := n3) (bud := n4) hok (by simp [hb]))
    go_enter Try.func11, Try.ntmps11
    go_wp2_with fail
    refine (cb HOKC.out hv).mono ?_
    rintro e w1 ⟨rfl, hx⟩
    have HX1 := hide hx
    clear hx
    go_wp2_with fail
    refine (cb (HNEC.out w1 HX1.out) hne).mono ?_
    rintro e w2 ⟨rfl, hx⟩
    have HX2 := hide (HX1.out.trans hx)
    clear hx
    go_wp2_with fail
    refine (cb (c_within n4 1 20000 _) hb).mono ?_
    rintro e wu ⟨rfl, rfl⟩
    go_wp2_with fail
    go_ret2
    exact SlPost.none HB.out.1 (by rw [HB.out.2]; rfl) HX2.out
  cases hi : inB n2 0 99999
  · have HB := hide (few_range (fr := n2) (un := n3) (bud := n4) hok (by simp [rangeB, hi]))
    go_enter Try.func11, Try.ntmps11
    go_wp2_with fail
    refine (cb HOKC.out hv).mono ?_
    rintro e w1 ⟨rfl, hx⟩
    have HX1 := hide hx
    clear hx
    go_wp2_with fail
    refine (cb (HNEC.out w1 HX1.out) hne).mono ?_
    rintro e w2 ⟨rfl, hx⟩
    have HX2 := hide (HX1.out.trans hx)
    clear hx
    go_wp2_with fail
    refine (cb (c_within n4 1 20000 _) hb).mono ?_
    rintro e wu ⟨rfl, rfl⟩
    go_wp2_with fail
    refine (cb (c_within n2 0 99999 _) hi).mono ?_
    rintro e wu ⟨rfl, rfl⟩
    go_wp2_with fail
    go_ret2
    exact SlPost.none HB.out.1 (by rw [HB.out.2]; rfl) HX2.out
  cases hi2 : inB n3 n2 99999
  · have HB := hide (few_range (fr := n2) (un := n3) (bud := n4) hok (by simp [rangeB, hi2]))
    go_enter Try.func11, Try.ntmps11
    go_wp2_with fail
    refine (cb HOKC.out hv).mono ?_
    rintro e w1 ⟨rfl, hx⟩
    have HX1 := hide hx
    clear hx
    go_wp2_with fail
    refine (cb (HNEC.out w1 HX1.out) hne).mono ?_
    rintro e w2 ⟨rfl, hx⟩
    have HX2 := hide (HX1.out.trans hx)
    clear hx
    go_wp2_with fail
    refine (cb (c_within n4 1 20000 _) hb).mono ?_
    rintro e wu ⟨rfl, rfl⟩
    go_wp2_with fail
    refine (cb (c_within n2 0 99999 _) hi).mono ?_
    rintro e wu ⟨rfl, rfl⟩
    go_wp2_with fail
    refine (cb (c_within n3 n2 99999 _) hi2).mono ?_
    rintro e wu ⟨rfl, rfl⟩
    go_wp2_with fail
    go_ret2
    exact SlPost.none HB.out.1 (by rw [HB.out.2]; rfl) HX2.out
  have HB := hide (few_ok (fr := n2) (un := n3) (bud := n4) hok (by simp [rangeB, hb, hi, hi2]))
  obtain ⟨hb1, hb2'⟩ := inB_true.1 hb
  go_enter Try.func11, Try.ntmps11
  go_wp2_with fail
  refine (cb HOKC.out hv).mono ?_
  rintro e w1 ⟨rfl, hx⟩
  have HX1 := hide hx
  clear hx
  go_wp2_with fail
  refine (cb (HNEC.out w1 HX1.out) hne).mono ?_
  rintro e w2 ⟨rfl, hx⟩
  have HX2 := hide (HX1.out.trans hx)
  clear hx
  go_wp2_with fail
  refine (cb (c_within n4 1 20000 _) hb).mono ?_
  rintro e wu ⟨rfl, rfl⟩
  go_wp2_with fail
  refine (cb (c_within n2 0 99999 _) hi).mono ?_
  rintro e wu ⟨rfl, rfl⟩
  go_wp2_with fail
  refine (cb (c_within n3 n2 99999 _) hi2).mono ?_
  rintro e wu ⟨rfl, rfl⟩
  have HP := hide hv
  have HNE := hide hne
  have hnl := need_len hne
  have hfl := allF_len (fr := n2) (un := n3) hv
  clear hv hne hok hb hi hi2 HOKC HNEC HX1
  go_wp2_with fail
  refine (c_freeDays A0 c0 xs0 n2 n3 w2 HP.out (HA0.out.x HX2.out)).mono ?_
  rintro e w7 ⟨A7, c7, rfl, hO7, hx7⟩
  have HX7 := hide (HX2.out.trans hx7)
  obtain ⟨F, hF⟩ : ∃ F, F = allF xs0 n2 n3 := ⟨_, rfl⟩
  have HF := hide hF
  rw [← hF] at hO7 hfl ⊢
  have HRD := hide (Own.rd (by omega) intC_len hO7 rfl)
  clear hF hO7 hx7
  have HFR := hide (fun (V : World) (hV : IsX w7 V) (g : Nat) (nm : ByteArray) (d : Int) (hm : nm ∈ xs1) (hr : Rd strC 1 V (some ⟨g, 0, none⟩) [nm]) => (on_one d HP.out HNE.out hm ▸ c_freeOn A0 c0 xs0 (some ⟨g, 0, none⟩) 1 [nm] d V HP.out (by simp) (HA0.out.x (HX7.out.trans hV)) hr : Calls Try.prog 43 #[.slice A0 xs0.length c0, .slice (some ⟨g, 0, none⟩) 1 1, .int .i64 d] V fun e w' => e = .returned (.int .i64 ((if freeN xs0 nm d = true then 1 else 0 : Nat) : Int)) ∧ IsX V w'))
  obtain ⟨nF, hnF⟩ : ∃ n, n = F.length := ⟨_, rfl⟩
  obtain ⟨n, hnn⟩ : ∃ n, n = xs1.length := ⟨_, rfl⟩
  obtain ⟨np, hnp⟩ : ∃ n, n = xs0.length := ⟨_, rfl⟩
  have HNF := hide hnF
  have HN := hide hnn
  have HFEW := hide (show few xs0 xs1 n2 n3 n4 = fewGo F (covN xs0 xs1) (n + 1) 0 n4.toNat by rw [few, ← HF.out, ← HN.out])
  have HA1r := hide (HA1.out.x HX7.out)
  rw [← hnp] at HFR
  rw [← hnp, ← hnn, ← hnF]
  rw [← hnn] at hnl hn12
  rw [← hnF] at hfl
  clear hnp hnn hnF hn0 hn1
  obtain ⟨bd, hbd⟩ : ∃ b, b = n4.toNat := ⟨_, rfl⟩
  have hbe : (bd : Int) = n4 := by omega
  have HBE := hide hbe
  have hbd2 : bd ≤ 20000 := by omega
  rw [← hbd] at HFEW
  clear hbd hbe
  obtain ⟨i0, hi0, hz0, hz1, hz2⟩ := info_parts U64_info
  have hmk := fun W => run_make_rowN (P := Try.prog) 69 71 i0 _ Try.underlying69 hi0 hz0 .i64 .i64 nF nF (Nat.le_refl _) (by rw [hz2]; omega) (by omega) W
  rw [hz1] at hmk
  clear hz0 hz1 hz2 hi0
  go_wp2_with fail
  obtain ⟨gf, hgf⟩ : ∃ g, g = w7.heap.size := ⟨_, rfl⟩
  have HO8 : Hid ((w7.alloc (.cells (madeCells #[Value.int .u64 0] nF) 71)).ownsRow gf 71 1 (.slice (some ⟨gf, 0, none⟩) nF nF) nF ((maskL (dayN xs0 xs1) F 0).flatMap u64C)) := hide (by
    have h := (Blk.new w7 71 (madeCells #[Value.int .u64 0] nF)).own (base := w7.heap.size) (k := 1) (n := nF) (Nat.le_refl _) (by unfold maxLen; omega) (by rw [size_madeCells]; omega)
    rw [made_u64] at h
    rw [hgf]
    have e : maskL (dayN xs0 xs1) F 0 = List.replicate nF 0 := by simp [maskL, HNF.out]
    rw [e]
    exact h)
  have HX8 : Hid (IsX w7 (w7.alloc (.cells (madeCells #[Value.int .u64 0] nF) 71))) := hide ((IsX.refl w7).alloc _)
  have HGF := hide hgf
  first | rw [← hgf] | skip
  clear hmk hgf
  go_loopw [54] (fun kv wr => ∃ k : Nat, k ≤ nF ∧ kv = .int .i64 k ∧ Hid (wr.ownsRow gf 71 1 (.slice (some ⟨gf, 0, none⟩) nF nF) nF ((maskL (dayN xs0 xs1) F k).flatMap u64C)) ∧ Hid (IsX w7 wr)) (fun kv _ => nF - (intOf kv).toNat)
  case atStart => exact ⟨0, Nat.zero_le _, rfl, HO8, HX8⟩
  case round =>
    clear HO8 HX8
    obtain ⟨k, hk, rfl, HO, HX⟩ := hrel
    by_cases hlt : k < nF
    · have hkF : k < F.length := HNF.out ▸ hlt
      obtain ⟨b1, o1, e1, hb1, k1⟩ := int_rd (HRD.out.x HX.out) (show F[k]? = some F[k] from List.getElem?_eq_getElem _)
      subst e1
      have HO0 : Hid (wr.ownsRow gf 71 1 (.slice (some ⟨gf, 0, none⟩) nF nF) nF (((maskL (dayN xs0 xs1) F k).set k (maskN (fun i => freeN xs0 (xs1.getD i ⟨#[]⟩) F[k]) 0)).flatMap u64C)) := hide (by
        have h := HO.out
        rw [← maskL_zero hkF] at h
        exact h)
      have HST := hide (show (maskL (dayN xs0 xs1) F k).set k (maskN (fun i => freeN xs0 (xs1.getD i ⟨#[]⟩) F[k]) n) = maskL (dayN xs0 xs1) F (k + 1) by rw [HN.out]; exact maskL_step hkF)
      have HML := hide (show (maskL (dayN xs0 xs1) F k).length = nF by rw [HNF.out]; exact maskL_len _ _ (Nat.le_of_lt hkF))
      generalize maskL (dayN xs0 xs1) F k = L at HO0 HST HML
      generalize F[k] = fd at k1 HO0 HST
      go_wp2_with fail
      go_loopw [61] (fun iv wr2 => ∃ i : Nat, i ≤ n ∧ iv = .int .i64 i ∧ Hid (wr2.ownsRow gf 71 1 (.slice (some ⟨gf, 0, none⟩) nF nF) nF ((L.set k (maskN (fun i => freeN xs0 (xs1.getD i ⟨#[]⟩) fd) i)).flatMap u64C)) ∧ Hid (IsX w7 wr2)) (fun iv _ => n - (intOf iv).toNat)
      case atStart => exact ⟨0, Nat.zero_le _, rfl, HO0, HX⟩
      case round =>
        clear HO0 HX HO k1
        obtain ⟨i, hi, rfl, HO, HX⟩ := hrel
        by_cases hlti : i < n
        · have hix : i < xs1.length := HN.out ▸ hlti
          obtain ⟨b2, o2, e2, hb2, k2⟩ := str_rd (HA1r.out.x HX.out) (show xs1[i]? = some xs1[i] from List.getElem?_eq_getElem _)
          subst e2
          have HMS := hide (show maskN (fun i => freeN xs0 (xs1.getD i ⟨#[]⟩) fd) (i + 1) = if freeN xs0 xs1[i] fd = true then maskN (fun i => freeN xs0 (xs1.getD i ⟨#[]⟩) fd) i ||| 2 ^ i else maskN (fun i => freeN xs0 (xs1.getD i ⟨#[]⟩) fd) i by
            rw [maskN, List.getD_eq_getElem?_getD, List.getElem?_eq_getElem hix, Option.getD_some])
          have HMM := hide (List.getElem_mem hix)
          have hMlt := maskN_lt (fun i => freeN xs0 (xs1.getD i ⟨#[]⟩) fd) i
          have HSL := hide hMlt
          generalize xs1[i] = nm at k2 HMS HMM
          clear hMlt
          obtain ⟨M, hM⟩ : ∃ M, M = maskN (fun i => freeN xs0 (xs1.getD i ⟨#[]⟩) fd) i := ⟨_, rfl⟩
          rw [← hM] at HO HMS HSL
          clear hM
          go_wp2_with fail
          refine (HFR.out _ (HX.out.alloc (.cells #[.string nm] 9)) wr.heap.size nm fd HMM.out (Blk.rd (cells := strC) (xs := [nm]) (t := 9) strC_len (Blk.new wr 9 #[.string nm]))).mono ?_
          rintro e w3 ⟨rfl, hx3⟩
          have HO3 := hide (own_x (own_x HO.out ((IsX.refl wr).alloc (.cells #[.string nm] 9))) hx3)
          have HX3 := hide ((HX.out.alloc (.cells #[.string nm] 9)).trans hx3)
          clear hx3 HO HX k2
          cases hfr : freeN xs0 nm fd
          · have HMS2 := hide (show maskN (fun i => freeN xs0 (xs1.getD i ⟨#[]⟩) fd) (i + 1) = M by rw [HMS.out, hfr]; rfl)
            rw [show (if false = true then 1 else 0 : Nat) = 0 from rfl, show (((0 : Nat) : Int)) = 0 from rfl]
            clear hfr HMS
            go_wp2_with fail
            go_roundw
            case rel => exact ⟨i + 1, by omega, by go_num, hide (by rw [HMS2.out]; exact HO3.out), HX3⟩
            case measure => simp [intOf]; omega
          · have HMS2 := hide (show maskN (fun i => freeN xs0 (xs1.getD i ⟨#[]⟩) fd) (i + 1) = M ||| 2 ^ i by rw [HMS.out, hfr]; rfl)
            rw [show (if true = true then 1 else 0 : Nat) = 1 from rfl, show (((1 : Nat) : Int)) = 1 from rfl]
            clear hfr HMS
            have c0' : w3.cell? ⟨gf, k, none⟩ = some (.int .u64 (M : Int)) := by
              have h := HO3.out.cellAt k (by omega)
              rw [flat_u64_set, List.getElem?_set_self (by rw [flat_u64_len, HML.out]; exact hlt)] at h
              exact h
            have f0' := HO3.out.frozenAt k
            have hlg := (HO3.out.lt gf rfl).2
            have h2i : 2 ^ i ≤ 4096 := by
              have := Nat.pow_le_pow_right (show 0 < 2 by omega) (show i ≤ 12 by omega)
              simpa using this
            have hMl : M < 4096 := Nat.lt_of_lt_of_le HSL.out h2i
            have hval : bits .or .u64 (M : Int) (IntKind.u64.wrap (2 ^ i)) = ((M ||| 2 ^ i : Nat) : Int) := by
              have e : IntKind.u64.wrap ((2 : Int) ^ i) = ((2 ^ i : Nat) : Int) := by
                have : ((2 : Int) ^ i) = ((2 ^ i : Nat) : Int) := by simp
                rw [this]
                generalize (2 ^ i : Nat) = P at h2i ⊢
                rw [IntKind.wrap_u64]; omega
              rw [e]
              exact bits_or_u64_nat M (2 ^ i) (by omega) (by omega)
            have HVAL := hide hval
            clear h2i hval
            go_wp2_with fail
            go_still_tail 8, (by kernel_rfl)
            change wpList _ _ _ _ _ w3.drew
            go_wp2_with fail
            have HON : Hid (((w3.setCell ⟨gf, k, none⟩ (.int .u64 (bits .or .u64 (M : Int) (IntKind.u64.wrap (2 ^ i))))).drew).ownsRow gf 71 1 (.slice (some ⟨gf, 0, none⟩) nF nF) nF ((L.set k (maskN (fun i => freeN xs0 (xs1.getD i ⟨#[]⟩) fd) (i + 1))).flatMap u64C)) := hide (by
              have h := own_set HO3.out (show k < ((L.set k M).flatMap u64C).length by rw [flat_u64_len, List.length_set, HML.out]; exact hlt) (.int .u64 (bits .or .u64 (M : Int) (IntKind.u64.wrap (2 ^ i))))
              have hl : ((L.set k M).flatMap u64C).set k (.int .u64 ((M ||| 2 ^ i : Nat) : Int)) = (L.set k (maskN (fun i => freeN xs0 (xs1.getD i ⟨#[]⟩) fd) (i + 1))).flatMap u64C := by rw [← flat_u64_set, List.set_set, HMS2.out]
              rw [HVAL.out] at h ⊢
              rw [hl] at h
              exact own_x' h (IsX.drew (IsX.refl _)))
            have HXN := hide (IsX.drew (HX3.out.setCell (a := ⟨gf, k, none⟩) (by rw [HGF.out]; exact Nat.le_refl _) (.int .u64 (bits .or .u64 (M : Int) (IntKind.u64.wrap (2 ^ i))))))
            go_roundw
            case rel => exact ⟨i + 1, by omega, by go_num, HON, HXN⟩
            case measure => simp [intOf]; omega
        · obtain rfl : i = n := by omega
          have HON := hide (show wr.ownsRow gf 71 1 (.slice (some ⟨gf, 0, none⟩) nF nF) nF ((maskL (dayN xs0 xs1) F (k + 1)).flatMap u64C) by rw [← HST.out]; exact HO.out)
          go_wp2_with fail
          go_roundw
          case rel => exact ⟨k + 1, by omega, by go_num, HON, HX⟩
          case measure => simp [intOf]; omega
    · obtain rfl : k = nF := by omega
      have HRF := hide (show Rd u64C 1 wr (some ⟨gf, 0, none⟩) (F.map (dayN xs0 xs1)) from Own.rd (cells := u64C) (k := 1) (t := 71) (base := gf) (n := k) (c := k) (by omega) u64C_len (by
        have h := HO.out
        rw [HNF.out, maskL_all] at h
        unfold Own
        rw [List.length_map, ← HNF.out]
        rw [← HNF.out] at h
        exact h) (by rw [List.length_map]; exact HNF.out))
      clear HO HFR
      go_wp2_with fail
      have hal : IntKind.u64.wrap (IntKind.u64.wrap (2 ^ n) - 1) = ((2 ^ n - 1 : Nat) : Int) := by
        have h2n : 2 ^ n ≤ 4096 := by
          have := Nat.pow_le_pow_right (show 0 < 2 by omega) hnl
          simpa using this
        have h1n : 1 ≤ 2 ^ n := Nat.one_le_two_pow
        have this : ((2 : Int) ^ n) = ((2 ^ n : Nat) : Int) := by simp
        rw [this]
        generalize (2 ^ n : Nat) = P at h2n h1n ⊢
        rw [IntKind.wrap_u64, IntKind.wrap_u64]; omega
      obtain ⟨X, hX⟩ : ∃ b, b = wr.heap.size := ⟨_, rfl⟩
      obtain ⟨w8, hw8⟩ : ∃ v, v = wr.alloc (.cells #[.slice A7 k c7, .slice (some ⟨gf, 0, none⟩) k k, .int .u64 (IntKind.u64.wrap (IntKind.u64.wrap (2 ^ n) - 1)), .int .i64 0, .slice none 0 0, .int .i64 n4] 73) := ⟨_, rfl⟩
      have HGA : Hid (GoAt X (X + 1) (.slice A7 k c7) (.slice (some ⟨gf, 0, none⟩) k k) (2 ^ n - 1) 0 [] (bd : Int) w8) := hide ⟨none, 0, by
        have h := Blk.new wr 73 #[.slice A7 k c7, .slice (some ⟨gf, 0, none⟩) k k, .int .u64 (IntKind.u64.wrap (IntKind.u64.wrap (2 ^ n) - 1)), .int .i64 0, .slice none 0 0, .int .i64 n4]
        rw [← hw8, ← hX, hal, ← HBE.out] at h
        exact h, World.ownsRow_nil _ _ _ _⟩
      have HXX : Hid (IsX wr w8) := hide (by rw [hw8]; exact (IsX.refl wr).alloc _)
      have HXB : Hid (X + 1 ≤ w8.heap.size) := hide (by rw [hw8, hX]; simp)
      have HXL := hide (show wr.heap.size ≤ X by omega)
      rw [← hw8]
      first | rw [← hX] | skip
      have HGO := hide (fun (m : Nat) (hm : m ≤ 12) => c_dayGo xs0 xs1 A7 c7 (some ⟨gf, 0, none⟩) k F (by rw [← HNF.out]; exact hfl) m hm X (X + 1) wr HXL.out (Nat.lt_succ_self X) (by rw [← HN.out]; exact hnl) (HRD.out.x HX.out) HRF.out)
      rw [← HNF.out, ← HN.out] at HGO
      have HXA := hide (HX7.out.trans HX.out)
      clear hw8 hX hal HRF HRD HX
      go_loopw [93] (fun iv wr2 => ∃ (mm l : Nat) (mo : Int), iv = .int .i64 (mm : Int) ∧ mm ≤ n + 1 ∧ l ≤ bd ∧ Hid (few xs0 xs1 n2 n3 n4 = fewGo F (covN xs0 xs1) (n + 1 - mm) mm l) ∧ Hid (GoAt X (X + 1) (.slice A7 k c7) (.slice (some ⟨gf, 0, none⟩) k k) (2 ^ n - 1) mo [] (l : Int) wr2) ∧ Hid (IsX wr wr2) ∧ Hid (X + 1 ≤ wr2.heap.size)) (fun iv _ => n + 1 - (intOf iv).toNat)
      case atStart => exact ⟨0, bd, 0, rfl, by omega, Nat.le_refl _, HFEW, HGA, HXX, HXB⟩
      case round =>
        clear HGA HXX HXB HFEW
        obtain ⟨mm, l, mo, rfl, hmn, hlb, HFW, HGA, HXW, HXB⟩ := hrel
        by_cases hltm : mm < n + 1
        · obtain ⟨Ac, cc, hX3, hC3⟩ := id HGA.out
          have d3 := hX3.cell 3
          have f3 := hX3.frozen 3
          have hlx := hX3.lt
          simp [goC] at d3
          have HGM : Hid (GoAt X (X + 1) (.slice A7 k c7) (.slice (some ⟨gf, 0, none⟩) k k) (2 ^ n - 1) (mm : Int) [] (l : Int) (wr.setCell ⟨X, 3, none⟩ (.int .i64 (mm : Int)))) := hide ⟨Ac, cc, hX3.set_ 3 _, own_set_other hC3 3 _ (Nat.lt_succ_self X)⟩
          have HXV := hide (HXW.out.setCell (a := ⟨X, 3, none⟩) HXL.out (.int .i64 (mm : Int)))
          have HBV : Hid (X + 1 ≤ (wr.setCell ⟨X, 3, none⟩ (.int .i64 (mm : Int))).heap.size) := hide (by have := HXB.out; simpa [World.setCell] using this)
          have HR := hide (show few xs0 xs1 n2 n3 n4 = match visR F (covN xs0 xs1) mm F.length [] l with | .none l => fewGo F (covN xs0 xs1) (n + 1 - (mm + 1)) (mm + 1) l | .found c _ => (c, 0) | .full => ([], 5) by
            rw [HFW.out, show n + 1 - mm = (n + 1 - (mm + 1)) + 1 by omega]; rfl)
          clear hX3 hC3 HFW HGA
          go_wp2_with fail
          generalize World.setCell wr ⟨X, 3, none⟩ (.int .i64 (mm : Int)) = wv at HGM HXV HBV ⊢
          clear d3 f3 hlx HXW HXB
          refine (HGO.out mm (by omega) k 0 (0 : Int) (0 : Int) [] l wv rfl (by rw [met_nil]; rfl) (by omega) (Nat.zero_le _) (by omega) HXV.out HBV.out HGM.out).mono ?_
          rintro e ws ⟨fo, en, rfl, hxs, hBs, hres⟩
          rw [← HNF.out] at HR
          have HXS := hide hxs
          have HBS := hide hBs
          generalize visR F (covN xs0 xs1) mm k [] l = R1 at hres HR
          clear hxs hBs HGM HXV HBV
          cases R1 with
          | full =>
            obtain ⟨rfl, rfl⟩ := hres
            go_wp2_with fail
            go_ret2
            exact SlPost.none (by rw [HB.out.1, HR.out]) (by rw [HB.out.2, HR.out]; rfl) (HXA.out.trans HXS.out)
          | found c l' =>
            obtain ⟨rfl, rfl, hl', Ac5, cc5, hX5, hC5⟩ := hres
            have d4 := hX5.cell 4
            have hl5 := hX5.lt
            simp [goC] at d4
            have HZL := hide (show fewZ xs0 xs1 n2 n3 n4 = c by rw [HB.out.1, HR.out])
            have HCL := hide (show fewC xs0 xs1 n2 n3 n4 = 0 by rw [HB.out.2, HR.out])
            have HC5 := hide hC5
            obtain ⟨ql, hql⟩ : ∃ q, q = c.length := ⟨_, rfl⟩
            have HQL := hide hql
            rw [← hql] at d4
            clear hX5 hC5 hql
            go_wp2_with fail
            go_ret2
            refine ⟨Ac5, cc5, by rw [HZL.out, HCL.out, ← HQL.out]; rfl, ?_, HXA.out.trans HXS.out⟩
            rw [HZL.out]
            exact row_le' HC5.out (by have := HXA.out.size; have := HXL.out; omega)
          | none l' =>
            obtain ⟨rfl, rfl, hl', hat⟩ := hres
            have HAT := hide hat
            clear hat
            go_wp2_with fail
            go_roundw
            case rel => exact ⟨mm + 1, l', _, by go_num, by omega, by omega, HR, HAT, HXS, HBS⟩
            case measure => simp [intOf]; omega
        · obtain rfl : mm = n + 1 := by omega
          have HR := hide (show few xs0 xs1 n2 n3 n4 = ([], 3) by rw [HFW.out, Nat.sub_self]; rfl)
          go_wp2_with fail
          go_ret2
          exact SlPost.none (by rw [HB.out.1, HR.out]) (by rw [HB.out.2, HR.out]; rfl) (HXA.out.trans HXW.out)
end Go.Proofs.Ytfkhhioadklomaa
