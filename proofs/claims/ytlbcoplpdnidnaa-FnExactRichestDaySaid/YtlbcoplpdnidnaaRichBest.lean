/- RichestDay of the reference. Conditions: those of the row alone. -/
import Derived.Test.YtlbcoplpdnidnaaRichRun
namespace Go.Proofs.Ytlbcoplpdnidnaa
set_option linter.unusedVariables false
open Go.RowKit

set_option maxHeartbeats 3200000 in
set_option maxRecDepth 100000 in
theorem s_RichestDay (A : Option Addr) (c : Nat) (xs : List OfferD) (lost bud : Int) (w : World) (hn : xs.length ≤ 1099511627776) (hw : ∀ x ∈ xs, x.wf) (hA : Rd OfferD.cells 5 w A xs) (hb1 : intWf lost) (hb2 : intWf bud) :
    Calls Try.prog 30 #[.slice A xs.length c, .int .i64 lost, .int .i64 bud] w (Sl3Post intC 1 2 w (richAns xs lost bud).1 (richAns xs lost bud).2.1 (richAns xs lost bud).2.2) := by
  have HOKC := hide (c_l22Ok A c xs w hn hw hA)
  cases hv : offersB xs
  · have HR := hide (richAns_bad (lost := lost) (bud := bud) hv)
    rw [hv] at HOKC
    clear hv
    go_enter Try.func30, Try.ntmps30
    go_wp2_with fail
    refine HOKC.out.mono ?_
    rintro e w1 ⟨rfl, hx⟩
    go_wp2_with fail
    go_ret3
    rw [HR.out]
    exact Sl3Post.none rfl rfl hx
  have HV := hide hv
  rw [hv] at HOKC
  clear hv
  by_cases hr : inB lost 0 240 = true ∧ inB bud 1 20000 = true
  rotate_left
  · have HR := hide (richAns_range HV.out hr)
    cases hl : inB lost 0 240
    · clear hr
      go_enter Try.func30, Try.ntmps30
      go_wp2_with fail
      refine HOKC.out.mono ?_
      rintro e w1 ⟨rfl, hx⟩
      go_wp2_with (first | (go_at_call 87; refine (c_l22Change _ _).mono ?_; rintro e w' ⟨rfl, rfl⟩) | (go_at_call 65; refine (c_in _ _ _ _).mono ?_; rintro e w' ⟨rfl, rfl⟩))
      go_ret3
      rw [HR.out]
      exact Sl3Post.none rfl rfl hx
    · have hbd : inB bud 1 20000 = false := by
        rw [← Bool.not_eq_true]; intro h; exact hr ⟨hl, h⟩
      clear hr
      go_enter Try.func30, Try.ntmps30
      go_wp2_with fail
      refine HOKC.out.mono ?_
      rintro e w1 ⟨rfl, hx⟩
      go_wp2_with (first | (go_at_call 87; refine (c_l22Change _ _).mono ?_; rintro e w' ⟨rfl, rfl⟩) | (go_at_call 65; refine (c_in _ _ _ _).mono ?_; rintro e w' ⟨rfl, rfl⟩))
      go_ret3
      rw [HR.out]
      exact Sl3Post.none rfl rfl hx
  · have HR := hide (richAns_go HV.out hr)
    obtain ⟨hl0, hbd⟩ := hr
    obtain ⟨hbl, hbh⟩ := inB_true.1 hbd
    have hl0' := inB_true.1 hl0
    obtain ⟨n, hnn⟩ : ∃ n, n = xs.length := ⟨_, rfl⟩
    have HN := hide hnn
    have hn16 : n ≤ 16 := by rw [hnn]; exact (offersB_ok HV.out).1
    have HSK := hide (offersB_ok HV.out).2
    rw [← hnn] at hn HOKC ⊢
    clear hnn
    obtain ⟨i0, hi0, hz0, hz1, hz2⟩ := info_parts Int64_info
    have hmk : ∀ V : World, (Instr.makeSlice 22 (.int .i64 ((n : Int) + 1)) (.int .i64 ((n : Int) + 1))).run Try.prog V = .ok (.slice (some ⟨V.heap.size, 0, none⟩) (n + 1) (n + 1)) (V.alloc (.cells (madeCells #[.int .i64 0] (n + 1)) 2)) := by
      intro V
      have h := run_make_rowN (P := Try.prog) 22 2 i0 _ Try.underlying22 hi0 hz0 .i64 .i64 (n + 1) (n + 1) (Nat.le_refl _) (by rw [hz2]; omega) (by omega) V
      rw [hz1, Nat.mul_one] at h
      exact h
    clear hi0 hz0 hz1 hz2
    go_enter Try.func30, Try.ntmps30
    go_wp2_with fail
    refine HOKC.out.mono ?_
    rintro e w1 ⟨rfl, hx⟩
    go_wp2_with (first | (go_at_call 87; refine (c_l22Change _ _).mono ?_; rintro e w' ⟨rfl, rfl⟩) | (go_at_call 65; refine (c_in _ _ _ _).mono ?_; rintro e w' ⟨rfl, rfl⟩))
    generalize hw2 : World.alloc (World.alloc w1 _) _ = w2
    obtain ⟨RB, hRB⟩ : ∃ RB, RB = w1.heap.size := ⟨_, rfl⟩
    have hR2 : Blk w2 RB 2 (madeCells #[.int .i64 0] (n + 1)) := by rw [← hw2, hRB]; exact (Blk.new w1 _ _).alloc _
    have hX2 : Blk w2 (RB + 1) 138 (cutC (.slice A n c) lost (.slice (some ⟨RB, 0, none⟩) (n + 1) (n + 1)) bud (.slice none 0 0) (.slice none 0 0) ⟨[], -1, bud.toNat, false⟩) := by
      rw [← hw2, hRB]
      have h := Blk.new (w1.alloc (.cells (madeCells #[.int .i64 0] (n + 1)) 2)) 138 (cutC (.slice A n c) lost (.slice (some ⟨w1.heap.size, 0, none⟩) (n + 1) (n + 1)) bud (.slice none 0 0) (.slice none 0 0) ⟨[], -1, bud.toNat, false⟩)
      simp only [cutC, show bud - ((bud.toNat : Nat) : Int) = 0 by omega] at h ⊢
      simpa using h
    have hx2 : IsX w w2 := by rw [← hw2]; exact (hx.alloc _).alloc _
    have hRw : w.heap.size ≤ RB := by rw [hRB]; exact hx.size
    rw [← hRB]
    clear hRB hw2 hmk hx
    have HX2 := hide hX2
    have HR2 := hide hR2
    have HIX2 := hide hx2
    clear hX2 hR2 hx2
    have hsz : (madeCells #[Value.int .i64 0] (n + 1)).size = n + 1 := by simpa using size_madeCells #[Value.int .i64 0] (n + 1)
    have HSZ := hide hsz
    clear hsz
    go_loopw [10] (fun iv wr => ∃ (k : Nat) (q : Int), k ≤ n ∧ iv = .int .i64 q ∧ q = (k : Int) - 1 ∧ IsX w wr ∧ Blk wr (RB + 1) 138 (cutC (.slice A n c) lost (.slice (some ⟨RB, 0, none⟩) (n + 1) (n + 1)) bud (.slice none 0 0) (.slice none 0 0) ⟨[], -1, bud.toNat, false⟩) ∧
        ∃ cur, Blk wr RB 2 cur ∧ cur.size = n + 1 ∧ ∀ j, k ≤ j → j ≤ n → cur[j]? = some (.int .i64 (sumWor (xs.drop j)))) (fun iv _ => (intOf iv + 1).toNat)
    case atStart =>
      refine ⟨n, _, Nat.le_refl _, rfl, rfl, HIX2.out, HX2.out, _, HR2.out, HSZ.out, fun j h1 h2 => ?_⟩
      obtain rfl : j = n := by omega
      rw [HN.out, List.drop_length]
      rw [Array.getElem?_eq_getElem (by have := HSZ.out; rw [← HN.out]; omega)]
      simp [madeCells, sumWor, Nat.mod_one]
    case round =>
      clear HX2 HR2 HSZ HIX2
      obtain ⟨k, q, hk, rfl, hq, hxr, hX, cur, hR, hcs, hcur⟩ := hrel
      cases k with
      | zero =>
        obtain rfl : q = -1 := by omega
        clear hq
        have HXR := hide hxr
        have HXs := hide hX
        have hRr : Rd intC 1 wr (some ⟨RB, 0, none⟩) (richRest xs) := by
          have e : cur = ((richRest xs).flatMap intC).toArray := by
            apply Array.ext_getElem?
            intro j
            have hl : ((richRest xs).flatMap intC).length = n + 1 := by rw [flat_len intC_len]; simp [richRest, HN.out]
            rcases Nat.lt_or_ge j (n + 1) with h | h
            · rw [hcur j (Nat.zero_le _) (by omega), List.getElem?_toArray]
              have := flat_at intC_len (richRest xs) j 0 _ (.int .i64 (sumWor (xs.drop j))) (richRest_at xs (by rw [← HN.out]; omega)) rfl
              rw [← this]; simp
            · rw [Array.getElem?_eq_none (by omega), Array.getElem?_eq_none (by rw [List.size_toArray, hl]; omega)]
          rw [e] at hR
          exact hR.rd intC_len
        have HRr := hide hRr
        have hszw : RB + 1 < wr.heap.size := hX.lt
        clear hxr hX hR hcs hcur hRr
        go_wp2_with fail
        have HIN : Hid (richIn xs A (some ⟨RB, 0, none⟩) c n (n + 1) lost bud (RB + 1) wr.heap.size 0 [] 0 ⟨[], -1, bud.toNat, false⟩ wr) := hide {
          XB := hszw
          Bw := Nat.le_refl _
          bud20 := hbh
          left := by simp only; omega
          chl := Nat.le_refl _
          a0 := by omega
          a1 := by omega
          chs := fun t ht => by simp at ht
          rdA := hA.x HXR.out
          Ao := by
            rcases Nat.eq_zero_or_pos xs.length with h0 | h0
            · exact .inl (List.eq_nil_of_length_eq_zero h0)
            · refine .inr fun b off e => ?_
              obtain ⟨b', off', e', hb', _⟩ := hA 0 _ (List.getElem?_eq_getElem h0)
              rw [e] at e'
              injection e' with e'
              injection e' with e1 e2
              have := HXR.out.size
              omega
          rdR := HRr.out
          Ro := fun b off e => by injection e with e; injection e with e1 e2; omega
          at_ := ⟨none, 0, none, 0, HXs.out, World.ownsRow_nil _ _ _ _, World.ownsRow_nil _ _ _ _, apart_none _⟩ }
        refine (c_richRun A (some ⟨RB, 0, none⟩) c n (n + 1) xs HN.out HV.out lost bud hl0' (RB + 1) wr.heap.size n 0 0 [] 0 ⟨[], -1, bud.toNat, false⟩ wr rfl (by omega) HIN.out).mono ?_
        rintro e w3 ⟨rfl, hfr, Ac, cc, Ab, cb, hX3, hC3, hB3, hAp3⟩
        have HX3 : Hid (IsX w w3) := hide (hfr.isx HXR.out (by omega) HXR.out.size)
        generalize hg : hunt (richHunt xs lost) n [] 0 0 ⟨[], -1, bud.toNat, false⟩ = G at hX3 hB3 hAp3
        have HG := hide (show richGot xs lost bud = G by rw [← hg, HN.out]; rfl)
        rw [HG.out] at HR
        have d8 := hX3.cell 8
        have d5 := hX3.cell 5
        have d4 := hX3.cell 4
        simp [cutC] at d4 d5 d8
        have hlb3 := hX3.lt
        have HB3 := hide (row_le' hB3 HXR.out.size)
        clear hX3 hC3 hB3 hAp3 hg hfr
        obtain ⟨best, most, left, full⟩ := G
        simp only at d4 d5 d8 HB3 HR
        cases full
        · have HR2 := hide (show richAns xs lost bud = (best, most, 0) by rw [HR.out]; simp)
          go_wp2_with fail
          refine wp_region_x (by kernel_rfl) (by kernel_rfl) ?_
          repeat (go_big_quiet_step (fail))
          refine wpQuiet_nil ?_
          rintro _ ⟨q, rfl⟩
          go_wp2_with fail
          go_ret3
          rw [HR2.out]
          exact ⟨Ab, cb, rfl, own_x' HB3.out ⟨q, rfl⟩, HX3.out.trans ⟨q, rfl⟩⟩
        · have HR2 := hide (show richAns xs lost bud = ([], 0, 5) by rw [HR.out]; simp)
          go_wp2_with fail
          go_ret3
          rw [HR2.out]
          exact Sl3Post.none rfl rfl HX3.out
      | succ j =>
        obtain rfl : q = (j : Int) := by omega
        clear hq
        have hltx : j < xs.length := by rw [← HN.out]; omega
        obtain ⟨ab, aoff, rfl, hab, k0, k1, k2, k3, k4⟩ := OfferD.rd (hA.x hxr) (show xs[j]? = some xs[j] from List.getElem?_eq_getElem _)
        obtain ⟨x2, x3⟩ := HSK.out _ (List.getElem_mem hltx)
        have HS := hide (sumWor_drop xs j hltx)
        have HB1 := sumWor_bd (xs.drop (j + 1)) (fun x hx => by have := HSK.out x (List.mem_of_mem_drop hx); omega)
        have hl1 : (xs.drop (j + 1)).length ≤ 16 := by simp; rw [← HN.out]; omega
        obtain ⟨q10, q11⟩ := HB1
        have c1 := (hR.cell (j + 1)).trans (hcur (j + 1) (Nat.le_refl _) (by omega))
        obtain ⟨v0, s0⟩ := hR.has (i := j) (by omega)
        have z0 := hR.frozen j
        generalize hs' : sumWor (xs.drop (j + 1)) = S1 at c1 q10 q11
        have HS1 := hide hs'
        generalize hxx : xs[j] = x at x2 x3 k0 k1 k2 k3 k4
        have HX0 := hide hxx
        have d2 := hX.cell 2
        simp [cutC] at d2
        have HXs := hide hX
        have HRs := hide hR
        have HCS := hide hcs
        have HCUR := hide hcur
        have HXR := hide hxr
        have hlbX := hX.lt
        have hlbR := hR.lt
        clear hs' hxx hX hR hcs hcur hxr hA k0 k1 k2 k3
        have hw1 : IntKind.i64.wrap ((j : Int) + 1) = (j : Int) + 1 := IntWalk.i64_in _ (by omega)
        have hw2 : IntKind.i64.wrap (S1 + x.Worth) = S1 + x.Worth := IntWalk.i64_in _ (by omega)
        have hi0 : (0 : Int) ≤ (j : Int) := by omega
        have hi1 : (j : Int) < (n : Int) + 1 := by omega
        have hi2 : (j : Int) + 1 < (n : Int) + 1 := by omega
        have hi3 : (j : Int) < (n : Int) := by omega
        have hi4 : (0 : Int) ≤ (j : Int) + 1 := by omega
        have hi5 : ((j : Int) + 1).toNat = j + 1 := by omega
        go_wp2_with fail
        go_still_tail 20, (by kernel_rfl)
        clear hw1 hw2 hi5
        change wpList _ _ _ _ _ wr.drew
        go_wp2_with fail
        go_roundw
        case rel =>
          refine ⟨j, (j : Int) - 1, by omega, rfl, rfl, (HXR.out.drew).setCell (a := ⟨RB, j, none⟩) hRw _, (HXs.out.x (IsX.drew (IsX.refl wr))).far (p := ⟨RB, j, none⟩) (by simp) _, _, (HRs.out.x (IsX.drew (IsX.refl wr))).set_ j _, by simp; exact HCS.out, fun i h1 h2 => ?_⟩
          rw [Array.getElem?_setIfInBounds]
          by_cases e : j = i
          · subst e
            rw [if_pos rfl, if_pos (by rw [HCS.out]; omega), HS.out, HX0.out, HS1.out, Int.add_comm]
          · rw [if_neg e]; exact HCUR.out i (by omega) h2
        case measure => simp [intOf] <;> omega
end Go.Proofs.Ytlbcoplpdnidnaa
