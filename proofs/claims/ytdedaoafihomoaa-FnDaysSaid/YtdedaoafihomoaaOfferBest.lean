/- RichestDay of the program. Conditions: those of the row alone. -/
import Derived.Test.YtdedaoafihomoaaOfferGo
namespace Go.Proofs.Ytdedaoafihomoaa
set_option linter.unusedVariables false
open Go.RowKit

set_option maxHeartbeats 3200000 in
set_option maxRecDepth 100000 in
theorem i_RichestDay (A : Option Addr) (c : Nat) (xs : List OfferD) (lost bud : Int) (w : World) (hn : xs.length ≤ 1099511627776) (hw : ∀ x ∈ xs, x.wf) (hA : Rd OfferD.cells 5 w A xs) (hb1 : intWf lost) (hb2 : intWf bud) (hc : xs.length ≤ c) :
    Calls Try.prog 6 #[.slice A xs.length c, .int .i64 lost, .int .i64 bud] w (Sl3Post intC 1 2 w (richAns xs lost bud).1 (richAns xs lost bud).2.1 (richAns xs lost bud).2.2) := by
  have HOKC := hide (c_ValidOffers A c xs w hn hw hA)
  cases hv : offersB xs
  · have HR := hide (richAns_bad (lost := lost) (bud := bud) hv)
    rw [hv] at HOKC
    clear hv
    go_enter Try.func6, Try.ntmps6
    go_wp2_with fail
    refine HOKC.out.mono ?_
    rintro e w1 ⟨rfl, hx⟩
    go_wp2_with fail
    go_ret3
    rw [HR.out]
    exact Sl3Post.none rfl rfl hx
  have HV := hide hv
  rw [hv] at HOKC
  clear hv
  by_cases hr : inB lost 0 240 = true ∧ inB bud 1 20000 = true
  rotate_left
  · have HR := hide (richAns_range HV.out hr)
    cases hl : inB lost 0 240
    · clear hr
      go_enter Try.func6, Try.ntmps6
      go_wp2_with fail
      refine HOKC.out.mono ?_
      rintro e w1 ⟨rfl, hx⟩
      go_wp2_with (first | (go_at_call 17; refine (c_isChange _ _).mono ?_; rintro e w' ⟨rfl, rfl⟩) | (go_at_call 18; refine (c_within _ _ _ _).mono ?_; rintro e w' ⟨rfl, rfl⟩))
      go_ret3
      rw [HR.out]
      exact Sl3Post.none rfl rfl hx
    · have hbd : inB bud 1 20000 = false := by
        rw [← Bool.not_eq_true]; intro h; exact hr ⟨hl, h⟩
      clear hr
      go_enter Try.func6, Try.ntmps6
      go_wp2_with fail
      refine HOKC.out.mono ?_
      rintro e w1 ⟨rfl, hx⟩
      go_wp2_with (first | (go_at_call 17; refine (c_isChange _ _).mono ?_; rintro e w' ⟨rfl, rfl⟩) | (go_at_call 18; refine (c_within _ _ _ _).mono ?_; rintro e w' ⟨rfl, rfl⟩))
      go_ret3
      rw [HR.out]
      exact Sl3Post.none rfl rfl hx
  · have HR := hide (richAns_go HV.out hr)
    obtain ⟨hl0, hbd⟩ := hr
    obtain ⟨hbl, hbh⟩ := inB_true.1 hbd
    have hl0' := inB_true.1 hl0
    obtain ⟨n, hnn⟩ : ∃ n, n = xs.length := ⟨_, rfl⟩
    have HN := hide hnn
    have hn12 : n ≤ 16 := by rw [hnn]; exact (offersB_ok HV.out).1
    rw [← hnn] at hn HOKC hc ⊢
    clear hnn
    go_enter Try.func6, Try.ntmps6
    go_wp2_with fail
    refine HOKC.out.mono ?_
    rintro e w1 ⟨rfl, hx⟩
    go_wp2_with (first | (go_at_call 17; refine (c_isChange _ _).mono ?_; rintro e w' ⟨rfl, rfl⟩) | (go_at_call 18; refine (c_within _ _ _ _).mono ?_; rintro e w' ⟨rfl, rfl⟩))
    generalize hw2 : World.alloc w1 _ = w2
    have hX2 : Blk w2 w1.heap.size 47 (skC (.slice A n c) lost (.slice none 0 0) (.slice none 0 0) ⟨[], -1, bud.toNat, false⟩) := by
      rw [← hw2]
      have h := Blk.new w1 47 (skC (.slice A n c) lost (.slice none 0 0) (.slice none 0 0) ⟨[], -1, bud.toNat, false⟩)
      simp only [skC, show ((bud.toNat : Nat) : Int) = bud by omega] at h ⊢
      simpa using h
    have hx2 : IsX w w2 := by rw [← hw2]; exact hx.alloc _
    have HIN : Hid (osIn xs A n c lost w1.heap.size w2.heap.size 0 [] 0 ⟨[], -1, bud.toNat, false⟩ w2) := hide {
      XB := hX2.lt
      Bw := Nat.le_refl _
      left := by simp only; omega
      chl := Nat.le_refl _
      a0 := by omega
      a1 := by omega
      chs := fun t ht => by simp at ht
      les := by rw [List.drop_zero]; have := (sumWor_bd xs (fun x hx => by have := (offersB_ok HV.out).2 x hx; omega)).1; simp only; omega
      fu := rfl
      rdA := hA.x hx2
      Ao := by
        rcases Nat.eq_zero_or_pos xs.length with h0 | h0
        · exact .inl (List.eq_nil_of_length_eq_zero h0)
        · refine .inr fun b off e => ?_
          obtain ⟨b', off', e', hb', _⟩ := hA 0 _ (List.getElem?_eq_getElem h0)
          rw [e] at e'
          injection e' with e'
          injection e' with e1 e2
          have := hx.size
          have := hX2.lt
          omega
      at_ := ⟨none, 0, none, 0, hX2, World.ownsRow_nil _ _ _ _, World.ownsRow_nil _ _ _ _, apart_none _⟩ }
    have HIX2 := hide hx2
    have HIX1 := hide hx
    clear hx2 hX2 hw2 hx
    refine (c_osGo A n c hc xs HN.out HV.out lost hl0' w1.heap.size w2.heap.size n 0 0 [] 0 ⟨[], -1, bud.toNat, false⟩ w2 rfl (by omega) HIN.out).mono ?_
    rintro e w3 ⟨rfl, hfr, hat⟩
    have HX3 : Hid (IsX w w3) := hide (hfr.isx HIX2.out HIX1.out.size HIX2.out.size)
    generalize hg : hunt (richHunt xs lost) n [] 0 0 ⟨[], -1, bud.toNat, false⟩ = G at hat ⊢
    have HG := hide (show richGot xs lost bud = G by rw [← hg, HN.out]; rfl)
    rw [HG.out] at HR
    clear hg hfr
    have HAT := hide hat
    clear hat
    obtain ⟨best, most, left, full⟩ := G
    simp only at HR HAT ⊢
    cases full
    · obtain ⟨Ac, cc, Ab, cb, hX3, hC3, hB3, hAp3⟩ := HAT.out rfl
      have d3 := hX3.cell 3
      have d4 := hX3.cell 4
      simp [skC] at d3 d4
      have hlb3 := hX3.lt
      have HB3 := hide (row_le' hB3 HIX2.out.size)
      simp only at HB3
      clear hX3 hC3 hB3 hAp3 HAT
      have HR2 := hide (show richAns xs lost bud = (best, most, 0) by rw [HR.out]; simp)
      go_wp2_with fail
      refine wp_region_x (by kernel_rfl) (by kernel_rfl) ?_
      repeat (go_big_quiet_step (fail))
      refine wpQuiet_nil ?_
      rintro _ ⟨q, rfl⟩
      go_wp2_with fail
      go_ret3
      rw [HR2.out]
      exact ⟨Ab, cb, rfl, own_x' HB3.out ⟨q, rfl⟩, HX3.out.trans ⟨q, rfl⟩⟩
    · have HR2 := hide (show richAns xs lost bud = ([], 0, 5) by rw [HR.out]; simp)
      go_wp2_with fail
      go_ret3
      rw [HR2.out]
      exact Sl3Post.none rfl rfl HX3.out
end Go.Proofs.Ytdedaoafihomoaa
