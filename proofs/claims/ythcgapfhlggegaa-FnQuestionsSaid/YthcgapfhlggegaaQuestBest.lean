/- BestQuestions of the program. Conditions: those of the row alone. -/
import Derived.Test.YthcgapfhlggegaaQuestGo
namespace Go.Proofs.Ythcgapfhlggegaa
set_option linter.unusedVariables false
open Go.RowKit

set_option maxHeartbeats 3200000 in
set_option maxRecDepth 100000 in
theorem i_BestQuestions (A : Option Addr) (c : Nat) (xs : List QuestionD) (lost bud : Int) (w : World) (hn : xs.length ≤ 1099511627776) (hw : ∀ x ∈ xs, x.wf) (hA : Rd QuestionD.cells 4 w A xs) (hb1 : intWf lost) (hb2 : intWf bud) (hc : xs.length ≤ c) :
    Calls Try.prog 9 #[.slice A xs.length c, .int .i64 lost, .int .i64 bud] w (Sl3Post intC 1 2 w (questAns xs lost bud).1 (questAns xs lost bud).2.1 (questAns xs lost bud).2.2) := by
  have HOKC := hide (c_ValidQuestions A c xs w hn hw hA)
  cases hv : questsB xs
  · have HR := hide (questAns_bad (lost := lost) (bud := bud) hv)
    rw [hv] at HOKC
    clear hv
    go_enter Try.func9, Try.ntmps9
    go_wp2_with fail
    refine HOKC.out.mono ?_
    rintro e w1 ⟨rfl, hx⟩
    go_wp2_with fail
    go_ret3
    rw [HR.out]
    exact Sl3Post.none rfl rfl hx
  have HV := hide hv
  rw [hv] at HOKC
  clear hv
  by_cases hr : 0 ≤ lost ∧ inB bud 1 20000 = true
  rotate_left
  · have HR := hide (questAns_range HV.out hr)
    by_cases hl : lost < 0
    · clear hr
      go_enter Try.func9, Try.ntmps9
      go_wp2_with fail
      refine HOKC.out.mono ?_
      rintro e w1 ⟨rfl, hx⟩
      go_wp2_with fail
      go_ret3
      rw [HR.out]
      exact Sl3Post.none rfl rfl hx
    · have hbd : inB bud 1 20000 = false := by
        rw [← Bool.not_eq_true]; intro h; exact hr ⟨by omega, h⟩
      clear hr
      go_enter Try.func9, Try.ntmps9
      go_wp2_with fail
      refine HOKC.out.mono ?_
      rintro e w1 ⟨rfl, hx⟩
      go_wp2_with (go_at_call 23; refine (c_within _ _ _ _).mono ?_; rintro e w' ⟨rfl, rfl⟩)
      go_ret3
      rw [HR.out]
      exact Sl3Post.none rfl rfl hx
  · have HR := hide (questAns_go HV.out hr)
    obtain ⟨hl0, hbd⟩ := hr
    obtain ⟨hbl, hbh⟩ := inB_true.1 hbd
    obtain ⟨n, hnn⟩ : ∃ n, n = xs.length := ⟨_, rfl⟩
    have HN := hide hnn
    have hn12 : n ≤ 16 := by rw [hnn]; exact (questsB_ok HV.out).1
    rw [← hnn] at hn HOKC hc ⊢
    clear hnn
    go_enter Try.func9, Try.ntmps9
    go_wp2_with fail
    refine HOKC.out.mono ?_
    rintro e w1 ⟨rfl, hx⟩
    go_wp2_with (go_at_call 23; refine (c_within _ _ _ _).mono ?_; rintro e w' ⟨rfl, rfl⟩)
    generalize hw2 : World.alloc w1 _ = w2
    have hX2 : Blk w2 w1.heap.size 56 (quC (.slice A n c) (.slice none 0 0) (.slice none 0 0) ⟨[], -1, bud.toNat, false⟩) := by
      rw [← hw2]
      have h := Blk.new w1 56 (quC (.slice A n c) (.slice none 0 0) (.slice none 0 0) ⟨[], -1, bud.toNat, false⟩)
      simp only [quC, show ((bud.toNat : Nat) : Int) = bud by omega] at h ⊢
      simpa using h
    have hx2 : IsX w w2 := by rw [← hw2]; exact hx.alloc _
    have HIN : Hid (qsIn xs A n c lost w1.heap.size w2.heap.size 0 [] 0 0 ⟨[], -1, bud.toNat, false⟩ w2) := hide {
      XB := hX2.lt
      Bw := Nat.le_refl _
      left := by simp only; omega
      chl := Nat.le_refl _
      a0 := by omega
      a1 := by omega
      b0 := by omega
      b1 := by omega
      les := by rw [List.drop_zero]; have := (sumPri_bd xs (fun x hx => by have := (questsB_ok HV.out).2 x hx; omega)).1; simp only; omega
      fu := rfl
      rdA := hA.x hx2
      Ao := by
        rcases Nat.eq_zero_or_pos xs.length with h0 | h0
        · exact .inl (List.eq_nil_of_length_eq_zero h0)
        · refine .inr fun b off e => ?_
          obtain ⟨b', off', e', hb', _⟩ := hA 0 _ (List.getElem?_eq_getElem h0)
          rw [e] at e'
          injection e' with e'
          injection e' with e1 e2
          have := hx.size
          have := hX2.lt
          omega
      at_ := ⟨none, 0, none, 0, hX2, World.ownsRow_nil _ _ _ _, World.ownsRow_nil _ _ _ _, apart_none _⟩ }
    have HIX2 := hide hx2
    have HIX1 := hide hx
    clear hx2 hX2 hw2 hx
    have HCALL := hide (c_qsGo A n c hc xs HN.out HV.out lost hl0 (by simp only [intWf] at hb1; omega) w1.heap.size w2.heap.size n 0 0 [] 0 0 ⟨[], -1, bud.toNat, false⟩ w2 rfl (by omega) HIN.out)
    rw [Int.sub_zero] at HCALL
    refine HCALL.out.mono ?_
    rintro e w3 ⟨rfl, hfr, hat⟩
    have HX3 : Hid (IsX w w3) := hide (hfr.isx HIX2.out HIX1.out.size HIX2.out.size)
    generalize hg : hunt (questHunt xs lost) n [] 0 0 ⟨[], -1, bud.toNat, false⟩ = G at hat ⊢
    have HG := hide (show questGot xs lost bud = G by rw [← hg, HN.out]; rfl)
    rw [HG.out] at HR
    clear hg hfr
    have HAT := hide hat
    clear hat
    obtain ⟨best, most, left, full⟩ := G
    simp only at HR HAT ⊢
    cases full
    · obtain ⟨Ac, cc, Ab, cb, hX3, hC3, hB3, hAp3⟩ := HAT.out rfl
      have d3 := hX3.cell 2
      have d4 := hX3.cell 3
      simp [quC] at d3 d4
      have hlb3 := hX3.lt
      have HB3 := hide (row_le' hB3 HIX2.out.size)
      simp only at HB3
      clear hX3 hC3 hB3 hAp3 HAT
      have HR2 := hide (show questAns xs lost bud = (best, most, 0) by rw [HR.out]; simp)
      go_wp2_with fail
      refine wp_region_x (by kernel_rfl) (by kernel_rfl) ?_
      repeat (go_big_quiet_step (fail))
      refine wpQuiet_nil ?_
      rintro _ ⟨q, rfl⟩
      go_wp2_with fail
      go_ret3
      rw [HR2.out]
      exact ⟨Ab, cb, rfl, own_x' HB3.out ⟨q, rfl⟩, HX3.out.trans ⟨q, rfl⟩⟩
    · have HR2 := hide (show questAns xs lost bud = ([], 0, 5) by rw [HR.out]; simp)
      go_wp2_with fail
      go_ret3
      rw [HR2.out]
      exact Sl3Post.none rfl rfl HX3.out
end Go.Proofs.Ythcgapfhlggegaa
