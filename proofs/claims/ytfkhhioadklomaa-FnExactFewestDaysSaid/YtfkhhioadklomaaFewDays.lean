/- FewestDays of the reference. Conditions: those of the row alone. -/
import Derived.Test.YtfkhhioadklomaaFewVisit
import Derived.Test.YtfkhhioadklomaaNumsOwn
import Derived.Test.YtfkhhioadklomaaMarks
namespace Go.Proofs.Ytfkhhioadklomaa
set_option linter.unusedVariables false
open Go.RowKit

set_option maxRecDepth 100000 in
set_option maxHeartbeats 12800000 in
theorem s_FewestDays (A0 : Option Addr) (c0 : Nat) (xs0 : List PersonD) (A1 : Option Addr) (c1 : Nat) (xs1 : List ByteArray) (n2 : Int) (n3 : Int) (n4 : Int) (w : World) (hn0 : xs0.length ≤ 1099511627776) (hw0 : ∀ x ∈ xs0, x.wf) (hs0 : ∀ x ∈ xs0, x.small 1099511627776) (hA0 : RdPerson 0 w A0 xs0) (hn1 : xs1.length ≤ 1099511627776) (hw1 : ∀ x ∈ xs1, strWf x) (hA1 : Rd strC 1 w A1 xs1) (hb2 : intWf n2) (hb3 : intWf n3) (hb4 : intWf n4) : Calls Try.prog 8 #[.slice A0 xs0.length c0, .slice A1 xs1.length c1, .int .i64 n2, .int .i64 n3, .int .i64 n4] w (SlPost intC 1 2 w (fewZ xs0 xs1 n2 n3 n4) (fewC xs0 xs1 n2 n3 n4)) := by
  have HOKC := hide (c_l21People A0 c0 xs0 w hn0 hw0 hs0 hA0)
  cases hv : peopleB xs0
  · have HB := hide (few_bad (fr := n2) (un := n3) (bud := n4) (show okP xs0 xs1 = false by simp [okP, hv]))
    go_enter Try.func8, Try.ntmps8
    go_wp2_with fail
    refine (cb HOKC.out hv).mono ?_
    rintro e w1 ⟨rfl, hx⟩
    have HX1 := hide hx
    clear hx
    go_wp2_with fail
    go_ret2
    exact SlPost.none HB.out.1 (by rw [HB.out.2]; rfl) HX1.out
  have HNEC := hide (fun (V : World) (hV : IsX w V) => c_l21Needed A0 c0 xs0 A1 c1 xs1 V hv hn1 hw1 (hA0.x hV) (hA1.x hV))
  have HA0 := hide hA0
  have HA1 := hide hA1
  have hn12 := hn1
  clear hA0 hA1 hw0 hs0 hw1
  cases hne : needB xs0 xs1
  · have HB := hide (few_bad (fr := n2) (un := n3) (bud := n4) (show okP xs0 xs1 = false by simp [okP, hne]))
    go_enter Try.func8, Try.ntmps8
    go_wp2_with fail
    refine (cb HOKC.out hv).mono ?_
    rintro e w1 ⟨rfl, hx⟩
    have HX1 := hide hx
    clear hx
    go_wp2_with fail
    refine (cb (HNEC.out w1 HX1.out) hne).mono ?_
    rintro e w2 ⟨rfl, hx⟩
    have HX2 := hide (HX1.out.trans hx)
    clear hx
    go_wp2_with fail
    go_ret2
    exact SlPost.none HB.out.1 (by rw [HB.out.2]; rfl) HX2.out
  have hok : okP xs0 xs1 = true := by simp [okP, hv, hne]
  cases hb : inB n4 1 20000
  · have HB := hide (few_range (fr := n2) (un := n3) (bud := n4) hok (by simp [hb]))
    go_enter Try.func8, Try.ntmps8
    go_wp2_with fail
    refine (cb HOKC.out hv).mono ?_
    rintro e w1 ⟨rfl, hx⟩
    have HX1 := hide hx
    clear hx
    go_wp2_with fail
    refine (cb (HNEC.out w1 HX1.out) hne).mono ?_
    rintro e w2 ⟨rfl, hx⟩
    have HX2 := hide (HX1.out.trans hx)
    clear hx
    go_wp2_with fail
    refine (cb (c_in n4 1 20000 _) hb).mono ?_
    rintro e wu ⟨rfl, rfl⟩
    go_wp2_with fail
    go_ret2
    exact SlPost.none HB.out.1 (by rw [HB.out.2]; rfl) HX2.out
  cases hi : inB n2 0 99999
  · have HB := hide (few_range (fr := n2) (un := n3) (bud := n4) hok (by simp [rangeB, hi]))
    go_enter Try.func8, Try.ntmps8
    go_wp2_with fail
    refine (cb HOKC.out hv).mono ?_
    rintro e w1 ⟨rfl, hx⟩
    have HX1 := hide hx
    clear hx
    go_wp2_with fail
    refine (cb (HNEC.out w1 HX1.out) hne).mono ?_
    rintro e w2 ⟨rfl, hx⟩
    have HX2 := hide (HX1.out.trans hx)
    clear hx
    go_wp2_with fail
    refine (cb (c_in n4 1 20000 _) hb).mono ?_
    rintro e wu ⟨rfl, rfl⟩
    go_wp2_with fail
    refine (cb (c_l03DayM n2 _) hi).mono ?_
    rintro e wu ⟨rfl, rfl⟩
    go_wp2_with fail
    go_ret2
    exact SlPost.none HB.out.1 (by rw [HB.out.2]; rfl) HX2.out
  cases hi2 : inB n3 n2 99999
  · have HB := hide (few_range (fr := n2) (un := n3) (bud := n4) hok (by simp [rangeB, hi2]))
    go_enter Try.func8, Try.ntmps8
    go_wp2_with fail
    refine (cb HOKC.out hv).mono ?_
    rintro e w1 ⟨rfl, hx⟩
    have HX1 := hide hx
    clear hx
    go_wp2_with fail
    refine (cb (HNEC.out w1 HX1.out) hne).mono ?_
    rintro e w2 ⟨rfl, hx⟩
    have HX2 := hide (HX1.out.trans hx)
    clear hx
    go_wp2_with fail
    refine (cb (c_in n4 1 20000 _) hb).mono ?_
    rintro e wu ⟨rfl, rfl⟩
    go_wp2_with fail
    refine (cb (c_l03DayM n2 _) hi).mono ?_
    rintro e wu ⟨rfl, rfl⟩
    go_wp2_with fail
    refine (cb (c_in n3 n2 99999 _) hi2).mono ?_
    rintro e wu ⟨rfl, rfl⟩
    go_wp2_with fail
    go_ret2
    exact SlPost.none HB.out.1 (by rw [HB.out.2]; rfl) HX2.out
  have HB := hide (few_ok (fr := n2) (un := n3) (bud := n4) hok (by simp [rangeB, hb, hi, hi2]))
  obtain ⟨hb1, hb2'⟩ := inB_true.1 hb
  go_enter Try.func8, Try.ntmps8
  go_wp2_with fail
  refine (cb HOKC.out hv).mono ?_
  rintro e w1 ⟨rfl, hx⟩
  have HX1 := hide hx
  clear hx
  go_wp2_with fail
  refine (cb (HNEC.out w1 HX1.out) hne).mono ?_
  rintro e w2 ⟨rfl, hx⟩
  have HX2 := hide (HX1.out.trans hx)
  clear hx
  go_wp2_with fail
  refine (cb (c_in n4 1 20000 _) hb).mono ?_
  rintro e wu ⟨rfl, rfl⟩
  go_wp2_with fail
  refine (cb (c_l03DayM n2 _) hi).mono ?_
  rintro e wu ⟨rfl, rfl⟩
  go_wp2_with fail
  refine (cb (c_in n3 n2 99999 _) hi2).mono ?_
  rintro e wu ⟨rfl, rfl⟩
  have HP := hide hv
  have HNE := hide hne
  have hnl := need_len hne
  have hfl := allF_len (fr := n2) (un := n3) hv
  clear hv hne hok hb hi hi2 HOKC HNEC HX1
  go_wp2_with fail
  refine (c_l21All A0 c0 xs0 n2 n3 w2 HP.out (HA0.out.x HX2.out)).mono ?_
  rintro e w7 ⟨A7, c7, rfl, hO7, hx7⟩
  have HX7 := hide (HX2.out.trans hx7)
  obtain ⟨F, hF⟩ : ∃ F, F = allF xs0 n2 n3 := ⟨_, rfl⟩
  have HF := hide hF
  rw [← hF] at hO7 hfl ⊢
  have HRD := hide (Own.rd (by omega) intC_len hO7 rfl)
  clear hF hO7 hx7
  have HVIS := hide (fun (m : Nat) (hm : m ≤ 12) (X B : Nat) (hX0 : w7.heap.size ≤ X) (hXB : X < B) => c_dayVisit A0 c0 xs0 A1 c1 xs1 A7 c7 F hfl m hm n4 (by omega) hb2' X B w7 hX0 hXB HP.out hnl (HA0.out.x HX7.out) (HA1.out.x HX7.out) HRD.out)
  obtain ⟨nF, hnF⟩ : ∃ n, n = F.length := ⟨_, rfl⟩
  obtain ⟨n, hnn⟩ : ∃ n, n = xs1.length := ⟨_, rfl⟩
  have HNF := hide hnF
  have HN := hide hnn
  have HFEW := hide (show few xs0 xs1 n2 n3 n4 = fewGo F (covN xs0 xs1) (n + 1) 0 n4.toNat by rw [few, ← HF.out, ← HN.out])
  obtain ⟨np, hnp⟩ : ∃ n, n = xs0.length := ⟨_, rfl⟩
  rw [← hnp, ← hnn, ← hnF] at HVIS
  rw [← hnp, ← hnn, ← hnF]
  rw [← hnn] at hnl hn12
  rw [← hnF] at hfl
  clear hnp hnn hnF HP HRD hn0 hn1
  obtain ⟨bd, hbd⟩ : ∃ b, b = n4.toNat := ⟨_, rfl⟩
  have hbe : (bd : Int) = n4 := by omega
  have HBE := hide hbe
  rw [← hbd] at HFEW
  clear hbd hbe
  go_wp2_with fail
  obtain ⟨X, hX⟩ : ∃ b, b = w7.heap.size := ⟨_, rfl⟩
  have HX0 : Hid (Blk (w7.alloc (.cells (dayC (.slice A0 np c0) (.slice A1 n c1) (.slice A7 nF c7) 0 n4 (.slice none 0 0) 0) 65)) X 65 (dayC (.slice A0 np c0) (.slice A1 n c1) (.slice A7 nF c7) ((0 : Nat) : Int) n4 (.slice none 0 0) (n4 - (bd : Int)))) := hide (by
    have h : Blk (w7.alloc (.cells (dayC (.slice A0 np c0) (.slice A1 n c1) (.slice A7 nF c7) 0 n4 (.slice none 0 0) 0) 65)) X 65 (dayC (.slice A0 np c0) (.slice A1 n c1) (.slice A7 nF c7) 0 n4 (.slice none 0 0) 0) := by rw [hX]; exact Blk.new _ _ _
    rw [show n4 - (bd : Int) = 0 by have := HBE.out; omega]
    exact h)
  have HXX : Hid (IsX w7 (w7.alloc (.cells (dayC (.slice A0 np c0) (.slice A1 n c1) (.slice A7 nF c7) 0 n4 (.slice none 0 0) 0) 65))) := hide ((IsX.refl w7).alloc _)
  have HXB : Hid (X + 1 ≤ (w7.alloc (.cells (dayC (.slice A0 np c0) (.slice A1 n c1) (.slice A7 nF c7) 0 n4 (.slice none 0 0) 0) 65)).heap.size) := hide (by simp [World.setCell, hX])
  have HXL := hide (show w7.heap.size ≤ X by omega)
  first | rw [← hX] | skip
  clear hX
  have HFW := hide (show few xs0 xs1 n2 n3 n4 = fewGo F (covN xs0 xs1) (n + 1) 0 bd from HFEW.out)
  clear HFEW
  go_loopg [13] (n + 1) (fun gk pv wr => ∃ (mm l : Nat) (vc : Value), mm + gk = n + 1 ∧ l ≤ bd ∧ Hid (few xs0 xs1 n2 n3 n4 = fewGo F (covN xs0 xs1) gk mm l) ∧ Hid (vc.oneCell' = true) ∧ Hid (Blk wr X 65 (dayC (.slice A0 np c0) (.slice A1 n c1) (.slice A7 nF c7) (mm : Int) n4 vc (n4 - (l : Int)))) ∧ Hid (IsX w7 wr) ∧ Hid (X + 1 ≤ wr.heap.size))
  case atStart => exact ⟨0, bd, .slice none 0 0, by omega, Nat.le_refl _, HFW, hide rfl, HX0, HXX, HXB⟩
  case round =>
    clear HX0 HXX HXB HFW
    obtain ⟨mm, l, vc, hgk, hlb, HFW, HVC, HX, HXW, HXB⟩ := hrel
    have d4 := HX.out.cell 4
    have hlx := HX.out.lt
    simp [dayC] at d4
    by_cases hz : gk = 0
    · have HR := hide (show few xs0 xs1 n2 n3 n4 = ([], 3) by rw [HFW.out, hz]; rfl)
      have q0 : ¬ mm ≤ n := by omega
      have q1 : decide (mm ≤ n) = false := decide_eq_false (by omega)
      clear hz
      go_wp2_with fail
      go_ret2
      exact SlPost.none (by rw [HB.out.1, HR.out]) (by rw [HB.out.2, HR.out]; rfl) (HX7.out.trans HXW.out)
    · obtain ⟨g1, hg1⟩ : ∃ g, gk = g + 1 := ⟨gk - 1, by omega⟩
      have HG := hide hg1
      have hmn : mm ≤ n := by omega
      have q1 : decide ((mm : Int) ≤ (n : Int)) = true := decide_eq_true (by omega)
      have HR := hide (show few xs0 xs1 n2 n3 n4 = match visR F (covN xs0 xs1) mm F.length [] l with | .none l => fewGo F (covN xs0 xs1) g1 (mm + 1) l | .found c _ => (c, 0) | .full => ([], 5) by rw [HFW.out, hg1]; rfl)
      have f3 := HX.out.frozen 3
      have f4 := HX.out.frozen 4
      have d3 := HX.out.cell 3
      simp [dayC] at d3
      clear hz hg1 HFW
      go_wp2_with fail
      have hsz : (wr.setCell ⟨X, 3, none⟩ (.slice (some ⟨wr.heap.size, 0, none⟩) 0 0)).heap.size = wr.heap.size := by simp [World.setCell]
      have HDA : Hid (DayAt X (X + 1) (.slice A0 np c0) (.slice A1 n c1) (.slice A7 nF c7) (mm : Int) n4 [] (n4 - (l : Int)) ((wr.setCell ⟨X, 3, none⟩ (.slice (some ⟨wr.heap.size, 0, none⟩) 0 0)).alloc (.cells #[] 2))) := hide (by
        have h := World.ownsRow_made (base := X + 1) (e := 2) (size := 1) (wr.setCell ⟨X, 3, none⟩ (.slice (some ⟨wr.heap.size, 0, none⟩) 0 0)) #[] 0 (by rw [hsz]; exact HXB.out) (by simp [maxLen]) rfl
        have h2 := (HX.out.set_ 3 (.slice (some ⟨wr.heap.size, 0, none⟩) 0 0)).alloc (.cells #[] 2)
        rw [hsz] at h
        exact ⟨some ⟨wr.heap.size, 0, none⟩, 0, h2, h⟩)
      have HXV := hide (IsX.alloc (IsX.setCell (a := ⟨X, 3, none⟩) HXW.out HXL.out (.slice (some ⟨wr.heap.size, 0, none⟩) 0 0)) (.cells #[] 2))
      have HBV : Hid (X + 1 ≤ ((wr.setCell ⟨X, 3, none⟩ (.slice (some ⟨wr.heap.size, 0, none⟩) 0 0)).alloc (.cells #[] 2)).heap.size) := hide (by have := HXB.out; simp [World.setCell]; omega)
      generalize World.alloc (World.setCell wr ⟨X, 3, none⟩ (.slice (some ⟨wr.heap.size, 0, none⟩) 0 0)) (.cells #[] 2) = wv at HDA HXV HBV ⊢
      clear hsz
      clear d3 d4 f3 f4 hlx HX HXW HXB HVC
      refine (HVIS.out mm (by omega) X (X + 1) HXL.out (Nat.lt_succ_self X) nF 0 (0 : Int) [] l wv rfl (by have := HNF.out; omega) (Nat.zero_le _) (by have := HBE.out; omega) HXV.out HBV.out HDA.out).mono ?_
      rintro e ws ⟨b, rfl, hxs, hBs, hres⟩
      rw [← HNF.out] at HR
      have HXS := hide hxs
      have HBS := hide hBs
      generalize visR F (covN xs0 xs1) mm nF [] l = R1 at hres HR
      clear hxs hBs HDA HXV HBV
      cases R1 with
      | full =>
        obtain ⟨rfl, vc2, hX2⟩ := hres
        have d5 := hX2.cell 5
        have hl2 := hX2.lt
        simp [dayC] at d5
        have q2 : decide (n4 + 1 > n4) = true := decide_eq_true (by omega)
        clear hX2
        go_wp2_with fail
        go_ret2
        exact SlPost.none (by rw [HB.out.1, HR.out]) (by rw [HB.out.2, HR.out]; rfl) (HX7.out.trans HXS.out)
      | found c l' =>
        obtain ⟨rfl, hl', Ac, cc, hX2, hC2⟩ := hres
        have d5 := hX2.cell 5
        have d3 := hX2.cell 3
        have hl2 := hX2.lt
        simp [dayC] at d5 d3
        have q2 : decide (n4 - (l' : Int) > n4) = false := decide_eq_false (by omega)
        have HRC := hide (show Rd intC 1 ws Ac c from Own.rd (cells := intC) (k := 1) (by omega) intC_len hC2 rfl)
        have hcl : c.length ≤ 1048576 := by have := fewZ_len xs0 xs1 n2 n3 n4; rw [HB.out.1, HR.out] at this; exact this
        have HOW := hide (c_l00Own Ac cc c ws (by omega) HRC.out)
        have HZL := hide (show fewZ xs0 xs1 n2 n3 n4 = c by rw [HB.out.1, HR.out])
        have HCL := hide (show fewC xs0 xs1 n2 n3 n4 = 0 by rw [HB.out.2, HR.out])
        generalize hcc : c.length = ql at d3 HOW hcl
        have HCC := hide hcc
        clear hX2 hC2 hcc
        go_wp2_with fail
        refine HOW.out.mono ?_
        rintro e wo ⟨Ao, co, rfl, hO, hxo⟩
        have HO := hide hO
        have HXO := hide hxo
        clear hO hxo
        go_wp2_with fail
        go_ret2
        refine ⟨Ao, co, by rw [HZL.out, HCL.out, HCC.out]; rfl, ?_, (HX7.out.trans HXS.out).trans HXO.out⟩
        rw [HZL.out, HCC.out]
        exact row_le' HO.out (HX7.out.trans HXS.out).size
      | none l' =>
        obtain ⟨rfl, hl', Ac, cc, hX2, hC2⟩ := hres
        have d5 := hX2.cell 5
        have d4 := hX2.cell 4
        have f4 := hX2.frozen 4
        have hl2 := hX2.lt
        simp [dayC] at d5 d4
        have q2 : decide (n4 - (l' : Int) > n4) = false := decide_eq_false (by omega)
        have HX2 := hide (hX2.set_ 4 (.int .i64 ((mm : Int) + 1)))
        have HXN := hide (HXS.out.setCell (a := ⟨X, 4, none⟩) HXL.out (.int .i64 ((mm : Int) + 1)))
        clear hX2 hC2
        go_wp2_with fail
        go_roundg (gk - 1)
        case measure => omega
        case rel =>
          refine ⟨mm + 1, l', _, by omega, by omega, hide (by rw [HR.out, HG.out]; rfl), hide rfl, hide (by have h := HX2.out; exact h), HXN, hide (by have := HBS.out; simpa [World.setCell] using this)⟩
end Go.Proofs.Ytfkhhioadklomaa
