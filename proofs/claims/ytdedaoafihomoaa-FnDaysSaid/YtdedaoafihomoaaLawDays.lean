/- FnDays: the walk through the law's own text. Conditions: those of the row's argument alone. -/
import Derived.Test.YtdedaoafihomoaaLawFns
import Derived.Test.YtdedaoafihomoaaDayFacts
import Derived.Test.YtdedaoafihomoaaDrawOffers
import Derived.Test.YtdedaoafihomoaaOfferBest
import Derived.Test.YtdedaoafihomoaaGreedyFns
import Derived.Test.YtdedaoafihomoaaConflictFns
namespace Go.Proofs.Ytdedaoafihomoaa
set_option linter.unusedVariables false
open Go.RowKit

theorem own_cap' {α : Type} {cells : α → List Value} {k t b : Nat} {A : Option Addr} {c : Nat} {w : World} {zs : List α} (h : Own cells k t w b (.slice A zs.length c) zs) : zs.length ≤ c := own_cap h
set_option maxHeartbeats 12800000 in
set_option maxRecDepth 100000 in
theorem law_FnDays (A : Option Addr) (c : Nat) (bs : List Int) (w : World) (hn : bs.length ≤ maxLen) (hb : ∀ x ∈ bs, byteWf x) (hA : Rd byteC 1 w A bs) :
    Calls Try.prog 3 #[.slice A bs.length c] w fun e w' => e = .returned (.bool true) ∧ IsX w w' := by
  by_cases hl : 1048576 < bs.length
  · generalize bs.length = n at hl hn ⊢
    unfold maxLen at hn
    have hd : decide ((n : Int) > 1048576) = true := decide_eq_true (by omega)
    go_enter Try.func3, Try.ntmps3
    go_wp2_with (go_at_call 4; refine (cb (c_b10Long _ _ _ _) hd).mono ?_; rintro e w' ⟨rfl, rfl⟩)
    go_ret
    exact ⟨rfl, IsX.refl _⟩
  have hd : decide ((bs.length : Int) > 1048576) = false := decide_eq_false (by omega)
  have HD0 : Hid (Calls Try.prog 5 #[.slice A bs.length c] w (DrawQ w)) := hide (c_DrawRichestDay A c bs w (by omega) hb hA)
  generalize bs.length = bl at hl hd HD0 ⊢
  have HL1 := hide (fun (V : World) => cb (c_b10Long A bl c V) hd)
  clear hn hb hA hd hl
  go_enter Try.func3, Try.ntmps3
  go_wp2_with fail
  refine (HL1.out w).mono ?_
  rintro e w' ⟨rfl, rfl⟩
  clear HL1
  go_wp2_with fail
  refine HD0.out.mono ?_
  rintro e w1 ⟨A1, c1, xs, ch, bud, rfl, hxl, hwf, hch, hbu, ho, hx⟩
  have hcap := own_cap ho
  have hrd : Rd OfferD.cells 5 w1 A1 xs := Own.rd (cells := OfferD.cells) (k := 5) (by omega) OfferD.cells_len ho rfl
  have HX1 := hide hx
  have HRI := hide (i_RichestDay A1 c1 xs ch bud w1 (by omega) hwf hrd hch hbu hcap)
  have HGR := hide (fun (V : World) (hV : IsX w1 V) => i_GreedyDay A1 c1 xs ch V (by omega) hwf (hrd.x hV) hch)
  have HCO := hide (fun (V : World) (hV : IsX w1 V) => i_Conflicts A1 c1 xs ch V (by omega) hwf (hrd.x hV) hch)
  have HDW := hide (fun (V : World) (hV : IsX w1 V) (Ap : Option Addr) (cp : Nat) (ps : List Int) (hl : ps.length ≤ 100) (hw : ∀ t ∈ ps, intWf t) (hp : Rd intC 1 V Ap ps) => i_DayWorth A1 c1 xs Ap cp ps V (by omega) hwf (hrd.x hV) (by omega) hw hp)
  have HID := hide (fun (V : World) (hV : IsX w1 V) (Ap : Option Addr) (cp : Nat) (ps : List Int) (hl : ps.length ≤ 100) (hw : ∀ t ∈ ps, intWf t) (hp : Rd intC 1 V Ap ps) (hc : ps.length ≤ cp) => i_IsDay A1 c1 xs ch Ap cp ps V (by omega) hwf (hrd.x hV) hch (by omega) hw hp hc)
  have HBAD := hide (fun h => days_bad (xs := xs) (ch := ch) bud h)
  have HGOOD := hide (fun h => days_good (xs := xs) (ch := ch) (by omega) h)
  have HBB := hide (fun h => best_bad (xs := xs) (ch := ch) (bud := bud) h)
  have HBG := hide (fun h => best_good (xs := xs) (ch := ch) (bud := bud) (by omega) h)
  clear ho hx hrd hwf HD0 hch hbu
  obtain ⟨n, hnn⟩ : ∃ n, n = xs.length := ⟨_, rfl⟩
  have HN := hide hnn
  rw [← hnn] at hxl hcap HRI HGR HCO HDW HID HGOOD HBG ⊢
  clear hnn
  generalize greedyZ xs ch = gz at HGR HGOOD HBG
  generalize greedyC xs ch = gc at HGR HGOOD HBAD
  generalize confZ xs ch = pz at HCO HGOOD
  generalize confC xs ch = pc at HCO HGOOD HBAD
  generalize richAns xs ch bud = ans at HRI HBAD HBB HBG
  obtain ⟨zs, mo, rc⟩ := ans
  simp only at HRI HBAD HBB HBG
  go_wp2_with fail
  refine HRI.out.mono ?_
  rintro e w2 ⟨A2, c2, rfl, ho2, hx2⟩
  have HX2 := hide hx2
  have HR2 := hide (show Rd intC 1 w2 A2 zs from Own.rd (cells := intC) (k := 1) (by omega) intC_len ho2 rfl)
  have hcap2 := own_cap' ho2
  obtain ⟨m2, hm2⟩ : ∃ m, m = zs.length := ⟨_, rfl⟩
  have HM2 := hide hm2
  rw [← hm2] at hcap2 ⊢
  clear ho2 hx2 hm2 HRI
  go_wp2_with fail
  refine (HGR.out w2 HX2.out).mono ?_
  rintro e w3 ⟨A3, c3, rfl, ho3, hx3⟩
  have HX3 := hide (HX2.out.trans hx3)
  have HR3 := hide (show Rd intC 1 w3 A3 gz from Own.rd (cells := intC) (k := 1) (by omega) intC_len ho3 rfl)
  have HR2' := hide (HR2.out.x hx3)
  have hcap3 := own_cap' ho3
  obtain ⟨m3, hm3⟩ : ∃ m, m = gz.length := ⟨_, rfl⟩
  have HM3 := hide hm3
  rw [← hm3] at hcap3 ⊢
  clear ho3 hx3 hm3 HGR HX2 HR2
  go_wp2_with fail
  refine (HCO.out w3 HX3.out).mono ?_
  rintro e w4 ⟨A4, c4, gs, rfl, hpr, hx4⟩
  have HX4 := hide (HX3.out.trans hx4)
  have HR3' := hide (HR3.out.x hx4)
  have HR2 := hide (HR2'.out.x hx4)
  have HPR := hide hpr
  have hm4l : pz.length ≤ maxLen := by
    rcases hpr.row.2 with ⟨_, h⟩ | ⟨_, cap, _, _, _, _, h1, h2, _, _⟩
    · omega
    · omega
  obtain ⟨m4, hm4⟩ : ∃ m, m = pz.length := ⟨_, rfl⟩
  have HM4 := hide hm4
  rw [← hm4] at hm4l HPR ⊢
  unfold maxLen at hm4l
  clear hx4 hpr hm4 HCO HX3 HR3 HR2'
  by_cases hgc : gc = 0
  rotate_left
  · have hb := HBAD.out hgc
    obtain ⟨hb1, hb2⟩ := hb
    subst hb1
    have hm0 : m2 = 0 := by rw [HM2.out, hb2]; rfl
    subst hm0
    have q1 : (pc == 0) = false := by simp only [beq_eq_false_iff_ne, ne_eq]; exact hgc
    have q2 : (pc == pc) = true := beq_self_eq_true pc
    have q3 : (pc != 0) = true := by simp only [bne, q1]; rfl
    clear hgc hb2
    go_wp2_with fail
    go_ret
    exact ⟨rfl, HX1.out.trans HX4.out⟩
  subst hgc
  obtain ⟨hv, hpc, hgl, hgw, hday, hask, hpairs⟩ := HGOOD.out rfl
  subst hpc
  rw [← HM3.out] at hgl
  have HD3 := hide (HDW.out w4 HX4.out A3 c3 gz (by have := HM3.out; omega) hgw HR3'.out)
  rw [hask, ← HM3.out] at HD3
  have HI3 := hide (fun (V : World) (hV : IsX w4 V) => HID.out V (HX4.out.trans hV) A3 c3 gz (by have := HM3.out; omega) hgw (HR3'.out.x hV) (by have := HM3.out; omega))
  rw [hday, ← HM3.out] at HI3
  have HPZ := hide hpairs
  have HHAS := hide (fun (V : World) (hV : IsX w4 V) (v : Int) => c_b10Has A3 c3 gz v V (by have := HM3.out; omega) (HR3'.out.x hV))
  rw [← HM3.out] at HHAS
  generalize worthOf xs gz = gw at HD3 HBG
  clear hask hgw hday hpairs hv HGOOD HBAD
  go_wp2_with fail
  refine HD3.out.mono ?_
  rintro e w5 ⟨rfl, hx5⟩
  have HX5 := hide hx5
  clear hx5 HD3
  go_wp2_with fail
  refine (HI3.out w5 HX5.out).mono ?_
  rintro e w6 ⟨rfl, hx6⟩
  have HX6 := hide (HX5.out.trans hx6)
  clear hx6 HX5 HI3
  go_wp2_with fail
  go_loopw [15] (fun iv wr => ∃ k : Nat, k ≤ m4 ∧ iv = .int .i64 k ∧ IsX w6 wr) (fun iv _ => m4 - (intOf iv).toNat)
  case atStart => exact ⟨0, Nat.zero_le _, rfl, IsX.refl _⟩
  case round =>
    obtain ⟨k, hk, rfl, p, rfl⟩ := hrel
    by_cases hlt : k < m4
    · have hz : k < pz.length := HM4.out ▸ hlt
      have hg : k < gs.length := by have := HPR.out.len; omega
      have HY := hide (HX6.out.trans (⟨p, rfl⟩ : IsX w6 (xt w6 p)))
      obtain ⟨g0, e0, hg0, cg⟩ := HPR.out.cell k hg
      subst e0
      have HBK := hide (HPR.out.blk k hz hg)
      have HR1 := hide (pair_rd HBK.out)
      have hb1 := HBK.out.lt
      have d0 := HBK.out.cell 0
      have d1 := HBK.out.cell 1
      simp [pairC] at d0 d1
      obtain ⟨hpd, hor, hw1, hw2⟩ := HPZ.out _ (List.getElem_mem hz)
      have HIP := hide (fun (V : World) (hV : IsX w4 V) => HID.out V (HX4.out.trans hV) (some ⟨gs[k], 0, none⟩) 2 [pz[k].1, pz[k].2] (by simp) (by simp; exact ⟨hw1, hw2⟩) (HR1.out.x hV) (by simp))
      rw [hpd] at HIP
      simp only [List.length_cons, List.length_nil, Nat.zero_add, Nat.reduceAdd] at HIP
      unfold pairV at cg
      generalize gs[k] = g at cg HIP hb1 d0 d1
      generalize pz[k] = z at HIP d0 d1 hor
      have cg' := keep HY.out hg0 cg
      have d0' := keep HY.out hb1 d0
      have d1' := keep HY.out hb1 d1
      have hb1' : g < (xt w6 p).heap.size := Nat.lt_of_lt_of_le hb1 HY.out.size
      have hg0' : g0 < (xt w6 p).heap.size := Nat.lt_of_lt_of_le hg0 HY.out.size
      have HHA := hide (fun (V : World) (hV : IsX (xt w6 p) V) => HHAS.out V (HY.out.trans hV))
      have HIP' := hide (fun (V : World) (hV : IsX (xt w6 p) V) => HIP.out V (HY.out.trans hV))
      clear cg d0 d1 hb1 hg0 HBK HR1 HIP hw1 hw2 hpd
      go_wp2_with fail
      refine (HIP'.out _ (IsX.refl _)).mono ?_
      rintro e wa ⟨rfl, hxa⟩
      have ca := keep hxa hg0' cg'
      have da := keep hxa hb1' d0'
      have ea := keep hxa hb1' d1'
      have hga := Nat.lt_of_lt_of_le hg0' hxa.size
      have hba := Nat.lt_of_lt_of_le hb1' hxa.size
      have HXA := hide hxa
      clear hxa cg' d0' d1' hg0' hb1' HIP'
      go_wp2_with fail
      cases h1 : decide (z.1 ∈ gz)
      · refine (cb (HHA.out _ HXA.out z.1) h1).mono ?_
        rintro e wb ⟨rfl, hxb⟩
        have HXB := hide (IsX.trans ⟨p, rfl⟩ (HXA.out.trans hxb) : IsX w6 wb)
        clear hxb
        go_wp2_with fail
        go_roundw
        case rel => exact ⟨k + 1, by omega, by go_num, HXB.out⟩
        case measure => simp [intOf]; omega
      · have h2 : decide (z.2 ∈ gz) = false := hor.resolve_left (by rw [h1]; exact Bool.noConfusion)
        refine (cb (HHA.out _ HXA.out z.1) h1).mono ?_
        rintro e wb ⟨rfl, hxb⟩
        have c_ := keep hxb hga ca
        have d_ := keep hxb hba da
        have e_ := keep hxb hba ea
        have HXB := hide (HXA.out.trans hxb)
        clear hxb ca da ea
        go_wp2_with fail
        refine (cb (HHA.out _ HXB.out z.2) h2).mono ?_
        rintro e wc ⟨rfl, hxc⟩
        have HXC := hide (IsX.trans ⟨p, rfl⟩ (HXB.out.trans hxc) : IsX w6 wc)
        clear hxc
        go_wp2_with fail
        go_roundw
        case rel => exact ⟨k + 1, by omega, by go_num, HXC.out⟩
        case measure => simp [intOf]; omega
    · obtain rfl : k = m4 := by omega
      have HX7 := hide (HX6.out.trans (⟨p, rfl⟩ : IsX w6 (xt w6 p)))
      generalize hwp : xt w6 p = w7 at HX7 ⊢
      clear hwp HPR HPZ HHAS HX6
      by_cases hrc : rc = 0
      rotate_left
      · obtain ⟨hz0, hmo0⟩ := HBB.out hrc
        have hm0 : m2 = 0 := by rw [HM2.out, hz0]; rfl
        subst hm0 hmo0
        have q1 : (rc == 0) = false := by simp only [beq_eq_false_iff_ne, ne_eq]; exact hrc
        have q3 : (rc != 0) = true := by simp only [bne, q1]; rfl
        clear hrc hz0
        go_wp2_with fail
        go_ret
        exact ⟨rfl, (HX1.out.trans HX4.out).trans HX7.out⟩
      subst hrc
      obtain ⟨hzl, hzw, hday, hask, hwm, hle⟩ := HBG.out rfl
      rw [← HM2.out] at hzl
      have HD7 := hide (HDW.out w7 (HX4.out.trans HX7.out) A2 c2 zs (by have := HM2.out; omega) hzw (HR2.out.x HX7.out))
      rw [hask, hwm, ← HM2.out] at HD7
      have HI7 := hide (fun (V : World) (hV : IsX w7 V) => HID.out V ((HX4.out.trans HX7.out).trans hV) A2 c2 zs (by have := HM2.out; omega) hzw ((HR2.out.x HX7.out).x hV) (by have := HM2.out; omega))
      rw [hday, ← HM2.out] at HI7
      have q1 : decide (gw ≤ mo) = true := decide_eq_true hle
      have q2 : (mo == mo) = true := beq_self_eq_true mo
      clear hask hzw hday hwm hle HBG HBB
      go_wp2_with fail
      refine HD7.out.mono ?_
      rintro e w8 ⟨rfl, hx8⟩
      have HX8 := hide hx8
      clear hx8 HD7
      go_wp2_with fail
      refine (HI7.out w8 HX8.out).mono ?_
      rintro e w9 ⟨rfl, hx9⟩
      have HX9 := hide (HX8.out.trans hx9)
      clear hx9 HX8 HI7
      go_wp2_with fail
      go_ret
      exact ⟨rfl, ((HX1.out.trans HX4.out).trans HX7.out).trans HX9.out⟩
end Go.Proofs.Ytdedaoafihomoaa
