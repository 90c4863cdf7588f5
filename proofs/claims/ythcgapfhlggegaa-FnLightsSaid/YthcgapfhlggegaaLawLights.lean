/- FnLights: the walk through the law's own text. Conditions: those of the row's arguments alone. -/
import Derived.Test.YthcgapfhlggegaaLawFns
import Derived.Test.YthcgapfhlggegaaFade
import Derived.Test.YthcgapfhlggegaaDrawLit
import Derived.StillTailTactics
namespace Go.Proofs.Ythcgapfhlggegaa
set_option linter.unusedVariables false
open Go.RowKit

theorem okU_at {m : Nat} : ∀ {ws cs : List Int} {f : Nat → Int}, okU m ws cs f → ∀ (hw : 0 < ws.length) (hc : 0 < cs.length), ∃ u : Nat, cs[0] = ((u + 1 : Nat) : Int) ∧ u < m ∧ f u + ws[0] ≤ 512 ∧ okU m (ws.drop 1) (cs.drop 1) (fun v => f v + (if v = u then ws[0] else 0))
  | w :: ws, c :: cs, f, h, _, _ => h
  | [], _, _, _, hw, _ => absurd hw (by simp)
  | _ :: _, [], _, h, _, _ => h.elim
theorem okU_drop {m : Nat} {ws cs : List Int} {f : Nat → Int} {k : Nat} (h : okU m (ws.drop k) (cs.drop k) f) (hw : k < ws.length) (hc : k < cs.length) : ∃ u : Nat, cs[k] = ((u + 1 : Nat) : Int) ∧ u < m ∧ f u + ws[k] ≤ 512 ∧ okU m (ws.drop (k + 1)) (cs.drop (k + 1)) (fun v => f v + (if v = u then ws[k] else 0)) := by
  obtain ⟨u, h1, h2, h3, h4⟩ := okU_at h (by simp; omega) (by simp; omega)
  rw [List.getElem_drop] at h1
  rw [List.getElem_drop] at h3
  simp only [List.getElem_drop, List.drop_drop] at h4
  exact ⟨u, by simpa using h1, h2, by simpa using h3, by simpa using h4⟩
/-- the loads lie in the law's own row -/
def LoadP (U : List Int) (f : Nat → Int) : Prop := U.length = 20 ∧ ∀ v, v < 19 → U[v + 1]? = some (f v) ∧ 0 ≤ f v ∧ f v ≤ 512
theorem LoadP.set {U : List Int} {f : Nat → Int} {u : Nat} {wd : Int} (h : LoadP U f) (hu : u < 19) (hw : 0 ≤ wd) (hf : f u + wd ≤ 512) : LoadP (U.set (u + 1) (f u + wd)) (fun v => f v + (if v = u then wd else 0)) := by
  refine ⟨by rw [List.length_set]; exact h.1, fun v hv => ?_⟩
  have h2 := h.2 v hv
  show (U.set (u + 1) (f u + wd))[v + 1]? = some (f v + if v = u then wd else 0) ∧ 0 ≤ (f v + if v = u then wd else 0) ∧ (f v + if v = u then wd else 0) ≤ 512
  rw [List.getElem?_set]
  by_cases e : v = u
  · subst e
    rw [if_pos rfl, if_pos rfl, if_pos (by have := h.1; omega)]
    exact ⟨rfl, by omega, hf⟩
  · rw [if_neg (by omega), if_neg e, Int.add_zero]
    exact h2
set_option maxHeartbeats 12800000 in
set_option maxRecDepth 100000 in
theorem law_FnLights (A : Option Addr) (c : Nat) (bs : List Int) (AM : Option Addr) (cM : Nat) (bsM : List Int) (w : World) (hn : bs.length ≤ maxLen) (hb : ∀ x ∈ bs, byteWf x) (hA : Rd byteC 1 w A bs) (hnM : bsM.length ≤ maxLen) (hbM : ∀ x ∈ bsM, byteWf x) (hAM : Rd byteC 1 w AM bsM) :
    Calls Try.prog 4 #[.slice A bs.length c, .slice AM bsM.length cM] w fun e w' => e = .returned (.bool true) ∧ IsX w w' := by
  by_cases hl : 1048576 < bs.length
  · generalize bs.length = n at hl hn ⊢
    generalize bsM.length = nM at hnM ⊢
    unfold maxLen at hn hnM
    have hd : decide ((n : Int) > 1048576) = true := decide_eq_true (by omega)
    go_enter Try.func4, Try.ntmps4
    go_wp2_with (go_at_call 5; refine (cb (c_b10Long _ _ _ _) hd).mono ?_; rintro e w' ⟨rfl, rfl⟩)
    go_ret
    exact ⟨rfl, IsX.refl _⟩
  have hd : decide ((bs.length : Int) > 1048576) = false := decide_eq_false (by omega)
  by_cases hlM : 1048576 < bsM.length
  · generalize bs.length = n at hl hd hn ⊢
    generalize bsM.length = nM at hnM hlM ⊢
    unfold maxLen at hn hnM
    have hdM : decide ((nM : Int) > 1048576) = true := decide_eq_true (by omega)
    have HL1 := hide (fun (V : World) => cb (c_b10Long A n c V) hd)
    have HL2 := hide (fun (V : World) => cb (c_b10Long AM nM cM V) hdM)
    clear hd hdM
    go_enter Try.func4, Try.ntmps4
    go_wp2_with fail
    refine (HL1.out w).mono ?_
    rintro e w' ⟨rfl, rfl⟩
    go_wp2_with fail
    refine (HL2.out w).mono ?_
    rintro e w' ⟨rfl, rfl⟩
    go_wp2_with fail
    go_ret
    exact ⟨rfl, IsX.refl _⟩
  have hdM : decide ((bsM.length : Int) > 1048576) = false := decide_eq_false (by omega)
  have HD0 : Hid (Calls Try.prog 12 #[.slice A bs.length c] w (DrawWQ w)) := hide (c_DrawFewestUniverses A c bs w (by omega) hb hA)
  have HD1 : Hid (∀ V : World, IsX w V → Calls Try.prog 15 #[.slice AM bsM.length cM] V (DrawLQ V)) := hide (fun V hV => c_DrawFadeLevels AM cM bsM V (by omega) hbM (hAM.x hV))
  generalize bs.length = bl at hl hd HD0 ⊢
  generalize bsM.length = blM at hlM hdM HD1 ⊢
  have HL1 := hide (fun (V : World) => cb (c_b10Long A bl c V) hd)
  have HL2 := hide (fun (V : World) => cb (c_b10Long AM blM cM V) hdM)
  clear hn hb hA hnM hbM hAM hd hdM hl hlM
  go_enter Try.func4, Try.ntmps4
  go_wp2_with fail
  refine (HL1.out w).mono ?_
  rintro e w' ⟨rfl, rfl⟩
  go_wp2_with fail
  refine (HL2.out w).mono ?_
  rintro e w' ⟨rfl, rfl⟩
  clear HL1 HL2
  go_wp2_with fail
  refine HD0.out.mono ?_
  rintro e w1 ⟨A1, c1, xs, bud, rfl, hxl, hbd, hbu, ho, hx⟩
  have hrd : Rd intC 1 w1 A1 xs := Own.rd (cells := intC) (k := 1) (by omega) intC_len ho rfl
  have HX1 := hide hx
  have HRD := hide hrd
  have HFU := hide (i_FewestUniverses A1 c1 xs bud w1 (by omega) (fun x hx => by have := hbd x hx; unfold intWf; omega) hrd hbu)
  have HPA := hide (fun (V : World) (hV : IsX w1 V) => c_PatchAll A1 c1 xs V (by omega) (hrd.x hV))
  have HSAY := hide (uniAns_says xs bud)
  clear ho hx hrd HD0 hbd hbu
  obtain ⟨n, hnn⟩ : ∃ n, n = xs.length := ⟨_, rfl⟩
  have HN := hide hnn
  rw [← hnn] at hxl HFU HPA ⊢
  clear hnn
  generalize hans : uniAns xs bud = ans at HFU HSAY
  obtain ⟨best, nv, code⟩ := ans
  simp only at HFU HSAY
  clear hans
  go_wp2_with fail
  refine HFU.out.mono ?_
  rintro e w2 ⟨A2, c2, rfl, ho2, hx2⟩
  have HX12 := hide hx2
  have HX2 := hide (HX1.out.trans hx2)
  have HRD2 := hide (HRD.out.x hx2)
  have HZ2 := hide (show Rd intC 1 w2 A2 best from Own.rd (cells := intC) (k := 1) (by omega) intC_len ho2 rfl)
  obtain ⟨nb, hnb⟩ : ∃ nb, nb = best.length := ⟨_, rfl⟩
  have HNB := hide hnb
  rw [← hnb]
  clear ho2 hx2 HFU HRD HX1 hnb
  go_wp2_with fail
  refine (HPA.out _ HX12.out).mono ?_
  rintro e w3 ⟨A3, c3, zs, gs, code2, rfl, hpp, hz16, hpr, hx3⟩
  have HPP := hide hpp
  have HPR := hide hpr
  have HX3 := hide (HX2.out.trans hx3)
  have HRD3 := hide (HRD2.out.x hx3)
  have HZ3 := hide (HZ2.out.x hx3)
  have hb3 : w2.heap.size ≤ w3.heap.size := hx3.size
  obtain ⟨m, hm⟩ : ∃ m, m = zs.length := ⟨_, rfl⟩
  have HM := hide hm
  rw [← hm] at hz16 HPR ⊢
  clear hpp hpr hx3 HPA hm HRD2 HZ2
  go_upto_if 47 with fail
  go_cut [12] (fun s12 wc => IsX w wc)
  case first =>
    rcases HSAY.out with hc | ⟨hc, hv, nn, hnn, hnl, hbl, hok, hM⟩
    · have q1 : (code == 0) = false := by simp only [beq_eq_false_iff_ne, ne_eq]; exact hc
      go_wp2_with fail
      go_meet
      exact HX3.out
    · subst hc
      subst hnn
      have HV := hide (widths_of hv)
      have HOK := hide hok
      have HMM := hide hM
      have hn16 : n ≤ 16 := by rw [HN.out]; exact HV.out.1
      have hnb : n = nb := by rw [HNB.out, hbl]; exact HN.out
      subst hnb
      rw [← HN.out] at hnl
      clear hv hok hM hbl HSAY
      have hmk : ∀ V : World, (Instr.makeSlice 27 (.int .i64 20) (.int .i64 20)).run Try.prog V = .ok (.slice (some ⟨V.heap.size, 0, none⟩) 20 20) (V.alloc (.cells (intArr (List.replicate 20 0)) 2)) := make_ints 20 (by omega)
      have g0 : decide ((nn : Int) < 0) = false := decide_eq_false (by omega)
      have g1 : decide ((n : Int) < (nn : Int)) = false := decide_eq_false (by omega)
      have g1' : decide (n < nn) = false := decide_eq_false (by omega)
      go_wp2_with fail
      obtain ⟨UB, hUB⟩ : ∃ UB, UB = w3.heap.size := ⟨_, rfl⟩
      generalize hw4 : World.alloc w3 _ = w4
      have hB4 : Blk w4 UB 2 (intArr (List.replicate 20 0)) := by rw [← hw4, hUB]; exact Blk.new w3 _ _
      have hx4 : IsX w3 w4 := by rw [← hw4]; exact (IsX.refl w3).alloc _
      have hwU : w3.heap.size ≤ UB := by omega
      rw [← hUB]
      have HX4 := hide hx4
      have HB4 := hide hB4
      clear hw4 hUB hx4 hB4 hmk g0 g1 g1'
      go_wp2_with fail
      go_loopw [13] (fun iv wr => ∃ (k : Nat) (f : Nat → Int) (U : List Int), k ≤ n ∧ iv = .int .i64 k ∧ Hid (okU nn (xs.drop k) (best.drop k) f) ∧ Hid (LoadP U f) ∧ Hid (Blk wr UB 2 (intArr U)) ∧ Hid (IsX w3 wr)) (fun iv _ => n - (intOf iv).toNat)
      case atStart => exact ⟨0, fun _ => 0, List.replicate 20 0, Nat.zero_le _, rfl, HOK, hide ⟨by simp, fun v hv => ⟨by rw [List.getElem?_replicate, if_pos (by omega)], Int.le_refl _, by show (0 : Int) ≤ 512; omega⟩⟩, HB4, HX4⟩
      case round =>
        clear HX4 HB4
        obtain ⟨k, f, U, hk, rfl, HO, HLP, HB, HX⟩ := hrel
        by_cases hlt : k < n
        · have hltx : k < xs.length := HN.out ▸ hlt
          have hltb : k < best.length := HNB.out ▸ hlt
          obtain ⟨u, hcu, hum, hfit, hnx⟩ := okU_drop HO.out hltx hltb
          have hu19 : u < 19 := by omega
          have hlp := HLP.out.2 u hu19
          have hwd := HV.out.2 _ (List.getElem_mem hltx)
          obtain ⟨b, off, e, hb, c0⟩ := int_rd (HRD3.out.x HX.out) (show xs[k]? = some xs[k] from List.getElem?_eq_getElem _)
          obtain ⟨b2, off2, e2, hb2, d0⟩ := int_rd (HZ3.out.x HX.out) (show best[k]? = some best[k] from List.getElem?_eq_getElem _)
          subst e
          subst e2
          rw [hcu] at d0
          have hbw : b < w3.heap.size := by
            obtain ⟨_, _, e, h, _⟩ := HRD3.out k _ (List.getElem?_eq_getElem hltx)
            injection e with e; injection e with e1 e2; omega
          have hb2w : b2 < w3.heap.size := by
            obtain ⟨_, _, e, h, _⟩ := HZ3.out k _ (List.getElem?_eq_getElem hltb)
            injection e with e; injection e with e1 e2; omega
          have HNX := hide hnx
          have HLN := hide (HLP.out.set hu19 (by omega : 0 ≤ xs[k]) hfit)
          generalize hxk : xs[k] = wd at c0 hwd hfit HNX HLN
          generalize hfu : f u = y at hlp hfit HLN
          obtain ⟨hl0, hl1, hl2⟩ := hlp
          obtain ⟨wd0, wd1⟩ := hwd
          have HCUX := hide hcu
          clear hcu hxk hfu hnx
          have hB := HB.out
          have q0 : wr.cell? ⟨UB, u + 1, none⟩ = some (.int .i64 y) := (hB.cell (u + 1)).trans (intArr_get hl0)
          have fq := hB.frozen (u + 1)
          have lq := hB.lt
          have hU20 : u + 1 < U.length := (List.getElem?_eq_some_iff.1 hl0).1
          clear hB hl0
          rw [show (((u + 1 : Nat) : Int)) = (u : Int) + 1 from rfl] at d0
          have g0 : decide ((u : Int) + 1 < 1) = false := decide_eq_false (by omega)
          have g1 : decide ((u : Int) + 1 > (nn : Int)) = false := decide_eq_false (by omega)
          have g2 : decide ((u : Int) + 1 > 19) = false := decide_eq_false (by omega)
          have hi1 : (0 : Int) ≤ (u : Int) + 1 := by omega
          have hi2 : (u : Int) + 1 < 20 := by omega
          have hi3 : ((u : Int) + 1).toNat = u + 1 := by omega
          have hwr : IntKind.i64.wrap (y + wd) = y + wd := IntWalk.i64_in _ (by omega)
          go_upto_region 15 with fail
          go_still_tail 13, (by kernel_rfl)
          clear hwr g0 g1 g2
          change wpList _ _ _ _ _ wr.drew
          go_upto_region 16 with fail
          have HB5 := hide ((blk_set (j := u + 1) HB.out (y + wd)).x (IsX.drew (IsX.refl _)))
          have HX5 := hide ((HX.out.setCell (a := ⟨UB, u + 1, none⟩) hwU (.int .i64 (y + wd))).trans (IsX.drew (IsX.refl _)))
          generalize World.drew (World.setCell wr ⟨UB, u + 1, none⟩ (.int .i64 (y + wd))) = w5 at HB5 HX5 ⊢
          clear q0 fq lq c0 d0
          obtain ⟨b', off', e2, hb2', d0⟩ := int_rd (HZ3.out.x HX5.out) (show best[k]? = some best[k] from List.getElem?_eq_getElem _)
          injection e2 with e2
          injection e2 with e3 e4
          subst e3 e4
          rw [HCUX.out, show (((u + 1 : Nat) : Int)) = (u : Int) + 1 from rfl] at d0
          have q0 : w5.cell? ⟨UB, u + 1, none⟩ = some (.int .i64 (y + wd)) := (HB5.out.cell (u + 1)).trans (intArr_get (by rw [List.getElem?_set, if_pos rfl, if_pos hU20]))
          have lq := HB5.out.lt
          have hle : y + wd ≤ 512 := hfit
          go_wp2_with fail
          go_roundw
          case rel => exact ⟨k + 1, by omega, by omega, _, HNX, _, HLN, HB5⟩
          case measure => simp [intOf]; omega
        · obtain rfl : k = n := by omega
          have HX5 := hide (HX3.out.trans HX.out)
          have HPR5 := hide (HPR.out.x HX.out)
          have hgl := HPR.out.len
          have HGL := hide hgl
          clear hgl HO HLP HB
          rcases HPP.out with ⟨hc2, hz0⟩ | ⟨hc2, hzs⟩
          · obtain rfl : m = 0 := by rw [HM.out, hz0]; rfl
            have q1 : (code2 == 0) = false := by simp only [beq_eq_false_iff_ne, ne_eq]; exact hc2
            clear hc2 hz0
            go_wp2_with fail
            go_loopw [14] (fun iv wr2 => iv = .int .i64 0 ∧ wr2 = wr) (fun iv _ => 0)
            case atStart => exact ⟨rfl, rfl⟩
            case round =>
              obtain ⟨rfl, hwe⟩ := hrel
              subst hwe
              go_wp2_with fail
              go_loopw [15, 16] (fun mv iv wr3 => iv = .int .i64 0 ∧ mv = .int .i64 0 ∧ wr3 = wr) (fun _ iv _ => 0)
              case atStart => exact ⟨rfl, rfl, rfl⟩
              case round =>
                obtain ⟨rfl, rfl, hwe⟩ := hrel
                subst hwe
                go_wp2_with fail
                go_meet
                exact HX5.out
          · subst hc2
            have HZS := hide hzs
            clear hzs HPP
            have hm1000 : m ≤ 1000 := by omega
            go_wp2_with fail
            go_loopw [14] (fun iv wr2 => ∃ j : Nat, j ≤ m ∧ iv = .int .i64 j ∧ IsX wr wr2) (fun iv _ => m - (intOf iv).toNat)
            case atStart => exact ⟨0, Nat.zero_le _, rfl, IsX.refl _⟩
            case round =>
              obtain ⟨j, hj, rfl, p, rfl⟩ := hrel
              by_cases hjm : j < m
              · obtain ⟨g0, e, hg0, hgc⟩ := HPR5.out.cell j (by rw [HGL.out, ← HM.out]; exact hjm)
                subst e
                unfold pairV at hgc
                go_wp2_with fail
                go_roundw
                case rel => exact ⟨j + 1, by omega, by go_num, ⟨p, rfl⟩⟩
                case measure => simp [intOf]; omega
              · obtain rfl : m = j := by omega
                have HPR6 := hide (HPR5.out.x (w' := xt wr p) ⟨p, rfl⟩)
                have HX6 := hide (HX5.out.trans (w'' := xt wr p) ⟨p, rfl⟩)
                generalize xt wr p = w6 at HPR6 HX6 ⊢
                go_wp2_with fail
                go_loopw [15, 16] (fun mv iv wr3 => ∃ (j : Nat) (mo : Int), j ≤ m ∧ iv = .int .i64 j ∧ mv = .int .i64 mo ∧ 0 ≤ mo ∧ mo ≤ 1000 ∧ Hid (∀ i (h : i < zs.length), i < j → zs[i].1 ≤ mo) ∧ IsX w6 wr3) (fun _ iv _ => m - (intOf iv).toNat)
                case atStart => exact ⟨0, 0, Nat.zero_le _, rfl, rfl, by omega, by omega, hide (fun i _ hi => absurd hi (by omega)), IsX.refl _⟩
                case round =>
                  obtain ⟨j, mo, hj, rfl, rfl, hm0, hm1, HLE, p, rfl⟩ := hrel
                  by_cases hjm : j < m
                  · have hjz : j < zs.length := HM.out ▸ hjm
                    have hjg : j < gs.length := by rw [HGL.out]; exact hjz
                    obtain ⟨g0, e, hg0, hgc⟩ := HPR6.out.cell j hjg
                    subst e
                    have hblk := HPR6.out.blk j hjz hjg
                    have hcz := hblk.cell 0
                    have hlz := hblk.lt
                    simp [pairC] at hcz
                    have hmem : ((zs[j].1 : Int)) ∈ patchZ (ffPath xs []) := by rw [← HZS.out]; exact List.mem_map.2 ⟨zs[j], List.getElem_mem hjz, rfl⟩
                    have hzb : 0 ≤ zs[j].1 ∧ zs[j].1 ≤ 1000 := by
                      obtain ⟨u, hu, e⟩ := List.mem_map.1 hmem
                      have := ffPath_lt xs [] u hu
                      have := HV.out.1
                      simp only [List.length_nil] at *
                      omega
                    generalize hzz : zs[j].1 = z at hcz hzb
                    have HZZ := hide hzz
                    obtain ⟨z0, z1⟩ := hzb
                    clear hzz hblk hmem
                    unfold pairV at hgc
                    go_wp2_with fail
                    go_roundw
                    case rel => exact ⟨j + 1, if mo < z then z else mo, by omega, by go_num, rfl, by split <;> omega, by split <;> omega, hide (fun i h hi => by
                      by_cases e : i = j
                      · subst e; rw [HZZ.out]; split <;> omega
                      · have := HLE.out i h (by omega); split <;> omega), ⟨p, rfl⟩⟩
                    case measure => simp [intOf]; omega
                  · obtain rfl : m = j := by omega
                    have hnm : (nn : Int) ≤ mo := by
                      have h := HMM.out mo.toNat (fun u hu => by
                        have h1 : ((u + 1 : Nat) : Int) ∈ zs.map Prod.fst := by rw [HZS.out]; exact List.mem_map.2 ⟨u, hu, rfl⟩
                        obtain ⟨q, hq, e⟩ := List.mem_map.1 h1
                        obtain ⟨i, hi, rfl⟩ := List.getElem_of_mem hq
                        have h2 := HLE.out i hi (by rw [HM.out]; exact hi)
                        omega)
                      omega
                    have g0 : decide ((nn : Int) > mo) = false := decide_eq_false (by omega)
                    go_wp2_with fail
                    go_meet
                    exact HX6.out.trans ⟨p, rfl⟩
  case rest =>
    have HX5 : Hid (IsX w wc) := hide hcut
    clear hcut HX2 HX12 HRD3 HZ3 HPR HPP HX3 HSAY HN HNB HM hb3
    have HD2 := hide (HD1.out wc HX5.out)
    clear HD1
    go_wp2_with fail
    refine HD2.out.mono ?_
    rintro e w5 ⟨A5, c5, us, A6, c6, vs, sh, rfl, hul, hvl, ho, ho2, hx⟩
    have hr1 : Rd intC 1 w5 A5 us := Own.rd (cells := intC) (k := 1) (by omega) intC_len ho rfl
    have hr2 : Rd intC 1 w5 A6 vs := Own.rd (cells := intC) (k := 1) (by omega) intC_len ho2 rfl
    have HX6 := hide (HX5.out.trans hx)
    have HR1 := hide hr1
    have HR2 := hide hr2
    have HFD := hide (c_FadeLevels A5 c5 us A6 c6 vs sh w5 (by omega) (by omega) hr1 hr2)
    clear ho ho2 hx hr1 hr2 HD2 HX5
    obtain ⟨nu, hnu⟩ : ∃ nu, nu = us.length := ⟨_, rfl⟩
    obtain ⟨nv2, hnv⟩ : ∃ nv2, nv2 = vs.length := ⟨_, rfl⟩
    have HNU := hide hnu
    have HNV := hide hnv
    rw [← hnu] at hul HFD ⊢
    rw [← hnv] at hvl HFD ⊢
    clear hnu hnv
    go_wp2_with fail
    refine HFD.out.mono ?_
    rintro e w6 ⟨A7, c7, zs7, code7, rfl, hfp, ho7, hx7⟩
    have HX7 := hide (HX6.out.trans hx7)
    have HR17 := hide (HR1.out.x hx7)
    have HR27 := hide (HR2.out.x hx7)
    have HZ7 := hide (show Rd intC 1 w6 A7 zs7 from Own.rd (cells := intC) (k := 1) (by omega) intC_len ho7 rfl)
    clear ho7 hx7 HFD HX6 HR1 HR2
    rcases hfp with ⟨h1, h2⟩ | ⟨h1, h512, hlv, hlz, hall⟩
    · subst h2
      have q1 : (code7 == 0) = false := by simp only [beq_eq_false_iff_ne, ne_eq]; exact h1
      clear h1
      go_wp2_with fail
      go_ret
      exact ⟨rfl, HX7.out⟩
    · subst h1
      have HALL := hide hall
      have HZL := hide hlz
      have HVL := hide hlv
      have hz : zs7.length = nu := by rw [hlz]; exact HNU.out.symm
      have HZN := hide hz
      rw [hz]
      have hv2 : nv2 = nu := by rw [HNV.out, HNU.out, hlv]
      subst hv2
      rw [← HNU.out] at h512
      clear hall hlz hlv hz
      go_wp2_with fail
      go_loopw [22] (fun iv wr => ∃ k : Nat, k ≤ nv2 ∧ iv = .int .i64 k ∧ IsX w6 wr) (fun iv _ => nv2 - (intOf iv).toNat)
      case atStart => exact ⟨0, Nat.zero_le _, rfl, IsX.refl _⟩
      case round =>
        obtain ⟨k, hk, rfl, p, rfl⟩ := hrel
        by_cases hlt : k < nv2
        · have h1 : k < us.length := HNU.out ▸ hlt
          have h2 : k < vs.length := HNV.out ▸ hlt
          have h3 : k < zs7.length := by rw [HZN.out]; exact hlt
          obtain ⟨b1, o1, e1, hb1, c1'⟩ := int_rd HR17.out (show us[k]? = some us[k] from List.getElem?_eq_getElem _)
          obtain ⟨b2, o2, e2, hb2, c2'⟩ := int_rd HR27.out (show vs[k]? = some vs[k] from List.getElem?_eq_getElem _)
          obtain ⟨b3, o3, e3, hb3, c3'⟩ := int_rd HZ7.out (show zs7[k]? = some zs7[k] from List.getElem?_eq_getElem _)
          subst e1
          subst e2
          subst e3
          obtain ⟨l1, l2⟩ := HALL.out k h1 h2 h3
          generalize us[k] = x at c1' l1 l2
          generalize vs[k] = y at c2' l1 l2
          generalize zs7[k] = z at c3' l1 l2
          have g0 : decide (z < if y < x then y else x) = false := decide_eq_false (by split <;> omega)
          have g1 : decide ((if x < y then y else x) < z) = false := decide_eq_false (by split <;> omega)
          have g2 : decide (z > if x < y then y else x) = false := decide_eq_false (by split <;> omega)
          go_wp2_with fail
          refine wp_region_x (by kernel_rfl) (by kernel_rfl) ?_
          repeat (go_big_quiet_step (fail))
          refine wpQuiet_nil ?_
          rintro _ ⟨q, rfl⟩
          go_wp2_with fail
          go_roundw
          case rel => exact ⟨k + 1, by omega, by go_num, IsX.xt ⟨p, rfl⟩ q⟩
          case measure => simp [intOf]; omega
        · obtain rfl : k = nv2 := by omega
          go_wp2_with fail
          go_ret
          exact ⟨rfl, HX7.out.trans ⟨p, rfl⟩⟩
end Go.Proofs.Ythcgapfhlggegaa
