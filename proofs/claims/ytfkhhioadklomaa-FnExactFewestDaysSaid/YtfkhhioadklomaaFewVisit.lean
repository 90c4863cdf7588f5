/- The reference's search for the fewest days: the recursion. Conditions: people and names are valid. -/
import Derived.Test.YtfkhhioadklomaaFewLeft
namespace Go.Proofs.Ytfkhhioadklomaa
set_option linter.unusedVariables false
open Go.RowKit

/-- what a call of visit leaves -/
def VisRes (X B : Nat) (vp vn vd : Value) (m bud : Int) (ch : List Int) (left : Nat) (b : Bool) (R : Fnd) (w' : World) : Prop := match R with
  | .none l => b = false ∧ l ≤ left ∧ DayAt X B vp vn vd m bud ch (bud - (l : Int)) w'
  | .found c l => b = true ∧ l ≤ left ∧ DayAt X B vp vn vd m bud c (bud - (l : Int)) w'
  | .full => b = true ∧ ∃ vc, Blk w' X 65 (dayC vp vn vd m bud vc (bud + 1))
def VisQ (X B : Nat) (vp vn vd : Value) (m bud : Int) (ch : List Int) (left : Nat) (R : Fnd) (w0 : World) (e : Ending) (w' : World) : Prop := ∃ b, e = .returned (.bool b) ∧ IsX w0 w' ∧ B ≤ w'.heap.size ∧ VisRes X B vp vn vd m bud ch left b R w'
theorem DayAt.node {X B : Nat} {vp vn vd : Value} {m bud : Int} {ch : List Int} {nodes : Int} {w : World} (h : DayAt X B vp vn vd m bud ch nodes w) (hXB : X < B) (u : Int) : DayAt X B vp vn vd m bud ch u (w.setCell ⟨X, 5, none⟩ (.int .i64 u)) := by
  obtain ⟨Ac, cc, h1, h2⟩ := h
  exact ⟨Ac, cc, h1.set_ 5 _, own_set_other h2 5 _ hXB⟩
set_option maxRecDepth 100000 in
set_option maxHeartbeats 12800000 in
theorem c_dayVisit (A0 : Option Addr) (c0 : Nat) (ps : List PersonD) (A1 : Option Addr) (c1 : Nat) (ns : List ByteArray) (Ad : Option Addr) (cd : Nat) (F : List Int) (hF : F.length ≤ 384) (m : Nat) (hm : m ≤ 12) (bud : Int) (hb0 : 0 ≤ bud) (hb : bud ≤ 20000) (X B : Nat) (w0 : World) (hX0 : w0.heap.size ≤ X) (hXB : X < B) (hp : peopleB ps = true) (hns : ns.length ≤ 12) (hA : RdPerson 0 w0 A0 ps) (hA1 : Rd strC 1 w0 A1 ns) (hAd : Rd intC 1 w0 Ad F) :
    ∀ (r i : Nat) (iv : Int) (ch : List Int) (left : Nat) (w : World), iv = (i : Int) → i + r = F.length → ch.length ≤ m → (left : Int) ≤ bud → IsX w0 w → B ≤ w.heap.size → DayAt X B (.slice A0 ps.length c0) (.slice A1 ns.length c1) (.slice Ad F.length cd) m bud ch (bud - (left : Int)) w →
    Calls Try.prog 36 #[.pointer (some ⟨X, 0, none⟩), .int .i64 iv] w (VisQ X B (.slice A0 ps.length c0) (.slice A1 ns.length c1) (.slice Ad F.length cd) m bud ch left (visR F (covN ps ns) m r ch left) w0) := by
  have HI := hide (info_parts Int64_info)
  have HLEFT := hide (fun (V : World) (ch : List Int) (nodes : Int) (hV : IsX w0 V) (hl : ch.length ≤ 12) (hat : DayAt X B (.slice A0 ps.length c0) (.slice A1 ns.length c1) (.slice Ad F.length cd) m bud ch nodes V) => c_dayLeft X B A0 c0 ps A1 c1 ns (.slice Ad F.length cd) m bud ch nodes V hp hns hl (hA.x hV) (hA1.x hV) hat)
  have HAD := hide hAd
  obtain ⟨vp, hvp⟩ : ∃ v, v = (.slice A0 ps.length c0 : Value) := ⟨_, rfl⟩
  obtain ⟨vn, hvn⟩ : ∃ v, v = (.slice A1 ns.length c1 : Value) := ⟨_, rfl⟩
  obtain ⟨nF, hnF⟩ : ∃ n, n = F.length := ⟨_, rfl⟩
  have HNF := hide hnF
  have HVP := hide (show vp.oneCell' = true by rw [hvp]; rfl)
  have HVN := hide (show vn.oneCell' = true by rw [hvn]; rfl)
  rw [← hvp, ← hvn, ← hnF] at HLEFT
  rw [← hvp, ← hvn, ← hnF]
  rw [← hnF] at hF
  clear hvp hvn hnF hA hA1 hAd hp hns
  intro r
  induction r using Nat.strongRecOn with
  | ind r ih =>
    intro i iv ch left w hiv hi hchm hleft hx hBw hat
    subst hiv
    have IH := hide ih
    clear ih
    have HX0 := hide hx
    have HAT := hide hat
    obtain ⟨Ac, cc, hX, hC⟩ := hat
    have d5 := hX.cell 5
    have d6 := hX.cell 6
    have hlb := hX.lt
    have f5 := hX.frozen 5
    simp [dayC] at d5 d6
    clear hC hx
    by_cases hz : left = 0
    · subst hz
      rw [show bud - (((0 : Nat) : Int)) = bud by omega] at d5
      have HRES := hide (visR_full (F := F) (cov := covN ps ns) (most := m) (r := r) (ch := ch))
      have q1 : decide (bud + 1 > bud) = true := decide_eq_true (by omega)
      have hwr : IntKind.i64.wrap (bud + 1) = bud + 1 := IntWalk.i64_in _ (by omega)
      have HX5 := hide (hX.set_ 5 (.int .i64 (bud + 1)))
      clear hX
      go_enter Try.func36, Try.ntmps36
      go_wp2_with fail
      clear hwr
      have HX6 := hide (HX0.out.setCell (a := ⟨X, 5, none⟩) hX0 (.int .i64 (bud + 1)))
      have HB6 : Hid (B ≤ (w.setCell ⟨X, 5, none⟩ (.int .i64 (bud + 1))).heap.size) := hide (by simpa [World.setCell] using hBw)
      generalize World.setCell w ⟨X, 5, none⟩ (.int .i64 (bud + 1)) = w1 at HX5 HX6 HB6 ⊢
      have e5 := HX5.out.cell 5
      have e6 := HX5.out.cell 6
      have hl1 := HX5.out.lt
      simp [dayC] at e5 e6
      clear d5 d6 f5 hlb
      refine wp_region_x (by kernel_rfl) (by kernel_rfl) ?_
      repeat (go_big_quiet_step (fail))
      refine wpQuiet_nil ?_
      rintro _ ⟨q, rfl⟩
      go_wp2_with fail
      go_ret
      refine ⟨true, rfl, HX6.out.trans ⟨q, rfl⟩, Nat.le_trans HB6.out (size_xt w1 q), ?_⟩
      rw [HRES.out]
      exact ⟨rfl, _, HX5.out.x ⟨q, rfl⟩⟩
    · have hwr : IntKind.i64.wrap (bud - (left : Int) + 1) = bud - (left : Int) + 1 := IntWalk.i64_in _ (by omega)
      have HW1 : Hid (DayAt X B vp vn (.slice Ad nF cd) m bud ch (bud - (left : Int) + 1) (w.setCell ⟨X, 5, none⟩ (.int .i64 (bud - (left : Int) + 1)))) := hide (HAT.out.node hXB _)
      clear hX
      go_enter Try.func36, Try.ntmps36
      go_wp2_with fail
      clear hwr
      have HX6 := hide (HX0.out.setCell (a := ⟨X, 5, none⟩) hX0 (.int .i64 (bud - (left : Int) + 1)))
      have HB6 : Hid (B ≤ (w.setCell ⟨X, 5, none⟩ (.int .i64 (bud - (left : Int) + 1))).heap.size) := hide (by simpa [World.setCell] using hBw)
      generalize World.setCell w ⟨X, 5, none⟩ (.int .i64 (bud - (left : Int) + 1)) = w1 at HW1 HX6 HB6 ⊢
      clear d5 d6 f5 hlb HAT HX0
      obtain ⟨l1, hl1⟩ : ∃ l, l = left - 1 := ⟨_, rfl⟩
      have hll : (left : Int) = (l1 : Int) + 1 := by omega
      have HL1 := hide hl1
      have HZ := hide hz
      rw [show bud - (left : Int) + 1 = bud - (l1 : Int) by omega] at HW1
      clear hll
      have q1 : decide (bud - (l1 : Int) > bud) = false := decide_eq_false (by omega)
      have HCALL := hide (fun (V : World) (hV : IsX w1 V) => HLEFT.out V ch (bud - (l1 : Int)) (HX6.out.trans hV) (by omega) (HW1.out.x hV))
      obtain ⟨Ac1, cc1, hX1, hC1⟩ := id HW1.out
      have e3 := hX1.cell 3
      have e4 := hX1.cell 4
      have e5 := hX1.cell 5
      have e6 := hX1.cell 6
      have hlb1 := hX1.lt
      simp [dayC] at e3 e4 e5 e6
      clear hX1 hC1 hl1
      cases hc : covN ps ns ch
      rotate_left
      · have HRES := hide (visR_cov (F := F) (most := m) (r := r) HZ.out hc)
        have HC := hide hc
        rw [hc, Bool.not_true] at HCALL
        clear hc
        refine wp_region_x (by kernel_rfl) (by kernel_rfl) ?_
        repeat (go_big_quiet_step ((go_at_call 63; exact call_x (HCALL.out _ (by first | exact ⟨_, rfl⟩ | exact IsX.refl _)))))
        refine wpQuiet_nil ?_
        rintro _ ⟨q, rfl⟩
        go_wp2_with fail
        go_ret
        refine ⟨true, rfl, HX6.out.trans ⟨q, rfl⟩, Nat.le_trans HB6.out (size_xt w1 q), ?_⟩
        rw [HRES.out, ← HL1.out]
        exact ⟨rfl, by have := HL1.out; omega, HW1.out.x ⟨q, rfl⟩⟩
      · have HC := hide hc
        rw [hc, Bool.not_false] at HCALL
        clear hc
        refine wp_region_x (by kernel_rfl) (by kernel_rfl) ?_
        repeat (go_big_quiet_step ((go_at_call 63; exact call_x (HCALL.out _ (by first | exact ⟨_, rfl⟩ | exact IsX.refl _)))))
        refine wpQuiet_nil ?_
        rintro _ ⟨q, rfl⟩
        have HX7 := hide (HX6.out.trans (⟨q, rfl⟩ : IsX w1 (xt w1 q)))
        have HB7 := hide (Nat.le_trans HB6.out (size_xt w1 q))
        have HW7 := hide (HW1.out.x (w' := xt w1 q) ⟨q, rfl⟩)
        have e3' := keep (⟨q, rfl⟩ : IsX w1 (xt w1 q)) hlb1 e3
        have e4' := keep (⟨q, rfl⟩ : IsX w1 (xt w1 q)) hlb1 e4
        have hlb7 : X < (xt w1 q).heap.size := Nat.lt_of_lt_of_le hlb1 (size_xt w1 q)
        generalize xt w1 q = w7 at HX7 HB7 HW7 e3' e4' hlb7 ⊢
        clear e3 e4 e5 e6 hlb1 HW1 HX6 HB6 HCALL q1
        by_cases hmm : ch.length = m
        · have HRES := hide (visR_most (F := F) (r := r) HZ.out HC.out hmm)
          have qm : (((ch.length : Nat) : Int) == (m : Int)) = true := by simp only [beq_iff_eq]; omega
          clear hmm
          go_wp2_with fail
          refine wp_region_x (by kernel_rfl) (by kernel_rfl) ?_
          repeat (go_big_quiet_step (fail))
          refine wpQuiet_nil ?_
          rintro _ ⟨q2, rfl⟩
          go_wp2_with fail
          go_ret
          refine ⟨false, rfl, HX7.out.trans ⟨q2, rfl⟩, Nat.le_trans HB7.out (size_xt w7 q2), ?_⟩
          rw [HRES.out, ← HL1.out]
          exact ⟨rfl, by have := HL1.out; omega, HW7.out.x ⟨q2, rfl⟩⟩
        · have HRES := hide (visR_loop (F := F) (r := r) HZ.out HC.out hmm)
          have qm : (((ch.length : Nat) : Int) == (m : Int)) = false := by simp only [beq_eq_false_iff_ne, ne_eq]; omega
          have hclt : ch.length < m := by omega
          clear hmm
          go_wp2_with fail
          refine wp_region_x (by kernel_rfl) (by kernel_rfl) ?_
          repeat (go_big_quiet_step (fail))
          refine wpQuiet_nil ?_
          rintro _ ⟨q2, rfl⟩
          have HX8 := hide (HX7.out.trans (⟨q2, rfl⟩ : IsX w7 (xt w7 q2)))
          have HB8 := hide (Nat.le_trans HB7.out (size_xt w7 q2))
          have HW8 := hide (HW7.out.x (w' := xt w7 q2) ⟨q2, rfl⟩)
          rw [← HL1.out] at HRES
          generalize xt w7 q2 = w8 at HX8 HB8 HW8 ⊢
          clear e3' e4' hlb7 HW7 HX7 HB7 qm
          go_wp2_with fail
          go_loopw [5] (fun jv wr => ∃ (j l : Nat), jv = .int .i64 (j : Int) ∧ i ≤ j ∧ j ≤ nF ∧ l ≤ l1 ∧ Hid (visR F (covN ps ns) m r ch left = loopF F (covN ps ns) m (nF - j) ch l) ∧ Hid (DayAt X B vp vn (.slice Ad nF cd) m bud ch (bud - (l : Int)) wr) ∧ Hid (IsX w0 wr) ∧ Hid (B ≤ wr.heap.size)) (fun jv _ => nF - (intOf jv).toNat)
          case atStart => exact ⟨i, l1, rfl, Nat.le_refl _, by omega, Nat.le_refl _, hide (by rw [HRES.out]; congr 1; omega), HW8, HX8, HB8⟩
          case round =>
            clear HW8 HX8 HB8 HRES
            obtain ⟨j, l, rfl, hij, hjn, hl, HR, HW, HX, HB⟩ := hrel
            obtain ⟨Ac2, cc2, hX2, hC2⟩ := id HW.out
            have g2 := hX2.cell 2
            have g3 := hX2.cell 3
            have f3 := hX2.frozen 3
            have hlb2 := hX2.lt
            simp [dayC] at g2 g3
            have HX2 := hide hX2
            have HC2 := hide hC2
            clear hX2 hC2
            by_cases hlt : j < nF
            · have hjF : j < F.length := HNF.out ▸ hlt
              obtain ⟨bd, od, ed, hbd, kd⟩ := int_rd (HAD.out.x HX.out) (show F[j]? = some F[j] from List.getElem?_eq_getElem _)
              subst ed
              have hbX : bd < w0.heap.size := by
                obtain ⟨b', o', e', hb', _⟩ := int_rd HAD.out (show F[j]? = some F[j] from List.getElem?_eq_getElem _)
                injection e' with e'; injection e' with e1 e2; subst e1; exact hb'
              have HLP := hide (loopF_eq (F := F) (cov := covN ps ns) (most := m) (ch := ch) (left := l) (r := nF - (j + 1)) (i := j) (by have := HNF.out; omega) hjF)
              generalize F[j] = fd at kd HLP
              obtain ⟨qc, hqc⟩ : ∃ q, q = ch.length := ⟨_, rfl⟩
              have HQC := hide hqc
              rw [← hqc] at g3 HX2 HC2 hclt hchm
              clear hqc
              go_wp2_with fail
              have n2 := World.new_ne wr ⟨X, 2, none⟩ g2
              have n3 := World.new_ne wr ⟨X, 3, none⟩ g3
              have nd := World.new_ne wr ⟨bd, od + j, none⟩ kd
              have HNE := hide (fun (z : Nat) (hz : (Value.slice Ac2 qc cc2).ownBlock = some z) => (HC2.out.lt z hz).1)
              go_region_law (obtain ⟨i0, hi0, hz0, hz1, hz2⟩ := HI.out; refine step_append_any _ rfl (.tmp 51) (.tmp 59) _ rfl B 2 i0 _ 1 8 Try.underlying26 hi0 hz0 hz1 hz2 rfl (by omega) (.slice Ac2 qc cc2) qc (ch.flatMap intC) (by first | rfl | (simp [Act.eval, Act.put]; done)) (by first | exact own_x' HC2.out (IsX.alloc (IsX.drew (IsX.refl _)) _) | exact own_x' HC2.out (IsX.drew (IsX.alloc (IsX.refl _) _))) _ (some ⟨wr.heap.size, 0, none⟩) 1 1 [.int .i64 fd] (by first | rfl | (simp [Act.eval, Act.put]; done)) (by first | exact one_readsZ wr.drew _ _ | exact one_readsZ wr _ _) (one_oneZ fd) (by unfold maxLen; omega) (by omega) (by have := HB.out; simp; omega) ?_; clear hi0 hz0 hz1 hz2; intro v1 w9 hown1 hg1 hat1; have hX9 : Blk w9 X 65 (dayC vp vn (.slice (some ⟨bd, od, none⟩) nF cd) m bud (.slice Ac2 qc cc2) (bud - (l : Int))) := (by first | exact Blk.gr ((HX2.out.alloc _).x (IsX.drew (IsX.refl _))) hg1 (fun e => by have := HNE.out X e.symm; omega) | exact Blk.gr ((HX2.out.x (IsX.drew (IsX.refl _))).alloc _) hg1 (fun e => by have := HNE.out X e.symm; omega)); have HX9 := hide hX9; have hd9 := hX9.cell 3; have hf9 := hX9.frozen 3; have hl9 := hX9.lt; simp [dayC] at hd9; have HXW : Hid (IsX w0 w9) := hide (by first | exact IsX.grown (IsX.drew (IsX.alloc HX.out _)) hg1 (by intro z hz; have := HNE.out z hz; omega) | exact IsX.grown (IsX.alloc (IsX.drew HX.out) _) hg1 (by intro z hz; have := HNE.out z hz; omega)); have HBW : Hid (B ≤ w9.heap.size) := hide (Nat.le_trans (by have := HB.out; simp; omega) hg1.size); obtain ⟨A9, c9, rfl⟩ := own_form hown1; have HO9 := hide hown1; clear hown1 hg1 hat1 hX9)
              all_goals
                clear g2 g3 f3 hlb2 n2 n3 nd kd hbd
                have HWa : Hid (DayAt X B vp vn (.slice (some ⟨bd, od, none⟩) nF cd) m bud (ch ++ [fd]) (bud - (l : Int)) (w9.setCell ⟨X, 3, none⟩ (.slice A9 (qc + 1) c9))) := hide (by
                  have hl : (ch ++ [fd]).length = qc + 1 := by simp [HQC.out]
                  refine ⟨A9, c9, ?_, ?_⟩
                  · rw [hl]; exact HX9.out.set_ 3 (.slice A9 (qc + 1) c9)
                  · rw [hl, List.flatMap_append]; exact own_set_other HO9.out 3 _ hXB)
                have HXa := hide (HXW.out.setCell (a := ⟨X, 3, none⟩) hX0 (.slice A9 (qc + 1) c9))
                have HBa : Hid (B ≤ (w9.setCell ⟨X, 3, none⟩ (.slice A9 (qc + 1) c9)).heap.size) := hide (by simpa [World.setCell] using HBW.out)
                go_wp2_with fail
                generalize World.setCell w9 ⟨X, 3, none⟩ (.slice A9 (qc + 1) c9) = wa at HWa HXa HBa ⊢
                clear hd9 hf9 hl9 HX9 HO9 HXW HBW HX2 HC2 HNE
                refine (IH.out (nF - (j + 1)) (by omega) (j + 1) _ (ch ++ [fd]) l wa (by omega) (by have := HNF.out; omega) (by simp; have := HQC.out; omega) (by have := HL1.out; omega) HXa.out HBa.out HWa.out).mono ?_
                rintro e wb ⟨b, rfl, hxb, hBb, hres⟩
                have HRR := hide (show visR F (covN ps ns) m r ch left = loopF F (covN ps ns) m (nF - (j + 1) + 1) ch l by rw [HR.out]; congr 1; omega)
                rw [HLP.out] at HRR
                have HXb := hide hxb
                have HBb := hide hBb
                generalize visR F (covN ps ns) m (nF - (j + 1)) (ch ++ [fd]) l = R1 at hres HRR
                clear hxb hBb HLP HWa HXa HBa HR
                cases R1 with
                | found c l' =>
                  obtain ⟨rfl, hl', hat'⟩ := hres
                  have HAT' := hide hat'
                  clear hat'
                  go_wp2_with fail
                  go_ret
                  refine ⟨true, rfl, HXb.out, HBb.out, ?_⟩
                  rw [HRR.out]
                  exact ⟨rfl, by have := HL1.out; omega, HAT'.out⟩
                | full =>
                  obtain ⟨rfl, hat'⟩ := hres
                  have HAT' := hide hat'
                  clear hat'
                  go_wp2_with fail
                  go_ret
                  refine ⟨true, rfl, HXb.out, HBb.out, ?_⟩
                  rw [HRR.out]
                  exact ⟨rfl, HAT'.out⟩
                | none l' =>
                  obtain ⟨rfl, hl', Ac5, c5, hX5, hC5⟩ := hres
                  have hlq : (ch ++ [fd]).length = qc + 1 := by simp [HQC.out]
                  rw [hlq] at hX5 hC5
                  rw [List.flatMap_append] at hC5
                  have hcap : qc + 1 ≤ c5 := own_cap hC5
                  obtain ⟨g5, rfl, hg5, hg5'⟩ := own_some hC5 (by omega)
                  have hcap' : (qc : Int) ≤ (c5 : Int) := by omega
                  have hm0 : (0 : Int) ≤ (qc : Int) := by omega
                  have HX5 := hide hX5
                  have HC5 := hide hC5
                  have p3 := hX5.cell 3
                  simp [dayC] at p3
                  have f3 := hX5.frozen 3
                  have hlb5 := hX5.lt
                  clear hX5 hC5 hlq
                  have hwr : IntKind.i64.wrap (qc : Int) = (qc : Int) := IntWalk.i64_in _ (by omega)
                  go_wp2_with fail
                  go_still_tail 14, (by kernel_rfl)
                  clear hwr
                  change wpList _ _ _ _ _ wb.drew
                  go_wp2_with fail
                  have HWp : Hid (DayAt X B vp vn (.slice (some ⟨bd, od, none⟩) nF cd) m bud ch (bud - (l' : Int)) (wb.drew.setCell ⟨X, 3, none⟩ (.slice (some ⟨g5, 0, none⟩) qc c5))) := hide (by
                    refine ⟨some ⟨g5, 0, none⟩, c5, ?_, ?_⟩
                    · rw [← HQC.out]; exact (HX5.out.x (IsX.drew (IsX.refl wb))).set_ 3 _
                    · rw [← HQC.out]; exact own_set_other (own_x' (own_pop HC5.out) (IsX.drew (IsX.refl wb))) 3 _ hXB)
                  have HXp := hide ((IsX.drew HXb.out).setCell (a := ⟨X, 3, none⟩) hX0 (.slice (some ⟨g5, 0, none⟩) qc c5))
                  go_roundw
                  case rel => exact ⟨j + 1, l', by go_num, by omega, by omega, by omega, HRR, HWp, HXp, hide (by simpa [World.setCell] using HBb.out)⟩
                  case measure => simp [intOf]; omega
            · obtain rfl : j = nF := by omega
              have HR2 := hide (show visR F (covN ps ns) m r ch left = .none l by rw [HR.out, Nat.sub_self]; rfl)
              go_wp2_with fail
              go_ret
              refine ⟨false, rfl, HX.out, HB.out, ?_⟩
              rw [HR2.out]
              exact ⟨rfl, by have := HL1.out; omega, HW.out⟩
end Go.Proofs.Ytfkhhioadklomaa
