/- The program's search for the fewest days: the recursion. Conditions: those of the theorem alone. -/
import Derived.Test.YtfkhhioadklomaaFewLaw
import Derived.Test.YtfkhhioadklomaaSearch
import Derived.Deep.RegionLaw
import Derived.Laws.Bits64b
namespace Go.Proofs.Ytfkhhioadklomaa
set_option linter.unusedVariables false
open Go.RowKit

def u64C (n : Nat) : List Value := [.int .u64 (n : Int)]
theorem u64C_len (n : Nat) : (u64C n).length = 1 := rfl
def goC (vd vf : Value) (al : Nat) (m : Int) (vl : Value) (left : Int) : Array Value := #[vd, vf, .int .u64 (al : Int), .int .i64 m, vl, .int .i64 left]
def GoAt (X B : Nat) (vd vf : Value) (al : Nat) (m : Int) (ch : List Int) (left : Int) (w : World) : Prop := ∃ Ac cc, Blk w X 73 (goC vd vf al m (.slice Ac ch.length cc) left) ∧ w.ownsRow B 2 1 (.slice Ac ch.length cc) ch.length (ch.flatMap intC)
theorem GoAt.x {X B al : Nat} {vd vf : Value} {m : Int} {ch : List Int} {left : Int} {w w' : World} (h : GoAt X B vd vf al m ch left w) (hx : IsX w w') : GoAt X B vd vf al m ch left w' := by
  obtain ⟨Ac, cc, h1, h2⟩ := h
  exact ⟨Ac, cc, h1.x hx, own_x' h2 hx⟩
theorem GoAt.node {X B al : Nat} {vd vf : Value} {m : Int} {ch : List Int} {left : Int} {w : World} (h : GoAt X B vd vf al m ch left w) (hXB : X < B) (u : Int) : GoAt X B vd vf al m ch u (w.setCell ⟨X, 5, none⟩ (.int .i64 u)) := by
  obtain ⟨Ac, cc, h1, h2⟩ := h
  exact ⟨Ac, cc, h1.set_ 5 _, own_set_other h2 5 _ hXB⟩
/-- what a call of goOn leaves -/
def GoRes (X B : Nat) (vd vf : Value) (al : Nat) (m : Int) (ch : List Int) (left : Nat) (fo en : Bool) (R : Fnd) (w' : World) : Prop := match R with
  | .none l => fo = false ∧ en = true ∧ l ≤ left ∧ GoAt X B vd vf al m ch (l : Int) w'
  | .found c l => fo = true ∧ en = true ∧ l ≤ left ∧ GoAt X B vd vf al m c (l : Int) w'
  | .full => fo = false ∧ en = false
def GoQ (X B : Nat) (vd vf : Value) (al : Nat) (m : Int) (ch : List Int) (left : Nat) (R : Fnd) (w0 : World) (e : Ending) (w' : World) : Prop := ∃ fo en, e = .returned (.tuple #[.bool fo, .bool en]) ∧ IsX w0 w' ∧ B ≤ w'.heap.size ∧ GoRes X B vd vf al m ch left fo en R w'
set_option maxRecDepth 100000 in
set_option maxHeartbeats 12800000 in
theorem c_dayGo (ps : List PersonD) (ns : List ByteArray) (Ad : Option Addr) (cd : Nat) (Af : Option Addr) (cf : Nat) (F : List Int) (hF : F.length ≤ 384) (m : Nat) (hm : m ≤ 12) (X B : Nat) (w0 : World) (hX0 : w0.heap.size ≤ X) (hXB : X < B) (hns : ns.length ≤ 12) (hAd : Rd intC 1 w0 Ad F) (hAf : Rd u64C 1 w0 Af (F.map (dayN ps ns))) :
    ∀ (r i : Nat) (iv : Int) (mv : Int) (ch : List Int) (left : Nat) (w : World), iv = (i : Int) → mv = (metN ps ns ch : Int) → i + r = F.length → ch.length ≤ m → left ≤ 20000 → IsX w0 w → B ≤ w.heap.size → GoAt X B (.slice Ad F.length cd) (.slice Af F.length cf) (2 ^ ns.length - 1) m ch (left : Int) w →
    Calls Try.prog 44 #[.pointer (some ⟨X, 0, none⟩), .int .i64 iv, .int .u64 mv] w (GoQ X B (.slice Ad F.length cd) (.slice Af F.length cf) (2 ^ ns.length - 1) m ch left (visR F (covN ps ns) m r ch left) w0) := by
  have HI := hide (info_parts Int64_info)
  have HAD := hide hAd
  have HAF := hide hAf
  have HMET := hide (fun ch : List Int => met_all ps ns ch)
  have HMLT := hide (fun ch : List Int => met_lt ps ns ch hns)
  have HDLT := hide (fun d : Int => day_lt ps ns d hns)
  obtain ⟨al, hal⟩ : ∃ a, a = 2 ^ ns.length - 1 := ⟨_, rfl⟩
  obtain ⟨nF, hnF⟩ : ∃ n, n = F.length := ⟨_, rfl⟩
  have HNF := hide hnF
  rw [← hal] at HMET
  rw [← hal, ← hnF]
  rw [← hnF] at hF
  clear hal hnF hAd hAf hns
  intro r
  induction r using Nat.strongRecOn with
  | ind r ih =>
    intro i iv mv ch left w hiv hmv hi hchm hleft hx hBw hat
    subst hiv
    obtain ⟨M, hM⟩ : ∃ M, M = metN ps ns ch := ⟨_, rfl⟩
    rw [← hM] at hmv
    subst hmv
    have HM := hide hM
    have hMlt : M < 4096 := by rw [hM]; exact HMLT.out ch
    have HCOV := hide (show M = al ↔ covN ps ns ch = true by rw [hM]; exact HMET.out ch)
    have IH := hide ih
    clear ih hM
    have HX0 := hide hx
    have HAT := hide hat
    obtain ⟨Ac, cc, hX, hC⟩ := hat
    have d5 := hX.cell 5
    have hlb := hX.lt
    have f5 := hX.frozen 5
    simp [goC] at d5
    clear hC hx
    by_cases hz : left = 0
    · subst hz
      rw [show (((0 : Nat) : Int)) = 0 from rfl] at d5
      have HRES := hide (visR_full (F := F) (cov := covN ps ns) (most := m) (r := r) (ch := ch))
      clear hX
      go_enter Try.func44, Try.ntmps44
      go_wp2_with fail
      go_ret2
      refine ⟨false, false, rfl, HX0.out, hBw, ?_⟩
      rw [HRES.out]
      exact ⟨rfl, rfl⟩
    · have hzb : ((left : Int) == 0) = false := by simp; omega
      have hz0 : 0 < (left : Int) := by omega
      have HW1 := hide (HAT.out.node hXB ((left : Int) - 1))
      have HX6 := hide (HX0.out.setCell (a := ⟨X, 5, none⟩) hX0 (.int .i64 ((left : Int) - 1)))
      have HB6 : Hid (B ≤ (w.setCell ⟨X, 5, none⟩ (.int .i64 ((left : Int) - 1))).heap.size) := hide (by simpa [World.setCell] using hBw)
      obtain ⟨l1, hl1⟩ : ∃ l, l = left - 1 := ⟨_, rfl⟩
      have hll : (left : Int) - 1 = (l1 : Int) := by omega
      have HL1 := hide hl1
      have HZ := hide hz
      have HLL := hide hll
      have d2 := hX.cell 2
      simp [goC] at d2
      clear hX hl1 hll hz
      cases hc : covN ps ns ch
      rotate_left
      · have HRES := hide (visR_cov (F := F) (most := m) (r := r) HZ.out hc)
        have hMal : M = al := HCOV.out.2 hc
        have qa : ((M : Int) == (al : Int)) = true := by simp only [beq_iff_eq]; omega
        clear hc hMal
        go_enter Try.func44, Try.ntmps44
        go_wp2_with fail
        go_ret2
        refine ⟨true, true, rfl, HX6.out, HB6.out, ?_⟩
        rw [HRES.out, ← HL1.out]
        have h := HW1.out
        rw [HLL.out] at h ⊢
        exact ⟨rfl, rfl, by have := HL1.out; omega, h⟩
      · have HC := hide hc
        have hMal : ¬ M = al := fun h => by have := HCOV.out.1 h; rw [hc] at this; cases this
        have qa : ((M : Int) == (al : Int)) = false := by simp only [beq_eq_false_iff_ne, ne_eq]; omega
        clear hc hMal
        by_cases hmm : ch.length = m
        · have HRES := hide (visR_most (F := F) (r := r) HZ.out HC.out hmm)
          have qm : (((ch.length : Nat) : Int) == (m : Int)) = true := by simp only [beq_iff_eq]; omega
          clear hmm
          go_enter Try.func44, Try.ntmps44
          go_wp2_with fail
          rw [HLL.out] at HW1 HX6 HB6 ⊢
          generalize World.setCell w ⟨X, 5, none⟩ (.int .i64 (l1 : Int)) = w1 at HW1 HX6 HB6 ⊢
          clear d5 d2 f5 hlb
          obtain ⟨Ac1, cc1, hX1, hC1⟩ := id HW1.out
          have e3 := hX1.cell 3
          have e4 := hX1.cell 4
          have hlb1 := hX1.lt
          simp [goC] at e3 e4
          clear hX1 hC1
          refine wp_region_x (by kernel_rfl) (by kernel_rfl) ?_
          repeat (go_big_quiet_step (fail))
          refine wpQuiet_nil ?_
          rintro _ ⟨q2, rfl⟩
          go_wp2_with fail
          go_ret2
          refine ⟨false, true, rfl, HX6.out.trans ⟨q2, rfl⟩, Nat.le_trans HB6.out (size_xt w1 q2), ?_⟩
          rw [HRES.out, ← HL1.out]
          exact ⟨rfl, rfl, by have := HL1.out; omega, HW1.out.x ⟨q2, rfl⟩⟩
        · have HRES := hide (visR_loop (F := F) (r := r) HZ.out HC.out hmm)
          have qm : (((ch.length : Nat) : Int) == (m : Int)) = false := by simp only [beq_eq_false_iff_ne, ne_eq]; omega
          have hclt : ch.length < m := by omega
          clear hmm
          go_enter Try.func44, Try.ntmps44
          go_wp2_with fail
          rw [HLL.out] at HW1 HX6 HB6 ⊢
          generalize World.setCell w ⟨X, 5, none⟩ (.int .i64 (l1 : Int)) = w1 at HW1 HX6 HB6 ⊢
          clear d5 d2 f5 hlb qa
          obtain ⟨Ac1, cc1, hX1, hC1⟩ := id HW1.out
          have e3 := hX1.cell 3
          have e4 := hX1.cell 4
          have hlb1 := hX1.lt
          simp [goC] at e3 e4
          clear hX1 hC1
          refine wp_region_x (by kernel_rfl) (by kernel_rfl) ?_
          repeat (go_big_quiet_step (fail))
          refine wpQuiet_nil ?_
          rintro _ ⟨q2, rfl⟩
          have HX8 := hide (HX6.out.trans (⟨q2, rfl⟩ : IsX w1 (xt w1 q2)))
          have HB8 := hide (Nat.le_trans HB6.out (size_xt w1 q2))
          have HW8 := hide (HW1.out.x (w' := xt w1 q2) ⟨q2, rfl⟩)
          rw [← HL1.out] at HRES
          generalize xt w1 q2 = w8 at HX8 HB8 HW8 ⊢
          clear e3 e4 hlb1 HW1 HX6 HB6 qm
          go_wp2_with fail
          go_loopw [1] (fun jv wr => ∃ (j l : Nat), jv = .int .i64 (j : Int) ∧ i ≤ j ∧ j ≤ nF ∧ l ≤ l1 ∧ Hid (visR F (covN ps ns) m r ch left = loopF F (covN ps ns) m (nF - j) ch l) ∧ Hid (GoAt X B (.slice Ad nF cd) (.slice Af nF cf) al m ch (l : Int) wr) ∧ Hid (IsX w0 wr) ∧ Hid (B ≤ wr.heap.size)) (fun jv _ => nF - (intOf jv).toNat)
          case atStart => exact ⟨i, l1, rfl, Nat.le_refl _, by omega, Nat.le_refl _, hide (by rw [HRES.out]; congr 1; omega), HW8, HX8, HB8⟩
          case round =>
            clear HW8 HX8 HB8 HRES
            obtain ⟨j, l, rfl, hij, hjn, hl, HR, HW, HX, HB⟩ := hrel
            have hll1 : l1 + 1 ≤ 20000 := by have := HL1.out; omega
            obtain ⟨Ac2, cc2, hX2, hC2⟩ := id HW.out
            have g0 := hX2.cell 0
            have g4 := hX2.cell 4
            have f4 := hX2.frozen 4
            have hlb2 := hX2.lt
            simp [goC] at g0 g4
            have HX2 := hide hX2
            have HC2 := hide hC2
            clear hX2 hC2
            by_cases hlt : j < nF
            · have hjF : j < F.length := HNF.out ▸ hlt
              obtain ⟨bd, od, ed, hbd, kd⟩ := int_rd (HAD.out.x HX.out) (show F[j]? = some F[j] from List.getElem?_eq_getElem _)
              subst ed
              obtain ⟨bf, of, ef, hbf, hcf⟩ := HAF.out j (dayN ps ns F[j]) (by rw [List.getElem?_map, List.getElem?_eq_getElem hjF]; rfl)
              subst ef
              have HKF := hide (show ∀ V, IsX w0 V → V.cell? ⟨bf, of + j, none⟩ = some (.int .u64 (dayN ps ns F[j] : Int)) from fun V hV => by
                have h := keep hV hbf (hcf 0 _ rfl)
                rw [Nat.mul_one, Nat.add_zero] at h
                exact h)
              have HLP := hide (loopF_eq (F := F) (cov := covN ps ns) (most := m) (ch := ch) (left := l) (r := nF - (j + 1)) (i := j) (by have := HNF.out; omega) hjF)
              have HSN := hide (met_snoc ps ns ch F[j])
              have hDlt := HDLT.out F[j]
              generalize hD : dayN ps ns F[j] = D at HKF HSN hDlt
              generalize F[j] = fd at kd HLP HSN
              have HM2 := hide (show M ||| D = metN ps ns (ch ++ [fd]) by rw [HM.out]; exact HSN.out)
              clear hcf hD HSN
              obtain ⟨qc, hqc⟩ : ∃ q, q = ch.length := ⟨_, rfl⟩
              have HQC := hide hqc
              rw [← hqc] at g4 HX2 HC2 hclt hchm
              clear hqc
              go_wp2_with fail
              have n0 := World.new_ne wr ⟨X, 0, none⟩ g0
              have n4 := World.new_ne wr ⟨X, 4, none⟩ g4
              have nd := World.new_ne wr ⟨bd, od + j, none⟩ kd
              have HNE := hide (fun (z : Nat) (hz : (Value.slice Ac2 qc cc2).ownBlock = some z) => (HC2.out.lt z hz).1)
              go_region_law (obtain ⟨i0, hi0, hz0, hz1, hz2⟩ := HI.out; refine step_append_any _ rfl (.tmp 51) (.tmp 59) _ rfl B 2 i0 _ 1 8 Try.underlying26 hi0 hz0 hz1 hz2 rfl (by omega) (.slice Ac2 qc cc2) qc (ch.flatMap intC) (by first | rfl | (simp [Act.eval, Act.put]; done)) (by first | exact own_x' HC2.out (IsX.alloc (IsX.drew (IsX.refl _)) _) | exact own_x' HC2.out (IsX.drew (IsX.alloc (IsX.refl _) _))) _ (some ⟨wr.heap.size, 0, none⟩) 1 1 [.int .i64 fd] (by first | rfl | (simp [Act.eval, Act.put]; done)) (by first | exact one_readsZ wr.drew _ _ | exact one_readsZ wr _ _) (one_oneZ fd) (by unfold maxLen; omega) (by omega) (by have := HB.out; simp; omega) ?_; clear hi0 hz0 hz1 hz2; intro v1 w9 hown1 hg1 hat1; have hX9 : Blk w9 X 73 (goC (.slice (some ⟨bd, od, none⟩) nF cd) (.slice (some ⟨bf, of, none⟩) nF cf) al m (.slice Ac2 qc cc2) (l : Int)) := (by first | exact Blk.gr ((HX2.out.alloc _).x (IsX.drew (IsX.refl _))) hg1 (fun e => by have := HNE.out X e.symm; omega) | exact Blk.gr ((HX2.out.x (IsX.drew (IsX.refl _))).alloc _) hg1 (fun e => by have := HNE.out X e.symm; omega)); have HX9 := hide hX9; have hd9 := hX9.cell 4; have hf9 := hX9.frozen 4; have hl9 := hX9.lt; simp [goC] at hd9; have HXW : Hid (IsX w0 w9) := hide (by first | exact IsX.grown (IsX.drew (IsX.alloc HX.out _)) hg1 (by intro z hz; have := HNE.out z hz; omega) | exact IsX.grown (IsX.alloc (IsX.drew HX.out) _) hg1 (by intro z hz; have := HNE.out z hz; omega)); have HBW : Hid (B ≤ w9.heap.size) := hide (Nat.le_trans (by have := HB.out; simp; omega) hg1.size); obtain ⟨A9, c9, rfl⟩ := own_form hown1; have HO9 := hide hown1; clear hown1 hg1 hat1 hX9)
              all_goals
                clear g0 g4 f4 hlb2 n0 n4 nd kd hbd
                have HXg := hide (HX9.out.set_ 4 (.slice A9 (qc + 1) c9))
                have HWa : Hid (GoAt X B (.slice (some ⟨bd, od, none⟩) nF cd) (.slice (some ⟨bf, of, none⟩) nF cf) al m (ch ++ [fd]) (l : Int) (w9.setCell ⟨X, 4, none⟩ (.slice A9 (qc + 1) c9))) := hide (by
                  have hl : (ch ++ [fd]).length = qc + 1 := by simp [HQC.out]
                  refine ⟨A9, c9, ?_, ?_⟩
                  · rw [hl]; exact HXg.out
                  · rw [hl, List.flatMap_append]; exact own_set_other HO9.out 4 _ hXB)
                have HXa := hide (HXW.out.setCell (a := ⟨X, 4, none⟩) hX0 (.slice A9 (qc + 1) c9))
                have HBa : Hid (B ≤ (w9.setCell ⟨X, 4, none⟩ (.slice A9 (qc + 1) c9)).heap.size) := hide (by simpa [World.setCell] using HBW.out)
                have hor : bits .or .u64 (M : Int) (D : Int) = ((M ||| D : Nat) : Int) := bits_or_u64_nat M D (by omega) (by omega)
                have k1 := HXg.out.cell 1
                simp [goC] at k1
                have kf := HKF.out _ HXa.out
                have hlg := HXg.out.lt
                have hbg : bf < (w9.setCell ⟨X, 4, none⟩ (.slice A9 (qc + 1) c9)).heap.size := Nat.lt_of_lt_of_le hbf HXa.out.size
                generalize World.setCell w9 ⟨X, 4, none⟩ (.slice A9 (qc + 1) c9) = wa at HWa HXa HBa k1 kf hlg hbg ⊢
                clear hd9 hf9 hl9 HX9 HO9 HXW HBW HX2 HC2 HNE HXg
                go_wp2_with fail
                refine (IH.out (nF - (j + 1)) (by omega) (j + 1) _ _ (ch ++ [fd]) l wa (by omega) (by rw [HM2.out]) (by have := HNF.out; omega) (by simp; have := HQC.out; omega) (by omega) HXa.out HBa.out (by have h := HWa.out; exact h)).mono ?_
                rintro e wb ⟨fo, en, rfl, hxb, hBb, hres⟩
                have HRR := hide (show visR F (covN ps ns) m r ch left = loopF F (covN ps ns) m (nF - (j + 1) + 1) ch l by rw [HR.out]; congr 1; omega)
                rw [HLP.out] at HRR
                have HXb := hide hxb
                have HBb := hide hBb
                generalize visR F (covN ps ns) m (nF - (j + 1)) (ch ++ [fd]) l = R1 at hres HRR
                clear hxb hBb HLP HWa HXa HBa HR hor k1 kf hlg hbg
                cases R1 with
                | found c l' =>
                  obtain ⟨rfl, rfl, hl', hat'⟩ := hres
                  have HAT' := hide hat'
                  clear hat'
                  go_wp2_with fail
                  go_ret2
                  refine ⟨true, true, rfl, HXb.out, HBb.out, ?_⟩
                  rw [HRR.out]
                  exact ⟨rfl, rfl, by have := HL1.out; omega, HAT'.out⟩
                | full =>
                  obtain ⟨rfl, rfl⟩ := hres
                  go_wp2_with fail
                  go_ret2
                  refine ⟨false, false, rfl, HXb.out, HBb.out, ?_⟩
                  rw [HRR.out]
                  exact ⟨rfl, rfl⟩
                | none l' =>
                  obtain ⟨rfl, rfl, hl', Ac5, c5, hX5, hC5⟩ := hres
                  have hlq : (ch ++ [fd]).length = qc + 1 := by simp [HQC.out]
                  rw [hlq] at hX5 hC5
                  rw [List.flatMap_append] at hC5
                  have hcap : qc + 1 ≤ c5 := own_cap hC5
                  obtain ⟨g5, rfl, hg5, hg5'⟩ := own_some hC5 (by omega)
                  have hcap' : (qc : Int) ≤ (c5 : Int) := by omega
                  have hm0 : (0 : Int) ≤ (qc : Int) := by omega
                  have HX5 := hide hX5
                  have HC5 := hide hC5
                  have p4 := hX5.cell 4
                  simp [goC] at p4
                  have f4 := hX5.frozen 4
                  have hlb5 := hX5.lt
                  clear hX5 hC5 hlq
                  have hwr : IntKind.i64.wrap (qc : Int) = (qc : Int) := IntWalk.i64_in _ (by omega)
                  go_wp2_with fail
                  go_still_tail 14, (by kernel_rfl)
                  clear hwr
                  change wpList _ _ _ _ _ wb.drew
                  go_wp2_with fail
                  have HWp : Hid (GoAt X B (.slice (some ⟨bd, od, none⟩) nF cd) (.slice (some ⟨bf, of, none⟩) nF cf) al m ch (l' : Int) (wb.drew.setCell ⟨X, 4, none⟩ (.slice (some ⟨g5, 0, none⟩) qc c5))) := hide (by
                    refine ⟨some ⟨g5, 0, none⟩, c5, ?_, ?_⟩
                    · rw [← HQC.out]; exact (HX5.out.x (IsX.drew (IsX.refl wb))).set_ 4 _
                    · rw [← HQC.out]; exact own_set_other (own_x' (own_pop HC5.out) (IsX.drew (IsX.refl wb))) 4 _ hXB)
                  have HXp := hide ((IsX.drew HXb.out).setCell (a := ⟨X, 4, none⟩) hX0 (.slice (some ⟨g5, 0, none⟩) qc c5))
                  go_roundw
                  case rel => exact ⟨j + 1, l', by go_num, by omega, by omega, by omega, HRR, HWp, HXp, hide (by simpa [World.setCell] using HBb.out)⟩
                  case measure => simp [intOf]; omega
            · obtain rfl : j = nF := by omega
              have HR2 := hide (show visR F (covN ps ns) m r ch left = .none l by rw [HR.out, Nat.sub_self]; rfl)
              go_wp2_with fail
              go_ret2
              refine ⟨false, true, rfl, HX.out, HB.out, ?_⟩
              rw [HR2.out]
              exact ⟨rfl, rfl, by have := HL1.out; omega, HW.out⟩
end Go.Proofs.Ytfkhhioadklomaa
