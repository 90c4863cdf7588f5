/- The first seats: FirstSeats of the reference and of the program. Conditions: lists no longer than 2^40. -/
import Derived.Test.YteeafdbfimdddaaSeatsLeftFns
namespace Go.Proofs.Yteeafdbfimdddaa
set_option linter.unusedVariables false
open Go.RowKit

def intArr (us : List Int) : Array Value := (us.flatMap intC).toArray
theorem ownsRow_far {w : World} {base e size n g j : Nat} {v : Value} {L : List Value} (h : w.ownsRow base e size v n L) (hlt : g < base) (u : Value) : (w.setCell ⟨g, j, none⟩ u).ownsRow base e size v n L :=
  own_under h (gr_set (gr_refl _ _) j u) hlt
theorem ownsRow_le' {w : World} {base base' e size n : Nat} {v : Value} {L : List Value} (h : w.ownsRow base e size v n L) (hb : base' ≤ base) : w.ownsRow base' e size v n L := by
  refine ⟨h.1, ?_⟩
  rcases h.2 with h2 | ⟨g, cap, cur, hv, hg, r⟩
  · exact .inl h2
  · exact .inr ⟨g, cap, cur, hv, Nat.le_trans hb hg, r⟩
theorem ownsRow_slice {w : World} {base e size n : Nat} {v : Value} {L : List Value} (h : w.ownsRow base e size v n L) : ∃ A c, v = .slice A n c := by
  rcases h.2 with ⟨rfl, rfl⟩ | ⟨g, cap, cur, hv, _⟩
  · exact ⟨none, 0, rfl⟩
  · exact ⟨_, _, hv⟩
theorem intArr_len (us : List Int) : (intArr us).size = us.length := by simp [intArr, flat_ints]
theorem intArr_get {us : List Int} {j : Nat} {v : Int} (h : us[j]? = some v) : (intArr us)[j]? = some (.int .i64 v) := by simp [intArr, flat_ints, h]
theorem intArr_set (us : List Int) (j : Nat) (v : Int) : (intArr us).setIfInBounds j (.int .i64 v) = intArr (us.set j v) := by simp [intArr, flat_ints, List.map_set]
theorem made_ints (n : Nat) : madeCells (Value.int .i64 0).cells (n * 1) = intArr (List.replicate n 0) := by
  have e : (Value.int .i64 0).cells = #[.int .i64 0] := rfl
  rw [e, Nat.mul_one]
  apply Array.toList_inj.1
  rw [toList_madeCells_one]
  simp [intArr, flat_ints]
theorem blk_set {w : World} {g t j : Nat} {us : List Int} (h : Blk w g t (intArr us)) (v : Int) : Blk (w.setCell ⟨g, j, none⟩ (.int .i64 v)) g t (intArr (us.set j v)) := by
  have := h.set_ j (.int .i64 v)
  rwa [intArr_set] at this
def useStep (xs : List GroupD) (ps : List Int) (i : Nat) (us : List Int) : List Int := match ps[i]?, xs[i]? with
  | some p, some x => if 0 ≤ p then us.set p.toNat (us.getD p.toNat 0 + x.Persons) else us
  | _, _ => us
def useTo (xs : List GroupD) (n : Nat) (ps : List Int) (k : Nat) : List Int := upTo (useStep xs ps) (List.replicate n 0) k
def firstAt (xs : List GroupD) (n : Nat) (ps : List Int) (k : Nat) : Int := match ps[k]? with
  | some p => if 0 ≤ p then (useTo xs n ps k).getD p.toNat 0 else -1
  | none => -1
def firstTo (xs : List GroupD) (n : Nat) (ps : List Int) (k : Nat) : List Int := (List.range k).map (firstAt xs n ps)
theorem first_succ (xs : List GroupD) (n : Nat) (ps : List Int) (k : Nat) : firstTo xs n ps (k + 1) = firstTo xs n ps k ++ [firstAt xs n ps k] := by simp [firstTo, List.range_succ]
theorem first_len (xs : List GroupD) (n : Nat) (ps : List Int) (k : Nat) : (firstTo xs n ps k).length = k := by simp [firstTo]
theorem use_len (xs : List GroupD) (n : Nat) (ps : List Int) : ∀ k, (useTo xs n ps k).length = n
  | 0 => by simp [useTo, upTo]
  | k + 1 => by
    have ih := use_len xs n ps k
    simp only [useTo] at ih ⊢
    rw [upTo_succ]
    generalize upTo (useStep xs ps) _ k = fs at ih ⊢
    unfold useStep
    split
    · split
      · simpa using ih
      · exact ih
    · exact ih
theorem use_yes {xs : List GroupD} {n : Nat} {ps : List Int} {k j : Nat} (h : k < ps.length) (h' : k < xs.length) (e : ps[k] = (j : Int)) : useTo xs n ps (k + 1) = (useTo xs n ps k).set j ((useTo xs n ps k).getD j 0 + xs[k].Persons) := by
  simp only [useTo]
  rw [upTo_succ]
  have e2 : ps[k].toNat = j := by omega
  have e3 : 0 ≤ ps[k] := by omega
  simp only [useStep, List.getElem?_eq_getElem h, List.getElem?_eq_getElem h', e2, if_pos e3]
theorem use_no {xs : List GroupD} {n : Nat} {ps : List Int} {k : Nat} (h : k < ps.length) (h' : k < xs.length) (hp : ¬ 0 ≤ ps[k]) : useTo xs n ps (k + 1) = useTo xs n ps k := by
  simp only [useTo]
  rw [upTo_succ]
  simp only [useStep, List.getElem?_eq_getElem h, List.getElem?_eq_getElem h', if_neg hp]
theorem first_yes {xs : List GroupD} {n : Nat} {ps : List Int} {k j : Nat} (h : k < ps.length) (e : ps[k] = (j : Int)) : firstAt xs n ps k = (useTo xs n ps k).getD j 0 := by
  have e2 : ps[k].toNat = j := by omega
  have e3 : 0 ≤ ps[k] := by omega
  simp only [firstAt, List.getElem?_eq_getElem h, e2, if_pos e3]
theorem first_no {xs : List GroupD} {n : Nat} {ps : List Int} {k : Nat} (h : k < ps.length) (hp : ¬ 0 ≤ ps[k]) : firstAt xs n ps k = -1 := by
  simp only [firstAt, List.getElem?_eq_getElem h, if_neg hp]
theorem use_low {xs : List GroupD} {n : Nat} {ps : List Int} (hx : ∀ x ∈ xs, 0 ≤ x.Persons ∧ x.Persons ≤ 40) (j : Nat) : ∀ k : Nat, 0 ≤ (useTo xs n ps k).getD j 0 ∧ (useTo xs n ps k).getD j 0 ≤ 40 * (k : Int)
  | 0 => by
    show 0 ≤ (List.replicate n (0 : Int)).getD j 0 ∧ (List.replicate n (0 : Int)).getD j 0 ≤ _
    have : (List.replicate n (0 : Int)).getD j 0 = 0 := by
      simp only [List.getD_eq_getElem?_getD, List.getElem?_replicate]; split <;> rfl
    rw [this]; omega
  | k + 1 => by
    have h1 := use_low (n := n) (ps := ps) hx j k
    have ee : (((k + 1 : Nat)) : Int) = k + 1 := rfl
    rw [ee]
    simp only [useTo] at h1 ⊢
    rw [upTo_succ]
    generalize upTo (useStep xs ps) _ k = fs at h1 ⊢
    unfold useStep
    split
    · rename_i p x hp hx'
      have hb := hx x (List.mem_of_getElem? hx')
      split
      · by_cases e : p.toNat = j
        · subst e
          by_cases hl : p.toNat < fs.length
          · simp only [List.getD_eq_getElem?_getD, List.getElem?_set, if_pos hl, if_true, Option.getD_some] at h1 ⊢
            omega
          · simp only [List.getD_eq_getElem?_getD, List.getElem?_set, if_neg hl, if_true, Option.getD_none]; omega
        · simp only [List.getD_eq_getElem?_getD, List.getElem?_set, if_neg e] at h1 ⊢
          omega
      · omega
    · omega
theorem left_parts {xs : List GroupD} {rs ps : List Int} (h : leftB xs rs ps = true) : ps.length = xs.length ∧ ∀ i (h : i < ps.length), fitB rs ps[i] = true := by
  simp only [leftB, Bool.and_eq_true, decide_eq_true_eq, List.all_eq_true] at h
  exact ⟨h.1.1, fun i hi => h.1.2 _ (List.getElem_mem hi)⟩
def firstZ (xs : List GroupD) (rs ps : List Int) : List Int := if groupsB xs && rowsB rs && leftB xs rs ps then firstTo xs rs.length ps ps.length else []
theorem firstZ_len (xs : List GroupD) (rs ps : List Int) (h : ps.length ≤ 1099511627776) : (firstZ xs rs ps).length ≤ 1099511627776 := by
  unfold firstZ
  split
  · rw [first_len]; exact h
  · simp
theorem make_ints (n : Nat) (hn : n ≤ 1099511627776) (W : World) :
    (Instr.makeSlice 23 (.int .i64 (n : Int)) (.int .i64 (n : Int))).run Try.prog W = .ok (.slice (some ⟨W.heap.size, 0, none⟩) n n) (W.alloc (.cells (intArr (List.replicate n 0)) 2)) := by
  obtain ⟨i0, hi0, hz0, hz1, hz2⟩ := info_parts Int64_info
  have h := run_make_rowN (P := Try.prog) 23 2 i0 _ Try.underlying23 hi0 hz0 .i64 .i64 n n (Nat.le_refl _) (by rw [hz2]; omega) (by omega) W
  rw [hz1, made_ints] at h
  exact h

set_option maxRecDepth 100000 in
set_option maxHeartbeats 3200000 in
theorem i_FirstSeats (A0 : Option Addr) (c0 : Nat) (xs0 : List GroupD) (A1 : Option Addr) (c1 : Nat) (xs1 : List Int) (A2 : Option Addr) (c2 : Nat) (xs2 : List Int) (w : World) (hn0 : xs0.length ≤ 1099511627776) (hw0 : ∀ x ∈ xs0, x.wf) (hA0 : Rd GroupD.cells 3 w A0 xs0) (hn1 : xs1.length ≤ 1099511627776) (hw1 : ∀ x ∈ xs1, intWf x) (hA1 : Rd intC 1 w A1 xs1) (hn2 : xs2.length ≤ 1099511627776) (hw2 : ∀ x ∈ xs2, intWf x) (hA2 : Rd intC 1 w A2 xs2) :
    Calls Try.prog 59 #[.slice A0 xs0.length c0, .slice A1 xs1.length c1, .slice A2 xs2.length c2] w (SlPost intC 1 2 w (firstZ xs0 xs1 xs2) (askC xs0 xs1 xs2)) := by
  cases hv : groupsB xs0
  · have HR := hide (show askC xs0 xs1 xs2 = 1 by simp [askC, hv])
    have HZ := hide (show firstZ xs0 xs1 xs2 = [] by simp [firstZ, hv])
    go_enter Try.func59, Try.ntmps59
    go_wp2_with fail
    refine (cb (c_ValidGroups A0 c0 xs0 w hn0 hw0 hA0) hv).mono ?_
    rintro e w1 ⟨rfl, hx⟩
    go_wp2_with fail
    go_ret2
    exact SlPost.none HZ.out (by rw [HR.out]; rfl) hx
  have HV := hide hv
  cases hr : rowsB xs1
  · have HR := hide (show askC xs0 xs1 xs2 = 1 by simp [askC, hr])
    have HZ := hide (show firstZ xs0 xs1 xs2 = [] by simp [firstZ, hr])
    go_enter Try.func59, Try.ntmps59
    go_wp2_with fail
    refine (cb (c_ValidGroups A0 c0 xs0 w hn0 hw0 hA0) hv).mono ?_
    rintro e w1 ⟨rfl, hx⟩
    go_wp2_with fail
    refine (cb (c_ValidRows A1 c1 xs1 w1 hn1 hw1 (hA1.x hx)) hr).mono ?_
    rintro e w2 ⟨rfl, hx2⟩
    go_wp2_with fail
    go_ret2
    exact SlPost.none HZ.out (by rw [HR.out]; rfl) (hx.trans hx2)
  have HRR := hide hr
  · skip
    go_enter Try.func59, Try.ntmps59
    go_wp2_with fail
    refine (cb (c_ValidGroups A0 c0 xs0 w hn0 hw0 hA0) hv).mono ?_
    rintro e w1 ⟨rfl, hx⟩
    go_wp2_with fail
    refine (cb (c_ValidRows A1 c1 xs1 w1 hn1 hw1 (hA1.x hx)) hr).mono ?_
    rintro e w2 ⟨rfl, hx2⟩
    go_wp2_with fail
    refine (c_seatsLeft A0 c0 xs0 A1 c1 xs1 A2 c2 xs2 w2 HV.out HRR.out hn2 (hA0.x (hx.trans hx2)) (hA1.x (hx.trans hx2)) (hA2.x (hx.trans hx2))).mono ?_
    rintro e w3 hp
    rcases hp.cases with ⟨hb, rfl, hx3⟩ | ⟨hb, A, c, rfl, hO, hx3⟩
    · have HR := hide (show askC xs0 xs1 xs2 = 2 by simp [askC, hv, hr, hb])
      have HZ := hide (show firstZ xs0 xs1 xs2 = [] by simp [firstZ, hb])
      clear hb hp
      go_wp2_with fail
      go_ret2
      exact SlPost.none HZ.out (by rw [HR.out]; rfl) ((hx.trans hx2).trans hx3)
    · have HR := hide (show askC xs0 xs1 xs2 = 0 by simp [askC, hv, hr, hb])
      have HZ := hide (show firstZ xs0 xs1 xs2 = firstTo xs0 xs1.length xs2 xs2.length by simp [firstZ, hv, hr, hb])
      have HO := hide hO
      have HB := hide hb
      clear hb hp hO hv hr
      obtain ⟨hl, hfit⟩ := left_parts HB.out
      have hgl := groups_len HV.out
      have hrl := rows_len HRR.out
      have HP := hide (show ∀ x ∈ xs0, 0 ≤ x.Persons ∧ x.Persons ≤ 40 from fun x hx => by have := groups_persons HV.out x hx; omega)
      have hX3 := (hx.trans hx2).trans hx3
      have HX3 := hide hX3
      have HF := hide hfit
      have hA0' := hA0
      have hA2' := hA2
      have hw3 := HX3.out.size
      clear hA0 hA1 hA2 hX3 hx hx2 hx3 hfit hn1 hw1 hn0 hw0 hn2 hw2 HO
      rw [← hl]
      have HL := hide hl
      obtain ⟨n, hnn⟩ : ∃ n, n = xs2.length := ⟨_, rfl⟩
      have HN := hide hnn
      obtain ⟨m, hmm⟩ : ∃ m, m = xs1.length := ⟨_, rfl⟩
      have HM := hide hmm
      rw [← hnn, ← hmm]
      have hn12 : n ≤ 12 := by omega
      have hm12 : m ≤ 12 := by omega
      have hmk := make_ints m (by omega)
      have hmk2 := make_ints n (by omega)
      clear hl hnn hmm hgl hrl
      go_wp2_with fail
      obtain ⟨gN, hgN⟩ : ∃ gN, gN = w3.heap.size := ⟨_, rfl⟩
      obtain ⟨gF, hgF⟩ : ∃ gF, gF = w3.heap.size + 1 := ⟨_, rfl⟩
      have HB1 : Hid (Blk ((w3.alloc (.cells (intArr (List.replicate m 0)) 2)).alloc (.cells (intArr (List.replicate n 0)) 2)) gN 2 (intArr (List.replicate m 0))) := hide (hgN ▸ (Blk.new w3 _ _).alloc _)
      have HB2 : Hid (Blk ((w3.alloc (.cells (intArr (List.replicate m 0)) 2)).alloc (.cells (intArr (List.replicate n 0)) 2)) gF 2 (intArr (List.replicate n 0))) := hide (by
        have := Blk.new (w3.alloc (.cells (intArr (List.replicate m 0)) 2)) 2 (intArr (List.replicate n 0))
        rw [hgF]; simpa using this)
      have hne : gN ≠ gF := by omega
      have hg3 : w.heap.size ≤ gN := by omega
      have hg4 : w.heap.size ≤ gF := by omega
      first | rw [← hgF] | skip
      first | rw [← hgN] | skip
      have HXL : Hid (IsX w ((w3.alloc (.cells (intArr (List.replicate m 0)) 2)).alloc (.cells (intArr (List.replicate n 0)) 2))) := hide ((HX3.out.alloc _).alloc _)
      generalize hWL : (w3.alloc (.cells (intArr (List.replicate m 0)) 2)).alloc (.cells (intArr (List.replicate n 0)) 2) = W0 at HB1 HB2 HXL ⊢
      clear hmk hmk2 hgN hgF hWL
      go_loopw [39] (fun iv wr => ∃ (k : Nat) (us cur : List Int), k ≤ n ∧ iv = .int .i64 k ∧ Hid (us = useTo xs0 m xs2 k) ∧ Hid (cur.length = n ∧ ∀ i, i < k → cur[i]? = some (firstAt xs0 m xs2 i)) ∧ Hid (Blk wr gN 2 (intArr us)) ∧ Hid (Blk wr gF 2 (intArr cur)) ∧ IsX w wr) (fun iv _ => n - (intOf iv).toNat)
      case atStart => exact ⟨0, List.replicate m 0, List.replicate n 0, Nat.zero_le _, rfl, hide rfl, hide ⟨by simp, fun i hi => absurd hi (by omega)⟩, HB1, HB2, HXL.out⟩
      case round =>
        clear HB1 HB2 HXL
        obtain ⟨k, us, cur, hk, rfl, HU, HC, HB1, HB2, p, rfl⟩ := hrel
        by_cases hlt : k < n
        · have hltp : k < xs2.length := HN.out ▸ hlt
          have hltx : k < xs0.length := HL.out ▸ hltp
          obtain ⟨b2, off2, e2, hb2, d0⟩ := int_rd hA2' (show xs2[k]? = some xs2[k] from List.getElem?_eq_getElem _)
          subst e2
          obtain ⟨b, off, e0, hb, g0, g1, g2⟩ := GroupD.rd hA0' (show xs0[k]? = some xs0[k] from List.getElem?_eq_getElem _)
          subst e0
          have hf := HF.out k hltp
          have hcl : (intArr cur).size = n := by rw [intArr_len, HC.out.1]
          obtain ⟨v0, cF⟩ := HB2.out.has (i := k) (by omega)
          have fF := HB2.out.frozen k
          have hbN : gN < (xt w p).heap.size := HB1.out.lt
          have hbF : gF < (xt w p).heap.size := HB2.out.lt
          have n1 : b2 ≠ gN := by omega
          have n2 : b2 ≠ gF := by omega
          have n3 : b ≠ gN := by omega
          have n4 : b ≠ gF := by omega
          clear hA0' hA2' hcl
          by_cases hp : 0 ≤ xs2[k]
          · obtain ⟨j, hj⟩ := Int.eq_ofNat_of_zero_le hp
            have hjm : j < m := by have := inB_true.1 hf; have := HM.out; omega
            have HS := hide (use_yes (n := m) hltp hltx hj)
            have HFY := hide (first_yes (xs := xs0) (n := m) hltp hj)
            have hul : us.length = m := by rw [HU.out, use_len]
            obtain ⟨v, hv⟩ : ∃ v, us[j]? = some v := ⟨_, List.getElem?_eq_getElem (by omega)⟩
            have hvd : (useTo xs0 m xs2 k).getD j 0 = v := by rw [← HU.out, List.getD_eq_getElem?_getD, hv]; rfl
            obtain ⟨l0, l1⟩ := use_low (n := m) (ps := xs2) HP.out j k
            rw [hvd] at l0 l1
            obtain ⟨y0, y1⟩ := HP.out _ (List.getElem_mem hltx)
            have cN : (xt w p).cell? ⟨gN, j, none⟩ = some (.int .i64 v) := (HB1.out.cell j).trans (intArr_get hv)
            have fN := HB1.out.frozen j
            have HJ := hide hj
            have HVD := hide hvd
            have HUL := hide hul
            rw [hj] at d0
            clear hj hvd hul hv hp hf
            go_wp2_with fail
            obtain ⟨p', hp'⟩ : IsX w (((xt w p).setCell ⟨gF, k, none⟩ (.int .i64 (-1))).setCell ⟨gF, k, none⟩ (.int .i64 v)) := IsX.setCell (a := ⟨gF, k, none⟩) (IsX.setCell (a := ⟨gF, k, none⟩) ⟨p, rfl⟩ hg4 _) hg4 _
            have HB1' := hide ((HB1.out.far (p := ⟨gF, k, none⟩) hne (.int .i64 (-1))).far (p := ⟨gF, k, none⟩) hne (.int .i64 v))
            have HB2' := hide (blk_set (j := k) (blk_set (j := k) HB2.out (-1)) v)
            rw [hp'] at HB1' HB2' ⊢
            clear hp' cN fN cF fF hbN hbF
            have cN : (xt w p').cell? ⟨gN, j, none⟩ = some (.int .i64 v) := (HB1'.out.cell j).trans (by have := HB1.out.cell j; exact intArr_get (by rw [List.getElem?_eq_getElem (by have := HUL.out; omega)]; have hv := HVD.out; rw [← HU.out, List.getD_eq_getElem?_getD, List.getElem?_eq_getElem (by have := HUL.out; omega)] at hv; rw [← hv]; rfl))
            have fN := HB1'.out.frozen j
            have hbN : gN < (xt w p').heap.size := HB1'.out.lt
            have hwr : IntKind.i64.wrap (v + xs0[k].Persons) = v + xs0[k].Persons := IntWalk.i64_in _ (by omega)
            go_still_tail 11, (by kernel_rfl)
            clear hwr
            change wpList _ _ _ _ _ (xt w p').drew
            go_wp2_with fail
            go_roundw
            case rel => exact ⟨k + 1, us.set j (v + xs0[k].Persons), (cur.set k (-1)).set k v, by omega, by go_num, hide (by rw [HS.out, HVD.out, HU.out]), hide ⟨by rw [List.length_set, List.length_set]; exact HC.out.1, fun i hi => by
                rw [List.getElem?_set]
                by_cases e : k = i
                · subst e; rw [if_pos rfl, if_pos (by rw [List.length_set, HC.out.1]; exact hlt), HFY.out, HVD.out]
                · rw [if_neg e, List.getElem?_set, if_neg e]; exact HC.out.2 i (by omega)⟩, hide (blk_set (j := j) HB1'.out _), hide (HB2'.out.far (p := ⟨gN, j, none⟩) hne.symm _), IsX.drew (IsX.setCell (a := ⟨gN, j, none⟩) ⟨p', rfl⟩ hg3 _)⟩
            case measure => simp [intOf]; omega
          · have HS := hide (use_no (n := m) hltp hltx hp)
            have HFN := hide (first_no (xs := xs0) (n := m) hltp hp)
            have hpb : decide (0 ≤ xs2[k]) = false := decide_eq_false hp
            go_wp2_with fail
            go_roundw
            case rel => exact ⟨k + 1, us, cur.set k (-1), by omega, by go_num, hide (by rw [HS.out]; exact HU.out), hide ⟨by rw [List.length_set]; exact HC.out.1, fun i hi => by
                rw [List.getElem?_set]
                by_cases e : k = i
                · subst e; rw [if_pos rfl, if_pos (by rw [HC.out.1]; exact hlt), HFN.out]
                · rw [if_neg e]; exact HC.out.2 i (by omega)⟩, hide (HB1.out.far (p := ⟨gF, k, none⟩) hne _), hide (blk_set HB2.out (-1)), IsX.setCell (a := ⟨gF, k, none⟩) ⟨p, rfl⟩ hg4 _⟩
            case measure => simp [intOf]; omega
        · obtain rfl : k = n := by omega
          have hO : Own intC 1 2 (xt w p) w.heap.size (.slice (some ⟨gF, 0, none⟩) cur.length cur.length) cur := Blk.own' intC_len HB2.out hg4 (by rw [HC.out.1]; simp only [maxLen]; omega)
          rw [HC.out.1] at hO
          have HO' := hide hO
          have HE := hide (show firstZ xs0 xs1 xs2 = cur by
            rw [HZ.out, ← HN.out, ← HM.out]
            apply List.ext_getElem?
            intro i
            by_cases hi : i < k
            · rw [HC.out.2 i hi]; simp [firstTo, hi]
            · rw [List.getElem?_eq_none (by rw [first_len]; omega), List.getElem?_eq_none (by rw [HC.out.1]; omega)])
          clear hO
          go_wp2
          go_ret2
          refine ⟨some ⟨gF, 0, none⟩, k, by rw [HR.out, HE.out, HC.out.1]; rfl, ?_, ⟨p, rfl⟩⟩
          rw [HE.out, HC.out.1]
          exact HO'.out

theorem one_reads (w : World) (t : Nat) (u : Int) : Reads (w.alloc (.cells #[.int .i64 u] t)) (w.alloc (.cells #[.int .i64 u] t)).heap.size 1 (some ⟨w.heap.size, 0, none⟩) 1 [.int .i64 u] :=
  Rd.reads (cells := intC) (xs := [u]) (by omega) intC_len (Blk.rd (cells := intC) (xs := [u]) (t := t) intC_len (Blk.new w t #[.int .i64 u]))
theorem one_one (u : Int) : ∀ x ∈ [Value.int .i64 u], x.oneCell' = true := by
  intro x hx
  simp only [List.mem_singleton] at hx
  subst hx; rfl
theorem first_flat (xs : List GroupD) (n : Nat) (ps : List Int) (k : Nat) (u : Int) (h : firstAt xs n ps k = u) : (firstTo xs n ps (k + 1)).flatMap intC = (firstTo xs n ps k).flatMap intC ++ [.int .i64 u] := by
  rw [first_succ, h]; simp [intC]

set_option maxRecDepth 100000 in
set_option maxHeartbeats 3200000 in
theorem s_FirstSeats (A0 : Option Addr) (c0 : Nat) (xs0 : List GroupD) (A1 : Option Addr) (c1 : Nat) (xs1 : List Int) (A2 : Option Addr) (c2 : Nat) (xs2 : List Int) (w : World) (hn0 : xs0.length ≤ 1099511627776) (hw0 : ∀ x ∈ xs0, x.wf) (hA0 : Rd GroupD.cells 3 w A0 xs0) (hn1 : xs1.length ≤ 1099511627776) (hw1 : ∀ x ∈ xs1, intWf x) (hA1 : Rd intC 1 w A1 xs1) (hn2 : xs2.length ≤ 1099511627776) (hw2 : ∀ x ∈ xs2, intWf x) (hA2 : Rd intC 1 w A2 xs2) :
    Calls Try.prog 58 #[.slice A0 xs0.length c0, .slice A1 xs1.length c1, .slice A2 xs2.length c2] w (SlPost intC 1 2 w (firstZ xs0 xs1 xs2) (askC xs0 xs1 xs2)) := by
  have hask := c_l24Ask A0 c0 xs0 A1 c1 xs1 A2 c2 xs2 w hn0 hw0 hA0 hn1 hw1 hA1 hn2 hw2 hA2
  cases hall : (groupsB xs0 && rowsB xs1 && leftB xs0 xs1 xs2)
  · have HZ := hide (show firstZ xs0 xs1 xs2 = [] by simp [firstZ, hall])
    have hne : askC xs0 xs1 xs2 = 1 ∨ askC xs0 xs1 xs2 = 2 := by
      cases h1 : (groupsB xs0 && rowsB xs1)
      · exact .inl (by simp [askC, h1])
      · cases h2 : leftB xs0 xs1 xs2
        · exact .inr (by simp [askC, h1, h2])
        · simp [h1, h2] at hall
    generalize hk : askC xs0 xs1 xs2 = code at hask hne ⊢
    clear hk hall
    go_enter Try.func58, Try.ntmps58
    go_wp2_with fail
    refine hask.mono ?_
    rintro e w1 ⟨rfl, hx⟩
    go_wp2_with fail
    go_ret2
    exact SlPost.none HZ.out rfl hx
  · simp only [Bool.and_eq_true] at hall
    obtain ⟨⟨hv, hr⟩, hb⟩ := hall
    have HR := hide (show askC xs0 xs1 xs2 = 0 by simp [askC, hv, hr, hb])
    have HZ := hide (show firstZ xs0 xs1 xs2 = firstTo xs0 xs1.length xs2 xs2.length by simp [firstZ, hv, hr, hb])
    rw [HR.out] at hask
    obtain ⟨hl, hfit⟩ := left_parts hb
    have hgl := groups_len hv
    have hrl := rows_len hr
    have HP := hide (show ∀ x ∈ xs0, 0 ≤ x.Persons ∧ x.Persons ≤ 40 from fun x hx => by have := groups_persons hv x hx; omega)
    have HI := hide (info_parts Int64_info)
    have HF := hide hfit
    have hA0' := hA0
    have hA2' := hA2
    clear hA0 hA1 hA2 hfit hn1 hw1 hn0 hw0 hn2 hw2 hv hr hb
    have HL := hide hl
    obtain ⟨n, hnn⟩ : ∃ n, n = xs2.length := ⟨_, rfl⟩
    have HN := hide hnn
    obtain ⟨m, hmm⟩ : ∃ m, m = xs1.length := ⟨_, rfl⟩
    have HM := hide hmm
    rw [← hl, ← hnn, ← hmm] at hask
    rw [← hl, ← hnn, ← hmm]
    have hn12 : n ≤ 12 := by omega
    have hm12 : m ≤ 12 := by omega
    have hmk := make_ints m (by omega)
    clear hl hnn hmm hgl hrl
    go_enter Try.func58, Try.ntmps58
    go_wp2_with fail
    refine hask.mono ?_
    rintro e w3 ⟨rfl, hX3⟩
    have HX3 := hide hX3
    have hw3 := hX3.size
    clear hX3 hask
    go_wp2_with fail
    obtain ⟨gN, hgN⟩ : ∃ gN, gN = w3.heap.size := ⟨_, rfl⟩
    have HB1 : Hid (Blk ((w3.alloc (.cells (intArr (List.replicate m 0)) 2)).alloc (.cells #[] 2)) gN 2 (intArr (List.replicate m 0))) := hide (hgN ▸ (Blk.new w3 _ _).alloc _)
    have HO : Hid (((w3.alloc (.cells (intArr (List.replicate m 0)) 2)).alloc (.cells #[] 2)).ownsRow (gN + 1) 2 1 (.slice (some ⟨w3.heap.size + 1, 0, none⟩) 0 0) 0 []) := hide (by
      have := World.ownsRow_made (base := gN + 1) (e := 2) (size := 1) (w3.alloc (.cells (intArr (List.replicate m 0)) 2)) #[] 0 (by rw [hgN]; simp) (by simp [maxLen]) rfl
      simpa using this)
    have hg3 : w.heap.size ≤ gN := by omega
    first | rw [← hgN] | skip
    rw [← hgN] at HO
    have HXL : Hid (IsX w ((w3.alloc (.cells (intArr (List.replicate m 0)) 2)).alloc (.cells #[] 2))) := hide ((HX3.out.alloc _).alloc _)
    generalize hWL : (w3.alloc (.cells (intArr (List.replicate m 0)) 2)).alloc (.cells #[] 2) = W0 at HB1 HO HXL ⊢
    clear hmk hgN hWL
    go_loopw [10, 11] (fun ov iv wr => ∃ (k : Nat) (us : List Int), k ≤ n ∧ iv = .int .i64 k ∧ Hid (us = useTo xs0 m xs2 k) ∧ Hid (wr.ownsRow (gN + 1) 2 1 ov k ((firstTo xs0 m xs2 k).flatMap intC)) ∧ Hid (Blk wr gN 2 (intArr us)) ∧ IsX w wr) (fun _ iv _ => n - (intOf iv).toNat)
    case atStart => exact ⟨0, List.replicate m 0, Nat.zero_le _, rfl, hide rfl, HO, HB1, HXL.out⟩
    case round =>
      clear HB1 HO HXL
      obtain ⟨k, us, hk, rfl, HU, HO, HB1, p, rfl⟩ := hrel
      by_cases hlt : k < n
      · have hltp : k < xs2.length := HN.out ▸ hlt
        have hltx : k < xs0.length := HL.out ▸ hltp
        obtain ⟨b2, off2, e2, hb2, d0⟩ := int_rd hA2' (show xs2[k]? = some xs2[k] from List.getElem?_eq_getElem _)
        subst e2
        obtain ⟨b, off, e0, hb, g0, g1, g2⟩ := GroupD.rd hA0' (show xs0[k]? = some xs0[k] from List.getElem?_eq_getElem _)
        subst e0
        have hf := HF.out k hltp
        have hbN : gN < (xt w p).heap.size := HB1.out.lt
        clear hA0' hA2'
        by_cases hp : 0 ≤ xs2[k]
        · obtain ⟨j, hj⟩ := Int.eq_ofNat_of_zero_le hp
          have hjm : j < m := by have := inB_true.1 hf; have := HM.out; omega
          have HS := hide (use_yes (n := m) hltp hltx hj)
          have HFY := hide (first_yes (xs := xs0) (n := m) hltp hj)
          have hul : us.length = m := by rw [HU.out, use_len]
          obtain ⟨v, hv⟩ : ∃ v, us[j]? = some v := ⟨_, List.getElem?_eq_getElem (by omega)⟩
          have hvd : (useTo xs0 m xs2 k).getD j 0 = v := by rw [← HU.out, List.getD_eq_getElem?_getD, hv]; rfl
          obtain ⟨l0, l1⟩ := use_low (n := m) (ps := xs2) HP.out j k
          rw [hvd] at l0 l1
          obtain ⟨y0, y1⟩ := HP.out _ (List.getElem_mem hltx)
          have cN : (xt w p).cell? ⟨gN, j, none⟩ = some (.int .i64 v) := (HB1.out.cell j).trans (intArr_get hv)
          have HV := hide hv
          have HVD := hide hvd
          rw [hj] at d0
          clear hj hvd hul hv hp hf
          go_wp2_with (at_builtin; obtain ⟨i0, hi0, hz0, hz1, hz2⟩ := HI.out; refine wpList_append_any _ rfl (.tmp 37) (.tmp 45) _ rfl (gN + 1) 2 i0 _ 1 8 Try.underlying23 hi0 hz0 hz1 hz2 rfl (by omega) _ k ((firstTo xs0 m xs2 k).flatMap intC) rfl (HO.out.alloc _) _ (some ⟨(xt w p).heap.size, 0, none⟩) 1 1 [.int .i64 (v)] rfl (one_reads (xt w p) 2 (v)) (one_one (v)) (by simp only [maxLen]; omega) (by omega) (by have := HB1.out.lt; simp; omega) ?_; clear hi0 hz0 hz1 hz2; intro v1 w1 hown1 hg1 hat1; have HO1 := hide hown1; have HB3 := hide ((HB1.out.alloc _).grown hg1 (by intro e; have := HO.out.lt gN e.symm; omega)); have hx1 : IsX w w1 := IsX.grown (IsX.alloc (w' := xt w p) ⟨p, rfl⟩ _) hg1 (by intro q hq; have := (HO.out.lt q hq).1; omega); clear hown1 hg1 hat1; obtain ⟨p1, rfl⟩ := hx1)
          clear cN hbN
          have cN : (xt w p1).cell? ⟨gN, j, none⟩ = some (.int .i64 v) := (HB3.out.cell j).trans (intArr_get HV.out)
          have fN := HB3.out.frozen j
          have hbN : gN < (xt w p1).heap.size := HB3.out.lt
          have hwr : IntKind.i64.wrap (v + xs0[k].Persons) = v + xs0[k].Persons := IntWalk.i64_in _ (by omega)
          go_still_tail 14, (by kernel_rfl)
          clear hwr
          change wpList _ _ _ _ _ (xt w p1).drew
          go_wp2_with fail
          go_roundw
          case rel => exact ⟨k + 1, us.set j (v + xs0[k].Persons), by omega, by go_num, hide (by rw [HS.out, HVD.out, HU.out]), hide (by
            rw [first_flat _ _ _ _ v (by rw [HFY.out, HVD.out])]
            exact (ownsRow_far HO1.out (by omega) _).drew), hide (blk_set (j := j) HB3.out _), IsX.drew (IsX.setCell (a := ⟨gN, j, none⟩) ⟨p1, rfl⟩ hg3 _)⟩
          case measure => simp [intOf]; omega
        · have HS := hide (use_no (n := m) hltp hltx hp)
          have HFN := hide (first_no (xs := xs0) (n := m) hltp hp)
          have hpb : decide (xs2[k] < 0) = true := decide_eq_true (by omega)
          go_wp2_with (at_builtin; obtain ⟨i0, hi0, hz0, hz1, hz2⟩ := HI.out; refine wpList_append_any _ rfl (.tmp 34) (.tmp 35) _ rfl (gN + 1) 2 i0 _ 1 8 Try.underlying23 hi0 hz0 hz1 hz2 rfl (by omega) _ k ((firstTo xs0 m xs2 k).flatMap intC) rfl (HO.out.alloc _) _ (some ⟨(xt w p).heap.size, 0, none⟩) 1 1 [.int .i64 (-1)] rfl (one_reads (xt w p) 2 (-1)) (one_one (-1)) (by simp only [maxLen]; omega) (by omega) (by have := HB1.out.lt; simp; omega) ?_; clear hi0 hz0 hz1 hz2; intro v1 w1 hown1 hg1 hat1; have HO1 := hide hown1; have HB3 := hide ((HB1.out.alloc _).grown hg1 (by intro e; have := HO.out.lt gN e.symm; omega)); have hx1 : IsX w w1 := IsX.grown (IsX.alloc (w' := xt w p) ⟨p, rfl⟩ _) hg1 (by intro q hq; have := (HO.out.lt q hq).1; omega); clear hown1 hg1 hat1; obtain ⟨p1, rfl⟩ := hx1)
          go_roundw
          case rel => exact ⟨k + 1, us, by omega, by go_num, hide (by rw [HS.out]; exact HU.out), hide (by
            rw [first_flat _ _ _ _ (-1) HFN.out]
            exact HO1.out), HB3, ⟨p1, rfl⟩⟩
          case measure => simp [intOf]; omega
      · obtain rfl : k = n := by omega
        have HE := hide (show firstZ xs0 xs1 xs2 = firstTo xs0 m xs2 k by rw [HZ.out, ← HN.out, ← HM.out])
        obtain ⟨A', c', hform⟩ := ownsRow_slice HO.out
        subst hform
        go_wp2_with fail
        go_ret2
        refine ⟨A', c', by rw [HR.out, HE.out, first_len]; rfl, ?_, ⟨p, rfl⟩⟩
        rw [HE.out, first_len]
        have := ownsRow_le' HO.out (show w.heap.size ≤ gN + 1 by omega)
        simp only [Own, first_len]
        exact this

end Go.Proofs.Yteeafdbfimdddaa
