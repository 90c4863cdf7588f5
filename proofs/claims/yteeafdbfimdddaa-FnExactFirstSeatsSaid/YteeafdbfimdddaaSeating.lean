/- The seats that places leave: what the reference and the program compute. Conditions: groups and rows are valid. -/
import Derived.Test.YteeafdbfimdddaaPlaces
import Derived.Test.YteeafdbfimdddaaNumsOwn
import Derived.StillTailTactics
namespace Go.Proofs.Yteeafdbfimdddaa
set_option linter.unusedVariables false
open Go.RowKit

theorem rows_mem {rs : List Int} (h : rowsB rs = true) : ∀ r ∈ rs, 0 ≤ r ∧ r ≤ 40 := by
  intro r hr
  simp only [rowsB, Bool.and_eq_true, List.all_eq_true] at h
  exact inB_true.1 (h.2 r hr)
theorem rows_len {rs : List Int} (h : rowsB rs = true) : rs.length ≤ 10 := by
  simp only [rowsB, Bool.and_eq_true, decide_eq_true_eq] at h
  exact h.1
def freeStep (xs : List GroupD) (ps : List Int) (i : Nat) (fs : List Int) : List Int := match ps[i]?, xs[i]? with
  | some p, some x => if 0 ≤ p then fs.set p.toNat (fs.getD p.toNat 0 - x.Persons) else fs
  | _, _ => fs
def freeTo (xs : List GroupD) (rs ps : List Int) (k : Nat) : List Int := upTo (freeStep xs ps) rs k
def fitB (rs : List Int) (p : Int) : Bool := inB p (-1) ((rs.length : Nat) - 1 : Int)
def leftB (xs : List GroupD) (rs ps : List Int) : Bool := decide (ps.length = xs.length) && ps.all (fitB rs) && (freeTo xs rs ps ps.length).all (fun f => decide (0 ≤ f))
theorem free_len (xs : List GroupD) (rs ps : List Int) : ∀ k, (freeTo xs rs ps k).length = rs.length
  | 0 => rfl
  | k + 1 => by
    have ih := free_len xs rs ps k
    simp only [freeTo] at ih ⊢
    rw [upTo_succ]
    generalize upTo (freeStep xs ps) rs k = fs at ih ⊢
    unfold freeStep
    split
    · split
      · simpa using ih
      · exact ih
    · exact ih
theorem free_yes {xs : List GroupD} {rs ps : List Int} {k j : Nat} (h : k < ps.length) (h' : k < xs.length) (e : ps[k] = (j : Int)) : freeTo xs rs ps (k + 1) = (freeTo xs rs ps k).set j ((freeTo xs rs ps k).getD j 0 - xs[k].Persons) := by
  simp only [freeTo]
  rw [upTo_succ]
  have e2 : ps[k].toNat = j := by omega
  have e3 : 0 ≤ ps[k] := by omega
  simp only [freeStep, List.getElem?_eq_getElem h, List.getElem?_eq_getElem h', e2, if_pos e3]
theorem free_no {xs : List GroupD} {rs ps : List Int} {k : Nat} (h : k < ps.length) (h' : k < xs.length) (hp : ¬ 0 ≤ ps[k]) : freeTo xs rs ps (k + 1) = freeTo xs rs ps k := by
  simp only [freeTo]
  rw [upTo_succ]
  simp only [freeStep, List.getElem?_eq_getElem h, List.getElem?_eq_getElem h', if_neg hp]
/-- no seat comes back -/
theorem free_down {xs : List GroupD} {rs ps : List Int} (hx : ∀ x ∈ xs, 0 ≤ x.Persons ∧ x.Persons ≤ 40) (j : Nat) : ∀ k, (freeTo xs rs ps (k + 1)).getD j 0 ≤ (freeTo xs rs ps k).getD j 0 ∧ (freeTo xs rs ps k).getD j 0 ≤ (freeTo xs rs ps (k + 1)).getD j 0 + 40 := by
  intro k
  simp only [freeTo]
  rw [upTo_succ]
  generalize upTo (freeStep xs ps) rs k = fs
  unfold freeStep
  split
  · rename_i p x hp hx'
    have hb := hx x (List.mem_of_getElem? hx')
    split
    · simp only [List.getD_eq_getElem?_getD, List.getElem?_set]
      by_cases e : p.toNat = j
      · subst e
        by_cases hl : p.toNat < fs.length
        · simp [hl]; omega
        · simp [hl, List.getElem?_eq_none (Nat.le_of_not_lt hl)]
      · simp [e]; omega
    · omega
  · omega
theorem free_mono {xs : List GroupD} {rs ps : List Int} (hx : ∀ x ∈ xs, 0 ≤ x.Persons ∧ x.Persons ≤ 40) (j k : Nat) : ∀ d, (freeTo xs rs ps (k + d)).getD j 0 ≤ (freeTo xs rs ps k).getD j 0
  | 0 => Int.le_refl _
  | d + 1 => by
    have h1 := free_mono (rs := rs) (ps := ps) hx j k d
    have h2 := (free_down (rs := rs) (ps := ps) hx j (k + d)).1
    have h3 : k + (d + 1) = k + d + 1 := rfl
    rw [h3]; omega
theorem free_low {xs : List GroupD} {rs ps : List Int} (hx : ∀ x ∈ xs, 0 ≤ x.Persons ∧ x.Persons ≤ 40) (hr : ∀ r ∈ rs, 0 ≤ r ∧ r ≤ 40) (j : Nat) : ∀ k : Nat, -(40 * (k : Int)) ≤ (freeTo xs rs ps k).getD j 0 ∧ (freeTo xs rs ps k).getD j 0 ≤ 40
  | 0 => by
    show _ ≤ rs.getD j 0 ∧ rs.getD j 0 ≤ 40
    by_cases h : j < rs.length
    · have := hr _ (List.getElem_mem h)
      simp only [List.getD_eq_getElem?_getD, List.getElem?_eq_getElem h, Option.getD_some]; omega
    · simp only [List.getD_eq_getElem?_getD, List.getElem?_eq_none (Nat.le_of_not_lt h), Option.getD_none]; omega
  | k + 1 => by
    have h1 := free_low (ps := ps) hx hr j k
    have h2 := free_down (rs := rs) (ps := ps) hx j k
    have e : (((k + 1 : Nat)) : Int) = k + 1 := rfl
    rw [e]; omega
theorem left_neg {xs : List GroupD} {rs ps : List Int} {j k : Nat} (hx : ∀ x ∈ xs, 0 ≤ x.Persons ∧ x.Persons ≤ 40) (hk : k ≤ ps.length) (hj : j < rs.length) (hn : (freeTo xs rs ps k).getD j 0 < 0) : leftB xs rs ps = false := by
  have h1 := free_mono (rs := rs) (ps := ps) hx j k (ps.length - k)
  rw [show k + (ps.length - k) = ps.length by omega] at h1
  have hjl : j < (freeTo xs rs ps ps.length).length := by rw [free_len]; exact hj
  have h2 : (freeTo xs rs ps ps.length)[j] < 0 := by
    have : (freeTo xs rs ps ps.length).getD j 0 = (freeTo xs rs ps ps.length)[j] := by simp [List.getD_eq_getElem?_getD, List.getElem?_eq_getElem hjl]
    omega
  have h3 : (freeTo xs rs ps ps.length).all (fun f => decide (0 ≤ f)) = false := all_not hjl (decide_eq_false (by omega))
  simp only [leftB, h3, Bool.and_false]
theorem left_unfit {xs : List GroupD} {rs ps : List Int} {k : Nat} (hk : k < ps.length) (h : fitB rs ps[k] = false) : leftB xs rs ps = false := by
  simp only [leftB, all_not hk h, Bool.and_false, Bool.false_and]
theorem left_len {xs : List GroupD} {rs ps : List Int} (h : ¬ ps.length = xs.length) : leftB xs rs ps = false := by
  simp only [leftB, decide_eq_false h, Bool.false_and]
theorem left_yes {xs : List GroupD} {rs ps : List Int} (h : ps.length = xs.length) (h2 : ∀ i (h : i < ps.length), fitB rs ps[i] = true) (h3 : ∀ i (h : i < (freeTo xs rs ps ps.length).length), 0 ≤ (freeTo xs rs ps ps.length)[i]) : leftB xs rs ps = true := by
  simp only [leftB, decide_eq_true h, all_of h2, Bool.true_and]
  exact all_of (fun i hi => decide_eq_true (h3 i hi))
def LeftPost (xs : List GroupD) (rs ps : List Int) (w : World) (e : Ending) (w' : World) : Prop :=
  if leftB xs rs ps = true then ∃ A c, e = .returned (.tuple #[.slice A rs.length c, .bool true]) ∧ Own intC 1 2 w' w.heap.size (.slice A rs.length c) (freeTo xs rs ps ps.length) ∧ IsX w w'
  else e = .returned (.tuple #[.slice none 0 0, .bool false]) ∧ IsX w w'
theorem LeftPost.no {xs : List GroupD} {rs ps : List Int} {w w' : World} {e : Ending} (h : leftB xs rs ps = false) (he : e = .returned (.tuple #[.slice none 0 0, .bool false])) (hx : IsX w w') : LeftPost xs rs ps w e w' := by
  simp only [LeftPost, h, Bool.false_eq_true, if_false]; exact ⟨he, hx⟩
theorem LeftPost.yes {xs : List GroupD} {rs ps : List Int} {w w' : World} {e : Ending} {A : Option Addr} {c : Nat} (h : leftB xs rs ps = true) (he : e = .returned (.tuple #[.slice A rs.length c, .bool true])) (ho : Own intC 1 2 w' w.heap.size (.slice A rs.length c) (freeTo xs rs ps ps.length)) (hx : IsX w w') : LeftPost xs rs ps w e w' := by
  simp only [LeftPost, h, if_true]; exact ⟨A, c, he, ho, hx⟩
theorem flat_ints (zs : List Int) : zs.flatMap intC = zs.map (fun z => Value.int .i64 z) := by
  induction zs with
  | nil => rfl
  | cons z zs ih => simp [List.flatMap_cons, ih, intC]
theorem ownI_set {w : World} {base g n c j t : Nat} {zs : List Int} (hn : n = zs.length) (h : Own intC 1 t w base (.slice (some ⟨g, 0, none⟩) n c) zs) (hj : j < zs.length) (u : Int) :
    Own intC 1 t (w.setCell ⟨g, j, none⟩ (.int .i64 u)) base (.slice (some ⟨g, 0, none⟩) n c) (zs.set j u) := by
  subst hn
  have h2 := own_set (w := w) (base := base) (g := g) (n := zs.length) (c := c) (j := j) (e := t) (size := 1) (xs := zs.flatMap intC) h (by rw [flat_ints]; simpa using hj) (.int .i64 u)
  simp only [Own, List.length_set]
  rw [flat_ints] at h2 ⊢
  rw [List.map_set]; exact h2

set_option maxRecDepth 100000 in
set_option maxHeartbeats 3200000 in
theorem c_seatsLeft (A0 : Option Addr) (c0 : Nat) (xs : List GroupD) (A1 : Option Addr) (c1 : Nat) (rs : List Int) (A2 : Option Addr) (c2 : Nat) (ps : List Int) (w : World) (hv : groupsB xs = true) (hr : rowsB rs = true) (hn2 : ps.length ≤ 1099511627776)
    (hA0 : Rd GroupD.cells 3 w A0 xs) (hA1 : Rd intC 1 w A1 rs) (hA2 : Rd intC 1 w A2 ps) :
    Calls Try.prog 82 #[.slice A0 xs.length c0, .slice A1 rs.length c1, .slice A2 ps.length c2] w (LeftPost xs rs ps w) := by
  have hgl := groups_len hv
  have hrl := rows_len hr
  have HP := hide (show ∀ x ∈ xs, 0 ≤ x.Persons ∧ x.Persons ≤ 40 from fun x hx => by have := groups_persons hv x hx; omega)
  have HRM := hide (rows_mem hr)
  clear hv hr
  by_cases hl : ps.length = xs.length
  case neg =>
    have HR := hide (left_len (rs := rs) hl)
    have hlb : ((ps.length : Int) != (xs.length : Int)) = true := by rw [bne_iff_ne]; omega
    clear hA0 hA1 hA2 hl
    generalize ps.length = n at *
    generalize xs.length = m at *
    go_enter Try.func82, Try.ntmps82
    go_wp2_with fail
    go_ret2
    exact LeftPost.no HR.out rfl (IsX.refl _)
  have HL := hide hl
  rw [← hl]
  obtain ⟨n, hnn⟩ : ∃ n, n = ps.length := ⟨_, rfl⟩
  have HN := hide hnn
  rw [← hnn] at hn2 ⊢
  have hn12 : n ≤ 12 := by omega
  clear hl hnn
  go_enter Try.func82, Try.ntmps82
  go_wp2_with fail
  refine (c_Clone A1 c1 rs w (by omega) hA1).mono ?_
  rintro e w1 ⟨A', c', rfl, HO, hx1⟩
  have HO1 := hide HO
  have HX1 := hide hx1
  clear HO
  have hA0' := hA0
  have hA2' := hA2
  clear hA0 hA1 hA2 hx1
  go_wp2
  go_loopw [20] (fun i wr => ∃ k : Nat, k ≤ n ∧ i = .int .i64 k ∧ (∀ i (h : i < ps.length), i < k → fitB rs ps[i] = true) ∧ (∀ j, 0 ≤ (freeTo xs rs ps k).getD j 0) ∧ Own intC 1 2 wr w.heap.size (.slice A' rs.length c') (freeTo xs rs ps k) ∧ IsX w wr) (fun i _ => n - (intOf i).toNat)
  case atStart => exact ⟨0, Nat.zero_le _, rfl, fun i h hi => absurd hi (by omega), fun j => by
    show 0 ≤ rs.getD j 0
    by_cases h : j < rs.length
    · have := HRM.out _ (List.getElem_mem h)
      simp only [List.getD_eq_getElem?_getD, List.getElem?_eq_getElem h, Option.getD_some]; omega
    · simp only [List.getD_eq_getElem?_getD, List.getElem?_eq_none (Nat.le_of_not_lt h), Option.getD_none]; omega, HO1.out, HX1.out⟩
  case round =>
    obtain ⟨k, hk, rfl, hfit, hpos, hown, p, rfl⟩ := hrel
    have HF := hide hfit
    have HQ := hide hpos
    clear hfit hpos
    by_cases hlt : k < n
    · have hltp : k < ps.length := HN.out ▸ hlt
      have hltx : k < xs.length := HL.out ▸ hltp
      obtain ⟨b2, off2, rfl, hb2, d0⟩ := int_rd hA2' (show ps[k]? = some ps[k] from List.getElem?_eq_getElem _)
      obtain ⟨b, off, rfl, hb, g0, g1, g2⟩ := GroupD.rd hA0' (show xs[k]? = some xs[k] from List.getElem?_eq_getElem _)
      clear hA0' hA2'
      cases hf : inB ps[k] (-1) ((rs.length : Nat) - 1 : Int)
      · have HR := hide (left_unfit (xs := xs) hltp (show fitB rs ps[k] = false from hf))
        go_wp2_with (go_at_call 117; refine (c_within _ _ _ _).mono ?_; rintro e w' ⟨rfl, rfl⟩)
        go_ret2
        exact LeftPost.no HR.out rfl ⟨p, rfl⟩
      · have HF' := hide (step_all (p := fitB rs) hltp HF.out hf)
        by_cases hp : 0 ≤ ps[k]
        · obtain ⟨j, hj⟩ := Int.eq_ofNat_of_zero_le hp
          have hjl : j < rs.length := by have := inB_true.1 hf; omega
          have HS := hide (free_yes (rs := rs) hltp hltx hj)
          have hfl := free_len xs rs ps k
          obtain ⟨g, hgA, hgb, hgs⟩ := own_block hown (by omega)
          subst hgA
          obtain ⟨v, hvv⟩ : ∃ v, (freeTo xs rs ps k)[j]? = some v := ⟨_, List.getElem?_eq_getElem (by omega)⟩
          obtain ⟨b3, off3, e3, _, hcell⟩ := int_rd (hown.rd (by omega) intC_len hfl.symm) hvv
          injection e3 with e3
          injection e3 with e4 e5
          subst e4 e5
          rw [Nat.zero_add] at hcell
          have hfz := own_frozen (i := j) hown
          have HOW := hide hown
          have HFL := hide hfl
          have HJ := hide hj
          rw [hj] at hf d0
          have HGD := hide (show (freeTo xs rs ps k).getD j 0 = v by rw [List.getD_eq_getElem?_getD, hvv]; rfl)
          clear hown hfl hj hp hvv
          obtain ⟨l0, l1⟩ := free_low (ps := ps) HP.out HRM.out j k
          rw [HGD.out] at l0 l1
          obtain ⟨y0, y1⟩ := HP.out _ (List.getElem_mem hltx)
          have HOS := hide (ownI_set HFL.out.symm HOW.out (by rw [HFL.out]; exact hjl) (v - xs[k].Persons))
          have HS2 := hide (show freeTo xs rs ps (k + 1) = (freeTo xs rs ps k).set j (v - xs[k].Persons) by rw [HS.out, HGD.out])
          have HS3 := hide (show (freeTo xs rs ps (k + 1)).getD j 0 = v - xs[k].Persons by rw [HS2.out, List.getD_eq_getElem?_getD, List.getElem?_set, if_pos rfl, if_pos (by rw [HFL.out]; exact hjl)]; rfl)
          have hwr : IntKind.i64.wrap (v - xs[k].Persons) = v - xs[k].Persons := IntWalk.i64_in _ (by omega)
          by_cases hneg : v - xs[k].Persons < 0
          · have HR := hide (left_neg (rs := rs) (ps := ps) (j := j) (k := k + 1) HP.out (by omega) hjl (by rw [HS3.out]; exact hneg))
            go_wp2_with (go_at_call 117; refine (c_within _ _ _ _).mono ?_; rintro e w' ⟨rfl, rfl⟩)
            go_still_tail 11, (by kernel_rfl)
            clear hwr
            change wpList _ _ _ _ _ (xt w p).drew
            go_wp2
            go_ret2
            exact LeftPost.no HR.out rfl (IsX.drew (IsX.setCell (a := ⟨g, j, none⟩) ⟨p, rfl⟩ hgb _))
          · have HQ' := hide (show ∀ i, 0 ≤ (freeTo xs rs ps (k + 1)).getD i 0 from fun i => by
              by_cases e : j = i
              · subst e; rw [HS3.out]; omega
              · have := HQ.out i
                rw [HS2.out, List.getD_eq_getElem?_getD, List.getElem?_set, if_neg e, ← List.getD_eq_getElem?_getD]; exact this)
            go_wp2_with (go_at_call 117; refine (c_within _ _ _ _).mono ?_; rintro e w' ⟨rfl, rfl⟩)
            go_still_tail 11, (by kernel_rfl)
            clear hwr
            change wpList _ _ _ _ _ (xt w p).drew
            go_wp2
            go_roundw
            case rel => exact ⟨k + 1, by omega, by go_num, HF'.out, HQ'.out, by rw [HS2.out]; exact HOS.out, IsX.drew (IsX.setCell (a := ⟨g, j, none⟩) ⟨p, rfl⟩ hgb _)⟩
            case measure => simp [intOf]; omega
        · have HS := hide (free_no (rs := rs) hltp hltx hp)
          have HOW := hide hown
          clear hown
          have hpb : decide (0 ≤ ps[k]) = false := decide_eq_false hp
          have HQ' := hide (show ∀ i, 0 ≤ (freeTo xs rs ps (k + 1)).getD i 0 by rw [HS.out]; exact HQ.out)
          go_wp2_with (go_at_call 117; refine (c_within _ _ _ _).mono ?_; rintro e w' ⟨rfl, rfl⟩)
          go_roundw
          case rel => exact ⟨k + 1, by omega, by go_num, HF'.out, HQ'.out, by rw [HS.out]; exact HOW.out, ⟨p, rfl⟩⟩
          case measure => simp [intOf]; omega
    · obtain rfl : k = n := by omega
      have HOW := hide hown
      clear hown
      have HR := hide (left_yes (rs := rs) HL.out (fun i h => HF.out i h (by have := HN.out; omega)) (fun i h => by
        have := HQ.out i
        rw [HN.out, List.getD_eq_getElem?_getD, List.getElem?_eq_getElem h] at this; exact this))
      go_wp2
      go_ret2
      exact LeftPost.yes HR.out rfl (HN.out ▸ HOW.out) ⟨p, rfl⟩

set_option maxRecDepth 100000 in
set_option maxHeartbeats 3200000 in
theorem c_l24Free (A0 : Option Addr) (c0 : Nat) (xs : List GroupD) (A1 : Option Addr) (c1 : Nat) (rs : List Int) (A2 : Option Addr) (c2 : Nat) (ps : List Int) (w : World) (hv : groupsB xs = true) (hr : rowsB rs = true) (hn2 : ps.length ≤ 1099511627776)
    (hA0 : Rd GroupD.cells 3 w A0 xs) (hA1 : Rd intC 1 w A1 rs) (hA2 : Rd intC 1 w A2 ps) :
    Calls Try.prog 78 #[.slice A0 xs.length c0, .slice A1 rs.length c1, .slice A2 ps.length c2] w (LeftPost xs rs ps w) := by
  have hgl := groups_len hv
  have hrl := rows_len hr
  have HP := hide (show ∀ x ∈ xs, 0 ≤ x.Persons ∧ x.Persons ≤ 40 from fun x hx => by have := groups_persons hv x hx; omega)
  have HRM := hide (rows_mem hr)
  clear hv hr
  obtain ⟨n, hnn⟩ : ∃ n, n = ps.length := ⟨_, rfl⟩
  have HN := hide hnn
  rw [← hnn] at hn2 ⊢
  clear hnn
  by_cases hl : ps.length = xs.length
  case neg =>
    have HR := hide (left_len (rs := rs) hl)
    have hlb : ((n : Int) != (xs.length : Int)) = true := by rw [bne_iff_ne]; have := HN.out; omega
    clear hl
    go_enter Try.func78, Try.ntmps78
    go_wp2_with fail
    refine (c_l00Own A1 c1 rs w (by omega) hA1).mono ?_
    rintro e w1 ⟨A', c', rfl, HO, hx1⟩
    have HO1 := hide HO
    clear HO
    go_wp2_with fail
    go_ret2
    exact LeftPost.no HR.out rfl hx1
  have HL := hide hl
  have hlb : ((n : Int) != (xs.length : Int)) = false := by rw [bne_eq_false_iff_eq]; have := HN.out; omega
  have hn12 : n ≤ 12 := by have := HN.out; omega
  clear hl
  go_enter Try.func78, Try.ntmps78
  go_wp2_with fail
  refine (c_l00Own A1 c1 rs w (by omega) hA1).mono ?_
  rintro e w1 ⟨A', c', rfl, HO, hx1⟩
  have HO1 := hide HO
  have HX1 := hide hx1
  clear HO
  have hA0' := hA0
  have hA2' := hA2
  clear hA0 hA1 hA2 hx1
  go_wp2
  clear hlb
  go_loopw [9] (fun i wr => ∃ k : Nat, k ≤ n ∧ i = .int .i64 k ∧ (∀ i (h : i < ps.length), i < k → fitB rs ps[i] = true) ∧ Own intC 1 2 wr w.heap.size (.slice A' rs.length c') (freeTo xs rs ps k) ∧ IsX w wr) (fun i _ => n - (intOf i).toNat)
  case atStart => exact ⟨0, Nat.zero_le _, rfl, fun i h hi => absurd hi (by omega), HO1.out, HX1.out⟩
  case round =>
    obtain ⟨k, hk, rfl, hfit, hown, p, rfl⟩ := hrel
    have HF := hide hfit
    clear hfit
    by_cases hlt : k < n
    · have hltp : k < ps.length := HN.out ▸ hlt
      have hltx : k < xs.length := HL.out ▸ hltp
      obtain ⟨b2, off2, rfl, hb2, d0⟩ := int_rd hA2' (show ps[k]? = some ps[k] from List.getElem?_eq_getElem _)
      obtain ⟨b, off, rfl, hb, g0, g1, g2⟩ := GroupD.rd hA0' (show xs[k]? = some xs[k] from List.getElem?_eq_getElem _)
      clear hA0' hA2'
      cases hf : inB ps[k] (-1) ((rs.length : Nat) - 1 : Int)
      · have HR := hide (left_unfit (xs := xs) hltp (show fitB rs ps[k] = false from hf))
        clear hown
        go_wp2_with (go_at_call 120; refine (c_in _ _ _ _).mono ?_; rintro e w' ⟨rfl, rfl⟩)
        go_ret2
        exact LeftPost.no HR.out rfl ⟨p, rfl⟩
      · have HF' := hide (step_all (p := fitB rs) hltp HF.out hf)
        by_cases hp : 0 ≤ ps[k]
        · obtain ⟨j, hj⟩ := Int.eq_ofNat_of_zero_le hp
          have hjl : j < rs.length := by have := inB_true.1 hf; omega
          have HS := hide (free_yes (rs := rs) hltp hltx hj)
          have hfl := free_len xs rs ps k
          obtain ⟨g, hgA, hgb, hgs⟩ := own_block hown (by omega)
          subst hgA
          obtain ⟨v, hvv⟩ : ∃ v, (freeTo xs rs ps k)[j]? = some v := ⟨_, List.getElem?_eq_getElem (by omega)⟩
          obtain ⟨b3, off3, e3, _, hcell⟩ := int_rd (hown.rd (by omega) intC_len hfl.symm) hvv
          injection e3 with e3
          injection e3 with e4 e5
          subst e4 e5
          rw [Nat.zero_add] at hcell
          have hfz := own_frozen (i := j) hown
          have HOW := hide hown
          have HFL := hide hfl
          have HJ := hide hj
          rw [hj] at hf d0
          have HGD := hide (show (freeTo xs rs ps k).getD j 0 = v by rw [List.getD_eq_getElem?_getD, hvv]; rfl)
          clear hown hfl hj hp hvv
          obtain ⟨l0, l1⟩ := free_low (ps := ps) HP.out HRM.out j k
          rw [HGD.out] at l0 l1
          obtain ⟨y0, y1⟩ := HP.out _ (List.getElem_mem hltx)
          have HOS := hide (ownI_set HFL.out.symm HOW.out (by rw [HFL.out]; exact hjl) (v - xs[k].Persons))
          have HS2 := hide (show freeTo xs rs ps (k + 1) = (freeTo xs rs ps k).set j (v - xs[k].Persons) by rw [HS.out, HGD.out])
          have hwr : IntKind.i64.wrap (v - xs[k].Persons) = v - xs[k].Persons := IntWalk.i64_in _ (by omega)
          go_wp2_with (go_at_call 120; refine (c_in _ _ _ _).mono ?_; rintro e w' ⟨rfl, rfl⟩)
          go_still_tail 14, (by kernel_rfl)
          clear hwr
          change wpList _ _ _ _ _ (xt w p).drew
          go_wp2
          go_roundw
          case rel => exact ⟨k + 1, by omega, by go_num, HF'.out, by rw [HS2.out]; exact HOS.out, IsX.drew (IsX.setCell (a := ⟨g, j, none⟩) ⟨p, rfl⟩ hgb _)⟩
          case measure => simp [intOf]; omega
        · have HS := hide (free_no (rs := rs) hltp hltx hp)
          have HOW := hide hown
          clear hown
          have hpb : decide (0 ≤ ps[k]) = false := decide_eq_false hp
          go_wp2_with (go_at_call 120; refine (c_in _ _ _ _).mono ?_; rintro e w' ⟨rfl, rfl⟩)
          go_roundw
          case rel => exact ⟨k + 1, by omega, by go_num, HF'.out, by rw [HS.out]; exact HOW.out, ⟨p, rfl⟩⟩
          case measure => simp [intOf]; omega
    · obtain rfl : k = n := by omega
      have HOW := hide hown
      clear hown
      go_wp2
      go_loopw [10] (fun i wr => ∃ m : Nat, m ≤ rs.length ∧ i = .int .i64 m ∧ (∀ i, i < m → 0 ≤ (freeTo xs rs ps k).getD i 0) ∧ Own intC 1 2 wr w.heap.size (.slice A' rs.length c') (freeTo xs rs ps k) ∧ IsX w wr) (fun i _ => rs.length - (intOf i).toNat)
      case atStart => exact ⟨0, Nat.zero_le _, rfl, fun i hi => absurd hi (by omega), HOW.out, ⟨p, rfl⟩⟩
      case round =>
        obtain ⟨m, hm, rfl, hpos, hown, p', rfl⟩ := hrel
        have HQ := hide hpos
        clear hpos
        by_cases hlm : m < rs.length
        · have hfl := free_len xs rs ps k
          obtain ⟨g, hgA, hgb, hgs⟩ := own_block hown (by omega)
          subst hgA
          obtain ⟨v, hvv⟩ : ∃ v, (freeTo xs rs ps k)[m]? = some v := ⟨_, List.getElem?_eq_getElem (by omega)⟩
          obtain ⟨b3, off3, e3, _, hcell⟩ := int_rd (hown.rd (by omega) intC_len hfl.symm) hvv
          injection e3 with e3
          injection e3 with e4 e5
          subst e4 e5
          rw [Nat.zero_add] at hcell
          have HGD := hide (show (freeTo xs rs ps k).getD m 0 = v by rw [List.getD_eq_getElem?_getD, hvv]; rfl)
          have HOW' := hide hown
          clear hown hfl hvv
          by_cases hneg : v < 0
          · have HR := hide (left_neg (rs := rs) (ps := ps) (j := m) (k := k) HP.out (by have := HN.out; omega) hlm (by rw [HGD.out]; exact hneg))
            go_wp2
            go_ret2
            exact LeftPost.no HR.out rfl ⟨p', rfl⟩
          · have HQ' := hide (show ∀ i, i < m + 1 → 0 ≤ (freeTo xs rs ps k).getD i 0 from fun i hi => by
              by_cases e : i = m
              · subst e; rw [HGD.out]; omega
              · exact HQ.out i (by omega))
            go_wp2
            go_roundw
            case rel => exact ⟨m + 1, by omega, by go_num, HQ'.out, HOW'.out, ⟨p', rfl⟩⟩
            case measure => simp [intOf]; omega
        · obtain rfl : m = rs.length := by omega
          have HOW' := hide hown
          clear hown
          have HR := hide (left_yes (rs := rs) HL.out (fun i h => HF.out i h (by have := HN.out; omega)) (fun i h => by
            have h2 : i < rs.length := by rw [free_len] at h; exact h
            have := HQ.out i h2
            rw [HN.out, List.getD_eq_getElem?_getD, List.getElem?_eq_getElem h] at this; exact this))
          go_wp2
          go_ret2
          exact LeftPost.yes HR.out rfl (HN.out ▸ HOW'.out) ⟨p', rfl⟩

def seatingB (xs : List GroupD) (rs ps : List Int) : Bool := groupsB xs && rowsB rs && leftB xs rs ps
theorem LeftPost.cases {xs : List GroupD} {rs ps : List Int} {w w' : World} {e : Ending} (h : LeftPost xs rs ps w e w') :
    (leftB xs rs ps = false ∧ e = .returned (.tuple #[.slice none 0 0, .bool false]) ∧ IsX w w') ∨ (leftB xs rs ps = true ∧ ∃ A c, e = .returned (.tuple #[.slice A rs.length c, .bool true]) ∧ Own intC 1 2 w' w.heap.size (.slice A rs.length c) (freeTo xs rs ps ps.length) ∧ IsX w w') := by
  unfold LeftPost at h
  split at h
  · rename_i hb; exact .inr ⟨hb, h⟩
  · rename_i hb; exact .inl ⟨by simpa using hb, h⟩

set_option maxHeartbeats 1600000 in
theorem s_IsSeating (A0 : Option Addr) (c0 : Nat) (xs0 : List GroupD) (A1 : Option Addr) (c1 : Nat) (xs1 : List Int) (A2 : Option Addr) (c2 : Nat) (xs2 : List Int) (w : World) (hn0 : xs0.length ≤ 1099511627776) (hw0 : ∀ x ∈ xs0, x.wf) (hA0 : Rd GroupD.cells 3 w A0 xs0) (hn1 : xs1.length ≤ 1099511627776) (hw1 : ∀ x ∈ xs1, intWf x) (hA1 : Rd intC 1 w A1 xs1) (hn2 : xs2.length ≤ 1099511627776) (hw2 : ∀ x ∈ xs2, intWf x) (hA2 : Rd intC 1 w A2 xs2) :
    Calls Try.prog 28 #[.slice A0 xs0.length c0, .slice A1 xs1.length c1, .slice A2 xs2.length c2] w fun e w' => e = .returned (.bool (seatingB xs0 xs1 xs2)) ∧ IsX w w' := by
  cases hv : groupsB xs0
  · have HR := hide (show seatingB xs0 xs1 xs2 = false by simp [seatingB, hv])
    go_enter Try.func28, Try.ntmps28
    go_wp2_with fail
    refine (cb (c_l24Ok A0 c0 xs0 w hn0 hw0 hA0) hv).mono ?_
    rintro e w1 ⟨rfl, hx⟩
    go_wp2_with fail
    go_ret
    exact ⟨by rw [HR.out]; rfl, hx⟩
  have HV := hide hv
  cases hr : rowsB xs1
  · have HR := hide (show seatingB xs0 xs1 xs2 = false by simp [seatingB, hr])
    go_enter Try.func28, Try.ntmps28
    go_wp2_with fail
    refine (cb (c_l24Ok A0 c0 xs0 w hn0 hw0 hA0) hv).mono ?_
    rintro e w1 ⟨rfl, hx⟩
    go_wp2_with fail
    refine (cb (c_l24Rows A1 c1 xs1 w1 hn1 hw1 (hA1.x hx)) hr).mono ?_
    rintro e w2 ⟨rfl, hx2⟩
    go_wp2_with fail
    go_ret
    exact ⟨by rw [HR.out]; rfl, hx.trans hx2⟩
  have HRR := hide hr
  have HR := hide (show seatingB xs0 xs1 xs2 = leftB xs0 xs1 xs2 by simp [seatingB, hv, hr])
  go_enter Try.func28, Try.ntmps28
  go_wp2_with fail
  refine (cb (c_l24Ok A0 c0 xs0 w hn0 hw0 hA0) hv).mono ?_
  rintro e w1 ⟨rfl, hx⟩
  go_wp2_with fail
  refine (cb (c_l24Rows A1 c1 xs1 w1 hn1 hw1 (hA1.x hx)) hr).mono ?_
  rintro e w2 ⟨rfl, hx2⟩
  go_wp2_with fail
  refine (c_l24Free A0 c0 xs0 A1 c1 xs1 A2 c2 xs2 w2 HV.out HRR.out hn2 (hA0.x (hx.trans hx2)) (hA1.x (hx.trans hx2)) (hA2.x (hx.trans hx2))).mono ?_
  rintro e w3 hp
  rcases hp.cases with ⟨hb, rfl, hx3⟩ | ⟨hb, A, c, rfl, _, hx3⟩
  · have HB := hide hb
    clear hb hp
    go_wp2_with fail
    go_ret
    exact ⟨by rw [HR.out, HB.out]; rfl, (hx.trans hx2).trans hx3⟩
  · have HB := hide hb
    clear hb hp
    go_wp2_with fail
    go_ret
    exact ⟨by rw [HR.out, HB.out]; rfl, (hx.trans hx2).trans hx3⟩

set_option maxHeartbeats 1600000 in
theorem i_IsSeating (A0 : Option Addr) (c0 : Nat) (xs0 : List GroupD) (A1 : Option Addr) (c1 : Nat) (xs1 : List Int) (A2 : Option Addr) (c2 : Nat) (xs2 : List Int) (w : World) (hn0 : xs0.length ≤ 1099511627776) (hw0 : ∀ x ∈ xs0, x.wf) (hA0 : Rd GroupD.cells 3 w A0 xs0) (hn1 : xs1.length ≤ 1099511627776) (hw1 : ∀ x ∈ xs1, intWf x) (hA1 : Rd intC 1 w A1 xs1) (hn2 : xs2.length ≤ 1099511627776) (hw2 : ∀ x ∈ xs2, intWf x) (hA2 : Rd intC 1 w A2 xs2) :
    Calls Try.prog 30 #[.slice A0 xs0.length c0, .slice A1 xs1.length c1, .slice A2 xs2.length c2] w fun e w' => e = .returned (.bool (seatingB xs0 xs1 xs2)) ∧ IsX w w' := by
  cases hv : groupsB xs0
  · have HR := hide (show seatingB xs0 xs1 xs2 = false by simp [seatingB, hv])
    go_enter Try.func30, Try.ntmps30
    go_wp2_with fail
    refine (cb (c_ValidGroups A0 c0 xs0 w hn0 hw0 hA0) hv).mono ?_
    rintro e w1 ⟨rfl, hx⟩
    go_wp2_with fail
    go_ret
    exact ⟨by rw [HR.out]; rfl, hx⟩
  have HV := hide hv
  cases hr : rowsB xs1
  · have HR := hide (show seatingB xs0 xs1 xs2 = false by simp [seatingB, hr])
    go_enter Try.func30, Try.ntmps30
    go_wp2_with fail
    refine (cb (c_ValidGroups A0 c0 xs0 w hn0 hw0 hA0) hv).mono ?_
    rintro e w1 ⟨rfl, hx⟩
    go_wp2_with fail
    refine (cb (c_ValidRows A1 c1 xs1 w1 hn1 hw1 (hA1.x hx)) hr).mono ?_
    rintro e w2 ⟨rfl, hx2⟩
    go_wp2_with fail
    go_ret
    exact ⟨by rw [HR.out]; rfl, hx.trans hx2⟩
  have HRR := hide hr
  have HR := hide (show seatingB xs0 xs1 xs2 = leftB xs0 xs1 xs2 by simp [seatingB, hv, hr])
  go_enter Try.func30, Try.ntmps30
  go_wp2_with fail
  refine (cb (c_ValidGroups A0 c0 xs0 w hn0 hw0 hA0) hv).mono ?_
  rintro e w1 ⟨rfl, hx⟩
  go_wp2_with fail
  refine (cb (c_ValidRows A1 c1 xs1 w1 hn1 hw1 (hA1.x hx)) hr).mono ?_
  rintro e w2 ⟨rfl, hx2⟩
  go_wp2_with fail
  refine (c_seatsLeft A0 c0 xs0 A1 c1 xs1 A2 c2 xs2 w2 HV.out HRR.out hn2 (hA0.x (hx.trans hx2)) (hA1.x (hx.trans hx2)) (hA2.x (hx.trans hx2))).mono ?_
  rintro e w3 hp
  rcases hp.cases with ⟨hb, rfl, hx3⟩ | ⟨hb, A, c, rfl, _, hx3⟩
  · have HB := hide hb
    clear hb hp
    go_wp2_with fail
    go_ret
    exact ⟨by rw [HR.out, HB.out]; rfl, (hx.trans hx2).trans hx3⟩
  · have HB := hide hb
    clear hb hp
    go_wp2_with fail
    go_ret
    exact ⟨by rw [HR.out, HB.out]; rfl, (hx.trans hx2).trans hx3⟩

end Go.Proofs.Yteeafdbfimdddaa
