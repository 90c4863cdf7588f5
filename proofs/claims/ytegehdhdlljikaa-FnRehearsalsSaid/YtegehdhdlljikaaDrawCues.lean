/- Cues that are drawn: lists of them are valid. Conditions: fewer than 2^39 choices. -/
import Derived.Test.YtegehdhdlljikaaCuePut
import Derived.Test.YtegehdhdlljikaaWhoLaw
namespace Go.Proofs.Ytegehdhdlljikaa
set_option linter.unusedVariables false
open Go.RowKit Go.ChangeShapes

theorem cueLt_total {x y : CueD} (h : cueLt x y = false) (hne : keyB x.Id ≠ keyB y.Id) : cueLt y x = true := by
  simp only [cueLt, Bool.or_eq_false_iff, decide_eq_false_iff_not] at h
  simp only [cueLt, Bool.or_eq_true, decide_eq_true_eq, Bool.and_eq_true, beq_iff_eq]
  by_cases ht : y.Time < x.Time
  · exact .inl ht
  · have e : x.Time = y.Time := by omega
    refine .inr ⟨e.symm, ?_⟩
    have h2 := h.2
    rw [e, beq_self_eq_true, Bool.true_and, less_key, decide_eq_false_iff_not] at h2
    rw [less_key, decide_eq_true_eq]
    rcases Decidable.em (keyB y.Id < keyB x.Id) with h3 | h3
    · exact h3
    · exact absurd (List.le_antisymm (List.not_lt.1 h3) (List.not_lt.1 h2)) hne
theorem nodup_cues {xs : List CueD} (h : ∀ i, i < xs.length → dupAt xs i = false) : (xs.map (fun x => keyB x.Id)).Nodup := by
  rw [List.Nodup, List.pairwise_iff_getElem]
  intro i j hi hj hij e
  have hj' : j < xs.length := by simpa using hj
  have := h j hj'
  rw [dup_eq hj', List.any_eq_false] at this
  have hm : xs[i]'(by omega) ∈ xs.take j := List.mem_take_iff_getElem.2 ⟨i, by omega, rfl⟩
  have h2 := this _ hm
  simp only [List.getElem_map] at e
  apply h2
  simp only [pCue, eq_key, decide_eq_true_eq]
  exact e
theorem dups_of {xs : List CueD} (h : (xs.map (fun x => keyB x.Id)).Nodup) : ∀ i, i < xs.length → dupAt xs i = false := fun j hj => by
  rw [dup_eq hj, List.any_eq_false]
  intro y hy
  obtain ⟨i, hi, rfl⟩ := List.mem_take_iff_getElem.1 hy
  simp only [pCue, eq_key, decide_eq_true_eq]
  intro e
  rw [List.Nodup, List.pairwise_iff_getElem] at h
  exact h i j (by simp; omega) (by simpa using hj) (by omega) (by simpa using e)
theorem cues_ins {xs zs : List CueD} {x : CueD} (hv : cueListB xs = true) (hx : x.okB = true) (hno : cueI x.Id xs < 0) (hl : xs.length < 32) (hz : InsAt xs x zs) : cueListB zs = true := by
  obtain ⟨k, hk, rfl, hR, hL⟩ := hz
  have hv' := hv
  simp only [cueListB, Bool.and_eq_true, decide_eq_true_eq, List.all_eq_true, List.mem_range, Bool.not_eq_true'] at hv'
  obtain ⟨⟨h1, h2⟩, h3⟩ := hv'
  have hfree : ∀ y ∈ xs, keyB y.Id ≠ keyB x.Id := fun y hy e => by
    have h4 := (idxI_ge (pCue x.Id) xs).2.2
    have h5 : xs.any (pCue x.Id) = true := List.any_eq_true.2 ⟨y, hy, by simp only [pCue, eq_key, decide_eq_true_eq]; exact e⟩
    rw [h5, decide_eq_true_eq] at h4
    unfold cueI at hno
    omega
  have hlen : (xs.take k ++ x :: xs.drop k).length = xs.length + 1 := by rw [List.length_append, List.length_cons, List.length_take, List.length_drop]; omega
  have hat : ∀ i (hi : i < (xs.take k ++ x :: xs.drop k).length), (∀ (h : i < k), (xs.take k ++ x :: xs.drop k)[i] = xs[i]'(by omega)) ∧ (i = k → (xs.take k ++ x :: xs.drop k)[i] = x) ∧ (∀ (h : k < i), (xs.take k ++ x :: xs.drop k)[i] = xs[i - 1]'(by omega)) := fun i hi => by
    refine ⟨fun h => ?_, fun h => ?_, fun h => ?_⟩
    · rw [List.getElem_append_left (by rw [List.length_take]; omega), List.getElem_take]
    · rw [List.getElem_append_right (by rw [List.length_take]; omega)]
      simp only [List.length_take, show i - min k xs.length = 0 by omega, List.getElem_cons_zero]
    · rw [List.getElem_append_right (by rw [List.length_take]; omega)]
      simp only [List.length_take, show i - min k xs.length = (i - 1 - k) + 1 by omega, List.getElem_cons_succ, List.getElem_drop]
      congr 1
      omega
  refine cues_good (by omega) (fun i hi => ?_) (dups_of ?_)
  · have hok : ((xs.take k ++ x :: xs.drop k)[i]).okB = true := by
      have hm := List.getElem_mem hi
      rcases List.mem_append.1 hm with h | h
      · exact allGood_ok h2 _ (List.mem_of_mem_take h)
      · rcases List.mem_cons.1 h with h | h
        · rw [h]; exact hx
        · exact allGood_ok h2 _ (List.mem_of_mem_drop h)
    cases i with
    | zero => exact good_zero (h := hi) hok
    | succ j =>
      refine good_succ (h := hi) hok ?_
      have a1 := hat j (by omega)
      have a2 := hat (j + 1) hi
      simp only [CueD.geB, Bool.not_eq_false']
      by_cases c1 : j + 1 < k
      · rw [a1.1 (by omega), a2.1 c1]
        have := allGood_lt h2 (i := j) (by omega)
        simpa only [CueD.geB, Bool.not_eq_false'] using this
      · by_cases c2 : j + 1 = k
        · rw [a1.1 (by omega), a2.2.1 c2]
          have h4 := hL (by omega) (by omega)
          have e : k - 1 = j := by omega
          simp only [e] at h4
          exact cueLt_total h4 (fun e => hfree _ (List.getElem_mem _) e.symm)
        · by_cases c3 : j = k
          · rw [a1.2.1 c3, a2.2.2 (by omega)]
            exact hR _ (by omega) (by omega)
          · rw [a1.2.2 (by omega), a2.2.2 (by omega)]
            have := allGood_lt h2 (i := j - 1) (by omega)
            simp only [CueD.geB, Bool.not_eq_false', show j - 1 + 1 = j by omega] at this
            simpa only [Nat.add_sub_cancel] using this
  · have hp : ((xs.take k ++ x :: xs.drop k).map (fun y => keyB y.Id)).Perm ((x :: xs).map (fun y => keyB y.Id)) := by
      refine List.Perm.map _ ?_
      have := (List.perm_middle (a := x) (l₁ := xs.take k) (l₂ := xs.drop k))
      rwa [List.take_append_drop] at this
    rw [hp.nodup_iff, List.map_cons, List.nodup_cons]
    refine ⟨fun hm => ?_, nodup_cues h3⟩
    obtain ⟨y, hy, e⟩ := List.mem_map.1 hm
    exact hfree y hy e
theorem ins_wf {xs zs : List CueD} {x : CueD} (h : ∀ y ∈ xs, y.wf) (hx : x.wf) (hz : InsAt xs x zs) : ∀ y ∈ zs, y.wf := by
  obtain ⟨k, _, rfl, _⟩ := hz
  intro y hy
  rcases List.mem_append.1 hy with hy | hy
  · exact h y (List.mem_of_mem_take hy)
  · rcases List.mem_cons.1 hy with rfl | hy
    · exact hx
    · exact h y (List.mem_of_mem_drop hy)
theorem ins_len {xs zs : List CueD} {x : CueD} (hz : InsAt xs x zs) : zs.length = xs.length + 1 := by
  obtain ⟨k, hk, rfl, _⟩ := hz
  rw [List.length_append, List.length_cons, List.length_take, List.length_drop]; omega
/-- a valid cue added to a valid list: the list with it, or 4 -/
def AddQ (w : World) (xs : List CueD) (x : CueD) (e : Ending) (w' : World) : Prop := IsX w w' ∧ (e = .returned (.tuple #[.slice none 0 0, .int .i64 4]) ∨
  ∃ g c zs, e = .returned (.tuple #[.slice (some ⟨g, 0, none⟩) zs.length c, .int .i64 0]) ∧ zs.length ≤ c ∧ InsAt xs x zs ∧ cueListB zs = true ∧ w'.ownsRow w.heap.size 60 6 (.slice (some ⟨g, 0, none⟩) zs.length c) zs.length (zs.flatMap CueD.cells))
set_option maxHeartbeats 3200000 in
set_option maxRecDepth 100000 in
theorem c_AddCue (g n c : Nat) (xs : List CueD) (x : CueD) (w : World) (hnn : n = xs.length) (hn : n < 20) (hc : n ≤ c) (hv : cueListB xs = true) (hw : ∀ y ∈ xs, y.wf) (hx : cueOk x) (hA : Rd CueD.cells 6 w (some ⟨g, 0, none⟩) xs) :
    Calls Try.prog 36 #[.slice (some ⟨g, 0, none⟩) n c, cueV x] w (AddQ w xs x) := by
  obtain ⟨hok, hwf⟩ := hx
  have hs0 : x.Id.size ≤ maxLen := by simp only [CueD.wf] at hwf; omega
  have hs1 : x.Target.size ≤ maxLen := by simp only [CueD.wf] at hwf; omega
  obtain ⟨W, hW⟩ : ∃ W, W = w.alloc (.cells #[.string x.Id, .int .i64 x.Time, .int .i64 x.Length, .string x.Target, .int .i64 x.Action, .int .i64 x.Val] 60) := ⟨_, rfl⟩
  have HXW := hide (show IsX w W from hW ▸ (IsX.refl w).alloc _)
  have HB := hide (show Blk W w.heap.size 60 #[.string x.Id, .int .i64 x.Time, .int .i64 x.Length, .string x.Target, .int .i64 x.Action, .int .i64 x.Val] from hW ▸ Blk.new w _ _)
  have HOK := hide (fun (V : World) (hV : IsX W V) => cb (c_l13Ok (some ⟨g, 0, none⟩) c xs V (by omega) hw (hA.x (HXW.out.trans hV))) hv)
  have HFD := hide (fun (V : World) (hV : IsX W V) => c_l13Find x.Id (some ⟨g, 0, none⟩) c xs V (by omega) (hA.x (HXW.out.trans hV)))
  have HONE := hide (fun (V : World) (hV : IsX W V) => cb (c_l13One x w.heap.size 0 V hs0 hs1 (HB.out.x hV).lt ((HB.out.x hV).cell 0) ((HB.out.x hV).cell 1) ((HB.out.x hV).cell 2) ((HB.out.x hV).cell 3) ((HB.out.x hV).cell 4) ((HB.out.x hV).cell 5)) hok)
  have HPUT := hide (fun (V : World) (hV : IsX W V) => c_l13Put g n c xs x V hnn (by omega) hc (hA.x (HXW.out.trans hV)))
  have HINS := hide (fun (h : cueI x.Id xs < 0) (zs : List CueD) (hz : InsAt xs x zs) => cues_ins hv hok h (by omega) hz)
  rw [← hnn] at HOK HFD
  clear hA hw hok hwf hs0 hs1 hnn
  unfold cueV at HPUT ⊢
  go_enter Try.func36, Try.ntmps36
  go_wp2_with fail
  rw [← hW]
  clear hW
  refine (HOK.out W (IsX.refl W)).mono ?_
  rintro e w1 ⟨rfl, hx1⟩
  have HX1 := hide hx1
  clear hx1
  go_wp2_with fail
  refine (HONE.out w1 HX1.out).mono ?_
  rintro e w2 ⟨rfl, hx2⟩
  have HX2 := hide (HX1.out.trans hx2)
  clear hx2
  have b0 := (HB.out.x HX2.out).cell 0
  simp at b0
  have lb := (HB.out.x HX2.out).lt
  go_wp2_with fail
  refine (HFD.out w2 HX2.out).mono ?_
  rintro e w3 ⟨rfl, hx3⟩
  have HX3 := hide (HX2.out.trans hx3)
  clear hx3 b0 lb
  obtain ⟨fi, hfi⟩ : ∃ f, f = cueI x.Id xs := ⟨_, rfl⟩
  rw [← hfi] at HINS ⊢
  clear hfi
  by_cases hf : 0 ≤ fi
  · have g0 : decide (fi ≥ 0) = true := decide_eq_true hf
    go_wp2_with fail
    go_ret2
    exact ⟨HXW.out.trans HX3.out, .inl rfl⟩
  · have g0 : decide (fi ≥ 0) = false := decide_eq_false (by omega)
    have g1 : ((n : Int) == 32) = false := by simp only [beq_eq_false_iff_ne, ne_eq]; omega
    have b0 := (HB.out.x HX3.out).cell 0
    have b1 := (HB.out.x HX3.out).cell 1
    have b2 := (HB.out.x HX3.out).cell 2
    have b3 := (HB.out.x HX3.out).cell 3
    have b4 := (HB.out.x HX3.out).cell 4
    have b5 := (HB.out.x HX3.out).cell 5
    simp at b0 b1 b2 b3 b4 b5
    have lb := (HB.out.x HX3.out).lt
    go_wp2_with fail
    refine (HPUT.out w3 HX3.out).mono ?_
    rintro e w4 ⟨g', c', zs, rfl, hcap, hz, ho, hx4⟩
    have HQ : Hid (AddQ w xs x (.returned (.tuple #[.slice (some ⟨g', 0, none⟩) zs.length c', .int .i64 0])) w4) := hide ⟨HXW.out.trans (HX3.out.trans hx4), .inr ⟨g', c', zs, rfl, hcap, hz, HINS.out (by omega) zs hz, row_le ho (HXW.out.trans HX3.out).size⟩⟩
    clear hcap hz ho hx4 b0 b1 b2 b3 b4 b5 lb
    generalize zs.length = m at HQ ⊢
    go_wp2_with fail
    go_ret2
    exact HQ.out
/-- a row of cues of its own, block X has been written to -/
structure CqQ (X : Nat) (N : Int) (v : Value) (n : Nat) (xs : List CueD) (w wr : World) : Prop where
  own : wr.ownsRow w.heap.size 60 6 v n (xs.flatMap CueD.cells)
  gr : w.grownBy wr (some X)
  src : SrcAt X N wr
  Xw : X < w.heap.size
section
variable {X n : Nat} {N : Int} {v : Value} {xs : List CueD} {w wr w1 : World}
theorem CqQ.pick {M : Int} (h : CqQ X N v n xs w wr) (hg : wr.grownBy w1 (some X)) (hat : SrcAt X M w1) : CqQ X M v n xs w w1 := ⟨own_grX h.own hg h.Xw, gr_tr h.gr hg, hat, h.Xw⟩
theorem CqQ.x (h : CqQ X N v n xs w wr) (hx : IsX wr w1) : CqQ X N v n xs w w1 := ⟨own_x' h.own hx, gr_x h.gr hx, h.src.x hx, h.Xw⟩
theorem CqQ.le {M : Int} (h : CqQ X N v n xs w wr) (hM : N ≤ M) : CqQ X M v n xs w wr := ⟨h.own, h.gr, h.src.le hM, h.Xw⟩
end
/-- drawn cues; block X has been written to -/
def CuesQ (X : Nat) (N : Int) (w : World) (e : Ending) (w' : World) : Prop := ∃ (A : Option Addr) (c : Nat) (xs : List CueD), e = .returned (.slice A xs.length c) ∧ xs.length ≤ c ∧ cueListB xs = true ∧ (∀ y ∈ xs, y.wf) ∧ Rd CueD.cells 6 w' A xs ∧ w.grownBy w' (some X) ∧ SrcAt X N w'
set_option maxHeartbeats 6400000 in
set_option maxRecDepth 100000 in
theorem c_l13Draw (X : Nat) (N : Int) (w : World) (hN : N ≤ 1099511610000) (hs : SrcAt X N w) : Calls Try.prog 24 #[.pointer (some ⟨X, 0, none⟩)] w (CuesQ X (N + 300) w) := by
  have HS := hide hs
  have hXw := hs.lt
  clear hs
  go_enter Try.func24, Try.ntmps24
  go_wp2_with fail
  obtain ⟨OB, hOB⟩ : ∃ OB, OB = w.heap.size := ⟨_, rfl⟩
  generalize hw0 : World.alloc w _ = w0
  have hT0 : CqQ X N (.slice (some ⟨OB, 0, none⟩) 0 0) 0 [] w w0 := by
    have hx0 : IsX w w0 := by rw [← hw0]; exact (IsX.refl w).alloc _
    refine ⟨?_, gr_of_x hx0 _, HS.out.x hx0, hXw⟩
    rw [← hw0, hOB]
    exact World.ownsRow_made (base := w.heap.size) (e := 60) (size := 6) w #[] 0 (Nat.le_refl _) (by simp [maxLen]) rfl
  rw [← hOB]
  have HT0 := hide hT0
  clear hw0 hOB hT0 HS hXw
  refine (c_pick X _ 9 w0 (by omega) (by omega) HT0.out.src).mono ?_
  rintro e w1 ⟨m, rfl, m0, m1, hg, hat⟩
  have hm8 : m ≤ 8 := by simpa using m1
  have HT1 := hide (HT0.out.pick hg hat)
  clear hg hat m1 HT0
  go_wp2_with fail
  go_loopw [3, 4] (fun ov kv wr => ∃ (k : Int) (xs : List CueD) (g c : Nat), kv = .int .i64 k ∧ ov = .slice (some ⟨g, 0, none⟩) xs.length c ∧ 0 ≤ k ∧ (xs.length : Int) + k ≤ m ∧ xs.length ≤ c ∧ Hid (cueListB xs = true ∧ ∀ y ∈ xs, y.wf) ∧ Hid (CqQ X (N + 2 + 20 * (m - k)) ov xs.length xs w wr)) (fun _ kv _ => (intOf kv).toNat)
  case atStart => exact ⟨m, [], _, _, rfl, rfl, m0, by simp, Nat.le_refl _, hide ⟨by decide, fun y hy => by simp at hy⟩, hide (HT1.out.le (by omega))⟩
  case round =>
    clear HT1
    obtain ⟨k, xs, g, c, rfl, rfl, hk0, hkl, hcap, HV, HT⟩ := hrel
    obtain ⟨n, hnn⟩ : ∃ n, n = xs.length := ⟨_, rfl⟩
    have HN := hide hnn
    rw [← hnn] at hkl hcap HT ⊢
    clear hnn
    by_cases hkp : 0 < k
    · go_wp2_with fail
      refine (c_l13DrawOne X _ wr (by omega) HT.out.src).mono ?_
      rintro e w5 ⟨x, rfl, hxo, hg, hat⟩
      have HT5 := hide (HT.out.pick hg hat)
      have HXO := hide hxo
      clear hg hat hxo HT
      have HADD := hide (c_AddCue g n c xs x w5 HN.out (by omega) hcap HV.out.1 HV.out.2 HXO.out (by
        have h := HT5.out.own
        exact Rd.of_own (by omega) CueD.cells_len h))
      have HSZ := hide (show w.heap.size ≤ w5.heap.size from HT5.out.gr.size)
      unfold cueV at HADD ⊢
      go_wp2_with fail
      refine HADD.out.mono ?_
      rintro e w6 ⟨hx6, hcase⟩
      have HT6 := hide (HT5.out.x hx6)
      clear hx6 HADD HT5
      rcases hcase with rfl | ⟨g', c', zs, rfl, hzc, hzi, hzv, hzo⟩
      · go_wp2_with fail
        go_roundw
        case rel => exact ⟨k - 1, xs, g, c, by go_num, by rw [HN.out], by omega, by rw [← HN.out]; omega, by rw [← HN.out]; exact hcap, HV, by rw [← HN.out]; exact hide (HT6.out.le (by omega))⟩
        case measure => simp [intOf]; omega
      · have hzl := ins_len hzi
        rw [← HN.out] at hzl
        have HVZ : Hid (cueListB zs = true ∧ ∀ y ∈ zs, y.wf) := hide ⟨hzv, ins_wf HV.out.2 HXO.out.2 hzi⟩
        have HTZ : Hid (CqQ X (N + 2 + 20 * (m - (k - 1))) (.slice (some ⟨g', 0, none⟩) zs.length c') zs.length zs w w6) := hide ⟨row_le hzo HSZ.out, HT6.out.gr, HT6.out.src.le (by omega), HT6.out.Xw⟩
        clear hzi hzv hzo HT6 HXO HV
        obtain ⟨nz, hnz⟩ : ∃ n, n = zs.length := ⟨_, rfl⟩
        have HNZ := hide hnz
        rw [← hnz] at hzl hzc HTZ ⊢
        have HZL := hide hzl
        clear hnz hzl
        go_wp2_with fail
        go_roundw
        case rel => exact ⟨k - 1, zs, g', c', by go_num, by rw [HNZ.out], by omega, by rw [← HNZ.out]; have := HZL.out; omega, by rw [← HNZ.out]; exact hzc, HVZ, by rw [← HNZ.out]; exact HTZ⟩
        case measure => simp [intOf]; omega
    · obtain rfl : k = 0 := by omega
      go_wp2_with fail
      go_ret
      have h := HT.out
      rw [HN.out] at h
      exact ⟨some ⟨g, 0, none⟩, c, xs, by rw [← HN.out]; rfl, by rw [← HN.out]; exact hcap, HV.out.1, HV.out.2, Rd.of_own (by omega) CueD.cells_len h.own, h.gr, h.src.le (by omega)⟩
theorem c_R8Cues (A : Option Addr) (c : Nat) (bs : List Int) (w : World) (hn : bs.length ≤ 1099511627776) (hb : ∀ x ∈ bs, byteWf x) (hA : Rd byteC 1 w A bs) :
    Calls Try.prog 12 #[.slice A bs.length c] w fun e w' => ∃ (A' : Option Addr) (c' : Nat) (xs : List CueD), e = .returned (.slice A' xs.length c') ∧ xs.length ≤ c' ∧ cueListB xs = true ∧ (∀ y ∈ xs, y.wf) ∧ Rd CueD.cells 6 w' A' xs ∧ IsX w w' := by
  have HF := hide (c_l00From A c bs w hn hb hA)
  generalize bs.length = bl at HF ⊢
  clear hn hb hA
  go_enter Try.func12, Try.ntmps12
  go_wp2_with fail
  refine HF.out.mono ?_
  rintro e w1 ⟨rfl, hs, hx⟩
  obtain ⟨X, hX⟩ : ∃ X, X = w.heap.size := ⟨_, rfl⟩
  rw [← hX] at hs ⊢
  have hXw : w.heap.size ≤ X := by omega
  clear hX
  have HX1 := hide hx
  have HS1 := hide hs
  clear hx hs HF
  go_wp2_with fail
  refine (c_l13Draw X 0 w1 (by omega) HS1.out).mono ?_
  rintro e w2 ⟨A2, c2, xs, rfl, hcap, hv, hw, hrd, hg, hat⟩
  have HQ : Hid (xs.length ≤ c2 ∧ cueListB xs = true ∧ (∀ y ∈ xs, y.wf) ∧ Rd CueD.cells 6 w2 A2 xs ∧ IsX w w2) := hide ⟨hcap, hv, hw, hrd, IsX.grown HX1.out hg (by intro z hz; injection hz with hz; omega)⟩
  obtain ⟨n, hnn⟩ : ∃ n, n = xs.length := ⟨_, rfl⟩
  have HN := hide hnn
  rw [← hnn]
  clear hrd hg hat hcap hv hw hnn HX1 HS1
  go_wp2_with fail
  go_ret
  exact ⟨A2, c2, xs, by rw [← HN.out]; rfl, HQ.out⟩
end Go.Proofs.Ytegehdhdlljikaa
