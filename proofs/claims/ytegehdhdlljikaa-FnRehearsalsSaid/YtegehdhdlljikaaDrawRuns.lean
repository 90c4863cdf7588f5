/- Rehearsals that are drawn: valid ones. Conditions: fewer than 2^39 choices. -/
import Derived.Test.YtegehdhdlljikaaDrawRun
import Derived.Test.YtegehdhdlljikaaRehLaw
namespace Go.Proofs.Ytegehdhdlljikaa
set_option linter.unusedVariables false
open Go.RowKit Go.ChangeShapes

def runC (day : Int) (ca : Option Addr) (q cc : Nat) (ra : Option Addr) (l rc : Nat) : List Value := [.int .i64 day, .slice ca q cc, .slice ra l rc]
theorem runs_readsD (w : World) (day : Int) (ca : Option Addr) (q cc : Nat) (ra : Option Addr) (l rc : Nat) : Reads (w.alloc (.cells #[.int .i64 day, .slice ca q cc, .slice ra l rc] 31)) (w.alloc (.cells #[.int .i64 day, .slice ca q cc, .slice ra l rc] 31)).heap.size 3 (some ⟨w.heap.size, 0, none⟩) 1 (runC day ca q cc ra l rc) := by
  have h := Rd.reads (cells := fun _ : Unit => runC day ca q cc ra l rc) (k := 3) (xs := [()]) (by omega) (fun _ => rfl) (Blk.rd (cells := fun _ : Unit => runC day ca q cc ra l rc) (k := 3) (xs := [()]) (t := 31) (fun _ => rfl) (Blk.new w 31 #[.int .i64 day, .slice ca q cc, .slice ra l rc]))
  simpa using h
theorem run_oneD (day : Int) (ca : Option Addr) (q cc : Nat) (ra : Option Addr) (l rc : Nat) : ∀ u ∈ runC day ca q cc ra l rc, u.oneCell' = true := by
  intro u hu
  simp only [runC, List.mem_cons, List.not_mem_nil, or_false] at hu
  rcases hu with rfl | rfl | rfl <;> rfl
theorem cuesDr.ok {cs : List ByteArray} (h : cuesDr cs) : cuesB cs = true := all_good (fun i hi => by
  have hn := (cue8_ok _ (h.2 _ (List.getElem_mem hi))).1
  cases i with
  | zero => exact good_zero (h := hi) hn
  | succ j =>
    refine good_succ (h := hi) hn ?_
    simp only [strGe, Bool.not_eq_false']
    rw [less_key, decide_eq_true_eq]
    exact List.pairwise_iff_getElem.1 h.1 j (j + 1) (by omega) hi (by omega))
theorem remsDr.ok {lo hi : Int} {rm : List RemarkD} (h : remsDr lo hi rm) (h0 : 1 ≤ lo) (h1 : hi ≤ 1000) : remarksB rm = true := all_good (fun i hi => by
  obtain ⟨k1, k2, k3, k4⟩ := h.2 _ (List.getElem_mem hi)
  have hn : (rm[i]).okB = true := by
    simp only [RemarkD.okB, (who5_ok _ k3).1, (cue3_ok _ k4).1, Bool.and_true]
    exact inB_true.2 ⟨by omega, by omega⟩
  cases i with
  | zero => exact good_zero (h := hi) hn
  | succ j =>
    refine good_succ (h := hi) hn ?_
    have := List.pairwise_iff_getElem.1 h.1 j (j + 1) (by omega) hi (by omega)
    simp only [RemarkD.geB, decide_eq_false_iff_not]; omega)
/-- rehearsals as they are drawn, before a day -/
def runsDr (day : Int) (xs : List RunD) : Prop := runsB xs = true ∧ (∀ x ∈ xs, x.wf ∧ x.small 1048576) ∧ (∀ x ∈ xs, x.Day < day ∧ ∀ r ∈ x.Remarks, r.Number ≤ 12 * xs.length ∧ r.Who ∈ who5)
theorem runsDr.snoc {day day' : Int} {xs : List RunD} {cs : List ByteArray} {rm : List RemarkD} (h : runsDr day xs) (hl : xs.length < 4) (hd0 : 0 ≤ day) (hd1 : day ≤ 2000) (hd' : day < day') (hc : cuesDr cs) (hcl : cs.length ≤ 4) (hr : remsDr (lastTo xs xs.length + 1) (lastTo xs xs.length + 1 + 10) rm) (hrl : rm.length ≤ 3) (hl0 : 0 ≤ lastTo xs xs.length) : runsDr day' (xs ++ [⟨day, cs, rm⟩]) := by
  obtain ⟨h1, h2, h3⟩ := h
  have hlast := last_bd (xs := xs) (m := 12 * xs.length) (by omega) (fun x hx r hr => ((h3 x hx).2 r hr).1) xs.length (Nat.le_refl _)
  have hok : (⟨day, cs, rm⟩ : RunD).okB = true := ok_all (inB_true.2 ⟨hd0, by show day ≤ 99999; omega⟩) hc.ok (by show ¬ 32 < cs.length; omega) (by show ¬ 8 < rm.length; omega) (hr.ok (by omega) (by omega))
  refine ⟨runs_snoc h1 (by omega) hok (fun y hy => (h3 y hy).1) (fun r hr0 => ?_), fun x hx => ?_, fun x hx => ?_⟩
  · have := (hr.2 r (List.mem_of_getElem? hr0)).1
    omega
  · rcases List.mem_append.1 hx with hx | hx
    · exact h2 x hx
    · simp only [List.mem_singleton] at hx
      subst hx
      refine ⟨⟨⟨by show _ ≤ day; omega, by show day ≤ _; omega⟩, ⟨by unfold maxLen; simp only; omega, fun y hy => ?_⟩, ⟨by unfold maxLen; simp only; omega, fun y hy => ?_⟩⟩, ?_⟩
      · have := (cue8_ok y (hc.2 y hy)).2
        unfold strWf maxLen; omega
      · obtain ⟨k1, k2, k3, k4⟩ := hr.2 y hy
        have e1 := (who5_ok _ k3).2
        have e2 := (cue3_ok _ k4).2
        exact ⟨⟨by omega, by omega⟩, by unfold maxLen; omega, by unfold maxLen; omega⟩
      · simp only [RunD.small]; omega
  · rcases List.mem_append.1 hx with hx | hx
    · obtain ⟨k1, k2⟩ := h3 x hx
      refine ⟨by omega, fun r hr' => ?_⟩
      have := k2 r hr'
      simp only [List.length_append, List.length_singleton]
      exact ⟨by omega, this.2⟩
    · simp only [List.mem_singleton] at hx
      subst hx
      refine ⟨hd', fun r hr' => ?_⟩
      obtain ⟨k1, k2, k3, k4⟩ := hr.2 r hr'
      simp only [List.length_append, List.length_singleton]
      exact ⟨by omega, k3⟩
theorem last_nn {xs : List RunD} (h : runsB xs = true) : ∀ k, k ≤ xs.length → 0 ≤ lastTo xs k
  | 0, _ => Int.le_refl _
  | k + 1, hk => by
    have ih := last_nn h k (by omega)
    have hkx : k < xs.length := by omega
    simp only [runsB, Bool.and_eq_true, decide_eq_true_eq, List.all_eq_true, List.mem_range] at h
    have hrm := (ok_parts (allGood_ok h.1.2 _ (List.getElem_mem hkx))).2.2.1
    unfold lastTo at ih ⊢
    rw [upTo_succ]
    simp only [lastStep, List.getElem?_eq_getElem hkx]
    cases hr : xs[k].Remarks.getLast? with
    | none => exact ih
    | some r =>
      have := allGood_ok hrm r (List.mem_of_getLast? hr)
      simp only [RemarkD.okB, Bool.and_eq_true] at this
      have := (inB_true.1 this.1.1).1
      simp only; omega
theorem who5_new : ∀ s ∈ who5, s ≠ nmNew := by
  intro s hs e
  have h := congrArg keyB e
  simp only [who5, List.mem_cons, List.not_mem_nil, or_false] at hs
  rcases hs with rfl | rfl | rfl | rfl | rfl <;> simp [keyB, nmNew] at h
theorem runsDr.drawn {day : Int} {xs : List RunD} (h : runsDr day xs) (hl : xs.length ≤ 4) (hd : day ≤ 5000) : DrawnR xs := by
  obtain ⟨h1, h2, h3⟩ := h
  refine ⟨h1, hl, h2, fun x hx => ?_⟩
  obtain ⟨k1, k2⟩ := h3 x hx
  refine ⟨by omega, fun r hr => ?_⟩
  obtain ⟨e1, e2⟩ := k2 r hr
  exact ⟨by omega, who5_new _ e2⟩
theorem runs_gaps {xs : List RunD} (h : runsB xs = true) : ∀ j (hj : j < xs.length), remarksB xs[j].Remarks = true ∧ gapB xs j = true := fun j hj => by
  simp only [runsB, Bool.and_eq_true, decide_eq_true_eq, List.all_eq_true, List.mem_range] at h
  exact ⟨(ok_parts (allGood_ok h.1.2 _ (List.getElem_mem hj))).2.2.1, h.2 j hj⟩
/-- a row of rehearsals of its own, their own rows, block X has been written to -/
structure RuQ (X : Nat) (N : Int) (v : Value) (rs : List RunR) (w wr : World) : Prop where
  own : wr.ownsRow w.heap.size 31 3 v rs.length (rs.flatMap RunR.cells)
  cu : ∀ r ∈ rs, wr.ownsRow w.heap.size 9 1 (.slice r.CuesA r.Cues.length r.CuesC) r.Cues.length (r.Cues.flatMap strC)
  rm : ∀ r ∈ rs, wr.ownsRow w.heap.size 28 4 (.slice r.RemarksA r.Remarks.length r.RemarksC) r.Remarks.length (r.Remarks.flatMap RemarkD.cells)
  gr : w.grownBy wr (some X)
  src : SrcAt X N wr
  Xw : X < w.heap.size
section
variable {X : Nat} {N : Int} {v : Value} {rs : List RunR} {w wr w1 : World}
theorem RuQ.x (h : RuQ X N v rs w wr) (hx : IsX wr w1) : RuQ X N v rs w w1 := ⟨own_x' h.own hx, fun r hr => own_x' (h.cu r hr) hx, fun r hr => own_x' (h.rm r hr) hx, gr_x h.gr hx, h.src.x hx, h.Xw⟩
theorem RuQ.pick {M : Int} (h : RuQ X N v rs w wr) (hg : wr.grownBy w1 (some X)) (hat : SrcAt X M w1) : RuQ X M v rs w w1 :=
  ⟨own_grX h.own hg h.Xw, fun r hr => own_grX (h.cu r hr) hg h.Xw, fun r hr => own_grX (h.rm r hr) hg h.Xw, gr_tr h.gr hg, hat, h.Xw⟩
theorem RuQ.le {M : Int} (h : RuQ X N v rs w wr) (hM : N ≤ M) : RuQ X M v rs w wr := ⟨h.own, h.cu, h.rm, h.gr, h.src.le hM, h.Xw⟩
theorem RuQ.app {r : RunR} {v' : Value} {o : Obj} {L' : List Value} (h : RuQ X N v rs w wr) (hc : wr.ownsRow w.heap.size 9 1 (.slice r.CuesA r.Cues.length r.CuesC) r.Cues.length (r.Cues.flatMap strC)) (hr : wr.ownsRow w.heap.size 28 4 (.slice r.RemarksA r.Remarks.length r.RemarksC) r.Remarks.length (r.Remarks.flatMap RemarkD.cells))
    (hg : (wr.alloc o).grownBy w1 v.ownBlock) (ho : w1.ownsRow w.heap.size 31 3 v' (rs.length + 1) L') (hL : L' = rs.flatMap RunR.cells ++ r.cells) : RuQ X N v' (rs ++ [r]) w w1 := by
  have hq := h.x ((IsX.refl wr).alloc o)
  have hc' := own_x' hc ((IsX.refl wr).alloc o)
  have hr' := own_x' hr ((IsX.refl wr).alloc o)
  refine ⟨?_, fun a ha => ?_, fun a ha => ?_, gr_app h.gr h.own hg (Nat.le_refl _), hq.src.gr hg (fun g hg => by have := (h.own.lt g hg).1; have := h.Xw; omega), h.Xw⟩
  · have e : (rs ++ [r]).flatMap RunR.cells = L' := by rw [hL]; simp
    rw [e, List.length_append]; exact ho
  · rcases List.mem_append.1 ha with ha | ha
    · exact (hq.cu a ha).kept hg (own_type (hq.cu a ha) hq.own (by omega))
    · simp only [List.mem_singleton] at ha; subst ha
      exact hc'.kept hg (own_type hc' hq.own (by omega))
  · rcases List.mem_append.1 ha with ha | ha
    · exact (hq.rm a ha).kept hg (own_type (hq.rm a ha) hq.own (by omega))
    · simp only [List.mem_singleton] at ha; subst ha
      exact hr'.kept hg (own_type hr' hq.own (by omega))
end
theorem RuQ.reads {X : Nat} {N : Int} {A : Option Addr} {c : Nat} {rs : List RunR} {w wr : World} (h : RuQ X N (.slice A rs.length c) rs w wr) : RdRun 0 wr A (rs.map RunR.data) :=
  ⟨rs, rfl, Own.rd (cells := RunR.cells) (k := 3) (by omega) RunR.cells_len h.own rfl, fun r hr => ⟨⟨Own.rd (cells := strC) (k := 1) (by omega) strC_len (h.cu r hr) rfl, fun _ _ _ _ => Nat.zero_le _⟩, ⟨Own.rd (cells := RemarkD.cells) (k := 4) (by omega) RemarkD.cells_len (h.rm r hr) rfl, fun _ _ _ _ => Nat.zero_le _⟩⟩⟩
/-- drawn rehearsals; block X has been written to -/
def RunsQ (X : Nat) (N : Int) (w : World) (e : Ending) (w' : World) : Prop := ∃ (A : Option Addr) (c : Nat) (xs : List RunD), e = .returned (.slice A xs.length c) ∧ DrawnR xs ∧ xs.length ≤ c ∧ RdRun 0 w' A xs ∧ w.grownBy w' (some X) ∧ SrcAt X N w'
set_option maxHeartbeats 6400000 in
set_option maxRecDepth 100000 in
theorem c_l21Draw (X : Nat) (N : Int) (w : World) (hN : N ≤ 1099511610000) (hs : SrcAt X N w) : Calls Try.prog 16 #[.pointer (some ⟨X, 0, none⟩)] w (RunsQ X (N + 400) w) := by
  have HS := hide hs
  have hXw := hs.lt
  have HI := hide (info_parts Run_info)
  clear hs
  go_enter Try.func16, Try.ntmps16
  go_wp2_with fail
  obtain ⟨OB, hOB⟩ : ∃ OB, OB = w.heap.size := ⟨_, rfl⟩
  generalize hw0 : World.alloc w _ = w0
  have hT0 : RuQ X N (.slice (some ⟨OB, 0, none⟩) 0 0) [] w w0 := by
    have hx0 : IsX w w0 := by rw [← hw0]; exact (IsX.refl w).alloc _
    refine ⟨?_, fun r hr => by simp at hr, fun r hr => by simp at hr, gr_of_x hx0 _, HS.out.x hx0, hXw⟩
    rw [← hw0, hOB]
    have h := World.ownsRow_made (base := w.heap.size) (e := 31) (size := 3) w #[] 0 (Nat.le_refl _) (by simp [maxLen]) rfl
    simpa using h
  rw [← hOB]
  have HT0 := hide hT0
  clear hw0 hOB hT0 HS hXw
  refine (c_pick X _ 50 w0 (by omega) (by omega) HT0.out.src).mono ?_
  rintro e w1 ⟨d0, rfl, d00, d01, hg, hat⟩
  have hd0 : d0 ≤ 49 := by simpa using d01
  have HT1 := hide (HT0.out.pick hg hat)
  clear hg hat d01 HT0
  go_wp2_with fail
  refine (c_pick X _ 5 w1 (by omega) (by omega) HT1.out.src).mono ?_
  rintro e w2 ⟨m, rfl, m0, m1, hg, hat⟩
  have hm4 : m ≤ 4 := by simpa using m1
  have HT2 := hide (HT1.out.pick hg hat)
  clear hg hat m1 HT1
  go_wp2_with fail
  go_loopw [3, 4, 5] (fun ov dv kv wr => ∃ (k day : Int) (rs : List RunR) (A : Option Addr) (c : Nat), kv = .int .i64 k ∧ dv = .int .i64 day ∧ ov = .slice A rs.length c ∧ 0 ≤ k ∧ (rs.length : Int) + k ≤ m ∧ 0 ≤ day ∧ day ≤ 49 + 20 * (rs.length : Int) ∧ Hid (runsDr day (rs.map RunR.data)) ∧ Hid (RuQ X (N + 4 + 70 * (rs.length : Int)) ov rs w wr)) (fun _ _ kv _ => (intOf kv).toNat)
  case atStart => exact ⟨m, d0, [], _, _, rfl, rfl, rfl, m0, by simp, d00, by simp; omega, hide ⟨by decide, fun x hx => by simp at hx, fun x hx => by simp at hx⟩, hide (HT2.out.le (by simp; omega))⟩
  case round =>
    clear HT2
    obtain ⟨k, day, rs, A, c, rfl, rfl, rfl, hk0, hkl, hd0', hd1', HD, HT⟩ := hrel
    obtain ⟨n, hnn⟩ : ∃ n, n = rs.length := ⟨_, rfl⟩
    have HN := hide hnn
    rw [← hnn] at hkl hd1' HT ⊢
    clear hnn
    by_cases hkp : 0 < k
    · have hn4 : n < 4 := by omega
      have HXL := hide (show (rs.map RunR.data).length = n by rw [List.length_map]; exact HN.out.symm)
      have HLA := hide (show Calls Try.prog 29 #[.slice A n c] wr fun e w' => e = .returned (.int .i64 (lastTo (rs.map RunR.data) n)) ∧ IsX wr w' from by
        have hrd := (show RuQ X (N + 4 + 70 * (n : Int)) (.slice A rs.length c) rs w wr from by rw [← HN.out]; exact HT.out).reads
        have h := c_l21Last A c (rs.map RunR.data) n wr (by rw [HXL.out]; exact Nat.le_refl _) (by rw [HXL.out]; omega) (fun x hx => by have := (HD.out.2.1 x hx).2; simp only [RunD.small] at this ⊢; omega) (fun j hj _ => runs_gaps HD.out.1 j hj) hrd
        exact h)
      have hb0 : 0 ≤ lastTo (rs.map RunR.data) n := last_nn HD.out.1 n (by rw [HXL.out]; exact Nat.le_refl _)
      have hb1 : lastTo (rs.map RunR.data) n ≤ 12 * n := by
        have h := last_bd (xs := rs.map RunR.data) (m := 12 * n) (by omega) (fun x hx r hr => by have := ((HD.out.2.2 x hx).2 r hr).1; rw [HXL.out] at this; exact this) n (by rw [HXL.out]; exact Nat.le_refl _)
        exact h
      obtain ⟨la, hla⟩ : ∃ la, la = lastTo (rs.map RunR.data) n := ⟨_, rfl⟩
      have HLL := hide hla
      rw [← hla] at HLA hb0 hb1
      clear hla
      go_wp2_with fail
      refine HLA.out.mono ?_
      rintro e w5 ⟨rfl, hx5⟩
      have HT5 := hide (HT.out.x hx5)
      clear hx5 HLA HT
      go_wp2_with fail
      refine (c_l21DrawRun X _ day (la + 1) w5 (by omega) (by unfold intWf; omega) (by omega) (by omega) HT5.out.src).mono ?_
      rintro e w6 ⟨ca, ra, cc, rc, cs, rm, rfl, hcl, hrl, hcs, hrm, hoc, hor, hg, hat⟩
      have HT6 := hide (HT5.out.pick hg hat)
      have HOC := hide (row_le hoc (show w.heap.size ≤ w5.heap.size from HT5.out.gr.size))
      have HOR := hide (row_le hor (show w.heap.size ≤ w5.heap.size from HT5.out.gr.size))
      have HCS := hide hcs
      have HRM := hide hrm
      obtain ⟨q, hq⟩ : ∃ q, q = cs.length := ⟨_, rfl⟩
      obtain ⟨l, hl⟩ : ∃ l, l = rm.length := ⟨_, rfl⟩
      have HQ := hide hq
      have HL := hide hl
      rw [← hq] at hcl ⊢
      rw [← hl] at hrl ⊢
      have HSZ := hide (HT6.out.gr.size)
      clear hg hat hoc hor hcs hrm HT5 hq hl
      go_wp2_with (at_builtin; obtain ⟨i0, hi0, hz0, hz1, hz2⟩ := HI.out; refine wpList_append_any _ rfl (.tmp 15) (.tmp 22) _ rfl w.heap.size 31 i0 _ 3 56 Try.underlying24 hi0 hz0 hz1 hz2 rfl (by omega) (.slice A n c) n (rs.flatMap RunR.cells) rfl (by have h := HT6.out.own; rw [← HN.out] at h; exact h.alloc _) _ (some ⟨w6.heap.size, 0, none⟩) 1 1 (runC day ca q cc ra l rc) rfl (runs_readsD w6 day ca q cc ra l rc) (run_oneD day ca q cc ra l rc) (by simp only [maxLen]; omega) (by omega) (by have := HSZ.out; simp; omega) ?_; clear hi0 hz0 hz1 hz2; intro vN wN hownN hgN hatN; obtain ⟨A', c', rfl⟩ := row_slice4 hownN; have HON := hide hownN; have HGN := hide hgN; clear hownN hgN hatN)
      have HTN := hide (HT6.out.app (r := ⟨day, ca, cc, cs, ra, rc, rm⟩) HOC.out HOR.out HGN.out (by rw [← HN.out]; exact HON.out) (by rw [HQ.out, HL.out]; rfl))
      clear HON HGN HT6 HOC HOR HSZ
      go_wp2_with fail
      refine (c_pick X _ 20 wN (by omega) (by omega) HTN.out.src).mono ?_
      rintro e w7 ⟨st, rfl, s0, s1, hg, hat⟩
      have hst : st ≤ 19 := by simpa using s1
      have HT7 := hide ((HTN.out.pick hg hat).le (M := N + 4 + 70 * ((n : Int) + 1)) (by omega))
      have HDN := hide (HD.out.snoc (day' := day + (1 + st)) (cs := cs) (rm := rm) (by rw [HXL.out]; exact hn4) hd0' (by omega) (by omega) HCS.out (by rw [← HQ.out]; exact hcl) (by rw [HXL.out, ← HLL.out]; exact HRM.out) (by rw [← HL.out]; exact hrl) (by rw [HXL.out, ← HLL.out]; exact hb0))
      clear hg hat s1 HTN HD HCS HRM
      go_wp2_with fail
      go_roundw
      case rel => exact ⟨k - 1, day + (1 + st), rs ++ [⟨day, ca, cc, cs, ra, rc, rm⟩], A', c', by go_num, by go_num, by simp [← HN.out], by omega, by simp [← HN.out]; omega, by omega, by simp [← HN.out]; omega, by rw [List.map_append]; exact HDN, by have h := HT7.out; simpa [← HN.out] using hide h⟩
      case measure => simp [intOf]; omega
    · obtain rfl : k = 0 := by omega
      go_wp2_with fail
      go_ret
      have h := HT.out
      have hc : n ≤ c := by
        rcases h.own.2 with ⟨hv, h0⟩ | ⟨g, cap, cur, hv, _, _, h1, _⟩
        · rw [HN.out, h0]; exact Nat.zero_le _
        · injection hv with _ _ hv; rw [hv, HN.out]; exact h1
      rw [HN.out] at h
      exact ⟨A, c, rs.map RunR.data, by rw [List.length_map, ← HN.out]; rfl, HD.out.drawn (by rw [List.length_map, ← HN.out]; omega) (by omega), by rw [List.length_map, ← HN.out]; exact hc, h.reads, h.gr, h.src.le (by rw [← HN.out]; omega)⟩
theorem c_R8Runs (A : Option Addr) (c : Nat) (bs : List Int) (w : World) (hn : bs.length ≤ 1099511627776) (hb : ∀ x ∈ bs, byteWf x) (hA : Rd byteC 1 w A bs) :
    Calls Try.prog 5 #[.slice A bs.length c] w fun e w' => ∃ (A' : Option Addr) (c' : Nat) (xs : List RunD), e = .returned (.slice A' xs.length c') ∧ DrawnR xs ∧ xs.length ≤ c' ∧ RdRun 0 w' A' xs ∧ IsX w w' := by
  have HF := hide (c_l00From A c bs w hn hb hA)
  generalize bs.length = bl at HF ⊢
  clear hn hb hA
  go_enter Try.func5, Try.ntmps5
  go_wp2_with fail
  refine HF.out.mono ?_
  rintro e w1 ⟨rfl, hs, hx⟩
  obtain ⟨X, hX⟩ : ∃ X, X = w.heap.size := ⟨_, rfl⟩
  rw [← hX] at hs ⊢
  have hXw : w.heap.size ≤ X := by omega
  clear hX
  have HX1 := hide hx
  have HS1 := hide hs
  clear hx hs HF
  go_wp2_with fail
  refine (c_l21Draw X 0 w1 (by omega) HS1.out).mono ?_
  rintro e w2 ⟨A2, c2, xs, rfl, hps, hcap, hrd, hg, hat⟩
  have HQ : Hid (DrawnR xs ∧ xs.length ≤ c2 ∧ RdRun 0 w2 A2 xs ∧ IsX w w2) := hide ⟨hps, hcap, hrd, IsX.grown HX1.out hg (by intro z hz; injection hz with hz; omega)⟩
  obtain ⟨n, hnn⟩ : ∃ n, n = xs.length := ⟨_, rfl⟩
  have HN := hide hnn
  rw [← hnn]
  clear hps hrd hg hat hcap hnn HX1 HS1
  go_wp2_with fail
  go_ret
  exact ⟨A2, c2, xs, by rw [← HN.out]; rfl, HQ.out⟩
end Go.Proofs.Ytegehdhdlljikaa
