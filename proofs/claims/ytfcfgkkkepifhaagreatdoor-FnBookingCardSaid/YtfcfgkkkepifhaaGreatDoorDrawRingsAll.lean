/- Joined texts: DrawRing, DrawRings. Conditions: told in each. -/
import Derived.Test.YtfcfgkkkepifhaaGreatDoorDraws
import Derived.Test.YtfcfgkkkepifhaaGreatDoorFlatRing
import Derived.Test.YtfcfgkkkepifhaaGreatDoorRings
/- DrawRing -/
namespace Go.Proofs.YtfcfgkkkepifhaaGreatDoor
set_option linter.unusedVariables false
open Go.RowKit Go.ChangeShapes

theorem gr_app {w w1 : World} {X base e n : Nat} {size : Nat} {v : Value} {L : List Value} {o : Obj} {w0 : World} (h : w0.grownBy w (some X)) (ho : w.ownsRow base e size v n L) (hg : (w.alloc o).grownBy w1 v.ownBlock) (hb : w0.heap.size ≤ base) : w0.grownBy w1 (some X) :=
  ⟨hg.os.trans h.os, hg.tape.trans h.tape, hg.output.trans h.output, Nat.le_trans h.size (Nat.le_trans (by simp) hg.size), fun k hk hne => by
    rw [hg.block k (by have := h.size; simp; omega) (fun e => by have := (ho.lt k e.symm).1; omega)]
    rw [(IsX.alloc (IsX.refl w) o).below.block k (Nat.lt_of_lt_of_le hk h.size)]
    exact h.block k hk hne⟩
theorem gr_far {w w1 : World} {X g : Nat} (h : w.grownBy w1 (some X)) (hg : w.heap.size ≤ g) (j : Nat) (u : Value) : w.grownBy (w1.setCell ⟨g, j, none⟩ u) (some X) :=
  ⟨h.os, h.tape, h.output, by simpa [World.setCell] using h.size, fun k hk hne => (Below.heap_setCell w1 ⟨g, j, none⟩ u k (show k ≠ g by omega)).trans (h.block k hk hne)⟩
theorem SrcAt.gr {w w1 : World} {X : Nat} {N : Int} {row : Option Nat} (h : SrcAt X N w) (hg : w.grownBy w1 row) (hr : ∀ g, row = some g → X < g) : SrcAt X N w1 := by
  obtain ⟨A, c, xs, a, s, h1, h2, h3, h4, h5, h6, h7, h8⟩ := h
  refine ⟨A, c, xs, a, s, h1.gr hg (fun e => by have := hr X e.symm; omega), h2, h3, h4, h5, ?_, h7, h8⟩
  intro i x hi
  obtain ⟨b, off, e, hb2, hc⟩ := h6 i x hi
  have hbb := h7 (by intro e; rw [e] at hi; simp at hi) b off e
  exact ⟨b, off, e, Nat.lt_of_lt_of_le hb2 hg.size, fun j u hu => (World.cell?_of_block (a := ⟨b, off + i * 1 + j, none⟩) (hg.block b hb2 (fun e => by have := hr b e.symm; omega))).trans (hc j u hu)⟩

def ringV (x : RingD) : Value := .agg #[.int .i64 x.Radius, .int .i64 x.Count, .int .i64 x.From, .int .i64 x.Step, .int .i64 x.Price]
def RingD.sm (x : RingD) : Prop := (1 ≤ x.Count ∧ x.Count ≤ 8) ∧ (0 ≤ x.From ∧ x.From ≤ 359994) ∧ (10000 ≤ x.Step ∧ x.Step ≤ 29999) ∧ (0 ≤ x.Price ∧ x.Price ≤ 40)
/-- a ring by itself -/
def RingQ (X : Nat) (N : Int) (r : Int) (w : World) (e : Ending) (w' : World) : Prop := ∃ x : RingD, e = .returned (ringV x) ∧ x.Radius = r ∧ x.sm ∧ w.grownBy w' (some X) ∧ SrcAt X N w'
structure OneS (X : Nat) (N : Int) (RB XB : Nat) (x : RingD) (w wr : World) : Prop where
  res : Blk wr RB 42 #[.int .i64 0, .int .i64 0, .int .i64 0, .int .i64 0, .int .i64 0]
  blk : Blk wr XB 42 #[.int .i64 x.Radius, .int .i64 x.Count, .int .i64 x.From, .int .i64 x.Step, .int .i64 x.Price]
  gr : w.grownBy wr (some X)
  src : SrcAt X N wr
  rw_ : w.heap.size ≤ RB
  xw : w.heap.size ≤ XB
  ne : RB ≠ XB
  Xw : X < w.heap.size
section
variable {X RB XB : Nat} {N : Int} {q : RingD} {w wr w1 : World}
theorem OneS.x (h : OneS X N RB XB q w wr) (hx : IsX wr w1) : OneS X N RB XB q w w1 := ⟨h.res.x hx, h.blk.x hx, gr_x h.gr hx, h.src.x hx, h.rw_, h.xw, h.ne, h.Xw⟩
theorem OneS.pick {M : Int} (h : OneS X N RB XB q w wr) (hg : wr.grownBy w1 (some X)) (hat : SrcAt X M w1) : OneS X M RB XB q w w1 :=
  ⟨h.res.gr hg (fun e => by injection e with e; have := h.rw_; have := h.Xw; omega), h.blk.gr hg (fun e => by injection e with e; have := h.xw; have := h.Xw; omega), gr_tr h.gr hg, hat, h.rw_, h.xw, h.ne, h.Xw⟩
theorem OneS.set {j : Nat} {u : Value} {y : RingD} (h : OneS X N RB XB q w wr) (hy : (#[.int .i64 q.Radius, .int .i64 q.Count, .int .i64 q.From, .int .i64 q.Step, .int .i64 q.Price]).setIfInBounds j u = #[.int .i64 y.Radius, .int .i64 y.Count, .int .i64 y.From, .int .i64 y.Step, .int .i64 y.Price]) : OneS X N RB XB y w (wr.setCell ⟨XB, j, none⟩ u) :=
  ⟨h.res.far h.ne u, hy ▸ h.blk.set_ j u, gr_far h.gr h.xw j u, h.src.gr (gr_of_set wr XB j u) (fun g hg => by injection hg with hg; have := h.xw; have := h.Xw; omega), h.rw_, h.xw, h.ne, h.Xw⟩
end

set_option maxHeartbeats 3200000 in
set_option maxRecDepth 100000 in
theorem c_drawRing (X : Nat) (N radius : Int) (w : World) (hN : N ≤ 1099511620000) (hr : 0 ≤ radius ∧ radius ≤ 30000) (hs : SrcAt X N w) : Calls Tryz.prog 62 #[.pointer (some ⟨X, 0, none⟩), .int .i64 radius] w (RingQ X (N + 8) radius w) := by
  have HS := hide hs
  have hXw := hs.lt
  clear hs
  go_enter Tryz.func62, Tryz.ntmps62
  go_wp2_with fail
  obtain ⟨RB, hRB⟩ : ∃ RB, RB = w.heap.size := ⟨_, rfl⟩
  generalize hwl : World.alloc w _ = wl
  have hres : Blk wl RB 42 #[.int .i64 0, .int .i64 0, .int .i64 0, .int .i64 0, .int .i64 0] := by rw [← hwl, hRB]; exact Blk.new w 42 _
  have hxl : IsX w wl := by rw [← hwl]; exact (IsX.refl w).alloc _
  have hwR : w.heap.size ≤ RB := by omega
  try rw [← hRB]
  have HSl := hide (HS.out.x hxl)
  have HGl := hide (gr_of_x hxl (some X))
  have HRES := hide hres
  clear hwl hres hxl hRB HS
  refine (c_pick X N 8 wl (by omega) (by omega) HSl.out).mono ?_
  rintro e w1 ⟨v, rfl, v0, v1, hg, hat⟩
  have hv1 : v ≤ 7 := by simpa using v1
  have HR1 := hide (HRES.out.gr hg (fun e => by injection e with e; omega))
  have HG1 := hide (gr_tr HGl.out hg)
  have HS1 := hide hat
  clear hg hat HSl HGl HRES v1
  go_wp2_with fail
  obtain ⟨XB, hXB⟩ : ∃ XB, XB = w1.heap.size := ⟨_, rfl⟩
  generalize hw2 : World.alloc w1 _ = w2
  have hT : OneS X (N + 2) RB XB ⟨radius, 1 + v, 0, 0, 0⟩ w w2 := by
    have hx : IsX w1 w2 := by rw [← hw2]; exact (IsX.refl w1).alloc _
    refine ⟨HR1.out.x hx, by rw [← hw2, hXB]; exact Blk.new w1 42 _, gr_x HG1.out hx, HS1.out.x hx, hwR, by have := HG1.out.size; omega, by have := HR1.out.lt; omega, hXw⟩
  rw [← hXB]
  have HT := hide hT
  clear hw2 hXB hT HR1 HG1 HS1
  go_wp2_with fail
  refine (c_pick X _ 20000 w2 (by omega) (by omega) HT.out.src).mono ?_
  rintro e w3 ⟨a, rfl, a0, a1, hg, hat⟩
  have ha1 : a ≤ 19999 := by simpa using a1
  have HT3 := hide (HT.out.pick hg hat)
  clear hg hat a1 HT
  have z2 := HT3.out.blk.frozen 3
  have c2 := HT3.out.blk.cell 3
  simp at c2
  have hlK := HT3.out.blk.lt
  go_upto_region 3 with fail
  clear z2 c2 hlK
  have HT4 : Hid (OneS X _ RB XB ⟨radius, 1 + v, 0, 10000 + a, 0⟩ w _) := hide (HT3.out.set (j := 3) (u := .int .i64 (10000 + a)) (y := ⟨radius, 1 + v, 0, 10000 + a, 0⟩) rfl)
  generalize World.setCell w3 ⟨XB, 3, none⟩ (.int .i64 (10000 + a)) = w4 at HT4 ⊢
  clear HT3
  go_wp2_with fail
  refine (c_pick X _ 60000 w4 (by omega) (by omega) HT4.out.src).mono ?_
  rintro e w5 ⟨b, rfl, b0, b1, hg, hat⟩
  have hb1 : b ≤ 59999 := by simpa using b1
  have HT5 := hide (HT4.out.pick hg hat)
  clear hg hat b1 HT4
  have z2 := HT5.out.blk.frozen 2
  have c2 := HT5.out.blk.cell 2
  simp at c2
  have hlK := HT5.out.blk.lt
  go_upto_region 4 with fail
  clear z2 c2 hlK
  have HT6 : Hid (OneS X _ RB XB ⟨radius, 1 + v, 6 * b, 10000 + a, 0⟩ w _) := hide (HT5.out.set (j := 2) (u := .int .i64 (6 * b)) (y := ⟨radius, 1 + v, 6 * b, 10000 + a, 0⟩) rfl)
  generalize World.setCell w5 ⟨XB, 2, none⟩ (.int .i64 (6 * b)) = w6 at HT6 ⊢
  clear HT5
  go_wp2_with fail
  refine (c_pick X _ 9 w6 (by omega) (by omega) HT6.out.src).mono ?_
  rintro e w7 ⟨d, rfl, d0, d1, hg, hat⟩
  have hd1 : d ≤ 8 := by simpa using d1
  have HT7 := hide (HT6.out.pick hg hat)
  clear hg hat d1 HT6
  have z2 := HT7.out.blk.frozen 4
  have c2 := HT7.out.blk.cell 4
  simp at c2
  have hlK := HT7.out.blk.lt
  go_upto_region 5 with fail
  clear z2 c2 hlK
  have HT8 : Hid (OneS X _ RB XB ⟨radius, 1 + v, 6 * b, 10000 + a, 5 * d⟩ w _) := hide (HT7.out.set (j := 4) (u := .int .i64 (5 * d)) (y := ⟨radius, 1 + v, 6 * b, 10000 + a, 5 * d⟩) rfl)
  generalize World.setCell w7 ⟨XB, 4, none⟩ (.int .i64 (5 * d)) = w8 at HT8 ⊢
  clear HT7
  have e0 := HT8.out.blk.cell 0
  have e1 := HT8.out.blk.cell 1
  have e2 := HT8.out.blk.cell 2
  have e3 := HT8.out.blk.cell 3
  have e4 := HT8.out.blk.cell 4
  have z0 := HT8.out.res.cell 0
  have z1 := HT8.out.res.cell 1
  have z2 := HT8.out.res.cell 2
  have z3 := HT8.out.res.cell 3
  have z4 := HT8.out.res.cell 4
  simp at e0 e1 e2 e3 e4 z0 z1 z2 z3 z4
  have f0 := HT8.out.res.frozen 0
  have f1 := HT8.out.res.frozen 1
  have f2 := HT8.out.res.frozen 2
  have f3 := HT8.out.res.frozen 3
  have f4 := HT8.out.res.frozen 4
  have lb := HT8.out.blk.lt
  have lr := HT8.out.res.lt
  go_wp2_with fail
  have hB6 := (((((HT8.out.res.set_ 0 (.int .i64 radius)).set_ 1 (.int .i64 (1 + v))).set_ 2 (.int .i64 (6 * b))).set_ 3 (.int .i64 (10000 + a))).set_ 4 (.int .i64 (5 * d)))
  have hg6 := (gr_far (gr_far (gr_far (gr_far (gr_far HT8.out.gr HT8.out.rw_ 0 (.int .i64 radius)) HT8.out.rw_ 1 (.int .i64 (1 + v))) HT8.out.rw_ 2 (.int .i64 (6 * b))) HT8.out.rw_ 3 (.int .i64 (10000 + a))) HT8.out.rw_ 4 (.int .i64 (5 * d)))
  have hXR : ∀ g, some RB = some g → X < g := fun g hg => by injection hg with hg; have := HT8.out.rw_; have := HT8.out.Xw; omega
  have hs6 := (((((HT8.out.src.gr (gr_of_set _ RB 0 (.int .i64 radius)) hXR).gr (gr_of_set _ RB 1 (.int .i64 (1 + v))) hXR).gr (gr_of_set _ RB 2 (.int .i64 (6 * b))) hXR).gr (gr_of_set _ RB 3 (.int .i64 (10000 + a))) hXR).gr (gr_of_set _ RB 4 (.int .i64 (5 * d))) hXR)
  generalize World.setCell _ ⟨RB, 4, none⟩ (.int .i64 (5 * d)) = V6 at hB6 hg6 hs6 ⊢
  have r0 := hB6.cell 0
  have r1 := hB6.cell 1
  have r2 := hB6.cell 2
  have r3 := hB6.cell 3
  have r4 := hB6.cell 4
  simp at r0 r1 r2 r3 r4
  exact bodyPost_ret (v := .agg #[.int .i64 radius, .int .i64 (1 + v), .int .i64 (6 * b), .int .i64 (10000 + a), .int .i64 (5 * d)]) (by simp [results, Tryz.results62, go_sem, r0, r1, r2, r3, r4]) rfl ⟨⟨radius, (1 + v), (6 * b), (10000 + a), (5 * d)⟩, rfl, rfl, (by simp only [RingD.sm]; omega), hg6, hs6.le (by omega)⟩
end Go.Proofs.YtfcfgkkkepifhaaGreatDoor

/- DrawRings -/
namespace Go.Proofs.YtfcfgkkkepifhaaGreatDoor
set_option linter.unusedVariables false
open Go.RowKit Go.ChangeShapes

theorem RingK_info : (Tryz.prog.info? 42).map (fun i => (i.zero, i.size, i.bytes)) = some (some (.agg #[.int .i64 0, .int .i64 0, .int .i64 0, .int .i64 0, .int .i64 0]), 5, 40) := by kernel_rfl
theorem ring_reads (w : World) (x : RingD) : Reads (w.alloc (.cells #[.int .i64 x.Radius, .int .i64 x.Count, .int .i64 x.From, .int .i64 x.Step, .int .i64 x.Price] 42)) (w.alloc (.cells #[.int .i64 x.Radius, .int .i64 x.Count, .int .i64 x.From, .int .i64 x.Step, .int .i64 x.Price] 42)).heap.size 5 (some ⟨w.heap.size, 0, none⟩) 1 x.cells := by
  have h := Rd.reads (cells := RingD.cells) (xs := [x]) (by omega) RingD.cells_len (Blk.rd (cells := RingD.cells) (xs := [x]) (t := 42) RingD.cells_len (Blk.new w 42 #[.int .i64 x.Radius, .int .i64 x.Count, .int .i64 x.From, .int .i64 x.Step, .int .i64 x.Price]))
  simpa using h
theorem ring_one (x : RingD) : ∀ u ∈ x.cells, u.oneCell' = true := by
  intro u hu
  simp only [RingD.cells, List.mem_cons, List.not_mem_nil, or_false] at hu
  rcases hu with rfl | rfl | rfl | rfl | rfl <;> rfl
theorem ring_form {w : World} {base e size n : Nat} {v : Value} {L : List Value} (h : w.ownsRow base e size v n L) : ∃ A c, v = .slice A n c := by
  rcases h.2 with ⟨rfl, rfl⟩ | ⟨g, cap, cur, hv, _⟩
  · exact ⟨none, 0, rfl⟩
  · exact ⟨_, _, hv⟩
theorem rings_snoc (xs : List RingD) (x : RingD) : (xs ++ [x]).flatMap RingD.cells = xs.flatMap RingD.cells ++ x.cells := by simp
theorem row_leR {w : World} {base base' e size n : Nat} {v : Value} {L : List Value} (h : w.ownsRow base e size v n L) (hb : base' ≤ base) : w.ownsRow base' e size v n L := by
  refine ⟨h.1, ?_⟩
  rcases h.2 with h2 | ⟨g, cap, cur, hv, hg, r⟩
  · exact .inl h2
  · exact .inr ⟨g, cap, cur, hv, Nat.le_trans hb hg, r⟩
/-- small rings, the radii rise and lie below r -/
def RingsTo (xs : List RingD) (r : Int) : Prop := (∀ x ∈ xs, x.sm ∧ 600 ≤ x.Radius ∧ x.Radius < r) ∧ xs.Pairwise fun a b => a.Radius < b.Radius
theorem RingsTo.nil (r : Int) : RingsTo [] r := ⟨fun x h => by simp at h, List.Pairwise.nil⟩
theorem RingsTo.push {xs : List RingD} {r s : Int} {x : RingD} (h : RingsTo xs r) (hx : x.sm) (hr : x.Radius = r) (h6 : 600 ≤ r) (hs : r < s) : RingsTo (xs ++ [x]) s := by
  refine ⟨fun y hy => ?_, ?_⟩
  · rcases List.mem_append.1 hy with h1 | h1
    · obtain ⟨a, b, c⟩ := h.1 y h1; exact ⟨a, b, by omega⟩
    · simp at h1; subst h1; exact ⟨hx, by omega, by omega⟩
  · rw [List.pairwise_append]
    refine ⟨h.2, List.pairwise_singleton _ _, fun a ha b hb => ?_⟩
    simp at hb; subst hb
    have := (h.1 a ha).2.2
    omega
theorem sm_ok {x : RingD} (h : x.sm) (h6 : 600 ≤ x.Radius) (h3 : x.Radius ≤ 30000) : x.okB = true := by
  obtain ⟨h1, h2, h4, h5⟩ := h
  have hm : x.Count * x.Step ≤ 8 * 29999 := Int.mul_le_mul h1.2 h4.2 (by omega) (by omega)
  simp only [RingD.okB, Bool.and_eq_true, decide_eq_true_eq]
  exact ⟨⟨⟨⟨⟨inB_true.2 (by omega), inB_true.2 (by omega)⟩, inB_true.2 (by omega)⟩, inB_true.2 (by omega)⟩, inB_true.2 (by omega)⟩, by omega⟩
theorem RingsTo.valid {xs : List RingD} {r : Int} (h : RingsTo xs r) (hl : xs.length ≤ 3) (hr : r ≤ 30000) : ringsB xs = true := by
  have hs := (sumCount_bd 8 (by omega) xs (fun x hx => by have := (h.1 x hx).1.1; omega)).2
  simp only [ringsB, Bool.and_eq_true, decide_eq_true_eq]
  refine ⟨⟨by omega, ?_⟩, by omega⟩
  simp only [allGood, List.all_eq_true, List.mem_range]
  intro i hi
  have hok : ∀ (j : Nat) (hj : j < xs.length), xs[j].okB = true := fun j hj => by
    obtain ⟨a, b, c⟩ := h.1 _ (List.getElem_mem hj)
    exact sm_ok a b (by omega)
  cases i with
  | zero => exact good_zero (h := hi) (hok 0 hi)
  | succ i =>
    refine good_succ (h := hi) (hok _ hi) ?_
    have := List.pairwise_iff_getElem.1 h.2 i (i + 1) (by omega) hi (by omega)
    simp only [RingD.geB, decide_eq_false_iff_not]
    omega
theorem RingsTo.wf {xs : List RingD} {r : Int} (h : RingsTo xs r) (hr : r ≤ 30000) : ∀ x ∈ xs, x.wf := fun x hx => by
  obtain ⟨⟨h1, h2, h4, h5⟩, b, c⟩ := h.1 x hx
  simp only [RingD.wf]
  omega
/-- a row of rings of its own; block X has been written to -/
structure DrQ (X : Nat) (N : Int) (v : Value) (n : Nat) (L : List Value) (w wr : World) : Prop where
  own : wr.ownsRow w.heap.size 42 5 v n L
  gr : w.grownBy wr (some X)
  src : SrcAt X N wr
  Xw : X < w.heap.size
section
variable {X n : Nat} {N : Int} {v : Value} {L : List Value} {w wr w1 : World}
theorem DrQ.pick {M : Int} (h : DrQ X N v n L w wr) (hg : wr.grownBy w1 (some X)) (hat : SrcAt X M w1) : DrQ X M v n L w w1 :=
  ⟨own_under h.own hg h.Xw, gr_tr h.gr hg, hat, h.Xw⟩
theorem DrQ.le {M : Int} (h : DrQ X N v n L w wr) (hM : N ≤ M) : DrQ X M v n L w wr := ⟨h.own, h.gr, h.src.le hM, h.Xw⟩
theorem DrQ.app {v' : Value} {n' : Nat} {L' : List Value} {o : Obj} (h : DrQ X N v n L w wr) (hg : (wr.alloc o).grownBy w1 v.ownBlock) (ho : w1.ownsRow w.heap.size 42 5 v' n' L') : DrQ X N v' n' L' w w1 :=
  ⟨ho, gr_app h.gr h.own hg (Nat.le_refl _), (h.src.x ((IsX.refl wr).alloc o)).gr hg (fun g hg => by have := (h.own.lt g hg).1; have := h.Xw; omega), h.Xw⟩
end
/-- valid rings, at most three of them, the call's own; block X has been written to -/
def RingsQ (X : Nat) (N : Int) (w : World) (e : Ending) (w' : World) : Prop := ∃ (A : Option Addr) (c : Nat) (xs : List RingD), e = .returned (.slice A xs.length c) ∧ xs.length ≤ 3 ∧ ringsB xs = true ∧ (∀ x ∈ xs, x.sm) ∧ (∀ x ∈ xs, x.wf) ∧ w'.ownsRow w.heap.size 42 5 (.slice A xs.length c) xs.length (xs.flatMap RingD.cells) ∧ w.grownBy w' (some X) ∧ SrcAt X N w'
set_option maxHeartbeats 6400000 in
set_option maxRecDepth 100000 in
theorem c_drawRings (X : Nat) (N : Int) (w : World) (hN : N ≤ 1099511610000) (hs : SrcAt X N w) : Calls Tryz.prog 29 #[.pointer (some ⟨X, 0, none⟩)] w (RingsQ X (N + 40) w) := by
  have HS := hide hs
  have hXw := hs.lt
  have HI := hide (info_parts RingK_info)
  clear hs
  go_enter Tryz.func29, Tryz.ntmps29
  go_wp2_with fail
  obtain ⟨NB, hNB⟩ : ∃ NB, NB = w.heap.size := ⟨_, rfl⟩
  generalize hw0 : World.alloc w _ = w0
  have hx0 : IsX w w0 := by rw [← hw0]; exact (IsX.refl w).alloc _
  have hO0 : w0.ownsRow w.heap.size 42 5 (.slice (some ⟨NB, 0, none⟩) 0 0) 0 [] := by
    rw [← hw0, hNB]; exact World.ownsRow_made (base := w.heap.size) (e := 42) (size := 5) w #[] 0 (Nat.le_refl _) (by simp [maxLen]) rfl
  have HT0 : Hid (DrQ X N (.slice (some ⟨NB, 0, none⟩) 0 0) 0 [] w w0) := hide ⟨hO0, gr_of_x hx0 _, HS.out.x hx0, hXw⟩
  try rw [← hNB]
  clear hw0 hNB hO0 hx0 HS
  refine (c_pick X _ 900 w0 (by omega) (by omega) HT0.out.src).mono ?_
  rintro e w1 ⟨a, rfl, a0, a1, hg, hat⟩
  have ha1 : a ≤ 899 := by simpa using a1
  have HT1 := hide (HT0.out.pick hg hat)
  clear hg hat a1 HT0
  go_wp2_with fail
  refine (c_pick X _ 4 w1 (by omega) (by omega) HT1.out.src).mono ?_
  rintro e w2 ⟨k0, rfl, k00, k01, hg, hat⟩
  have hk1 : k0 ≤ 3 := by simpa using k01
  have HT2 := hide (HT1.out.pick hg hat)
  clear hg hat k01 HT1
  go_wp2_with fail
  go_loopw [3, 4, 5] (fun ov rv kv wr => ∃ (xs : List RingD) (A : Option Addr) (c : Nat) (r k : Int), ov = .slice A xs.length c ∧ rv = .int .i64 r ∧ kv = .int .i64 k ∧ 0 ≤ k ∧ (xs.length : Int) + k ≤ 3 ∧ 600 ≤ r ∧ r ≤ 1499 + 1500 * xs.length ∧ Hid (RingsTo xs r) ∧ Hid (DrQ X (N + 4 + 10 * xs.length) ov xs.length (xs.flatMap RingD.cells) w wr)) (fun _ _ kv _ => (intOf kv).toNat)
  case atStart => exact ⟨[], _, _, 600 + a, k0, rfl, rfl, rfl, k00, by simp; omega, by omega, by simp; omega, hide (RingsTo.nil _), hide (HT2.out.le (by simp; omega))⟩
  case round =>
    clear HT2
    obtain ⟨xs, A, c, r, k, rfl, rfl, rfl, hk0, hk3, hr0, hr1, HR, HT⟩ := hrel
    obtain ⟨n, hnn⟩ : ∃ n, n = xs.length := ⟨_, rfl⟩
    have HN := hide hnn
    rw [← hnn] at hk3 hr1 HT ⊢
    clear hnn
    by_cases hkp : 0 < k
    · go_wp2_with fail
      refine (c_drawRing X _ r wr (by omega) (by omega) HT.out.src).mono ?_
      rintro e w3 ⟨⟨x0, x1, x2, x3, x4⟩, rfl, hid, hsm, hg, hat⟩
      simp only at hid
      subst hid
      have HSM := hide hsm
      have HT3 := hide (HT.out.pick hg hat)
      clear hg hat hsm HT
      have hwS : w.heap.size ≤ w3.heap.size := HT3.out.gr.size
      unfold ringV
      go_wp2_with (at_builtin; obtain ⟨i0, hi0, hz0, hz1, hz2⟩ := HI.out; refine wpList_append_any _ rfl (.tmp 16) (.tmp 20) _ rfl w.heap.size 42 i0 _ 5 40 Tryz.underlying24 hi0 hz0 hz1 hz2 rfl (by omega) (.slice A n c) n (xs.flatMap RingD.cells) rfl (HT3.out.own.alloc _) _ (some ⟨w3.heap.size, 0, none⟩) 1 1 (RingD.cells ⟨x0, x1, x2, x3, x4⟩) rfl (ring_reads w3 ⟨x0, x1, x2, x3, x4⟩) (ring_one ⟨x0, x1, x2, x3, x4⟩) (by simp only [maxLen]; omega) (by omega) (by simp; omega) ?_; clear hi0 hz0 hz1 hz2; intro vN wN hownN hgN hatN; obtain ⟨A', c', rfl⟩ := ring_form hownN)
      have HTN := hide (HT3.out.app hgN hownN)
      clear hownN hgN hatN
      go_wp2_with fail
      refine (c_pick X _ 1500 wN (by omega) (by omega) HTN.out.src).mono ?_
      rintro e w4 ⟨d, rfl, d0, d1, hg, hat⟩
      have hd1 : d ≤ 1499 := by simpa using d1
      have HT4 := hide (HTN.out.pick hg hat)
      clear hg hat d1 HTN HT3
      go_wp2_with fail
      go_roundw
      case rel => exact ⟨xs ++ [⟨x0, x1, x2, x3, x4⟩], A', c', x0 + (1 + d), k - 1, by simp [← HN.out], by first | rfl | (congr 1; omega), by first | rfl | (congr 1; omega), by omega, by simp [← HN.out]; omega, by omega, by simp [← HN.out]; omega, hide (HR.out.push HSM.out rfl hr0 (by omega)), hide (by rw [rings_snoc]; have h := HT4.out.le (M := N + 4 + 10 * ((n + 1 : Nat) : Int)) (by omega); simpa [← HN.out] using h)⟩
      case measure => simp [intOf]; omega
    · go_wp2_with fail
      go_ret
      have h := HT.out.le (M := N + 40) (by omega)
      rw [HN.out] at h
      refine ⟨A, c, xs, by rw [HN.out]; rfl, by rw [← HN.out]; omega, HR.out.valid (by rw [← HN.out]; omega) (by omega), fun x hx => (HR.out.1 x hx).1, HR.out.wf (by omega), h.own, h.gr, h.src⟩
/-- valid rings, at most three of them, the call's own -/
def R8RingsQ (w : World) (e : Ending) (w' : World) : Prop := ∃ (A : Option Addr) (c : Nat) (xs : List RingD), e = .returned (.slice A xs.length c) ∧ xs.length ≤ 3 ∧ ringsB xs = true ∧ (∀ x ∈ xs, x.sm) ∧ (∀ x ∈ xs, x.wf) ∧ Own RingD.cells 5 42 w' w.heap.size (.slice A xs.length c) xs ∧ IsX w w'
set_option maxHeartbeats 3200000 in
theorem c_R8Rings (A : Option Addr) (c : Nat) (bs : List Int) (w : World) (hn : bs.length ≤ 1099511627776) (hb : ∀ x ∈ bs, byteWf x) (hA : Rd byteC 1 w A bs) :
    Calls Tryz.prog 6 #[.slice A bs.length c] w (R8RingsQ w) := by
  have HF := hide (c_l00From A c bs w hn hb hA)
  generalize bs.length = bl at HF ⊢
  clear hn hb hA
  go_enter Tryz.func6, Tryz.ntmps6
  go_wp2_with fail
  refine HF.out.mono ?_
  rintro e w1 ⟨rfl, hs, hx⟩
  obtain ⟨X, hX⟩ : ∃ X, X = w.heap.size := ⟨_, rfl⟩
  rw [← hX] at hs ⊢
  have hXw : w.heap.size ≤ X := by omega
  clear hX
  have HX1 := hide hx
  have HS1 := hide hs
  clear hx hs HF
  go_wp2_with fail
  refine (c_drawRings X 0 w1 (by omega) HS1.out).mono ?_
  rintro e w2 ⟨A2, c2, xs, rfl, hxl, hv, hsm, hwf, ho, hg, hat⟩
  have HO := hide ho
  have HG := hide hg
  clear ho hg hat
  go_wp2_with fail
  go_ret
  exact ⟨A2, c2, xs, rfl, hxl, hv, hsm, hwf, row_leR HO.out HX1.out.size, IsX.grown HX1.out HG.out (by intro z hz; injection hz with hz; omega)⟩
end Go.Proofs.YtfcfgkkkepifhaaGreatDoor
