/- Rings that are drawn: valid ones. Conditions: fewer than 2^39 choices. -/
import Derived.Test.YtfcfgkkkepifhaaGreatDoorDraws
import Derived.Test.YtfcfgkkkepifhaaGreatDoorFlatRing
import Derived.Test.YtfcfgkkkepifhaaGreatDoorRings
namespace Go.Proofs.YtfcfgkkkepifhaaGreatDoor
set_option linter.unusedVariables false
open Go.RowKit Go.ChangeShapes

theorem gr_app {w w1 : World} {X base e n : Nat} {size : Nat} {v : Value} {L : List Value} {o : Obj} {w0 : World} (h : w0.grownBy w (some X)) (ho : w.ownsRow base e size v n L) (hg : (w.alloc o).grownBy w1 v.ownBlock) (hb : w0.heap.size ≤ base) : w0.grownBy w1 (some X) :=
  ⟨hg.os.trans h.os, hg.tape.trans h.tape, hg.output.trans h.output, Nat.le_trans h.size (Nat.le_trans (by simp) hg.size), fun k hk hne => by
    rw [hg.block k (by have := h.size; simp; omega) (fun e => by have := (ho.lt k e.symm).1; omega)]
    rw [(IsX.alloc (IsX.refl w) o).below.block k (Nat.lt_of_lt_of_le hk h.size)]
    exact h.block k hk hne⟩
theorem gr_far {w w1 : World} {X g : Nat} (h : w.grownBy w1 (some X)) (hg : w.heap.size ≤ g) (j : Nat) (u : Value) : w.grownBy (w1.setCell ⟨g, j, none⟩ u) (some X) :=
  ⟨h.os, h.tape, h.output, by simpa [World.setCell] using h.size, fun k hk hne => (Below.heap_setCell w1 ⟨g, j, none⟩ u k (show k ≠ g by omega)).trans (h.block k hk hne)⟩
theorem SrcAt.gr {w w1 : World} {X : Nat} {N : Int} {row : Option Nat} (h : SrcAt X N w) (hg : w.grownBy w1 row) (hr : ∀ g, row = some g → X < g) : SrcAt X N w1 := by
  obtain ⟨A, c, xs, a, s, h1, h2, h3, h4, h5, h6, h7, h8⟩ := h
  refine ⟨A, c, xs, a, s, h1.gr hg (fun e => by have := hr X e.symm; omega), h2, h3, h4, h5, ?_, h7, h8⟩
  intro i x hi
  obtain ⟨b, off, e, hb2, hc⟩ := h6 i x hi
  have hbb := h7 (by intro e; rw [e] at hi; simp at hi) b off e
  exact ⟨b, off, e, Nat.lt_of_lt_of_le hb2 hg.size, fun j u hu => (World.cell?_of_block (a := ⟨b, off + i * 1 + j, none⟩) (hg.block b hb2 (fun e => by have := hr b e.symm; omega))).trans (hc j u hu)⟩

def ringV (x : RingD) : Value := .agg #[.int .i64 x.Radius, .int .i64 x.Count, .int .i64 x.From, .int .i64 x.Step, .int .i64 x.Price]
def RingD.sm (x : RingD) : Prop := (1 ≤ x.Count ∧ x.Count ≤ 8) ∧ (0 ≤ x.From ∧ x.From ≤ 359994) ∧ (10000 ≤ x.Step ∧ x.Step ≤ 29999) ∧ (0 ≤ x.Price ∧ x.Price ≤ 40)
/-- a ring by itself -/
def RingQ (X : Nat) (N : Int) (r : Int) (w : World) (e : Ending) (w' : World) : Prop := ∃ x : RingD, e = .returned (ringV x) ∧ x.Radius = r ∧ x.sm ∧ w.grownBy w' (some X) ∧ SrcAt X N w'
structure OneS (X : Nat) (N : Int) (RB XB : Nat) (x : RingD) (w wr : World) : Prop where
  res : Blk wr RB 42 #[.int .i64 0, .int .i64 0, .int .i64 0, .int .i64 0, .int .i64 0]
  blk : Blk wr XB 42 #[.int .i64 x.Radius, .int .i64 x.Count, .int .i64 x.From, .int .i64 x.Step, .int .i64 x.Price]
  gr : w.grownBy wr (some X)
  src : SrcAt X N wr
  rw_ : w.heap.size ≤ RB
  xw : w.heap.size ≤ XB
  ne : RB ≠ XB
  Xw : X < w.heap.size
section
variable {X RB XB : Nat} {N : Int} {q : RingD} {w wr w1 : World}
theorem OneS.x (h : OneS X N RB XB q w wr) (hx : IsX wr w1) : OneS X N RB XB q w w1 := ⟨h.res.x hx, h.blk.x hx, gr_x h.gr hx, h.src.x hx, h.rw_, h.xw, h.ne, h.Xw⟩
theorem OneS.pick {M : Int} (h : OneS X N RB XB q w wr) (hg : wr.grownBy w1 (some X)) (hat : SrcAt X M w1) : OneS X M RB XB q w w1 :=
  ⟨h.res.gr hg (fun e => by injection e with e; have := h.rw_; have := h.Xw; omega), h.blk.gr hg (fun e => by injection e with e; have := h.xw; have := h.Xw; omega), gr_tr h.gr hg, hat, h.rw_, h.xw, h.ne, h.Xw⟩
theorem OneS.set {j : Nat} {u : Value} {y : RingD} (h : OneS X N RB XB q w wr) (hy : (#[.int .i64 q.Radius, .int .i64 q.Count, .int .i64 q.From, .int .i64 q.Step, .int .i64 q.Price]).setIfInBounds j u = #[.int .i64 y.Radius, .int .i64 y.Count, .int .i64 y.From, .int .i64 y.Step, .int .i64 y.Price]) : OneS X N RB XB y w (wr.setCell ⟨XB, j, none⟩ u) :=
  ⟨h.res.far h.ne u, hy ▸ h.blk.set_ j u, gr_far h.gr h.xw j u, h.src.gr (gr_of_set wr XB j u) (fun g hg => by injection hg with hg; have := h.xw; have := h.Xw; omega), h.rw_, h.xw, h.ne, h.Xw⟩
end

set_option maxHeartbeats 3200000 in
set_option maxRecDepth 100000 in
theorem c_drawRing (X : Nat) (N radius : Int) (w : World) (hN : N ≤ 1099511620000) (hr : 0 ≤ radius ∧ radius ≤ 30000) (hs : SrcAt X N w) : Calls Tryz.prog 62 #[.pointer (some ⟨X, 0, none⟩), .int .i64 radius] w (RingQ X (N + 8) radius w) := by
  have HS := hide hs
  have hXw := hs.lt
  clear hs
  go_enter Tryz.func62, Tryz.ntmps62
  go_wp2_with fail
  obtain ⟨RB, hRB⟩ : ∃ RB, RB = w.heap.size := ⟨_, rfl⟩
  generalize hwl : World.alloc w _ = wl
  have hres : Blk wl RB 42 #[.int .i64 0, .int .i64 0, .int .i64 0, .int .i64 0, .int .i64 0] := by rw [← hwl, hRB]; exact Blk.new w 42 _
  have hxl : IsX w wl := by rw [← hwl]; exact (IsX.refl w).alloc _
  have hwR : w.heap.size ≤ RB := by omega
  try rw [← hRB]
  have HSl := hide (HS.out.x hxl)
  have HGl := hide (gr_of_x hxl (some X))
  have HRES := hide hres
  clear hwl hres hxl hRB HS
  refine (c_pick X N 8 wl (by omega) (by omega) HSl.out).mono ?_
  rintro e w1 ⟨v, rfl, v0, v1, hg, hat⟩
  have hv1 : v ≤ 7 := by simpa using v1
  have HR1 := hide (HRES.out.gr hg (fun e => by injection e with e; omega))
  have HG1 := hide (gr_tr HGl.out hg)
  have HS1 := hide hat
  clear hg hat HSl HGl HRES v1
  go_wp2_with fail
  obtain ⟨XB, hXB⟩ : ∃ XB, XB = w1.heap.size := ⟨_, rfl⟩
  generalize hw2 : World.alloc w1 _ = w2
  have hT : OneS X (N + 2) RB XB ⟨radius, 1 + v, 0, 0, 0⟩ w w2 := by
    have hx : IsX w1 w2 := by rw [← hw2]; exact (IsX.refl w1).alloc _
    refine ⟨HR1.out.x hx, by rw [← hw2, hXB]; exact Blk.new w1 42 _, gr_x HG1.out hx, HS1.out.x hx, hwR, by have := HG1.out.size; omega, by have := HR1.out.lt; omega, hXw⟩
  rw [← hXB]
  have HT := hide hT
  clear hw2 hXB hT HR1 HG1 HS1
  go_wp2_with fail
  refine (c_pick X _ 20000 w2 (by omega) (by omega) HT.out.src).mono ?_
  rintro e w3 ⟨a, rfl, a0, a1, hg, hat⟩
  have ha1 : a ≤ 19999 := by simpa using a1
  have HT3 := hide (HT.out.pick hg hat)
  clear hg hat a1 HT
  have z2 := HT3.out.blk.frozen 3
  have c2 := HT3.out.blk.cell 3
  simp at c2
  have hlK := HT3.out.blk.lt
  go_upto_region 3 with fail
  clear z2 c2 hlK
  have HT4 : Hid (OneS X _ RB XB ⟨radius, 1 + v, 0, 10000 + a, 0⟩ w _) := hide (HT3.out.set (j := 3) (u := .int .i64 (10000 + a)) (y := ⟨radius, 1 + v, 0, 10000 + a, 0⟩) rfl)
  generalize World.setCell w3 ⟨XB, 3, none⟩ (.int .i64 (10000 + a)) = w4 at HT4 ⊢
  clear HT3
  go_wp2_with fail
  refine (c_pick X _ 60000 w4 (by omega) (by omega) HT4.out.src).mono ?_
  rintro e w5 ⟨b, rfl, b0, b1, hg, hat⟩
  have hb1 : b ≤ 59999 := by simpa using b1
  have HT5 := hide (HT4.out.pick hg hat)
  clear hg hat b1 HT4
  have z2 := HT5.out.blk.frozen 2
  have c2 := HT5.out.blk.cell 2
  simp at c2
  have hlK := HT5.out.blk.lt
  go_upto_region 4 with fail
  clear z2 c2 hlK
  have HT6 : Hid (OneS X _ RB XB ⟨radius, 1 + v, 6 * b, 10000 + a, 0⟩ w _) := hide (HT5.out.set (j := 2) (u := .int .i64 (6 * b)) (y := ⟨radius, 1 + v, 6 * b, 10000 + a, 0⟩) rfl)
  generalize World.setCell w5 ⟨XB, 2, none⟩ (.int .i64 (6 * b)) = w6 at HT6 ⊢
  clear HT5
  go_wp2_with fail
  refine (c_pick X _ 9 w6 (by omega) (by omega) HT6.out.src).mono ?_
  rintro e w7 ⟨d, rfl, d0, d1, hg, hat⟩
  have hd1 : d ≤ 8 := by simpa using d1
  have HT7 := hide (HT6.out.pick hg hat)
  clear hg hat d1 HT6
  have z2 := HT7.out.blk.frozen 4
  have c2 := HT7.out.blk.cell 4
  simp at c2
  have hlK := HT7.out.blk.lt
  go_upto_region 5 with fail
  clear z2 c2 hlK
  have HT8 : Hid (OneS X _ RB XB ⟨radius, 1 + v, 6 * b, 10000 + a, 5 * d⟩ w _) := hide (HT7.out.set (j := 4) (u := .int .i64 (5 * d)) (y := ⟨radius, 1 + v, 6 * b, 10000 + a, 5 * d⟩) rfl)
  generalize World.setCell w7 ⟨XB, 4, none⟩ (.int .i64 (5 * d)) = w8 at HT8 ⊢
  clear HT7
  have e0 := HT8.out.blk.cell 0
  have e1 := HT8.out.blk.cell 1
  have e2 := HT8.out.blk.cell 2
  have e3 := HT8.out.blk.cell 3
  have e4 := HT8.out.blk.cell 4
  have z0 := HT8.out.res.cell 0
  have z1 := HT8.out.res.cell 1
  have z2 := HT8.out.res.cell 2
  have z3 := HT8.out.res.cell 3
  have z4 := HT8.out.res.cell 4
  simp at e0 e1 e2 e3 e4 z0 z1 z2 z3 z4
  have f0 := HT8.out.res.frozen 0
  have f1 := HT8.out.res.frozen 1
  have f2 := HT8.out.res.frozen 2
  have f3 := HT8.out.res.frozen 3
  have f4 := HT8.out.res.frozen 4
  have lb := HT8.out.blk.lt
  have lr := HT8.out.res.lt
  go_wp2_with fail
  have hB6 := (((((HT8.out.res.set_ 0 (.int .i64 radius)).set_ 1 (.int .i64 (1 + v))).set_ 2 (.int .i64 (6 * b))).set_ 3 (.int .i64 (10000 + a))).set_ 4 (.int .i64 (5 * d)))
  have hg6 := (gr_far (gr_far (gr_far (gr_far (gr_far HT8.out.gr HT8.out.rw_ 0 (.int .i64 radius)) HT8.out.rw_ 1 (.int .i64 (1 + v))) HT8.out.rw_ 2 (.int .i64 (6 * b))) HT8.out.rw_ 3 (.int .i64 (10000 + a))) HT8.out.rw_ 4 (.int .i64 (5 * d)))
  have hXR : ∀ g, some RB = some g → X < g := fun g hg => by injection hg with hg; have := HT8.out.rw_; have := HT8.out.Xw; omega
  have hs6 := (((((HT8.out.src.gr (gr_of_set _ RB 0 (.int .i64 radius)) hXR).gr (gr_of_set _ RB 1 (.int .i64 (1 + v))) hXR).gr (gr_of_set _ RB 2 (.int .i64 (6 * b))) hXR).gr (gr_of_set _ RB 3 (.int .i64 (10000 + a))) hXR).gr (gr_of_set _ RB 4 (.int .i64 (5 * d))) hXR)
  generalize World.setCell _ ⟨RB, 4, none⟩ (.int .i64 (5 * d)) = V6 at hB6 hg6 hs6 ⊢
  have r0 := hB6.cell 0
  have r1 := hB6.cell 1
  have r2 := hB6.cell 2
  have r3 := hB6.cell 3
  have r4 := hB6.cell 4
  simp at r0 r1 r2 r3 r4
  exact bodyPost_ret (v := .agg #[.int .i64 radius, .int .i64 (1 + v), .int .i64 (6 * b), .int .i64 (10000 + a), .int .i64 (5 * d)]) (by simp [results, Tryz.results62, go_sem, r0, r1, r2, r3, r4]) rfl ⟨⟨radius, (1 + v), (6 * b), (10000 + a), (5 * d)⟩, rfl, rfl, (by simp only [RingD.sm]; omega), hg6, hs6.le (by omega)⟩
end Go.Proofs.YtfcfgkkkepifhaaGreatDoor
