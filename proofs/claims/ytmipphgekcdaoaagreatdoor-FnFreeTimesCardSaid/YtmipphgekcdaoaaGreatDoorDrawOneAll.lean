/- Joined texts: DrawOne, DrawBend. Conditions: told in each. -/
import Derived.Test.YtmipphgekcdaoaaGreatDoorDraws
import Derived.Test.YtmipphgekcdaoaaGreatDoorLString
import Derived.Test.YtmipphgekcdaoaaGreatDoorFlatOffer
/-! DrawOne -/
namespace Go.Proofs.YtmipphgekcdaoaaGreatDoor
set_option linter.unusedVariables false
open Go.RowKit Go.ChangeShapes

theorem gr_app {w w1 : World} {X base e n : Nat} {size : Nat} {v : Value} {L : List Value} {o : Obj} {w0 : World} (h : w0.grownBy w (some X)) (ho : w.ownsRow base e size v n L) (hg : (w.alloc o).grownBy w1 v.ownBlock) (hb : w0.heap.size ≤ base) : w0.grownBy w1 (some X) :=
  ⟨hg.os.trans h.os, hg.tape.trans h.tape, hg.output.trans h.output, Nat.le_trans h.size (Nat.le_trans (by simp) hg.size), fun k hk hne => by
    rw [hg.block k (by have := h.size; simp; omega) (fun e => by have := (ho.lt k e.symm).1; omega)]
    rw [(IsX.alloc (IsX.refl w) o).below.block k (Nat.lt_of_lt_of_le hk h.size)]
    exact h.block k hk hne⟩
theorem gr_far {w w1 : World} {X g : Nat} (h : w.grownBy w1 (some X)) (hg : w.heap.size ≤ g) (j : Nat) (u : Value) : w.grownBy (w1.setCell ⟨g, j, none⟩ u) (some X) :=
  ⟨h.os, h.tape, h.output, by simpa [World.setCell] using h.size, fun k hk hne => (Below.heap_setCell w1 ⟨g, j, none⟩ u k (show k ≠ g by omega)).trans (h.block k hk hne)⟩
theorem SrcAt.gr {w w1 : World} {X : Nat} {N : Int} {row : Option Nat} (h : SrcAt X N w) (hg : w.grownBy w1 row) (hr : ∀ g, row = some g → X < g) : SrcAt X N w1 := by
  obtain ⟨A, c, xs, a, s, h1, h2, h3, h4, h5, h6, h7, h8⟩ := h
  refine ⟨A, c, xs, a, s, h1.gr hg (fun e => by have := hr X e.symm; omega), h2, h3, h4, h5, ?_, h7, h8⟩
  intro i x hi
  obtain ⟨b, off, e, hb2, hc⟩ := h6 i x hi
  have hbb := h7 (by intro e; rw [e] at hi; simp at hi) b off e
  exact ⟨b, off, e, Nat.lt_of_lt_of_le hb2 hg.size, fun j u hu => (World.cell?_of_block (a := ⟨b, off + i * 1 + j, none⟩) (hg.block b hb2 (fun e => by have := hr b e.symm; omega))).trans (hc j u hu)⟩

/-- one of some texts -/
def TextQ (X : Nat) (N : Int) (names : List ByteArray) (w : World) (e : Ending) (w' : World) : Prop := ∃ s, e = .returned (.string s) ∧ s ∈ names ∧ w.grownBy w' (some X) ∧ SrcAt X N w'
theorem c_text (X : Nat) (N : Int) (A : Option Addr) (c : Nat) (zs : List ByteArray) (w : World) (hN : N ≤ 1099511627000) (hz : zs ≠ []) (hz2 : zs.length ≤ 1000) (hA : Rd strC 1 w A zs) (ho : ∀ b off, A = some ⟨b, off, none⟩ → b ≠ X) (hs : SrcAt X N w) :
    Calls Tryz.prog 24 #[.pointer (some ⟨X, 0, none⟩), .slice A zs.length c] w (TextQ X (N + 2) zs w) := by
  obtain ⟨n, hnn⟩ : ∃ n, n = zs.length := ⟨_, rfl⟩
  have hn0 : 0 < n := by rw [hnn]; exact Nat.pos_of_ne_zero (fun h => hz (List.eq_nil_of_length_eq_zero h))
  have HN := hide hnn
  rw [← hnn] at hz2 ⊢
  clear hnn
  go_enter Tryz.func24, Tryz.ntmps24
  go_wp2_with fail
  refine (c_pick X N n w hN (by omega) hs).mono ?_
  rintro e w1 ⟨v, rfl, v0, v1, hg, hat⟩
  have hv1 : v < (n : Int) := by split at v1 <;> omega
  have hvx : v.toNat < zs.length := by rw [← HN.out]; omega
  obtain ⟨b, off, rfl, hbl, c0⟩ := str_rd (hA.grX (fun _ => ho) hg) (show zs[v.toNat]? = some zs[v.toNat] from List.getElem?_eq_getElem _)
  have HM := hide (List.getElem_mem hvx)
  have HG := hide hg
  have HAT := hide hat
  generalize zs[v.toNat] = z at c0 HM
  clear hg hat v1 hA
  go_wp2_with fail
  go_ret
  exact ⟨z, rfl, HM.out, HG.out, HAT.out⟩
def offerV (x : OfferD) : Value := .agg #[.string x.Id, .string x.Kind, .int .i64 x.Start, .int .i64 x.Length, .int .i64 x.Worth]
def OfferD.sm (x : OfferD) : Prop := x.Kind.size ≤ 10 ∧ (-2000 ≤ x.Start ∧ x.Start ≤ 20000) ∧ (-20000 ≤ x.Length ∧ x.Length ≤ 20000) ∧ (-2000 ≤ x.Worth ∧ x.Worth ≤ 20000)
/-- an offer by itself -/
def OfferQ (X : Nat) (N : Int) (id : ByteArray) (w : World) (e : Ending) (w' : World) : Prop := ∃ x : OfferD, e = .returned (offerV x) ∧ x.Id = id ∧ x.sm ∧ w.grownBy w' (some X) ∧ SrcAt X N w'
/-- block RB for the result, block XB for the offer, choices up to N -/
structure OneS (X : Nat) (N : Int) (RB XB : Nat) (x : OfferD) (w wr : World) : Prop where
  res : Blk wr RB 33 #[.string ByteArray.empty, .string ByteArray.empty, .int .i64 0, .int .i64 0, .int .i64 0]
  blk : Blk wr XB 33 #[.string x.Id, .string x.Kind, .int .i64 x.Start, .int .i64 x.Length, .int .i64 x.Worth]
  gr : w.grownBy wr (some X)
  src : SrcAt X N wr
  rw_ : w.heap.size ≤ RB
  xw : w.heap.size ≤ XB
  ne : RB ≠ XB
  Xw : X < w.heap.size
section
variable {X RB XB : Nat} {N : Int} {q : OfferD} {w wr w1 : World}
theorem OneS.x (h : OneS X N RB XB q w wr) (hx : IsX wr w1) : OneS X N RB XB q w w1 := ⟨h.res.x hx, h.blk.x hx, gr_x h.gr hx, h.src.x hx, h.rw_, h.xw, h.ne, h.Xw⟩
theorem OneS.pick {M : Int} (h : OneS X N RB XB q w wr) (hg : wr.grownBy w1 (some X)) (hat : SrcAt X M w1) : OneS X M RB XB q w w1 :=
  ⟨h.res.gr hg (fun e => by injection e with e; have := h.rw_; have := h.Xw; omega), h.blk.gr hg (fun e => by injection e with e; have := h.xw; have := h.Xw; omega), gr_tr h.gr hg, hat, h.rw_, h.xw, h.ne, h.Xw⟩
theorem OneS.set {j : Nat} {u : Value} {y : OfferD} (h : OneS X N RB XB q w wr) (hy : (#[Value.string q.Id, .string q.Kind, .int .i64 q.Start, .int .i64 q.Length, .int .i64 q.Worth]).setIfInBounds j u = #[.string y.Id, .string y.Kind, .int .i64 y.Start, .int .i64 y.Length, .int .i64 y.Worth]) : OneS X N RB XB y w (wr.setCell ⟨XB, j, none⟩ u) :=
  ⟨h.res.far h.ne u, hy ▸ h.blk.set_ j u, gr_far h.gr h.xw j u, h.src.gr (gr_of_set wr XB j u) (fun g hg => by injection hg with hg; have := h.xw; have := h.Xw; omega), h.rw_, h.xw, h.ne, h.Xw⟩
end

set_option maxHeartbeats 3200000 in
set_option maxRecDepth 100000 in
theorem c_drawOne (X : Nat) (N : Int) (id : ByteArray) (w : World) (hN : N ≤ 1099511620000) (hs : SrcAt X N w) : Calls Tryz.prog 23 #[.pointer (some ⟨X, 0, none⟩), .string id] w (OfferQ X (N + 8) id w) := by
  have HS := hide hs
  have hXw := hs.lt
  clear hs
  go_enter Tryz.func23, Tryz.ntmps23
  go_wp2_with fail
  obtain ⟨RB, hRB⟩ : ∃ RB, RB = w.heap.size := ⟨_, rfl⟩
  obtain ⟨KL, hKL⟩ : ∃ KL, KL = RB + 1 := ⟨_, rfl⟩
  generalize hwl : World.alloc (World.alloc w _) _ = wl
  have hres : Blk wl RB 33 #[.string ByteArray.empty, .string ByteArray.empty, .int .i64 0, .int .i64 0, .int .i64 0] := by rw [← hwl, hRB]; exact (Blk.new w 33 _).alloc _
  have hRl : Rd strC 1 wl (some ⟨KL, 0, none⟩) [⟨#[107, 105, 100, 115]⟩, ⟨#[108, 105, 118, 101]⟩, ⟨#[109, 117, 115, 105, 99]⟩] := by
    rw [← hwl, hKL, hRB]
    have h := Blk.rd (cells := strC) (xs := [⟨#[107, 105, 100, 115]⟩, ⟨#[108, 105, 118, 101]⟩, ⟨#[109, 117, 115, 105, 99]⟩]) (t := 9) strC_len (Blk.new (w.alloc (.cells #[.string ByteArray.empty, .string ByteArray.empty, .int .i64 0, .int .i64 0, .int .i64 0] 33)) 9 #[.string ⟨#[107, 105, 100, 115]⟩, .string ⟨#[108, 105, 118, 101]⟩, .string ⟨#[109, 117, 115, 105, 99]⟩])
    rw [World.size_alloc] at h
    exact h
  have hxl : IsX w wl := by rw [← hwl]; exact ((IsX.refl w).alloc _).alloc _
  have hwR : w.heap.size ≤ RB := by omega
  have hKX : X < KL := by omega
  rw [← hRB, ← hKL]
  have HSl := hide (HS.out.x hxl)
  have HGl := hide (gr_of_x hxl (some X))
  have HRES := hide hres
  clear hwl hres hxl hRB hKL HS
  refine (c_text X N (some ⟨KL, 0, none⟩) 3 [⟨#[107, 105, 100, 115]⟩, ⟨#[108, 105, 118, 101]⟩, ⟨#[109, 117, 115, 105, 99]⟩] wl (by omega) (by simp) (by simp) hRl (fun b off e => by injection e with e; injection e with e1 e2; omega) HSl.out).mono ?_
  rintro e w1 ⟨kind, rfl, km, hg, hat⟩
  have HSZ : Hid (kind.size ≤ 10) := hide (by
    simp only [List.mem_cons, List.not_mem_nil, or_false] at km
    rcases km with rfl | rfl | rfl <;> simp [ByteArray.size])
  have HR1 := hide (HRES.out.gr hg (fun e => by injection e with e; omega))
  have HG1 := hide (gr_tr HGl.out hg)
  have HS1 := hide hat
  clear hg hat hRl HSl HGl HRES km
  go_wp2_with fail
  obtain ⟨XB, hXB⟩ : ∃ XB, XB = w1.heap.size := ⟨_, rfl⟩
  generalize hw2 : World.alloc w1 _ = w2
  have hT : OneS X (N + 2) RB XB ⟨id, kind, 0, 0, 0⟩ w w2 := by
    have hx : IsX w1 w2 := by rw [← hw2]; exact (IsX.refl w1).alloc _
    refine ⟨HR1.out.x hx, by rw [← hw2, hXB]; exact Blk.new w1 33 _, gr_x HG1.out hx, HS1.out.x hx, hwR, by have := HG1.out.size; omega, by have := HR1.out.lt; omega, hXw⟩
  rw [← hXB]
  have HT := hide hT
  clear hw2 hXB hT HR1 HG1 HS1
  go_wp2_with fail
  refine (c_pick X _ 100 w2 (by omega) (by omega) HT.out.src).mono ?_
  rintro e w3 ⟨a, rfl, a0, a1, hg, hat⟩
  have ha1 : a ≤ 99 := by simpa using a1
  have HT3 := hide (HT.out.pick hg hat)
  clear hg hat a1 HT
  have z2 := HT3.out.blk.frozen 2
  have c2 := HT3.out.blk.cell 2
  simp at c2
  have hlK := HT3.out.blk.lt
  go_upto_region 3 with fail
  clear z2 c2 hlK
  have HT4 : Hid (OneS X _ RB XB ⟨id, kind, 540 + 5 * a, 0, 0⟩ w _) := hide (HT3.out.set (j := 2) (u := .int .i64 (540 + 5 * a)) (y := ⟨id, kind, 540 + 5 * a, 0, 0⟩) rfl)
  generalize World.setCell w3 ⟨XB, 2, none⟩ (.int .i64 (540 + 5 * a)) = w4 at HT4 ⊢
  clear HT3
  go_wp2_with fail
  refine (c_pick X _ 12 w4 (by omega) (by omega) HT4.out.src).mono ?_
  rintro e w5 ⟨b, rfl, b0, b1, hg, hat⟩
  have hb1 : b ≤ 11 := by simpa using b1
  have HT5 := hide (HT4.out.pick hg hat)
  clear hg hat b1 HT4
  have z2 := HT5.out.blk.frozen 3
  have c2 := HT5.out.blk.cell 3
  simp at c2
  have hlK := HT5.out.blk.lt
  go_upto_region 4 with fail
  clear z2 c2 hlK
  have HT6 : Hid (OneS X _ RB XB ⟨id, kind, 540 + 5 * a, 20 + 5 * b, 0⟩ w _) := hide (HT5.out.set (j := 3) (u := .int .i64 (20 + 5 * b)) (y := ⟨id, kind, 540 + 5 * a, 20 + 5 * b, 0⟩) rfl)
  generalize World.setCell w5 ⟨XB, 3, none⟩ (.int .i64 (20 + 5 * b)) = w6 at HT6 ⊢
  clear HT5
  go_wp2_with fail
  obtain ⟨KL, hKL⟩ : ∃ KL, KL = w6.heap.size := ⟨_, rfl⟩
  generalize hwl : World.alloc w6 _ = wl
  have hRl : Rd intC 1 wl (some ⟨KL, 0, none⟩) [10, 50, 50, 80, 120, 0] := by
    rw [← hwl, hKL]
    exact Blk.rd (cells := intC) (xs := [10, 50, 50, 80, 120, 0]) (t := 2) intC_len (Blk.new w6 2 _)
  have hxl5 : IsX w6 wl := by rw [← hwl]; exact (IsX.refl w6).alloc _
  have hXK : X < KL := by have := HT6.out.src.lt; omega
  rw [← hKL]
  have HL5 := hide (HT6.out.x hxl5)
  clear hwl hxl5 hKL HT6
  refine (c_among X _ (0) (120) (some ⟨KL, 0, none⟩) 6 [10, 50, 50, 80, 120, 0] wl (by omega) (by simp) (by simp) (by simp; try omega) hRl (fun b off e => by injection e with e; injection e with e1 e2; omega) HL5.out.src).mono ?_
  rintro e w7 ⟨v, rfl, v0, v1, hg, hat⟩
  have HT7 := hide (HL5.out.pick hg hat)
  clear hg hat hRl HL5 hXK
  have z2 := HT7.out.blk.frozen 4
  have c2 := HT7.out.blk.cell 4
  simp at c2
  have hlK := HT7.out.blk.lt
  go_upto_region 5 with fail
  clear z2 c2 hlK
  have HT8 : Hid (OneS X _ RB XB ⟨id, kind, 540 + 5 * a, 20 + 5 * b, v⟩ w _) := hide (HT7.out.set (j := 4) (u := .int .i64 v) (y := ⟨id, kind, 540 + 5 * a, 20 + 5 * b, v⟩) rfl)
  generalize World.setCell w7 ⟨XB, 4, none⟩ (.int .i64 v) = w8 at HT8 ⊢
  clear HT7
  have e0 := HT8.out.blk.cell 0
  have e1 := HT8.out.blk.cell 1
  have e2 := HT8.out.blk.cell 2
  have e3 := HT8.out.blk.cell 3
  have e4 := HT8.out.blk.cell 4
  have z0 := HT8.out.res.cell 0
  have z1 := HT8.out.res.cell 1
  have z2 := HT8.out.res.cell 2
  have z3 := HT8.out.res.cell 3
  have z4 := HT8.out.res.cell 4
  simp at e0 e1 e2 e3 e4 z0 z1 z2 z3 z4
  have f0 := HT8.out.res.frozen 0
  have f1 := HT8.out.res.frozen 1
  have f2 := HT8.out.res.frozen 2
  have f3 := HT8.out.res.frozen 3
  have f4 := HT8.out.res.frozen 4
  have lb := HT8.out.blk.lt
  have lr := HT8.out.res.lt
  go_wp2_with fail
  have hB6 := ((((HT8.out.res.set_ 0 (.string id)).set_ 1 (.string kind)).set_ 2 (.int .i64 (540 + 5 * a))).set_ 3 (.int .i64 (20 + 5 * b))).set_ 4 (.int .i64 v)
  have hg6 := gr_far (gr_far (gr_far (gr_far (gr_far HT8.out.gr HT8.out.rw_ 0 (.string id)) HT8.out.rw_ 1 (.string kind)) HT8.out.rw_ 2 (.int .i64 (540 + 5 * a))) HT8.out.rw_ 3 (.int .i64 (20 + 5 * b))) HT8.out.rw_ 4 (.int .i64 v)
  have hXR : ∀ g, some RB = some g → X < g := fun g hg => by injection hg with hg; have := HT8.out.rw_; have := HT8.out.Xw; omega
  have hs6 := ((((HT8.out.src.gr (gr_of_set _ RB 0 (.string id)) hXR).gr (gr_of_set _ RB 1 (.string kind)) hXR).gr (gr_of_set _ RB 2 (.int .i64 (540 + 5 * a))) hXR).gr (gr_of_set _ RB 3 (.int .i64 (20 + 5 * b))) hXR).gr (gr_of_set _ RB 4 (.int .i64 v)) hXR
  generalize World.setCell _ ⟨RB, 4, none⟩ (.int .i64 v) = V6 at hB6 hg6 hs6 ⊢
  have r0 := hB6.cell 0
  have r1 := hB6.cell 1
  have r2 := hB6.cell 2
  have r3 := hB6.cell 3
  have r4 := hB6.cell 4
  simp at r0 r1 r2 r3 r4
  exact bodyPost_ret (v := .agg #[.string id, .string kind, .int .i64 (540 + 5 * a), .int .i64 (20 + 5 * b), .int .i64 v]) (by simp [results, Tryz.results23, go_sem, r0, r1, r2, r3, r4]) rfl ⟨⟨id, kind, (540 + 5 * a), (20 + 5 * b), v⟩, rfl, rfl, (by simp only [OfferD.sm]; have := HSZ.out; omega), hg6, hs6.le (by omega)⟩
end Go.Proofs.YtmipphgekcdaoaaGreatDoor

/-! DrawBend -/
namespace Go.Proofs.YtmipphgekcdaoaaGreatDoor
set_option linter.unusedVariables false
open Go.RowKit Go.ChangeShapes

set_option maxHeartbeats 6400000 in
set_option maxRecDepth 100000 in
theorem c_bend (X : Nat) (N : Int) (o : OfferD) (w : World) (hN : N ≤ 1099511620000) (ho : o.sm) (hs : SrcAt X N w) : Calls Tryz.prog 22 #[.pointer (some ⟨X, 0, none⟩), offerV o] w (OfferQ X (N + 8) o.Id w) := by
  obtain ⟨id, kind, st, ln, wo⟩ := o
  obtain ⟨hki, hst, hln, hwo⟩ := ho
  simp only at hki hst hln hwo
  obtain ⟨st0, st1⟩ := hst
  obtain ⟨ln0, ln1⟩ := hln
  obtain ⟨wo0, wo1⟩ := hwo
  have HS := hide hs
  have HKI := hide hki
  have hXw := hs.lt
  clear hs hki
  unfold offerV
  go_enter Tryz.func22, Tryz.ntmps22
  go_wp2_with fail
  obtain ⟨XB, hXB⟩ : ∃ XB, XB = w.heap.size := ⟨_, rfl⟩
  obtain ⟨RB, hRB⟩ : ∃ RB, RB = XB + 1 := ⟨_, rfl⟩
  generalize hwl : World.alloc (World.alloc w _) _ = wl
  have hT : OneS X N RB XB ⟨id, kind, st, ln, wo⟩ w wl := by
    have hx : IsX w wl := by rw [← hwl]; exact ((IsX.refl w).alloc _).alloc _
    refine ⟨?_, ?_, gr_of_x hx _, HS.out.x hx, by omega, by omega, by omega, hXw⟩
    · rw [← hwl, hRB, hXB]
      have h := Blk.new (w.alloc (.cells #[.string id, .string kind, .int .i64 st, .int .i64 ln, .int .i64 wo] 33)) 33 #[.string ByteArray.empty, .string ByteArray.empty, .int .i64 0, .int .i64 0, .int .i64 0]
      rw [World.size_alloc] at h
      exact h
    · rw [← hwl, hXB]; exact (Blk.new w 33 _).alloc _
  rw [← hXB, ← hRB]
  have HT := hide hT
  clear hwl hT hXB hRB HS
  refine (c_pick X N 22 wl (by omega) (by omega) HT.out.src).mono ?_
  rintro e w1 ⟨v, rfl, v0, v1, hg, hat⟩
  have HT1 := hide (HT.out.pick hg hat)
  clear hg hat v1 HT
  by_cases c0 : v = 0
  · subst c0
    go_wp2_with fail
    obtain ⟨KL, hKL⟩ : ∃ KL, KL = w1.heap.size := ⟨_, rfl⟩
    generalize hwl : World.alloc w1 _ = wl
    have hRl : Rd intC 1 wl (some ⟨KL, 0, none⟩) [-1, 0, 1439, 1440] := by
      rw [← hwl, hKL]
      exact Blk.rd (cells := intC) (xs := [-1, 0, 1439, 1440]) (t := 2) intC_len (Blk.new w1 2 _)
    have hxl5 : IsX w1 wl := by rw [← hwl]; exact (IsX.refl w1).alloc _
    have hXK : X < KL := by have := HT1.out.src.lt; omega
    rw [← hKL]
    have HL5 := hide (HT1.out.x hxl5)
    clear hwl hxl5 hKL HT1
    refine (c_among X _ (-1) (1440) (some ⟨KL, 0, none⟩) 4 [-1, 0, 1439, 1440] wl (by omega) (by simp) (by simp) (by simp; try omega) hRl (fun b off e => by injection e with e; injection e with e1 e2; omega) HL5.out.src).mono ?_
    rintro e w2 ⟨y, rfl, y0, y1, hg, hat⟩
    have HT2 := hide (HL5.out.pick hg hat)
    clear hg hat hRl HL5 hXK
    have z2 := HT2.out.blk.frozen 2
    have c2 := HT2.out.blk.cell 2
    simp at c2
    have hlK := HT2.out.blk.lt
    go_upto_region 10 with fail
    clear z2 c2 hlK
    have HT3 : Hid (OneS X _ RB XB ⟨id, kind, y, ln, wo⟩ w _) := hide (HT2.out.set (j := 2) (u := .int .i64 y) (y := ⟨id, kind, y, ln, wo⟩) rfl)
    generalize World.setCell w2 ⟨XB, 2, none⟩ (.int .i64 y) = w3 at HT3 ⊢
    clear HT2
    have e0 := HT3.out.blk.cell 0
    have e1 := HT3.out.blk.cell 1
    have e2 := HT3.out.blk.cell 2
    have e3 := HT3.out.blk.cell 3
    have e4 := HT3.out.blk.cell 4
    have z0 := HT3.out.res.cell 0
    have z1 := HT3.out.res.cell 1
    have z2 := HT3.out.res.cell 2
    have z3 := HT3.out.res.cell 3
    have z4 := HT3.out.res.cell 4
    simp at e0 e1 e2 e3 e4 z0 z1 z2 z3 z4
    have f0 := HT3.out.res.frozen 0
    have f1 := HT3.out.res.frozen 1
    have f2 := HT3.out.res.frozen 2
    have f3 := HT3.out.res.frozen 3
    have f4 := HT3.out.res.frozen 4
    have lb := HT3.out.blk.lt
    have lr := HT3.out.res.lt
    go_wp2_with fail
    have hB6 := ((((HT3.out.res.set_ 0 (.string id)).set_ 1 (.string kind)).set_ 2 (.int .i64 y)).set_ 3 (.int .i64 ln)).set_ 4 (.int .i64 wo)
    have hg6 := gr_far (gr_far (gr_far (gr_far (gr_far HT3.out.gr HT3.out.rw_ 0 (.string id)) HT3.out.rw_ 1 (.string kind)) HT3.out.rw_ 2 (.int .i64 y)) HT3.out.rw_ 3 (.int .i64 ln)) HT3.out.rw_ 4 (.int .i64 wo)
    have hXR : ∀ g, some RB = some g → X < g := fun g hg => by injection hg with hg; have := HT3.out.rw_; have := HT3.out.Xw; omega
    have hs6 := ((((HT3.out.src.gr (gr_of_set _ RB 0 (.string id)) hXR).gr (gr_of_set _ RB 1 (.string kind)) hXR).gr (gr_of_set _ RB 2 (.int .i64 y)) hXR).gr (gr_of_set _ RB 3 (.int .i64 ln)) hXR).gr (gr_of_set _ RB 4 (.int .i64 wo)) hXR
    generalize World.setCell _ ⟨RB, 4, none⟩ (.int .i64 wo) = V6 at hB6 hg6 hs6 ⊢
    have r0 := hB6.cell 0
    have r1 := hB6.cell 1
    have r2 := hB6.cell 2
    have r3 := hB6.cell 3
    have r4 := hB6.cell 4
    simp at r0 r1 r2 r3 r4
    exact bodyPost_ret (v := .agg #[.string id, .string kind, .int .i64 y, .int .i64 ln, .int .i64 wo]) (by simp [results, Tryz.results22, go_sem, r0, r1, r2, r3, r4]) rfl ⟨⟨id, kind, y, ln, wo⟩, rfl, rfl, (by simp only [OfferD.sm]; have := HKI.out; omega), hg6, hs6.le (by omega)⟩
  have q0 : (v == 0) = false := by simp only [beq_eq_false_iff_ne, ne_eq]; exact c0
  by_cases c1 : v = 1
  · subst c1
    clear q0 c0
    have x2 := HT1.out.blk.cell 2
    simp at x2
    have hlK := HT1.out.blk.lt
    go_wp2_with fail
    clear x2 hlK
    obtain ⟨KL, hKL⟩ : ∃ KL, KL = w1.heap.size := ⟨_, rfl⟩
    generalize hwl : World.alloc w1 _ = wl
    have hRl : Rd intC 1 wl (some ⟨KL, 0, none⟩) [0, 1, 1440 - st, 1441 - st] := by
      rw [← hwl, hKL]
      exact Blk.rd (cells := intC) (xs := [0, 1, 1440 - st, 1441 - st]) (t := 2) intC_len (Blk.new w1 2 _)
    have hxl5 : IsX w1 wl := by rw [← hwl]; exact (IsX.refl w1).alloc _
    have hXK : X < KL := by have := HT1.out.src.lt; omega
    rw [← hKL]
    have HL5 := hide (HT1.out.x hxl5)
    clear hwl hxl5 hKL HT1
    refine (c_among X _ (-20000) (20000) (some ⟨KL, 0, none⟩) 4 [0, 1, 1440 - st, 1441 - st] wl (by omega) (by simp) (by simp) (by simp; try omega) hRl (fun b off e => by injection e with e; injection e with e1 e2; omega) HL5.out.src).mono ?_
    rintro e w2 ⟨y, rfl, y0, y1, hg, hat⟩
    have HT2 := hide (HL5.out.pick hg hat)
    clear hg hat hRl HL5 hXK
    have z2 := HT2.out.blk.frozen 3
    have c2 := HT2.out.blk.cell 3
    simp at c2
    have hlK := HT2.out.blk.lt
    go_upto_region 10 with fail
    clear z2 c2 hlK
    have HT3 : Hid (OneS X _ RB XB ⟨id, kind, st, y, wo⟩ w _) := hide (HT2.out.set (j := 3) (u := .int .i64 y) (y := ⟨id, kind, st, y, wo⟩) rfl)
    generalize World.setCell w2 ⟨XB, 3, none⟩ (.int .i64 y) = w3 at HT3 ⊢
    clear HT2
    have e0 := HT3.out.blk.cell 0
    have e1 := HT3.out.blk.cell 1
    have e2 := HT3.out.blk.cell 2
    have e3 := HT3.out.blk.cell 3
    have e4 := HT3.out.blk.cell 4
    have z0 := HT3.out.res.cell 0
    have z1 := HT3.out.res.cell 1
    have z2 := HT3.out.res.cell 2
    have z3 := HT3.out.res.cell 3
    have z4 := HT3.out.res.cell 4
    simp at e0 e1 e2 e3 e4 z0 z1 z2 z3 z4
    have f0 := HT3.out.res.frozen 0
    have f1 := HT3.out.res.frozen 1
    have f2 := HT3.out.res.frozen 2
    have f3 := HT3.out.res.frozen 3
    have f4 := HT3.out.res.frozen 4
    have lb := HT3.out.blk.lt
    have lr := HT3.out.res.lt
    go_wp2_with fail
    have hB6 := ((((HT3.out.res.set_ 0 (.string id)).set_ 1 (.string kind)).set_ 2 (.int .i64 st)).set_ 3 (.int .i64 y)).set_ 4 (.int .i64 wo)
    have hg6 := gr_far (gr_far (gr_far (gr_far (gr_far HT3.out.gr HT3.out.rw_ 0 (.string id)) HT3.out.rw_ 1 (.string kind)) HT3.out.rw_ 2 (.int .i64 st)) HT3.out.rw_ 3 (.int .i64 y)) HT3.out.rw_ 4 (.int .i64 wo)
    have hXR : ∀ g, some RB = some g → X < g := fun g hg => by injection hg with hg; have := HT3.out.rw_; have := HT3.out.Xw; omega
    have hs6 := ((((HT3.out.src.gr (gr_of_set _ RB 0 (.string id)) hXR).gr (gr_of_set _ RB 1 (.string kind)) hXR).gr (gr_of_set _ RB 2 (.int .i64 st)) hXR).gr (gr_of_set _ RB 3 (.int .i64 y)) hXR).gr (gr_of_set _ RB 4 (.int .i64 wo)) hXR
    generalize World.setCell _ ⟨RB, 4, none⟩ (.int .i64 wo) = V6 at hB6 hg6 hs6 ⊢
    have r0 := hB6.cell 0
    have r1 := hB6.cell 1
    have r2 := hB6.cell 2
    have r3 := hB6.cell 3
    have r4 := hB6.cell 4
    simp at r0 r1 r2 r3 r4
    exact bodyPost_ret (v := .agg #[.string id, .string kind, .int .i64 st, .int .i64 y, .int .i64 wo]) (by simp [results, Tryz.results22, go_sem, r0, r1, r2, r3, r4]) rfl ⟨⟨id, kind, st, y, wo⟩, rfl, rfl, (by simp only [OfferD.sm]; have := HKI.out; omega), hg6, hs6.le (by omega)⟩
  have q1 : (v == 1) = false := by simp only [beq_eq_false_iff_ne, ne_eq]; exact c1
  by_cases c2 : v = 2
  · subst c2
    clear q0 q1 c0 c1
    go_wp2_with fail
    obtain ⟨KL, hKL⟩ : ∃ KL, KL = w1.heap.size := ⟨_, rfl⟩
    generalize hwl : World.alloc w1 _ = wl
    have hRl : Rd intC 1 wl (some ⟨KL, 0, none⟩) [-1, 10000, 10001] := by
      rw [← hwl, hKL]
      exact Blk.rd (cells := intC) (xs := [-1, 10000, 10001]) (t := 2) intC_len (Blk.new w1 2 _)
    have hxl5 : IsX w1 wl := by rw [← hwl]; exact (IsX.refl w1).alloc _
    have hXK : X < KL := by have := HT1.out.src.lt; omega
    rw [← hKL]
    have HL5 := hide (HT1.out.x hxl5)
    clear hwl hxl5 hKL HT1
    refine (c_among X _ (-1) (10001) (some ⟨KL, 0, none⟩) 3 [-1, 10000, 10001] wl (by omega) (by simp) (by simp) (by simp; try omega) hRl (fun b off e => by injection e with e; injection e with e1 e2; omega) HL5.out.src).mono ?_
    rintro e w2 ⟨y, rfl, y0, y1, hg, hat⟩
    have HT2 := hide (HL5.out.pick hg hat)
    clear hg hat hRl HL5 hXK
    have z2 := HT2.out.blk.frozen 4
    have c2 := HT2.out.blk.cell 4
    simp at c2
    have hlK := HT2.out.blk.lt
    go_upto_region 10 with fail
    clear z2 c2 hlK
    have HT3 : Hid (OneS X _ RB XB ⟨id, kind, st, ln, y⟩ w _) := hide (HT2.out.set (j := 4) (u := .int .i64 y) (y := ⟨id, kind, st, ln, y⟩) rfl)
    generalize World.setCell w2 ⟨XB, 4, none⟩ (.int .i64 y) = w3 at HT3 ⊢
    clear HT2
    have e0 := HT3.out.blk.cell 0
    have e1 := HT3.out.blk.cell 1
    have e2 := HT3.out.blk.cell 2
    have e3 := HT3.out.blk.cell 3
    have e4 := HT3.out.blk.cell 4
    have z0 := HT3.out.res.cell 0
    have z1 := HT3.out.res.cell 1
    have z2 := HT3.out.res.cell 2
    have z3 := HT3.out.res.cell 3
    have z4 := HT3.out.res.cell 4
    simp at e0 e1 e2 e3 e4 z0 z1 z2 z3 z4
    have f0 := HT3.out.res.frozen 0
    have f1 := HT3.out.res.frozen 1
    have f2 := HT3.out.res.frozen 2
    have f3 := HT3.out.res.frozen 3
    have f4 := HT3.out.res.frozen 4
    have lb := HT3.out.blk.lt
    have lr := HT3.out.res.lt
    go_wp2_with fail
    have hB6 := ((((HT3.out.res.set_ 0 (.string id)).set_ 1 (.string kind)).set_ 2 (.int .i64 st)).set_ 3 (.int .i64 ln)).set_ 4 (.int .i64 y)
    have hg6 := gr_far (gr_far (gr_far (gr_far (gr_far HT3.out.gr HT3.out.rw_ 0 (.string id)) HT3.out.rw_ 1 (.string kind)) HT3.out.rw_ 2 (.int .i64 st)) HT3.out.rw_ 3 (.int .i64 ln)) HT3.out.rw_ 4 (.int .i64 y)
    have hXR : ∀ g, some RB = some g → X < g := fun g hg => by injection hg with hg; have := HT3.out.rw_; have := HT3.out.Xw; omega
    have hs6 := ((((HT3.out.src.gr (gr_of_set _ RB 0 (.string id)) hXR).gr (gr_of_set _ RB 1 (.string kind)) hXR).gr (gr_of_set _ RB 2 (.int .i64 st)) hXR).gr (gr_of_set _ RB 3 (.int .i64 ln)) hXR).gr (gr_of_set _ RB 4 (.int .i64 y)) hXR
    generalize World.setCell _ ⟨RB, 4, none⟩ (.int .i64 y) = V6 at hB6 hg6 hs6 ⊢
    have r0 := hB6.cell 0
    have r1 := hB6.cell 1
    have r2 := hB6.cell 2
    have r3 := hB6.cell 3
    have r4 := hB6.cell 4
    simp at r0 r1 r2 r3 r4
    exact bodyPost_ret (v := .agg #[.string id, .string kind, .int .i64 st, .int .i64 ln, .int .i64 y]) (by simp [results, Tryz.results22, go_sem, r0, r1, r2, r3, r4]) rfl ⟨⟨id, kind, st, ln, y⟩, rfl, rfl, (by simp only [OfferD.sm]; have := HKI.out; omega), hg6, hs6.le (by omega)⟩
  have q2 : (v == 2) = false := by simp only [beq_eq_false_iff_ne, ne_eq]; exact c2
  by_cases c3 : v = 3
  · subst c3
    clear q0 q1 q2 c0 c1 c2
    go_wp2_with fail
    obtain ⟨KL, hKL⟩ : ∃ KL, KL = w1.heap.size := ⟨_, rfl⟩
    generalize hwl : World.alloc w1 _ = wl
    have hRl : Rd strC 1 wl (some ⟨KL, 0, none⟩) [⟨#[]⟩, ⟨#[75]⟩] := by
      rw [← hwl, hKL]
      exact Blk.rd (cells := strC) (xs := [⟨#[]⟩, ⟨#[75]⟩]) (t := 9) strC_len (Blk.new w1 9 #[.string ⟨#[]⟩, .string ⟨#[75]⟩])
    have hxl5 : IsX w1 wl := by rw [← hwl]; exact (IsX.refl w1).alloc _
    have hXK : X < KL := by have := HT1.out.src.lt; omega
    rw [← hKL]
    have HL5 := hide (HT1.out.x hxl5)
    clear hwl hxl5 hKL HT1
    refine (c_text X _ (some ⟨KL, 0, none⟩) 2 [⟨#[]⟩, ⟨#[75]⟩] wl (by omega) (by simp) (by simp) hRl (fun b off e => by injection e with e; injection e with e1 e2; omega) HL5.out.src).mono ?_
    rintro e w2 ⟨y, rfl, ym, hg, hat⟩
    have HT2 := hide (HL5.out.pick hg hat)
    have HSZ : Hid (y.size ≤ 10) := hide (by
      simp only [List.mem_cons, List.not_mem_nil, or_false] at ym
      rcases ym with rfl | rfl <;> simp [ByteArray.size])
    clear hg hat hRl HL5 hXK ym
    have z2 := HT2.out.blk.frozen 1
    have c2 := HT2.out.blk.cell 1
    simp at c2
    have hlK := HT2.out.blk.lt
    go_upto_region 10 with fail
    clear z2 c2 hlK
    have HT3 : Hid (OneS X _ RB XB ⟨id, y, st, ln, wo⟩ w _) := hide (HT2.out.set (j := 1) (u := .string y) (y := ⟨id, y, st, ln, wo⟩) rfl)
    generalize World.setCell w2 ⟨XB, 1, none⟩ (.string y) = w3 at HT3 ⊢
    clear HT2
    have e0 := HT3.out.blk.cell 0
    have e1 := HT3.out.blk.cell 1
    have e2 := HT3.out.blk.cell 2
    have e3 := HT3.out.blk.cell 3
    have e4 := HT3.out.blk.cell 4
    have z0 := HT3.out.res.cell 0
    have z1 := HT3.out.res.cell 1
    have z2 := HT3.out.res.cell 2
    have z3 := HT3.out.res.cell 3
    have z4 := HT3.out.res.cell 4
    simp at e0 e1 e2 e3 e4 z0 z1 z2 z3 z4
    have f0 := HT3.out.res.frozen 0
    have f1 := HT3.out.res.frozen 1
    have f2 := HT3.out.res.frozen 2
    have f3 := HT3.out.res.frozen 3
    have f4 := HT3.out.res.frozen 4
    have lb := HT3.out.blk.lt
    have lr := HT3.out.res.lt
    go_wp2_with fail
    have hB6 := ((((HT3.out.res.set_ 0 (.string id)).set_ 1 (.string y)).set_ 2 (.int .i64 st)).set_ 3 (.int .i64 ln)).set_ 4 (.int .i64 wo)
    have hg6 := gr_far (gr_far (gr_far (gr_far (gr_far HT3.out.gr HT3.out.rw_ 0 (.string id)) HT3.out.rw_ 1 (.string y)) HT3.out.rw_ 2 (.int .i64 st)) HT3.out.rw_ 3 (.int .i64 ln)) HT3.out.rw_ 4 (.int .i64 wo)
    have hXR : ∀ g, some RB = some g → X < g := fun g hg => by injection hg with hg; have := HT3.out.rw_; have := HT3.out.Xw; omega
    have hs6 := ((((HT3.out.src.gr (gr_of_set _ RB 0 (.string id)) hXR).gr (gr_of_set _ RB 1 (.string y)) hXR).gr (gr_of_set _ RB 2 (.int .i64 st)) hXR).gr (gr_of_set _ RB 3 (.int .i64 ln)) hXR).gr (gr_of_set _ RB 4 (.int .i64 wo)) hXR
    generalize World.setCell _ ⟨RB, 4, none⟩ (.int .i64 wo) = V6 at hB6 hg6 hs6 ⊢
    have r0 := hB6.cell 0
    have r1 := hB6.cell 1
    have r2 := hB6.cell 2
    have r3 := hB6.cell 3
    have r4 := hB6.cell 4
    simp at r0 r1 r2 r3 r4
    exact bodyPost_ret (v := .agg #[.string id, .string y, .int .i64 st, .int .i64 ln, .int .i64 wo]) (by simp [results, Tryz.results22, go_sem, r0, r1, r2, r3, r4]) rfl ⟨⟨id, y, st, ln, wo⟩, rfl, rfl, (by simp only [OfferD.sm]; have := HSZ.out; omega), hg6, hs6.le (by omega)⟩
  have q3 : (v == 3) = false := by simp only [beq_eq_false_iff_ne, ne_eq]; exact c3
  have e0 := HT1.out.blk.cell 0
  have e1 := HT1.out.blk.cell 1
  have e2 := HT1.out.blk.cell 2
  have e3 := HT1.out.blk.cell 3
  have e4 := HT1.out.blk.cell 4
  have z0 := HT1.out.res.cell 0
  have z1 := HT1.out.res.cell 1
  have z2 := HT1.out.res.cell 2
  have z3 := HT1.out.res.cell 3
  have z4 := HT1.out.res.cell 4
  simp at e0 e1 e2 e3 e4 z0 z1 z2 z3 z4
  have f0 := HT1.out.res.frozen 0
  have f1 := HT1.out.res.frozen 1
  have f2 := HT1.out.res.frozen 2
  have f3 := HT1.out.res.frozen 3
  have f4 := HT1.out.res.frozen 4
  have lb := HT1.out.blk.lt
  have lr := HT1.out.res.lt
  go_wp2_with fail
  have hB6 := ((((HT1.out.res.set_ 0 (.string id)).set_ 1 (.string kind)).set_ 2 (.int .i64 st)).set_ 3 (.int .i64 ln)).set_ 4 (.int .i64 wo)
  have hg6 := gr_far (gr_far (gr_far (gr_far (gr_far HT1.out.gr HT1.out.rw_ 0 (.string id)) HT1.out.rw_ 1 (.string kind)) HT1.out.rw_ 2 (.int .i64 st)) HT1.out.rw_ 3 (.int .i64 ln)) HT1.out.rw_ 4 (.int .i64 wo)
  have hXR : ∀ g, some RB = some g → X < g := fun g hg => by injection hg with hg; have := HT1.out.rw_; have := HT1.out.Xw; omega
  have hs6 := ((((HT1.out.src.gr (gr_of_set _ RB 0 (.string id)) hXR).gr (gr_of_set _ RB 1 (.string kind)) hXR).gr (gr_of_set _ RB 2 (.int .i64 st)) hXR).gr (gr_of_set _ RB 3 (.int .i64 ln)) hXR).gr (gr_of_set _ RB 4 (.int .i64 wo)) hXR
  generalize World.setCell _ ⟨RB, 4, none⟩ (.int .i64 wo) = V6 at hB6 hg6 hs6 ⊢
  have r0 := hB6.cell 0
  have r1 := hB6.cell 1
  have r2 := hB6.cell 2
  have r3 := hB6.cell 3
  have r4 := hB6.cell 4
  simp at r0 r1 r2 r3 r4
  exact bodyPost_ret (v := .agg #[.string id, .string kind, .int .i64 st, .int .i64 ln, .int .i64 wo]) (by simp [results, Tryz.results22, go_sem, r0, r1, r2, r3, r4]) rfl ⟨⟨id, kind, st, ln, wo⟩, rfl, rfl, (by simp only [OfferD.sm]; have := HKI.out; omega), hg6, hs6.le (by omega)⟩
end Go.Proofs.YtmipphgekcdaoaaGreatDoor
