/- A cue that is drawn: a valid one. Conditions: fewer than 2^39 choices. -/
import Derived.Test.YtegehdhdlljikaaDrawRun
import Derived.Test.YtegehdhdlljikaaCueList
namespace Go.Proofs.Ytegehdhdlljikaa
set_option linter.unusedVariables false
open Go.RowKit Go.ChangeShapes

def id10 : List ByteArray := [⟨#[97]⟩, ⟨#[98]⟩, ⟨#[99]⟩, ⟨#[100]⟩, ⟨#[101]⟩, ⟨#[102]⟩, ⟨#[103]⟩, ⟨#[104]⟩, ⟨#[105]⟩, ⟨#[107]⟩]
def tg3 : List ByteArray := [⟨#[115, 116, 97, 114, 115]⟩, ⟨#[115, 117, 110]⟩, ⟨#[104, 97, 108, 108]⟩]
theorem id10_ok : ∀ s ∈ id10, nameB s = true ∧ s.size ≤ 10 := by decide +kernel
theorem tg3_ok : ∀ s ∈ tg3, nameB s = true ∧ s.size ≤ 10 := by decide +kernel
def cueV (x : CueD) : Value := .agg #[.string x.Id, .int .i64 x.Time, .int .i64 x.Length, .string x.Target, .int .i64 x.Action, .int .i64 x.Val]
def cueOk (x : CueD) : Prop := x.okB = true ∧ x.wf
theorem cue_ok {i g : ByteArray} {t l a v : Int} (hi : i ∈ id10) (hg : g ∈ tg3) (ht : 0 ≤ t ∧ t ≤ 6000) (hv : 0 ≤ v ∧ v ≤ 1000) (ha : (a = 1 ∧ l = 0) ∨ (a = 2 ∧ 1 ≤ l ∧ l ≤ 1200) ∨ (a = 3 ∧ l = 0 ∧ v = 0)) : cueOk ⟨i, t, l, g, a, v⟩ := by
  have h1 := id10_ok i hi
  have h2 := tg3_ok g hg
  constructor
  · simp only [CueD.okB, CueD.actB, h1.1, h2.1, Bool.and_true, Bool.true_and]
    rw [inB_true.2 (show 0 ≤ t ∧ t ≤ 7200000 by omega), inB_true.2 hv]
    rcases ha with ⟨rfl, rfl⟩ | ⟨rfl, h3⟩ | ⟨rfl, rfl, rfl⟩
    · simp
    · simp [inB_true.2 (show 1 ≤ l ∧ l ≤ 7200000 - t by omega)]
    · simp
  · simp only [CueD.wf, maxLen]
    omega
/-- a cue by itself -/
def CueQ (X : Nat) (N : Int) (w : World) (e : Ending) (w' : World) : Prop := ∃ x : CueD, e = .returned (cueV x) ∧ cueOk x ∧ w.grownBy w' (some X) ∧ SrcAt X N w'
/-- block RB for the result, block XB for the cue, choices up to N -/
structure CuS (X : Nat) (N : Int) (RB XB : Nat) (x : CueD) (w wr : World) : Prop where
  res : Blk wr RB 60 #[.string ByteArray.empty, .int .i64 0, .int .i64 0, .string ByteArray.empty, .int .i64 0, .int .i64 0]
  blk : Blk wr XB 60 #[.string x.Id, .int .i64 x.Time, .int .i64 x.Length, .string x.Target, .int .i64 x.Action, .int .i64 x.Val]
  gr : w.grownBy wr (some X)
  src : SrcAt X N wr
  rw_ : w.heap.size ≤ RB
  xw : w.heap.size ≤ XB
  ne : RB ≠ XB
  Xw : X < w.heap.size
section
variable {X RB XB : Nat} {N : Int} {q : CueD} {w wr w1 : World}
theorem CuS.x (h : CuS X N RB XB q w wr) (hx : IsX wr w1) : CuS X N RB XB q w w1 := ⟨h.res.x hx, h.blk.x hx, gr_x h.gr hx, h.src.x hx, h.rw_, h.xw, h.ne, h.Xw⟩
theorem CuS.pick {M : Int} (h : CuS X N RB XB q w wr) (hg : wr.grownBy w1 (some X)) (hat : SrcAt X M w1) : CuS X M RB XB q w w1 :=
  ⟨h.res.gr hg (fun e => by injection e with e; have := h.rw_; have := h.Xw; omega), h.blk.gr hg (fun e => by injection e with e; have := h.xw; have := h.Xw; omega), gr_tr h.gr hg, hat, h.rw_, h.xw, h.ne, h.Xw⟩
theorem CuS.set {j : Nat} {u : Value} {y : CueD} (h : CuS X N RB XB q w wr) (hy : (#[Value.string q.Id, .int .i64 q.Time, .int .i64 q.Length, .string q.Target, .int .i64 q.Action, .int .i64 q.Val]).setIfInBounds j u = #[.string y.Id, .int .i64 y.Time, .int .i64 y.Length, .string y.Target, .int .i64 y.Action, .int .i64 y.Val]) : CuS X N RB XB y w (wr.setCell ⟨XB, j, none⟩ u) :=
  ⟨h.res.far h.ne u, hy ▸ h.blk.set_ j u, gr_far h.gr h.xw j u, h.src.gr (gr_of_set wr XB j u) (fun g hg => by injection hg with hg; have := h.xw; have := h.Xw; omega), h.rw_, h.xw, h.ne, h.Xw⟩
end
set_option maxHeartbeats 6400000 in
set_option maxRecDepth 100000 in
theorem c_l13DrawOne (X : Nat) (N : Int) (w : World) (hN : N ≤ 1099511620000) (hs : SrcAt X N w) : Calls Try.prog 37 #[.pointer (some ⟨X, 0, none⟩)] w (CueQ X (N + 20) w) := by
  have HS := hide hs
  have hXw := hs.lt
  clear hs
  go_enter Try.func37, Try.ntmps37
  go_wp2_with fail
  obtain ⟨RB, hRB⟩ : ∃ RB, RB = w.heap.size := ⟨_, rfl⟩
  obtain ⟨KL, hKL⟩ : ∃ KL, KL = RB + 1 := ⟨_, rfl⟩
  generalize hwl : World.alloc (World.alloc w _) _ = wl
  have hres : Blk wl RB 60 #[.string ByteArray.empty, .int .i64 0, .int .i64 0, .string ByteArray.empty, .int .i64 0, .int .i64 0] := by rw [← hwl, hRB]; exact (Blk.new w 60 _).alloc _
  have hRl : Rd strC 1 wl (some ⟨KL, 0, none⟩) [⟨#[97]⟩, ⟨#[98]⟩, ⟨#[99]⟩, ⟨#[100]⟩, ⟨#[101]⟩, ⟨#[102]⟩, ⟨#[103]⟩, ⟨#[104]⟩, ⟨#[105]⟩, ⟨#[107]⟩] := by
    rw [← hwl, hKL, hRB]
    have h := Blk.rd (cells := strC) (xs := [⟨#[97]⟩, ⟨#[98]⟩, ⟨#[99]⟩, ⟨#[100]⟩, ⟨#[101]⟩, ⟨#[102]⟩, ⟨#[103]⟩, ⟨#[104]⟩, ⟨#[105]⟩, ⟨#[107]⟩]) (t := 9) strC_len (Blk.new (w.alloc (.cells #[.string ByteArray.empty, .int .i64 0, .int .i64 0, .string ByteArray.empty, .int .i64 0, .int .i64 0] 60)) 9 #[.string ⟨#[97]⟩, .string ⟨#[98]⟩, .string ⟨#[99]⟩, .string ⟨#[100]⟩, .string ⟨#[101]⟩, .string ⟨#[102]⟩, .string ⟨#[103]⟩, .string ⟨#[104]⟩, .string ⟨#[105]⟩, .string ⟨#[107]⟩])
    rw [World.size_alloc] at h
    exact h
  have hxl : IsX w wl := by rw [← hwl]; exact ((IsX.refl w).alloc _).alloc _
  have hwR : w.heap.size ≤ RB := by omega
  have hKX : X < KL := by omega
  rw [← hRB, ← hKL]
  have HSl := hide (HS.out.x hxl)
  have HGl := hide (gr_of_x hxl (some X))
  have HRES := hide hres
  clear hwl hres hxl hRB hKL HS
  refine (c_text X N (some ⟨KL, 0, none⟩) 10 [⟨#[97]⟩, ⟨#[98]⟩, ⟨#[99]⟩, ⟨#[100]⟩, ⟨#[101]⟩, ⟨#[102]⟩, ⟨#[103]⟩, ⟨#[104]⟩, ⟨#[105]⟩, ⟨#[107]⟩] wl (by omega) (by simp) (by simp) hRl (fun b off e => by injection e with e; injection e with e1 e2; omega) HSl.out).mono ?_
  rintro e w1 ⟨id, rfl, im, hg, hat⟩
  have HIM := hide im
  have HR1 := hide (HRES.out.gr hg (fun e => by injection e with e; omega))
  have HG1 := hide (gr_tr HGl.out hg)
  have HS1 := hide hat
  clear hg hat hRl HSl HGl HRES im hKX
  go_wp2_with fail
  refine (c_pick X _ 60 w1 (by omega) (by omega) HS1.out).mono ?_
  rintro e w2 ⟨tm, rfl, t0, t1, hg, hat⟩
  have ht1 : tm ≤ 59 := by simpa using t1
  have HR2 := hide (HR1.out.gr hg (fun e => by injection e with e; omega))
  have HG2 := hide (gr_tr HG1.out hg)
  have HS2 := hide hat
  clear hg hat t1 HR1 HG1 HS1
  go_wp2_with fail
  obtain ⟨XB, hXB⟩ : ∃ XB, XB = w2.heap.size := ⟨_, rfl⟩
  obtain ⟨KM, hKM⟩ : ∃ KM, KM = XB + 1 := ⟨_, rfl⟩
  generalize hw3 : World.alloc (World.alloc w2 _) _ = w3
  have hx3 : IsX w2 w3 := by rw [← hw3]; exact ((IsX.refl w2).alloc _).alloc _
  have hT : CuS X (N + 4) RB XB ⟨id, 100 * tm, 0, ByteArray.empty, 0, 0⟩ w w3 := by
    refine ⟨HR2.out.x hx3, by rw [← hw3, hXB]; exact (Blk.new w2 60 _).alloc _, gr_x HG2.out hx3, (HS2.out.x hx3).le (by omega), hwR, by have := HG2.out.size; omega, by have := HR2.out.lt; omega, hXw⟩
  have hRl : Rd strC 1 w3 (some ⟨KM, 0, none⟩) [⟨#[115, 116, 97, 114, 115]⟩, ⟨#[115, 117, 110]⟩, ⟨#[104, 97, 108, 108]⟩] := by
    rw [← hw3, hKM, hXB]
    have h := Blk.rd (cells := strC) (xs := [⟨#[115, 116, 97, 114, 115]⟩, ⟨#[115, 117, 110]⟩, ⟨#[104, 97, 108, 108]⟩]) (t := 9) strC_len (Blk.new (w2.alloc (.cells #[.string id, .int .i64 (100 * tm), .int .i64 0, .string ByteArray.empty, .int .i64 0, .int .i64 0] 60)) 9 #[.string ⟨#[115, 116, 97, 114, 115]⟩, .string ⟨#[115, 117, 110]⟩, .string ⟨#[104, 97, 108, 108]⟩])
    rw [World.size_alloc] at h
    exact h
  have hKX : X < KM := by have := HG2.out.size; omega
  rw [← hXB, ← hKM]
  have HT := hide hT
  clear hw3 hXB hKM hT hx3 HR2 HG2 HS2
  refine (c_text X _ (some ⟨KM, 0, none⟩) 3 [⟨#[115, 116, 97, 114, 115]⟩, ⟨#[115, 117, 110]⟩, ⟨#[104, 97, 108, 108]⟩] w3 (by omega) (by simp) (by simp) hRl (fun b off e => by injection e with e; injection e with e1 e2; omega) HT.out.src).mono ?_
  rintro e w4 ⟨tg, rfl, gm, hg, hat⟩
  have HGM := hide gm
  have HT4 := hide (HT.out.pick hg hat)
  clear hg hat hRl gm HT hKX
  have z2 := HT4.out.blk.frozen 3
  have c2 := HT4.out.blk.cell 3
  simp at c2
  have hlK := HT4.out.blk.lt
  go_upto_region 3 with fail
  clear z2 c2 hlK
  have HT5 : Hid (CuS X _ RB XB ⟨id, 100 * tm, 0, tg, 0, 0⟩ w _) := hide (HT4.out.set (j := 3) (u := .string tg) (y := ⟨id, 100 * tm, 0, tg, 0, 0⟩) rfl)
  generalize World.setCell w4 ⟨XB, 3, none⟩ (.string tg) = w5 at HT5 ⊢
  clear HT4
  go_wp2_with fail
  refine (c_pick X _ 3 w5 (by omega) (by omega) HT5.out.src).mono ?_
  rintro e w6 ⟨a, rfl, a0, a1, hg, hat⟩
  have ha1 : a ≤ 2 := by simpa using a1
  have HT6 := hide (HT5.out.pick hg hat)
  clear hg hat a1 HT5
  have z2 := HT6.out.blk.frozen 4
  have c2 := HT6.out.blk.cell 4
  simp at c2
  have hlK := HT6.out.blk.lt
  go_upto_region 4 with fail
  clear z2 c2 hlK
  have HT7 : Hid (CuS X _ RB XB ⟨id, 100 * tm, 0, tg, 1 + a, 0⟩ w _) := hide (HT6.out.set (j := 4) (u := .int .i64 (1 + a)) (y := ⟨id, 100 * tm, 0, tg, 1 + a, 0⟩) rfl)
  generalize World.setCell w6 ⟨XB, 4, none⟩ (.int .i64 (1 + a)) = w7 at HT7 ⊢
  clear HT6
  by_cases hc : a = 2
  · subst hc
    have hHT7 := HT7.out
    rw [show (1 + 2 : Int) = 3 from rfl] at hHT7
    have HT7 := hide hHT7
    clear hHT7
    have d4 := HT7.out.blk.cell 4
    simp at d4
    have hlK := HT7.out.blk.lt
    have e0 := HT7.out.blk.cell 0
    have e1 := HT7.out.blk.cell 1
    have e2 := HT7.out.blk.cell 2
    have e3 := HT7.out.blk.cell 3
    have e4 := HT7.out.blk.cell 4
    have e5 := HT7.out.blk.cell 5
    have z0 := HT7.out.res.cell 0
    have z1 := HT7.out.res.cell 1
    have z2 := HT7.out.res.cell 2
    have z3 := HT7.out.res.cell 3
    have z4 := HT7.out.res.cell 4
    have z5 := HT7.out.res.cell 5
    simp at e0 e1 e2 e3 e4 e5 z0 z1 z2 z3 z4 z5
    have f0 := HT7.out.res.frozen 0
    have f1 := HT7.out.res.frozen 1
    have f2 := HT7.out.res.frozen 2
    have f3 := HT7.out.res.frozen 3
    have f4 := HT7.out.res.frozen 4
    have f5 := HT7.out.res.frozen 5
    have lb := HT7.out.blk.lt
    have lr := HT7.out.res.lt
    have hne := HT7.out.ne
    go_wp2_with fail
    have hB6 := ((((((HT7.out.res).set_ 0 (.string id)).set_ 1 (.int .i64 (100 * tm))).set_ 2 (.int .i64 0)).set_ 3 (.string tg)).set_ 4 (.int .i64 3)).set_ 5 (.int .i64 0)
    have hg6 := gr_far (gr_far (gr_far (gr_far (gr_far (gr_far (HT7.out.gr) HT7.out.rw_ 0 (.string id)) HT7.out.rw_ 1 (.int .i64 (100 * tm))) HT7.out.rw_ 2 (.int .i64 0)) HT7.out.rw_ 3 (.string tg)) HT7.out.rw_ 4 (.int .i64 3)) HT7.out.rw_ 5 (.int .i64 0)
    have hXR : ∀ g, some RB = some g → X < g := fun g hg => by injection hg with hg; have := HT7.out.rw_; have := HT7.out.Xw; omega
    have hs6 := ((((((HT7.out.src).gr (gr_of_set _ RB 0 (.string id)) hXR).gr (gr_of_set _ RB 1 (.int .i64 (100 * tm))) hXR).gr (gr_of_set _ RB 2 (.int .i64 0)) hXR).gr (gr_of_set _ RB 3 (.string tg)) hXR).gr (gr_of_set _ RB 4 (.int .i64 3)) hXR).gr (gr_of_set _ RB 5 (.int .i64 0)) hXR
    generalize World.setCell _ ⟨RB, 5, none⟩ (.int .i64 0) = V6 at hB6 hg6 hs6 ⊢
    have r0 := hB6.cell 0
    have r1 := hB6.cell 1
    have r2 := hB6.cell 2
    have r3 := hB6.cell 3
    have r4 := hB6.cell 4
    have r5 := hB6.cell 5
    simp at r0 r1 r2 r3 r4 r5
    exact bodyPost_ret (v := cueV ⟨id, (100 * tm), 0, tg, 3, 0⟩) (by simp [results, cueV, Try.results37, go_sem, r0, r1, r2, r3, r4, r5]) rfl ⟨⟨id, (100 * tm), 0, tg, 3, 0⟩, rfl, (cue_ok HIM.out HGM.out (by omega) (by omega) (by omega)), hg6, hs6.le (by omega)⟩
  have hn3 : ((1 + a : Int) == 3) = false := by simp only [beq_eq_false_iff_ne, ne_eq]; omega
  have d4 := HT7.out.blk.cell 4
  simp at d4
  have hlK := HT7.out.blk.lt
  go_wp2_with fail
  clear d4 hlK
  refine (c_pick X _ 11 w7 (by omega) (by omega) HT7.out.src).mono ?_
  rintro e w8 ⟨v, rfl, v0, v1, hg, hat⟩
  have hv1 : v ≤ 10 := by simpa using v1
  have HT8 := hide (HT7.out.pick hg hat)
  clear hg hat v1 HT7 hn3
  have z2 := HT8.out.blk.frozen 5
  have c2 := HT8.out.blk.cell 5
  simp at c2
  have hlK := HT8.out.blk.lt
  go_upto_region 6 with fail
  clear z2 c2 hlK
  have HT9 : Hid (CuS X _ RB XB ⟨id, 100 * tm, 0, tg, 1 + a, 100 * v⟩ w _) := hide (HT8.out.set (j := 5) (u := .int .i64 (100 * v)) (y := ⟨id, 100 * tm, 0, tg, 1 + a, 100 * v⟩) rfl)
  generalize World.setCell w8 ⟨XB, 5, none⟩ (.int .i64 (100 * v)) = w9 at HT9 ⊢
  clear HT8
  by_cases hd : a = 1
  · subst hd
    clear hc
    have hHT9 := HT9.out
    rw [show (1 + 1 : Int) = 2 from rfl] at hHT9
    have HT9 := hide hHT9
    clear hHT9
    have d4 := HT9.out.blk.cell 4
    simp at d4
    have hlK := HT9.out.blk.lt
    go_wp2_with fail
    clear d4 hlK
    refine (c_pick X _ 12 w9 (by omega) (by omega) HT9.out.src).mono ?_
    rintro e wa ⟨l, rfl, l0, l1, hg, hat⟩
    have hl1 : l ≤ 11 := by simpa using l1
    have HTa := hide (HT9.out.pick hg hat)
    clear hg hat l1 HT9
    have z2 := HTa.out.blk.frozen 2
    have c2 := HTa.out.blk.cell 2
    simp at c2
    have hlK := HTa.out.blk.lt
    go_upto_region 8 with fail
    clear z2 c2 hlK
    have HTb : Hid (CuS X _ RB XB ⟨id, 100 * tm, 100 * (1 + l), tg, 2, 100 * v⟩ w _) := hide (HTa.out.set (j := 2) (u := .int .i64 (100 * (1 + l))) (y := ⟨id, 100 * tm, 100 * (1 + l), tg, 2, 100 * v⟩) rfl)
    generalize World.setCell wa ⟨XB, 2, none⟩ (.int .i64 (100 * (1 + l))) = wb at HTb ⊢
    clear HTa
    have e0 := HTb.out.blk.cell 0
    have e1 := HTb.out.blk.cell 1
    have e2 := HTb.out.blk.cell 2
    have e3 := HTb.out.blk.cell 3
    have e4 := HTb.out.blk.cell 4
    have e5 := HTb.out.blk.cell 5
    have z0 := HTb.out.res.cell 0
    have z1 := HTb.out.res.cell 1
    have z2 := HTb.out.res.cell 2
    have z3 := HTb.out.res.cell 3
    have z4 := HTb.out.res.cell 4
    have z5 := HTb.out.res.cell 5
    simp at e0 e1 e2 e3 e4 e5 z0 z1 z2 z3 z4 z5
    have f0 := HTb.out.res.frozen 0
    have f1 := HTb.out.res.frozen 1
    have f2 := HTb.out.res.frozen 2
    have f3 := HTb.out.res.frozen 3
    have f4 := HTb.out.res.frozen 4
    have f5 := HTb.out.res.frozen 5
    have lb := HTb.out.blk.lt
    have lr := HTb.out.res.lt
    have hne := HTb.out.ne
    go_wp2_with fail
    have hB6 := ((((((HTb.out.res).set_ 0 (.string id)).set_ 1 (.int .i64 (100 * tm))).set_ 2 (.int .i64 (100 * (1 + l)))).set_ 3 (.string tg)).set_ 4 (.int .i64 2)).set_ 5 (.int .i64 (100 * v))
    have hg6 := gr_far (gr_far (gr_far (gr_far (gr_far (gr_far (HTb.out.gr) HTb.out.rw_ 0 (.string id)) HTb.out.rw_ 1 (.int .i64 (100 * tm))) HTb.out.rw_ 2 (.int .i64 (100 * (1 + l)))) HTb.out.rw_ 3 (.string tg)) HTb.out.rw_ 4 (.int .i64 2)) HTb.out.rw_ 5 (.int .i64 (100 * v))
    have hXR : ∀ g, some RB = some g → X < g := fun g hg => by injection hg with hg; have := HTb.out.rw_; have := HTb.out.Xw; omega
    have hs6 := ((((((HTb.out.src).gr (gr_of_set _ RB 0 (.string id)) hXR).gr (gr_of_set _ RB 1 (.int .i64 (100 * tm))) hXR).gr (gr_of_set _ RB 2 (.int .i64 (100 * (1 + l)))) hXR).gr (gr_of_set _ RB 3 (.string tg)) hXR).gr (gr_of_set _ RB 4 (.int .i64 2)) hXR).gr (gr_of_set _ RB 5 (.int .i64 (100 * v))) hXR
    generalize World.setCell _ ⟨RB, 5, none⟩ (.int .i64 (100 * v)) = V6 at hB6 hg6 hs6 ⊢
    have r0 := hB6.cell 0
    have r1 := hB6.cell 1
    have r2 := hB6.cell 2
    have r3 := hB6.cell 3
    have r4 := hB6.cell 4
    have r5 := hB6.cell 5
    simp at r0 r1 r2 r3 r4 r5
    exact bodyPost_ret (v := cueV ⟨id, (100 * tm), (100 * (1 + l)), tg, 2, (100 * v)⟩) (by simp [results, cueV, Try.results37, go_sem, r0, r1, r2, r3, r4, r5]) rfl ⟨⟨id, (100 * tm), (100 * (1 + l)), tg, 2, (100 * v)⟩, rfl, (cue_ok HIM.out HGM.out (by omega) (by omega) (by omega)), hg6, hs6.le (by omega)⟩
  obtain rfl : a = 0 := by omega
  clear hc hd
  have hHT9 := HT9.out
  rw [show (1 + 0 : Int) = 1 from rfl] at hHT9
  have HT9 := hide hHT9
  clear hHT9
  have e0 := HT9.out.blk.cell 0
  have e1 := HT9.out.blk.cell 1
  have e2 := HT9.out.blk.cell 2
  have e3 := HT9.out.blk.cell 3
  have e4 := HT9.out.blk.cell 4
  have e5 := HT9.out.blk.cell 5
  have z0 := HT9.out.res.cell 0
  have z1 := HT9.out.res.cell 1
  have z2 := HT9.out.res.cell 2
  have z3 := HT9.out.res.cell 3
  have z4 := HT9.out.res.cell 4
  have z5 := HT9.out.res.cell 5
  simp at e0 e1 e2 e3 e4 e5 z0 z1 z2 z3 z4 z5
  have f0 := HT9.out.res.frozen 0
  have f1 := HT9.out.res.frozen 1
  have f2 := HT9.out.res.frozen 2
  have f3 := HT9.out.res.frozen 3
  have f4 := HT9.out.res.frozen 4
  have f5 := HT9.out.res.frozen 5
  have lb := HT9.out.blk.lt
  have lr := HT9.out.res.lt
  have hne := HT9.out.ne
  go_wp2_with fail
  have hB6 := ((((((HT9.out.res).set_ 0 (.string id)).set_ 1 (.int .i64 (100 * tm))).set_ 2 (.int .i64 0)).set_ 3 (.string tg)).set_ 4 (.int .i64 1)).set_ 5 (.int .i64 (100 * v))
  have hg6 := gr_far (gr_far (gr_far (gr_far (gr_far (gr_far (HT9.out.gr) HT9.out.rw_ 0 (.string id)) HT9.out.rw_ 1 (.int .i64 (100 * tm))) HT9.out.rw_ 2 (.int .i64 0)) HT9.out.rw_ 3 (.string tg)) HT9.out.rw_ 4 (.int .i64 1)) HT9.out.rw_ 5 (.int .i64 (100 * v))
  have hXR : ∀ g, some RB = some g → X < g := fun g hg => by injection hg with hg; have := HT9.out.rw_; have := HT9.out.Xw; omega
  have hs6 := ((((((HT9.out.src).gr (gr_of_set _ RB 0 (.string id)) hXR).gr (gr_of_set _ RB 1 (.int .i64 (100 * tm))) hXR).gr (gr_of_set _ RB 2 (.int .i64 0)) hXR).gr (gr_of_set _ RB 3 (.string tg)) hXR).gr (gr_of_set _ RB 4 (.int .i64 1)) hXR).gr (gr_of_set _ RB 5 (.int .i64 (100 * v))) hXR
  generalize World.setCell _ ⟨RB, 5, none⟩ (.int .i64 (100 * v)) = V6 at hB6 hg6 hs6 ⊢
  have r0 := hB6.cell 0
  have r1 := hB6.cell 1
  have r2 := hB6.cell 2
  have r3 := hB6.cell 3
  have r4 := hB6.cell 4
  have r5 := hB6.cell 5
  simp at r0 r1 r2 r3 r4 r5
  exact bodyPost_ret (v := cueV ⟨id, (100 * tm), 0, tg, 1, (100 * v)⟩) (by simp [results, cueV, Try.results37, go_sem, r0, r1, r2, r3, r4, r5]) rfl ⟨⟨id, (100 * tm), 0, tg, 1, (100 * v)⟩, rfl, (cue_ok HIM.out HGM.out (by omega) (by omega) (by omega)), hg6, hs6.le (by omega)⟩
end Go.Proofs.Ytegehdhdlljikaa
