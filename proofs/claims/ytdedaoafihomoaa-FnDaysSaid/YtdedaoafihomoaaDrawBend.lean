/- An offer that is bent. Conditions: fewer than 2^39 choices. -/
import Derived.Test.YtdedaoafihomoaaDrawOne
namespace Go.Proofs.Ytdedaoafihomoaa
set_option linter.unusedVariables false
open Go.RowKit Go.ChangeShapes

set_option maxHeartbeats 6400000 in
set_option maxRecDepth 100000 in
theorem c_bend (X : Nat) (N : Int) (o : OfferD) (w : World) (hN : N ≤ 1099511620000) (ho : o.sm) (hs : SrcAt X N w) : Calls Try.prog 30 #[.pointer (some ⟨X, 0, none⟩), offerV o] w (OfferQ X (N + 8) o.Id w) := by
  obtain ⟨id, kind, st, ln, wo⟩ := o
  obtain ⟨hki, hst, hln, hwo⟩ := ho
  simp only at hki hst hln hwo
  obtain ⟨st0, st1⟩ := hst
  obtain ⟨ln0, ln1⟩ := hln
  obtain ⟨wo0, wo1⟩ := hwo
  have HS := hide hs
  have HKI := hide hki
  have hXw := hs.lt
  clear hs hki
  unfold offerV
  go_enter Try.func30, Try.ntmps30
  go_wp2_with fail
  obtain ⟨XB, hXB⟩ : ∃ XB, XB = w.heap.size := ⟨_, rfl⟩
  obtain ⟨RB, hRB⟩ : ∃ RB, RB = XB + 1 := ⟨_, rfl⟩
  generalize hwl : World.alloc (World.alloc w _) _ = wl
  have hT : OneS X N RB XB ⟨id, kind, st, ln, wo⟩ w wl := by
    have hx : IsX w wl := by rw [← hwl]; exact ((IsX.refl w).alloc _).alloc _
    refine ⟨?_, ?_, gr_of_x hx _, HS.out.x hx, by omega, by omega, by omega, hXw⟩
    · rw [← hwl, hRB, hXB]
      have h := Blk.new (w.alloc (.cells #[.string id, .string kind, .int .i64 st, .int .i64 ln, .int .i64 wo] 52)) 52 #[.string ByteArray.empty, .string ByteArray.empty, .int .i64 0, .int .i64 0, .int .i64 0]
      rw [World.size_alloc] at h
      exact h
    · rw [← hwl, hXB]; exact (Blk.new w 52 _).alloc _
  rw [← hXB, ← hRB]
  have HT := hide hT
  clear hwl hT hXB hRB HS
  refine (c_pick X N 22 wl (by omega) (by omega) HT.out.src).mono ?_
  rintro e w1 ⟨v, rfl, v0, v1, hg, hat⟩
  have HT1 := hide (HT.out.pick hg hat)
  clear hg hat v1 HT
  by_cases c0 : v = 0
  · subst c0
    go_wp2_with fail
    obtain ⟨KL, hKL⟩ : ∃ KL, KL = w1.heap.size := ⟨_, rfl⟩
    generalize hwl : World.alloc w1 _ = wl
    have hRl : Rd intC 1 wl (some ⟨KL, 0, none⟩) [-1, 0, 1439, 1440] := by
      rw [← hwl, hKL]
      exact Blk.rd (cells := intC) (xs := [-1, 0, 1439, 1440]) (t := 2) intC_len (Blk.new w1 2 _)
    have hxl5 : IsX w1 wl := by rw [← hwl]; exact (IsX.refl w1).alloc _
    have hXK : X < KL := by have := HT1.out.src.lt; omega
    rw [← hKL]
    have HL5 := hide (HT1.out.x hxl5)
    clear hwl hxl5 hKL HT1
    refine (c_among X _ (-1) (1440) (some ⟨KL, 0, none⟩) 4 [-1, 0, 1439, 1440] wl (by omega) (by simp) (by simp) (by simp; try omega) hRl (fun b off e => by injection e with e; injection e with e1 e2; omega) HL5.out.src).mono ?_
    rintro e w2 ⟨y, rfl, y0, y1, hg, hat⟩
    have HT2 := hide (HL5.out.pick hg hat)
    clear hg hat hRl HL5 hXK
    have z2 := HT2.out.blk.frozen 2
    have c2 := HT2.out.blk.cell 2
    simp at c2
    have hlK := HT2.out.blk.lt
    go_upto_region 10 with fail
    clear z2 c2 hlK
    have HT3 : Hid (OneS X _ RB XB ⟨id, kind, y, ln, wo⟩ w _) := hide (HT2.out.set (j := 2) (u := .int .i64 y) (y := ⟨id, kind, y, ln, wo⟩) rfl)
    generalize World.setCell w2 ⟨XB, 2, none⟩ (.int .i64 y) = w3 at HT3 ⊢
    clear HT2
    have e0 := HT3.out.blk.cell 0
    have e1 := HT3.out.blk.cell 1
    have e2 := HT3.out.blk.cell 2
    have e3 := HT3.out.blk.cell 3
    have e4 := HT3.out.blk.cell 4
    have z0 := HT3.out.res.cell 0
    have z1 := HT3.out.res.cell 1
    have z2 := HT3.out.res.cell 2
    have z3 := HT3.out.res.cell 3
    have z4 := HT3.out.res.cell 4
    simp at e0 e1 e2 e3 e4 z0 z1 z2 z3 z4
    have f0 := HT3.out.res.frozen 0
    have f1 := HT3.out.res.frozen 1
    have f2 := HT3.out.res.frozen 2
    have f3 := HT3.out.res.frozen 3
    have f4 := HT3.out.res.frozen 4
    have lb := HT3.out.blk.lt
    have lr := HT3.out.res.lt
    go_wp2_with fail
    have hB6 := ((((HT3.out.res.set_ 0 (.string id)).set_ 1 (.string kind)).set_ 2 (.int .i64 y)).set_ 3 (.int .i64 ln)).set_ 4 (.int .i64 wo)
    have hg6 := gr_far (gr_far (gr_far (gr_far (gr_far HT3.out.gr HT3.out.rw_ 0 (.string id)) HT3.out.rw_ 1 (.string kind)) HT3.out.rw_ 2 (.int .i64 y)) HT3.out.rw_ 3 (.int .i64 ln)) HT3.out.rw_ 4 (.int .i64 wo)
    have hXR : ∀ g, some RB = some g → X < g := fun g hg => by injection hg with hg; have := HT3.out.rw_; have := HT3.out.Xw; omega
    have hs6 := ((((HT3.out.src.gr (gr_of_set _ RB 0 (.string id)) hXR).gr (gr_of_set _ RB 1 (.string kind)) hXR).gr (gr_of_set _ RB 2 (.int .i64 y)) hXR).gr (gr_of_set _ RB 3 (.int .i64 ln)) hXR).gr (gr_of_set _ RB 4 (.int .i64 wo)) hXR
    generalize World.setCell _ ⟨RB, 4, none⟩ (.int .i64 wo) = V6 at hB6 hg6 hs6 ⊢
    have r0 := hB6.cell 0
    have r1 := hB6.cell 1
    have r2 := hB6.cell 2
    have r3 := hB6.cell 3
    have r4 := hB6.cell 4
    simp at r0 r1 r2 r3 r4
    exact bodyPost_ret (v := .agg #[.string id, .string kind, .int .i64 y, .int .i64 ln, .int .i64 wo]) (by simp [results, Try.results30, go_sem, r0, r1, r2, r3, r4]) rfl ⟨⟨id, kind, y, ln, wo⟩, rfl, rfl, (by simp only [OfferD.sm]; have := HKI.out; omega), hg6, hs6.le (by omega)⟩
  have q0 : (v == 0) = false := by simp only [beq_eq_false_iff_ne, ne_eq]; exact c0
  by_cases c1 : v = 1
  · subst c1
    clear q0 c0
    have x2 := HT1.out.blk.cell 2
    simp at x2
    have hlK := HT1.out.blk.lt
    go_wp2_with fail
    clear x2 hlK
    obtain ⟨KL, hKL⟩ : ∃ KL, KL = w1.heap.size := ⟨_, rfl⟩
    generalize hwl : World.alloc w1 _ = wl
    have hRl : Rd intC 1 wl (some ⟨KL, 0, none⟩) [0, 1, 1440 - st, 1441 - st] := by
      rw [← hwl, hKL]
      exact Blk.rd (cells := intC) (xs := [0, 1, 1440 - st, 1441 - st]) (t := 2) intC_len (Blk.new w1 2 _)
    have hxl5 : IsX w1 wl := by rw [← hwl]; exact (IsX.refl w1).alloc _
    have hXK : X < KL := by have := HT1.out.src.lt; omega
    rw [← hKL]
    have HL5 := hide (HT1.out.x hxl5)
    clear hwl hxl5 hKL HT1
    refine (c_among X _ (-20000) (20000) (some ⟨KL, 0, none⟩) 4 [0, 1, 1440 - st, 1441 - st] wl (by omega) (by simp) (by simp) (by simp; try omega) hRl (fun b off e => by injection e with e; injection e with e1 e2; omega) HL5.out.src).mono ?_
    rintro e w2 ⟨y, rfl, y0, y1, hg, hat⟩
    have HT2 := hide (HL5.out.pick hg hat)
    clear hg hat hRl HL5 hXK
    have z2 := HT2.out.blk.frozen 3
    have c2 := HT2.out.blk.cell 3
    simp at c2
    have hlK := HT2.out.blk.lt
    go_upto_region 10 with fail
    clear z2 c2 hlK
    have HT3 : Hid (OneS X _ RB XB ⟨id, kind, st, y, wo⟩ w _) := hide (HT2.out.set (j := 3) (u := .int .i64 y) (y := ⟨id, kind, st, y, wo⟩) rfl)
    generalize World.setCell w2 ⟨XB, 3, none⟩ (.int .i64 y) = w3 at HT3 ⊢
    clear HT2
    have e0 := HT3.out.blk.cell 0
    have e1 := HT3.out.blk.cell 1
    have e2 := HT3.out.blk.cell 2
    have e3 := HT3.out.blk.cell 3
    have e4 := HT3.out.blk.cell 4
    have z0 := HT3.out.res.cell 0
    have z1 := HT3.out.res.cell 1
    have z2 := HT3.out.res.cell 2
    have z3 := HT3.out.res.cell 3
    have z4 := HT3.out.res.cell 4
    simp at e0 e1 e2 e3 e4 z0 z1 z2 z3 z4
    have f0 := HT3.out.res.frozen 0
    have f1 := HT3.out.res.frozen 1
    have f2 := HT3.out.res.frozen 2
    have f3 := HT3.out.res.frozen 3
    have f4 := HT3.out.res.frozen 4
    have lb := HT3.out.blk.lt
    have lr := HT3.out.res.lt
    go_wp2_with fail
    have hB6 := ((((HT3.out.res.set_ 0 (.string id)).set_ 1 (.string kind)).set_ 2 (.int .i64 st)).set_ 3 (.int .i64 y)).set_ 4 (.int .i64 wo)
    have hg6 := gr_far (gr_far (gr_far (gr_far (gr_far HT3.out.gr HT3.out.rw_ 0 (.string id)) HT3.out.rw_ 1 (.string kind)) HT3.out.rw_ 2 (.int .i64 st)) HT3.out.rw_ 3 (.int .i64 y)) HT3.out.rw_ 4 (.int .i64 wo)
    have hXR : ∀ g, some RB = some g → X < g := fun g hg => by injection hg with hg; have := HT3.out.rw_; have := HT3.out.Xw; omega
    have hs6 := ((((HT3.out.src.gr (gr_of_set _ RB 0 (.string id)) hXR).gr (gr_of_set _ RB 1 (.string kind)) hXR).gr (gr_of_set _ RB 2 (.int .i64 st)) hXR).gr (gr_of_set _ RB 3 (.int .i64 y)) hXR).gr (gr_of_set _ RB 4 (.int .i64 wo)) hXR
    generalize World.setCell _ ⟨RB, 4, none⟩ (.int .i64 wo) = V6 at hB6 hg6 hs6 ⊢
    have r0 := hB6.cell 0
    have r1 := hB6.cell 1
    have r2 := hB6.cell 2
    have r3 := hB6.cell 3
    have r4 := hB6.cell 4
    simp at r0 r1 r2 r3 r4
    exact bodyPost_ret (v := .agg #[.string id, .string kind, .int .i64 st, .int .i64 y, .int .i64 wo]) (by simp [results, Try.results30, go_sem, r0, r1, r2, r3, r4]) rfl ⟨⟨id, kind, st, y, wo⟩, rfl, rfl, (by simp only [OfferD.sm]; have := HKI.out; omega), hg6, hs6.le (by omega)⟩
  have q1 : (v == 1) = false := by simp only [beq_eq_false_iff_ne, ne_eq]; exact c1
  by_cases c2 : v = 2
  · subst c2
    clear q0 q1 c0 c1
    go_wp2_with fail
    obtain ⟨KL, hKL⟩ : ∃ KL, KL = w1.heap.size := ⟨_, rfl⟩
    generalize hwl : World.alloc w1 _ = wl
    have hRl : Rd intC 1 wl (some ⟨KL, 0, none⟩) [-1, 10000, 10001] := by
      rw [← hwl, hKL]
      exact Blk.rd (cells := intC) (xs := [-1, 10000, 10001]) (t := 2) intC_len (Blk.new w1 2 _)
    have hxl5 : IsX w1 wl := by rw [← hwl]; exact (IsX.refl w1).alloc _
    have hXK : X < KL := by have := HT1.out.src.lt; omega
    rw [← hKL]
    have HL5 := hide (HT1.out.x hxl5)
    clear hwl hxl5 hKL HT1
    refine (c_among X _ (-1) (10001) (some ⟨KL, 0, none⟩) 3 [-1, 10000, 10001] wl (by omega) (by simp) (by simp) (by simp; try omega) hRl (fun b off e => by injection e with e; injection e with e1 e2; omega) HL5.out.src).mono ?_
    rintro e w2 ⟨y, rfl, y0, y1, hg, hat⟩
    have HT2 := hide (HL5.out.pick hg hat)
    clear hg hat hRl HL5 hXK
    have z2 := HT2.out.blk.frozen 4
    have c2 := HT2.out.blk.cell 4
    simp at c2
    have hlK := HT2.out.blk.lt
    go_upto_region 10 with fail
    clear z2 c2 hlK
    have HT3 : Hid (OneS X _ RB XB ⟨id, kind, st, ln, y⟩ w _) := hide (HT2.out.set (j := 4) (u := .int .i64 y) (y := ⟨id, kind, st, ln, y⟩) rfl)
    generalize World.setCell w2 ⟨XB, 4, none⟩ (.int .i64 y) = w3 at HT3 ⊢
    clear HT2
    have e0 := HT3.out.blk.cell 0
    have e1 := HT3.out.blk.cell 1
    have e2 := HT3.out.blk.cell 2
    have e3 := HT3.out.blk.cell 3
    have e4 := HT3.out.blk.cell 4
    have z0 := HT3.out.res.cell 0
    have z1 := HT3.out.res.cell 1
    have z2 := HT3.out.res.cell 2
    have z3 := HT3.out.res.cell 3
    have z4 := HT3.out.res.cell 4
    simp at e0 e1 e2 e3 e4 z0 z1 z2 z3 z4
    have f0 := HT3.out.res.frozen 0
    have f1 := HT3.out.res.frozen 1
    have f2 := HT3.out.res.frozen 2
    have f3 := HT3.out.res.frozen 3
    have f4 := HT3.out.res.frozen 4
    have lb := HT3.out.blk.lt
    have lr := HT3.out.res.lt
    go_wp2_with fail
    have hB6 := ((((HT3.out.res.set_ 0 (.string id)).set_ 1 (.string kind)).set_ 2 (.int .i64 st)).set_ 3 (.int .i64 ln)).set_ 4 (.int .i64 y)
    have hg6 := gr_far (gr_far (gr_far (gr_far (gr_far HT3.out.gr HT3.out.rw_ 0 (.string id)) HT3.out.rw_ 1 (.string kind)) HT3.out.rw_ 2 (.int .i64 st)) HT3.out.rw_ 3 (.int .i64 ln)) HT3.out.rw_ 4 (.int .i64 y)
    have hXR : ∀ g, some RB = some g → X < g := fun g hg => by injection hg with hg; have := HT3.out.rw_; have := HT3.out.Xw; omega
    have hs6 := ((((HT3.out.src.gr (gr_of_set _ RB 0 (.string id)) hXR).gr (gr_of_set _ RB 1 (.string kind)) hXR).gr (gr_of_set _ RB 2 (.int .i64 st)) hXR).gr (gr_of_set _ RB 3 (.int .i64 ln)) hXR).gr (gr_of_set _ RB 4 (.int .i64 y)) hXR
    generalize World.setCell _ ⟨RB, 4, none⟩ (.int .i64 y) = V6 at hB6 hg6 hs6 ⊢
    have r0 := hB6.cell 0
    have r1 := hB6.cell 1
    have r2 := hB6.cell 2
    have r3 := hB6.cell 3
    have r4 := hB6.cell 4
    simp at r0 r1 r2 r3 r4
    exact bodyPost_ret (v := .agg #[.string id, .string kind, .int .i64 st, .int .i64 ln, .int .i64 y]) (by simp [results, Try.results30, go_sem, r0, r1, r2, r3, r4]) rfl ⟨⟨id, kind, st, ln, y⟩, rfl, rfl, (by simp only [OfferD.sm]; have := HKI.out; omega), hg6, hs6.le (by omega)⟩
  have q2 : (v == 2) = false := by simp only [beq_eq_false_iff_ne, ne_eq]; exact c2
  by_cases c3 : v = 3
  · subst c3
    clear q0 q1 q2 c0 c1 c2
    go_wp2_with fail
    obtain ⟨KL, hKL⟩ : ∃ KL, KL = w1.heap.size := ⟨_, rfl⟩
    generalize hwl : World.alloc w1 _ = wl
    have hRl : Rd strC 1 wl (some ⟨KL, 0, none⟩) [⟨#[]⟩, ⟨#[75]⟩] := by
      rw [← hwl, hKL]
      exact Blk.rd (cells := strC) (xs := [⟨#[]⟩, ⟨#[75]⟩]) (t := 9) strC_len (Blk.new w1 9 #[.string ⟨#[]⟩, .string ⟨#[75]⟩])
    have hxl5 : IsX w1 wl := by rw [← hwl]; exact (IsX.refl w1).alloc _
    have hXK : X < KL := by have := HT1.out.src.lt; omega
    rw [← hKL]
    have HL5 := hide (HT1.out.x hxl5)
    clear hwl hxl5 hKL HT1
    refine (c_text X _ (some ⟨KL, 0, none⟩) 2 [⟨#[]⟩, ⟨#[75]⟩] wl (by omega) (by simp) (by simp) hRl (fun b off e => by injection e with e; injection e with e1 e2; omega) HL5.out.src).mono ?_
    rintro e w2 ⟨y, rfl, ym, hg, hat⟩
    have HT2 := hide (HL5.out.pick hg hat)
    have HSZ : Hid (y.size ≤ 10) := hide (by
      simp only [List.mem_cons, List.not_mem_nil, or_false] at ym
      rcases ym with rfl | rfl <;> simp [ByteArray.size])
    clear hg hat hRl HL5 hXK ym
    have z2 := HT2.out.blk.frozen 1
    have c2 := HT2.out.blk.cell 1
    simp at c2
    have hlK := HT2.out.blk.lt
    go_upto_region 10 with fail
    clear z2 c2 hlK
    have HT3 : Hid (OneS X _ RB XB ⟨id, y, st, ln, wo⟩ w _) := hide (HT2.out.set (j := 1) (u := .string y) (y := ⟨id, y, st, ln, wo⟩) rfl)
    generalize World.setCell w2 ⟨XB, 1, none⟩ (.string y) = w3 at HT3 ⊢
    clear HT2
    have e0 := HT3.out.blk.cell 0
    have e1 := HT3.out.blk.cell 1
    have e2 := HT3.out.blk.cell 2
    have e3 := HT3.out.blk.cell 3
    have e4 := HT3.out.blk.cell 4
    have z0 := HT3.out.res.cell 0
    have z1 := HT3.out.res.cell 1
    have z2 := HT3.out.res.cell 2
    have z3 := HT3.out.res.cell 3
    have z4 := HT3.out.res.cell 4
    simp at e0 e1 e2 e3 e4 z0 z1 z2 z3 z4
    have f0 := HT3.out.res.frozen 0
    have f1 := HT3.out.res.frozen 1
    have f2 := HT3.out.res.frozen 2
    have f3 := HT3.out.res.frozen 3
    have f4 := HT3.out.res.frozen 4
    have lb := HT3.out.blk.lt
    have lr := HT3.out.res.lt
    go_wp2_with fail
    have hB6 := ((((HT3.out.res.set_ 0 (.string id)).set_ 1 (.string y)).set_ 2 (.int .i64 st)).set_ 3 (.int .i64 ln)).set_ 4 (.int .i64 wo)
    have hg6 := gr_far (gr_far (gr_far (gr_far (gr_far HT3.out.gr HT3.out.rw_ 0 (.string id)) HT3.out.rw_ 1 (.string y)) HT3.out.rw_ 2 (.int .i64 st)) HT3.out.rw_ 3 (.int .i64 ln)) HT3.out.rw_ 4 (.int .i64 wo)
    have hXR : ∀ g, some RB = some g → X < g := fun g hg => by injection hg with hg; have := HT3.out.rw_; have := HT3.out.Xw; omega
    have hs6 := ((((HT3.out.src.gr (gr_of_set _ RB 0 (.string id)) hXR).gr (gr_of_set _ RB 1 (.string y)) hXR).gr (gr_of_set _ RB 2 (.int .i64 st)) hXR).gr (gr_of_set _ RB 3 (.int .i64 ln)) hXR).gr (gr_of_set _ RB 4 (.int .i64 wo)) hXR
    generalize World.setCell _ ⟨RB, 4, none⟩ (.int .i64 wo) = V6 at hB6 hg6 hs6 ⊢
    have r0 := hB6.cell 0
    have r1 := hB6.cell 1
    have r2 := hB6.cell 2
    have r3 := hB6.cell 3
    have r4 := hB6.cell 4
    simp at r0 r1 r2 r3 r4
    exact bodyPost_ret (v := .agg #[.string id, .string y, .int .i64 st, .int .i64 ln, .int .i64 wo]) (by simp [results, Try.results30, go_sem, r0, r1, r2, r3, r4]) rfl ⟨⟨id, y, st, ln, wo⟩, rfl, rfl, (by simp only [OfferD.sm]; have := HSZ.out; omega), hg6, hs6.le (by omega)⟩
  have q3 : (v == 3) = false := by simp only [beq_eq_false_iff_ne, ne_eq]; exact c3
  have e0 := HT1.out.blk.cell 0
  have e1 := HT1.out.blk.cell 1
  have e2 := HT1.out.blk.cell 2
  have e3 := HT1.out.blk.cell 3
  have e4 := HT1.out.blk.cell 4
  have z0 := HT1.out.res.cell 0
  have z1 := HT1.out.res.cell 1
  have z2 := HT1.out.res.cell 2
  have z3 := HT1.out.res.cell 3
  have z4 := HT1.out.res.cell 4
  simp at e0 e1 e2 e3 e4 z0 z1 z2 z3 z4
  have f0 := HT1.out.res.frozen 0
  have f1 := HT1.out.res.frozen 1
  have f2 := HT1.out.res.frozen 2
  have f3 := HT1.out.res.frozen 3
  have f4 := HT1.out.res.frozen 4
  have lb := HT1.out.blk.lt
  have lr := HT1.out.res.lt
  go_wp2_with fail
  have hB6 := ((((HT1.out.res.set_ 0 (.string id)).set_ 1 (.string kind)).set_ 2 (.int .i64 st)).set_ 3 (.int .i64 ln)).set_ 4 (.int .i64 wo)
  have hg6 := gr_far (gr_far (gr_far (gr_far (gr_far HT1.out.gr HT1.out.rw_ 0 (.string id)) HT1.out.rw_ 1 (.string kind)) HT1.out.rw_ 2 (.int .i64 st)) HT1.out.rw_ 3 (.int .i64 ln)) HT1.out.rw_ 4 (.int .i64 wo)
  have hXR : ∀ g, some RB = some g → X < g := fun g hg => by injection hg with hg; have := HT1.out.rw_; have := HT1.out.Xw; omega
  have hs6 := ((((HT1.out.src.gr (gr_of_set _ RB 0 (.string id)) hXR).gr (gr_of_set _ RB 1 (.string kind)) hXR).gr (gr_of_set _ RB 2 (.int .i64 st)) hXR).gr (gr_of_set _ RB 3 (.int .i64 ln)) hXR).gr (gr_of_set _ RB 4 (.int .i64 wo)) hXR
  generalize World.setCell _ ⟨RB, 4, none⟩ (.int .i64 wo) = V6 at hB6 hg6 hs6 ⊢
  have r0 := hB6.cell 0
  have r1 := hB6.cell 1
  have r2 := hB6.cell 2
  have r3 := hB6.cell 3
  have r4 := hB6.cell 4
  simp at r0 r1 r2 r3 r4
  exact bodyPost_ret (v := .agg #[.string id, .string kind, .int .i64 st, .int .i64 ln, .int .i64 wo]) (by simp [results, Try.results30, go_sem, r0, r1, r2, r3, r4]) rfl ⟨⟨id, kind, st, ln, wo⟩, rfl, rfl, (by simp only [OfferD.sm]; have := HKI.out; omega), hg6, hs6.le (by omega)⟩
end Go.Proofs.Ytdedaoafihomoaa
