/- Lists of numbers that are drawn: some list of small numbers. Conditions: fewer than 2^39 choices. -/
import Derived.Test.YthcgapfhlggegaaDraws
namespace Go.Proofs.Ythcgapfhlggegaa
set_option linter.unusedVariables false
open Go.RowKit Go.ChangeShapes

theorem gr_app {w w1 : World} {X base e n : Nat} {size : Nat} {v : Value} {L : List Value} {o : Obj} {w0 : World} (h : w0.grownBy w (some X)) (ho : w.ownsRow base e size v n L) (hg : (w.alloc o).grownBy w1 v.ownBlock) (hb : w0.heap.size ≤ base) : w0.grownBy w1 (some X) :=
  ⟨hg.os.trans h.os, hg.tape.trans h.tape, hg.output.trans h.output, Nat.le_trans h.size (Nat.le_trans (by simp) hg.size), fun k hk hne => by
    rw [hg.block k (by have := h.size; simp; omega) (fun e => by have := (ho.lt k e.symm).1; omega)]
    rw [(IsX.alloc (IsX.refl w) o).below.block k (Nat.lt_of_lt_of_le hk h.size)]
    exact h.block k hk hne⟩
theorem gr_far {w w1 : World} {X g : Nat} (h : w.grownBy w1 (some X)) (hg : w.heap.size ≤ g) (j : Nat) (u : Value) : w.grownBy (w1.setCell ⟨g, j, none⟩ u) (some X) :=
  ⟨h.os, h.tape, h.output, by simpa [World.setCell] using h.size, fun k hk hne => (Below.heap_setCell w1 ⟨g, j, none⟩ u k (show k ≠ g by omega)).trans (h.block k hk hne)⟩
theorem SrcAt.gr {w w1 : World} {X : Nat} {N : Int} {row : Option Nat} (h : SrcAt X N w) (hg : w.grownBy w1 row) (hr : ∀ g, row = some g → X < g) : SrcAt X N w1 := by
  obtain ⟨A, c, xs, a, s, h1, h2, h3, h4, h5, h6, h7, h8⟩ := h
  refine ⟨A, c, xs, a, s, h1.gr hg (fun e => by have := hr X e.symm; omega), h2, h3, h4, h5, ?_, h7, h8⟩
  intro i x hi
  obtain ⟨b, off, e, hb2, hc⟩ := h6 i x hi
  have hbb := h7 (by intro e; rw [e] at hi; simp at hi) b off e
  exact ⟨b, off, e, Nat.lt_of_lt_of_le hb2 hg.size, fun j u hu => (World.cell?_of_block (a := ⟨b, off + i * 1 + j, none⟩) (hg.block b hb2 (fun e => by have := hr b e.symm; omega))).trans (hc j u hu)⟩

theorem one_readsZ' (w : World) (t : Nat) (z : Int) : Reads (w.alloc (.cells #[.int .i64 z] t)) (w.alloc (.cells #[.int .i64 z] t)).heap.size 1 (some ⟨w.heap.size, 0, none⟩) 1 [.int .i64 z] := by
  have h := Rd.reads (cells := intC) (xs := [z]) (by omega) intC_len (Blk.rd (cells := intC) (xs := [z]) (t := t) intC_len (Blk.new w t #[.int .i64 z]))
  simpa [intC] using h
theorem one_oneZ' (z : Int) : ∀ u ∈ [Value.int .i64 z], u.oneCell' = true := by
  intro u hu
  simp only [List.mem_singleton] at hu
  subst hu; rfl
/-- a row of numbers of its own; block X has been written to -/
structure OwnI (X : Nat) (N : Int) (base : Nat) (v : Value) (n : Nat) (L : List Value) (w wr : World) : Prop where
  own : wr.ownsRow base 2 1 v n L
  gr : w.grownBy wr (some X)
  src : SrcAt X N wr
  lt : X < base
  bs : base ≤ wr.heap.size
  wb : w.heap.size ≤ base
section
variable {X base n : Nat} {N M : Int} {v : Value} {L : List Value} {w wr w1 : World}
theorem OwnI.x (h : OwnI X N base v n L w wr) (hx : IsX wr w1) : OwnI X N base v n L w w1 := ⟨own_x' h.own hx, gr_x h.gr hx, h.src.x hx, h.lt, Nat.le_trans h.bs hx.size, h.wb⟩
theorem OwnI.pick (h : OwnI X N base v n L w wr) (hg : wr.grownBy w1 (some X)) (hat : SrcAt X M w1) : OwnI X M base v n L w w1 := ⟨own_grX h.own hg h.lt, gr_tr h.gr hg, hat, h.lt, Nat.le_trans h.bs hg.size, h.wb⟩
theorem OwnI.le (h : OwnI X N base v n L w wr) (hM : N ≤ M) : OwnI X M base v n L w wr := ⟨h.own, h.gr, h.src.le hM, h.lt, h.bs, h.wb⟩
theorem OwnI.app {v' : Value} {n' : Nat} {L' : List Value} {o : Obj} (h : OwnI X N base v n L w wr) (hg : (wr.alloc o).grownBy w1 v.ownBlock) (ho : w1.ownsRow base 2 1 v' n' L') : OwnI X N base v' n' L' w w1 :=
  ⟨ho, gr_app h.gr h.own hg h.wb, (h.src.x ((IsX.refl wr).alloc o)).gr hg (fun g hg => by have := (h.own.lt g hg).1; have := h.lt; omega), h.lt, Nat.le_trans h.bs (Nat.le_trans (by simp) hg.size), h.wb⟩
theorem OwnI.new {v' : Value} {n' : Nat} {L' : List Value} (h : OwnI X N base v n L w wr) (hx : IsX wr w1) (ho : w1.ownsRow base 2 1 v' n' L') : OwnI X N base v' n' L' w w1 :=
  ⟨ho, gr_x h.gr hx, h.src.x hx, h.lt, Nat.le_trans h.bs hx.size, h.wb⟩
end
theorem ints_snoc (xs : List Int) (x : Int) : (xs ++ [x]).flatMap intC = xs.flatMap intC ++ [.int .i64 x] := by simp [intC]
/-- some list of numbers within bounds, the call's own -/
def IntsQ (X : Nat) (N lo hi : Int) (m : Nat) (w : World) (e : Ending) (w' : World) : Prop := ∃ (A : Option Addr) (c : Nat) (xs : List Int), e = .returned (.slice A xs.length c) ∧ xs.length ≤ m ∧ (∀ x ∈ xs, lo ≤ x ∧ x ≤ hi) ∧ w'.ownsRow w.heap.size 2 1 (.slice A xs.length c) xs.length (xs.flatMap intC) ∧ w.grownBy w' (some X) ∧ SrcAt X N w'
theorem bd_snoc {lo hi x : Int} {xs : List Int} (h : ∀ y ∈ xs, lo ≤ y ∧ y ≤ hi) (hx : lo ≤ x ∧ x ≤ hi) : ∀ y ∈ xs ++ [x], lo ≤ y ∧ y ≤ hi := fun y hy => by
  rcases List.mem_append.1 hy with h1 | h1
  · exact h y h1
  · simp at h1; subst h1; exact hx

set_option maxHeartbeats 6400000 in
set_option maxRecDepth 100000 in
theorem c_drawWidths (X : Nat) (N : Int) (w : World) (hN : N ≤ 1099511620000) (hs : SrcAt X N w) : Calls Try.prog 27 #[.pointer (some ⟨X, 0, none⟩)] w (IntsQ X (N + 100) 0 65 100 w) := by
  have HS := hide hs
  have hXw := hs.lt
  have HI := hide (info_parts Int64_info)
  clear hs
  go_enter Try.func27, Try.ntmps27
  go_wp2_with fail
  obtain ⟨base, hB⟩ : ∃ base, base = w.heap.size := ⟨_, rfl⟩
  generalize hw0 : World.alloc w _ = w0
  have hT0 : OwnI X N base (.slice (some ⟨base, 0, none⟩) 0 0) 0 [] w w0 := by
    have hx : IsX w w0 := by rw [← hw0]; exact (IsX.refl w).alloc _
    refine ⟨?_, gr_of_x hx _, HS.out.x hx, by omega, by rw [hB]; exact hx.size, by omega⟩
    rw [← hw0, hB]
    exact World.ownsRow_made w #[] 0 (Nat.le_refl _) (by simp [maxLen]) rfl
  rw [← hB]
  have HT0 := hide hT0
  have hwb : w.heap.size ≤ base := by omega
  clear hw0 hB hT0 HS hXw
  have HQ : Hid (∀ (A' : Option Addr) (c' : Nat) (ys : List Int) (W : World), ys.length ≤ 100 → (∀ x ∈ ys, 0 ≤ x ∧ x ≤ 65) → OwnI X (N + 100) base (.slice A' ys.length c') ys.length (ys.flatMap intC) w W → IntsQ X (N + 100) (0) 65 100 w (.returned (.slice A' ys.length c')) W) := hide (fun A' c' ys W h1 h2 h4 => ⟨A', c', ys, rfl, h1, h2, row_le' h4.own h4.wb, h4.gr, h4.src⟩)
  refine (c_pick X N 13 w0 (by omega) (by omega) HT0.out.src).mono ?_
  rintro e w2 ⟨k0, rfl, k00, k01, hg, hat⟩
  have hk01 : k0 ≤ 12 := by simpa using k01
  have HT2 := hide (HT0.out.pick hg hat)
  clear hg hat k01 HT0
  go_wp2_with fail
  go_loopw [3, 4] (fun ov kv wr => ∃ (xs : List Int) (k : Int) (A : Option Addr) (c : Nat), kv = .int .i64 k ∧ 0 ≤ k ∧ k ≤ 12 ∧ ov = .slice A xs.length c ∧ (xs.length : Int) ≤ 12 - k ∧ Hid (∀ x ∈ xs, 0 ≤ x ∧ x ≤ 65) ∧ Hid (OwnI X (N + 2 + (12 - k) * 4) base ov xs.length (xs.flatMap intC) w wr)) (fun _ kv _ => (intOf kv).toNat)
  case atStart => exact ⟨[], k0, _, _, rfl, k00, hk01, rfl, by simp; omega, hide (fun x hx => by simp at hx), hide (HT2.out.le (by omega))⟩
  case round =>
    clear HT2
    obtain ⟨xs, k, A, c, rfl, hk0, hk6, rfl, hxl, HBD, HT⟩ := hrel
    obtain ⟨n, hnn⟩ : ∃ n, n = xs.length := ⟨_, rfl⟩
    have HN := hide hnn
    rw [← hnn] at hxl HT ⊢
    clear hnn
    by_cases hkp : 0 < k
    · go_wp2_with fail
      obtain ⟨KL, hKL⟩ : ∃ KL, KL = wr.heap.size := ⟨_, rfl⟩
      generalize hwl : World.alloc wr _ = wl
      have hRl : Rd intC 1 wl (some ⟨KL, 0, none⟩) [64, 64, 40, 1, 63, 20, 33] := by
        rw [← hwl, hKL]
        exact Blk.rd (cells := intC) (xs := [64, 64, 40, 1, 63, 20, 33]) (t := 2) intC_len (Blk.new wr 2 _)
      have hxl5 : IsX wr wl := by rw [← hwl]; exact (IsX.refl wr).alloc _
      have hXK : X < KL := by have := HT.out.src.lt; omega
      rw [← hKL]
      have HL5 := hide (HT.out.x hxl5)
      clear hwl hxl5 hKL HT
      refine (c_among X _ (0) 64 (some ⟨KL, 0, none⟩) 7 [64, 64, 40, 1, 63, 20, 33] wl (by omega) (by simp) (by simp) (by simp) hRl (fun b off e => by injection e with e; injection e with e1 e2; omega) HL5.out.src).mono ?_
      rintro e w5 ⟨v, rfl, v0, v1, hg, hat⟩
      have HT6 := hide (HL5.out.pick hg hat)
      clear hg hat hRl HL5 hXK
      have hBs : base ≤ w5.heap.size := HT6.out.bs
      go_wp2_with (at_builtin; obtain ⟨i0, hi0, hz0, hz1, hz2⟩ := HI.out; refine wpList_append_any _ rfl (.tmp 14) (.tmp 18) _ rfl base 2 i0 _ 1 8 Try.underlying27 hi0 hz0 hz1 hz2 rfl (by omega) (.slice A n c) n (xs.flatMap intC) rfl (HT6.out.own.alloc _) _ (some ⟨w5.heap.size, 0, none⟩) 1 1 [.int .i64 (v)] rfl (one_readsZ' w5 2 (v)) (one_oneZ' (v)) (by simp only [maxLen]; omega) (by omega) (by simp; omega) ?_; clear hi0 hz0 hz1 hz2; intro vN wN hownN hgN hatN; obtain ⟨A', c', rfl⟩ := own_form hownN)
      have HTN := hide (HT6.out.app hgN hownN)
      clear hownN hgN hatN hBs
      go_wp2_with fail
      go_roundw
      case rel => exact ⟨xs ++ [v], k - 1, A', c', by go_num, by omega, by omega, by simp [← HN.out], by simp [← HN.out]; omega, hide (bd_snoc HBD.out (by omega)), hide (by rw [ints_snoc]; have h := HTN.out.le (M := N + 2 + (12 - (k - 1)) * 4) (by omega); simpa [← HN.out] using h)⟩
      case measure => simp [intOf]; omega
    · obtain rfl : k = 0 := by omega
      go_wp2_with fail
      refine (c_pick X _ 18 wr (by omega) (by omega) HT.out.src).mono ?_
      rintro e w10 ⟨v, rfl, v0, v1, hg, hat⟩
      have HT1 := hide (HT.out.pick hg hat)
      clear hg hat v1 HT
      by_cases e0 : v = 0
      · subst e0
        go_wp2_with fail
        obtain ⟨KL, hKL⟩ : ∃ KL, KL = w10.heap.size := ⟨_, rfl⟩
        generalize hwl : World.alloc w10 _ = wl
        have hRl : Rd intC 1 wl (some ⟨KL, 0, none⟩) [0, 65] := by
          rw [← hwl, hKL]
          exact Blk.rd (cells := intC) (xs := [0, 65]) (t := 2) intC_len (Blk.new w10 2 _)
        have hxl5 : IsX w10 wl := by rw [← hwl]; exact (IsX.refl w10).alloc _
        have hXK : X < KL := by have := HT1.out.src.lt; omega
        rw [← hKL]
        have HL5 := hide (HT1.out.x hxl5)
        clear hwl hxl5 hKL HT1
        refine (c_among X _ (0) 65 (some ⟨KL, 0, none⟩) 2 [0, 65] wl (by omega) (by simp) (by simp) (by simp) hRl (fun b off e => by injection e with e; injection e with e1 e2; omega) HL5.out.src).mono ?_
        rintro e w5 ⟨y, rfl, y0, y1, hg, hat⟩
        have HT6 := hide (HL5.out.pick hg hat)
        clear hg hat hRl HL5 hXK
        have hBs : base ≤ w5.heap.size := HT6.out.bs
        go_wp2_with (at_builtin; obtain ⟨i0, hi0, hz0, hz1, hz2⟩ := HI.out; refine wpList_append_any _ rfl (.tmp 24) (.tmp 28) _ rfl base 2 i0 _ 1 8 Try.underlying27 hi0 hz0 hz1 hz2 rfl (by omega) (.slice A n c) n (xs.flatMap intC) rfl (HT6.out.own.alloc _) _ (some ⟨w5.heap.size, 0, none⟩) 1 1 [.int .i64 (y)] rfl (one_readsZ' w5 2 (y)) (one_oneZ' (y)) (by simp only [maxLen]; omega) (by omega) (by simp; omega) ?_; clear hi0 hz0 hz1 hz2; intro vN wN hownN hgN hatN; obtain ⟨A', c', rfl⟩ := own_form hownN)
        have HTN := hide (HT6.out.app hgN hownN)
        clear hownN hgN hatN hBs
        go_wp2_with fail
        go_ret
        have h := HQ.out A' c' (xs ++ [y]) wN (by simp [← HN.out]; omega) (bd_snoc HBD.out (by omega)) (by rw [ints_snoc]; have h := HTN.out.le (M := N + 100) (by omega); simpa [← HN.out] using h)
        simpa [← HN.out] using h
      have q0 : (v == 0) = false := by simp only [beq_eq_false_iff_ne, ne_eq]; exact e0
      by_cases e1 : v = 1
      · subst e1
        clear q0 e0
        go_wp2_with fail
        obtain ⟨KL, hKL⟩ : ∃ KL, KL = w10.heap.size := ⟨_, rfl⟩
        generalize hwl : World.alloc w10 _ = wl
        have hRl : Rd intC 1 wl (some ⟨KL, 0, none⟩) [16, 17] := by
          rw [← hwl, hKL]
          exact Blk.rd (cells := intC) (xs := [16, 17]) (t := 2) intC_len (Blk.new w10 2 _)
        have hxl5 : IsX w10 wl := by rw [← hwl]; exact (IsX.refl w10).alloc _
        have hXK : X < KL := by have := HT1.out.src.lt; omega
        rw [← hKL]
        have HL5 := hide (HT1.out.x hxl5)
        clear hwl hxl5 hKL HT1
        refine (c_among X _ (16) 17 (some ⟨KL, 0, none⟩) 2 [16, 17] wl (by omega) (by simp) (by simp) (by simp) hRl (fun b off e => by injection e with e; injection e with e1 e2; omega) HL5.out.src).mono ?_
        rintro e w5 ⟨y, rfl, y0, y1, hg, hat⟩
        have HT6 := hide (HL5.out.pick hg hat)
        clear hg hat hRl HL5 hXK
        go_wp2_with fail
        obtain ⟨KO, hKO⟩ : ∃ KO, KO = w5.heap.size := ⟨_, rfl⟩
        generalize hw12 : World.alloc w5 _ = w12
        have hO12 : w12.ownsRow base 2 1 (.slice (some ⟨KO, 0, none⟩) 0 0) 0 [] := by rw [← hw12, hKO]; exact World.ownsRow_made (base := base) (e := 2) (size := 1) w5 #[] 0 HT6.out.bs (by simp [maxLen]) rfl
        have HT12 := hide (HT6.out.new (w1 := w12) (by rw [← hw12]; exact (IsX.refl w5).alloc _) hO12)
        rw [← hKO]
        clear hw12 hKO hO12 HT6 HN HBD
        go_loopw [3, 6] (fun ov kv wr => ∃ (xs : List Int) (k : Int) (A : Option Addr) (c : Nat), kv = .int .i64 k ∧ 0 ≤ k ∧ k ≤ y ∧ ov = .slice A xs.length c ∧ (xs.length : Int) = k ∧ Hid (∀ x ∈ xs, 0 ≤ x ∧ x ≤ 65) ∧ Hid (OwnI X (N + 100) base ov xs.length (xs.flatMap intC) w wr)) (fun _ kv _ => (y - intOf kv).toNat)
        case atStart => exact ⟨[], 0, _, _, rfl, Int.le_refl _, by omega, rfl, rfl, hide (fun x hx => by simp at hx), hide (HT12.out.le (by omega))⟩
        case round =>
          clear HT12
          obtain ⟨xs, k, A, c, rfl, hk0, hkm, rfl, hxk, HBD, HT⟩ := hrel
          obtain ⟨n, hnn⟩ : ∃ n, n = xs.length := ⟨_, rfl⟩
          have HN := hide hnn
          rw [← hnn] at hxk HT ⊢
          clear hnn
          by_cases hlt : k < y
          · have hBs : base ≤ wr.heap.size := HT.out.bs
            go_wp2_with (at_builtin; obtain ⟨i0, hi0, hz0, hz1, hz2⟩ := HI.out; refine wpList_append_any _ rfl (.tmp 41) (.tmp 42) _ rfl base 2 i0 _ 1 8 Try.underlying27 hi0 hz0 hz1 hz2 rfl (by omega) (.slice A n c) n (xs.flatMap intC) rfl (HT.out.own.alloc _) _ (some ⟨wr.heap.size, 0, none⟩) 1 1 [.int .i64 (64)] rfl (one_readsZ' wr 2 (64)) (one_oneZ' (64)) (by simp only [maxLen]; omega) (by omega) (by simp; omega) ?_; clear hi0 hz0 hz1 hz2; intro vN wN hownN hgN hatN; obtain ⟨A', c', rfl⟩ := own_form hownN)
            have HTN := hide (HT.out.app hgN hownN)
            clear hownN hgN hatN hBs
            go_wp2_with fail
            go_roundw
            case rel => exact ⟨xs ++ [64], k + 1, A', c', by go_num, by omega, by omega, by simp [← HN.out], by simp [← HN.out]; omega, hide (bd_snoc HBD.out (by omega)), hide (by rw [ints_snoc]; have h := HTN.out; simpa [← HN.out] using h)⟩
            case measure => simp [intOf]; omega
          · go_wp2_with fail
            go_ret
            have h := HQ.out A c xs wr (by rw [← HN.out]; omega) HBD.out (by have h := HT.out; simpa [← HN.out] using h)
            simpa [← HN.out] using h
      · have q1 : (v == 1) = false := by simp only [beq_eq_false_iff_ne, ne_eq]; exact e1
        go_wp2_with fail
        go_ret
        have h := HQ.out A c xs w10 (by rw [← HN.out]; omega) HBD.out (by have h := HT1.out.le (M := N + 100) (by omega); simpa [← HN.out] using h)
        simpa [← HN.out] using h

set_option maxHeartbeats 6400000 in
set_option maxRecDepth 100000 in
theorem c_drawLevels (X : Nat) (N m : Int) (w : World) (hN : N ≤ 1099511620000) (hm0 : 0 ≤ m) (hm : m ≤ 10) (hs : SrcAt X N w) : Calls Try.prog 30 #[.pointer (some ⟨X, 0, none⟩), .int .i64 m] w (IntsQ X (N + 100) (-1) 256 100 w) := by
  have HS := hide hs
  have hXw := hs.lt
  have HI := hide (info_parts Int64_info)
  clear hs
  go_enter Try.func30, Try.ntmps30
  go_wp2_with fail
  obtain ⟨base, hB⟩ : ∃ base, base = w.heap.size := ⟨_, rfl⟩
  generalize hw0 : World.alloc w _ = w0
  have hT0 : OwnI X N base (.slice (some ⟨base, 0, none⟩) 0 0) 0 [] w w0 := by
    have hx : IsX w w0 := by rw [← hw0]; exact (IsX.refl w).alloc _
    refine ⟨?_, gr_of_x hx _, HS.out.x hx, by omega, by rw [hB]; exact hx.size, by omega⟩
    rw [← hw0, hB]
    exact World.ownsRow_made w #[] 0 (Nat.le_refl _) (by simp [maxLen]) rfl
  rw [← hB]
  have HT0 := hide hT0
  have hwb : w.heap.size ≤ base := by omega
  clear hw0 hB hT0 HS hXw
  have HQ : Hid (∀ (A' : Option Addr) (c' : Nat) (ys : List Int) (W : World), ys.length ≤ 100 → (∀ x ∈ ys, -1 ≤ x ∧ x ≤ 256) → OwnI X (N + 100) base (.slice A' ys.length c') ys.length (ys.flatMap intC) w W → IntsQ X (N + 100) (-1) 256 100 w (.returned (.slice A' ys.length c')) W) := hide (fun A' c' ys W h1 h2 h4 => ⟨A', c', ys, rfl, h1, h2, row_le' h4.own h4.wb, h4.gr, h4.src⟩)
  go_loopw [5, 6] (fun ov kv wr => ∃ (xs : List Int) (k : Int) (A : Option Addr) (c : Nat), kv = .int .i64 k ∧ 0 ≤ k ∧ k ≤ m ∧ ov = .slice A xs.length c ∧ (xs.length : Int) = k ∧ Hid (∀ x ∈ xs, -1 ≤ x ∧ x ≤ 256) ∧ Hid (OwnI X (N + k * 4) base ov xs.length (xs.flatMap intC) w wr)) (fun _ kv _ => (m - intOf kv).toNat)
  case atStart => exact ⟨[], 0, _, _, rfl, Int.le_refl _, hm0, rfl, rfl, hide (fun x hx => by simp at hx), hide (HT0.out.le (by omega))⟩
  case round =>
    clear HT0
    obtain ⟨xs, k, A, c, rfl, hk0, hk6, rfl, hxl, HBD, HT⟩ := hrel
    obtain ⟨n, hnn⟩ : ∃ n, n = xs.length := ⟨_, rfl⟩
    have HN := hide hnn
    rw [← hnn] at hxl HT ⊢
    clear hnn
    by_cases hkp : k < m
    · go_wp2_with fail
      obtain ⟨KL, hKL⟩ : ∃ KL, KL = wr.heap.size := ⟨_, rfl⟩
      generalize hwl : World.alloc wr _ = wl
      have hRl : Rd intC 1 wl (some ⟨KL, 0, none⟩) [0, 255, 100, 7, 128] := by
        rw [← hwl, hKL]
        exact Blk.rd (cells := intC) (xs := [0, 255, 100, 7, 128]) (t := 2) intC_len (Blk.new wr 2 _)
      have hxl5 : IsX wr wl := by rw [← hwl]; exact (IsX.refl wr).alloc _
      have hXK : X < KL := by have := HT.out.src.lt; omega
      rw [← hKL]
      have HL5 := hide (HT.out.x hxl5)
      clear hwl hxl5 hKL HT
      refine (c_among X _ (0) 255 (some ⟨KL, 0, none⟩) 5 [0, 255, 100, 7, 128] wl (by omega) (by simp) (by simp) (by simp) hRl (fun b off e => by injection e with e; injection e with e1 e2; omega) HL5.out.src).mono ?_
      rintro e w5 ⟨v, rfl, v0, v1, hg, hat⟩
      have HT6 := hide (HL5.out.pick hg hat)
      clear hg hat hRl HL5 hXK
      have hBs : base ≤ w5.heap.size := HT6.out.bs
      go_wp2_with (at_builtin; obtain ⟨i0, hi0, hz0, hz1, hz2⟩ := HI.out; refine wpList_append_any _ rfl (.tmp 13) (.tmp 17) _ rfl base 2 i0 _ 1 8 Try.underlying27 hi0 hz0 hz1 hz2 rfl (by omega) (.slice A n c) n (xs.flatMap intC) rfl (HT6.out.own.alloc _) _ (some ⟨w5.heap.size, 0, none⟩) 1 1 [.int .i64 (v)] rfl (one_readsZ' w5 2 (v)) (one_oneZ' (v)) (by simp only [maxLen]; omega) (by omega) (by simp; omega) ?_; clear hi0 hz0 hz1 hz2; intro vN wN hownN hgN hatN; obtain ⟨A', c', rfl⟩ := own_form hownN)
      have HTN := hide (HT6.out.app hgN hownN)
      clear hownN hgN hatN hBs
      go_wp2_with fail
      go_roundw
      case rel => exact ⟨xs ++ [v], k + 1, A', c', by go_num, by omega, by omega, by simp [← HN.out], by simp [← HN.out]; omega, hide (bd_snoc HBD.out (by omega)), hide (by rw [ints_snoc]; have h := HTN.out.le (M := N + (k + 1) * 4) (by omega); simpa [← HN.out] using h)⟩
      case measure => simp [intOf]; omega
    · go_wp2_with fail
      refine (c_one X _ 14 wr (by omega) (by omega) HT.out.src).mono ?_
      rintro e w10 ⟨b, rfl, hg, hat⟩
      have HT1 := hide (HT.out.pick hg hat)
      clear hg hat HT
      cases b
      · go_wp2_with fail
        go_ret
        have h := HQ.out A c xs w10 (by rw [← HN.out]; omega) HBD.out (by have h := HT1.out.le (M := N + 100) (by omega); simpa [← HN.out] using h)
        simpa [← HN.out] using h
      · go_wp2_with fail
        obtain ⟨KL, hKL⟩ : ∃ KL, KL = w10.heap.size := ⟨_, rfl⟩
        generalize hwl : World.alloc w10 _ = wl
        have hRl : Rd intC 1 wl (some ⟨KL, 0, none⟩) [-1, 256] := by
          rw [← hwl, hKL]
          exact Blk.rd (cells := intC) (xs := [-1, 256]) (t := 2) intC_len (Blk.new w10 2 _)
        have hxl5 : IsX w10 wl := by rw [← hwl]; exact (IsX.refl w10).alloc _
        have hXK : X < KL := by have := HT1.out.src.lt; omega
        rw [← hKL]
        have HL5 := hide (HT1.out.x hxl5)
        clear hwl hxl5 hKL HT1
        refine (c_among X _ (-1) 256 (some ⟨KL, 0, none⟩) 2 [-1, 256] wl (by omega) (by simp) (by simp) (by simp) hRl (fun b off e => by injection e with e; injection e with e1 e2; omega) HL5.out.src).mono ?_
        rintro e w5 ⟨y, rfl, y0, y1, hg, hat⟩
        have HT6 := hide (HL5.out.pick hg hat)
        clear hg hat hRl HL5 hXK
        have hBs : base ≤ w5.heap.size := HT6.out.bs
        go_wp2_with (at_builtin; obtain ⟨i0, hi0, hz0, hz1, hz2⟩ := HI.out; refine wpList_append_any _ rfl (.tmp 21) (.tmp 25) _ rfl base 2 i0 _ 1 8 Try.underlying27 hi0 hz0 hz1 hz2 rfl (by omega) (.slice A n c) n (xs.flatMap intC) rfl (HT6.out.own.alloc _) _ (some ⟨w5.heap.size, 0, none⟩) 1 1 [.int .i64 (y)] rfl (one_readsZ' w5 2 (y)) (one_oneZ' (y)) (by simp only [maxLen]; omega) (by omega) (by simp; omega) ?_; clear hi0 hz0 hz1 hz2; intro vN wN hownN hgN hatN; obtain ⟨A', c', rfl⟩ := own_form hownN)
        have HTN := hide (HT6.out.app hgN hownN)
        clear hownN hgN hatN hBs
        go_wp2_with fail
        go_ret
        have h := HQ.out A' c' (xs ++ [y]) wN (by simp [← HN.out]; omega) (bd_snoc HBD.out (by omega)) (by rw [ints_snoc]; have h := HTN.out.le (M := N + 100) (by omega); simpa [← HN.out] using h)
        simpa [← HN.out] using h

set_option maxHeartbeats 3200000 in
set_option maxRecDepth 100000 in
theorem c_drawShare (X : Nat) (N : Int) (w : World) (hN : N ≤ 1099511620000) (hs : SrcAt X N w) : Calls Try.prog 31 #[.pointer (some ⟨X, 0, none⟩)] w (PickQ X (N + 4) w (-1) 1001) := by
  have HS := hide hs
  have hXw := hs.lt
  clear hs
  go_enter Try.func31, Try.ntmps31
  go_wp2_with fail
  refine (c_one X _ 9 w (by omega) (by omega) HS.out).mono ?_
  rintro e w1 ⟨b, rfl, hg1, hat⟩
  have HS1 := hide hat
  have hXw1 : X < w1.heap.size := hat.lt
  clear hat HS
  cases b
  · go_wp2_with fail
    refine (c_pick X _ 1001 w1 (by omega) (by omega) HS1.out).mono ?_
    rintro e w2 ⟨v, rfl, v0, v1, hg, hat⟩
    have hv1 : v ≤ 1000 := by simpa using v1
    go_wp2_with fail
    go_ret
    exact ⟨v, rfl, by omega, by omega, gr_tr hg1 hg, hat.le (by omega)⟩
  · go_wp2_with fail
    obtain ⟨KL, hKL⟩ : ∃ KL, KL = w1.heap.size := ⟨_, rfl⟩
    generalize hwl : World.alloc w1 _ = wl
    have hRl : Rd intC 1 wl (some ⟨KL, 0, none⟩) [-1, 0, 1000, 1001] := by
      rw [← hwl, hKL]
      exact Blk.rd (cells := intC) (xs := [-1, 0, 1000, 1001]) (t := 2) intC_len (Blk.new w1 2 _)
    have hxl5 : IsX w1 wl := by rw [← hwl]; exact (IsX.refl w1).alloc _
    rw [← hKL]
    have HSl := hide (HS1.out.x hxl5)
    have hXK : X < KL := by omega
    clear hwl hKL HS1
    refine (c_among X _ (-1) 1001 (some ⟨KL, 0, none⟩) 4 [-1, 0, 1000, 1001] wl (by omega) (by simp) (by simp) (by simp) hRl (fun b off e => by injection e with e; injection e with e1 e2; omega) HSl.out).mono ?_
    rintro e w5 ⟨v, rfl, v0, v1, hg, hat⟩
    go_wp2_with fail
    go_ret
    exact ⟨v, rfl, v0, v1, gr_tr (gr_x hg1 hxl5) hg, hat.le (by omega)⟩
end Go.Proofs.Ythcgapfhlggegaa
