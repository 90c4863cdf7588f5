/- Indices of offers that are drawn, most of them. Conditions: fewer than 2^39 choices. -/
import Derived.Test.YtmipphgekcdaoaaGreatDoorDrawOffers
import Derived.Test.YtmipphgekcdaoaaGreatDoorLInt64
namespace Go.Proofs.YtmipphgekcdaoaaGreatDoor
set_option linter.unusedVariables false
open Go.RowKit Go.ChangeShapes

theorem one_readsZ' (w : World) (t : Nat) (z : Int) : Reads (w.alloc (.cells #[.int .i64 z] t)) (w.alloc (.cells #[.int .i64 z] t)).heap.size 1 (some ⟨w.heap.size, 0, none⟩) 1 [.int .i64 z] := by
  have h := Rd.reads (cells := intC) (xs := [z]) (by omega) intC_len (Blk.rd (cells := intC) (xs := [z]) (t := t) intC_len (Blk.new w t #[.int .i64 z]))
  simpa [intC] using h
theorem one_oneZ' (z : Int) : ∀ u ∈ [Value.int .i64 z], u.oneCell' = true := by
  intro u hu
  simp only [List.mem_singleton] at hu
  subst hu; rfl
/-- a row of numbers of its own; block X has been written to -/
structure OwnI (X : Nat) (N : Int) (base : Nat) (v : Value) (n : Nat) (L : List Value) (w wr : World) : Prop where
  own : wr.ownsRow base 2 1 v n L
  gr : w.grownBy wr (some X)
  src : SrcAt X N wr
  lt : X < base
  bs : base ≤ wr.heap.size
  wb : w.heap.size ≤ base
section
variable {X base n : Nat} {N M : Int} {v : Value} {L : List Value} {w wr w1 : World}
theorem OwnI.x (h : OwnI X N base v n L w wr) (hx : IsX wr w1) : OwnI X N base v n L w w1 := ⟨own_x' h.own hx, gr_x h.gr hx, h.src.x hx, h.lt, Nat.le_trans h.bs hx.size, h.wb⟩
theorem OwnI.pick (h : OwnI X N base v n L w wr) (hg : wr.grownBy w1 (some X)) (hat : SrcAt X M w1) : OwnI X M base v n L w w1 := ⟨own_grX h.own hg h.lt, gr_tr h.gr hg, hat, h.lt, Nat.le_trans h.bs hg.size, h.wb⟩
theorem OwnI.le (h : OwnI X N base v n L w wr) (hM : N ≤ M) : OwnI X M base v n L w wr := ⟨h.own, h.gr, h.src.le hM, h.lt, h.bs, h.wb⟩
theorem OwnI.app {v' : Value} {n' : Nat} {L' : List Value} {o : Obj} (h : OwnI X N base v n L w wr) (hg : (wr.alloc o).grownBy w1 v.ownBlock) (ho : w1.ownsRow base 2 1 v' n' L') : OwnI X N base v' n' L' w w1 :=
  ⟨ho, gr_app h.gr h.own hg h.wb, (h.src.x ((IsX.refl wr).alloc o)).gr hg (fun g hg => by have := (h.own.lt g hg).1; have := h.lt; omega), h.lt, Nat.le_trans h.bs (Nat.le_trans (by simp) hg.size), h.wb⟩
theorem OwnI.new {v' : Value} {n' : Nat} {L' : List Value} (h : OwnI X N base v n L w wr) (hx : IsX wr w1) (ho : w1.ownsRow base 2 1 v' n' L') : OwnI X N base v' n' L' w w1 :=
  ⟨ho, gr_x h.gr hx, h.src.x hx, h.lt, Nat.le_trans h.bs hx.size, h.wb⟩
end
theorem ints_snoc (xs : List Int) (x : Int) : (xs ++ [x]).flatMap intC = xs.flatMap intC ++ [.int .i64 x] := by simp [intC]
/-- some list of numbers within bounds, the call's own -/
def IntsQ (X : Nat) (N lo hi : Int) (m : Nat) (w : World) (e : Ending) (w' : World) : Prop := ∃ (A : Option Addr) (c : Nat) (xs : List Int), e = .returned (.slice A xs.length c) ∧ xs.length ≤ m ∧ (∀ x ∈ xs, lo ≤ x ∧ x ≤ hi) ∧ w'.ownsRow w.heap.size 2 1 (.slice A xs.length c) xs.length (xs.flatMap intC) ∧ w.grownBy w' (some X) ∧ SrcAt X N w'
theorem bd_snoc {lo hi x : Int} {xs : List Int} (h : ∀ y ∈ xs, lo ≤ y ∧ y ≤ hi) (hx : lo ≤ x ∧ x ≤ hi) : ∀ y ∈ xs ++ [x], lo ≤ y ∧ y ≤ hi := fun y hy => by
  rcases List.mem_append.1 hy with h1 | h1
  · exact h y h1
  · simp at h1; subst h1; exact hx

set_option maxHeartbeats 6400000 in
set_option maxRecDepth 100000 in
theorem c_drawChosen (X : Nat) (N top : Int) (w : World) (hN : N ≤ 1099511610000) (hn0 : 0 ≤ top) (hn1 : top ≤ 100) (hs : SrcAt X N w) : Calls Tryz.prog 17 #[.pointer (some ⟨X, 0, none⟩), .int .i64 top] w (IntsQ X (N + 300) (-1) 100 101 w) := by
  have HS := hide hs
  have hXw := hs.lt
  have HI := hide (info_parts Int64_info)
  clear hs
  go_enter Tryz.func17, Tryz.ntmps17
  go_wp2_with fail
  obtain ⟨base, hB⟩ : ∃ base, base = w.heap.size := ⟨_, rfl⟩
  generalize hw0 : World.alloc w _ = w0
  have hT0 : OwnI X N base (.slice (some ⟨base, 0, none⟩) 0 0) 0 [] w w0 := by
    have hx : IsX w w0 := by rw [← hw0]; exact (IsX.refl w).alloc _
    refine ⟨?_, gr_of_x hx _, HS.out.x hx, by omega, by rw [hB]; exact hx.size, by omega⟩
    rw [← hw0, hB]
    exact World.ownsRow_made w #[] 0 (Nat.le_refl _) (by simp [maxLen]) rfl
  rw [← hB]
  have HT0 := hide hT0
  have hwb : w.heap.size ≤ base := by omega
  clear hw0 hB hT0 HS hXw
  have HQ : Hid (∀ (A' : Option Addr) (c' : Nat) (ys : List Int) (W : World), ys.length ≤ 101 → (∀ x ∈ ys, -1 ≤ x ∧ x ≤ 100) → OwnI X (N + 300) base (.slice A' ys.length c') ys.length (ys.flatMap intC) w W → IntsQ X (N + 300) (-1) 100 101 w (.returned (.slice A' ys.length c')) W) := hide (fun A' c' ys W h1 h2 h4 => ⟨A', c', ys, rfl, h1, h2, row_le' h4.own h4.wb, h4.gr, h4.src⟩)
  go_loopw [5, 6] (fun ov kv wr => ∃ (xs : List Int) (k : Int) (A : Option Addr) (c : Nat), kv = .int .i64 k ∧ 0 ≤ k ∧ k ≤ top ∧ ov = .slice A xs.length c ∧ (xs.length : Int) ≤ k ∧ Hid (∀ x ∈ xs, -1 ≤ x ∧ x ≤ 100) ∧ Hid (OwnI X (N + k * 2) base ov xs.length (xs.flatMap intC) w wr)) (fun _ kv _ => (top - intOf kv).toNat)
  case atStart => exact ⟨[], 0, _, _, rfl, Int.le_refl _, hn0, rfl, by simp, hide (fun x hx => by simp at hx), hide (HT0.out.le (by omega))⟩
  case round =>
    clear HT0
    obtain ⟨xs, k, A, c, rfl, hk0, hk1, rfl, hxl, HBD, HT⟩ := hrel
    obtain ⟨n, hnn⟩ : ∃ n, n = xs.length := ⟨_, rfl⟩
    have HN := hide hnn
    rw [← hnn] at hxl HT ⊢
    clear hnn
    by_cases hkp : k < top
    · go_wp2_with fail
      refine (c_one X _ 2 wr (by omega) (by omega) HT.out.src).mono ?_
      rintro e w1 ⟨b1, rfl, hg, hat⟩
      have HT1 := hide (HT.out.pick hg hat)
      clear hg hat HT
      cases b1
      · go_wp2_with fail
        go_roundw
        case rel => exact ⟨xs, k + 1, A, c, by go_num, by omega, by omega, by rw [HN.out], by rw [← HN.out]; omega, HBD, by rw [← HN.out]; exact hide (HT1.out.le (by omega))⟩
        case measure => simp [intOf]; omega
      · skip
        have hBs : base ≤ w1.heap.size := HT1.out.bs
        go_wp2_with (at_builtin; obtain ⟨i0, hi0, hz0, hz1, hz2⟩ := HI.out; refine wpList_append_any _ rfl (.tmp 15) (.tmp 17) _ rfl base 2 i0 _ 1 8 Tryz.underlying25 hi0 hz0 hz1 hz2 rfl (by omega) (.slice A n c) n (xs.flatMap intC) rfl (HT1.out.own.alloc _) _ (some ⟨w1.heap.size, 0, none⟩) 1 1 [.int .i64 (k)] rfl (one_readsZ' w1 2 (k)) (one_oneZ' (k)) (by simp only [maxLen]; omega) (by omega) (by simp; omega) ?_; clear hi0 hz0 hz1 hz2; intro vN wN hownN hgN hatN; obtain ⟨A', c', rfl⟩ := own_form hownN)
        have HTN := hide (HT1.out.app hgN hownN)
        clear hownN hgN hatN hBs
        go_wp2_with fail
        go_roundw
        case rel => exact ⟨xs ++ [k], k + 1, A', c', by go_num, by omega, by omega, by simp [← HN.out], by simp [← HN.out]; omega, hide (bd_snoc HBD.out (by omega)), hide (by rw [ints_snoc]; have h := HTN.out.le (M := N + (k + 1) * 2) (by omega); simpa [← HN.out] using h)⟩
        case measure => simp [intOf]; omega
    · have hkt : k = top := by omega
      subst hkt
      go_wp2_with fail
      refine (c_one X _ 9 wr (by omega) (by omega) HT.out.src).mono ?_
      rintro e w10 ⟨b1, rfl, hg, hat⟩
      have HT1 := hide (HT.out.pick hg hat)
      clear hg hat HT
      cases b1
      · go_wp2_with fail
        go_ret
        have h := HQ.out A c xs w10 (by rw [← HN.out]; omega) HBD.out (by have h := HT1.out.le (M := N + 300) (by omega); simpa [← HN.out] using h)
        simpa [← HN.out] using h
      · go_wp2_with fail
        obtain ⟨KL, hKL⟩ : ∃ KL, KL = w10.heap.size := ⟨_, rfl⟩
        generalize hwl : World.alloc w10 _ = wl
        have hRl : Rd intC 1 wl (some ⟨KL, 0, none⟩) [-1, 0, 40] := by
          rw [← hwl, hKL]
          exact Blk.rd (cells := intC) (xs := [-1, 0, 40]) (t := 2) intC_len (Blk.new w10 2 _)
        have hxl5 : IsX w10 wl := by rw [← hwl]; exact (IsX.refl w10).alloc _
        have hXK : X < KL := by have := HT1.out.src.lt; omega
        rw [← hKL]
        have HL5 := hide (HT1.out.x hxl5)
        clear hwl hxl5 hKL HT1
        refine (c_among X _ (-1) 40 (some ⟨KL, 0, none⟩) 3 [-1, 0, 40] wl (by omega) (by simp) (by simp) (by simp) hRl (fun b off e => by injection e with e; injection e with e1 e2; omega) HL5.out.src).mono ?_
        rintro e w5 ⟨y, rfl, y0, y1, hg, hat⟩
        have HT6 := hide (HL5.out.pick hg hat)
        clear hg hat hRl HL5 hXK
        have hBs : base ≤ w5.heap.size := HT6.out.bs
        go_wp2_with (at_builtin; obtain ⟨i0, hi0, hz0, hz1, hz2⟩ := HI.out; refine wpList_append_any _ rfl (.tmp 21) (.tmp 25) _ rfl base 2 i0 _ 1 8 Tryz.underlying25 hi0 hz0 hz1 hz2 rfl (by omega) (.slice A n c) n (xs.flatMap intC) rfl (HT6.out.own.alloc _) _ (some ⟨w5.heap.size, 0, none⟩) 1 1 [.int .i64 (y)] rfl (one_readsZ' w5 2 (y)) (one_oneZ' (y)) (by simp only [maxLen]; omega) (by omega) (by simp; omega) ?_; clear hi0 hz0 hz1 hz2; intro vN wN hownN hgN hatN; obtain ⟨A', c', rfl⟩ := own_form hownN)
        have HTN := hide (HT6.out.app hgN hownN)
        clear hownN hgN hatN hBs
        go_wp2_with fail
        go_ret
        have h := HQ.out A' c' (xs ++ [y]) wN (by simp [← HN.out]; omega) (bd_snoc HBD.out (by omega)) (by rw [ints_snoc]; have h := HTN.out.le (M := N + 300) (by omega); simpa [← HN.out] using h)
        simpa [← HN.out] using h
end Go.Proofs.YtmipphgekcdaoaaGreatDoor
