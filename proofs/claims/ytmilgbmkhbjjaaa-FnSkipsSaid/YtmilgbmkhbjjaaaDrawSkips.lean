/- Lists of skips that are drawn: some list of well-formed skips. Conditions: fewer than 2^39 choices. -/
import Derived.Test.YtmilgbmkhbjjaaaDraws
import Derived.Test.YtmilgbmkhbjjaaaFlatSkip
import Derived.Deep.RegionHeld3
namespace Go.Proofs.Ytmilgbmkhbjjaaa
set_option linter.unusedVariables false
open Go.RowKit Go.ChangeShapes

theorem SkipK_info : (Try.prog.info? 31).map (fun i => (i.zero, i.size, i.bytes)) = some (some (.agg #[.int .i64 0, .int .i64 0, .int .i64 0]), 3, 24) := by kernel_rfl
theorem skip_reads (w : World) (x : SkipD) : Reads (w.alloc (.cells #[.int .i64 x.From, .int .i64 x.Length, .int .i64 x.Loss] 31)) (w.alloc (.cells #[.int .i64 x.From, .int .i64 x.Length, .int .i64 x.Loss] 31)).heap.size 3 (some ⟨w.heap.size, 0, none⟩) 1 x.cells := by
  have h := Rd.reads (cells := SkipD.cells) (xs := [x]) (by omega) SkipD.cells_len (Blk.rd (cells := SkipD.cells) (xs := [x]) (t := 31) SkipD.cells_len (Blk.new w 31 #[.int .i64 x.From, .int .i64 x.Length, .int .i64 x.Loss]))
  simpa using h
theorem skip_one (x : SkipD) : ∀ u ∈ x.cells, u.oneCell' = true := by
  intro u hu
  simp only [SkipD.cells, List.mem_cons, List.not_mem_nil, or_false] at hu
  rcases hu with rfl | rfl | rfl <;> rfl
theorem skips_snoc (xs : List SkipD) (x : SkipD) : (xs ++ [x]).flatMap SkipD.cells = xs.flatMap SkipD.cells ++ x.cells := by simp
/-- some list of skips, the call's own; block X has been written to -/
def SkipsQ (X : Nat) (N : Int) (w : World) (e : Ending) (w' : World) : Prop := ∃ (A : Option Addr) (c : Nat) (xs : List SkipD), e = .returned (.slice A xs.length c) ∧ xs.length ≤ 100 ∧ (∀ x ∈ xs, x.wf) ∧ w'.ownsRow w.heap.size 31 3 (.slice A xs.length c) xs.length (xs.flatMap SkipD.cells) ∧ w.grownBy w' (some X) ∧ SrcAt X N w'
theorem wf_snoc {xs : List SkipD} {x : SkipD} (h : ∀ y ∈ xs, y.wf) (hx : x.wf) : ∀ y ∈ xs ++ [x], y.wf := fun y hy => by
  rcases List.mem_append.1 hy with h1 | h1
  · exact h y h1
  · simp at h1; subst h1; exact hx
theorem gr_app {w w1 : World} {X base e n : Nat} {size : Nat} {v : Value} {L : List Value} {o : Obj} {w0 : World} (h : w0.grownBy w (some X)) (ho : w.ownsRow base e size v n L) (hg : (w.alloc o).grownBy w1 v.ownBlock) (hb : w0.heap.size ≤ base) : w0.grownBy w1 (some X) :=
  ⟨hg.os.trans h.os, hg.tape.trans h.tape, hg.output.trans h.output, Nat.le_trans h.size (Nat.le_trans (by simp) hg.size), fun k hk hne => by
    rw [hg.block k (by have := h.size; simp; omega) (fun e => by have := (ho.lt k e.symm).1; omega)]
    rw [(IsX.alloc (IsX.refl w) o).below.block k (Nat.lt_of_lt_of_le hk h.size)]
    exact h.block k hk hne⟩
theorem gr_far {w w1 : World} {X g : Nat} (h : w.grownBy w1 (some X)) (hg : w.heap.size ≤ g) (j : Nat) (u : Value) : w.grownBy (w1.setCell ⟨g, j, none⟩ u) (some X) :=
  ⟨h.os, h.tape, h.output, by simpa [World.setCell] using h.size, fun k hk hne => (Below.heap_setCell w1 ⟨g, j, none⟩ u k (show k ≠ g by omega)).trans (h.block k hk hne)⟩
theorem SrcAt.gr {w w1 : World} {X : Nat} {N : Int} {row : Option Nat} (h : SrcAt X N w) (hg : w.grownBy w1 row) (hr : ∀ g, row = some g → X < g) : SrcAt X N w1 := by
  obtain ⟨A, c, xs, a, s, h1, h2, h3, h4, h5, h6, h7, h8⟩ := h
  refine ⟨A, c, xs, a, s, h1.gr hg (fun e => by have := hr X e.symm; omega), h2, h3, h4, h5, ?_, h7, h8⟩
  intro i x hi
  obtain ⟨b, off, e, hb2, hc⟩ := h6 i x hi
  have hbb := h7 (by intro e; rw [e] at hi; simp at hi) b off e
  exact ⟨b, off, e, Nat.lt_of_lt_of_le hb2 hg.size, fun j u hu => (World.cell?_of_block (a := ⟨b, off + i * 1 + j, none⟩) (hg.block b hb2 (fun e => by have := hr b e.symm; omega))).trans (hc j u hu)⟩

set_option maxHeartbeats 6400000 in
set_option maxRecDepth 100000 in
theorem c_drawSkips (X : Nat) (N : Int) (w : World) (hN : N ≤ 1099511620000) (hs : SrcAt X N w) : Calls Try.prog 10 #[.pointer (some ⟨X, 0, none⟩)] w (SkipsQ X (N + 100) w) := by
  have HS := hide hs
  have hXw := hs.lt
  have HI := hide (info_parts SkipK_info)
  clear hs
  go_enter Try.func10, Try.ntmps10
  go_wp2_with fail
  obtain ⟨w0, hw0⟩ : ∃ w0, w0 = w.alloc (.cells #[] 31) := ⟨_, rfl⟩
  rw [← hw0]
  have HO0 : Hid (w0.ownsRow w.heap.size 31 3 (.slice (some ⟨w.heap.size, 0, none⟩) 0 0) 0 []) := hide (hw0 ▸ World.ownsRow_made w #[] 0 (Nat.le_refl _) (by simp [maxLen]) rfl)
  have HG0 : Hid (w.grownBy w0 (some X)) := hide (hw0 ▸ gr_of_x ((IsX.refl w).alloc _) _)
  have HS0 : Hid (SrcAt X N w0) := hide (hw0 ▸ HS.out.x ((IsX.refl w).alloc _))
  clear hw0
  refine (c_pick X N 1000 w0 (by omega) (by omega) HS0.out).mono ?_
  rintro e w1 ⟨a0, rfl, a00, a01, hg, hat⟩
  have ha01 : a0 ≤ 999 := by simpa using a01
  have HO1 := hide (own_grX HO0.out hg hXw)
  have HG1 := hide (gr_tr HG0.out hg)
  have HS1 := hide hat
  clear hg hat a01 HO0 HG0 HS0
  go_wp2_with fail
  refine (c_pick X (N + 2) 7 w1 (by omega) (by omega) HS1.out).mono ?_
  rintro e w2 ⟨k0, rfl, k00, k01, hg, hat⟩
  have hk01 : k0 ≤ 6 := by simpa using k01
  have HO2 := hide (own_grX HO1.out hg hXw)
  have HG2 := hide (gr_tr HG1.out hg)
  have HS2 := hide hat
  clear hg hat k01 HO1 HG1 HS1
  go_wp2_with fail
  go_loopw [3, 4, 5] (fun ov av kv wr => ∃ (xs : List SkipD) (a k : Int) (A : Option Addr) (c : Nat), kv = .int .i64 k ∧ 0 ≤ k ∧ k ≤ 6 ∧ av = .int .i64 a ∧ 0 ≤ a ∧ a ≤ 1000 + (6 - k) * 2000 ∧ ov = .slice A xs.length c ∧ (xs.length : Int) ≤ 6 - k ∧ Hid (∀ x ∈ xs, x.wf) ∧ Hid (wr.ownsRow w.heap.size 31 3 ov xs.length (xs.flatMap SkipD.cells)) ∧ Hid (w.grownBy wr (some X)) ∧ Hid (SrcAt X (N + 4 + (6 - k) * 8) wr)) (fun _ _ kv _ => (intOf kv).toNat)
  case atStart => exact ⟨[], a0, k0, _, _, rfl, k00, hk01, rfl, a00, by omega, rfl, by simp; omega, hide (fun x hx => by simp at hx), HO2, HG2, hide (HS2.out.le (by omega))⟩
  case round =>
    clear HO2 HG2 HS2
    obtain ⟨xs, a, k, A, c, rfl, hk0, hk6, rfl, ha0, ha1, rfl, hxl, HWF, HO, HG, HS⟩ := hrel
    obtain ⟨n, hnn⟩ : ∃ n, n = xs.length := ⟨_, rfl⟩
    have HN := hide hnn
    rw [← hnn] at hxl HO ⊢
    clear hnn
    by_cases hkp : 0 < k
    · go_wp2_with fail
      refine (c_pick X _ 900 wr (by omega) (by omega) HS.out).mono ?_
      rintro e w3 ⟨v1, rfl, v10, v11, hg, hat⟩
      have hv11 : v1 ≤ 899 := by simpa using v11
      have HO3 := hide (own_grX HO.out hg hXw)
      have HG3 := hide (gr_tr HG.out hg)
      have HS3 := hide hat
      clear hg hat v11 HO HG HS
      go_wp2_with fail
      obtain ⟨KB, hKB⟩ : ∃ KB, KB = w3.heap.size := ⟨_, rfl⟩
      generalize hw4 : World.alloc (World.alloc w3 _) _ = w4
      have hK4 : Blk w4 KB 31 #[.int .i64 a, .int .i64 (1 + v1), .int .i64 0] := by rw [← hw4, hKB]; exact (Blk.new w3 _ _).alloc _
      have hR4 : Rd intC 1 w4 (some ⟨KB + 1, 0, none⟩) [0, 3, 10, 10, 40] := by
        rw [← hw4, hKB]
        have h := Blk.rd (cells := intC) (xs := [0, 3, 10, 10, 40]) (t := 2) intC_len (Blk.new (w3.alloc (.cells #[.int .i64 a, .int .i64 (1 + v1), .int .i64 0] 31)) 2 _)
        simpa [intC] using h
      have hx4 : IsX w3 w4 := by rw [← hw4]; exact ((IsX.refl w3).alloc _).alloc _
      have HLT := hide (fun j (hj : (Value.slice A n c).ownBlock = some j) => (HO3.out.lt j hj).2)
      have hwK : w.heap.size ≤ KB := by rw [hKB]; exact HG3.out.size
      rw [← hKB] at HLT ⊢
      have HO4 := hide (own_x' HO3.out hx4)
      have HG4 := hide (gr_x HG3.out hx4)
      have HS4 := hide (HS3.out.x hx4)
      have HK4 := hide hK4
      clear hw4 hx4 hKB hK4 HO3 HG3 HS3
      refine (c_among X _ 0 40 (some ⟨KB + 1, 0, none⟩) 5 [0, 3, 10, 10, 40] w4 (by omega) (by simp) (by simp) (by simp) hR4 (fun b off e => by injection e with e; injection e with e1 e2; omega) HS4.out).mono ?_
      rintro e w5 ⟨v2, rfl, v20, v21, hg, hat⟩
      have HO5 := hide (own_grX HO4.out hg hXw)
      have HG5 := hide (gr_tr HG4.out hg)
      have HS5 := hide hat
      have HK5 := hide (HK4.out.gr hg (fun e => by injection e with e; omega))
      clear hg hat hR4 HO4 HG4 HS4 HK4
      have z2 := HK5.out.frozen 2
      have c2 := HK5.out.cell 2
      simp at c2
      have hlK := HK5.out.lt
      go_upto_region 8 with fail
      clear z2 c2 hlK
      have HK6 := hide (HK5.out.set_ 2 (.int .i64 v2))
      have HO6 := hide (HO5.out.kept (gr_of_set w5 KB 2 (.int .i64 v2)) (by
        cases hv : (Value.slice A n c).ownBlock with
        | none => exact .inl rfl
        | some j => exact .inr (fun e => by have := HLT.out j hv; injection e with e; omega)))
      have HG6 := hide (gr_far HG5.out hwK 2 (.int .i64 v2))
      have HS6 : Hid (SrcAt X _ _) := hide (HS5.out.gr (gr_of_set w5 KB 2 (.int .i64 v2)) (fun g hg => by injection hg with hg; omega))
      generalize World.setCell w5 ⟨KB, 2, none⟩ (.int .i64 v2) = w6 at HK6 HO6 HG6 HS6 ⊢
      have HK6 : Hid (Blk w6 KB 31 #[.int .i64 a, .int .i64 (1 + v1), .int .i64 v2]) := hide (by simpa using HK6.out)
      clear HK5 HO5 HG5 HS5
      have e0 := HK6.out.cell 0
      have e1 := HK6.out.cell 1
      have e2 := HK6.out.cell 2
      simp at e0 e1 e2
      have hlK := HK6.out.lt
      go_wp2_with (at_builtin; obtain ⟨i0, hi0, hz0, hz1, hz2⟩ := HI.out; refine wpList_append_any _ rfl (.tmp 27) (.tmp 29) _ rfl w.heap.size 31 i0 _ 3 24 Try.underlying24 hi0 hz0 hz1 hz2 rfl (by omega) (.slice A n c) n (xs.flatMap SkipD.cells) rfl (HO6.out.alloc _) _ (some ⟨w6.heap.size, 0, none⟩) 1 1 (SkipD.cells ⟨a, 1 + v1, v2⟩) rfl (skip_reads w6 ⟨a, 1 + v1, v2⟩) (skip_one ⟨a, 1 + v1, v2⟩) (by simp only [maxLen]; omega) (by omega) (by have := HG6.out.size; simp; omega) ?_; clear hi0 hz0 hz1 hz2; intro vN wN hownN hgN hatN; obtain ⟨A', c', rfl⟩ := own_form hownN)
      have HON := hide hownN
      have HGN := hide (gr_app HG6.out HO6.out hgN (Nat.le_refl _))
      have HSN := hide ((HS6.out.x ((IsX.refl w6).alloc _)).gr hgN (fun g hg => by have := (HO6.out.lt g hg).1; omega))
      have HKN := hide ((HK6.out.x ((IsX.refl w6).alloc _)).gr hgN (fun e => by have := HLT.out KB e.symm; omega))
      clear hownN hgN hatN
      clear e0 e1 e2 hlK
      have hXN := HSN.out.lt
      have q1 := HKN.out.cell 1
      simp at q1
      have hlK := HKN.out.lt
      have HPK := hide (fun (V : World) (hV : IsX wN V) => c_pick X _ 500 V (by omega) (by omega) (HSN.out.x hV))
      have HKP := hide (fun (V : World) (hV : IsX wN V) => show V.cell? ⟨KB, 1, none⟩ = some (.int .i64 (1 + v1)) from keep hV hlK q1)
      have hXK : KB ≠ X := by omega
      go_region_held3 (fun V => V.cell? ⟨KB, 1, none⟩ = some (.int .i64 (1 + v1)))
        (first | go_keep | (exact HKP.out _ (IsX.drew (IsX.refl _))) | (exact (World.cell?_of_block (a := ⟨KB, 1, none⟩) (hg7.block KB hlK (fun e => by injection e with e; exact hXK e))).trans (HKP.out _ (IsX.drew (IsX.refl _)))))
        ((go_at_call 11; refine (HPK.out _ (IsX.drew (IsX.refl _))).mono ?_; rintro e w7 ⟨v3, rfl, v30, v31, hg7, hat7⟩))
      all_goals
        have hv31 : v3 ≤ 499 := by simpa using v31
        have HO7 := hide (own_grX (own_x' HON.out (IsX.drew (IsX.refl wN))) hg7 hXw)
        have HG7 := hide (gr_tr (gr_x HGN.out (IsX.drew (IsX.refl wN))) hg7)
        have HS7 := hide hat7
        clear hg7 hat7 v31
        go_wp2_with fail
        go_roundw
        case rel => exact ⟨xs ++ [⟨a, 1 + v1, v2⟩], a + (1 + v1 + v3), k - 1, A', c', by go_num, by omega, by omega, by rw [IntWalk.i64_in (1 + v1 + v3) (by omega), IntWalk.i64_in _ (by omega)], by omega, by omega, by simp [← HN.out], by simp [← HN.out]; omega, hide (wf_snoc HWF.out (by simp only [SkipD.wf]; omega)), hide (by rw [skips_snoc]; have h := HO7.out; simpa [← HN.out] using h), HG7, hide (HS7.out.le (by omega))⟩
        case measure => simp [intOf]; omega
    · obtain rfl : k = 0 := by omega
      go_wp2_with fail
      refine (c_pick X _ 20 wr (by omega) (by omega) HS.out).mono ?_
      rintro e w10 ⟨v, rfl, v0, v1, hg, hat⟩
      have HO10 := hide (own_grX HO.out hg hXw)
      have HG10 := hide (gr_tr HG.out hg)
      have HS10 := hide hat
      clear hg hat v1 HO HG HS
      by_cases e0 : v = 0
      · subst e0
        go_wp2_with fail
        obtain ⟨KLa, hKLa⟩ : ∃ KL, KL = w10.heap.size := ⟨_, rfl⟩
        generalize hwla : World.alloc w10 _ = wla
        have hRla : Rd intC 1 wla (some ⟨KLa, 0, none⟩) [-1, 0, 7200000] := by
          rw [← hwla, hKLa]
          exact Blk.rd (cells := intC) (xs := [-1, 0, 7200000]) (t := 2) intC_len (Blk.new w10 2 _)
        have hxla : IsX w10 wla := by rw [← hwla]; exact (IsX.refl w10).alloc _
        have hwKa : w.heap.size ≤ KLa := by rw [hKLa]; exact HG10.out.size
        rw [← hKLa]
        have HOla := hide (own_x' HO10.out hxla)
        have HGla := hide (gr_x HG10.out hxla)
        have HSla := hide (HS10.out.x hxla)
        clear hwla hxla hKLa HO10 HG10 HS10
        refine (c_among X _ (-1) 7200000 (some ⟨KLa, 0, none⟩) 3 [-1, 0, 7200000] wla (by omega) (by simp) (by simp) (by simp) hRla (fun b off e => by injection e with e; injection e with e1 e2; omega) HSla.out).mono ?_
        rintro e w11 ⟨ma, rfl, ma0, ma1, hg, hat⟩
        have HO11 := hide (own_grX HOla.out hg hXw)
        have HG11 := hide (gr_tr HGla.out hg)
        have HS11 := hide hat
        clear hg hat hRla HOla HGla HSla
        go_wp2_with (at_builtin; obtain ⟨i0, hi0, hz0, hz1, hz2⟩ := HI.out; refine wpList_append_any _ rfl (.tmp 42) (.tmp 47) _ rfl w.heap.size 31 i0 _ 3 24 Try.underlying24 hi0 hz0 hz1 hz2 rfl (by omega) (.slice A n c) n (xs.flatMap SkipD.cells) rfl (HO11.out.alloc _) _ (some ⟨w11.heap.size, 0, none⟩) 1 1 (SkipD.cells ⟨ma, 1, 0⟩) rfl (skip_reads w11 ⟨ma, 1, 0⟩) (skip_one ⟨ma, 1, 0⟩) (by simp only [maxLen]; omega) (by omega) (by have := HG11.out.size; simp; omega) ?_; clear hi0 hz0 hz1 hz2; intro vN wN hownN hgN hatN; obtain ⟨A', c', rfl⟩ := own_form hownN)
        have HON := hide hownN
        have HGN := hide (gr_app HG11.out HO11.out hgN (Nat.le_refl _))
        have HSN := hide ((HS11.out.x ((IsX.refl w11).alloc _)).gr hgN (fun g hg => by have := (HO11.out.lt g hg).1; omega))
        clear hownN hgN hatN
        go_wp2_with fail
        go_ret
        exact ⟨A', c', xs ++ [⟨ma, 1, 0⟩], by simp [← HN.out], by simp [← HN.out]; omega, wf_snoc HWF.out (by simp only [SkipD.wf]; omega), by rw [skips_snoc]; have h := HON.out; simpa [← HN.out] using h, HGN.out, HSN.out.le (by omega)⟩
      by_cases e1 : v = 1
      · subst e1
        go_wp2_with fail
        obtain ⟨KLa, hKLa⟩ : ∃ KL, KL = w10.heap.size := ⟨_, rfl⟩
        generalize hwla : World.alloc w10 _ = wla
        have hRla : Rd intC 1 wla (some ⟨KLa, 0, none⟩) [0, 1800001] := by
          rw [← hwla, hKLa]
          exact Blk.rd (cells := intC) (xs := [0, 1800001]) (t := 2) intC_len (Blk.new w10 2 _)
        have hxla : IsX w10 wla := by rw [← hwla]; exact (IsX.refl w10).alloc _
        have hwKa : w.heap.size ≤ KLa := by rw [hKLa]; exact HG10.out.size
        rw [← hKLa]
        have HOla := hide (own_x' HO10.out hxla)
        have HGla := hide (gr_x HG10.out hxla)
        have HSla := hide (HS10.out.x hxla)
        clear hwla hxla hKLa HO10 HG10 HS10
        refine (c_among X _ (0) 1800001 (some ⟨KLa, 0, none⟩) 2 [0, 1800001] wla (by omega) (by simp) (by simp) (by simp) hRla (fun b off e => by injection e with e; injection e with e1 e2; omega) HSla.out).mono ?_
        rintro e w11 ⟨ma, rfl, ma0, ma1, hg, hat⟩
        have HO11 := hide (own_grX HOla.out hg hXw)
        have HG11 := hide (gr_tr HGla.out hg)
        have HS11 := hide hat
        clear hg hat hRla HOla HGla HSla
        go_wp2_with fail
        obtain ⟨KLb, hKLb⟩ : ∃ KL, KL = w11.heap.size := ⟨_, rfl⟩
        generalize hwlb : World.alloc w11 _ = wlb
        have hRlb : Rd intC 1 wlb (some ⟨KLb, 0, none⟩) [0, 1001] := by
          rw [← hwlb, hKLb]
          exact Blk.rd (cells := intC) (xs := [0, 1001]) (t := 2) intC_len (Blk.new w11 2 _)
        have hxlb : IsX w11 wlb := by rw [← hwlb]; exact (IsX.refl w11).alloc _
        have hwKb : w.heap.size ≤ KLb := by rw [hKLb]; exact HG11.out.size
        rw [← hKLb]
        have HOlb := hide (own_x' HO11.out hxlb)
        have HGlb := hide (gr_x HG11.out hxlb)
        have HSlb := hide (HS11.out.x hxlb)
        clear hwlb hxlb hKLb HO11 HG11 HS11
        refine (c_among X _ (0) 1001 (some ⟨KLb, 0, none⟩) 2 [0, 1001] wlb (by omega) (by simp) (by simp) (by simp) hRlb (fun b off e => by injection e with e; injection e with e1 e2; omega) HSlb.out).mono ?_
        rintro e w12 ⟨mb, rfl, mb0, mb1, hg, hat⟩
        have HO12 := hide (own_grX HOlb.out hg hXw)
        have HG12 := hide (gr_tr HGlb.out hg)
        have HS12 := hide hat
        clear hg hat hRlb HOlb HGlb HSlb
        go_wp2_with (at_builtin; obtain ⟨i0, hi0, hz0, hz1, hz2⟩ := HI.out; refine wpList_append_any _ rfl (.tmp 51) (.tmp 59) _ rfl w.heap.size 31 i0 _ 3 24 Try.underlying24 hi0 hz0 hz1 hz2 rfl (by omega) (.slice A n c) n (xs.flatMap SkipD.cells) rfl (HO12.out.alloc _) _ (some ⟨w12.heap.size, 0, none⟩) 1 1 (SkipD.cells ⟨900000, ma, mb⟩) rfl (skip_reads w12 ⟨900000, ma, mb⟩) (skip_one ⟨900000, ma, mb⟩) (by simp only [maxLen]; omega) (by omega) (by have := HG12.out.size; simp; omega) ?_; clear hi0 hz0 hz1 hz2; intro vN wN hownN hgN hatN; obtain ⟨A', c', rfl⟩ := own_form hownN)
        have HON := hide hownN
        have HGN := hide (gr_app HG12.out HO12.out hgN (Nat.le_refl _))
        have HSN := hide ((HS12.out.x ((IsX.refl w12).alloc _)).gr hgN (fun g hg => by have := (HO12.out.lt g hg).1; omega))
        clear hownN hgN hatN
        go_wp2_with fail
        go_ret
        exact ⟨A', c', xs ++ [⟨900000, ma, mb⟩], by simp [← HN.out], by simp [← HN.out]; omega, wf_snoc HWF.out (by simp only [SkipD.wf]; omega), by rw [skips_snoc]; have h := HON.out; simpa [← HN.out] using h, HGN.out, HSN.out.le (by omega)⟩
      have q0 : (v == 0) = false := by simp only [beq_eq_false_iff_ne, ne_eq]; exact e0
      have q1 : (v == 1) = false := by simp only [beq_eq_false_iff_ne, ne_eq]; exact e1
      by_cases e2 : v = 2
      · subst e2
        clear q0 q1 e0 e1
        go_wp2_with fail
        obtain ⟨KLa, hKLa⟩ : ∃ KL, KL = w10.heap.size := ⟨_, rfl⟩
        generalize hwla : World.alloc w10 _ = wla
        have hRla : Rd intC 1 wla (some ⟨KLa, 0, none⟩) [12, 13] := by
          rw [← hwla, hKLa]
          exact Blk.rd (cells := intC) (xs := [12, 13]) (t := 2) intC_len (Blk.new w10 2 _)
        have hxla : IsX w10 wla := by rw [← hwla]; exact (IsX.refl w10).alloc _
        have hwKa : w.heap.size ≤ KLa := by rw [hKLa]; exact HG10.out.size
        rw [← hKLa]
        have HOla := hide (own_x' HO10.out hxla)
        have HGla := hide (gr_x HG10.out hxla)
        have HSla := hide (HS10.out.x hxla)
        clear hwla hxla hKLa HO10 HG10 HS10
        refine (c_among X _ (12) 13 (some ⟨KLa, 0, none⟩) 2 [12, 13] wla (by omega) (by simp) (by simp) (by simp) hRla (fun b off e => by injection e with e; injection e with e1 e2; omega) HSla.out).mono ?_
        rintro e w11 ⟨ma, rfl, ma0, ma1, hg, hat⟩
        have HO11 := hide (own_grX HOla.out hg hXw)
        have HG11 := hide (gr_tr HGla.out hg)
        have HS11 := hide hat
        clear hg hat hRla HOla HGla HSla
        go_wp2_with fail
        obtain ⟨KO, hKO⟩ : ∃ KO, KO = w11.heap.size := ⟨_, rfl⟩
        generalize hw12 : World.alloc w11 _ = w12
        have hO12 : w12.ownsRow w.heap.size 31 3 (.slice (some ⟨KO, 0, none⟩) 0 0) 0 [] := by rw [← hw12, hKO]; exact World.ownsRow_made w11 #[] 0 HG11.out.size (by simp [maxLen]) rfl
        have hx12 : IsX w11 w12 := by rw [← hw12]; exact (IsX.refl w11).alloc _
        rw [← hKO]
        have HO12 := hide hO12
        have HG12 := hide (gr_x HG11.out hx12)
        have HS12 := hide (HS11.out.x hx12)
        clear hw12 hx12 hKO hO12 HO11 HG11 HS11 HN HWF
        go_loopw [3, 8] (fun ov kv wr => ∃ (xs : List SkipD) (k : Int) (A : Option Addr) (c : Nat), kv = .int .i64 k ∧ 0 ≤ k ∧ k ≤ ma ∧ ov = .slice A xs.length c ∧ (xs.length : Int) = k ∧ Hid (∀ x ∈ xs, x.wf) ∧ Hid (wr.ownsRow w.heap.size 31 3 ov xs.length (xs.flatMap SkipD.cells)) ∧ Hid (w.grownBy wr (some X)) ∧ Hid (SrcAt X (N + 80) wr)) (fun _ kv _ => (ma - intOf kv).toNat)
        case atStart => exact ⟨[], 0, _, _, rfl, Int.le_refl _, by omega, rfl, rfl, hide (fun x hx => by simp at hx), HO12, HG12, hide (HS12.out.le (by omega))⟩
        case round =>
          clear HO12 HG12 HS12
          obtain ⟨xs, k, A, c, rfl, hk0, hkm, rfl, hxk, HWF, HO13, HG13, HS13⟩ := hrel
          obtain ⟨n, hnn⟩ : ∃ n, n = xs.length := ⟨_, rfl⟩
          have HN := hide hnn
          rw [← hnn] at hxk HO13 ⊢
          clear hnn
          by_cases hlt : k < ma
          · go_wp2_with (at_builtin; obtain ⟨i0, hi0, hz0, hz1, hz2⟩ := HI.out; refine wpList_append_any _ rfl (.tmp 72) (.tmp 77) _ rfl w.heap.size 31 i0 _ 3 24 Try.underlying24 hi0 hz0 hz1 hz2 rfl (by omega) (.slice A n c) n (xs.flatMap SkipD.cells) rfl (HO13.out.alloc _) _ (some ⟨wr.heap.size, 0, none⟩) 1 1 (SkipD.cells ⟨100 * k, 50, k⟩) rfl (skip_reads wr ⟨100 * k, 50, k⟩) (skip_one ⟨100 * k, 50, k⟩) (by simp only [maxLen]; omega) (by omega) (by have := HG13.out.size; simp; omega) ?_; clear hi0 hz0 hz1 hz2; intro vN wN hownN hgN hatN; obtain ⟨A', c', rfl⟩ := own_form hownN)
            have HON := hide hownN
            have HGN := hide (gr_app HG13.out HO13.out hgN (Nat.le_refl _))
            have HSN := hide ((HS13.out.x ((IsX.refl wr).alloc _)).gr hgN (fun g hg => by have := (HO13.out.lt g hg).1; omega))
            clear hownN hgN hatN
            go_wp2_with fail
            go_roundw
            case rel => exact ⟨xs ++ [⟨100 * k, 50, k⟩], k + 1, A', c', by go_num, by omega, by omega, by simp [← HN.out], by simp [← HN.out]; omega, hide (wf_snoc HWF.out (by simp only [SkipD.wf]; omega)), hide (by rw [skips_snoc]; have h := HON.out; simpa [← HN.out] using h), HGN, HSN⟩
            case measure => simp [intOf]; omega
          · go_wp2_with fail
            go_ret
            exact ⟨A, c, xs, by rw [← HN.out]; rfl, by rw [← HN.out]; omega, HWF.out, by have h := HO13.out; simpa [← HN.out] using h, HG13.out, HS13.out.le (by omega)⟩
      · have q2 : (v == 2) = false := by simp only [beq_eq_false_iff_ne, ne_eq]; exact e2
        go_wp2_with fail
        go_ret
        exact ⟨A, c, xs, by rw [← HN.out]; rfl, by rw [← HN.out]; omega, HWF.out, by have h := HO10.out; simpa [← HN.out] using h, HG10.out, HS10.out.le (by omega)⟩


end Go.Proofs.Ytmilgbmkhbjjaaa
