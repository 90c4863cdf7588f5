/- The first free seats side by side: FirstBlock of the program. Conditions: lists no longer than 2^40. -/
import Derived.Test.YtkepoedicgognaaFirstFns
namespace Go.Proofs.Ytkepoedicgognaa
set_option linter.unusedVariables false
open Go.RowKit

theorem IntS_info : (Try.prog.info? 23).map (fun i => (i.zero, i.size, i.bytes)) = some (some (.slice none 0 0), 1, 24) := by kernel_rfl
theorem oneV_reads (w : World) (t : Nat) (u : Value) : Reads (w.alloc (.cells #[u] t)) (w.alloc (.cells #[u] t)).heap.size 1 (some ⟨w.heap.size, 0, none⟩) 1 [u] := by
  refine ⟨rfl, fun _ => ⟨⟨w.heap.size, 0, none⟩, rfl, by simp, fun j x hx => ?_⟩⟩
  cases j with
  | zero =>
    have hb := (Blk.new w t #[u]).cell 0
    simp at hx hb
    rw [← hx]; simp [Addr.add, hb]
  | succ j => simp at hx
theorem oneS_one (A : Option Addr) (n c : Nat) : ∀ x ∈ [Value.slice A n c], x.oneCell' = true := by
  intro x hx
  simp only [List.mem_singleton] at hx
  subst hx; rfl
/-- what stands after some places of the open seats: no block yet, or rows of which the first one is the first block -/
def BlkSt (xs : List RingD) (ps os : List Int) (n m : Nat) (w wr : World) (ov : Value) (l q : Nat) : Prop :=
  (l = 0 ∧ ov = .slice none 0 0 ∧ ∀ j, j < q → ¬ goodI xs os n j) ∨
  (∃ (B : Nat) (g : Option Addr) (cg : Nat) (rows : List Value) (k : Nat), 0 < l ∧ wr.ownsRow B 23 1 ov l (.slice g n cg :: rows) ∧ w.heap.size ≤ B ∧ B ≤ wr.heap.size ∧ (∀ b, (Value.slice g n cg).ownBlock = some b → b < B) ∧ firstB (blockB xs ps n) m = some k ∧ Own intC 1 2 wr w.heap.size (.slice g n cg) (blockL k n))
theorem BlkSt.x {xs : List RingD} {ps os : List Int} {n m : Nat} {w wr wr' : World} {ov : Value} {l q : Nat} (h : BlkSt xs ps os n m w wr ov l q) (hx : IsX wr wr') : BlkSt xs ps os n m w wr' ov l q := by
  rcases h with h | ⟨B, g, cg, rows, k, h1, h2, h3, h4, h5, h6, h7⟩
  · exact .inl h
  · exact .inr ⟨B, g, cg, rows, k, h1, own_x h2 hx, h3, Nat.le_trans h4 hx.size, h5, h6, h7.x hx⟩
theorem BlkSt.skip {xs : List RingD} {ps os : List Int} {n m : Nat} {w wr : World} {ov : Value} {l q : Nat} (h : BlkSt xs ps os n m w wr ov l q) (hg : ¬ goodI xs os n q) : BlkSt xs ps os n m w wr ov l (q + 1) := by
  rcases h with ⟨h1, h2, h3⟩ | h
  · refine .inl ⟨h1, h2, fun j hj => ?_⟩
    by_cases e : j = q
    · subst e; exact hg
    · exact h3 j (by omega)
  · exact .inr h

theorem own_keep {w w1 : World} {base e size n : Nat} {v : Value} {L : List Value} {row : Option Nat} (h : w.ownsRow base e size v n L) (hg : w.grownBy w1 row) (hne : ∀ b, v.ownBlock = some b → row ≠ some b) : w1.ownsRow base e size v n L := by
  refine ⟨h.1, ?_⟩
  rcases h.2 with h2 | ⟨g, cap, cur, hv, hb, hh, r⟩
  · exact .inl h2
  · exact .inr ⟨g, cap, cur, hv, hb, (hg.block g (Array.getElem?_eq_some_iff.1 hh).1 (fun e => hne g (by rw [hv]; rfl) e.symm)).trans hh, r⟩
section
variable {xs : List RingD} {ps os : List Int} {n m : Nat} {w W W' : World} {v v1 : Value} {l q B : Nat} {L : List Value}
/-- the row of blocks, and what it holds -/
def RowSt (xs : List RingD) (ps os : List Int) (n m : Nat) (w W : World) (l q B : Nat) (L : List Value) : Prop :=
  (L = [] ∧ l = 0 ∧ B = W.heap.size ∧ ∀ j, j < q → ¬ goodI xs os n j) ∨
  (0 < l ∧ ∃ (g : Option Addr) (cg : Nat) (rows : List Value) (k : Nat), L = .slice g n cg :: rows ∧ (∀ b, (Value.slice g n cg).ownBlock = some b → b < B) ∧ firstB (blockB xs ps n) m = some k ∧ Own intC 1 2 W w.heap.size (.slice g n cg) (blockL k n))
theorem BlkSt.row (h : BlkSt xs ps os n m w W v l q) (hx : IsX w W) : ∃ B L, W.ownsRow B 23 1 v l L ∧ w.heap.size ≤ B ∧ B ≤ W.heap.size ∧ RowSt xs ps os n m w W l q B L := by
  rcases h with ⟨h1, h2, h3⟩ | ⟨B, g, cg, rows, k, h1, h2, h3, h4, h5, h6, h7⟩
  · subst h1 h2
    exact ⟨W.heap.size, [], World.ownsRow_nil _ _ _ _, hx.size, Nat.le_refl _, .inl ⟨rfl, rfl, rfl, h3⟩⟩
  · exact ⟨B, _, h2, h3, h4, .inr ⟨h1, g, cg, rows, k, rfl, h5, h6, h7⟩⟩
theorem RowSt.push {A : Option Addr} {c : Nat} {o : Obj} (h : RowSt xs ps os n m w W l q B L) (hB0 : w.heap.size ≤ B) (hB1 : B ≤ W.heap.size)
    (hk : (∀ j, j < q → ¬ goodI xs os n j) → ∃ k : Nat, firstB (blockB xs ps n) m = some k ∧ Own intC 1 2 W w.heap.size (.slice A n c) (blockL k n))
    (hA : ∀ b, (Value.slice A n c).ownBlock = some b → b < W.heap.size) (hrow : W'.ownsRow B 23 1 v1 (l + 1) (L ++ [.slice A n c])) (hg : (W.alloc o).grownBy W' v.ownBlock) (hv : ∀ b, v.ownBlock = some b → B ≤ b) :
    BlkSt xs ps os n m w W' v1 (l + 1) (q + 1) := by
  have hsz := hg.size
  simp at hsz
  rcases h with ⟨h1, h2, h3, h4⟩ | ⟨h0, g, cg, rows, k, h1, h2, h3, h4⟩
  · subst h1 h2
    obtain ⟨k, k1, k2⟩ := hk h4
    refine .inr ⟨B, A, c, [], k, by omega, hrow, hB0, by omega, fun b hb => by have := hA b hb; omega, k1, ?_⟩
    exact own_keep (World.ownsRow.alloc k2 o) hg (fun b hb e => by have := hv b e; have := hA b hb; omega)
  · subst h1
    refine .inr ⟨B, g, cg, rows ++ [Value.slice A n c], k, by omega, hrow, hB0, by omega, h2, h3, ?_⟩
    exact own_keep (World.ownsRow.alloc h4 o) hg (fun b hb e => by have := hv b e; have := h2 b hb; omega)
theorem BlkSt.final (hc : ∀ x ∈ xs, 0 ≤ x.Count ∧ x.Count ≤ 1048576) (hm : sumCount xs = m) (hn : 1 ≤ n) {A : Option Addr} {c : Nat} (h : BlkSt xs ps (openTo ps m) n m w W (.slice A l c) l q) (hq : (openTo ps m).length < q + n) :
    (l = 0 ∧ firstB (blockB xs ps n) m = none) ∨ (∃ (b : Nat) (g : Option Addr) (cg k : Nat), 0 < l ∧ A = some ⟨b, 0, none⟩ ∧ b < W.heap.size ∧ W.cell? ⟨b, 0, none⟩ = some (.slice g n cg) ∧ firstB (blockB xs ps n) m = some k ∧ Own intC 1 2 W w.heap.size (.slice g n cg) (blockL k n)) := by
  rcases h with ⟨h1, h2, h3⟩ | ⟨B, g, cg, rows, k, h1, h2, h3, h4, h5, h6, h7⟩
  · refine .inl ⟨h1, first_none hc hm hn fun j hg => ?_⟩
    have hg' := hg
    obtain ⟨g1, g2, _⟩ := hg'
    exact h3 j (by omega) hg
  · right
    rcases h2.2 with ⟨_, h0⟩ | ⟨b, cap, cur, hv, hb, hh, _, _, _, ht⟩
    · omega
    · injection hv with hA _ _
      subst hA
      refine ⟨b, g, cg, k, h1, rfl, (Array.getElem?_eq_some_iff.1 hh).1, ?_, h6, h7⟩
      rw [cell_of_row W b 0 cur _ (0, 0) hh, ← Array.getElem?_toList]
      have := congrArg (fun z => z[0]?) ht
      simp only [List.getElem?_take, List.getElem?_cons_zero] at this
      rw [if_pos (by omega)] at this
      exact this
end

set_option maxRecDepth 100000 in
set_option maxHeartbeats 3200000 in
theorem c_blocksOf (A0 : Option Addr) (c0 : Nat) (xs : List RingD) (A1 : Option Addr) (c1 : Nat) (ps : List Int) (n1 m : Nat) (w : World) (hv : ringsB xs = true) (hr : risesB ps 0 (sumCount xs - 1) = true) (hm : sumCount xs = (m : Int)) (hn2 : n1 + 1 ≤ 60)
    (hl0 : xs.length ≤ 1099511627776) (hl1 : ps.length ≤ 1099511627776) (hA0 : Rd RingD.cells 5 w A0 xs) (hA1 : Rd intC 1 w A1 ps) :
    Calls Try.prog 48 #[.slice A0 xs.length c0, .slice A1 ps.length c1, .int .i64 ((n1 : Int) + 1)] w fun e w' => ∃ ov l q w0, e = .returned ov ∧ IsX w w' ∧ l ≤ 120 ∧ (∃ A c, ov = .slice A l c) ∧ w.heap.size ≤ w0.heap.size ∧ BlkSt xs ps (openTo ps m) (n1 + 1) m w0 w' ov l q ∧ (openTo ps m).length < q + (n1 + 1) := by
  have hc := rings_cnt hv
  have hs120 := (rings_len hv).2
  have hm120 : m ≤ 120 := by omega
  have hL := open_len ps m
  have HM := hide hm
  have HA0 := hide hA0
  have HIS := hide (info_parts IntS_info)
  go_enter Try.func48, Try.ntmps48
  go_wp2_with fail
  refine (c_openSeats A0 c0 xs A1 c1 ps w hv hr hl0 hl1 hA0 hA1).mono ?_
  rintro e w1 ⟨A, c, rfl, hO, hx⟩
  rw [hm, Int.toNat_natCast] at hO
  rw [hm, Int.toNat_natCast]
  have HMEM := hide (fun x (hx : x ∈ openTo ps m) => (open_mem.1 hx).1)
  obtain ⟨os, hos⟩ : ∃ os, os = openTo ps m := ⟨_, rfl⟩
  have HOS := hide hos
  rw [← hos] at hO hL HMEM ⊢
  obtain ⟨L, hLL⟩ : ∃ L, L = os.length := ⟨_, rfl⟩
  have HL := hide hLL
  have HRD := hide (hO.rd (by omega) intC_len rfl)
  have HBD := hide (fun (h : 0 < os.length) => own_block hO h)
  have HCAP : Hid (os.length ≤ c) := by
    rcases hO.2 with ⟨h1, h0⟩ | ⟨g, cap, cur, hv, hg, hh, h1, h2, h3, h4⟩
    · show os.length ≤ c; omega
    · injection hv with _ _ hc; subst hc; exact h1
  obtain ⟨p, rfl⟩ := hx
  rw [← hLL] at hL ⊢
  clear hA0 hA1 hv hr hm hos hLL hO
  go_wp2_with fail
  go_loopw [7, 9] (fun ov iv wr => ∃ (q l : Nat), q ≤ 120 ∧ l ≤ q ∧ iv = .int .i64 q ∧ (∃ A c, ov = .slice A l c) ∧ Hid (BlkSt xs ps os (n1 + 1) m (xt w p) wr ov l q) ∧ IsX (xt w p) wr) (fun _ iv _ => 121 - (intOf iv).toNat)
  case atStart => exact ⟨0, 0, by omega, by omega, rfl, ⟨_, _, rfl⟩, hide (.inl ⟨rfl, rfl, fun j hj => absurd hj (by omega)⟩), IsX.refl _⟩
  case round =>
    obtain ⟨q, l, hq, hlq, rfl, ⟨Ao, co, rfl⟩, HS, p2, rfl⟩ := hrel
    by_cases hle : q + (n1 + 1) ≤ L
    · have hLx : q < os.length := by have := HL.out; omega
      have hLy : q + n1 < os.length := by have := HL.out; omega
      obtain ⟨g, hA, _, hg⟩ := HBD.out (by omega)
      have HRD' := hide (HRD.out.x (w' := xt (xt w p) p2) ⟨p2, rfl⟩)
      have HB1 := hide (HMEM.out _ (List.getElem_mem hLx))
      have HB2 := hide (HMEM.out _ (List.getElem_mem hLy))
      obtain ⟨b, off, e1, hb, cq⟩ := int_rd HRD.out (show os[q]? = some os[q] from List.getElem?_eq_getElem _)
      obtain ⟨b', off', e2, hb', dq⟩ := int_rd HRD.out (show os[q + n1]? = some os[q + n1] from List.getElem?_eq_getElem _)
      rw [hA] at e1 e2
      injection e1 with e1
      injection e2 with e2
      injection e1 with e1 e1'
      injection e2 with e2 e2'
      subst e1 e2 e1' e2'
      subst hA
      simp only [Nat.zero_add] at cq dq
      have hcap : L ≤ c := by have := HCAP.out; have := HL.out; omega
      obtain ⟨x, hxx⟩ : ∃ x, x = os[q] := ⟨_, rfl⟩
      obtain ⟨y, hyy⟩ : ∃ y, y = os[q + n1] := ⟨_, rfl⟩
      rw [← hxx] at cq HB1
      rw [← hyy] at dq HB2
      obtain ⟨x1, x2⟩ := HB1.out
      obtain ⟨y1, y2⟩ := HB2.out
      have HXX := hide hxx
      have HYY := hide hyy
      clear hxx hyy
      go_wp2_with fail
      refine (c_ringOf A0 c0 xs x _ hl0 hc x1 (by rw [HM.out]; exact x2) (by omega) (HA0.out.x (IsX.trans ⟨p, rfl⟩ ⟨p2, rfl⟩))).mono ?_
      rintro e w2 ⟨rfl, hx2⟩
      replace HS := hide (HS.out.x hx2)
      obtain ⟨p3, rfl⟩ := IsX.trans ⟨p2, rfl⟩ hx2
      clear hx2
      obtain ⟨a1, ha1⟩ : ∃ a, a = seatI xs x := ⟨_, rfl⟩
      have HA1 := hide ha1
      rw [← ha1]
      clear ha1
      go_wp2_with fail
      refine (c_ringOf A0 c0 xs y _ hl0 hc y1 (by rw [HM.out]; exact y2) (by omega) (HA0.out.x (IsX.trans ⟨p, rfl⟩ ⟨p3, rfl⟩))).mono ?_
      rintro e w2 ⟨rfl, hx2⟩
      replace HS := hide (HS.out.x hx2)
      obtain ⟨p4, rfl⟩ := IsX.trans ⟨p3, rfl⟩ hx2
      clear hx2
      obtain ⟨a2, ha2⟩ : ∃ a, a = seatI xs y := ⟨_, rfl⟩
      have HA2 := hide ha2
      rw [← ha2]
      clear ha2
      by_cases hab : a1 = a2
      · have hbe : ((a1 : Int) == (a2 : Int)) = true := by simp [hab]
        have HAB := hide hab
        clear hab
        by_cases hd : y - x = (n1 : Int)
        · have hde : (y - x == (n1 : Int)) = true := by simp [hd]
          have hgood : goodI xs os (n1 + 1) q := ⟨hLx, hLy, by
            show seatI xs os[q] = seatI xs os[q + n1]
            rw [← HXX.out, ← HYY.out, ← HA1.out, ← HA2.out]; exact HAB.out, by
            show os[q + n1] - os[q] = ((n1 + 1 : Nat) : Int) - 1
            rw [← HXX.out, ← HYY.out]; omega⟩
          have HG := hide hgood
          clear hd hgood
          go_wp2_with fail
          refine wp_region_x (by kernel_rfl) (by kernel_rfl) ?_
          repeat (go_big_quiet_step (fail))
          refine wpQuiet_nil ?_
          rintro _ ⟨p5, rfl⟩
          replace HS := hide (HS.out.x (wr' := xt (xt (xt w p) p4) p5) ⟨p5, rfl⟩)
          obtain ⟨p6, hp6⟩ : IsX (xt w p) (xt (xt (xt w p) p4) p5) := IsX.xt ⟨p4, rfl⟩ p5
          rw [hp6] at HS ⊢
          clear hp6
          go_wp2_with fail
          have htk : ((os.drop q).take (n1 + 1)).length = n1 + 1 := by rw [List.length_take, List.length_drop]; omega
          have hsub : Rd intC 1 (xt (xt w p) p6) (some ⟨g, q, none⟩) ((os.drop q).take (n1 + 1)) := fun i z hi => by
            rw [List.getElem?_take] at hi
            split at hi
            · rw [List.getElem?_drop] at hi
              obtain ⟨b, off, e1, hb, hcc⟩ := (HRD.out.x (w' := xt (xt w p) p6) ⟨p6, rfl⟩) _ z hi
              injection e1 with e1
              injection e1 with e1 e2
              subst e1 e2
              refine ⟨g, q, rfl, hb, fun j u hu => ?_⟩
              have := hcc j u hu
              rw [show 0 + (q + i) * 1 + j = q + i * 1 + j by omega] at this
              exact this
            · cases hi
          have hcl := c_Clone (some ⟨g, q, none⟩) (c - q) _ _ (by rw [htk]; omega) hsub
          rw [htk] at hcl
          refine hcl.mono ?_
          rintro e w5 ⟨A5, c5, rfl, hO5, hx5⟩
          have HO5 : Hid (Own intC 1 2 w5 (xt w p).heap.size (.slice A5 (n1 + 1) c5) ((os.drop q).take (n1 + 1))) := hide (by
            have := hO5.mono (size_xt (xt w p) p6)
            exact this)
          have HLT : Hid (∀ b, (Value.slice A5 (n1 + 1) c5).ownBlock = some b → b < w5.heap.size) := hide (fun b hb => (World.ownsRow.lt hO5 b hb).2)
          replace HS := hide (HS.out.x hx5)
          obtain ⟨p7, rfl⟩ := IsX.trans ⟨p6, rfl⟩ hx5
          clear hx5 hO5 hcl hsub htk
          obtain ⟨B, LL, hrow, hB0, hB1, hst⟩ := HS.out.row ⟨p7, rfl⟩
          have HROW := hide hrow
          have HST := hide hst
          clear hrow hst HS cq dq
          go_wp2_with (at_builtin; obtain ⟨i0, hi0, hz0, hz1, hz2⟩ := HIS.out; refine wpList_append_any _ rfl (.tmp 67) (.tmp 70) _ rfl B 23 i0 _ 1 24 Try.underlying57 hi0 hz0 hz1 hz2 rfl (by omega) _ l LL rfl (HROW.out.alloc _) _ (some ⟨(xt (xt w p) p7).heap.size, 0, none⟩) 1 1 [.slice A5 (n1 + 1) c5] rfl (oneV_reads _ _ _) (oneS_one _ _ _) (by simp only [maxLen]; omega) (by omega) (by simp; omega) ?_; clear hi0 hz0 hz1 hz2; intro v1 w1 hown1 hg1 hat1; have HROW1 := hide hown1; have HN1 := hide (HST.out.push hB0 hB1 (fun hno => (by obtain ⟨_, f1, f2, f3⟩ := first_at (xs := xs) (ps := ps) hc HM.out (by omega) (HOS.out ▸ HG.out) (HOS.out ▸ hno); exact ⟨_, f1, by rw [f2, f3]; exact HOS.out ▸ HO5.out⟩)) HLT.out hown1 hg1 (fun z hz => (HROW.out.lt z hz).1)); have hx1 : IsX (xt w p) w1 := IsX.grown (IsX.alloc (w' := xt (xt w p) p7) ⟨p7, rfl⟩ _) hg1 (by intro z hz; exact Nat.le_trans hB0 (HROW.out.lt z hz).1); clear hown1 hg1 hat1; obtain ⟨p8, rfl⟩ := hx1)
          have HN : Hid (BlkSt xs ps os (n1 + 1) m (xt w p) (xt (xt w p) p8) v1 (l + 1) (q + 1)) := HN1
          obtain ⟨Av, cv, hform⟩ := row_slice HROW1.out
          subst hform
          go_roundw
          case rel => exact ⟨q + 1, l + 1, by omega, by omega, by go_num, ⟨_, _, rfl⟩, HN, ⟨p8, rfl⟩⟩
          case measure => simp [intOf]; omega
        · have hde : (y - x == (n1 : Int)) = false := by simp [hd]
          have HNG : Hid (¬ goodI xs os (n1 + 1) q) := hide (fun ⟨h1, h2, h3, h4⟩ => by
            apply hd
            have h4' : os[q + n1] - os[q] = ((n1 + 1 : Nat) : Int) - 1 := h4
            rw [← HXX.out, ← HYY.out] at h4'
            omega)
          clear hd
          go_wp2_with fail
          refine wp_region_x (by kernel_rfl) (by kernel_rfl) ?_
          repeat (go_big_quiet_step (fail))
          refine wpQuiet_nil ?_
          rintro _ ⟨p5, rfl⟩
          replace HS := hide ((HS.out.x (wr' := xt (xt (xt w p) p4) p5) ⟨p5, rfl⟩).skip HNG.out)
          go_wp2_with fail
          go_roundw
          case rel => exact ⟨q + 1, l, by omega, by omega, by go_num, ⟨_, _, rfl⟩, HS, IsX.xt ⟨p4, rfl⟩ p5⟩
          case measure => simp [intOf]; omega
      · have hbe : ((a1 : Int) == (a2 : Int)) = false := by simp; omega
        have HNG : Hid (¬ goodI xs os (n1 + 1) q) := hide (fun ⟨h1, h2, h3, h4⟩ => by
          apply hab
          have h3' : seatI xs os[q] = seatI xs os[q + n1] := h3
          rw [← HXX.out, ← HYY.out, ← HA1.out, ← HA2.out] at h3'
          exact h3')
        clear hab
        go_wp2_with fail
        refine wp_region_x (by kernel_rfl) (by kernel_rfl) ?_
        repeat (go_big_quiet_step (fail))
        refine wpQuiet_nil ?_
        rintro _ ⟨p5, rfl⟩
        replace HS := hide ((HS.out.x (wr' := xt (xt (xt w p) p4) p5) ⟨p5, rfl⟩).skip HNG.out)
        go_wp2_with fail
        go_roundw
        case rel => exact ⟨q + 1, l, by omega, by omega, by go_num, ⟨_, _, rfl⟩, HS, IsX.xt ⟨p4, rfl⟩ p5⟩
        case measure => simp [intOf]; omega
    · have hend : os.length < q + (n1 + 1) := by have := HL.out; omega
      have HE := hide hend
      clear hend
      go_wp2_with fail
      go_ret
      exact ⟨_, l, q, xt w p, rfl, IsX.trans ⟨p, rfl⟩ ⟨p2, rfl⟩, by omega, ⟨_, _, rfl⟩, size_xt w p, HOS.out ▸ HS.out, HOS.out ▸ HE.out⟩

set_option maxHeartbeats 3200000 in
theorem i_FirstBlock (A0 : Option Addr) (c0 : Nat) (xs0 : List RingD) (A1 : Option Addr) (c1 : Nat) (xs1 : List Int) (n2 : Int) (w : World) (hn0 : xs0.length ≤ 1099511627776) (hw0 : ∀ x ∈ xs0, x.wf) (hA0 : Rd RingD.cells 5 w A0 xs0) (hn1 : xs1.length ≤ 1099511627776) (hw1 : ∀ x ∈ xs1, intWf x) (hA1 : Rd intC 1 w A1 xs1) (hb2 : intWf n2) :
    Calls Try.prog 13 #[.slice A0 xs0.length c0, .slice A1 xs1.length c1, .int .i64 n2] w (SlPost intC 1 2 w (firstZ xs0 xs1 n2) (firstC xs0 xs1 n2)) := by
  by_cases hz : manyC xs0 xs1 n2 = 0
  case neg =>
    have HZ := hide (first_bad hz)
    obtain ⟨mc, hmc⟩ : ∃ mc, mc = manyC xs0 xs1 n2 := ⟨_, rfl⟩
    have HMC := hide hmc
    rw [← hmc] at hz
    have hzb : (mc != 0) = true := by rw [bne_iff_ne]; exact hz
    go_enter Try.func13, Try.ntmps13
    go_wp2_with fail
    refine (c_checkBlock A0 c0 xs0 A1 c1 xs1 n2 w hn0 hw0 hA0 hn1 hw1 hA1 hb2).mono ?_
    rintro e w1 ⟨rfl, hx⟩
    rw [← HMC.out]
    clear hmc
    go_wp2_with fail
    go_ret2
    exact SlPost.none HZ.out.1 (by rw [HZ.out.2, ← HMC.out]; rfl) hx
  obtain ⟨hbk, hin⟩ := many_zero hz
  have hin' := inB_true.1 hin
  obtain ⟨i1, i2⟩ := hin'
  obtain ⟨k1, rfl⟩ : ∃ k1 : Nat, n2 = (k1 : Int) + 1 := ⟨(n2 - 1).toNat, by omega⟩
  simp only [bookedB, Bool.and_eq_true] at hbk
  have HV := hide hbk.1
  have HR := hide hbk.2
  obtain ⟨m, hm⟩ := Int.eq_ofNat_of_zero_le (sumCount_nn hbk.1)
  have HM := hide hm
  have HZ0 := hide hz
  clear hbk hin hm hz
  go_enter Try.func13, Try.ntmps13
  go_wp2_with fail
  refine (c_checkBlock A0 c0 xs0 A1 c1 xs1 _ w hn0 hw0 hA0 hn1 hw1 hA1 hb2).mono ?_
  rintro e w1 ⟨rfl, hx⟩
  rw [HZ0.out]
  go_wp2_with fail
  refine (c_blocksOf A0 c0 xs0 A1 c1 xs1 k1 m w1 HV.out HR.out HM.out (by omega) hn0 hn1 (hA0.x hx) (hA1.x hx)).mono ?_
  rintro e w2 ⟨_, l, q, w0, rfl, hx2, hl, ⟨A, c, rfl⟩, hw, hB, hq⟩
  have HX := hide (hx.trans hx2)
  have hsz := hx.size
  rcases hB.final (rings_cnt HV.out) HM.out (by omega) hq with ⟨rfl, hnone⟩ | ⟨b, g, cg, k, h0, rfl, hb, hcell, hsome, hown⟩
  · have HFS : Hid (firstZ xs0 xs1 ((k1 : Int) + 1) = [] ∧ firstC xs0 xs1 ((k1 : Int) + 1) = 3) := hide (first_nil (n := k1 + 1) HZ0.out HM.out hnone)
    clear hx hx2 hB hq hA0 hA1 hnone
    go_wp2_with fail
    go_loopw [23] (fun iv wr => iv = .int .i64 0 ∧ IsX w wr) (fun _ _ => 0)
    case atStart => exact ⟨rfl, HX.out⟩
    case round =>
      clear HX
      obtain ⟨rfl, p, rfl⟩ := hrel
      go_wp2_with fail
      go_ret2
      exact SlPost.none HFS.out.1 (by rw [HFS.out.2]; rfl) ⟨p, rfl⟩
  · have HFS : Hid (firstZ xs0 xs1 ((k1 : Int) + 1) = blockL k (k1 + 1) ∧ firstC xs0 xs1 ((k1 : Int) + 1) = 0) := hide (first_some (n := k1 + 1) HZ0.out HM.out hsome)
    have HO := hide (hown.mono (Nat.le_trans hsz hw))
    clear hx hx2 hB hq hA0 hA1 hsome hown
    go_wp2_with fail
    go_loopw [23] (fun iv wr => iv = .int .i64 0 ∧ w2 = wr) (fun _ _ => 0)
    case atStart => exact ⟨rfl, rfl⟩
    case round =>
      obtain ⟨rfl, rfl⟩ := hrel
      go_wp2_with fail
      go_ret2
      refine ⟨g, cg, by rw [HFS.out.1, HFS.out.2, blockL_len]; rfl, ?_, HX.out⟩
      rw [HFS.out.1, blockL_len]
      exact HO.out

end Go.Proofs.Ytkepoedicgognaa
