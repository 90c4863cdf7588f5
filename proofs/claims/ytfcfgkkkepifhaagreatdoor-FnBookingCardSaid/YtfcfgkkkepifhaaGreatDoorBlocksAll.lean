/- All blocks of free seats side by side: blocksOf. Conditions: lists no longer than 2^40. -/
import Derived.Test.YtfcfgkkkepifhaaGreatDoorBestLaw
namespace Go.Proofs.YtfcfgkkkepifhaaGreatDoor
set_option linter.unusedVariables false
open Go.RowKit

theorem IntS_info : (Tryz.prog.info? 46).map (fun i => (i.zero, i.size, i.bytes)) = some (some (.slice none 0 0), 1, 24) := by kernel_rfl
theorem oneV_reads (w : World) (t : Nat) (u : Value) : Reads (w.alloc (.cells #[u] t)) (w.alloc (.cells #[u] t)).heap.size 1 (some ⟨w.heap.size, 0, none⟩) 1 [u] := by
  refine ⟨rfl, fun _ => ⟨⟨w.heap.size, 0, none⟩, rfl, by simp, fun j x hx => ?_⟩⟩
  cases j with
  | zero =>
    have hb := (Blk.new w t #[u]).cell 0
    simp at hx hb
    rw [← hx]; simp [Addr.add, hb]
  | succ j => simp at hx
theorem oneS_one (A : Option Addr) (n c : Nat) : ∀ x ∈ [Value.slice A n c], x.oneCell' = true := by
  intro x hx
  simp only [List.mem_singleton] at hx
  subst hx; rfl
theorem own_keep {w w1 : World} {base e size n : Nat} {v : Value} {L : List Value} {row : Option Nat} (h : w.ownsRow base e size v n L) (hg : w.grownBy w1 row) (hne : ∀ b, v.ownBlock = some b → row ≠ some b) : w1.ownsRow base e size v n L := by
  refine ⟨h.1, ?_⟩
  rcases h.2 with h2 | ⟨g, cap, cur, hv, hb, hh, r⟩
  · exact .inl h2
  · exact .inr ⟨g, cap, cur, hv, hb, (hg.block g (Array.getElem?_eq_some_iff.1 hh).1 (fun e => hne g (by rw [hv]; rfl) e.symm)).trans hh, r⟩
theorem own_type {w : World} {b1 e1 k1 n1 b2 e2 k2 n2 : Nat} {v1 v2 : Value} {L1 L2 : List Value} (h1 : w.ownsRow b1 e1 k1 v1 n1 L1) (h2 : w.ownsRow b2 e2 k2 v2 n2 L2) (hne : e1 ≠ e2) : ∀ b, v1.ownBlock = some b → v2.ownBlock ≠ some b := by
  intro b hb e
  rcases h1.2 with ⟨rfl, _⟩ | ⟨g1, c1, cur1, rfl, _, hh1, _⟩
  · cases hb
  · rcases h2.2 with ⟨rfl, _⟩ | ⟨g2, c2, cur2, rfl, _, hh2, _⟩
    · cases e
    · have e1' : g1 = b := by injection hb
      have e2' : g2 = b := by injection e
      subst e1' e2'
      rw [hh1] at hh2
      injection hh2 with hh2
      injection hh2 with _ hh2
      exact hne hh2
/-- the rows of blocks that begin at ks -/
def RowsOf (w W : World) (L : List Value) (ks : List Nat) (n : Nat) : Prop := ∀ i k : Nat, ks[i]? = some k → ∃ g cg, L[i]? = some (.slice g n cg) ∧ Own intC 1 2 W w.heap.size (.slice g n cg) (blockL (k : Int) n)
def BlocksAt (w W : World) (A : Option Addr) (ks : List Nat) (n : Nat) : Prop := ∀ i k : Nat, ks[i]? = some k → ∃ b g cg, A = some ⟨b, 0, none⟩ ∧ b < W.heap.size ∧ W.cell? ⟨b, i, none⟩ = some (.slice g n cg) ∧ Own intC 1 2 W w.heap.size (.slice g n cg) (blockL (k : Int) n)
theorem BlocksAt.mono {w w0 W : World} {A : Option Addr} {ks : List Nat} {n : Nat} (h : BlocksAt w0 W A ks n) (hs : w.heap.size ≤ w0.heap.size) : BlocksAt w W A ks n := fun i k hk => by
  obtain ⟨b, g, cg, h1, h2, h3, h4⟩ := h i k hk
  exact ⟨b, g, cg, h1, h2, h3, h4.mono hs⟩
def BlkSt (xs : List RingD) (os : List Int) (n : Nat) (w wr : World) (ov : Value) (l q : Nat) : Prop :=
  ∃ (L : List Value) (ks : List Nat), wr.ownsRow w.heap.size 46 1 ov l L ∧ w.heap.size ≤ wr.heap.size ∧ ks.length = l ∧ KsOk xs os n q ks ∧ RowsOf w wr L ks n
section
variable {xs : List RingD} {os : List Int} {n : Nat} {w wr wr' : World} {ov v v1 : Value} {l q B : Nat} {L : List Value}
theorem BlkSt.zero (xs : List RingD) (os : List Int) (n : Nat) {w wr : World} (hx : IsX w wr) : BlkSt xs os n w wr (.slice none 0 0) 0 0 :=
  ⟨[], [], World.ownsRow_nil _ _ _ _, hx.size, rfl, KsOk.zero xs os n, fun i k h => by simp at h⟩
theorem BlkSt.x (h : BlkSt xs os n w wr ov l q) (hx : IsX wr wr') : BlkSt xs os n w wr' ov l q := by
  obtain ⟨L, ks, h1, h2, h3, h4, h5⟩ := h
  refine ⟨L, ks, own_x h1 hx, Nat.le_trans h2 hx.size, h3, h4, fun i k hk => ?_⟩
  obtain ⟨g, cg, e, hO⟩ := h5 i k hk
  exact ⟨g, cg, e, hO.x hx⟩
theorem BlkSt.skip (h : BlkSt xs os n w wr ov l q) (hg : ¬ goodI xs os n q) : BlkSt xs os n w wr ov l (q + 1) := by
  obtain ⟨L, ks, h1, h2, h3, h4, h5⟩ := h
  exact ⟨L, ks, h1, h2, h3, h4.skip hg, h5⟩
def RowSt (xs : List RingD) (os : List Int) (n : Nat) (w W : World) (l q B : Nat) (L : List Value) : Prop :=
  B = w.heap.size ∧ ∃ ks : List Nat, ks.length = l ∧ KsOk xs os n q ks ∧ RowsOf w W L ks n
theorem BlkSt.row (h : BlkSt xs os n w wr v l q) (hx : IsX w wr) : ∃ B L, wr.ownsRow B 46 1 v l L ∧ w.heap.size ≤ B ∧ B ≤ wr.heap.size ∧ RowSt xs os n w wr l q B L := by
  obtain ⟨L, ks, h1, h2, h3, h4, h5⟩ := h
  exact ⟨_, L, h1, Nat.le_refl _, h2, rfl, ks, h3, h4, h5⟩
theorem RowSt.push {A : Option Addr} {c : Nat} {o : Obj} (h : RowSt xs os n w wr l q B L) (hB0 : w.heap.size ≤ B) (hB1 : B ≤ wr.heap.size) (hp : os.Pairwise (· < ·)) (hnn : ∀ x ∈ os, 0 ≤ x) (hq : q < os.length) (hgd : goodI xs os n q)
    (hO : Own intC 1 2 wr w.heap.size (.slice A n c) (blockL os[q] n)) (hold : wr.ownsRow B 46 1 v l L) (hrow : wr'.ownsRow B 46 1 v1 (l + 1) (L ++ [.slice A n c])) (hg : (wr.alloc o).grownBy wr' v.ownBlock) :
    BlkSt xs os n w wr' v1 (l + 1) (q + 1) := by
  have hsz := hg.size
  simp at hsz
  obtain ⟨rfl, ks, h3, h4, h5⟩ := h
  have hnn' := hnn _ (List.getElem_mem hq)
  refine ⟨_, ks ++ [os[q].toNat], hrow, by omega, by simp [h3], h4.push hp hnn hq hgd, fun i k hk => ?_⟩
  have hLl : L.length = l := by have := hold.1; omega
  have keep : ∀ (g : Option Addr) (cg : Nat) (M : List Int), Own intC 1 2 wr w.heap.size (.slice g n cg) M → Own intC 1 2 wr' w.heap.size (.slice g n cg) M := fun g cg M hM => own_keep (World.ownsRow.alloc hM o) hg (own_type hM hold (by decide))
  rcases Nat.lt_or_ge i ks.length with hi | hi
  · rw [List.getElem?_append_left hi] at hk
    obtain ⟨g, cg, e, hO'⟩ := h5 i k hk
    exact ⟨g, cg, by rw [List.getElem?_append_left (by omega)]; exact e, keep _ _ _ hO'⟩
  · rw [List.getElem?_append_right hi] at hk
    have hi0 : i - ks.length = 0 := by
      rcases Nat.eq_zero_or_pos (i - ks.length) with h | h
      · exact h
      · rw [List.getElem?_eq_none (by simp; omega)] at hk; cases hk
    rw [hi0] at hk
    have hk' : k = os[q].toNat := by simpa using hk.symm
    subst hk'
    refine ⟨A, c, ?_, ?_⟩
    · rw [List.getElem?_append_right (by omega), show i - L.length = 0 by omega]; rfl
    · rw [show ((os[q].toNat : Nat) : Int) = os[q] by omega]; exact keep _ _ _ hO
theorem BlkSt.final {ps : List Int} {m : Nat} {A : Option Addr} {c : Nat} (h : BlkSt xs (openTo ps m) n w wr (.slice A l c) l q) (hc : ∀ x ∈ xs, 0 ≤ x.Count ∧ x.Count ≤ 1048576) (hm : sumCount xs = m) (hn : 1 ≤ n) (hq : (openTo ps m).length < q + n) :
    l = (startsB (blockB xs ps n) m).length ∧ BlocksAt w wr A (startsB (blockB xs ps n) m) n := by
  obtain ⟨L, ks, h1, h2, h3, h4, h5⟩ := h
  have e := h4.final hc hm hn hq
  rw [← e]
  refine ⟨h3.symm, fun i k hk => ?_⟩
  obtain ⟨g, cg, eL, hO⟩ := h5 i k hk
  have hi : i < l := by rw [← h3]; exact (List.getElem?_eq_some_iff.1 hk).1
  rcases h1.2 with ⟨_, h0⟩ | ⟨b, cap, cur, hv, hb, hh, _, _, _, ht⟩
  · omega
  · injection hv with hA _ _
    subst hA
    refine ⟨b, g, cg, rfl, (Array.getElem?_eq_some_iff.1 hh).1, ?_, hO⟩
    rw [cell_of_row wr b i cur _ (0, 0) hh, ← Array.getElem?_toList]
    have := congrArg (fun z => z[i]?) ht
    simp only [List.getElem?_take] at this
    rw [if_pos (by omega)] at this
    rw [this]
    exact eL
end

set_option maxRecDepth 100000 in
set_option maxHeartbeats 3200000 in
theorem c_blocksOf (A0 : Option Addr) (c0 : Nat) (xs : List RingD) (A1 : Option Addr) (c1 : Nat) (ps : List Int) (n1 m : Nat) (w : World) (hv : ringsB xs = true) (hr : risesB ps 0 (sumCount xs - 1) = true) (hm : sumCount xs = (m : Int)) (hn2 : n1 + 1 ≤ 60)
    (hl0 : xs.length ≤ 1099511627776) (hl1 : ps.length ≤ 1099511627776) (hA0 : Rd RingD.cells 5 w A0 xs) (hA1 : Rd intC 1 w A1 ps) :
    Calls Tryz.prog 48 #[.slice A0 xs.length c0, .slice A1 ps.length c1, .int .i64 ((n1 : Int) + 1)] w fun e w' => ∃ A c, e = .returned (.slice A (startsB (blockB xs ps (n1 + 1)) m).length c) ∧ IsX w w' ∧ BlocksAt w w' A (startsB (blockB xs ps (n1 + 1)) m) (n1 + 1) := by
  have hc := rings_cnt hv
  have hs120 := (rings_len hv).2
  have hm120 : m ≤ 120 := by omega
  have hL := open_len ps m
  have HM := hide hm
  have HA0 := hide hA0
  have HIS := hide (info_parts IntS_info)
  go_enter Tryz.func48, Tryz.ntmps48
  go_wp2_with fail
  refine (c_openSeats A0 c0 xs A1 c1 ps w hv hr hl0 hl1 hA0 hA1).mono ?_
  rintro e w1 ⟨A, c, rfl, hO, hx⟩
  rw [hm, Int.toNat_natCast] at hO
  rw [hm, Int.toNat_natCast]
  have HMEM := hide (fun x (hx : x ∈ openTo ps m) => (open_mem.1 hx).1)
  obtain ⟨os, hos⟩ : ∃ os, os = openTo ps m := ⟨_, rfl⟩
  have HOS := hide hos
  rw [← hos] at hO hL HMEM ⊢
  obtain ⟨L, hLL⟩ : ∃ L, L = os.length := ⟨_, rfl⟩
  have HL := hide hLL
  have HRD := hide (hO.rd (by omega) intC_len rfl)
  have HBD := hide (fun (h : 0 < os.length) => own_block hO h)
  have HCAP : Hid (os.length ≤ c) := by
    rcases hO.2 with ⟨h1, h0⟩ | ⟨g, cap, cur, hv, hg, hh, h1, h2, h3, h4⟩
    · show os.length ≤ c; omega
    · injection hv with _ _ hc; subst hc; exact h1
  obtain ⟨p, rfl⟩ := hx
  rw [← hLL] at hL ⊢
  have HPW : Hid (os.Pairwise (· < ·)) := hide (HOS.out ▸ open_pw ps m)
  clear hA0 hA1 hv hr hm hos hLL hO
  go_wp2_with fail
  go_loopw [7, 9] (fun ov iv wr => ∃ (q l : Nat), q ≤ 120 ∧ l ≤ q ∧ iv = .int .i64 q ∧ (∃ A c, ov = .slice A l c) ∧ Hid (BlkSt xs os (n1 + 1) (xt w p) wr ov l q) ∧ IsX (xt w p) wr) (fun _ iv _ => 121 - (intOf iv).toNat)
  case atStart => exact ⟨0, 0, by omega, by omega, rfl, ⟨_, _, rfl⟩, hide (BlkSt.zero _ _ _ (IsX.refl _)), IsX.refl _⟩
  case round =>
    obtain ⟨q, l, hq, hlq, rfl, ⟨Ao, co, rfl⟩, HS, p2, rfl⟩ := hrel
    by_cases hle : q + (n1 + 1) ≤ L
    · have hLx : q < os.length := by have := HL.out; omega
      have hLy : q + n1 < os.length := by have := HL.out; omega
      obtain ⟨g, hA, _, hg⟩ := HBD.out (by omega)
      have HRD' := hide (HRD.out.x (w' := xt (xt w p) p2) ⟨p2, rfl⟩)
      have HB1 := hide (HMEM.out _ (List.getElem_mem hLx))
      have HB2 := hide (HMEM.out _ (List.getElem_mem hLy))
      obtain ⟨b, off, e1, hb, cq⟩ := int_rd HRD.out (show os[q]? = some os[q] from List.getElem?_eq_getElem _)
      obtain ⟨b', off', e2, hb', dq⟩ := int_rd HRD.out (show os[q + n1]? = some os[q + n1] from List.getElem?_eq_getElem _)
      rw [hA] at e1 e2
      injection e1 with e1
      injection e2 with e2
      injection e1 with e1 e1'
      injection e2 with e2 e2'
      subst e1 e2 e1' e2'
      subst hA
      simp only [Nat.zero_add] at cq dq
      have hcap : L ≤ c := by have := HCAP.out; have := HL.out; omega
      obtain ⟨x, hxx⟩ : ∃ x, x = os[q] := ⟨_, rfl⟩
      obtain ⟨y, hyy⟩ : ∃ y, y = os[q + n1] := ⟨_, rfl⟩
      rw [← hxx] at cq HB1
      rw [← hyy] at dq HB2
      obtain ⟨x1, x2⟩ := HB1.out
      obtain ⟨y1, y2⟩ := HB2.out
      have HXX := hide hxx
      have HYY := hide hyy
      clear hxx hyy
      go_wp2_with fail
      refine (c_ringOf A0 c0 xs x _ hl0 hc x1 (by rw [HM.out]; exact x2) (by omega) (HA0.out.x (IsX.trans ⟨p, rfl⟩ ⟨p2, rfl⟩))).mono ?_
      rintro e w2 ⟨rfl, hx2⟩
      replace HS := hide (HS.out.x hx2)
      obtain ⟨p3, rfl⟩ := IsX.trans ⟨p2, rfl⟩ hx2
      clear hx2
      obtain ⟨a1, ha1⟩ : ∃ a, a = seatI xs x := ⟨_, rfl⟩
      have HA1 := hide ha1
      rw [← ha1]
      clear ha1
      go_wp2_with fail
      refine (c_ringOf A0 c0 xs y _ hl0 hc y1 (by rw [HM.out]; exact y2) (by omega) (HA0.out.x (IsX.trans ⟨p, rfl⟩ ⟨p3, rfl⟩))).mono ?_
      rintro e w2 ⟨rfl, hx2⟩
      replace HS := hide (HS.out.x hx2)
      obtain ⟨p4, rfl⟩ := IsX.trans ⟨p3, rfl⟩ hx2
      clear hx2
      obtain ⟨a2, ha2⟩ : ∃ a, a = seatI xs y := ⟨_, rfl⟩
      have HA2 := hide ha2
      rw [← ha2]
      clear ha2
      by_cases hab : a1 = a2
      · have hbe : ((a1 : Int) == (a2 : Int)) = true := by simp [hab]
        have HAB := hide hab
        clear hab
        by_cases hd : y - x = (n1 : Int)
        · have hde : (y - x == (n1 : Int)) = true := by simp [hd]
          have hgood : goodI xs os (n1 + 1) q := ⟨hLx, hLy, by
            show seatI xs os[q] = seatI xs os[q + n1]
            rw [← HXX.out, ← HYY.out, ← HA1.out, ← HA2.out]; exact HAB.out, by
            show os[q + n1] - os[q] = ((n1 + 1 : Nat) : Int) - 1
            rw [← HXX.out, ← HYY.out]; omega⟩
          have HG := hide hgood
          clear hd hgood
          go_wp2_with fail
          refine wp_region_x (by kernel_rfl) (by kernel_rfl) ?_
          repeat (go_big_quiet_step (fail))
          refine wpQuiet_nil ?_
          rintro _ ⟨p5, rfl⟩
          replace HS := hide (HS.out.x (wr' := xt (xt (xt w p) p4) p5) ⟨p5, rfl⟩)
          obtain ⟨p6, hp6⟩ : IsX (xt w p) (xt (xt (xt w p) p4) p5) := IsX.xt ⟨p4, rfl⟩ p5
          rw [hp6] at HS ⊢
          clear hp6
          go_wp2_with fail
          have htk : ((os.drop q).take (n1 + 1)).length = n1 + 1 := by rw [List.length_take, List.length_drop]; omega
          have hsub : Rd intC 1 (xt (xt w p) p6) (some ⟨g, q, none⟩) ((os.drop q).take (n1 + 1)) := fun i z hi => by
            rw [List.getElem?_take] at hi
            split at hi
            · rw [List.getElem?_drop] at hi
              obtain ⟨b, off, e1, hb, hcc⟩ := (HRD.out.x (w' := xt (xt w p) p6) ⟨p6, rfl⟩) _ z hi
              injection e1 with e1
              injection e1 with e1 e2
              subst e1 e2
              refine ⟨g, q, rfl, hb, fun j u hu => ?_⟩
              have := hcc j u hu
              rw [show 0 + (q + i) * 1 + j = q + i * 1 + j by omega] at this
              exact this
            · cases hi
          have hcl := c_Clone (some ⟨g, q, none⟩) (c - q) _ _ (by rw [htk]; omega) hsub
          rw [htk] at hcl
          refine hcl.mono ?_
          rintro e w5 ⟨A5, c5, rfl, hO5, hx5⟩
          have HO5 : Hid (Own intC 1 2 w5 (xt w p).heap.size (.slice A5 (n1 + 1) c5) ((os.drop q).take (n1 + 1))) := hide (by
            have := hO5.mono (size_xt (xt w p) p6)
            exact this)
          have HOK5 : Hid (Own intC 1 2 w5 (xt w p).heap.size (.slice A5 (n1 + 1) c5) (blockL os[q] (n1 + 1))) := hide (by
            obtain ⟨_, _, f3⟩ := good_block (xs := xs) (ps := ps) (n := n1 + 1) (i := q) hc HM.out (by omega) (HOS.out ▸ HG.out)
            have f3' : blockL os[q] (n1 + 1) = (os.drop q).take (n1 + 1) := by
              have := HOS.out
              subst this
              exact f3
            rw [f3']; exact HO5.out)
          have HLT : Hid (∀ b, (Value.slice A5 (n1 + 1) c5).ownBlock = some b → b < w5.heap.size) := hide (fun b hb => (World.ownsRow.lt hO5 b hb).2)
          replace HS := hide (HS.out.x hx5)
          obtain ⟨p7, rfl⟩ := IsX.trans ⟨p6, rfl⟩ hx5
          clear hx5 hO5 hcl hsub htk
          obtain ⟨B, LL, hrow, hB0, hB1, hst⟩ := HS.out.row ⟨p7, rfl⟩
          have HROW := hide hrow
          have HST := hide hst
          clear hrow hst HS cq dq
          go_wp2_with (at_builtin; obtain ⟨i0, hi0, hz0, hz1, hz2⟩ := HIS.out; refine wpList_append_any _ rfl (.tmp 67) (.tmp 70) _ rfl B 46 i0 _ 1 24 Tryz.underlying74 hi0 hz0 hz1 hz2 rfl (by omega) _ l LL rfl (HROW.out.alloc _) _ (some ⟨(xt (xt w p) p7).heap.size, 0, none⟩) 1 1 [.slice A5 (n1 + 1) c5] rfl (oneV_reads _ _ _) (oneS_one _ _ _) (by simp only [maxLen]; omega) (by omega) (by simp; omega) ?_; clear hi0 hz0 hz1 hz2; intro v1 w1 hown1 hg1 hat1; have HROW1 := hide hown1; have HN1 := hide (HST.out.push hB0 hB1 HPW.out (fun z hz => (HMEM.out z hz).1) hLx HG.out HOK5.out HROW.out hown1 hg1); have hx1 : IsX (xt w p) w1 := IsX.grown (IsX.alloc (w' := xt (xt w p) p7) ⟨p7, rfl⟩ _) hg1 (by intro z hz; exact Nat.le_trans hB0 (HROW.out.lt z hz).1); clear hown1 hg1 hat1; obtain ⟨p8, rfl⟩ := hx1)
          have HN : Hid (BlkSt xs os (n1 + 1) (xt w p) (xt (xt w p) p8) v1 (l + 1) (q + 1)) := HN1
          obtain ⟨Av, cv, hform⟩ := row_slice HROW1.out
          subst hform
          go_roundw
          case rel => exact ⟨q + 1, l + 1, by omega, by omega, by go_num, ⟨_, _, rfl⟩, HN, ⟨p8, rfl⟩⟩
          case measure => simp [intOf]; omega
        · have hde : (y - x == (n1 : Int)) = false := by simp [hd]
          have HNG : Hid (¬ goodI xs os (n1 + 1) q) := hide (fun ⟨h1, h2, h3, h4⟩ => by
            apply hd
            have h4' : os[q + n1] - os[q] = ((n1 + 1 : Nat) : Int) - 1 := h4
            rw [← HXX.out, ← HYY.out] at h4'
            omega)
          clear hd
          go_wp2_with fail
          refine wp_region_x (by kernel_rfl) (by kernel_rfl) ?_
          repeat (go_big_quiet_step (fail))
          refine wpQuiet_nil ?_
          rintro _ ⟨p5, rfl⟩
          replace HS := hide ((HS.out.x (wr' := xt (xt (xt w p) p4) p5) ⟨p5, rfl⟩).skip HNG.out)
          go_wp2_with fail
          go_roundw
          case rel => exact ⟨q + 1, l, by omega, by omega, by go_num, ⟨_, _, rfl⟩, HS, IsX.xt ⟨p4, rfl⟩ p5⟩
          case measure => simp [intOf]; omega
      · have hbe : ((a1 : Int) == (a2 : Int)) = false := by simp; omega
        have HNG : Hid (¬ goodI xs os (n1 + 1) q) := hide (fun ⟨h1, h2, h3, h4⟩ => by
          apply hab
          have h3' : seatI xs os[q] = seatI xs os[q + n1] := h3
          rw [← HXX.out, ← HYY.out, ← HA1.out, ← HA2.out] at h3'
          exact h3')
        clear hab
        go_wp2_with fail
        refine wp_region_x (by kernel_rfl) (by kernel_rfl) ?_
        repeat (go_big_quiet_step (fail))
        refine wpQuiet_nil ?_
        rintro _ ⟨p5, rfl⟩
        replace HS := hide ((HS.out.x (wr' := xt (xt (xt w p) p4) p5) ⟨p5, rfl⟩).skip HNG.out)
        go_wp2_with fail
        go_roundw
        case rel => exact ⟨q + 1, l, by omega, by omega, by go_num, ⟨_, _, rfl⟩, HS, IsX.xt ⟨p4, rfl⟩ p5⟩
        case measure => simp [intOf]; omega
    · have hend : os.length < q + (n1 + 1) := by have := HL.out; omega
      have HE := hide hend
      clear hend
      go_wp2_with fail
      go_ret
      obtain ⟨hln, hat⟩ := (show BlkSt xs (openTo ps m) (n1 + 1) (xt w p) (xt (xt w p) p2) _ l q from HOS.out ▸ HS.out).final hc HM.out (by omega) (HOS.out ▸ HE.out)
      exact ⟨_, _, by rw [← hln]; rfl, IsX.trans ⟨p, rfl⟩ ⟨p2, rfl⟩, hat.mono (size_xt w p)⟩


end Go.Proofs.YtfcfgkkkepifhaaGreatDoor
