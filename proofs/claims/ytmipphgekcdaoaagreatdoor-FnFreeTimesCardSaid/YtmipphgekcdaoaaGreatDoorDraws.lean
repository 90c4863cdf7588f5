/- Choices that are read from bytes: what the functions answer, up to which choice. Conditions: fewer than 2^40 choices. -/
import Derived.Test.YtmipphgekcdaoaaGreatDoorLInt64
import Derived.Test.YtmipphgekcdaoaaGreatDoorMarks
import Derived.Test.YtmipphgekcdaoaaGreatDoorFrame
import Derived.Laws.Bits64b
import Derived.Test.YtmipphgekcdaoaaGreatDoorSearch
namespace Go.Proofs.YtmipphgekcdaoaaGreatDoor
set_option linter.unusedVariables false
open Go.RowKit Go.ChangeShapes

def byteC (x : Int) : List Value := [.int .u8 x]
theorem byteC_len (x : Int) : (byteC x).length = 1 := rfl
def byteWf (x : Int) : Prop := 0 ≤ x ∧ x ≤ 255
theorem byte_rd {w : World} {A : Option Addr} {xs : List Int} (h : Rd byteC 1 w A xs) {i : Nat} {x : Int} (hx : xs[i]? = some x) :
    ∃ b off, A = some ⟨b, off, none⟩ ∧ b < w.heap.size ∧ w.cell? ⟨b, off + i, none⟩ = some (.int .u8 x) := by
  obtain ⟨b, off, e, hb, hc⟩ := h i x hx
  have := hc 0 _ rfl
  rw [Nat.mul_one, Nat.add_zero] at this
  exact ⟨b, off, e, hb, this⟩
theorem field_u8 {H : Type} {enc : TypeId × Value → H} {P : Program} {w : World} {base : Nat} {spare : Nat → Bool} {held : Bool} {t : TypeId} {v : Value} {n : Nat} {y : DataW H × List MemPlace} (ht : P.underlying t = some (.int .u8)) (h : DataW.trod enc P w base spare held n t [v] = some y) :
    ∃ z : Int, v = .int .u8 z ∧ 0 ≤ z ∧ z ≤ 255 := by
  obtain ⟨z, hs, _, hz⟩ := DataW.trod_int ht h
  simp at hs
  exact ⟨z, hs, Go.bounds_u8 hz⟩
theorem open_bytes' {H : Type} {enc : TypeId × Value → H} {w : World} {base : Nat} {spare : Nat → Bool} {held : Bool} {fuel : Nat} {cs : List Value} {x : DataW H × List MemPlace} (h : DataW.trod enc Tryz.prog w base spare held fuel 22 cs = some x) :
    ∃ (A : Option Addr) (cap : Nat) (xs : List Int), cs = [.slice A xs.length cap] ∧ xs.length ≤ cap ∧ cap ≤ maxLen ∧ (∀ x ∈ xs, byteWf x) ∧ Rd byteC 1 w A xs :=
  open_list byteC byteWf Tryz.underlying22 (by kernel_rfl) (by omega) byteC_len (fun cs' m y hl h => by
    match cs', hl with
    | [c], _ =>
      obtain ⟨z, rfl, h1, h2⟩ := field_u8 Tryz.underlying5 h
      exact ⟨z, ⟨h1, h2⟩, rfl⟩) h

/-- the bytes lie where the struct says, and not in its own block; fewer than N choices have been read -/
def SrcAt (X : Nat) (N : Int) (w : World) : Prop := ∃ (A : Option Addr) (c : Nat) (xs : List Int) (at_ seed : Int), Blk w X 66 #[.slice A xs.length c, .int .i64 at_, .int .u64 seed] ∧ 0 ≤ at_ ∧ at_ ≤ N ∧ xs.length ≤ 1099511627776 ∧ (∀ x ∈ xs, byteWf x) ∧ Rd byteC 1 w A xs ∧ (xs ≠ [] → ∀ b off, A = some ⟨b, off, none⟩ → b < X) ∧ 0 ≤ seed ∧ seed ≤ 18446744073709551615
theorem SrcAt.x {X : Nat} {N : Int} {w w' : World} (h : SrcAt X N w) (hx : IsX w w') : SrcAt X N w' := by
  obtain ⟨A, c, xs, a, s, h1, h2, h3, h4, h5, h6, h7, h8⟩ := h
  exact ⟨A, c, xs, a, s, h1.x hx, h2, h3, h4, h5, h6.x hx, h7, h8⟩
theorem SrcAt.le {X : Nat} {N M : Int} {w : World} (h : SrcAt X N w) (hm : N ≤ M) : SrcAt X M w := by
  obtain ⟨A, c, xs, a, s, h1, h2, h3, h4⟩ := h
  exact ⟨A, c, xs, a, s, h1, h2, by omega, h4⟩
theorem SrcAt.lt {X : Nat} {N : Int} {w : World} (h : SrcAt X N w) : X < w.heap.size := by
  obtain ⟨A, c, xs, a, s, h1, _⟩ := h
  exact h1.lt
theorem Rd.grX {α : Type} {cells : α → List Value} {k : Nat} {A : Option Addr} {xs : List α} {w w1 : World} {X : Nat} (h : Rd cells k w A xs) (ho : xs ≠ [] → ∀ b off, A = some ⟨b, off, none⟩ → b ≠ X) (hg : w.grownBy w1 (some X)) : Rd cells k w1 A xs := fun i x hi => by
  obtain ⟨b, off, e, hb, hc⟩ := h i x hi
  have h2 := ho (by intro e; rw [e] at hi; simp at hi) b off e
  exact ⟨b, off, e, Nat.lt_of_lt_of_le hb hg.size, fun j u hu => (World.cell?_of_block (a := ⟨b, off + i * k + j, none⟩) (hg.block b hb (fun e => h2 (by injection e)))).trans (hc j u hu)⟩
/-- a choice: a number, and what it leaves -/
def PickQ (X : Nat) (N : Int) (w : World) (lo hi : Int) (e : Ending) (w' : World) : Prop := ∃ v : Int, e = .returned (.int .i64 v) ∧ lo ≤ v ∧ v ≤ hi ∧ w.grownBy w' (some X) ∧ SrcAt X N w'
def OneQ (X : Nat) (N : Int) (w : World) (e : Ending) (w' : World) : Prop := ∃ v : Bool, e = .returned (.bool v) ∧ w.grownBy w' (some X) ∧ SrcAt X N w'
theorem and_255 (x : Int) (h0 : 0 ≤ x) (h1 : x ≤ 18446744073709551615) : 0 ≤ bits BinOp.and IntKind.u64 x 255 ∧ bits BinOp.and IntKind.u64 x 255 ≤ 255 := by
  obtain ⟨m, rfl⟩ := Int.eq_ofNat_of_zero_le h0
  rw [show (255 : Int) = ((255 : Nat) : Int) from rfl, bits_and_u64_nat _ _ (by omega) (by omega)]
  have := Nat.and_le_right (n := m) (m := 255)
  omega
theorem u64_bd (x : Int) : 0 ≤ IntKind.u64.wrap x ∧ IntKind.u64.wrap x ≤ 18446744073709551615 := by
  simp [IntKind.wrap, IntKind.bits, IntKind.signed]; omega

set_option maxHeartbeats 1600000 in
set_option maxRecDepth 100000 in
theorem c_next (X : Nat) (N : Int) (w : World) (hN : N ≤ 1099511627776) (hs : SrcAt X N w) : Calls Tryz.prog 51 #[.pointer (some ⟨X, 0, none⟩)] w (PickQ X (N + 1) w 0 255) := by
  obtain ⟨A, c, xs, at_, seed, hX, ha0, haN, hn, hb, hR, ho, hs0, hs1⟩ := hs
  obtain ⟨n, hnn⟩ : ∃ n, n = xs.length := ⟨_, rfl⟩
  have HN := hide hnn
  rw [← hnn] at hX hn
  clear hnn
  have HX := hide hX
  have HR := hide hR
  have HO := hide ho
  have HB := hide hb
  have hlb := hX.lt
  have d0 := hX.cell 0
  have d1 := hX.cell 1
  have d2 := hX.cell 2
  simp at d0 d1 d2
  have f1 := hX.frozen 1
  have f2 := hX.frozen 2
  clear hX hb hR ho
  by_cases hlt : at_ < (n : Int)
  · have hltx : at_.toNat < xs.length := by have := HN.out; omega
    obtain ⟨b, off, rfl, hbl, c0⟩ := byte_rd HR.out (show xs[at_.toNat]? = some xs[at_.toNat] from List.getElem?_eq_getElem _)
    obtain ⟨v0, v1⟩ := HB.out _ (List.getElem_mem hltx)
    generalize xs[at_.toNat] = v at c0 v0 v1
    have hle : at_ + 1 ≤ (n : Int) := by omega
    go_enter Tryz.func51, Tryz.ntmps51
    go_wp2_with fail
    refine wp_region_x (by kernel_rfl) (by kernel_rfl) ?_
    repeat (go_big_quiet_step (fail))
    refine wpQuiet_nil ?_
    rintro _ ⟨q1, rfl⟩
    go_wp2_with fail
    refine wp_region_x (by kernel_rfl) (by kernel_rfl) ?_
    repeat (go_big_quiet_step (fail))
    refine wpQuiet_nil ?_
    rintro _ ⟨q2, rfl⟩
    go_wp2_with fail
    generalize hsd : IntKind.u64.wrap (_ + 1442695040888963407) = sd
    obtain ⟨sd0, sd1⟩ : 0 ≤ sd ∧ sd ≤ 18446744073709551615 := hsd ▸ u64_bd _
    have HX5 := hide ((((HX.out.x (w' := xt w q1) ⟨q1, rfl⟩).x (w' := xt (xt w q1) q2) ⟨q2, rfl⟩).set_ 1 (.int .i64 (at_ + 1))).set_ 2 (.int .u64 sd))
    have HG5 := hide (gr_set (gr_set (gr_x (gr_x (gr_refl w (some X)) (w2 := xt w q1) ⟨q1, rfl⟩) (w2 := xt (xt w q1) q2) ⟨q2, rfl⟩) 1 (.int .i64 (at_ + 1))) 2 (.int .u64 sd))
    generalize World.setCell (World.setCell _ ⟨X, 1, none⟩ (.int .i64 (at_ + 1))) ⟨X, 2, none⟩ (.int .u64 sd) = w5 at HX5 HG5 ⊢
    have HX5 : Hid (Blk w5 X 66 #[.slice (some ⟨b, off, none⟩) n c, .int .i64 (at_ + 1), .int .u64 sd]) := hide (by simpa using HX5.out)
    have HR5 := hide (HR.out.grX (fun hne b off e => by have := HO.out hne b off e; omega) HG5.out)
    have HAT : Hid (SrcAt X (N + 1) w5) := hide ⟨_, c, xs, at_ + 1, sd, by rw [← HN.out]; exact HX5.out, by omega, by omega, by rw [← HN.out]; exact hn, HB.out, HR5.out, HO.out, sd0, sd1⟩
    clear hsd d0 d1 d2 f1 f2 hlb HX HR HO HB
    have d0 := HX5.out.cell 0
    have d1 := HX5.out.cell 1
    have d2 := HX5.out.cell 2
    simp at d0 d1 d2
    have hlb := HX5.out.lt
    refine wp_region_x (by kernel_rfl) (by kernel_rfl) ?_
    repeat (go_big_quiet_step (fail))
    refine wpQuiet_nil ?_
    rintro _ ⟨q3, rfl⟩
    go_wp2_with fail
    go_ret
    exact ⟨v, rfl, v0, v1, gr_x HG5.out ⟨q3, rfl⟩, HAT.out.x ⟨q3, rfl⟩⟩
  · have hle : ¬ at_ + 1 ≤ (n : Int) := by omega
    go_enter Tryz.func51, Tryz.ntmps51
    go_wp2_with fail
    refine wp_region_x (by kernel_rfl) (by kernel_rfl) ?_
    repeat (go_big_quiet_step (fail))
    refine wpQuiet_nil ?_
    rintro _ ⟨q1, rfl⟩
    go_wp2_with fail
    generalize hsd : IntKind.u64.wrap (_ + 1442695040888963407) = sd
    obtain ⟨sd0, sd1⟩ : 0 ≤ sd ∧ sd ≤ 18446744073709551615 := hsd ▸ u64_bd _
    have HX5 := hide ((((HX.out.x (w' := xt w q1) ⟨q1, rfl⟩)).set_ 1 (.int .i64 (at_ + 1))).set_ 2 (.int .u64 sd))
    have HG5 := hide (gr_set (gr_set (gr_x (gr_refl w (some X)) (w2 := xt w q1) ⟨q1, rfl⟩) 1 (.int .i64 (at_ + 1))) 2 (.int .u64 sd))
    generalize World.setCell (World.setCell _ ⟨X, 1, none⟩ (.int .i64 (at_ + 1))) ⟨X, 2, none⟩ (.int .u64 sd) = w5 at HX5 HG5 ⊢
    have HX5 : Hid (Blk w5 X 66 #[.slice A n c, .int .i64 (at_ + 1), .int .u64 sd]) := hide (by simpa using HX5.out)
    have HR5 := hide (HR.out.grX (fun hne b off e => by have := HO.out hne b off e; omega) HG5.out)
    have HAT : Hid (SrcAt X (N + 1) w5) := hide ⟨_, c, xs, at_ + 1, sd, by rw [← HN.out]; exact HX5.out, by omega, by omega, by rw [← HN.out]; exact hn, HB.out, HR5.out, HO.out, sd0, sd1⟩
    clear hsd d0 d1 d2 f1 f2 hlb HX HR HO HB
    have d0 := HX5.out.cell 0
    have d1 := HX5.out.cell 1
    have d2 := HX5.out.cell 2
    simp at d0 d1 d2
    have hlb := HX5.out.lt
    refine wp_region_x (by kernel_rfl) (by kernel_rfl) ?_
    repeat (go_big_quiet_step (fail))
    refine wpQuiet_nil ?_
    rintro _ ⟨q3, rfl⟩
    go_wp2_with fail
    obtain ⟨v0, v1⟩ := and_255 (sd / 1099511627776) (by omega) (by omega)
    have HWR := hide (show RowKit.wrap64 (bits BinOp.and IntKind.u64 (sd / 1099511627776) 255) = bits BinOp.and IntKind.u64 (sd / 1099511627776) 255 from IntWalk.wrap64_in _ (by omega))
    go_ret
    exact ⟨_, by rw [HWR.out]; rfl, v0, v1, gr_x HG5.out ⟨q3, rfl⟩, HAT.out.x ⟨q3, rfl⟩⟩

theorem gr_tr {w w1 w2 : World} {row : Option Nat} (h : w.grownBy w1 row) (k : w1.grownBy w2 row) : w.grownBy w2 row := gr_trans h k
set_option maxHeartbeats 1600000 in
theorem c_pick (X : Nat) (N n : Int) (w : World) (hN : N ≤ 1099511627000) (hn : n ≤ 1000000) (hs : SrcAt X N w) : Calls Tryz.prog 37 #[.pointer (some ⟨X, 0, none⟩), .int .i64 n] w (PickQ X (N + 2) w 0 (if n ≤ 1 then 0 else n - 1)) := by
  by_cases h1 : n ≤ 1
  · rw [if_pos h1]
    go_enter Tryz.func37, Tryz.ntmps37
    go_wp2_with fail
    go_ret
    exact ⟨0, rfl, Int.le_refl _, Int.le_refl _, gr_refl _ _, hs.le (by omega)⟩
  · rw [if_neg h1]
    by_cases h2 : 200 < n
    · go_enter Tryz.func37, Tryz.ntmps37
      go_wp2_with fail
      refine (c_next X N w (by omega) hs).mono ?_
      rintro e w1 ⟨v, rfl, v0, v1, hg, hat⟩
      have HG := hide hg
      have HAT := hide hat
      clear hg hat
      go_wp2_with fail
      refine (c_next X (N + 1) w1 (by omega) HAT.out).mono ?_
      rintro e w2 ⟨v', rfl, v0', v1', hg, hat⟩
      have HG2 := hide (gr_tr HG.out hg)
      have HAT2 := hide hat
      clear hg hat
      have hm0 : 0 ≤ (v * 256 + v') % n := Int.emod_nonneg _ (by omega)
      have hm1 : (v * 256 + v') % n < n := Int.emod_lt_of_pos _ (by omega)
      have hnn : ¬ n = 0 := by omega
      go_wp2_with fail
      go_ret
      exact ⟨(v * 256 + v') % n, rfl, hm0, by omega, HG2.out, HAT2.out.le (by omega)⟩
    · go_enter Tryz.func37, Tryz.ntmps37
      go_wp2_with fail
      refine (c_next X N w (by omega) hs).mono ?_
      rintro e w1 ⟨v, rfl, v0, v1, hg, hat⟩
      have HG := hide hg
      have HAT := hide hat
      clear hg hat
      have hm0 : 0 ≤ v % n := Int.emod_nonneg _ (by omega)
      have hm1 : v % n < n := Int.emod_lt_of_pos _ (by omega)
      have hnn : ¬ n = 0 := by omega
      go_wp2_with fail
      go_ret
      exact ⟨v % n, rfl, hm0, by omega, HG.out, HAT.out.le (by omega)⟩
theorem PickQ.of {X : Nat} {N M : Int} {w w' : World} {lo hi lo' hi' : Int} {e : Ending} (h : PickQ X N w lo hi e w') (hN : N ≤ M) (hl : lo' ≤ lo) (hh : hi ≤ hi') : PickQ X M w lo' hi' e w' := by
  obtain ⟨v, h1, h2, h3, h4, h5⟩ := h
  exact ⟨v, h1, by omega, by omega, h4, h5.le hN⟩
theorem c_one (X : Nat) (N n : Int) (w : World) (hN : N ≤ 1099511627000) (hn : n ≤ 1000000) (hs : SrcAt X N w) : Calls Tryz.prog 36 #[.pointer (some ⟨X, 0, none⟩), .int .i64 n] w (OneQ X (N + 2) w) := by
  go_enter Tryz.func36, Tryz.ntmps36
  go_wp2_with fail
  refine (c_pick X N n w hN hn hs).mono ?_
  rintro e w1 ⟨v, rfl, v0, v1, hg, hat⟩
  go_wp2_with fail
  go_ret
  exact ⟨_, rfl, hg, hat⟩
set_option maxHeartbeats 800000 in
theorem c_among (X : Nat) (N lo hi : Int) (A : Option Addr) (c : Nat) (zs : List Int) (w : World) (hN : N ≤ 1099511627000) (hz : zs ≠ []) (hz2 : zs.length ≤ 1000) (hb : ∀ z ∈ zs, lo ≤ z ∧ z ≤ hi) (hA : Rd intC 1 w A zs) (ho : ∀ b off, A = some ⟨b, off, none⟩ → b ≠ X) (hs : SrcAt X N w) :
    Calls Tryz.prog 18 #[.pointer (some ⟨X, 0, none⟩), .slice A zs.length c] w (PickQ X (N + 2) w lo hi) := by
  obtain ⟨n, hnn⟩ : ∃ n, n = zs.length := ⟨_, rfl⟩
  have hn0 : 0 < n := by rw [hnn]; exact Nat.pos_of_ne_zero (fun h => hz (List.eq_nil_of_length_eq_zero h))
  have HN := hide hnn
  rw [← hnn] at hz2 ⊢
  clear hnn
  go_enter Tryz.func18, Tryz.ntmps18
  go_wp2_with fail
  refine (c_pick X N n w hN (by omega) hs).mono ?_
  rintro e w1 ⟨v, rfl, v0, v1, hg, hat⟩
  have hv1 : v < (n : Int) := by split at v1 <;> omega
  have hvx : v.toNat < zs.length := by rw [← HN.out]; omega
  obtain ⟨b, off, rfl, hbl, c0⟩ := int_rd (hA.grX (fun _ => ho) hg) (show zs[v.toNat]? = some zs[v.toNat] from List.getElem?_eq_getElem _)
  obtain ⟨z0, z1⟩ := hb _ (List.getElem_mem hvx)
  have HG := hide hg
  have HAT := hide hat
  generalize zs[v.toNat] = z at c0 z0 z1
  clear hg hat v1 hA
  go_wp2_with fail
  go_ret
  exact ⟨z, rfl, z0, z1, HG.out, HAT.out⟩
theorem rd_lt {w : World} {A : Option Addr} {xs : List Int} (h : Rd byteC 1 w A xs) (hne : xs ≠ []) : ∀ b off, A = some ⟨b, off, none⟩ → b < w.heap.size := fun b off e => by
  have h0 : 0 < xs.length := Nat.pos_of_ne_zero (fun h => hne (List.eq_nil_of_length_eq_zero h))
  obtain ⟨b', off', e', hb', _⟩ := h 0 _ (List.getElem?_eq_getElem h0)
  rw [e] at e'
  injection e' with e'
  injection e' with e1 e2
  omega
theorem c_l00From (A : Option Addr) (c : Nat) (xs : List Int) (w : World) (hn : xs.length ≤ 1099511627776) (hb : ∀ x ∈ xs, byteWf x) (hA : Rd byteC 1 w A xs) :
    Calls Tryz.prog 15 #[.slice A xs.length c] w fun e w' => e = .returned (.pointer (some ⟨w.heap.size, 0, none⟩)) ∧ SrcAt w.heap.size 0 w' ∧ IsX w w' := by
  obtain ⟨n, hnn⟩ : ∃ n, n = xs.length := ⟨_, rfl⟩
  rw [← hnn]
  go_enter Tryz.func15, Tryz.ntmps15
  go_wp2_with fail
  go_ret
  refine ⟨rfl, ⟨A, c, xs, 0, 0, ?_, Int.le_refl _, Int.le_refl _, hn, hb, hA.x ((IsX.refl w).alloc _), rd_lt hA, Int.le_refl _, by omega⟩, (IsX.refl w).alloc _⟩
  rw [← hnn]
  exact Blk.new w _ _

end Go.Proofs.YtmipphgekcdaoaaGreatDoor
