/- The copies, sizes and comparisons of a list of Ring. Conditions: strings no longer than 2^63 - 1 bytes, lists no longer than 2^40. -/
import Derived.Test.YtadmpefbpklibaaDoorProg
import Derived.Test.YtadmpefbpklibaaDoorBase
import Derived.Lib.Strings
import Derived.Test.YtadmpefbpklibaaDoorOpen
namespace Go.Proofs.YtadmpefbpklibaaDoor
set_option linter.unusedVariables false
open Go.RowKit Go.ChangeShapes

structure RingD where
  Radius : Int
  Count : Int
  From : Int
  Step : Int
  Price : Int
def RingD.cells (x : RingD) : List Value := [.int .i64 x.Radius, .int .i64 x.Count, .int .i64 x.From, .int .i64 x.Step, .int .i64 x.Price]
theorem RingD.cells_len (x : RingD) : x.cells.length = 5 := rfl
def RingD.wf (x : RingD) : Prop := (-9223372036854775808 ≤ x.Radius ∧ x.Radius ≤ 9223372036854775807) ∧ (-9223372036854775808 ≤ x.Count ∧ x.Count ≤ 9223372036854775807) ∧ (-9223372036854775808 ≤ x.From ∧ x.From ≤ 9223372036854775807) ∧ (-9223372036854775808 ≤ x.Step ∧ x.Step ≤ 9223372036854775807) ∧ (-9223372036854775808 ≤ x.Price ∧ x.Price ≤ 9223372036854775807)
theorem RingD.rd {w : World} {A : Option Addr} {xs : List RingD} (h : Rd RingD.cells 5 w A xs) {i : Nat} {x : RingD} (hx : xs[i]? = some x) :
    ∃ b off, A = some ⟨b, off, none⟩ ∧ b < w.heap.size ∧ w.cell? ⟨b, off + i * 5, none⟩ = some (.int .i64 x.Radius) ∧ w.cell? ⟨b, off + i * 5 + 1, none⟩ = some (.int .i64 x.Count) ∧ w.cell? ⟨b, off + i * 5 + 2, none⟩ = some (.int .i64 x.From) ∧ w.cell? ⟨b, off + i * 5 + 3, none⟩ = some (.int .i64 x.Step) ∧ w.cell? ⟨b, off + i * 5 + 4, none⟩ = some (.int .i64 x.Price) := by
  obtain ⟨b, off, e, hb, hc⟩ := h i x hx
  exact ⟨b, off, e, hb, hc 0 _ rfl, hc 1 _ rfl, hc 2 _ rfl, hc 3 _ rfl, hc 4 _ rfl⟩

theorem c_toRing (x : RingD) (w : World) : Calls Tryd.prog 23 #[.agg #[.int .i64 x.Radius, .int .i64 x.Count, .int .i64 x.From, .int .i64 x.Step, .int .i64 x.Price]] w fun e w' => e = .returned (.agg #[.int .i64 x.Radius, .int .i64 x.Count, .int .i64 x.From, .int .i64 x.Step, .int .i64 x.Price]) ∧ IsX w w' := by
  go_enter Tryd.func23, Tryd.ntmps23
  go_wp2
  exact bodyPost_ret (v := .agg #[.int .i64 x.Radius, .int .i64 x.Count, .int .i64 x.From, .int .i64 x.Step, .int .i64 x.Price]) (by simp [results, Tryd.results23, go_sem]) rfl ⟨rfl, ((((IsX.refl _).alloc _).alloc _).alloc _)⟩

theorem c_eqRing (x : RingD) (w : World) : Calls Tryd.prog 28 #[.agg #[.int .i64 x.Radius, .int .i64 x.Count, .int .i64 x.From, .int .i64 x.Step, .int .i64 x.Price], .agg #[.int .i64 x.Radius, .int .i64 x.Count, .int .i64 x.From, .int .i64 x.Step, .int .i64 x.Price]] w fun e w' => e = .returned (.bool true) ∧ IsX w w' := by
  go_enter Tryd.func28, Tryd.ntmps28
  go_wp2
  go_ret
  exact ⟨rfl, ((IsX.refl _).alloc _).alloc _⟩

theorem open_Ring {H : Type} {enc : TypeId × Value → H} {w : World} {base : Nat} {spare : Nat → Bool} {held : Bool} (cs : List Value) (n : Nat) (y : DataW H × List MemPlace) (hl : cs.length = 5) (h : DataW.trod enc Tryd.prog w base spare held n 53 cs = some y) :
    ∃ x : RingD, x.wf ∧ x.cells = cs := by
  have hf := open_fields Tryd.underlying53 (by kernel_rfl) (by rw [hl]; rfl) h
  obtain ⟨v0, m0, z0, e0, g0⟩ := hf 0 _ rfl
  obtain ⟨v1, m1, z1, e1, g1⟩ := hf 1 _ rfl
  obtain ⟨v2, m2, z2, e2, g2⟩ := hf 2 _ rfl
  obtain ⟨v3, m3, z3, e3, g3⟩ := hf 3 _ rfl
  obtain ⟨v4, m4, z4, e4, g4⟩ := hf 4 _ rfl
  obtain ⟨x0, rfl, b0, t0⟩ := field_int Tryd.underlying2 g0
  obtain ⟨x1, rfl, b1, t1⟩ := field_int Tryd.underlying2 g1
  obtain ⟨x2, rfl, b2, t2⟩ := field_int Tryd.underlying2 g2
  obtain ⟨x3, rfl, b3, t3⟩ := field_int Tryd.underlying2 g3
  obtain ⟨x4, rfl, b4, t4⟩ := field_int Tryd.underlying2 g4
  refine ⟨⟨x0, x1, x2, x3, x4⟩, ⟨⟨b0, t0⟩, ⟨b1, t1⟩, ⟨b2, t2⟩, ⟨b3, t3⟩, ⟨b4, t4⟩⟩, ?_⟩
  apply List.ext_getElem?
  intro j
  rcases j with _ | _ | _ | _ | _ | j
  · exact e0.symm
  · exact e1.symm
  · exact e2.symm
  · exact e3.symm
  · exact e4.symm
  · rw [List.getElem?_eq_none (by simp [RingD.cells]), List.getElem?_eq_none (by omega)]
theorem open_RingS {H : Type} {enc : TypeId × Value → H} {w : World} {base : Nat} {spare : Nat → Bool} {held : Bool} {fuel : Nat} {cs : List Value} {x : DataW H × List MemPlace} (h : DataW.trod enc Tryd.prog w base spare held fuel 24 cs = some x) :
    ∃ (A : Option Addr) (cap : Nat) (xs : List RingD), cs = [.slice A xs.length cap] ∧ xs.length ≤ cap ∧ cap ≤ maxLen ∧ (∀ x ∈ xs, x.wf) ∧ Rd RingD.cells 5 w A xs :=
  open_list RingD.cells RingD.wf Tryd.underlying24 (by kernel_rfl) (by omega) RingD.cells_len (fun cs' m y hl h => open_Ring cs' m y hl h) h

theorem c_szRingS (A : Option Addr) (n c : Nat) (left : Int) (w : World) (hn : n ≤ maxLen) (h0 : 0 ≤ left) (h1 : left ≤ 1099511627776) :
    Calls Tryd.prog 6 #[.slice A n c, .int .i64 left] w (SzPost left n w) := by
  unfold maxLen at hn
  by_cases hl : left - n < 0
  · go_enter Tryd.func6, Tryd.ntmps6
    go_wp2
    go_ret
    exact ⟨-1, rfl, by omega, by omega, by omega, IsX.refl _⟩
  · go_enter Tryd.func6, Tryd.ntmps6
    go_wp2
    go_ret
    exact ⟨left - n, rfl, by omega, by omega, by omega, IsX.refl _⟩

theorem Ring_info : (Tryd.prog.info? 51).map (fun i => (i.zero, i.size, i.bytes)) = some (some (.agg #[.int .i64 0, .int .i64 0, .int .i64 0, .int .i64 0, .int .i64 0]), 5, 40) := by kernel_rfl
set_option maxHeartbeats 400000 in
theorem c_toRingS (A : Option Addr) (c : Nat) (xs : List RingD) (w : World) (hn : xs.length ≤ 1099511627776) (hA : Rd RingD.cells 5 w A xs) :
    Calls Tryd.prog 9 #[.slice A xs.length c] w fun e w' => ∃ g, e = .returned (.slice (some ⟨g, 0, none⟩) xs.length xs.length) ∧ w.heap.size ≤ g ∧ Blk w' g 51 (xs.flatMap RingD.cells).toArray ∧ IsX w w' := by
  obtain ⟨i0, hi0, hz0, hz1, hz2⟩ := info_parts Ring_info
  obtain ⟨n, hnn⟩ : ∃ n, n = xs.length := ⟨_, rfl⟩
  have HN := hide hnn
  rw [← hnn] at hn ⊢
  clear hnn
  have hmk := fun W => run_make_rowN (P := Tryd.prog) 31 51 i0 _ Tryd.underlying31 hi0 hz0 .i64 .i64 n n (Nat.le_refl _) (by rw [hz2]; omega) (by omega) W
  rw [hz1] at hmk
  clear hz0 hz1 hz2 hi0
  go_enter Tryd.func9, Tryd.ntmps9
  go_wp2
  go_loopw [4] (fun i wr => ∃ k : Nat, k ≤ n ∧ i = .int .i64 k ∧ Filled RingD.cells 5 51 w wr w.heap.size xs k) (fun i _ => n - (intOf i).toNat)
  case atStart => exact ⟨0, Nat.zero_le _, rfl, Filled.start w (IsX.refl _) _ (by rw [← HN.out]; exact size_madeCells _ _)⟩
  case round =>
    obtain ⟨k, hk, rfl, hrel⟩ := hrel
    obtain ⟨⟨p, rfl⟩, cur, hB, hcs, hcur⟩ := hrel
    by_cases hlt : k < n
    · obtain ⟨b, off, rfl, hb, c0, c1, c2, c3, c4⟩ := RingD.rd hA (show xs[k]? = some (xs[k]'(HN.out ▸ hlt)) from List.getElem?_eq_getElem _)
      go_wp2_with (go_at_call 23; refine (c_toRing xs[k] _).mono ?_; rintro e w1 ⟨rfl, hx1⟩; have hB1 := hB.x hx1; clear hB; obtain ⟨v0, s0⟩ := hB1.has (i := k * 5) (by rw [hcs, ← HN.out]; omega); have z0 := hB1.frozen (k * 5); obtain ⟨v1, s1⟩ := hB1.has (i := k * 5 + 1) (by rw [hcs, ← HN.out]; omega); have z1 := hB1.frozen (k * 5 + 1); obtain ⟨v2, s2⟩ := hB1.has (i := k * 5 + 2) (by rw [hcs, ← HN.out]; omega); have z2 := hB1.frozen (k * 5 + 2); obtain ⟨v3, s3⟩ := hB1.has (i := k * 5 + 3) (by rw [hcs, ← HN.out]; omega); have z3 := hB1.frozen (k * 5 + 3); obtain ⟨v4, s4⟩ := hB1.has (i := k * 5 + 4) (by rw [hcs, ← HN.out]; omega); have z4 := hB1.frozen (k * 5 + 4))
      go_roundw
      case rel => exact ⟨k + 1, by omega, by go_num, Filled.step (cells := RingD.cells) (x := xs[k]'(HN.out ▸ hlt)) hB1 hcs hcur (List.getElem?_eq_getElem _) RingD.cells_len (IsX.trans ⟨p, rfl⟩ hx1) (Nat.le_refl _)⟩
      case measure => simp [intOf]; omega
    · obtain rfl : k = n := by omega
      go_wp2
      go_ret
      exact ⟨w.heap.size, rfl, Nat.le_refl _, Filled.done (HN.out ▸ ⟨⟨p, rfl⟩, cur, hB, hcs, hcur⟩) RingD.cells_len⟩

set_option maxHeartbeats 400000 in
theorem c_eqRingS (A A' : Option Addr) (c c' : Nat) (xs : List RingD) (w : World) (hn : xs.length ≤ 1099511627776) (hA : Rd RingD.cells 5 w A xs) (hA' : Rd RingD.cells 5 w A' xs) :
    Calls Tryd.prog 11 #[.slice A xs.length c, .slice A' xs.length c'] w fun e w' => e = .returned (.bool true) ∧ IsX w w' := by
  obtain ⟨n, hnn⟩ : ∃ n, n = xs.length := ⟨_, rfl⟩
  have HN := hide hnn
  rw [← hnn] at hn ⊢
  clear hnn
  go_enter Tryd.func11, Tryd.ntmps11
  go_wp2
  go_loopw [5] (fun i wr => ∃ k : Nat, k ≤ n ∧ i = .int .i64 k ∧ IsX w wr) (fun i _ => n - (intOf i).toNat)
  case atStart => exact ⟨0, Nat.zero_le _, rfl, IsX.refl _⟩
  case round =>
    obtain ⟨k, hk, rfl, p, rfl⟩ := hrel
    by_cases hlt : k < n
    · obtain ⟨b, off, rfl, hb, c0, c1, c2, c3, c4⟩ := RingD.rd hA (show xs[k]? = some (xs[k]'(HN.out ▸ hlt)) from List.getElem?_eq_getElem _)
      obtain ⟨b', off', rfl, hb', d0, d1, d2, d3, d4⟩ := RingD.rd hA' (show xs[k]? = some (xs[k]'(HN.out ▸ hlt)) from List.getElem?_eq_getElem _)
      clear hA hA'
      go_wp2
      refine wp_region_x (by kernel_rfl) (by kernel_rfl) ?_
      repeat (quiet_step ((go_at_call 28; exact call_x (c_eqRing xs[k] _))))
      refine wpQuiet_nil ?_
      rintro _ ⟨q, rfl⟩
      go_wp2
      go_roundw
      case rel => exact ⟨k + 1, by omega, by go_num, IsX.xt ⟨p, rfl⟩ q⟩
      case measure => simp [intOf]; omega
    · obtain rfl : k = n := by omega
      go_wp2
      go_ret
      exact ⟨rfl, ⟨p, rfl⟩⟩

end Go.Proofs.YtadmpefbpklibaaDoor
