/- The copies, sizes and comparisons of a list of Remark. Conditions: strings no longer than 2^63 - 1 bytes, lists no longer than 2^40. -/
import Derived.Test.YtfkhhioadklomaaProg
import Derived.Test.YtfkhhioadklomaaBase
import Derived.Lib.Strings
import Derived.Test.YtfkhhioadklomaaOpen
namespace Go.Proofs.Ytfkhhioadklomaa
set_option linter.unusedVariables false
open Go.RowKit Go.ChangeShapes

structure RemarkD where
  Number : Int
  Who : ByteArray
  Cue : ByteArray
  Done : Bool
def RemarkD.cells (x : RemarkD) : List Value := [.int .i64 x.Number, .string x.Who, .string x.Cue, .bool x.Done]
theorem RemarkD.cells_len (x : RemarkD) : x.cells.length = 4 := rfl
def RemarkD.wf (x : RemarkD) : Prop := (-9223372036854775808 ≤ x.Number ∧ x.Number ≤ 9223372036854775807) ∧ x.Who.size ≤ maxLen ∧ x.Cue.size ≤ maxLen
theorem RemarkD.rd {w : World} {A : Option Addr} {xs : List RemarkD} (h : Rd RemarkD.cells 4 w A xs) {i : Nat} {x : RemarkD} (hx : xs[i]? = some x) :
    ∃ b off, A = some ⟨b, off, none⟩ ∧ b < w.heap.size ∧ w.cell? ⟨b, off + i * 4, none⟩ = some (.int .i64 x.Number) ∧ w.cell? ⟨b, off + i * 4 + 1, none⟩ = some (.string x.Who) ∧ w.cell? ⟨b, off + i * 4 + 2, none⟩ = some (.string x.Cue) ∧ w.cell? ⟨b, off + i * 4 + 3, none⟩ = some (.bool x.Done) := by
  obtain ⟨b, off, e, hb, hc⟩ := h i x hx
  exact ⟨b, off, e, hb, hc 0 _ rfl, hc 1 _ rfl, hc 2 _ rfl, hc 3 _ rfl⟩

theorem c_toRemark (x : RemarkD) (w : World) : Calls Try.prog 90 #[.agg #[.int .i64 x.Number, .string x.Who, .string x.Cue, .bool x.Done]] w fun e w' => e = .returned (.agg #[.int .i64 x.Number, .string x.Who, .string x.Cue, .bool x.Done]) ∧ IsX w w' := by
  go_enter Try.func90, Try.ntmps90
  go_wp2
  exact bodyPost_ret (v := .agg #[.int .i64 x.Number, .string x.Who, .string x.Cue, .bool x.Done]) (by simp [results, Try.results90, go_sem]) rfl ⟨rfl, ((((IsX.refl _).alloc _).alloc _).alloc _)⟩

theorem c_eqRemark (x : RemarkD) (w : World) : Calls Try.prog 91 #[.agg #[.int .i64 x.Number, .string x.Who, .string x.Cue, .bool x.Done], .agg #[.int .i64 x.Number, .string x.Who, .string x.Cue, .bool x.Done]] w fun e w' => e = .returned (.bool true) ∧ IsX w w' := by
  go_enter Try.func91, Try.ntmps91
  go_wp2
  go_ret
  exact ⟨rfl, ((IsX.refl _).alloc _).alloc _⟩

theorem open_Remark {H : Type} {enc : TypeId × Value → H} {w : World} {base : Nat} {spare : Nat → Bool} {held : Bool} (cs : List Value) (n : Nat) (y : DataW H × List MemPlace) (hl : cs.length = 4) (h : DataW.trod enc Try.prog w base spare held n 124 cs = some y) :
    ∃ x : RemarkD, x.wf ∧ x.cells = cs := by
  have hf := open_fields Try.underlying124 (by kernel_rfl) (by rw [hl]; rfl) h
  obtain ⟨v0, m0, z0, e0, g0⟩ := hf 0 _ rfl
  obtain ⟨v1, m1, z1, e1, g1⟩ := hf 1 _ rfl
  obtain ⟨v2, m2, z2, e2, g2⟩ := hf 2 _ rfl
  obtain ⟨v3, m3, z3, e3, g3⟩ := hf 3 _ rfl
  obtain ⟨x0, rfl, b0, t0⟩ := field_int Try.underlying2 g0
  obtain ⟨x1, rfl, b1⟩ := field_string Try.underlying9 g1
  obtain ⟨x2, rfl, b2⟩ := field_string Try.underlying9 g2
  obtain ⟨x3, rfl⟩ := field_bool Try.underlying4 g3
  refine ⟨⟨x0, x1, x2, x3⟩, ⟨⟨b0, t0⟩, b1, b2⟩, ?_⟩
  apply List.ext_getElem?
  intro j
  rcases j with _ | _ | _ | _ | j
  · exact e0.symm
  · exact e1.symm
  · exact e2.symm
  · exact e3.symm
  · rw [List.getElem?_eq_none (by simp [RemarkD.cells]), List.getElem?_eq_none (by omega)]
theorem open_RemarkS {H : Type} {enc : TypeId × Value → H} {w : World} {base : Nat} {spare : Nat → Bool} {held : Bool} {fuel : Nat} {cs : List Value} {x : DataW H × List MemPlace} (h : DataW.trod enc Try.prog w base spare held fuel 79 cs = some x) :
    ∃ (A : Option Addr) (cap : Nat) (xs : List RemarkD), cs = [.slice A xs.length cap] ∧ xs.length ≤ cap ∧ cap ≤ maxLen ∧ (∀ x ∈ xs, x.wf) ∧ Rd RemarkD.cells 4 w A xs :=
  open_list RemarkD.cells RemarkD.wf Try.underlying79 (by kernel_rfl) (by omega) RemarkD.cells_len (fun cs' m y hl h => open_Remark cs' m y hl h) h

set_option maxHeartbeats 400000 in
theorem c_szRemark (x : RemarkD) (left : Int) (w : World) (hx : x.wf) (h0 : 0 ≤ left) (h1 : left ≤ 1099511627776) : Calls Try.prog 88 #[.agg #[.int .i64 x.Number, .string x.Who, .string x.Cue, .bool x.Done], .int .i64 left] w (SzPost left 0 w) := by
  have HX := hide hx
  clear hx
  have b0 : x.Who.size ≤ 9223372036854775807 := by have := HX.out; simp only [RemarkD.wf, maxLen] at this; omega
  have b1 : x.Cue.size ≤ 9223372036854775807 := by have := HX.out; simp only [RemarkD.wf, maxLen] at this; omega
  go_enter Try.func88, Try.ntmps88
  go_wp2
  all_goals
    go_ret
    exact ⟨_, rfl, by omega, by omega, by omega, (IsX.refl _).alloc _⟩

set_option maxHeartbeats 400000 in
theorem c_szRemarkS (A : Option Addr) (c : Nat) (xs : List RemarkD) (left : Int) (w : World) (hn : xs.length ≤ maxLen) (hw : ∀ x ∈ xs, x.wf) (h0 : 0 ≤ left) (h1 : left ≤ 1099511627776) (hA : Rd RemarkD.cells 4 w A xs) :
    Calls Try.prog 72 #[.slice A xs.length c, .int .i64 left] w (SzPost left xs.length w) := by
  obtain ⟨n, hnn⟩ : ∃ n, n = xs.length := ⟨_, rfl⟩
  have HN := hide hnn
  rw [← hnn] at hn ⊢
  clear hnn
  have HW := hide hw
  clear hw
  unfold maxLen at hn
  by_cases hl : left - n < 0
  · go_enter Try.func72, Try.ntmps72
    go_wp2
    go_ret
    exact ⟨-1, rfl, by omega, by omega, by omega, IsX.refl _⟩
  go_enter Try.func72, Try.ntmps72
  go_wp2
  go_loopw [1, 5] (fun l i wr => ∃ (k : Nat) (m : Int), k ≤ n ∧ i = .int .i64 k ∧ l = .int .i64 m ∧ 0 ≤ m ∧ m ≤ left ∧ IsX w wr) (fun _ i _ => n - (intOf i).toNat)
  case atStart => exact ⟨0, left - n, Nat.zero_le _, rfl, rfl, by omega, by omega, IsX.refl _⟩
  case round =>
    obtain ⟨k, m, hk, rfl, rfl, hm0, hm1, p, rfl⟩ := hrel
    by_cases hlt : k < n
    · obtain ⟨b, off, rfl, hb, c0, c1, c2, c3⟩ := RemarkD.rd hA (show xs[k]? = some (xs[k]'(HN.out ▸ hlt)) from List.getElem?_eq_getElem _)
      clear hA
      go_wp2_with (go_at_call 88; refine (c_szRemark xs[k] _ _ (HW.out _ (List.getElem_mem _)) (by omega) (by omega)).mono ?_; rintro e w1 ⟨m1, rfl, e1, e2, e3, q, rfl⟩)
      · go_ret
        exact ⟨-1, rfl, by omega, by omega, by omega, IsX.xt ⟨p, rfl⟩ q⟩
      · go_roundw
        case rel => exact ⟨k + 1, m1, by omega, by go_num, rfl, by omega, by omega, IsX.xt ⟨p, rfl⟩ q⟩
        case measure => simp [intOf]; omega
    · go_wp2
      go_ret
      exact ⟨m, rfl, by omega, by omega, by omega, ⟨p, rfl⟩⟩

theorem Remark_info : (Try.prog.info? 107).map (fun i => (i.zero, i.size, i.bytes)) = some (some (.agg #[.int .i64 0, .string ByteArray.empty, .string ByteArray.empty, .bool false]), 4, 48) := by kernel_rfl
set_option maxHeartbeats 400000 in
theorem c_toRemarkS (A : Option Addr) (c : Nat) (xs : List RemarkD) (w : World) (hn : xs.length ≤ 1099511627776) (hA : Rd RemarkD.cells 4 w A xs) :
    Calls Try.prog 76 #[.slice A xs.length c] w fun e w' => ∃ g, e = .returned (.slice (some ⟨g, 0, none⟩) xs.length xs.length) ∧ w.heap.size ≤ g ∧ Blk w' g 107 (xs.flatMap RemarkD.cells).toArray ∧ IsX w w' := by
  obtain ⟨i0, hi0, hz0, hz1, hz2⟩ := info_parts Remark_info
  obtain ⟨n, hnn⟩ : ∃ n, n = xs.length := ⟨_, rfl⟩
  have HN := hide hnn
  rw [← hnn] at hn ⊢
  clear hnn
  have hmk := fun W => run_make_rowN (P := Try.prog) 84 107 i0 _ Try.underlying84 hi0 hz0 .i64 .i64 n n (Nat.le_refl _) (by rw [hz2]; omega) (by omega) W
  rw [hz1] at hmk
  clear hz0 hz1 hz2 hi0
  go_enter Try.func76, Try.ntmps76
  go_wp2
  go_loopw [4] (fun i wr => ∃ k : Nat, k ≤ n ∧ i = .int .i64 k ∧ Filled RemarkD.cells 4 107 w wr w.heap.size xs k) (fun i _ => n - (intOf i).toNat)
  case atStart => exact ⟨0, Nat.zero_le _, rfl, Filled.start w (IsX.refl _) _ (by rw [← HN.out]; exact size_madeCells _ _)⟩
  case round =>
    obtain ⟨k, hk, rfl, hrel⟩ := hrel
    obtain ⟨⟨p, rfl⟩, cur, hB, hcs, hcur⟩ := hrel
    by_cases hlt : k < n
    · obtain ⟨b, off, rfl, hb, c0, c1, c2, c3⟩ := RemarkD.rd hA (show xs[k]? = some (xs[k]'(HN.out ▸ hlt)) from List.getElem?_eq_getElem _)
      go_wp2_with (go_at_call 90; refine (c_toRemark xs[k] _).mono ?_; rintro e w1 ⟨rfl, hx1⟩; have hB1 := hB.x hx1; clear hB; obtain ⟨v0, s0⟩ := hB1.has (i := k * 4) (by rw [hcs, ← HN.out]; omega); have z0 := hB1.frozen (k * 4); obtain ⟨v1, s1⟩ := hB1.has (i := k * 4 + 1) (by rw [hcs, ← HN.out]; omega); have z1 := hB1.frozen (k * 4 + 1); obtain ⟨v2, s2⟩ := hB1.has (i := k * 4 + 2) (by rw [hcs, ← HN.out]; omega); have z2 := hB1.frozen (k * 4 + 2); obtain ⟨v3, s3⟩ := hB1.has (i := k * 4 + 3) (by rw [hcs, ← HN.out]; omega); have z3 := hB1.frozen (k * 4 + 3))
      go_roundw
      case rel => exact ⟨k + 1, by omega, by go_num, Filled.step (cells := RemarkD.cells) (x := xs[k]'(HN.out ▸ hlt)) hB1 hcs hcur (List.getElem?_eq_getElem _) RemarkD.cells_len (IsX.trans ⟨p, rfl⟩ hx1) (Nat.le_refl _)⟩
      case measure => simp [intOf]; omega
    · obtain rfl : k = n := by omega
      go_wp2
      go_ret
      exact ⟨w.heap.size, rfl, Nat.le_refl _, Filled.done (HN.out ▸ ⟨⟨p, rfl⟩, cur, hB, hcs, hcur⟩) RemarkD.cells_len⟩

set_option maxHeartbeats 400000 in
theorem c_eqRemarkS (A A' : Option Addr) (c c' : Nat) (xs : List RemarkD) (w : World) (hn : xs.length ≤ 1099511627776) (hA : Rd RemarkD.cells 4 w A xs) (hA' : Rd RemarkD.cells 4 w A' xs) :
    Calls Try.prog 78 #[.slice A xs.length c, .slice A' xs.length c'] w fun e w' => e = .returned (.bool true) ∧ IsX w w' := by
  obtain ⟨n, hnn⟩ : ∃ n, n = xs.length := ⟨_, rfl⟩
  have HN := hide hnn
  rw [← hnn] at hn ⊢
  clear hnn
  go_enter Try.func78, Try.ntmps78
  go_wp2
  go_loopw [5] (fun i wr => ∃ k : Nat, k ≤ n ∧ i = .int .i64 k ∧ IsX w wr) (fun i _ => n - (intOf i).toNat)
  case atStart => exact ⟨0, Nat.zero_le _, rfl, IsX.refl _⟩
  case round =>
    obtain ⟨k, hk, rfl, p, rfl⟩ := hrel
    by_cases hlt : k < n
    · obtain ⟨b, off, rfl, hb, c0, c1, c2, c3⟩ := RemarkD.rd hA (show xs[k]? = some (xs[k]'(HN.out ▸ hlt)) from List.getElem?_eq_getElem _)
      obtain ⟨b', off', rfl, hb', d0, d1, d2, d3⟩ := RemarkD.rd hA' (show xs[k]? = some (xs[k]'(HN.out ▸ hlt)) from List.getElem?_eq_getElem _)
      clear hA hA'
      go_wp2
      refine wp_region_x (by kernel_rfl) (by kernel_rfl) ?_
      repeat (quiet_step ((go_at_call 91; exact call_x (c_eqRemark xs[k] _))))
      refine wpQuiet_nil ?_
      rintro _ ⟨q, rfl⟩
      go_wp2
      go_roundw
      case rel => exact ⟨k + 1, by omega, by go_num, IsX.xt ⟨p, rfl⟩ q⟩
      case measure => simp [intOf]; omega
    · obtain rfl : k = n := by omega
      go_wp2
      go_ret
      exact ⟨rfl, ⟨p, rfl⟩⟩

end Go.Proofs.Ytfkhhioadklomaa
