/- The copies, sizes and comparisons of a list of Cue. Conditions: strings no longer than 2^63 - 1 bytes, lists no longer than 2^40. -/
import Derived.Test.YthahbdpholpmkaaProg
import Derived.Test.YthahbdpholpmkaaBase
import Derived.Lib.Strings
import Derived.Test.YthahbdpholpmkaaOpen
namespace Go.Proofs.Ythahbdpholpmkaa
set_option linter.unusedVariables false
open Go.RowKit Go.ChangeShapes

structure CueD where
  Id : ByteArray
  Time : Int
  Length : Int
  Target : ByteArray
  Action : Int
  Val : Int
def CueD.cells (x : CueD) : List Value := [.string x.Id, .int .i64 x.Time, .int .i64 x.Length, .string x.Target, .int .i64 x.Action, .int .i64 x.Val]
theorem CueD.cells_len (x : CueD) : x.cells.length = 6 := rfl
def CueD.wf (x : CueD) : Prop := x.Id.size ≤ maxLen ∧ (-9223372036854775808 ≤ x.Time ∧ x.Time ≤ 9223372036854775807) ∧ (-9223372036854775808 ≤ x.Length ∧ x.Length ≤ 9223372036854775807) ∧ x.Target.size ≤ maxLen ∧ (-9223372036854775808 ≤ x.Action ∧ x.Action ≤ 9223372036854775807) ∧ (-9223372036854775808 ≤ x.Val ∧ x.Val ≤ 9223372036854775807)
theorem CueD.rd {w : World} {A : Option Addr} {xs : List CueD} (h : Rd CueD.cells 6 w A xs) {i : Nat} {x : CueD} (hx : xs[i]? = some x) :
    ∃ b off, A = some ⟨b, off, none⟩ ∧ b < w.heap.size ∧ w.cell? ⟨b, off + i * 6, none⟩ = some (.string x.Id) ∧ w.cell? ⟨b, off + i * 6 + 1, none⟩ = some (.int .i64 x.Time) ∧ w.cell? ⟨b, off + i * 6 + 2, none⟩ = some (.int .i64 x.Length) ∧ w.cell? ⟨b, off + i * 6 + 3, none⟩ = some (.string x.Target) ∧ w.cell? ⟨b, off + i * 6 + 4, none⟩ = some (.int .i64 x.Action) ∧ w.cell? ⟨b, off + i * 6 + 5, none⟩ = some (.int .i64 x.Val) := by
  obtain ⟨b, off, e, hb, hc⟩ := h i x hx
  exact ⟨b, off, e, hb, hc 0 _ rfl, hc 1 _ rfl, hc 2 _ rfl, hc 3 _ rfl, hc 4 _ rfl, hc 5 _ rfl⟩

theorem c_toCue (x : CueD) (w : World) : Calls Try.prog 105 #[.agg #[.string x.Id, .int .i64 x.Time, .int .i64 x.Length, .string x.Target, .int .i64 x.Action, .int .i64 x.Val]] w fun e w' => e = .returned (.agg #[.string x.Id, .int .i64 x.Time, .int .i64 x.Length, .string x.Target, .int .i64 x.Action, .int .i64 x.Val]) ∧ IsX w w' := by
  go_enter Try.func105, Try.ntmps105
  go_wp2
  exact bodyPost_ret (v := .agg #[.string x.Id, .int .i64 x.Time, .int .i64 x.Length, .string x.Target, .int .i64 x.Action, .int .i64 x.Val]) (by simp [results, Try.results105, go_sem]) rfl ⟨rfl, ((((IsX.refl _).alloc _).alloc _).alloc _)⟩

theorem c_eqCue (x : CueD) (w : World) : Calls Try.prog 108 #[.agg #[.string x.Id, .int .i64 x.Time, .int .i64 x.Length, .string x.Target, .int .i64 x.Action, .int .i64 x.Val], .agg #[.string x.Id, .int .i64 x.Time, .int .i64 x.Length, .string x.Target, .int .i64 x.Action, .int .i64 x.Val]] w fun e w' => e = .returned (.bool true) ∧ IsX w w' := by
  go_enter Try.func108, Try.ntmps108
  go_wp2
  go_ret
  exact ⟨rfl, ((IsX.refl _).alloc _).alloc _⟩

theorem open_Cue {H : Type} {enc : TypeId × Value → H} {w : World} {base : Nat} {spare : Nat → Bool} {held : Bool} (cs : List Value) (n : Nat) (y : DataW H × List MemPlace) (hl : cs.length = 6) (h : DataW.trod enc Try.prog w base spare held n 128 cs = some y) :
    ∃ x : CueD, x.wf ∧ x.cells = cs := by
  have hf := open_fields Try.underlying128 (by kernel_rfl) (by rw [hl]; rfl) h
  obtain ⟨v0, m0, z0, e0, g0⟩ := hf 0 _ rfl
  obtain ⟨v1, m1, z1, e1, g1⟩ := hf 1 _ rfl
  obtain ⟨v2, m2, z2, e2, g2⟩ := hf 2 _ rfl
  obtain ⟨v3, m3, z3, e3, g3⟩ := hf 3 _ rfl
  obtain ⟨v4, m4, z4, e4, g4⟩ := hf 4 _ rfl
  obtain ⟨v5, m5, z5, e5, g5⟩ := hf 5 _ rfl
  obtain ⟨x0, rfl, b0⟩ := field_string Try.underlying9 g0
  obtain ⟨x1, rfl, b1, t1⟩ := field_int Try.underlying2 g1
  obtain ⟨x2, rfl, b2, t2⟩ := field_int Try.underlying2 g2
  obtain ⟨x3, rfl, b3⟩ := field_string Try.underlying9 g3
  obtain ⟨x4, rfl, b4, t4⟩ := field_int Try.underlying2 g4
  obtain ⟨x5, rfl, b5, t5⟩ := field_int Try.underlying2 g5
  refine ⟨⟨x0, x1, x2, x3, x4, x5⟩, ⟨b0, ⟨b1, t1⟩, ⟨b2, t2⟩, b3, ⟨b4, t4⟩, ⟨b5, t5⟩⟩, ?_⟩
  apply List.ext_getElem?
  intro j
  rcases j with _ | _ | _ | _ | _ | _ | j
  · exact e0.symm
  · exact e1.symm
  · exact e2.symm
  · exact e3.symm
  · exact e4.symm
  · exact e5.symm
  · rw [List.getElem?_eq_none (by simp [CueD.cells]), List.getElem?_eq_none (by omega)]
theorem open_CueS {H : Type} {enc : TypeId × Value → H} {w : World} {base : Nat} {spare : Nat → Bool} {held : Bool} {fuel : Nat} {cs : List Value} {x : DataW H × List MemPlace} (h : DataW.trod enc Try.prog w base spare held fuel 63 cs = some x) :
    ∃ (A : Option Addr) (cap : Nat) (xs : List CueD), cs = [.slice A xs.length cap] ∧ xs.length ≤ cap ∧ cap ≤ maxLen ∧ (∀ x ∈ xs, x.wf) ∧ Rd CueD.cells 6 w A xs :=
  open_list CueD.cells CueD.wf Try.underlying63 (by kernel_rfl) (by omega) CueD.cells_len (fun cs' m y hl h => open_Cue cs' m y hl h) h

set_option maxHeartbeats 400000 in
theorem c_szCue (x : CueD) (left : Int) (w : World) (hx : x.wf) (h0 : 0 ≤ left) (h1 : left ≤ 1099511627776) : Calls Try.prog 102 #[.agg #[.string x.Id, .int .i64 x.Time, .int .i64 x.Length, .string x.Target, .int .i64 x.Action, .int .i64 x.Val], .int .i64 left] w (SzPost left 0 w) := by
  have HX := hide hx
  clear hx
  have b0 : x.Id.size ≤ 9223372036854775807 := by have := HX.out; simp only [CueD.wf, maxLen] at this; omega
  have b1 : x.Target.size ≤ 9223372036854775807 := by have := HX.out; simp only [CueD.wf, maxLen] at this; omega
  go_enter Try.func102, Try.ntmps102
  go_wp2
  all_goals
    go_ret
    exact ⟨_, rfl, by omega, by omega, by omega, (IsX.refl _).alloc _⟩

set_option maxHeartbeats 400000 in
theorem c_szCueS (A : Option Addr) (c : Nat) (xs : List CueD) (left : Int) (w : World) (hn : xs.length ≤ maxLen) (hw : ∀ x ∈ xs, x.wf) (h0 : 0 ≤ left) (h1 : left ≤ 1099511627776) (hA : Rd CueD.cells 6 w A xs) :
    Calls Try.prog 44 #[.slice A xs.length c, .int .i64 left] w (SzPost left xs.length w) := by
  obtain ⟨n, hnn⟩ : ∃ n, n = xs.length := ⟨_, rfl⟩
  have HN := hide hnn
  rw [← hnn] at hn ⊢
  clear hnn
  have HW := hide hw
  clear hw
  unfold maxLen at hn
  by_cases hl : left - n < 0
  · go_enter Try.func44, Try.ntmps44
    go_wp2
    go_ret
    exact ⟨-1, rfl, by omega, by omega, by omega, IsX.refl _⟩
  go_enter Try.func44, Try.ntmps44
  go_wp2
  go_loopw [1, 5] (fun l i wr => ∃ (k : Nat) (m : Int), k ≤ n ∧ i = .int .i64 k ∧ l = .int .i64 m ∧ 0 ≤ m ∧ m ≤ left ∧ IsX w wr) (fun _ i _ => n - (intOf i).toNat)
  case atStart => exact ⟨0, left - n, Nat.zero_le _, rfl, rfl, by omega, by omega, IsX.refl _⟩
  case round =>
    obtain ⟨k, m, hk, rfl, rfl, hm0, hm1, p, rfl⟩ := hrel
    by_cases hlt : k < n
    · obtain ⟨b, off, rfl, hb, c0, c1, c2, c3, c4, c5⟩ := CueD.rd hA (show xs[k]? = some (xs[k]'(HN.out ▸ hlt)) from List.getElem?_eq_getElem _)
      clear hA
      go_wp2_with (go_at_call 102; refine (c_szCue xs[k] _ _ (HW.out _ (List.getElem_mem _)) (by omega) (by omega)).mono ?_; rintro e w1 ⟨m1, rfl, e1, e2, e3, q, rfl⟩)
      · go_ret
        exact ⟨-1, rfl, by omega, by omega, by omega, IsX.xt ⟨p, rfl⟩ q⟩
      · go_roundw
        case rel => exact ⟨k + 1, m1, by omega, by go_num, rfl, by omega, by omega, IsX.xt ⟨p, rfl⟩ q⟩
        case measure => simp [intOf]; omega
    · go_wp2
      go_ret
      exact ⟨m, rfl, by omega, by omega, by omega, ⟨p, rfl⟩⟩

theorem Cue_info : (Try.prog.info? 131).map (fun i => (i.zero, i.size, i.bytes)) = some (some (.agg #[.string ByteArray.empty, .int .i64 0, .int .i64 0, .string ByteArray.empty, .int .i64 0, .int .i64 0]), 6, 64) := by kernel_rfl
set_option maxHeartbeats 400000 in
theorem c_toCueS (A : Option Addr) (c : Nat) (xs : List CueD) (w : World) (hn : xs.length ≤ 1099511627776) (hA : Rd CueD.cells 6 w A xs) :
    Calls Try.prog 46 #[.slice A xs.length c] w fun e w' => ∃ g, e = .returned (.slice (some ⟨g, 0, none⟩) xs.length xs.length) ∧ w.heap.size ≤ g ∧ Blk w' g 131 (xs.flatMap CueD.cells).toArray ∧ IsX w w' := by
  obtain ⟨i0, hi0, hz0, hz1, hz2⟩ := info_parts Cue_info
  obtain ⟨n, hnn⟩ : ∃ n, n = xs.length := ⟨_, rfl⟩
  have HN := hide hnn
  rw [← hnn] at hn ⊢
  clear hnn
  have hmk := fun W => run_make_rowN (P := Try.prog) 66 131 i0 _ Try.underlying66 hi0 hz0 .i64 .i64 n n (Nat.le_refl _) (by rw [hz2]; omega) (by omega) W
  rw [hz1] at hmk
  clear hz0 hz1 hz2 hi0
  go_enter Try.func46, Try.ntmps46
  go_wp2
  go_loopw [4] (fun i wr => ∃ k : Nat, k ≤ n ∧ i = .int .i64 k ∧ Filled CueD.cells 6 131 w wr w.heap.size xs k) (fun i _ => n - (intOf i).toNat)
  case atStart => exact ⟨0, Nat.zero_le _, rfl, Filled.start w (IsX.refl _) _ (by rw [← HN.out]; exact size_madeCells _ _)⟩
  case round =>
    obtain ⟨k, hk, rfl, hrel⟩ := hrel
    obtain ⟨⟨p, rfl⟩, cur, hB, hcs, hcur⟩ := hrel
    by_cases hlt : k < n
    · obtain ⟨b, off, rfl, hb, c0, c1, c2, c3, c4, c5⟩ := CueD.rd hA (show xs[k]? = some (xs[k]'(HN.out ▸ hlt)) from List.getElem?_eq_getElem _)
      go_wp2_with (go_at_call 105; refine (c_toCue xs[k] _).mono ?_; rintro e w1 ⟨rfl, hx1⟩; have hB1 := hB.x hx1; clear hB; obtain ⟨v0, s0⟩ := hB1.has (i := k * 6) (by rw [hcs, ← HN.out]; omega); have z0 := hB1.frozen (k * 6); obtain ⟨v1, s1⟩ := hB1.has (i := k * 6 + 1) (by rw [hcs, ← HN.out]; omega); have z1 := hB1.frozen (k * 6 + 1); obtain ⟨v2, s2⟩ := hB1.has (i := k * 6 + 2) (by rw [hcs, ← HN.out]; omega); have z2 := hB1.frozen (k * 6 + 2); obtain ⟨v3, s3⟩ := hB1.has (i := k * 6 + 3) (by rw [hcs, ← HN.out]; omega); have z3 := hB1.frozen (k * 6 + 3); obtain ⟨v4, s4⟩ := hB1.has (i := k * 6 + 4) (by rw [hcs, ← HN.out]; omega); have z4 := hB1.frozen (k * 6 + 4); obtain ⟨v5, s5⟩ := hB1.has (i := k * 6 + 5) (by rw [hcs, ← HN.out]; omega); have z5 := hB1.frozen (k * 6 + 5))
      go_roundw
      case rel => exact ⟨k + 1, by omega, by go_num, Filled.step (cells := CueD.cells) (x := xs[k]'(HN.out ▸ hlt)) hB1 hcs hcur (List.getElem?_eq_getElem _) CueD.cells_len (IsX.trans ⟨p, rfl⟩ hx1) (Nat.le_refl _)⟩
      case measure => simp [intOf]; omega
    · obtain rfl : k = n := by omega
      go_wp2
      go_ret
      exact ⟨w.heap.size, rfl, Nat.le_refl _, Filled.done (HN.out ▸ ⟨⟨p, rfl⟩, cur, hB, hcs, hcur⟩) CueD.cells_len⟩

set_option maxHeartbeats 400000 in
theorem c_eqCueS (A A' : Option Addr) (c c' : Nat) (xs : List CueD) (w : World) (hn : xs.length ≤ 1099511627776) (hA : Rd CueD.cells 6 w A xs) (hA' : Rd CueD.cells 6 w A' xs) :
    Calls Try.prog 48 #[.slice A xs.length c, .slice A' xs.length c'] w fun e w' => e = .returned (.bool true) ∧ IsX w w' := by
  obtain ⟨n, hnn⟩ : ∃ n, n = xs.length := ⟨_, rfl⟩
  have HN := hide hnn
  rw [← hnn] at hn ⊢
  clear hnn
  go_enter Try.func48, Try.ntmps48
  go_wp2
  go_loopw [5] (fun i wr => ∃ k : Nat, k ≤ n ∧ i = .int .i64 k ∧ IsX w wr) (fun i _ => n - (intOf i).toNat)
  case atStart => exact ⟨0, Nat.zero_le _, rfl, IsX.refl _⟩
  case round =>
    obtain ⟨k, hk, rfl, p, rfl⟩ := hrel
    by_cases hlt : k < n
    · obtain ⟨b, off, rfl, hb, c0, c1, c2, c3, c4, c5⟩ := CueD.rd hA (show xs[k]? = some (xs[k]'(HN.out ▸ hlt)) from List.getElem?_eq_getElem _)
      obtain ⟨b', off', rfl, hb', d0, d1, d2, d3, d4, d5⟩ := CueD.rd hA' (show xs[k]? = some (xs[k]'(HN.out ▸ hlt)) from List.getElem?_eq_getElem _)
      clear hA hA'
      go_wp2
      refine wp_region_x (by kernel_rfl) (by kernel_rfl) ?_
      repeat (quiet_step ((go_at_call 108; exact call_x (c_eqCue xs[k] _))))
      refine wpQuiet_nil ?_
      rintro _ ⟨q, rfl⟩
      go_wp2
      go_roundw
      case rel => exact ⟨k + 1, by omega, by go_num, IsX.xt ⟨p, rfl⟩ q⟩
      case measure => simp [intOf]; omega
    · obtain rfl : k = n := by omega
      go_wp2
      go_ret
      exact ⟨rfl, ⟨p, rfl⟩⟩

end Go.Proofs.Ythahbdpholpmkaa
