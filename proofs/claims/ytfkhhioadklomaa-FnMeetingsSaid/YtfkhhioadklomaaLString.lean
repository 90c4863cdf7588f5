/- Lists of string: copies, comparisons of equal lists, sizes. Conditions: lists no longer than 2^40. -/
import Derived.Test.YtfkhhioadklomaaProg
import Derived.Test.YtfkhhioadklomaaOpen
import Derived.Lib.Strings
namespace Go.Proofs.Ytfkhhioadklomaa
set_option linter.unusedVariables false
open Go.RowKit Go.ChangeShapes

def strC (x : ByteArray) : List Value := [.string x]
theorem strC_len (x : ByteArray) : (strC x).length = 1 := rfl
theorem str_rd {w : World} {A : Option Addr} {xs : List ByteArray} (h : Rd strC 1 w A xs) {i : Nat} {x : ByteArray} (hx : xs[i]? = some x) :
    ∃ b off, A = some ⟨b, off, none⟩ ∧ b < w.heap.size ∧ w.cell? ⟨b, off + i, none⟩ = some (.string x) := by
  obtain ⟨b, off, e, hb, hc⟩ := h i x hx
  have := hc 0 _ rfl
  rw [Nat.mul_one, Nat.add_zero] at this
  exact ⟨b, off, e, hb, this⟩
def strWf (x : ByteArray) : Prop := x.size ≤ maxLen
theorem open_strs' {H : Type} {enc : TypeId × Value → H} {w : World} {base : Nat} {spare : Nat → Bool} {held : Bool} {fuel : Nat} {cs : List Value} {x : DataW H × List MemPlace} (h : DataW.trod enc Try.prog w base spare held fuel 23 cs = some x) :
    ∃ (A : Option Addr) (cap : Nat) (xs : List ByteArray), cs = [.slice A xs.length cap] ∧ xs.length ≤ cap ∧ cap ≤ maxLen ∧ (∀ x ∈ xs, strWf x) ∧ Rd strC 1 w A xs :=
  open_list strC strWf Try.underlying23 (by kernel_rfl) (by omega) strC_len (fun cs' m y hl h => by
    match cs', hl with
    | [c], _ =>
      obtain ⟨z, rfl, h1⟩ := field_string Try.underlying9 h
      exact ⟨z, h1, rfl⟩) h

theorem String_info : (Try.prog.info? 9).map (fun i => (i.zero, i.size, i.bytes)) = some (some (.string ByteArray.empty), 1, 16) := by kernel_rfl
set_option maxHeartbeats 400000 in
theorem c_toStringS (A : Option Addr) (c : Nat) (xs : List ByteArray) (w : World) (hn : xs.length ≤ 1099511627776) (hA : Rd strC 1 w A xs) :
    Calls Try.prog 10 #[.slice A xs.length c] w fun e w' => ∃ g, e = .returned (.slice (some ⟨g, 0, none⟩) xs.length xs.length) ∧ w.heap.size ≤ g ∧ Blk w' g 9 (xs.flatMap strC).toArray ∧ IsX w w' := by
  obtain ⟨i0, hi0, hz0, hz1, hz2⟩ := info_parts String_info
  obtain ⟨n, hnn⟩ : ∃ n, n = xs.length := ⟨_, rfl⟩
  have HN := hide hnn
  rw [← hnn] at hn ⊢
  clear hnn
  have hmk := fun W => run_make_rowN (P := Try.prog) 23 9 i0 _ Try.underlying23 hi0 hz0 .i64 .i64 n n (Nat.le_refl _) (by rw [hz2]; omega) (by omega) W
  rw [hz1] at hmk
  clear hz0 hz1 hz2 hi0
  go_enter Try.func10, Try.ntmps10
  go_wp2
  go_loopw [4] (fun i wr => ∃ k : Nat, k ≤ n ∧ i = .int .i64 k ∧ Filled strC 1 9 w wr w.heap.size xs k) (fun i _ => n - (intOf i).toNat)
  case atStart => exact ⟨0, Nat.zero_le _, rfl, Filled.start w (IsX.refl _) _ (by rw [← HN.out]; first | exact size_madeCells _ _ | (rw [Nat.mul_one]; exact size_madeCells _ _))⟩
  case round =>
    obtain ⟨k, hk, rfl, hrel⟩ := hrel
    obtain ⟨⟨p, rfl⟩, cur, hB, hcs, hcur⟩ := hrel
    by_cases hlt : k < n
    · obtain ⟨b, off, rfl, hb, c0⟩ := str_rd hA (show xs[k]? = some (xs[k]'(HN.out ▸ hlt)) from List.getElem?_eq_getElem _)
      obtain ⟨v0, s0⟩ := hB.has (i := k) (by rw [hcs, ← HN.out]; omega)
      have z0 := hB.frozen k
      have hst := Filled.step (cells := strC) (x := xs[k]'(HN.out ▸ hlt)) hB hcs hcur (List.getElem?_eq_getElem _) strC_len ⟨p, rfl⟩ (Nat.le_refl _)
      rw [Nat.mul_one] at hst
      go_wp2
      go_roundw
      case rel => exact ⟨k + 1, by omega, by go_num, hst⟩
      case measure => simp [intOf]; omega
    · obtain rfl : k = n := by omega
      go_wp2
      go_ret
      exact ⟨w.heap.size, rfl, Nat.le_refl _, Filled.done (HN.out ▸ ⟨⟨p, rfl⟩, cur, hB, hcs, hcur⟩) strC_len⟩

set_option maxHeartbeats 400000 in
theorem c_eqStringS (A A' : Option Addr) (c c' : Nat) (xs : List ByteArray) (w : World) (hn : xs.length ≤ 1099511627776) (hA : Rd strC 1 w A xs) (hA' : Rd strC 1 w A' xs) :
    Calls Try.prog 14 #[.slice A xs.length c, .slice A' xs.length c'] w fun e w' => e = .returned (.bool true) ∧ IsX w w' := by
  obtain ⟨n, hnn⟩ : ∃ n, n = xs.length := ⟨_, rfl⟩
  have HN := hide hnn
  rw [← hnn] at hn ⊢
  clear hnn
  go_enter Try.func14, Try.ntmps14
  go_wp2
  go_loopw [5] (fun i wr => ∃ k : Nat, k ≤ n ∧ i = .int .i64 k ∧ IsX w wr) (fun i _ => n - (intOf i).toNat)
  case atStart => exact ⟨0, Nat.zero_le _, rfl, IsX.refl _⟩
  case round =>
    obtain ⟨k, hk, rfl, p, rfl⟩ := hrel
    by_cases hlt : k < n
    · obtain ⟨b, off, rfl, hb, c0⟩ := str_rd hA (show xs[k]? = some (xs[k]'(HN.out ▸ hlt)) from List.getElem?_eq_getElem _)
      obtain ⟨b', off', rfl, hb', d0⟩ := str_rd hA' (show xs[k]? = some (xs[k]'(HN.out ▸ hlt)) from List.getElem?_eq_getElem _)
      clear hA hA'
      go_wp2
      refine wp_region_x (by kernel_rfl) (by kernel_rfl) ?_
      repeat (first | go_big_quiet_step (fail) | quiet_step (fail))
      refine wpQuiet_nil ?_
      rintro _ ⟨q, rfl⟩
      go_wp2
      go_roundw
      case rel => exact ⟨k + 1, by omega, by go_num, IsX.xt ⟨p, rfl⟩ q⟩
      case measure => simp [intOf]; omega
    · obtain rfl : k = n := by omega
      go_wp2
      go_ret
      exact ⟨rfl, ⟨p, rfl⟩⟩

set_option maxHeartbeats 800000 in
theorem c_szStringS (A : Option Addr) (c : Nat) (xs : List ByteArray) (left : Int) (w : World) (hn : xs.length ≤ maxLen) (hw : ∀ x ∈ xs, strWf x) (h0 : 0 ≤ left) (h1 : left ≤ 1099511627776) (hA : Rd strC 1 w A xs) :
    Calls Try.prog 7 #[.slice A xs.length c, .int .i64 left] w (SzPost left xs.length w) := by
  obtain ⟨n, hnn⟩ : ∃ n, n = xs.length := ⟨_, rfl⟩
  have HN := hide hnn
  rw [← hnn] at hn ⊢
  clear hnn
  have HW := hide hw
  clear hw
  unfold maxLen at hn
  by_cases hl : left - n < 0
  · go_enter Try.func7, Try.ntmps7
    go_wp2
    go_ret
    exact ⟨-1, rfl, by omega, by omega, by omega, IsX.refl _⟩
  go_enter Try.func7, Try.ntmps7
  go_wp2
  go_loopw [1, 5] (fun l i wr => ∃ (k : Nat) (m : Int), k ≤ n ∧ i = .int .i64 k ∧ l = .int .i64 m ∧ 0 ≤ m ∧ m ≤ left ∧ IsX w wr) (fun _ i _ => n - (intOf i).toNat)
  case atStart => exact ⟨0, left - n, Nat.zero_le _, rfl, rfl, by omega, by omega, IsX.refl _⟩
  case round =>
    obtain ⟨k, m, hk, rfl, rfl, hm0, hm1, p, rfl⟩ := hrel
    by_cases hlt : k < n
    · have hltx : k < xs.length := HN.out ▸ hlt
      obtain ⟨b, off, rfl, hb, c0⟩ := str_rd hA (show xs[k]? = some xs[k] from List.getElem?_eq_getElem _)
      have hs : xs[k].size ≤ 9223372036854775807 := by have := HW.out _ (List.getElem_mem hltx); simp only [strWf, maxLen] at this; omega
      clear hA
      by_cases hm : m - xs[k].size < 0
      · go_wp2
        go_ret
        exact ⟨-1, rfl, by omega, by omega, by omega, ⟨p, rfl⟩⟩
      · go_wp2
        go_roundw
        case rel => exact ⟨k + 1, m - xs[k].size, by omega, by go_num, rfl, by omega, by omega, ⟨p, rfl⟩⟩
        case measure => simp [intOf]; omega
    · go_wp2
      go_ret
      exact ⟨m, rfl, by omega, by omega, by omega, ⟨p, rfl⟩⟩

end Go.Proofs.Ytfkhhioadklomaa
