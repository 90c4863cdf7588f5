/- Lists of int64: copies, comparisons of equal lists, sizes. Conditions: lists no longer than 2^40. -/
import Derived.Test.YtadmpefbpklibaaDoorProg
import Derived.Test.YtadmpefbpklibaaDoorOpen
import Derived.Lib.Strings
namespace Go.Proofs.YtadmpefbpklibaaDoor
set_option linter.unusedVariables false
open Go.RowKit Go.ChangeShapes

def intC (x : Int) : List Value := [.int .i64 x]
theorem intC_len (x : Int) : (intC x).length = 1 := rfl
theorem int_rd {w : World} {A : Option Addr} {xs : List Int} (h : Rd intC 1 w A xs) {i : Nat} {x : Int} (hx : xs[i]? = some x) :
    ∃ b off, A = some ⟨b, off, none⟩ ∧ b < w.heap.size ∧ w.cell? ⟨b, off + i, none⟩ = some (.int .i64 x) := by
  obtain ⟨b, off, e, hb, hc⟩ := h i x hx
  have := hc 0 _ rfl
  rw [Nat.mul_one, Nat.add_zero] at this
  exact ⟨b, off, e, hb, this⟩
def intWf (x : Int) : Prop := -9223372036854775808 ≤ x ∧ x ≤ 9223372036854775807
theorem open_ints' {H : Type} {enc : TypeId × Value → H} {w : World} {base : Nat} {spare : Nat → Bool} {held : Bool} {fuel : Nat} {cs : List Value} {x : DataW H × List MemPlace} (h : DataW.trod enc Tryd.prog w base spare held fuel 35 cs = some x) :
    ∃ (A : Option Addr) (cap : Nat) (xs : List Int), cs = [.slice A xs.length cap] ∧ xs.length ≤ cap ∧ cap ≤ maxLen ∧ (∀ x ∈ xs, intWf x) ∧ Rd intC 1 w A xs :=
  open_list intC intWf Tryd.underlying35 (by kernel_rfl) (by omega) intC_len (fun cs' m y hl h => by
    match cs', hl with
    | [c], _ =>
      obtain ⟨z, rfl, h1, h2⟩ := field_int Tryd.underlying2 h
      exact ⟨z, ⟨h1, h2⟩, rfl⟩) h

theorem Int64_info : (Tryd.prog.info? 2).map (fun i => (i.zero, i.size, i.bytes)) = some (some (.int .i64 0), 1, 8) := by kernel_rfl
set_option maxHeartbeats 400000 in
theorem c_toInt64S (A : Option Addr) (c : Nat) (xs : List Int) (w : World) (hn : xs.length ≤ 1099511627776) (hA : Rd intC 1 w A xs) :
    Calls Tryd.prog 13 #[.slice A xs.length c] w fun e w' => ∃ g, e = .returned (.slice (some ⟨g, 0, none⟩) xs.length xs.length) ∧ w.heap.size ≤ g ∧ Blk w' g 2 (xs.flatMap intC).toArray ∧ IsX w w' := by
  obtain ⟨i0, hi0, hz0, hz1, hz2⟩ := info_parts Int64_info
  obtain ⟨n, hnn⟩ : ∃ n, n = xs.length := ⟨_, rfl⟩
  have HN := hide hnn
  rw [← hnn] at hn ⊢
  clear hnn
  have hmk := fun W => run_make_rowN (P := Tryd.prog) 35 2 i0 _ Tryd.underlying35 hi0 hz0 .i64 .i64 n n (Nat.le_refl _) (by rw [hz2]; omega) (by omega) W
  rw [hz1] at hmk
  clear hz0 hz1 hz2 hi0
  go_enter Tryd.func13, Tryd.ntmps13
  go_wp2
  go_loopw [4] (fun i wr => ∃ k : Nat, k ≤ n ∧ i = .int .i64 k ∧ Filled intC 1 2 w wr w.heap.size xs k) (fun i _ => n - (intOf i).toNat)
  case atStart => exact ⟨0, Nat.zero_le _, rfl, Filled.start w (IsX.refl _) _ (by rw [← HN.out]; first | exact size_madeCells _ _ | (rw [Nat.mul_one]; exact size_madeCells _ _))⟩
  case round =>
    obtain ⟨k, hk, rfl, hrel⟩ := hrel
    obtain ⟨⟨p, rfl⟩, cur, hB, hcs, hcur⟩ := hrel
    by_cases hlt : k < n
    · obtain ⟨b, off, rfl, hb, c0⟩ := int_rd hA (show xs[k]? = some (xs[k]'(HN.out ▸ hlt)) from List.getElem?_eq_getElem _)
      obtain ⟨v0, s0⟩ := hB.has (i := k) (by rw [hcs, ← HN.out]; omega)
      have z0 := hB.frozen k
      have hst := Filled.step (cells := intC) (x := xs[k]'(HN.out ▸ hlt)) hB hcs hcur (List.getElem?_eq_getElem _) intC_len ⟨p, rfl⟩ (Nat.le_refl _)
      rw [Nat.mul_one] at hst
      go_wp2
      go_roundw
      case rel => exact ⟨k + 1, by omega, by go_num, hst⟩
      case measure => simp [intOf]; omega
    · obtain rfl : k = n := by omega
      go_wp2
      go_ret
      exact ⟨w.heap.size, rfl, Nat.le_refl _, Filled.done (HN.out ▸ ⟨⟨p, rfl⟩, cur, hB, hcs, hcur⟩) intC_len⟩

set_option maxHeartbeats 400000 in
theorem c_eqInt64S (A A' : Option Addr) (c c' : Nat) (xs : List Int) (w : World) (hn : xs.length ≤ 1099511627776) (hA : Rd intC 1 w A xs) (hA' : Rd intC 1 w A' xs) :
    Calls Tryd.prog 15 #[.slice A xs.length c, .slice A' xs.length c'] w fun e w' => e = .returned (.bool true) ∧ IsX w w' := by
  obtain ⟨n, hnn⟩ : ∃ n, n = xs.length := ⟨_, rfl⟩
  have HN := hide hnn
  rw [← hnn] at hn ⊢
  clear hnn
  go_enter Tryd.func15, Tryd.ntmps15
  go_wp2
  go_loopw [5] (fun i wr => ∃ k : Nat, k ≤ n ∧ i = .int .i64 k ∧ IsX w wr) (fun i _ => n - (intOf i).toNat)
  case atStart => exact ⟨0, Nat.zero_le _, rfl, IsX.refl _⟩
  case round =>
    obtain ⟨k, hk, rfl, p, rfl⟩ := hrel
    by_cases hlt : k < n
    · obtain ⟨b, off, rfl, hb, c0⟩ := int_rd hA (show xs[k]? = some (xs[k]'(HN.out ▸ hlt)) from List.getElem?_eq_getElem _)
      obtain ⟨b', off', rfl, hb', d0⟩ := int_rd hA' (show xs[k]? = some (xs[k]'(HN.out ▸ hlt)) from List.getElem?_eq_getElem _)
      clear hA hA'
      go_wp2
      refine wp_region_x (by kernel_rfl) (by kernel_rfl) ?_
      repeat (first | go_big_quiet_step (fail) | quiet_step (fail))
      refine wpQuiet_nil ?_
      rintro _ ⟨q, rfl⟩
      go_wp2
      go_roundw
      case rel => exact ⟨k + 1, by omega, by go_num, IsX.xt ⟨p, rfl⟩ q⟩
      case measure => simp [intOf]; omega
    · obtain rfl : k = n := by omega
      go_wp2
      go_ret
      exact ⟨rfl, ⟨p, rfl⟩⟩

end Go.Proofs.YtadmpefbpklibaaDoor
