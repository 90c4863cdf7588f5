/- slices.Sort over rows of the call's own. Conditions: lists no longer than 2^41. -/
import Derived.Test.YtfcfgkkkepifhaaGreatDoorBookLaw
import Derived.Test.YtfcfgkkkepifhaaGreatDoorSortLaid
import Derived.Sort.OwnSortedInts
namespace Go.Proofs.YtfcfgkkkepifhaaGreatDoor
set_option linter.unusedVariables false
open Go.RowKit Go.Sort

theorem flat_int (zs : List Int) : zs.flatMap intC = zs.map (Value.int .i64) := by
  induction zs with
  | nil => rfl
  | cons z zs ih => simp only [List.flatMap_cons, List.map_cons, ih]; rfl
theorem c_ins0 (A : Option Addr) (c : Nat) (w : World) : Calls Tryz.prog 115 #[.slice A 0 c, .int .i64 0, .int .i64 0] w fun e w' => e = .returned (.tuple #[]) ∧ w = w' := by
  go_enter Tryz.func115, Tryz.ntmps115
  go_wp2_with fail
  go_loopw [6] (fun iv wr => iv = .int .i64 1 ∧ w = wr) (fun _ _ => 0)
  case atStart => exact ⟨rfl, rfl⟩
  case round =>
    obtain ⟨rfl, rfl⟩ := hrel
    go_wp2_with fail
    go_end0
    exact ⟨rfl, rfl⟩
theorem c_pdq0 (A : Option Addr) (c : Nat) (l : Int) (w : World) : Calls Tryz.prog 81 #[.slice A 0 c, .int .i64 0, .int .i64 0, .int .i64 l] w fun e w' => e = .returned (.tuple #[]) ∧ w = w' := by
  go_enter Tryz.func81, Tryz.ntmps81
  go_wp2_with fail
  refine wp_loop_rounds 1 ?_
  rw [rounds_succ]
  go_wp2_with (go_at_call 115; refine (c_ins0 A c _).mono ?_; rintro e w1 ⟨rfl, rfl⟩)
  (try simp only [Exit.inBlock, Exit.then]); refine bodyPost_ret (results_none rfl _ _ _) rfl ?_
  exact ⟨rfl, rfl⟩
theorem c_Sort0 (A : Option Addr) (c : Nat) (w : World) : Calls Tryz.prog 53 #[.slice A 0 c] w fun e w' => e = .returned (.tuple #[]) ∧ w = w' := by
  go_enter Tryz.func53, Tryz.ntmps53
  go_wp2_with fail
  refine (Tryz.bits_Len 0 w (by omega) (by omega)).mono ?_
  rintro e w1 ⟨rfl, rfl⟩
  go_wp2_with fail
  refine (c_pdq0 A c _ _).mono ?_
  rintro e w1 ⟨rfl, rfl⟩
  go_wp2_with fail
  go_end0
  exact ⟨rfl, rfl⟩
theorem c_Sort (w0 : World) (A : Option Addr) (c : Nat) (zs : List Int) (base : Nat) (w : World) (hO : Own intC 1 2 w base (.slice A zs.length c) zs) (hx : IsX w0 w) (hb : w0.heap.size ≤ base) (hn : zs.length ≤ 2199023255552) :
    Calls Tryz.prog 53 #[.slice A zs.length c] w fun e w' => e = .returned (.tuple #[]) ∧ Own intC 1 2 w' base (.slice A (sortI zs).length c) (sortI zs) ∧ IsX w0 w' := by
  rcases hO.2 with ⟨h1, h0⟩ | ⟨g, cap, cur, hv, hg, hh, h1, h2, h3, h4⟩
  · have hz := List.eq_nil_of_length_eq_zero h0
    subst hz
    injection h1 with hA _ hc
    subst hA
    simp only [List.length_nil]
    refine (c_Sort0 none c w).mono ?_
    rintro e w1 ⟨rfl, rfl⟩
    exact ⟨rfl, by
      have : sortI [] = [] := List.eq_nil_of_length_eq_zero (by rw [sortI_len]; rfl)
      rw [this]
      exact hO, hx⟩
  · injection hv with hA _ hc
    subst hA
    subst hc
    rw [flat_int, Nat.mul_one] at h4
    refine (Tryz.slices_Sort_int g 0 c zs w (holds_of_blockI hh h4) (Array.getElem?_eq_some_iff.1 hh).1 (by omega)).mono ?_
    rintro e w1 ⟨rfl, n, os, rfl⟩
    refine ⟨rfl, ?_, ?_⟩
    · show World.ownsRow _ _ _ _ _ (sortI zs).length ((sortI zs).flatMap intC)
      rw [flat_int, sortI_len]
      exact ownsRow_sortedI (sortI_len zs) hg hh h1 h2 h3
    · exact hx.grown (grownBy_sortedI _) (by intro k hk; injection hk with hk; omega)

end Go.Proofs.YtfcfgkkkepifhaaGreatDoor
