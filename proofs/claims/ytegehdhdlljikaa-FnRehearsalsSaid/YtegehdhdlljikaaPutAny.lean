/- Texts put into rising lists of the call's own, nil ones too. Conditions: lists no longer than 2^20. -/
import Derived.Test.YtegehdhdlljikaaWhoFns
namespace Go.Proofs.Ytegehdhdlljikaa
set_option linter.unusedVariables false
open Go.RowKit

set_option maxRecDepth 100000 in
set_option maxHeartbeats 3200000 in
theorem c_l21Put0 (x : ByteArray) (w : World) :
    Calls Try.prog 42 #[.slice none 0 0, .string x] w fun e w' => ∃ A c, e = .returned (.slice A 1 c) ∧ w'.ownsRow w.heap.size 9 1 (.slice A 1 c) 1 [.string x] ∧ IsX w w' := by
  have HI := hide (info_parts String_info)
  go_enter Try.func42, Try.ntmps42
  go_wp2_with fail
  refine wp_loop_rounds 1 ?_
  rw [rounds_succ]
  go_wp2_with (first | (at_builtin; obtain ⟨i0, hi0, hz0, hz1, hz2⟩ := HI.out; refine wpList_append_any _ rfl (.tmp 34) (.tmp 37) _ rfl w.heap.size 9 i0 _ 1 16 Try.underlying26 hi0 hz0 hz1 hz2 rfl (by omega) (.slice (some ⟨w.heap.size, 0, none⟩) 0 0) 0 ([]) rfl (World.ownsRow_made w #[] 0 (Nat.le_refl _) (by simp [maxLen]) rfl) w.heap.size none 0 0 ([]) rfl (Reads.none_) (fun u hu => by simp at hu) (by simp [maxLen]) (by omega) (by simp) ?_; clear hi0 hz0 hz1 hz2; intro v1 w1 hown1 hg1 hat1; have HO1 := hide hown1; have HX1 : Hid (IsX w w1) := hide (IsX.grown ((IsX.refl w).alloc _) hg1 (by intro z hz; simp [Value.ownBlock] at hz; omega)); clear hown1 hg1 hat1) | (at_builtin; obtain ⟨i0, hi0, hz0, hz1, hz2⟩ := HI.out; refine wpList_append_any _ rfl (.tmp 39) (.tmp 41) _ rfl w.heap.size 9 i0 _ 1 16 Try.underlying26 hi0 hz0 hz1 hz2 rfl (by omega) (v1) 0 ([]) rfl ((by have h := HO1.out; simpa using h : World.ownsRow w1 w.heap.size 9 1 v1 0 []).alloc _) _ (some ⟨w1.heap.size, 0, none⟩) 1 1 ([Value.string x]) rfl (str_reads w1 _ _) (str_oneW x) (by simp [maxLen]) (by omega) (by have := HX1.out.size; simp; omega) ?_; clear hi0 hz0 hz1 hz2; intro v2 w2 hown1 hg1 hat1; have HO2 := hide hown1; have HX2 : Hid (IsX w w2) := hide (IsX.grown (HX1.out.alloc _) hg1 (by intro z hz; exact (HO1.out.lt z hz).1)); clear hown1 hg1 hat1) | (at_builtin; obtain ⟨i0, hi0, hz0, hz1, hz2⟩ := HI.out; refine wpList_append_any _ rfl (.tmp 43) (.tmp 46) _ rfl w.heap.size 9 i0 _ 1 16 Try.underlying26 hi0 hz0 hz1 hz2 rfl (by omega) (v2) 1 ([Value.string x]) rfl ((by have h := HO2.out; simpa using h : World.ownsRow w2 w.heap.size 9 1 v2 1 [Value.string x])) w.heap.size none 0 0 ([]) rfl (Reads.none_) (fun u hu => by simp at hu) (by simp [maxLen]) (by omega) (by exact HX2.out.size) ?_; clear hi0 hz0 hz1 hz2; intro v3 w3 hown1 hg1 hat1; have HO3 := hide hown1; have HX3 : Hid (IsX w w3) := hide (IsX.grown (HX2.out) hg1 (by intro z hz; exact (HO2.out.lt z hz).1)); clear hown1 hg1 hat1))
  go_ret
  have h : World.ownsRow w3 w.heap.size 9 1 v3 1 [.string x] := by have h := HO3.out; simpa using h
  obtain ⟨A, c, rfl⟩ := row_slice h
  exact ⟨A, c, rfl, h, HX3.out⟩
theorem c_l21PutA (A : Option Addr) (n c base : Nat) (xs : List ByteArray) (x : ByteArray) (w : World) (hnn : n = xs.length) (hn : n ≤ 1048576) (hb : base ≤ w.heap.size) (hO : w.ownsRow base 9 1 (.slice A n c) n (xs.flatMap strC)) :
    Calls Try.prog 42 #[.slice A n c, .string x] w fun e w' => ∃ A' c', e = .returned (.slice A' (putS xs x).length c') ∧ w'.ownsRow base 9 1 (.slice A' (putS xs x).length c') (putS xs x).length ((putS xs x).flatMap strC) ∧ IsX w w' := by
  rcases hO.2 with ⟨h1, h0⟩ | ⟨g, cap, cur, hv, hg, hh, h1, h2, h3, h4⟩
  · injection h1 with e1 e2 e3
    subst e1 e2 e3
    have hk := List.eq_nil_of_length_eq_zero hnn.symm
    subst hk
    refine (c_l21Put0 x w).mono ?_
    rintro e w1 ⟨A', c', rfl, ho, hx⟩
    exact ⟨A', c', rfl, row_le ho hb, hx⟩
  · injection hv with e1 e2 e3
    subst e1 e3
    refine (c_l21Put g n c base xs x w hnn hn h1 hb hO).mono ?_
    rintro e w1 ⟨g', c', rfl, _, ho, hx⟩
    exact ⟨_, c', rfl, ho, hx⟩
end Go.Proofs.Ytegehdhdlljikaa
