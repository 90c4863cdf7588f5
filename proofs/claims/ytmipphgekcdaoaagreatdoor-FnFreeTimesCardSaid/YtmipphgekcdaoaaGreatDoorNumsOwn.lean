/- Copies of lists of numbers: l00Own and slices.Clone. Conditions: lists no longer than 2^40. -/
import Derived.Test.YtmipphgekcdaoaaGreatDoorLInt64
import Derived.Test.YtmipphgekcdaoaaGreatDoorOwn
namespace Go.Proofs.YtmipphgekcdaoaaGreatDoor
set_option linter.unusedVariables false
open Go.RowKit

theorem own_form {w : World} {base e size n : Nat} {v : Value} {xs : List Value} (h : w.ownsRow base e size v n xs) : ∃ A c, v = .slice A n c := by
  rcases h.2 with ⟨rfl, rfl⟩ | ⟨g, cap, cur, rfl, _⟩
  · exact ⟨none, 0, rfl⟩
  · exact ⟨_, _, rfl⟩
theorem cells_one (xs : List Int) : ∀ u ∈ xs.flatMap intC, u.oneCell' = true := by
  intro u hu
  rw [List.mem_flatMap] at hu
  obtain ⟨x, _, hx⟩ := hu
  simp only [intC, List.mem_singleton] at hx
  subst hx; rfl

set_option maxHeartbeats 800000 in
theorem c_Clone (A : Option Addr) (c : Nat) (xs : List Int) (w : World) (hn : xs.length ≤ 1099511627776) (hA : Rd intC 1 w A xs) :
    Calls Tryz.prog 39 #[.slice A xs.length c] w fun e w' => ∃ A' c', e = .returned (.slice A' xs.length c') ∧ Own intC 1 2 w' w.heap.size (.slice A' xs.length c') xs ∧ IsX w w' := by
  rcases A with _ | a
  · have hx0 : xs = [] := by
      cases xs with
      | nil => rfl
      | cons y ys => obtain ⟨b, off, e, _⟩ := hA 0 y rfl; cases e
    subst hx0
    clear hA hn
    have hq := fun (W : World) => Lib.run_eql_slice_nil (P := Tryz.prog) W 25 2 none 0 c 0 0 Tryz.underlying25
    go_enter Tryz.func39, Tryz.ntmps39
    go_wp2
    go_ret
    exact ⟨none, 0, rfl, World.ownsRow_nil _ _ _ _, IsX.refl _⟩
  · skip
    have HI := hide (info_parts Int64_info)
    have HR := hide (hA.reads (by omega) intC_len)
    obtain ⟨n, hnn⟩ : ∃ n, n = xs.length := ⟨_, rfl⟩
    have HN := hide hnn
    rw [← hnn] at hn ⊢
    have HR' := hide (show Reads (w.alloc (.cells #[] 2)) w.heap.size 1 (some a) n (xs.flatMap intC) from hnn ▸ HR.out.alloc (Nat.le_refl _) _)
    clear hnn HR
    clear hA
    have hq := fun (W : World) => Lib.run_eql_slice_nil (P := Tryz.prog) W 25 2 (some a) n c 0 0 Tryz.underlying25
    go_enter Tryz.func39, Tryz.ntmps39
    go_wp2_with (at_builtin; obtain ⟨i0, hi0, hz0, hz1, hz2⟩ := HI.out; refine wpList_append_any _ rfl (.tmp 5) (.tmp 6) _ rfl w.heap.size 2 i0 _ 1 8 Tryz.underlying25 hi0 hz0 hz1 hz2 rfl (by omega) (.slice (some ⟨w.heap.size, 0, none⟩) 0 0) 0 [] rfl (World.ownsRow_made w #[] 0 (Nat.le_refl _) (by simp [maxLen]) rfl) w.heap.size (some a) n c (xs.flatMap intC) rfl HR'.out (cells_one xs) (by simp only [maxLen]; omega) (by omega) (by simp) ?_; clear hi0 hz0 hz1 hz2; intro v1 w1 hown1 hg1 hat1)
    have HO := hide hown1
    have hx1 : IsX w w1 := IsX.grown ((IsX.refl w).alloc _) hg1 (by intro k hk; simp [Value.ownBlock] at hk; omega)
    clear hown1 hg1 hat1
    go_ret
    have ho := HO.out
    rw [Nat.zero_add, List.nil_append] at ho
    obtain ⟨A', c', rfl⟩ := own_form ho
    exact ⟨A', c', rfl, HN.out ▸ ho, hx1⟩

end Go.Proofs.YtmipphgekcdaoaaGreatDoor
