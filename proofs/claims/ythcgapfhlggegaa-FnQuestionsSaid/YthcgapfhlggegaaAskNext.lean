/- nextQuestion and AnswerOrder of the program: an order that keeps to the times. Conditions: those of the theorems alone. -/
import Derived.Test.YthcgapfhlggegaaQuests
import Derived.Test.YthcgapfhlggegaaQuestFnLaw
import Derived.Test.YthcgapfhlggegaaSearch
import Derived.Test.YthcgapfhlggegaaNumsOwn
namespace Go.Proofs.Ythcgapfhlggegaa
set_option linter.unusedVariables false
open Go.RowKit

def boolArr (gs : List Bool) : Array Value := (gs.map Value.bool).toArray
theorem boolArr_len (gs : List Bool) : (boolArr gs).size = gs.length := by simp [boolArr]
theorem boolArr_get {gs : List Bool} {j : Nat} {v : Bool} (h : gs[j]? = some v) : (boolArr gs)[j]? = some (.bool v) := by simp [boolArr, h]
theorem boolArr_set (gs : List Bool) (j : Nat) (v : Bool) : (boolArr gs).setIfInBounds j (.bool v) = boolArr (gs.set j v) := by simp [boolArr, List.map_set]
theorem made_bools (n : Nat) : madeCells (Value.bool false).cells (n * 1) = boolArr (List.replicate n false) := by
  have e : (Value.bool false).cells = #[.bool false] := rfl
  rw [e, Nat.mul_one]
  apply Array.toList_inj.1
  rw [toList_madeCells_one]
  simp [boolArr]
theorem bool_set {w : World} {g t j : Nat} {gs : List Bool} (h : Blk w g t (boolArr gs)) (v : Bool) : Blk (w.setCell ⟨g, j, none⟩ (.bool v)) g t (boolArr (gs.set j v)) := by
  have := h.set_ j (.bool v)
  rwa [boolArr_set] at this
theorem Bool_info : (Try.prog.info? 4).map (fun i => (i.zero, i.size, i.bytes)) = some (some (.bool false), 1, 1) := by kernel_rfl
theorem make_bools (n : Nat) (hn : n ≤ 1099511627776) (W : World) :
    (Instr.makeSlice 53 (.int .i64 (n : Int)) (.int .i64 (n : Int))).run Try.prog W = .ok (.slice (some ⟨W.heap.size, 0, none⟩) n n) (W.alloc (.cells (boolArr (List.replicate n false)) 4)) := by
  obtain ⟨i0, hi0, hz0, hz1, hz2⟩ := info_parts Bool_info
  have h := run_make_rowN (P := Try.prog) 53 4 i0 _ Try.underlying53 hi0 hz0 .i64 .i64 n n (Nat.le_refl _) (by rw [hz2]; omega) (by omega) W
  rw [hz1, made_bools] at h
  exact h

/-- what nextQuestion answers -/
def NextP (xs : List QuestionD) (gs : List Bool) (now r : Int) : Prop := r = -1 ∨ ∃ k : Nat, r = (k : Int) ∧ k < xs.length ∧ gs[k]? = some false ∧ (questAt xs k).Arrived ≤ now
set_option maxHeartbeats 3200000 in
set_option maxRecDepth 100000 in
theorem c_nextQuestion (A : Option Addr) (c : Nat) (xs : List QuestionD) (GB cg : Nat) (gs : List Bool) (now : Int) (w : World) (hn16 : xs.length ≤ 16) (hgl : gs.length = xs.length) (hcg : xs.length ≤ cg) (hA : Rd QuestionD.cells 4 w A xs) (hB : Blk w GB 4 (boolArr gs)) :
    Calls Try.prog 24 #[.slice A xs.length c, .slice (some ⟨GB, 0, none⟩) xs.length cg, .int .i64 now] w fun e w' => ∃ r : Int, e = .returned (.int .i64 r) ∧ NextP xs gs now r ∧ IsX w w' := by
  obtain ⟨n, hnn⟩ : ∃ n, n = xs.length := ⟨_, rfl⟩
  have HN := hide hnn
  rw [← hnn] at hn16 hgl hcg ⊢
  clear hnn
  have HGL := hide hgl
  have HA := hide hA
  have HB := hide hB
  clear hgl hA hB
  go_enter Try.func24, Try.ntmps24
  go_wp2
  go_loopw [7, 12] (fun bv iv wr => ∃ (k : Nat) (r : Int), k ≤ n ∧ iv = .int .i64 k ∧ bv = .int .i64 r ∧ Hid (NextP xs gs now r) ∧ IsX w wr) (fun _ iv _ => n - (intOf iv).toNat)
  case atStart => exact ⟨0, -1, Nat.zero_le _, rfl, rfl, hide (.inl rfl), IsX.refl _⟩
  case round =>
    obtain ⟨k, r, hk, rfl, rfl, HP, p, rfl⟩ := hrel
    by_cases hlt : k < n
    · have hltx : k < xs.length := HN.out ▸ hlt
      obtain ⟨b, off, rfl, hb, c0, c1, c2, c3⟩ := QuestionD.rd HA.out (show xs[k]? = some xs[k] from List.getElem?_eq_getElem _)
      have hltg : k < gs.length := by rw [HGL.out]; exact hlt
      have z0 : w.cell? ⟨GB, k, none⟩ = some (.bool gs[k]) := (HB.out.cell k).trans (boolArr_get (List.getElem?_eq_getElem hltg))
      have hGB := HB.out.lt
      cases hg : gs[k]
      rotate_left
      · rw [hg] at z0
        clear hg
        go_wp2
        go_roundw
        case rel => exact ⟨k + 1, r, by omega, by go_num, rfl, HP, IsX.alloc ⟨p, rfl⟩ _⟩
        case measure => simp [intOf]; omega
      · rw [hg] at z0
        have HGF := hide (show gs[k]? = some false by rw [List.getElem?_eq_getElem hltg, hg])
        clear hg
        by_cases har : xs[k].Arrived ≤ now
        rotate_left
        · have hd : decide (xs[k].Arrived > now) = true := decide_eq_true (by omega)
          go_wp2
          go_roundw
          case rel => exact ⟨k + 1, r, by omega, by go_num, rfl, HP, IsX.alloc ⟨p, rfl⟩ _⟩
          case measure => simp [intOf]; omega
        · have hd : decide (xs[k].Arrived > now) = false := decide_eq_false (by omega)
          have HNEW : Hid (NextP xs gs now (k : Int)) := hide (.inr ⟨k, rfl, hltx, HGF.out, by rw [questAt_eq hltx]; exact har⟩)
          rcases HP.out with hr | ⟨j, hr, hj, hjg, hja⟩
          · subst hr
            have g0 : decide ((-1 : Int) < 0) = true := rfl
            go_wp2
            refine wp_region_x (by kernel_rfl) (by kernel_rfl) ?_
            repeat (go_big_quiet_step (fail))
            refine wpQuiet_nil ?_
            rintro _ ⟨q, rfl⟩
            go_wp2_with fail
            go_roundw
            case rel => exact ⟨k + 1, (k : Int), by omega, by go_num, rfl, HNEW, IsX.xt (IsX.alloc ⟨p, rfl⟩ _) q⟩
            case measure => simp [intOf]; omega
          · subst hr
            obtain ⟨b', off', e, hb', d0, d1, d2, d3⟩ := QuestionD.rd HA.out (show xs[j]? = some xs[j] from List.getElem?_eq_getElem _)
            injection e with e
            injection e with e1 e2
            subst e1 e2
            have hjn : j < n := HN.out.symm ▸ hj
            have g0 : decide ((j : Int) < 0) = false := decide_eq_false (by omega)
            clear hja
            cases hp : decide (xs[j].Priority < xs[k].Priority)
            rotate_left
            · go_wp2
              refine wp_region_x (by kernel_rfl) (by kernel_rfl) ?_
              repeat (go_big_quiet_step (fail))
              refine wpQuiet_nil ?_
              rintro _ ⟨q, rfl⟩
              go_wp2_with fail
              go_roundw
              case rel => exact ⟨k + 1, (k : Int), by omega, by go_num, rfl, HNEW, IsX.xt (IsX.alloc ⟨p, rfl⟩ _) q⟩
              case measure => simp [intOf]; omega
            · cases he : (xs[k].Priority == xs[j].Priority)
              · go_wp2
                refine wp_region_x (by kernel_rfl) (by kernel_rfl) ?_
                repeat (go_big_quiet_step (fail))
                refine wpQuiet_nil ?_
                rintro _ ⟨q, rfl⟩
                go_wp2_with fail
                go_roundw
                case rel => exact ⟨k + 1, _, by omega, by go_num, rfl, HP, IsX.xt (IsX.alloc ⟨p, rfl⟩ _) q⟩
                case measure => simp [intOf]; omega
              · cases ha : decide (xs[k].Arrived < xs[j].Arrived)
                · go_wp2
                  refine wp_region_x (by kernel_rfl) (by kernel_rfl) ?_
                  repeat (go_big_quiet_step (fail))
                  refine wpQuiet_nil ?_
                  rintro _ ⟨q, rfl⟩
                  go_wp2_with fail
                  go_roundw
                  case rel => exact ⟨k + 1, _, by omega, by go_num, rfl, HP, IsX.xt (IsX.alloc ⟨p, rfl⟩ _) q⟩
                  case measure => simp [intOf]; omega
                · go_wp2
                  refine wp_region_x (by kernel_rfl) (by kernel_rfl) ?_
                  repeat (go_big_quiet_step (fail))
                  refine wpQuiet_nil ?_
                  rintro _ ⟨q, rfl⟩
                  go_wp2_with fail
                  go_roundw
                  case rel => exact ⟨k + 1, (k : Int), by omega, by go_num, rfl, HNEW, IsX.xt (IsX.alloc ⟨p, rfl⟩ _) q⟩
                  case measure => simp [intOf]; omega
    · obtain rfl : k = n := by omega
      go_wp2
      go_ret
      exact ⟨r, rfl, HP.out, ⟨p, rfl⟩⟩
end Go.Proofs.Ythcgapfhlggegaa
