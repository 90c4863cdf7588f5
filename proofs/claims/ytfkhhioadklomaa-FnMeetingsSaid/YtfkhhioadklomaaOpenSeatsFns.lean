/- The open seats: OpenSeats of the reference and of the program. Conditions: lists no longer than 2^40. -/
import Derived.Test.YtfkhhioadklomaaNums
import Derived.Test.YtfkhhioadklomaaMarks
import Derived.Test.YtfkhhioadklomaaNumsOwn
import Derived.StillTailTactics
namespace Go.Proofs.Ytfkhhioadklomaa
set_option linter.unusedVariables false
open Go.RowKit

def hasB (xs : List Int) (k : Int) : Bool := decide (k ∈ xs)
theorem has_yes {xs : List Int} {k : Int} {i : Nat} (h : i < xs.length) (e : xs[i] = k) : hasB xs k = true := by
  simp only [hasB, decide_eq_true_eq]; exact e ▸ List.getElem_mem h
theorem has_no {xs : List Int} {k : Int} (h : ∀ i (h : i < xs.length), xs[i] ≠ k) : hasB xs k = false := by
  simp only [hasB, decide_eq_false_iff_not]
  intro hm
  obtain ⟨i, hi, e⟩ := List.getElem_of_mem hm
  exact h i hi e
theorem one_reads' (w : World) (t : Nat) (u : Int) : Reads (w.alloc (.cells #[.int .i64 u] t)) (w.alloc (.cells #[.int .i64 u] t)).heap.size 1 (some ⟨w.heap.size, 0, none⟩) 1 [.int .i64 u] :=
  Rd.reads (cells := intC) (xs := [u]) (by omega) intC_len (Blk.rd (cells := intC) (xs := [u]) (t := t) intC_len (Blk.new w t #[.int .i64 u]))
theorem one_one' (u : Int) : ∀ x ∈ [Value.int .i64 u], x.oneCell' = true := by
  intro x hx
  simp only [List.mem_singleton] at hx
  subst hx; rfl
theorem row_le {w : World} {base base' e size n : Nat} {v : Value} {L : List Value} (h : w.ownsRow base e size v n L) (hb : base' ≤ base) : w.ownsRow base' e size v n L := by
  refine ⟨h.1, ?_⟩
  rcases h.2 with h2 | ⟨g, cap, cur, hv, hg, r⟩
  · exact .inl h2
  · exact .inr ⟨g, cap, cur, hv, Nat.le_trans hb hg, r⟩
theorem row_slice {w : World} {base e size n : Nat} {v : Value} {L : List Value} (h : w.ownsRow base e size v n L) : ∃ A c, v = .slice A n c := by
  rcases h.2 with ⟨rfl, rfl⟩ | ⟨g, cap, cur, hv, _⟩
  · exact ⟨none, 0, rfl⟩
  · exact ⟨_, _, hv⟩

set_option maxHeartbeats 800000 in
theorem c_l00Has (A : Option Addr) (c : Nat) (xs : List Int) (k : Int) (w : World) (hn : xs.length ≤ 1099511627776) (hA : Rd intC 1 w A xs) :
    Calls Try.prog 93 #[.slice A xs.length c, .int .i64 k] w fun e w' => e = .returned (.bool (hasB xs k)) ∧ IsX w w' := by
  obtain ⟨n, hnn⟩ : ∃ n, n = xs.length := ⟨_, rfl⟩
  have HN := hide hnn
  rw [← hnn] at hn ⊢
  clear hnn
  go_enter Try.func93, Try.ntmps93
  go_wp2
  go_loopw [5] (fun i wr => ∃ q : Nat, q ≤ n ∧ i = .int .i64 q ∧ Hid (∀ i (h : i < xs.length), i < q → xs[i] ≠ k) ∧ IsX w wr) (fun i _ => n - (intOf i).toNat)
  case atStart => exact ⟨0, Nat.zero_le _, rfl, hide (fun i h hi => absurd hi (by omega)), IsX.refl _⟩
  case round =>
    obtain ⟨q, hq, rfl, HF, p, rfl⟩ := hrel
    by_cases hlt : q < n
    · have hltx : q < xs.length := HN.out ▸ hlt
      obtain ⟨b, off, rfl, hb, c0⟩ := int_rd hA (show xs[q]? = some xs[q] from List.getElem?_eq_getElem _)
      clear hA
      by_cases he : xs[q] = k
      · have HR := hide (has_yes hltx he)
        have hbe : (xs[q] == k) = true := by simpa using he
        clear he
        go_wp2
        go_ret
        exact ⟨by rw [HR.out]; rfl, ⟨p, rfl⟩⟩
      · have hbe : (xs[q] == k) = false := by simpa using he
        have HF' := hide (show ∀ i (h : i < xs.length), i < q + 1 → xs[i] ≠ k from fun i h hi => by
          by_cases e : i = q
          · subst e; exact he
          · exact HF.out i h (by omega))
        clear he
        go_wp2
        go_roundw
        case rel => exact ⟨q + 1, by omega, by go_num, HF', ⟨p, rfl⟩⟩
        case measure => simp [intOf]; omega
    · obtain rfl : q = n := by omega
      have HR := hide (has_no (k := k) (fun i h => HF.out i h (by have := HN.out; omega)))
      clear hA
      go_wp2
      go_ret
      exact ⟨by rw [HR.out]; rfl, ⟨p, rfl⟩⟩

end Go.Proofs.Ytfkhhioadklomaa
