/- The open seats: OpenSeats of the reference and of the program. Conditions: lists no longer than 2^40. -/
import Derived.Test.YtmipphgekcdaoaaGreatDoorNums
import Derived.Test.YtmipphgekcdaoaaGreatDoorMarks
import Derived.Test.YtmipphgekcdaoaaGreatDoorNumsOwn
import Derived.StillTailTactics
namespace Go.Proofs.YtmipphgekcdaoaaGreatDoor
set_option linter.unusedVariables false
open Go.RowKit

def hasB (xs : List Int) (k : Int) : Bool := decide (k ∈ xs)
theorem has_yes {xs : List Int} {k : Int} {i : Nat} (h : i < xs.length) (e : xs[i] = k) : hasB xs k = true := by
  simp only [hasB, decide_eq_true_eq]; exact e ▸ List.getElem_mem h
theorem has_no {xs : List Int} {k : Int} (h : ∀ i (h : i < xs.length), xs[i] ≠ k) : hasB xs k = false := by
  simp only [hasB, decide_eq_false_iff_not]
  intro hm
  obtain ⟨i, hi, e⟩ := List.getElem_of_mem hm
  exact h i hi e
theorem one_reads' (w : World) (t : Nat) (u : Int) : Reads (w.alloc (.cells #[.int .i64 u] t)) (w.alloc (.cells #[.int .i64 u] t)).heap.size 1 (some ⟨w.heap.size, 0, none⟩) 1 [.int .i64 u] :=
  Rd.reads (cells := intC) (xs := [u]) (by omega) intC_len (Blk.rd (cells := intC) (xs := [u]) (t := t) intC_len (Blk.new w t #[.int .i64 u]))
theorem one_one' (u : Int) : ∀ x ∈ [Value.int .i64 u], x.oneCell' = true := by
  intro x hx
  simp only [List.mem_singleton] at hx
  subst hx; rfl
theorem row_le {w : World} {base base' e size n : Nat} {v : Value} {L : List Value} (h : w.ownsRow base e size v n L) (hb : base' ≤ base) : w.ownsRow base' e size v n L := by
  refine ⟨h.1, ?_⟩
  rcases h.2 with h2 | ⟨g, cap, cur, hv, hg, r⟩
  · exact .inl h2
  · exact .inr ⟨g, cap, cur, hv, Nat.le_trans hb hg, r⟩
theorem row_slice {w : World} {base e size n : Nat} {v : Value} {L : List Value} (h : w.ownsRow base e size v n L) : ∃ A c, v = .slice A n c := by
  rcases h.2 with ⟨rfl, rfl⟩ | ⟨g, cap, cur, hv, _⟩
  · exact ⟨none, 0, rfl⟩
  · exact ⟨_, _, hv⟩

end Go.Proofs.YtmipphgekcdaoaaGreatDoor
