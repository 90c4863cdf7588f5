/- Copies of runs whose slices are copied too: l21Own and cloneRuns. Conditions: lists no longer than 2^20. -/
import Derived.Test.YtegehdhdlljikaaRunMarks
import Derived.Test.YtegehdhdlljikaaOwn
import Derived.Deep.RegionHeldLaw
import Derived.Deep.RegionHeld3
namespace Go.Proofs.Ytegehdhdlljikaa
set_option linter.unusedVariables false
open Go.RowKit

theorem own_formR {w : World} {base e size n : Nat} {v : Value} {xs : List Value} (h : w.ownsRow base e size v n xs) : ∃ A c, v = .slice A n c := by
  rcases h.2 with ⟨rfl, rfl⟩ | ⟨g, cap, cur, rfl, _⟩
  · exact ⟨none, 0, rfl⟩
  · exact ⟨_, _, rfl⟩
theorem str_one (xs : List ByteArray) : ∀ u ∈ xs.flatMap strC, u.oneCell' = true := by
  intro u hu
  rw [List.mem_flatMap] at hu
  obtain ⟨x, _, hx⟩ := hu
  simp only [strC, List.mem_singleton] at hx
  subst hx; rfl
theorem rem_one (xs : List RemarkD) : ∀ u ∈ xs.flatMap RemarkD.cells, u.oneCell' = true := by
  intro u hu
  rw [List.mem_flatMap] at hu
  obtain ⟨x, _, hx⟩ := hu
  simp only [RemarkD.cells, List.mem_cons, List.not_mem_nil, or_false] at hx
  rcases hx with rfl | rfl | rfl | rfl <;> rfl
theorem run_one (d : Int) (ca ra : Option Addr) (cn cc rn rc : Nat) (cl rl : List Value) : ∀ u ∈ RunE.cells ⟨.int .i64 d, ca, cn, cc, cl, ra, rn, rc, rl⟩, u.oneCell' = true := by
  intro u hu
  simp only [RunE.cells, RunE.cv, RunE.rv, List.mem_cons, List.not_mem_nil, or_false] at hu
  rcases hu with rfl | rfl | rfl <;> rfl
theorem run_reads (W : World) (e : RunE) : Reads (W.alloc (.cells #[e.day, e.cv, e.rv] 31)) (W.alloc (.cells #[e.day, e.cv, e.rv] 31)).heap.size 3 (some ⟨W.heap.size, 0, none⟩) 1 e.cells := by
  have h := Rd.reads (cells := RunE.cells) (xs := [e]) (by omega) RunE.cells_len (Blk.rd (cells := RunE.cells) (xs := [e]) (t := 31) RunE.cells_len (Blk.new W 31 #[e.day, e.cv, e.rv]))
  simpa using h
theorem take_snoc {α : Type} {xs : List α} {k : Nat} (h : k < xs.length) : xs.take (k + 1) = xs.take k ++ [xs[k]] := List.take_succ_eq_append_getElem h
end Go.Proofs.Ytegehdhdlljikaa
