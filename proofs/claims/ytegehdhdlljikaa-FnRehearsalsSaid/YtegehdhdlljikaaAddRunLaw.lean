/- AddRun: what it answers, in plain Lean, and what its two walks share. Conditions: none. -/
import Derived.Test.YtegehdhdlljikaaRunLaw
import Derived.Test.YtegehdhdlljikaaRunsCap
namespace Go.Proofs.Ytegehdhdlljikaa
set_option linter.unusedVariables false
open Go.RowKit

def addRZ (xs : List RunD) (x : RunD) : List RunD := if runsB xs = true ∧ x.okB = true then (if xs.length = 16 then [] else if runsB (xs ++ [x]) = true then xs ++ [x] else []) else []
def addRC (xs : List RunD) (x : RunD) : Int := if runsB xs = true ∧ x.okB = true then (if xs.length = 16 then 5 else if runsB (xs ++ [x]) = true then 0 else 7) else 1
theorem addR_bad {xs : List RunD} {x : RunD} (h : runsB xs = false) : addRZ xs x = [] ∧ addRC xs x = 1 := by simp [addRZ, addRC, h]
theorem addR_one {xs : List RunD} {x : RunD} (h : x.okB = false) : addRZ xs x = [] ∧ addRC xs x = 1 := by simp [addRZ, addRC, h]
theorem addR_full {xs : List RunD} {x : RunD} (h : runsB xs = true) (h1 : x.okB = true) (h2 : xs.length = 16) : addRZ xs x = [] ∧ addRC xs x = 5 := by simp [addRZ, addRC, h, h1, h2]
theorem addR_order {xs : List RunD} {x : RunD} (h : runsB xs = true) (h1 : x.okB = true) (h2 : ¬ xs.length = 16) (h3 : runsB (xs ++ [x]) = false) : addRZ xs x = [] ∧ addRC xs x = 7 := by simp [addRZ, addRC, h, h1, h2, h3]
theorem addR_ok {xs : List RunD} {x : RunD} (h : runsB xs = true) (h1 : x.okB = true) (h2 : ¬ xs.length = 16) (h3 : runsB (xs ++ [x]) = true) : addRZ xs x = xs ++ [x] ∧ addRC xs x = 0 := by simp [addRZ, addRC, h, h1, h2, h3]
theorem addRZ_sm (xs : List RunD) (x : RunD) : ∀ y ∈ addRZ xs x, y.small 1048576 := by
  unfold addRZ
  split
  · split
    · intro y hy; simp at hy
    · split
      · rename_i h; exact runs_small h
      · intro y hy; simp at hy
  · intro y hy; simp at hy
theorem addRZ_len (xs : List RunD) (x : RunD) : (addRZ xs x).length ≤ 1048576 := by
  unfold addRZ
  split
  · split
    · simp
    · split
      · rename_i h; have := (runs_parts h).1; omega
      · simp
  · simp
theorem runR_one (rs : List RunR) : ∀ u ∈ rs.flatMap RunR.cells, u.oneCell' = true := by
  intro u hu
  rw [List.mem_flatMap] at hu
  obtain ⟨x, _, hx⟩ := hu
  simp only [RunR.cells, List.mem_cons, List.not_mem_nil, or_false] at hx
  rcases hx with rfl | rfl | rfl <;> rfl
theorem blk_reads {W : World} {g : Nat} {r : RunR} (h : Blk W g 31 r.cells.toArray) : Reads W W.heap.size 3 (some ⟨g, 0, none⟩) 1 r.cells := by
  have h2 := Rd.reads (cells := RunR.cells) (xs := [r]) (by omega) RunR.cells_len (Blk.rd (cells := RunR.cells) (xs := [r]) (t := 31) RunR.cells_len (by simpa using h))
  simpa using h2
theorem rd_one {W : World} {g : Nat} {r : RunR} (h : Blk W g 31 r.cells.toArray) (hok : r.ok 0 W) : RdRun 0 W (some ⟨g, 0, none⟩) [r.data] :=
  ⟨[r], rfl, Blk.rd (cells := RunR.cells) (xs := [r]) (t := 31) RunR.cells_len (by simpa using h), fun a ha => by simp at ha; subst ha; exact hok⟩
theorem OfL.one {es : List RunE} {x : RunD} (h : OfL es [x]) : ∃ e, es = [e] ∧ e.of x := by
  have hl := h.len
  match es, hl, h with
  | [e], _, h => exact ⟨e, rfl, h.at_ 0 (by simp) (by simp)⟩
theorem of_one {e : RunE} {x : RunD} (h : e.of x) : ∀ u ∈ e.cells, u.oneCell' = true := by
  intro u hu
  simp only [RunE.cells, List.mem_cons, List.not_mem_nil, or_false] at hu
  rcases hu with rfl | rfl | rfl
  · rw [h.day]; rfl
  · rfl
  · rfl
theorem run_cap {w : World} {base n c : Nat} {A : Option Addr} {es : List RunE} (h : RunRow w base (.slice A n c) es) : n ≤ c := by
  rcases h.row.2 with ⟨hv, h0⟩ | ⟨g, cap, cur, hv, _, _, hnc, _⟩
  · injection hv with _ h1 h2; omega
  · injection hv with _ h1 h2; omega
/-- one run more, the row having grown from the world at hand -/
theorem RunRow.push0 {wp w w4 : World} {base : Nat} {v v' : Value} {es : List RunE} {e : RunE} (h : RunRow wp base v es) (hx : IsX wp w) (hb : base ≤ wp.heap.size) (hc : w.ownsRow wp.heap.size 9 1 e.cv e.cn e.cl) (hr : w.ownsRow wp.heap.size 28 4 e.rv e.rn e.rl)
    (hrow : w4.ownsRow base 31 3 v' (es.length + 1) (es.flatMap RunE.cells ++ e.cells)) (hg : w.grownBy w4 v.ownBlock) : RunRow w4 base v' (es ++ [e]) := by
  have ha := h.x hx
  have hl := h.lts
  refine ⟨by rw [List.length_append, List.flatMap_append]; simpa using hrow, fun a hm => ?_, fun a hm => ?_, ?_, ?_⟩
  · rcases List.mem_append.1 hm with h1 | h1
    · exact (ha.cue a h1).kept hg (own_type (ha.cue a h1) ha.row (by omega))
    · simp at h1; subst h1; exact own_mono (hc.kept hg (own_type hc ha.row (by omega))) hb
  · rcases List.mem_append.1 hm with h1 | h1
    · exact (ha.rem a h1).kept hg (own_type (ha.rem a h1) ha.row (by omega))
    · simp at h1; subst h1; exact own_mono (hr.kept hg (own_type hr ha.row (by omega))) hb
  · rw [List.map_append, List.pairwise_append]
    refine ⟨h.sepC, List.pairwise_singleton _ _, fun a ha2 b hb2 g hga hgb => ?_⟩
    obtain ⟨x, hx1, rfl⟩ := List.mem_map.1 ha2
    simp at hb2; subst hb2
    have h1 := (hl x hx1).1 g hga
    have h2 := (hc.lt g hgb).1
    omega
  · rw [List.map_append, List.pairwise_append]
    refine ⟨h.sepR, List.pairwise_singleton _ _, fun a ha2 b hb2 g hga hgb => ?_⟩
    obtain ⟨x, hx1, rfl⟩ := List.mem_map.1 ha2
    simp at hb2; subst hb2
    have h1 := (hl x hx1).2 g hga
    have h2 := (hr.lt g hgb).1
    omega
end Go.Proofs.Ytegehdhdlljikaa
