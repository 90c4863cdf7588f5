/- BestBlock of the reference. Conditions: lists no longer than 2^40; a valid table of sines is not needed. -/
import Derived.Test.YtfcfgkkkepifhaaGreatDoorBestLaw
import Derived.Test.YtfcfgkkkepifhaaGreatDoorDomeWS
namespace Go.Proofs.YtfcfgkkkepifhaaGreatDoor
set_option linter.unusedVariables false
open Go.RowKit

def Sl3B (zs : List Int) (m code : Int) (w : World) (e : Ending) (w' : World) : Prop :=
  ∃ A c, e = .returned (.tuple #[.slice A zs.length c, .int .i64 m, .int .i64 code]) ∧ Own intC 1 2 w' w.heap.size (.slice A zs.length c) zs ∧ IsX w w'
theorem Sl3B.none {w w' : World} {zs : List Int} {m code : Int} {e : Ending} (hz : zs = []) (he : e = .returned (.tuple #[.slice none 0 0, .int .i64 m, .int .i64 code])) (hx : IsX w w') : Sl3B zs m code w e w' := by
  subst hz; exact ⟨Option.none, 0, he, World.ownsRow_nil _ _ _ _, hx⟩
def fS (R : Int) (xs : List RingD) (n : Nat) (k : Nat) : Int := sumS (scoreOf R xs) (k : Int) n
def bestO (R : Int) (xs : List RingD) (ps : List Int) (n : Int) : Option Nat := bestL (fS R xs n.toNat) (startsB (blockB xs ps n.toNat) (sumCount xs).toNat)
def bestK (x : DomeD) (xs : List RingD) (ps : List Int) (n : Int) : Int := if x.okB = true then manyC xs ps n else 1
def bestZ (x : DomeD) (xs : List RingD) (ps : List Int) (n : Int) : List Int := if bestK x xs ps n = 0 then (match bestO x.Radius xs ps n with | some k => blockL (k : Int) n.toNat | none => []) else []
def bestM (x : DomeD) (xs : List RingD) (ps : List Int) (n : Int) : Int := if bestK x xs ps n = 0 then (match bestO x.Radius xs ps n with | some k => fS x.Radius xs n.toNat k | none => 0) else 0
def bestC (x : DomeD) (xs : List RingD) (ps : List Int) (n : Int) : Int := if bestK x xs ps n = 0 then (match bestO x.Radius xs ps n with | some _ => 0 | none => 3) else bestK x xs ps n
section
variable {x : DomeD} {xs : List RingD} {ps : List Int} {n : Int}
theorem best_bad (h : bestK x xs ps n ≠ 0) : bestZ x xs ps n = [] ∧ bestM x xs ps n = 0 ∧ bestC x xs ps n = bestK x xs ps n := by simp [bestZ, bestM, bestC, h]
theorem bestK_dome (h : x.okB = false) : bestK x xs ps n = 1 := by simp [bestK, h]
theorem bestK_ok (h : x.okB = true) : bestK x xs ps n = manyC xs ps n := by simp [bestK, h]
theorem best_some {N m : Nat} {R : Int} {k : Nat} (hk : bestK x xs ps (N : Int) = 0) (hm : sumCount xs = (m : Int)) (hR : R = x.Radius) (h : bestL (fS R xs N) (startsB (blockB xs ps N) m) = some k) : bestZ x xs ps (N : Int) = blockL (k : Int) N ∧ bestM x xs ps (N : Int) = fS R xs N k ∧ bestC x xs ps (N : Int) = 0 := by
  subst hR
  have h' : bestO x.Radius xs ps (N : Int) = some k := by unfold bestO; rw [hm]; simpa using h
  simp [bestZ, bestM, bestC, hk, h']
theorem best_none {N m : Nat} {R : Int} (hk : bestK x xs ps (N : Int) = 0) (hm : sumCount xs = (m : Int)) (hR : R = x.Radius) (h : bestL (fS R xs N) (startsB (blockB xs ps N) m) = none) : bestZ x xs ps (N : Int) = [] ∧ bestM x xs ps (N : Int) = 0 ∧ bestC x xs ps (N : Int) = 3 := by
  subst hR
  have h' : bestO x.Radius xs ps (N : Int) = none := by unfold bestO; rw [hm]; simpa using h
  simp [bestZ, bestM, bestC, hk, h']
end
theorem bestZ_len (x : DomeD) (xs : List RingD) (ps : List Int) (n : Int) : (bestZ x xs ps n).length ≤ 1099511627776 := by
  unfold bestZ
  split
  · rename_i h
    unfold bestK at h
    split at h
    · have h2 := (many_zero h).2
      have := inB_true.1 h2
      split
      · rw [blockL_len]; omega
      · simp
    · omega
  · simp
theorem scoreOf_bd (R : Int) (xs : List RingD) (k : Int) : 0 ≤ scoreOf R xs k ∧ scoreOf R xs k ≤ 1000 := scoreZ_bd _ _
theorem fS_bd (R : Int) (xs : List RingD) (n k : Nat) : 0 ≤ fS R xs n k ∧ fS R xs n k ≤ 1000 * (n : Int) := sumS_bd fun _ _ => scoreOf_bd _ _ _
/-- the scores of the first q seats -/
def scL (R : Int) (xs : List RingD) (q : Nat) : List Int := (List.range q).map fun (j : Nat) => scoreOf R xs (j : Int)
theorem scL_len (R : Int) (xs : List RingD) (q : Nat) : (scL R xs q).length = q := by simp [scL]
theorem scL_succ (R : Int) (xs : List RingD) (q : Nat) : scL R xs (q + 1) = scL R xs q ++ [scoreOf R xs (q : Int)] := by simp [scL, List.range_succ]
theorem scL_get {R : Int} {xs : List RingD} {q j : Nat} (h : j < q) : (scL R xs q)[j]? = some (scoreOf R xs (j : Int)) := by simp [scL, h]
theorem blockL_get {k : Int} {n j : Nat} (h : j < n) : (blockL k n)[j]? = some (k + (j : Int)) := by simp [blockL, h]
theorem own_rd' {w : World} {b e n c : Nat} {A : Option Addr} {xs : List Int} (hl : xs.length = n) (h : w.ownsRow b e 1 (.slice A n c) n (xs.flatMap intC)) : Rd intC 1 w A xs := by
  subst hl
  exact Rd.of_own (by omega) intC_len h
/-- the best block so far, as the slots hold it (base: what lay before) -/
def BestSt (R : Int) (xs : List RingD) (n base : Nat) (wr : World) (bv : Value) (most m0 : Int) (o : Option Nat) : Prop :=
  match o with
  | none => (∃ A c, bv = .slice A 0 c) ∧ most = m0
  | some b => (∃ A c, bv = .slice A n c ∧ Own intC 1 2 wr base (.slice A n c) (blockL (b : Int) n)) ∧ most = fS R xs n b
theorem BestSt.x {R : Int} {xs : List RingD} {n base : Nat} {wr wr' : World} {bv : Value} {most m0 : Int} {o : Option Nat} (h : BestSt R xs n base wr bv most m0 o) (hx : IsX wr wr') : BestSt R xs n base wr' bv most m0 o := by
  cases o with
  | none => exact h
  | some b =>
    obtain ⟨⟨A, c, h1, h2⟩, h3⟩ := h
    exact ⟨⟨A, c, h1, h2.x hx⟩, h3⟩
end Go.Proofs.YtfcfgkkkepifhaaGreatDoor
