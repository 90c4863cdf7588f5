/- What the searches share: a node's budget, the cells of a search's struct, and results of three parts. Conditions: none. -/
import Derived.Test.YtmipphgekcdaoaaGreatDoorHunt
import Derived.Test.YtmipphgekcdaoaaGreatDoorFrame
import Derived.Test.YtmipphgekcdaoaaGreatDoorNumsOwn
import Derived.Test.YtmipphgekcdaoaaGreatDoorMarks
import Derived.StillTailTactics
import Derived.Deep.RegionHeld3
import Derived.Deep.DeepCutAuto
import Derived.Deep.CutRange
namespace Go.Proofs.YtmipphgekcdaoaaGreatDoor
set_option linter.unusedVariables false
open Go.RowKit

def Got.nd (g : Got) (t : Bool) : Got := if g.may t = true then g.pay else g.no t
def NodeQ (X T : Nat) (cs : Array Value) (b : Bool) (w : World) (e : Ending) (w' : World) : Prop := e = .returned (.bool b) ∧ w.grownBy w' (some X) ∧ Blk w' X T cs
theorem one_readsZ (w : World) (t : Nat) (u : Int) : Reads (w.alloc (.cells #[.int .i64 u] t)) (w.alloc (.cells #[.int .i64 u] t)).heap.size 1 (some ⟨w.heap.size, 0, none⟩) 1 [.int .i64 u] :=
  Rd.reads (cells := intC) (xs := [u]) (by omega) intC_len (Blk.rd (cells := intC) (xs := [u]) (t := t) intC_len (Blk.new w t #[.int .i64 u]))
theorem one_oneZ (u : Int) : ∀ x ∈ [Value.int .i64 u], x.oneCell' = true := by
  intro x hx
  simp only [List.mem_singleton] at hx
  subst hx; rfl
def cutC (vl : Value) (lost : Int) (vr : Value) (bud : Int) (vc vb : Value) (g : Got) : Array Value := #[vl, .int .i64 lost, vr, vc, vb, .int .i64 g.most, .int .i64 (bud - (g.left : Int)), .int .i64 bud, .bool g.full]
def skC (vl : Value) (lost : Int) (vc vb : Value) (g : Got) : Array Value := #[vl, .int .i64 lost, vc, vb, .int .i64 g.most, .int .i64 (g.left : Int)]
theorem flat_snoc (ch : List Int) (i : Int) : (ch ++ [i]).flatMap intC = ch.flatMap intC ++ [.int .i64 i] := by simp [intC]
theorem intC_snoc {ch : List Int} {i : Int} {m : Nat} (h : ch.length = m) : (ch ++ [i]).length = m + 1 := by simp [h]
def Sl3Post {α : Type} (cells : α → List Value) (k t : Nat) (w : World) (zs : List α) (m code : Int) (e : Ending) (w' : World) : Prop :=
  ∃ A c, e = .returned (.tuple #[.slice A zs.length c, .int .i64 m, .int .i64 code]) ∧ Own cells k t w' w.heap.size (.slice A zs.length c) zs ∧ IsX w w'
theorem Sl3Post.none {α : Type} {cells : α → List Value} {k t : Nat} {w w' : World} {zs : List α} {m code : Int} {e : Ending} (hz : zs = []) (he : e = .returned (.tuple #[.slice none 0 0, .int .i64 m, .int .i64 code])) (hx : IsX w w') : Sl3Post cells k t w zs m code e w' := by
  subst hz; exact ⟨Option.none, 0, he, World.ownsRow_nil _ _ _ _, hx⟩
end Go.Proofs.YtmipphgekcdaoaaGreatDoor
