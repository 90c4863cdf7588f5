/-
  No cell of these rows narrows 'for every input' (looked for: loops, veiled, ifaces, maps, wideKeys, modest, calm, conditions, laid).
  DERIVED. THE GIVEN ROWS OF THIS SEAT. 6 by the template 'for every input the law returns true; each argument reads behind the call as it read before'; 0 by the template 'total and deterministic' (their statements: YtkepoedicgognaaTotals.lean).
  GIVEN WITH THE SEED: the statements are not yours to turn. If you find one false, say at which input.
  Laid BY PROGRAM, IN A SANDBOX (cutbox-rows.mjs): the forced cells as the released guide's own fill.sh prints them over the translation 291a73492e1c932f… (all of the seat's roots in one cut). By AI agents, Wed Nov 11 2026. No macro, syntax, notation, axiom, sorry.
-/
import Derived.Test.YtkepoedicgognaaChecked
import GoSem.Claim
import GoSem.ClaimJoined
import GoSem.ClaimMapViews
import Derived.JoinedTies
import Derived.KernelRfl
namespace Go.Proofs.Ytkepoedicgognaa
/- THE CELL 'sum', in the pinned program and in every row, IS THE sha256 OF THE DUMP (.gsa) THAT YtkepoedicgognaaProg.lean LOADS. Nothing in Lean hashes anything: it is a label: what it is worth is what the hold of that sum in a sandbox is worth. -/
noncomputable def Try.pinned : Pinned := { name := "ytkepoedicgognaa", sum := "291a73492e1c932f33fb0548189c0e07f33833953ce625deed963fc893c0cbe1", checked := Try.checked }
namespace Rows
def none {H : Type} : Left H := { results := [], args := [] }

/-- 'laws.FnExactFirstBlock': WHATEVER THE INPUT: true; the input reads as it did. -/
def fnExactFirstBlockSpec : ChangeSpec := { name := "fnExactFirstBlock", fn := fun _ => fun
  | [d1, d2, d3] => { results := [.lit (.bool true)], args := [d1, d2, d3] }
  | _ => none }
def fnExactFirstBlockRow : OpenClaim := { program := "ytkepoedicgognaa", sum := "291a73492e1c932f33fb0548189c0e07f33833953ce625deed963fc893c0cbe1", func := "loop.example/g00955/laws.FnExactFirstBlock", spec := "fnExactFirstBlock", apart := false }
def FnExactFirstBlockSaid : Prop := fnExactFirstBlockRow.holds Try.pinned (OpenSpec.ofChange fnExactFirstBlockSpec)

/-- ITS FALSE NEIGHBOUR: 'it returns false'. Refute it at one input. -/
def fnExactFirstBlockWrong : ChangeSpec := { name := "fnExactFirstBlock", fn := fun _ => fun
  | [d1, d2, d3] => { results := [.lit (.bool false)], args := [d1, d2, d3] }
  | _ => none }
def FnExactFirstBlockWrongFalsely : Prop := fnExactFirstBlockRow.holds Try.pinned (OpenSpec.ofChange fnExactFirstBlockWrong)

/-- 'laws.FnExactLastRehearsed': WHATEVER THE INPUT: true; the input reads as it did. -/
def fnExactLastRehearsedSpec : ChangeSpec := { name := "fnExactLastRehearsed", fn := fun _ => fun
  | [d1, d2] => { results := [.lit (.bool true)], args := [d1, d2] }
  | _ => none }
def fnExactLastRehearsedRow : OpenClaim := { program := "ytkepoedicgognaa", sum := "291a73492e1c932f33fb0548189c0e07f33833953ce625deed963fc893c0cbe1", func := "loop.example/g00955/laws.FnExactLastRehearsed", spec := "fnExactLastRehearsed", apart := false }
def FnExactLastRehearsedSaid : Prop := fnExactLastRehearsedRow.holds Try.pinned (OpenSpec.ofChange fnExactLastRehearsedSpec)

/-- ITS FALSE NEIGHBOUR: 'it returns false'. Refute it at one input. -/
def fnExactLastRehearsedWrong : ChangeSpec := { name := "fnExactLastRehearsed", fn := fun _ => fun
  | [d1, d2] => { results := [.lit (.bool false)], args := [d1, d2] }
  | _ => none }
def FnExactLastRehearsedWrongFalsely : Prop := fnExactLastRehearsedRow.holds Try.pinned (OpenSpec.ofChange fnExactLastRehearsedWrong)

/-- 'laws.FnExactOpenRemarks': WHATEVER THE INPUT: true; the input reads as it did. -/
def fnExactOpenRemarksSpec : ChangeSpec := { name := "fnExactOpenRemarks", fn := fun _ => fun
  | [d] => { results := [.lit (.bool true)], args := [d] }
  | _ => none }
def fnExactOpenRemarksRow : OpenClaim := { program := "ytkepoedicgognaa", sum := "291a73492e1c932f33fb0548189c0e07f33833953ce625deed963fc893c0cbe1", func := "loop.example/g00955/laws.FnExactOpenRemarks", spec := "fnExactOpenRemarks", apart := false }
def FnExactOpenRemarksSaid : Prop := fnExactOpenRemarksRow.holds Try.pinned (OpenSpec.ofChange fnExactOpenRemarksSpec)

/-- ITS FALSE NEIGHBOUR: 'it returns false'. Refute it at one input. -/
def fnExactOpenRemarksWrong : ChangeSpec := { name := "fnExactOpenRemarks", fn := fun _ => fun
  | [d] => { results := [.lit (.bool false)], args := [d] }
  | _ => none }
def FnExactOpenRemarksWrongFalsely : Prop := fnExactOpenRemarksRow.holds Try.pinned (OpenSpec.ofChange fnExactOpenRemarksWrong)

/-- 'laws.FnExactChangesIn': WHATEVER THE INPUT: true; the input reads as it did. -/
def fnExactChangesInSpec : ChangeSpec := { name := "fnExactChangesIn", fn := fun _ => fun
  | [d1, d2] => { results := [.lit (.bool true)], args := [d1, d2] }
  | _ => none }
def fnExactChangesInRow : OpenClaim := { program := "ytkepoedicgognaa", sum := "291a73492e1c932f33fb0548189c0e07f33833953ce625deed963fc893c0cbe1", func := "loop.example/g00955/laws.FnExactChangesIn", spec := "fnExactChangesIn", unfollowed := true, recurses := true, apart := false }
def FnExactChangesInSaid : Prop := fnExactChangesInRow.holds Try.pinned (OpenSpec.ofChange fnExactChangesInSpec)

/-- ITS FALSE NEIGHBOUR: 'it returns false'. Refute it at one input. -/
def fnExactChangesInWrong : ChangeSpec := { name := "fnExactChangesIn", fn := fun _ => fun
  | [d1, d2] => { results := [.lit (.bool false)], args := [d1, d2] }
  | _ => none }
def FnExactChangesInWrongFalsely : Prop := fnExactChangesInRow.holds Try.pinned (OpenSpec.ofChange fnExactChangesInWrong)

/-- 'laws.FnExactFreeTimes': WHATEVER THE INPUT: true; the input reads as it did. -/
def fnExactFreeTimesSpec : ChangeSpec := { name := "fnExactFreeTimes", fn := fun _ => fun
  | [d1, d2, d3, d4] => { results := [.lit (.bool true)], args := [d1, d2, d3, d4] }
  | _ => none }
def fnExactFreeTimesRow : OpenClaim := { program := "ytkepoedicgognaa", sum := "291a73492e1c932f33fb0548189c0e07f33833953ce625deed963fc893c0cbe1", func := "loop.example/g00955/laws.FnExactFreeTimes", spec := "fnExactFreeTimes", unfollowed := true, recurses := true, apart := false }
def FnExactFreeTimesSaid : Prop := fnExactFreeTimesRow.holds Try.pinned (OpenSpec.ofChange fnExactFreeTimesSpec)

/-- ITS FALSE NEIGHBOUR: 'it returns false'. Refute it at one input. -/
def fnExactFreeTimesWrong : ChangeSpec := { name := "fnExactFreeTimes", fn := fun _ => fun
  | [d1, d2, d3, d4] => { results := [.lit (.bool false)], args := [d1, d2, d3, d4] }
  | _ => none }
def FnExactFreeTimesWrongFalsely : Prop := fnExactFreeTimesRow.holds Try.pinned (OpenSpec.ofChange fnExactFreeTimesWrong)

/-- 'laws.FnExactBookSeats': WHATEVER THE INPUT: true; the input reads as it did. -/
def fnExactBookSeatsSpec : ChangeSpec := { name := "fnExactBookSeats", fn := fun _ => fun
  | [d1, d2, d3] => { results := [.lit (.bool true)], args := [d1, d2, d3] }
  | _ => none }
def fnExactBookSeatsRow : OpenClaim := { program := "ytkepoedicgognaa", sum := "291a73492e1c932f33fb0548189c0e07f33833953ce625deed963fc893c0cbe1", func := "loop.example/g00955/laws.FnExactBookSeats", spec := "fnExactBookSeats", recurses := true, apart := false }
def FnExactBookSeatsSaid : Prop := fnExactBookSeatsRow.holds Try.pinned (OpenSpec.ofChange fnExactBookSeatsSpec)

/-- ITS FALSE NEIGHBOUR: 'it returns false'. Refute it at one input. -/
def fnExactBookSeatsWrong : ChangeSpec := { name := "fnExactBookSeats", fn := fun _ => fun
  | [d1, d2, d3] => { results := [.lit (.bool false)], args := [d1, d2, d3] }
  | _ => none }
def FnExactBookSeatsWrongFalsely : Prop := fnExactBookSeatsRow.holds Try.pinned (OpenSpec.ofChange fnExactBookSeatsWrong)

/- THE SECOND FORM. 'bulk': how many values and letters a reading holds, each counted each time it is reached (what is shared counts as often as it is met; a slice's spare places count too). A statement '..UptoSaid' is the law's where the arguments, and the package variables that the reading takes, are together of bulk at most 1048576: NARROWER than '..Said'. Prove '..Said' where nothing that the law and all that it calls make is longer than what came in: it says more and counts as full. Else prove '..UptoSaid'. A law counts once. -/
mutual
def uptoBulk {H : Type} : DataW H → Nat
  | .lit (.string bytes) => bytes.length + 1
  | .lit _ => 1
  | .nil => 1
  | .ptr d => uptoBulk d + 1
  | .slice elems spare => uptoBulkAll elems + uptoBulkAll spare + 1
  | .agg parts => uptoBulkAll parts + 1
  | .iface _ d => uptoBulk d + 1
  | .map entries => uptoBulkEntries entries + 1
  | .held _ => 1
def uptoBulkAll {H : Type} : List (DataW H) → Nat
  | [] => 0
  | d :: r => uptoBulk d + uptoBulkAll r
def uptoBulkEntries {H : Type} : List (Lit × DataW H) → Nat
  | [] => 0
  | x :: r => uptoBulkEntry x + uptoBulkEntries r
def uptoBulkEntry {H : Type} : Lit × DataW H → Nat
  | (.string bytes, d) => bytes.length + uptoBulk d + 1
  | (_, d) => uptoBulk d + 1
 end
def uptoSmall : (H : Type) → List (DataW H) → Bool := fun _ ds => decide (uptoBulkAll ds ≤ 1048576)
def OpenSpec.upto (s : _root_.Go.ChangeSpec) : _root_.Go.OpenSpec := { _root_.Go.OpenSpec.ofChange s with cond := some uptoSmall }

/-- 'laws.FnExactFirstBlock', WHERE WHAT IT READS IS OF BULK AT MOST 1048576: true; the input reads as it did. -/
def fnExactFirstBlockUptoRow : OpenClaim := { program := "ytkepoedicgognaa", sum := "291a73492e1c932f33fb0548189c0e07f33833953ce625deed963fc893c0cbe1", func := "loop.example/g00955/laws.FnExactFirstBlock", spec := "fnExactFirstBlock", apart := false, narrowed := true }
def FnExactFirstBlockUptoSaid : Prop := fnExactFirstBlockUptoRow.holds Try.pinned (OpenSpec.upto fnExactFirstBlockSpec)

/-- 'laws.FnExactLastRehearsed', WHERE WHAT IT READS IS OF BULK AT MOST 1048576: true; the input reads as it did. -/
def fnExactLastRehearsedUptoRow : OpenClaim := { program := "ytkepoedicgognaa", sum := "291a73492e1c932f33fb0548189c0e07f33833953ce625deed963fc893c0cbe1", func := "loop.example/g00955/laws.FnExactLastRehearsed", spec := "fnExactLastRehearsed", apart := false, narrowed := true }
def FnExactLastRehearsedUptoSaid : Prop := fnExactLastRehearsedUptoRow.holds Try.pinned (OpenSpec.upto fnExactLastRehearsedSpec)

/-- 'laws.FnExactOpenRemarks', WHERE WHAT IT READS IS OF BULK AT MOST 1048576: true; the input reads as it did. -/
def fnExactOpenRemarksUptoRow : OpenClaim := { program := "ytkepoedicgognaa", sum := "291a73492e1c932f33fb0548189c0e07f33833953ce625deed963fc893c0cbe1", func := "loop.example/g00955/laws.FnExactOpenRemarks", spec := "fnExactOpenRemarks", apart := false, narrowed := true }
def FnExactOpenRemarksUptoSaid : Prop := fnExactOpenRemarksUptoRow.holds Try.pinned (OpenSpec.upto fnExactOpenRemarksSpec)

/-- 'laws.FnExactChangesIn', WHERE WHAT IT READS IS OF BULK AT MOST 1048576: true; the input reads as it did. -/
def fnExactChangesInUptoRow : OpenClaim := { program := "ytkepoedicgognaa", sum := "291a73492e1c932f33fb0548189c0e07f33833953ce625deed963fc893c0cbe1", func := "loop.example/g00955/laws.FnExactChangesIn", spec := "fnExactChangesIn", unfollowed := true, recurses := true, apart := false, narrowed := true }
def FnExactChangesInUptoSaid : Prop := fnExactChangesInUptoRow.holds Try.pinned (OpenSpec.upto fnExactChangesInSpec)

/-- 'laws.FnExactFreeTimes', WHERE WHAT IT READS IS OF BULK AT MOST 1048576: true; the input reads as it did. -/
def fnExactFreeTimesUptoRow : OpenClaim := { program := "ytkepoedicgognaa", sum := "291a73492e1c932f33fb0548189c0e07f33833953ce625deed963fc893c0cbe1", func := "loop.example/g00955/laws.FnExactFreeTimes", spec := "fnExactFreeTimes", unfollowed := true, recurses := true, apart := false, narrowed := true }
def FnExactFreeTimesUptoSaid : Prop := fnExactFreeTimesUptoRow.holds Try.pinned (OpenSpec.upto fnExactFreeTimesSpec)

/-- 'laws.FnExactBookSeats', WHERE WHAT IT READS IS OF BULK AT MOST 1048576: true; the input reads as it did. -/
def fnExactBookSeatsUptoRow : OpenClaim := { program := "ytkepoedicgognaa", sum := "291a73492e1c932f33fb0548189c0e07f33833953ce625deed963fc893c0cbe1", func := "loop.example/g00955/laws.FnExactBookSeats", spec := "fnExactBookSeats", recurses := true, apart := false, narrowed := true }
def FnExactBookSeatsUptoSaid : Prop := fnExactBookSeatsUptoRow.holds Try.pinned (OpenSpec.upto fnExactBookSeatsSpec)

end Rows
end Go.Proofs.Ytkepoedicgognaa
