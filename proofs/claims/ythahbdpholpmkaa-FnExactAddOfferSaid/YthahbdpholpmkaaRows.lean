/-
  No cell of these rows narrows 'for every input' (looked for: loops, veiled, ifaces, maps, wideKeys, modest, calm, conditions, laid).
  DERIVED. THE GIVEN ROWS OF THIS SEAT. 9 by the template 'for every input the law returns true; each argument reads behind the call as it read before'; 0 by the template 'total and deterministic' (their statements: YthahbdpholpmkaaTotals.lean).
  GIVEN WITH THE SEED: the statements are not yours to turn. If you find one false, say at which input.
  Laid BY PROGRAM, IN A SANDBOX (cutbox-rows.mjs): the forced cells as the released guide's own fill.sh prints them over the translation bc29bc2de8452afb… (all of the seat's roots in one cut). By AI agents, Wed Nov 11 2026. No macro, syntax, notation, axiom, sorry.
-/
import Derived.Test.YthahbdpholpmkaaChecked
import GoSem.Claim
import GoSem.ClaimJoined
import GoSem.ClaimMapViews
import Derived.JoinedTies
import Derived.KernelRfl
namespace Go.Proofs.Ythahbdpholpmkaa
/- THE CELL 'sum', in the pinned program and in every row, IS THE sha256 OF THE DUMP (.gsa) THAT YthahbdpholpmkaaProg.lean LOADS. Nothing in Lean hashes anything: it is a label: what it is worth is what the hold of that sum in a sandbox is worth. -/
noncomputable def Try.pinned : Pinned := { name := "ythahbdpholpmkaa", sum := "bc29bc2de8452afb9d112ee2710bb27daf2682eca9c0a9e8368eeb2801efb624", checked := Try.checked }
namespace Rows
def none {H : Type} : Left H := { results := [], args := [] }

/-- 'laws.FnExactGreedyDay': WHATEVER THE INPUT: true; the input reads as it did. -/
def fnExactGreedyDaySpec : ChangeSpec := { name := "fnExactGreedyDay", fn := fun _ => fun
  | [d1, d2] => { results := [.lit (.bool true)], args := [d1, d2] }
  | _ => none }
def fnExactGreedyDayRow : OpenClaim := { program := "ythahbdpholpmkaa", sum := "bc29bc2de8452afb9d112ee2710bb27daf2682eca9c0a9e8368eeb2801efb624", func := "loop.example/g00955/laws.FnExactGreedyDay", spec := "fnExactGreedyDay", unfollowed := true, recurses := true, apart := false }
def FnExactGreedyDaySaid : Prop := fnExactGreedyDayRow.holds Try.pinned (OpenSpec.ofChange fnExactGreedyDaySpec)

/-- ITS FALSE NEIGHBOUR: 'it returns false'. Refute it at one input. -/
def fnExactGreedyDayWrong : ChangeSpec := { name := "fnExactGreedyDay", fn := fun _ => fun
  | [d1, d2] => { results := [.lit (.bool false)], args := [d1, d2] }
  | _ => none }
def FnExactGreedyDayWrongFalsely : Prop := fnExactGreedyDayRow.holds Try.pinned (OpenSpec.ofChange fnExactGreedyDayWrong)

/-- 'laws.FnExactConflicts': WHATEVER THE INPUT: true; the input reads as it did. -/
def fnExactConflictsSpec : ChangeSpec := { name := "fnExactConflicts", fn := fun _ => fun
  | [d1, d2] => { results := [.lit (.bool true)], args := [d1, d2] }
  | _ => none }
def fnExactConflictsRow : OpenClaim := { program := "ythahbdpholpmkaa", sum := "bc29bc2de8452afb9d112ee2710bb27daf2682eca9c0a9e8368eeb2801efb624", func := "loop.example/g00955/laws.FnExactConflicts", spec := "fnExactConflicts", apart := false }
def FnExactConflictsSaid : Prop := fnExactConflictsRow.holds Try.pinned (OpenSpec.ofChange fnExactConflictsSpec)

/-- ITS FALSE NEIGHBOUR: 'it returns false'. Refute it at one input. -/
def fnExactConflictsWrong : ChangeSpec := { name := "fnExactConflicts", fn := fun _ => fun
  | [d1, d2] => { results := [.lit (.bool false)], args := [d1, d2] }
  | _ => none }
def FnExactConflictsWrongFalsely : Prop := fnExactConflictsRow.holds Try.pinned (OpenSpec.ofChange fnExactConflictsWrong)

/-- 'laws.FnExactWhoMustCome': WHATEVER THE INPUT: true; the input reads as it did. -/
def fnExactWhoMustComeSpec : ChangeSpec := { name := "fnExactWhoMustCome", fn := fun _ => fun
  | [d] => { results := [.lit (.bool true)], args := [d] }
  | _ => none }
def fnExactWhoMustComeRow : OpenClaim := { program := "ythahbdpholpmkaa", sum := "bc29bc2de8452afb9d112ee2710bb27daf2682eca9c0a9e8368eeb2801efb624", func := "loop.example/g00955/laws.FnExactWhoMustCome", spec := "fnExactWhoMustCome", recurses := true, apart := false }
def FnExactWhoMustComeSaid : Prop := fnExactWhoMustComeRow.holds Try.pinned (OpenSpec.ofChange fnExactWhoMustComeSpec)

/-- ITS FALSE NEIGHBOUR: 'it returns false'. Refute it at one input. -/
def fnExactWhoMustComeWrong : ChangeSpec := { name := "fnExactWhoMustCome", fn := fun _ => fun
  | [d] => { results := [.lit (.bool false)], args := [d] }
  | _ => none }
def FnExactWhoMustComeWrongFalsely : Prop := fnExactWhoMustComeRow.holds Try.pinned (OpenSpec.ofChange fnExactWhoMustComeWrong)

/-- 'laws.FnExactMeetingDay': WHATEVER THE INPUT: true; the input reads as it did. -/
def fnExactMeetingDaySpec : ChangeSpec := { name := "fnExactMeetingDay", fn := fun _ => fun
  | [d1, d2, d3] => { results := [.lit (.bool true)], args := [d1, d2, d3] }
  | _ => none }
def fnExactMeetingDayRow : OpenClaim := { program := "ythahbdpholpmkaa", sum := "bc29bc2de8452afb9d112ee2710bb27daf2682eca9c0a9e8368eeb2801efb624", func := "loop.example/g00955/laws.FnExactMeetingDay", spec := "fnExactMeetingDay", unfollowed := true, recurses := true, apart := false }
def FnExactMeetingDaySaid : Prop := fnExactMeetingDayRow.holds Try.pinned (OpenSpec.ofChange fnExactMeetingDaySpec)

/-- ITS FALSE NEIGHBOUR: 'it returns false'. Refute it at one input. -/
def fnExactMeetingDayWrong : ChangeSpec := { name := "fnExactMeetingDay", fn := fun _ => fun
  | [d1, d2, d3] => { results := [.lit (.bool false)], args := [d1, d2, d3] }
  | _ => none }
def FnExactMeetingDayWrongFalsely : Prop := fnExactMeetingDayRow.holds Try.pinned (OpenSpec.ofChange fnExactMeetingDayWrong)

/-- 'laws.FnExactFullestDay': WHATEVER THE INPUT: true; the input reads as it did. -/
def fnExactFullestDaySpec : ChangeSpec := { name := "fnExactFullestDay", fn := fun _ => fun
  | [d1, d2, d3, d4] => { results := [.lit (.bool true)], args := [d1, d2, d3, d4] }
  | _ => none }
def fnExactFullestDayRow : OpenClaim := { program := "ythahbdpholpmkaa", sum := "bc29bc2de8452afb9d112ee2710bb27daf2682eca9c0a9e8368eeb2801efb624", func := "loop.example/g00955/laws.FnExactFullestDay", spec := "fnExactFullestDay", unfollowed := true, recurses := true, apart := false }
def FnExactFullestDaySaid : Prop := fnExactFullestDayRow.holds Try.pinned (OpenSpec.ofChange fnExactFullestDaySpec)

/-- ITS FALSE NEIGHBOUR: 'it returns false'. Refute it at one input. -/
def fnExactFullestDayWrong : ChangeSpec := { name := "fnExactFullestDay", fn := fun _ => fun
  | [d1, d2, d3, d4] => { results := [.lit (.bool false)], args := [d1, d2, d3, d4] }
  | _ => none }
def FnExactFullestDayWrongFalsely : Prop := fnExactFullestDayRow.holds Try.pinned (OpenSpec.ofChange fnExactFullestDayWrong)

/-- 'laws.FnExactCuesToRehearse': WHATEVER THE INPUT: true; the input reads as it did. -/
def fnExactCuesToRehearseSpec : ChangeSpec := { name := "fnExactCuesToRehearse", fn := fun _ => fun
  | [d1, d2, d3, d4] => { results := [.lit (.bool true)], args := [d1, d2, d3, d4] }
  | _ => none }
def fnExactCuesToRehearseRow : OpenClaim := { program := "ythahbdpholpmkaa", sum := "bc29bc2de8452afb9d112ee2710bb27daf2682eca9c0a9e8368eeb2801efb624", func := "loop.example/g00955/laws.FnExactCuesToRehearse", spec := "fnExactCuesToRehearse", unfollowed := true, recurses := true, apart := false }
def FnExactCuesToRehearseSaid : Prop := fnExactCuesToRehearseRow.holds Try.pinned (OpenSpec.ofChange fnExactCuesToRehearseSpec)

/-- ITS FALSE NEIGHBOUR: 'it returns false'. Refute it at one input. -/
def fnExactCuesToRehearseWrong : ChangeSpec := { name := "fnExactCuesToRehearse", fn := fun _ => fun
  | [d1, d2, d3, d4] => { results := [.lit (.bool false)], args := [d1, d2, d3, d4] }
  | _ => none }
def FnExactCuesToRehearseWrongFalsely : Prop := fnExactCuesToRehearseRow.holds Try.pinned (OpenSpec.ofChange fnExactCuesToRehearseWrong)

/-- 'laws.FnExactAddOffer': WHATEVER THE INPUT: true; the input reads as it did. -/
def fnExactAddOfferSpec : ChangeSpec := { name := "fnExactAddOffer", fn := fun _ => fun
  | [d1, d2] => { results := [.lit (.bool true)], args := [d1, d2] }
  | _ => none }
def fnExactAddOfferRow : OpenClaim := { program := "ythahbdpholpmkaa", sum := "bc29bc2de8452afb9d112ee2710bb27daf2682eca9c0a9e8368eeb2801efb624", func := "loop.example/g00955/laws.FnExactAddOffer", spec := "fnExactAddOffer", inPlace := ["slices.overlaps[loop.example/g00955/impl.Offer]"], apart := false }
def FnExactAddOfferSaid : Prop := fnExactAddOfferRow.holds Try.pinned (OpenSpec.ofChange fnExactAddOfferSpec)

/-- ITS FALSE NEIGHBOUR: 'it returns false'. Refute it at one input. -/
def fnExactAddOfferWrong : ChangeSpec := { name := "fnExactAddOffer", fn := fun _ => fun
  | [d1, d2] => { results := [.lit (.bool false)], args := [d1, d2] }
  | _ => none }
def FnExactAddOfferWrongFalsely : Prop := fnExactAddOfferRow.holds Try.pinned (OpenSpec.ofChange fnExactAddOfferWrong)

/-- 'laws.FnExactAddRun': WHATEVER THE INPUT: true; the input reads as it did. -/
def fnExactAddRunSpec : ChangeSpec := { name := "fnExactAddRun", fn := fun _ => fun
  | [d1, d2] => { results := [.lit (.bool true)], args := [d1, d2] }
  | _ => none }
def fnExactAddRunRow : OpenClaim := { program := "ythahbdpholpmkaa", sum := "bc29bc2de8452afb9d112ee2710bb27daf2682eca9c0a9e8368eeb2801efb624", func := "loop.example/g00955/laws.FnExactAddRun", spec := "fnExactAddRun", apart := false }
def FnExactAddRunSaid : Prop := fnExactAddRunRow.holds Try.pinned (OpenSpec.ofChange fnExactAddRunSpec)

/-- ITS FALSE NEIGHBOUR: 'it returns false'. Refute it at one input. -/
def fnExactAddRunWrong : ChangeSpec := { name := "fnExactAddRun", fn := fun _ => fun
  | [d1, d2] => { results := [.lit (.bool false)], args := [d1, d2] }
  | _ => none }
def FnExactAddRunWrongFalsely : Prop := fnExactAddRunRow.holds Try.pinned (OpenSpec.ofChange fnExactAddRunWrong)

/-- 'laws.FnExactDoneRemark': WHATEVER THE INPUT: true; the input reads as it did. -/
def fnExactDoneRemarkSpec : ChangeSpec := { name := "fnExactDoneRemark", fn := fun _ => fun
  | [d1, d2] => { results := [.lit (.bool true)], args := [d1, d2] }
  | _ => none }
def fnExactDoneRemarkRow : OpenClaim := { program := "ythahbdpholpmkaa", sum := "bc29bc2de8452afb9d112ee2710bb27daf2682eca9c0a9e8368eeb2801efb624", func := "loop.example/g00955/laws.FnExactDoneRemark", spec := "fnExactDoneRemark", apart := false }
def FnExactDoneRemarkSaid : Prop := fnExactDoneRemarkRow.holds Try.pinned (OpenSpec.ofChange fnExactDoneRemarkSpec)

/-- ITS FALSE NEIGHBOUR: 'it returns false'. Refute it at one input. -/
def fnExactDoneRemarkWrong : ChangeSpec := { name := "fnExactDoneRemark", fn := fun _ => fun
  | [d1, d2] => { results := [.lit (.bool false)], args := [d1, d2] }
  | _ => none }
def FnExactDoneRemarkWrongFalsely : Prop := fnExactDoneRemarkRow.holds Try.pinned (OpenSpec.ofChange fnExactDoneRemarkWrong)

/- THE SECOND FORM. 'bulk': how many values and letters a reading holds, each counted each time it is reached (what is shared counts as often as it is met; a slice's spare places count too). A statement '..UptoSaid' is the law's where the arguments, and the package variables that the reading takes, are together of bulk at most 1048576: NARROWER than '..Said'. Prove '..Said' where nothing that the law and all that it calls make is longer than what came in: it says more and counts as full. Else prove '..UptoSaid'. A law counts once. -/
mutual
def uptoBulk {H : Type} : DataW H → Nat
  | .lit (.string bytes) => bytes.length + 1
  | .lit _ => 1
  | .nil => 1
  | .ptr d => uptoBulk d + 1
  | .slice elems spare => uptoBulkAll elems + uptoBulkAll spare + 1
  | .agg parts => uptoBulkAll parts + 1
  | .iface _ d => uptoBulk d + 1
  | .map entries => uptoBulkEntries entries + 1
  | .held _ => 1
def uptoBulkAll {H : Type} : List (DataW H) → Nat
  | [] => 0
  | d :: r => uptoBulk d + uptoBulkAll r
def uptoBulkEntries {H : Type} : List (Lit × DataW H) → Nat
  | [] => 0
  | x :: r => uptoBulkEntry x + uptoBulkEntries r
def uptoBulkEntry {H : Type} : Lit × DataW H → Nat
  | (.string bytes, d) => bytes.length + uptoBulk d + 1
  | (_, d) => uptoBulk d + 1
 end
def uptoSmall : (H : Type) → List (DataW H) → Bool := fun _ ds => decide (uptoBulkAll ds ≤ 1048576)
def OpenSpec.upto (s : _root_.Go.ChangeSpec) : _root_.Go.OpenSpec := { _root_.Go.OpenSpec.ofChange s with cond := some uptoSmall }

/-- 'laws.FnExactGreedyDay', WHERE WHAT IT READS IS OF BULK AT MOST 1048576: true; the input reads as it did. -/
def fnExactGreedyDayUptoRow : OpenClaim := { program := "ythahbdpholpmkaa", sum := "bc29bc2de8452afb9d112ee2710bb27daf2682eca9c0a9e8368eeb2801efb624", func := "loop.example/g00955/laws.FnExactGreedyDay", spec := "fnExactGreedyDay", unfollowed := true, recurses := true, apart := false, narrowed := true }
def FnExactGreedyDayUptoSaid : Prop := fnExactGreedyDayUptoRow.holds Try.pinned (OpenSpec.upto fnExactGreedyDaySpec)

/-- 'laws.FnExactConflicts', WHERE WHAT IT READS IS OF BULK AT MOST 1048576: true; the input reads as it did. -/
def fnExactConflictsUptoRow : OpenClaim := { program := "ythahbdpholpmkaa", sum := "bc29bc2de8452afb9d112ee2710bb27daf2682eca9c0a9e8368eeb2801efb624", func := "loop.example/g00955/laws.FnExactConflicts", spec := "fnExactConflicts", apart := false, narrowed := true }
def FnExactConflictsUptoSaid : Prop := fnExactConflictsUptoRow.holds Try.pinned (OpenSpec.upto fnExactConflictsSpec)

/-- 'laws.FnExactWhoMustCome', WHERE WHAT IT READS IS OF BULK AT MOST 1048576: true; the input reads as it did. -/
def fnExactWhoMustComeUptoRow : OpenClaim := { program := "ythahbdpholpmkaa", sum := "bc29bc2de8452afb9d112ee2710bb27daf2682eca9c0a9e8368eeb2801efb624", func := "loop.example/g00955/laws.FnExactWhoMustCome", spec := "fnExactWhoMustCome", recurses := true, apart := false, narrowed := true }
def FnExactWhoMustComeUptoSaid : Prop := fnExactWhoMustComeUptoRow.holds Try.pinned (OpenSpec.upto fnExactWhoMustComeSpec)

/-- 'laws.FnExactMeetingDay', WHERE WHAT IT READS IS OF BULK AT MOST 1048576: true; the input reads as it did. -/
def fnExactMeetingDayUptoRow : OpenClaim := { program := "ythahbdpholpmkaa", sum := "bc29bc2de8452afb9d112ee2710bb27daf2682eca9c0a9e8368eeb2801efb624", func := "loop.example/g00955/laws.FnExactMeetingDay", spec := "fnExactMeetingDay", unfollowed := true, recurses := true, apart := false, narrowed := true }
def FnExactMeetingDayUptoSaid : Prop := fnExactMeetingDayUptoRow.holds Try.pinned (OpenSpec.upto fnExactMeetingDaySpec)

/-- 'laws.FnExactFullestDay', WHERE WHAT IT READS IS OF BULK AT MOST 1048576: true; the input reads as it did. -/
def fnExactFullestDayUptoRow : OpenClaim := { program := "ythahbdpholpmkaa", sum := "bc29bc2de8452afb9d112ee2710bb27daf2682eca9c0a9e8368eeb2801efb624", func := "loop.example/g00955/laws.FnExactFullestDay", spec := "fnExactFullestDay", unfollowed := true, recurses := true, apart := false, narrowed := true }
def FnExactFullestDayUptoSaid : Prop := fnExactFullestDayUptoRow.holds Try.pinned (OpenSpec.upto fnExactFullestDaySpec)

/-- 'laws.FnExactCuesToRehearse', WHERE WHAT IT READS IS OF BULK AT MOST 1048576: true; the input reads as it did. -/
def fnExactCuesToRehearseUptoRow : OpenClaim := { program := "ythahbdpholpmkaa", sum := "bc29bc2de8452afb9d112ee2710bb27daf2682eca9c0a9e8368eeb2801efb624", func := "loop.example/g00955/laws.FnExactCuesToRehearse", spec := "fnExactCuesToRehearse", unfollowed := true, recurses := true, apart := false, narrowed := true }
def FnExactCuesToRehearseUptoSaid : Prop := fnExactCuesToRehearseUptoRow.holds Try.pinned (OpenSpec.upto fnExactCuesToRehearseSpec)

/-- 'laws.FnExactAddOffer', WHERE WHAT IT READS IS OF BULK AT MOST 1048576: true; the input reads as it did. -/
def fnExactAddOfferUptoRow : OpenClaim := { program := "ythahbdpholpmkaa", sum := "bc29bc2de8452afb9d112ee2710bb27daf2682eca9c0a9e8368eeb2801efb624", func := "loop.example/g00955/laws.FnExactAddOffer", spec := "fnExactAddOffer", inPlace := ["slices.overlaps[loop.example/g00955/impl.Offer]"], apart := false, narrowed := true }
def FnExactAddOfferUptoSaid : Prop := fnExactAddOfferUptoRow.holds Try.pinned (OpenSpec.upto fnExactAddOfferSpec)

/-- 'laws.FnExactAddRun', WHERE WHAT IT READS IS OF BULK AT MOST 1048576: true; the input reads as it did. -/
def fnExactAddRunUptoRow : OpenClaim := { program := "ythahbdpholpmkaa", sum := "bc29bc2de8452afb9d112ee2710bb27daf2682eca9c0a9e8368eeb2801efb624", func := "loop.example/g00955/laws.FnExactAddRun", spec := "fnExactAddRun", apart := false, narrowed := true }
def FnExactAddRunUptoSaid : Prop := fnExactAddRunUptoRow.holds Try.pinned (OpenSpec.upto fnExactAddRunSpec)

/-- 'laws.FnExactDoneRemark', WHERE WHAT IT READS IS OF BULK AT MOST 1048576: true; the input reads as it did. -/
def fnExactDoneRemarkUptoRow : OpenClaim := { program := "ythahbdpholpmkaa", sum := "bc29bc2de8452afb9d112ee2710bb27daf2682eca9c0a9e8368eeb2801efb624", func := "loop.example/g00955/laws.FnExactDoneRemark", spec := "fnExactDoneRemark", apart := false, narrowed := true }
def FnExactDoneRemarkUptoSaid : Prop := fnExactDoneRemarkUptoRow.holds Try.pinned (OpenSpec.upto fnExactDoneRemarkSpec)

end Rows
end Go.Proofs.Ythahbdpholpmkaa
