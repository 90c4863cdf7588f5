/-
  No cell of these rows narrows 'for every input' (looked for: loops, veiled, ifaces, maps, wideKeys, modest, calm, conditions, laid).
  DERIVED. THE GIVEN ROWS OF THIS SEAT. 8 by the template 'for every input the law returns true; each argument reads behind the call as it read before'; 0 by the template 'total and deterministic' (their statements: YtlbcoplpdnidnaaTotals.lean).
  GIVEN WITH THE SEED: the statements are not yours to turn. If you find one false, say at which input.
  Laid BY PROGRAM, IN A SANDBOX (cutbox-rows.mjs): the forced cells as the released guide's own fill.sh prints them over the translation b6a1ed96f56eacfb… (all of the seat's roots in one cut). By AI agents, Wed Nov 11 2026. No macro, syntax, notation, axiom, sorry.
-/
import Derived.Test.YtlbcoplpdnidnaaChecked
import GoSem.Claim
import GoSem.ClaimJoined
import GoSem.ClaimMapViews
import Derived.JoinedTies
import Derived.KernelRfl
namespace Go.Proofs.Ytlbcoplpdnidnaa
/- THE CELL 'sum', in the pinned program and in every row, IS THE sha256 OF THE DUMP (.gsa) THAT YtlbcoplpdnidnaaProg.lean LOADS. Nothing in Lean hashes anything: it is a label: what it is worth is what the hold of that sum in a sandbox is worth. -/
noncomputable def Try.pinned : Pinned := { name := "ytlbcoplpdnidnaa", sum := "b6a1ed96f56eacfbc93ab192b669e4b332829671e9783596f10fc0cab325a574", checked := Try.checked }
namespace Rows
def none {H : Type} : Left H := { results := [], args := [] }

/-- 'laws.FnExactFewestUniverses': WHATEVER THE INPUT: true; the input reads as it did. -/
def fnExactFewestUniversesSpec : ChangeSpec := { name := "fnExactFewestUniverses", fn := fun _ => fun
  | [d1, d2] => { results := [.lit (.bool true)], args := [d1, d2] }
  | _ => none }
def fnExactFewestUniversesRow : OpenClaim := { program := "ytlbcoplpdnidnaa", sum := "b6a1ed96f56eacfbc93ab192b669e4b332829671e9783596f10fc0cab325a574", func := "loop.example/g00955/laws.FnExactFewestUniverses", spec := "fnExactFewestUniverses", unfollowed := true, recurses := true, apart := false }
def FnExactFewestUniversesSaid : Prop := fnExactFewestUniversesRow.holds Try.pinned (OpenSpec.ofChange fnExactFewestUniversesSpec)

/-- ITS FALSE NEIGHBOUR: 'it returns false'. Refute it at one input. -/
def fnExactFewestUniversesWrong : ChangeSpec := { name := "fnExactFewestUniverses", fn := fun _ => fun
  | [d1, d2] => { results := [.lit (.bool false)], args := [d1, d2] }
  | _ => none }
def FnExactFewestUniversesWrongFalsely : Prop := fnExactFewestUniversesRow.holds Try.pinned (OpenSpec.ofChange fnExactFewestUniversesWrong)

/-- 'laws.FnExactBestSkips': WHATEVER THE INPUT: true; the input reads as it did. -/
def fnExactBestSkipsSpec : ChangeSpec := { name := "fnExactBestSkips", fn := fun _ => fun
  | [d1, d2, d3] => { results := [.lit (.bool true)], args := [d1, d2, d3] }
  | _ => none }
def fnExactBestSkipsRow : OpenClaim := { program := "ytlbcoplpdnidnaa", sum := "b6a1ed96f56eacfbc93ab192b669e4b332829671e9783596f10fc0cab325a574", func := "loop.example/g00955/laws.FnExactBestSkips", spec := "fnExactBestSkips", recurses := true, apart := false }
def FnExactBestSkipsSaid : Prop := fnExactBestSkipsRow.holds Try.pinned (OpenSpec.ofChange fnExactBestSkipsSpec)

/-- ITS FALSE NEIGHBOUR: 'it returns false'. Refute it at one input. -/
def fnExactBestSkipsWrong : ChangeSpec := { name := "fnExactBestSkips", fn := fun _ => fun
  | [d1, d2, d3] => { results := [.lit (.bool false)], args := [d1, d2, d3] }
  | _ => none }
def FnExactBestSkipsWrongFalsely : Prop := fnExactBestSkipsRow.holds Try.pinned (OpenSpec.ofChange fnExactBestSkipsWrong)

/-- 'laws.FnExactBestQuestions': WHATEVER THE INPUT: true; the input reads as it did. -/
def fnExactBestQuestionsSpec : ChangeSpec := { name := "fnExactBestQuestions", fn := fun _ => fun
  | [d1, d2, d3] => { results := [.lit (.bool true)], args := [d1, d2, d3] }
  | _ => none }
def fnExactBestQuestionsRow : OpenClaim := { program := "ytlbcoplpdnidnaa", sum := "b6a1ed96f56eacfbc93ab192b669e4b332829671e9783596f10fc0cab325a574", func := "loop.example/g00955/laws.FnExactBestQuestions", spec := "fnExactBestQuestions", recurses := true, apart := false }
def FnExactBestQuestionsSaid : Prop := fnExactBestQuestionsRow.holds Try.pinned (OpenSpec.ofChange fnExactBestQuestionsSpec)

/-- ITS FALSE NEIGHBOUR: 'it returns false'. Refute it at one input. -/
def fnExactBestQuestionsWrong : ChangeSpec := { name := "fnExactBestQuestions", fn := fun _ => fun
  | [d1, d2, d3] => { results := [.lit (.bool false)], args := [d1, d2, d3] }
  | _ => none }
def FnExactBestQuestionsWrongFalsely : Prop := fnExactBestQuestionsRow.holds Try.pinned (OpenSpec.ofChange fnExactBestQuestionsWrong)

/-- 'laws.FnExactRichestDay': WHATEVER THE INPUT: true; the input reads as it did. -/
def fnExactRichestDaySpec : ChangeSpec := { name := "fnExactRichestDay", fn := fun _ => fun
  | [d1, d2, d3] => { results := [.lit (.bool true)], args := [d1, d2, d3] }
  | _ => none }
def fnExactRichestDayRow : OpenClaim := { program := "ytlbcoplpdnidnaa", sum := "b6a1ed96f56eacfbc93ab192b669e4b332829671e9783596f10fc0cab325a574", func := "loop.example/g00955/laws.FnExactRichestDay", spec := "fnExactRichestDay", unfollowed := true, recurses := true, apart := false }
def FnExactRichestDaySaid : Prop := fnExactRichestDayRow.holds Try.pinned (OpenSpec.ofChange fnExactRichestDaySpec)

/-- ITS FALSE NEIGHBOUR: 'it returns false'. Refute it at one input. -/
def fnExactRichestDayWrong : ChangeSpec := { name := "fnExactRichestDay", fn := fun _ => fun
  | [d1, d2, d3] => { results := [.lit (.bool false)], args := [d1, d2, d3] }
  | _ => none }
def FnExactRichestDayWrongFalsely : Prop := fnExactRichestDayRow.holds Try.pinned (OpenSpec.ofChange fnExactRichestDayWrong)

/-- 'laws.FnExactAddRun': WHATEVER THE INPUT: true; the input reads as it did. -/
def fnExactAddRunSpec : ChangeSpec := { name := "fnExactAddRun", fn := fun _ => fun
  | [d1, d2] => { results := [.lit (.bool true)], args := [d1, d2] }
  | _ => none }
def fnExactAddRunRow : OpenClaim := { program := "ytlbcoplpdnidnaa", sum := "b6a1ed96f56eacfbc93ab192b669e4b332829671e9783596f10fc0cab325a574", func := "loop.example/g00955/laws.FnExactAddRun", spec := "fnExactAddRun", apart := false }
def FnExactAddRunSaid : Prop := fnExactAddRunRow.holds Try.pinned (OpenSpec.ofChange fnExactAddRunSpec)

/-- ITS FALSE NEIGHBOUR: 'it returns false'. Refute it at one input. -/
def fnExactAddRunWrong : ChangeSpec := { name := "fnExactAddRun", fn := fun _ => fun
  | [d1, d2] => { results := [.lit (.bool false)], args := [d1, d2] }
  | _ => none }
def FnExactAddRunWrongFalsely : Prop := fnExactAddRunRow.holds Try.pinned (OpenSpec.ofChange fnExactAddRunWrong)

/-- 'laws.FnExactDoneRemark': WHATEVER THE INPUT: true; the input reads as it did. -/
def fnExactDoneRemarkSpec : ChangeSpec := { name := "fnExactDoneRemark", fn := fun _ => fun
  | [d1, d2] => { results := [.lit (.bool true)], args := [d1, d2] }
  | _ => none }
def fnExactDoneRemarkRow : OpenClaim := { program := "ytlbcoplpdnidnaa", sum := "b6a1ed96f56eacfbc93ab192b669e4b332829671e9783596f10fc0cab325a574", func := "loop.example/g00955/laws.FnExactDoneRemark", spec := "fnExactDoneRemark", apart := false }
def FnExactDoneRemarkSaid : Prop := fnExactDoneRemarkRow.holds Try.pinned (OpenSpec.ofChange fnExactDoneRemarkSpec)

/-- ITS FALSE NEIGHBOUR: 'it returns false'. Refute it at one input. -/
def fnExactDoneRemarkWrong : ChangeSpec := { name := "fnExactDoneRemark", fn := fun _ => fun
  | [d1, d2] => { results := [.lit (.bool false)], args := [d1, d2] }
  | _ => none }
def FnExactDoneRemarkWrongFalsely : Prop := fnExactDoneRemarkRow.holds Try.pinned (OpenSpec.ofChange fnExactDoneRemarkWrong)

/-- 'laws.FnExactFewestDays': WHATEVER THE INPUT: true; the input reads as it did. -/
def fnExactFewestDaysSpec : ChangeSpec := { name := "fnExactFewestDays", fn := fun _ => fun
  | [d1, d2, d3, d4, d5] => { results := [.lit (.bool true)], args := [d1, d2, d3, d4, d5] }
  | _ => none }
def fnExactFewestDaysRow : OpenClaim := { program := "ytlbcoplpdnidnaa", sum := "b6a1ed96f56eacfbc93ab192b669e4b332829671e9783596f10fc0cab325a574", func := "loop.example/g00955/laws.FnExactFewestDays", spec := "fnExactFewestDays", unfollowed := true, recurses := true, apart := false }
def FnExactFewestDaysSaid : Prop := fnExactFewestDaysRow.holds Try.pinned (OpenSpec.ofChange fnExactFewestDaysSpec)

/-- ITS FALSE NEIGHBOUR: 'it returns false'. Refute it at one input. -/
def fnExactFewestDaysWrong : ChangeSpec := { name := "fnExactFewestDays", fn := fun _ => fun
  | [d1, d2, d3, d4, d5] => { results := [.lit (.bool false)], args := [d1, d2, d3, d4, d5] }
  | _ => none }
def FnExactFewestDaysWrongFalsely : Prop := fnExactFewestDaysRow.holds Try.pinned (OpenSpec.ofChange fnExactFewestDaysWrong)

/-- 'laws.FnExactCheapestSeats': WHATEVER THE INPUT: true; the input reads as it did. -/
def fnExactCheapestSeatsSpec : ChangeSpec := { name := "fnExactCheapestSeats", fn := fun _ => fun
  | [d1, d2, d3] => { results := [.lit (.bool true)], args := [d1, d2, d3] }
  | _ => none }
def fnExactCheapestSeatsRow : OpenClaim := { program := "ytlbcoplpdnidnaa", sum := "b6a1ed96f56eacfbc93ab192b669e4b332829671e9783596f10fc0cab325a574", func := "loop.example/g00955/laws.FnExactCheapestSeats", spec := "fnExactCheapestSeats", unfollowed := true, recurses := true, apart := false }
def FnExactCheapestSeatsSaid : Prop := fnExactCheapestSeatsRow.holds Try.pinned (OpenSpec.ofChange fnExactCheapestSeatsSpec)

/-- ITS FALSE NEIGHBOUR: 'it returns false'. Refute it at one input. -/
def fnExactCheapestSeatsWrong : ChangeSpec := { name := "fnExactCheapestSeats", fn := fun _ => fun
  | [d1, d2, d3] => { results := [.lit (.bool false)], args := [d1, d2, d3] }
  | _ => none }
def FnExactCheapestSeatsWrongFalsely : Prop := fnExactCheapestSeatsRow.holds Try.pinned (OpenSpec.ofChange fnExactCheapestSeatsWrong)

/- THE SECOND FORM. 'bulk': how many values and letters a reading holds, each counted each time it is reached (what is shared counts as often as it is met; a slice's spare places count too). A statement '..UptoSaid' is the law's where the arguments, and the package variables that the reading takes, are together of bulk at most 1048576: NARROWER than '..Said'. Prove '..Said' where nothing that the law and all that it calls make is longer than what came in: it says more and counts as full. Else prove '..UptoSaid'. A law counts once. -/
mutual
def uptoBulk {H : Type} : DataW H → Nat
  | .lit (.string bytes) => bytes.length + 1
  | .lit _ => 1
  | .nil => 1
  | .ptr d => uptoBulk d + 1
  | .slice elems spare => uptoBulkAll elems + uptoBulkAll spare + 1
  | .agg parts => uptoBulkAll parts + 1
  | .iface _ d => uptoBulk d + 1
  | .map entries => uptoBulkEntries entries + 1
  | .held _ => 1
def uptoBulkAll {H : Type} : List (DataW H) → Nat
  | [] => 0
  | d :: r => uptoBulk d + uptoBulkAll r
def uptoBulkEntries {H : Type} : List (Lit × DataW H) → Nat
  | [] => 0
  | x :: r => uptoBulkEntry x + uptoBulkEntries r
def uptoBulkEntry {H : Type} : Lit × DataW H → Nat
  | (.string bytes, d) => bytes.length + uptoBulk d + 1
  | (_, d) => uptoBulk d + 1
 end
def uptoSmall : (H : Type) → List (DataW H) → Bool := fun _ ds => decide (uptoBulkAll ds ≤ 1048576)
def OpenSpec.upto (s : _root_.Go.ChangeSpec) : _root_.Go.OpenSpec := { _root_.Go.OpenSpec.ofChange s with cond := some uptoSmall }

/-- 'laws.FnExactFewestUniverses', WHERE WHAT IT READS IS OF BULK AT MOST 1048576: true; the input reads as it did. -/
def fnExactFewestUniversesUptoRow : OpenClaim := { program := "ytlbcoplpdnidnaa", sum := "b6a1ed96f56eacfbc93ab192b669e4b332829671e9783596f10fc0cab325a574", func := "loop.example/g00955/laws.FnExactFewestUniverses", spec := "fnExactFewestUniverses", unfollowed := true, recurses := true, apart := false, narrowed := true }
def FnExactFewestUniversesUptoSaid : Prop := fnExactFewestUniversesUptoRow.holds Try.pinned (OpenSpec.upto fnExactFewestUniversesSpec)

/-- 'laws.FnExactBestSkips', WHERE WHAT IT READS IS OF BULK AT MOST 1048576: true; the input reads as it did. -/
def fnExactBestSkipsUptoRow : OpenClaim := { program := "ytlbcoplpdnidnaa", sum := "b6a1ed96f56eacfbc93ab192b669e4b332829671e9783596f10fc0cab325a574", func := "loop.example/g00955/laws.FnExactBestSkips", spec := "fnExactBestSkips", recurses := true, apart := false, narrowed := true }
def FnExactBestSkipsUptoSaid : Prop := fnExactBestSkipsUptoRow.holds Try.pinned (OpenSpec.upto fnExactBestSkipsSpec)

/-- 'laws.FnExactBestQuestions', WHERE WHAT IT READS IS OF BULK AT MOST 1048576: true; the input reads as it did. -/
def fnExactBestQuestionsUptoRow : OpenClaim := { program := "ytlbcoplpdnidnaa", sum := "b6a1ed96f56eacfbc93ab192b669e4b332829671e9783596f10fc0cab325a574", func := "loop.example/g00955/laws.FnExactBestQuestions", spec := "fnExactBestQuestions", recurses := true, apart := false, narrowed := true }
def FnExactBestQuestionsUptoSaid : Prop := fnExactBestQuestionsUptoRow.holds Try.pinned (OpenSpec.upto fnExactBestQuestionsSpec)

/-- 'laws.FnExactRichestDay', WHERE WHAT IT READS IS OF BULK AT MOST 1048576: true; the input reads as it did. -/
def fnExactRichestDayUptoRow : OpenClaim := { program := "ytlbcoplpdnidnaa", sum := "b6a1ed96f56eacfbc93ab192b669e4b332829671e9783596f10fc0cab325a574", func := "loop.example/g00955/laws.FnExactRichestDay", spec := "fnExactRichestDay", unfollowed := true, recurses := true, apart := false, narrowed := true }
def FnExactRichestDayUptoSaid : Prop := fnExactRichestDayUptoRow.holds Try.pinned (OpenSpec.upto fnExactRichestDaySpec)

/-- 'laws.FnExactAddRun', WHERE WHAT IT READS IS OF BULK AT MOST 1048576: true; the input reads as it did. -/
def fnExactAddRunUptoRow : OpenClaim := { program := "ytlbcoplpdnidnaa", sum := "b6a1ed96f56eacfbc93ab192b669e4b332829671e9783596f10fc0cab325a574", func := "loop.example/g00955/laws.FnExactAddRun", spec := "fnExactAddRun", apart := false, narrowed := true }
def FnExactAddRunUptoSaid : Prop := fnExactAddRunUptoRow.holds Try.pinned (OpenSpec.upto fnExactAddRunSpec)

/-- 'laws.FnExactDoneRemark', WHERE WHAT IT READS IS OF BULK AT MOST 1048576: true; the input reads as it did. -/
def fnExactDoneRemarkUptoRow : OpenClaim := { program := "ytlbcoplpdnidnaa", sum := "b6a1ed96f56eacfbc93ab192b669e4b332829671e9783596f10fc0cab325a574", func := "loop.example/g00955/laws.FnExactDoneRemark", spec := "fnExactDoneRemark", apart := false, narrowed := true }
def FnExactDoneRemarkUptoSaid : Prop := fnExactDoneRemarkUptoRow.holds Try.pinned (OpenSpec.upto fnExactDoneRemarkSpec)

/-- 'laws.FnExactFewestDays', WHERE WHAT IT READS IS OF BULK AT MOST 1048576: true; the input reads as it did. -/
def fnExactFewestDaysUptoRow : OpenClaim := { program := "ytlbcoplpdnidnaa", sum := "b6a1ed96f56eacfbc93ab192b669e4b332829671e9783596f10fc0cab325a574", func := "loop.example/g00955/laws.FnExactFewestDays", spec := "fnExactFewestDays", unfollowed := true, recurses := true, apart := false, narrowed := true }
def FnExactFewestDaysUptoSaid : Prop := fnExactFewestDaysUptoRow.holds Try.pinned (OpenSpec.upto fnExactFewestDaysSpec)

/-- 'laws.FnExactCheapestSeats', WHERE WHAT IT READS IS OF BULK AT MOST 1048576: true; the input reads as it did. -/
def fnExactCheapestSeatsUptoRow : OpenClaim := { program := "ytlbcoplpdnidnaa", sum := "b6a1ed96f56eacfbc93ab192b669e4b332829671e9783596f10fc0cab325a574", func := "loop.example/g00955/laws.FnExactCheapestSeats", spec := "fnExactCheapestSeats", unfollowed := true, recurses := true, apart := false, narrowed := true }
def FnExactCheapestSeatsUptoSaid : Prop := fnExactCheapestSeatsUptoRow.holds Try.pinned (OpenSpec.upto fnExactCheapestSeatsSpec)

end Rows
end Go.Proofs.Ytlbcoplpdnidnaa
