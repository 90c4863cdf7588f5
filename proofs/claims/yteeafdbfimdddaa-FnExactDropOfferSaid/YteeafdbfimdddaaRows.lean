/-
  No cell of these rows narrows 'for every input' (looked for: loops, veiled, ifaces, maps, wideKeys, modest, calm, conditions, laid).
  DERIVED. THE GIVEN ROWS OF THIS SEAT. 12 by the template 'for every input the law returns true; each argument reads behind the call as it read before'; 0 by the template 'total and deterministic' (their statements: YteeafdbfimdddaaTotals.lean).
  GIVEN WITH THE SEED: the statements are not yours to turn. If you find one false, say at which input.
  Laid BY PROGRAM, IN A SANDBOX (cutbox-rows.mjs): the forced cells as the released guide's own fill.sh prints them over the translation 8db6628f67a4c6b2… (all of the seat's roots in one cut). By AI agents, Wed Nov 11 2026. No macro, syntax, notation, axiom, sorry.
-/
import Derived.Test.YteeafdbfimdddaaChecked
import GoSem.Claim
import GoSem.ClaimJoined
import GoSem.ClaimMapViews
import Derived.JoinedTies
import Derived.KernelRfl
namespace Go.Proofs.Yteeafdbfimdddaa
/- THE CELL 'sum', in the pinned program and in every row, IS THE sha256 OF THE DUMP (.gsa) THAT YteeafdbfimdddaaProg.lean LOADS. Nothing in Lean hashes anything: it is a label: what it is worth is what the hold of that sum in a sandbox is worth. -/
noncomputable def Try.pinned : Pinned := { name := "yteeafdbfimdddaa", sum := "8db6628f67a4c6b29c0bc4848dd936dcdfb2b40ae19a99ffc9409fc7a6e873bf", checked := Try.checked }
namespace Rows
def none {H : Type} : Left H := { results := [], args := [] }

/-- 'laws.FnExactIncomeOf': WHATEVER THE INPUT: true; the input reads as it did. -/
def fnExactIncomeOfSpec : ChangeSpec := { name := "fnExactIncomeOf", fn := fun _ => fun
  | [d1, d2] => { results := [.lit (.bool true)], args := [d1, d2] }
  | _ => none }
def fnExactIncomeOfRow : OpenClaim := { program := "yteeafdbfimdddaa", sum := "8db6628f67a4c6b29c0bc4848dd936dcdfb2b40ae19a99ffc9409fc7a6e873bf", func := "loop.example/g00955/laws.FnExactIncomeOf", spec := "fnExactIncomeOf", apart := false }
def FnExactIncomeOfSaid : Prop := fnExactIncomeOfRow.holds Try.pinned (OpenSpec.ofChange fnExactIncomeOfSpec)

/-- ITS FALSE NEIGHBOUR: 'it returns false'. Refute it at one input. -/
def fnExactIncomeOfWrong : ChangeSpec := { name := "fnExactIncomeOf", fn := fun _ => fun
  | [d1, d2] => { results := [.lit (.bool false)], args := [d1, d2] }
  | _ => none }
def FnExactIncomeOfWrongFalsely : Prop := fnExactIncomeOfRow.holds Try.pinned (OpenSpec.ofChange fnExactIncomeOfWrong)

/-- 'laws.FnExactDayWorth': WHATEVER THE INPUT: true; the input reads as it did. -/
def fnExactDayWorthSpec : ChangeSpec := { name := "fnExactDayWorth", fn := fun _ => fun
  | [d1, d2] => { results := [.lit (.bool true)], args := [d1, d2] }
  | _ => none }
def fnExactDayWorthRow : OpenClaim := { program := "yteeafdbfimdddaa", sum := "8db6628f67a4c6b29c0bc4848dd936dcdfb2b40ae19a99ffc9409fc7a6e873bf", func := "loop.example/g00955/laws.FnExactDayWorth", spec := "fnExactDayWorth", apart := false }
def FnExactDayWorthSaid : Prop := fnExactDayWorthRow.holds Try.pinned (OpenSpec.ofChange fnExactDayWorthSpec)

/-- ITS FALSE NEIGHBOUR: 'it returns false'. Refute it at one input. -/
def fnExactDayWorthWrong : ChangeSpec := { name := "fnExactDayWorth", fn := fun _ => fun
  | [d1, d2] => { results := [.lit (.bool false)], args := [d1, d2] }
  | _ => none }
def FnExactDayWorthWrongFalsely : Prop := fnExactDayWorthRow.holds Try.pinned (OpenSpec.ofChange fnExactDayWorthWrong)

/-- 'laws.FnExactIsSeating': WHATEVER THE INPUT: true; the input reads as it did. -/
def fnExactIsSeatingSpec : ChangeSpec := { name := "fnExactIsSeating", fn := fun _ => fun
  | [d1, d2, d3] => { results := [.lit (.bool true)], args := [d1, d2, d3] }
  | _ => none }
def fnExactIsSeatingRow : OpenClaim := { program := "yteeafdbfimdddaa", sum := "8db6628f67a4c6b29c0bc4848dd936dcdfb2b40ae19a99ffc9409fc7a6e873bf", func := "loop.example/g00955/laws.FnExactIsSeating", spec := "fnExactIsSeating", unfollowed := true, recurses := true, apart := false }
def FnExactIsSeatingSaid : Prop := fnExactIsSeatingRow.holds Try.pinned (OpenSpec.ofChange fnExactIsSeatingSpec)

/-- ITS FALSE NEIGHBOUR: 'it returns false'. Refute it at one input. -/
def fnExactIsSeatingWrong : ChangeSpec := { name := "fnExactIsSeating", fn := fun _ => fun
  | [d1, d2, d3] => { results := [.lit (.bool false)], args := [d1, d2, d3] }
  | _ => none }
def FnExactIsSeatingWrongFalsely : Prop := fnExactIsSeatingRow.holds Try.pinned (OpenSpec.ofChange fnExactIsSeatingWrong)

/-- 'laws.FnExactSameRuns': WHATEVER THE INPUT: true; the input reads as it did. -/
def fnExactSameRunsSpec : ChangeSpec := { name := "fnExactSameRuns", fn := fun _ => fun
  | [d1, d2] => { results := [.lit (.bool true)], args := [d1, d2] }
  | _ => none }
def fnExactSameRunsRow : OpenClaim := { program := "yteeafdbfimdddaa", sum := "8db6628f67a4c6b29c0bc4848dd936dcdfb2b40ae19a99ffc9409fc7a6e873bf", func := "loop.example/g00955/laws.FnExactSameRuns", spec := "fnExactSameRuns", unfollowed := true, recurses := true, apart := false }
def FnExactSameRunsSaid : Prop := fnExactSameRunsRow.holds Try.pinned (OpenSpec.ofChange fnExactSameRunsSpec)

/-- ITS FALSE NEIGHBOUR: 'it returns false'. Refute it at one input. -/
def fnExactSameRunsWrong : ChangeSpec := { name := "fnExactSameRuns", fn := fun _ => fun
  | [d1, d2] => { results := [.lit (.bool false)], args := [d1, d2] }
  | _ => none }
def FnExactSameRunsWrongFalsely : Prop := fnExactSameRunsRow.holds Try.pinned (OpenSpec.ofChange fnExactSameRunsWrong)

/-- 'laws.FnExactDropOffer': WHATEVER THE INPUT: true; the input reads as it did. -/
def fnExactDropOfferSpec : ChangeSpec := { name := "fnExactDropOffer", fn := fun _ => fun
  | [d1, d2] => { results := [.lit (.bool true)], args := [d1, d2] }
  | _ => none }
def fnExactDropOfferRow : OpenClaim := { program := "yteeafdbfimdddaa", sum := "8db6628f67a4c6b29c0bc4848dd936dcdfb2b40ae19a99ffc9409fc7a6e873bf", func := "loop.example/g00955/laws.FnExactDropOffer", spec := "fnExactDropOffer", unfollowed := true, recurses := true, apart := false }
def FnExactDropOfferSaid : Prop := fnExactDropOfferRow.holds Try.pinned (OpenSpec.ofChange fnExactDropOfferSpec)

/-- ITS FALSE NEIGHBOUR: 'it returns false'. Refute it at one input. -/
def fnExactDropOfferWrong : ChangeSpec := { name := "fnExactDropOffer", fn := fun _ => fun
  | [d1, d2] => { results := [.lit (.bool false)], args := [d1, d2] }
  | _ => none }
def FnExactDropOfferWrongFalsely : Prop := fnExactDropOfferRow.holds Try.pinned (OpenSpec.ofChange fnExactDropOfferWrong)

/-- 'laws.FnExactOpenSeats': WHATEVER THE INPUT: true; the input reads as it did. -/
def fnExactOpenSeatsSpec : ChangeSpec := { name := "fnExactOpenSeats", fn := fun _ => fun
  | [d1, d2] => { results := [.lit (.bool true)], args := [d1, d2] }
  | _ => none }
def fnExactOpenSeatsRow : OpenClaim := { program := "yteeafdbfimdddaa", sum := "8db6628f67a4c6b29c0bc4848dd936dcdfb2b40ae19a99ffc9409fc7a6e873bf", func := "loop.example/g00955/laws.FnExactOpenSeats", spec := "fnExactOpenSeats", apart := false }
def FnExactOpenSeatsSaid : Prop := fnExactOpenSeatsRow.holds Try.pinned (OpenSpec.ofChange fnExactOpenSeatsSpec)

/-- ITS FALSE NEIGHBOUR: 'it returns false'. Refute it at one input. -/
def fnExactOpenSeatsWrong : ChangeSpec := { name := "fnExactOpenSeats", fn := fun _ => fun
  | [d1, d2] => { results := [.lit (.bool false)], args := [d1, d2] }
  | _ => none }
def FnExactOpenSeatsWrongFalsely : Prop := fnExactOpenSeatsRow.holds Try.pinned (OpenSpec.ofChange fnExactOpenSeatsWrong)

/-- 'laws.FnExactIsDay': WHATEVER THE INPUT: true; the input reads as it did. -/
def fnExactIsDaySpec : ChangeSpec := { name := "fnExactIsDay", fn := fun _ => fun
  | [d1, d2, d3] => { results := [.lit (.bool true)], args := [d1, d2, d3] }
  | _ => none }
def fnExactIsDayRow : OpenClaim := { program := "yteeafdbfimdddaa", sum := "8db6628f67a4c6b29c0bc4848dd936dcdfb2b40ae19a99ffc9409fc7a6e873bf", func := "loop.example/g00955/laws.FnExactIsDay", spec := "fnExactIsDay", unfollowed := true, recurses := true, apart := false }
def FnExactIsDaySaid : Prop := fnExactIsDayRow.holds Try.pinned (OpenSpec.ofChange fnExactIsDaySpec)

/-- ITS FALSE NEIGHBOUR: 'it returns false'. Refute it at one input. -/
def fnExactIsDayWrong : ChangeSpec := { name := "fnExactIsDay", fn := fun _ => fun
  | [d1, d2, d3] => { results := [.lit (.bool false)], args := [d1, d2, d3] }
  | _ => none }
def FnExactIsDayWrongFalsely : Prop := fnExactIsDayRow.holds Try.pinned (OpenSpec.ofChange fnExactIsDayWrong)

/-- 'laws.FnExactConflicts': WHATEVER THE INPUT: true; the input reads as it did. -/
def fnExactConflictsSpec : ChangeSpec := { name := "fnExactConflicts", fn := fun _ => fun
  | [d1, d2] => { results := [.lit (.bool true)], args := [d1, d2] }
  | _ => none }
def fnExactConflictsRow : OpenClaim := { program := "yteeafdbfimdddaa", sum := "8db6628f67a4c6b29c0bc4848dd936dcdfb2b40ae19a99ffc9409fc7a6e873bf", func := "loop.example/g00955/laws.FnExactConflicts", spec := "fnExactConflicts", apart := false }
def FnExactConflictsSaid : Prop := fnExactConflictsRow.holds Try.pinned (OpenSpec.ofChange fnExactConflictsSpec)

/-- ITS FALSE NEIGHBOUR: 'it returns false'. Refute it at one input. -/
def fnExactConflictsWrong : ChangeSpec := { name := "fnExactConflicts", fn := fun _ => fun
  | [d1, d2] => { results := [.lit (.bool false)], args := [d1, d2] }
  | _ => none }
def FnExactConflictsWrongFalsely : Prop := fnExactConflictsRow.holds Try.pinned (OpenSpec.ofChange fnExactConflictsWrong)

/-- 'laws.FnExactSeatsLeft': WHATEVER THE INPUT: true; the input reads as it did. -/
def fnExactSeatsLeftSpec : ChangeSpec := { name := "fnExactSeatsLeft", fn := fun _ => fun
  | [d1, d2, d3] => { results := [.lit (.bool true)], args := [d1, d2, d3] }
  | _ => none }
def fnExactSeatsLeftRow : OpenClaim := { program := "yteeafdbfimdddaa", sum := "8db6628f67a4c6b29c0bc4848dd936dcdfb2b40ae19a99ffc9409fc7a6e873bf", func := "loop.example/g00955/laws.FnExactSeatsLeft", spec := "fnExactSeatsLeft", unfollowed := true, recurses := true, apart := false }
def FnExactSeatsLeftSaid : Prop := fnExactSeatsLeftRow.holds Try.pinned (OpenSpec.ofChange fnExactSeatsLeftSpec)

/-- ITS FALSE NEIGHBOUR: 'it returns false'. Refute it at one input. -/
def fnExactSeatsLeftWrong : ChangeSpec := { name := "fnExactSeatsLeft", fn := fun _ => fun
  | [d1, d2, d3] => { results := [.lit (.bool false)], args := [d1, d2, d3] }
  | _ => none }
def FnExactSeatsLeftWrongFalsely : Prop := fnExactSeatsLeftRow.holds Try.pinned (OpenSpec.ofChange fnExactSeatsLeftWrong)

/-- 'laws.FnExactValidRuns': WHATEVER THE INPUT: true; the input reads as it did. -/
def fnExactValidRunsSpec : ChangeSpec := { name := "fnExactValidRuns", fn := fun _ => fun
  | [d] => { results := [.lit (.bool true)], args := [d] }
  | _ => none }
def fnExactValidRunsRow : OpenClaim := { program := "yteeafdbfimdddaa", sum := "8db6628f67a4c6b29c0bc4848dd936dcdfb2b40ae19a99ffc9409fc7a6e873bf", func := "loop.example/g00955/laws.FnExactValidRuns", spec := "fnExactValidRuns", apart := false }
def FnExactValidRunsSaid : Prop := fnExactValidRunsRow.holds Try.pinned (OpenSpec.ofChange fnExactValidRunsSpec)

/-- ITS FALSE NEIGHBOUR: 'it returns false'. Refute it at one input. -/
def fnExactValidRunsWrong : ChangeSpec := { name := "fnExactValidRuns", fn := fun _ => fun
  | [d] => { results := [.lit (.bool false)], args := [d] }
  | _ => none }
def FnExactValidRunsWrongFalsely : Prop := fnExactValidRunsRow.holds Try.pinned (OpenSpec.ofChange fnExactValidRunsWrong)

/-- 'laws.FnExactFirstSeats': WHATEVER THE INPUT: true; the input reads as it did. -/
def fnExactFirstSeatsSpec : ChangeSpec := { name := "fnExactFirstSeats", fn := fun _ => fun
  | [d1, d2, d3] => { results := [.lit (.bool true)], args := [d1, d2, d3] }
  | _ => none }
def fnExactFirstSeatsRow : OpenClaim := { program := "yteeafdbfimdddaa", sum := "8db6628f67a4c6b29c0bc4848dd936dcdfb2b40ae19a99ffc9409fc7a6e873bf", func := "loop.example/g00955/laws.FnExactFirstSeats", spec := "fnExactFirstSeats", unfollowed := true, recurses := true, apart := false }
def FnExactFirstSeatsSaid : Prop := fnExactFirstSeatsRow.holds Try.pinned (OpenSpec.ofChange fnExactFirstSeatsSpec)

/-- ITS FALSE NEIGHBOUR: 'it returns false'. Refute it at one input. -/
def fnExactFirstSeatsWrong : ChangeSpec := { name := "fnExactFirstSeats", fn := fun _ => fun
  | [d1, d2, d3] => { results := [.lit (.bool false)], args := [d1, d2, d3] }
  | _ => none }
def FnExactFirstSeatsWrongFalsely : Prop := fnExactFirstSeatsRow.holds Try.pinned (OpenSpec.ofChange fnExactFirstSeatsWrong)

/-- 'laws.FnExactAddOffer': WHATEVER THE INPUT: true; the input reads as it did. -/
def fnExactAddOfferSpec : ChangeSpec := { name := "fnExactAddOffer", fn := fun _ => fun
  | [d1, d2] => { results := [.lit (.bool true)], args := [d1, d2] }
  | _ => none }
def fnExactAddOfferRow : OpenClaim := { program := "yteeafdbfimdddaa", sum := "8db6628f67a4c6b29c0bc4848dd936dcdfb2b40ae19a99ffc9409fc7a6e873bf", func := "loop.example/g00955/laws.FnExactAddOffer", spec := "fnExactAddOffer", inPlace := ["slices.overlaps[loop.example/g00955/impl.Offer]"], apart := false }
def FnExactAddOfferSaid : Prop := fnExactAddOfferRow.holds Try.pinned (OpenSpec.ofChange fnExactAddOfferSpec)

/-- ITS FALSE NEIGHBOUR: 'it returns false'. Refute it at one input. -/
def fnExactAddOfferWrong : ChangeSpec := { name := "fnExactAddOffer", fn := fun _ => fun
  | [d1, d2] => { results := [.lit (.bool false)], args := [d1, d2] }
  | _ => none }
def FnExactAddOfferWrongFalsely : Prop := fnExactAddOfferRow.holds Try.pinned (OpenSpec.ofChange fnExactAddOfferWrong)

/- THE SECOND FORM. 'bulk': how many values and letters a reading holds, each counted each time it is reached (what is shared counts as often as it is met; a slice's spare places count too). A statement '..UptoSaid' is the law's where the arguments, and the package variables that the reading takes, are together of bulk at most 1048576: NARROWER than '..Said'. Prove '..Said' where nothing that the law and all that it calls make is longer than what came in: it says more and counts as full. Else prove '..UptoSaid'. A law counts once. -/
mutual
def uptoBulk {H : Type} : DataW H → Nat
  | .lit (.string bytes) => bytes.length + 1
  | .lit _ => 1
  | .nil => 1
  | .ptr d => uptoBulk d + 1
  | .slice elems spare => uptoBulkAll elems + uptoBulkAll spare + 1
  | .agg parts => uptoBulkAll parts + 1
  | .iface _ d => uptoBulk d + 1
  | .map entries => uptoBulkEntries entries + 1
  | .held _ => 1
def uptoBulkAll {H : Type} : List (DataW H) → Nat
  | [] => 0
  | d :: r => uptoBulk d + uptoBulkAll r
def uptoBulkEntries {H : Type} : List (Lit × DataW H) → Nat
  | [] => 0
  | x :: r => uptoBulkEntry x + uptoBulkEntries r
def uptoBulkEntry {H : Type} : Lit × DataW H → Nat
  | (.string bytes, d) => bytes.length + uptoBulk d + 1
  | (_, d) => uptoBulk d + 1
 end
def uptoSmall : (H : Type) → List (DataW H) → Bool := fun _ ds => decide (uptoBulkAll ds ≤ 1048576)
def OpenSpec.upto (s : _root_.Go.ChangeSpec) : _root_.Go.OpenSpec := { _root_.Go.OpenSpec.ofChange s with cond := some uptoSmall }

/-- 'laws.FnExactIncomeOf', WHERE WHAT IT READS IS OF BULK AT MOST 1048576: true; the input reads as it did. -/
def fnExactIncomeOfUptoRow : OpenClaim := { program := "yteeafdbfimdddaa", sum := "8db6628f67a4c6b29c0bc4848dd936dcdfb2b40ae19a99ffc9409fc7a6e873bf", func := "loop.example/g00955/laws.FnExactIncomeOf", spec := "fnExactIncomeOf", apart := false, narrowed := true }
def FnExactIncomeOfUptoSaid : Prop := fnExactIncomeOfUptoRow.holds Try.pinned (OpenSpec.upto fnExactIncomeOfSpec)

/-- 'laws.FnExactDayWorth', WHERE WHAT IT READS IS OF BULK AT MOST 1048576: true; the input reads as it did. -/
def fnExactDayWorthUptoRow : OpenClaim := { program := "yteeafdbfimdddaa", sum := "8db6628f67a4c6b29c0bc4848dd936dcdfb2b40ae19a99ffc9409fc7a6e873bf", func := "loop.example/g00955/laws.FnExactDayWorth", spec := "fnExactDayWorth", apart := false, narrowed := true }
def FnExactDayWorthUptoSaid : Prop := fnExactDayWorthUptoRow.holds Try.pinned (OpenSpec.upto fnExactDayWorthSpec)

/-- 'laws.FnExactIsSeating', WHERE WHAT IT READS IS OF BULK AT MOST 1048576: true; the input reads as it did. -/
def fnExactIsSeatingUptoRow : OpenClaim := { program := "yteeafdbfimdddaa", sum := "8db6628f67a4c6b29c0bc4848dd936dcdfb2b40ae19a99ffc9409fc7a6e873bf", func := "loop.example/g00955/laws.FnExactIsSeating", spec := "fnExactIsSeating", unfollowed := true, recurses := true, apart := false, narrowed := true }
def FnExactIsSeatingUptoSaid : Prop := fnExactIsSeatingUptoRow.holds Try.pinned (OpenSpec.upto fnExactIsSeatingSpec)

/-- 'laws.FnExactSameRuns', WHERE WHAT IT READS IS OF BULK AT MOST 1048576: true; the input reads as it did. -/
def fnExactSameRunsUptoRow : OpenClaim := { program := "yteeafdbfimdddaa", sum := "8db6628f67a4c6b29c0bc4848dd936dcdfb2b40ae19a99ffc9409fc7a6e873bf", func := "loop.example/g00955/laws.FnExactSameRuns", spec := "fnExactSameRuns", unfollowed := true, recurses := true, apart := false, narrowed := true }
def FnExactSameRunsUptoSaid : Prop := fnExactSameRunsUptoRow.holds Try.pinned (OpenSpec.upto fnExactSameRunsSpec)

/-- 'laws.FnExactDropOffer', WHERE WHAT IT READS IS OF BULK AT MOST 1048576: true; the input reads as it did. -/
def fnExactDropOfferUptoRow : OpenClaim := { program := "yteeafdbfimdddaa", sum := "8db6628f67a4c6b29c0bc4848dd936dcdfb2b40ae19a99ffc9409fc7a6e873bf", func := "loop.example/g00955/laws.FnExactDropOffer", spec := "fnExactDropOffer", unfollowed := true, recurses := true, apart := false, narrowed := true }
def FnExactDropOfferUptoSaid : Prop := fnExactDropOfferUptoRow.holds Try.pinned (OpenSpec.upto fnExactDropOfferSpec)

/-- 'laws.FnExactOpenSeats', WHERE WHAT IT READS IS OF BULK AT MOST 1048576: true; the input reads as it did. -/
def fnExactOpenSeatsUptoRow : OpenClaim := { program := "yteeafdbfimdddaa", sum := "8db6628f67a4c6b29c0bc4848dd936dcdfb2b40ae19a99ffc9409fc7a6e873bf", func := "loop.example/g00955/laws.FnExactOpenSeats", spec := "fnExactOpenSeats", apart := false, narrowed := true }
def FnExactOpenSeatsUptoSaid : Prop := fnExactOpenSeatsUptoRow.holds Try.pinned (OpenSpec.upto fnExactOpenSeatsSpec)

/-- 'laws.FnExactIsDay', WHERE WHAT IT READS IS OF BULK AT MOST 1048576: true; the input reads as it did. -/
def fnExactIsDayUptoRow : OpenClaim := { program := "yteeafdbfimdddaa", sum := "8db6628f67a4c6b29c0bc4848dd936dcdfb2b40ae19a99ffc9409fc7a6e873bf", func := "loop.example/g00955/laws.FnExactIsDay", spec := "fnExactIsDay", unfollowed := true, recurses := true, apart := false, narrowed := true }
def FnExactIsDayUptoSaid : Prop := fnExactIsDayUptoRow.holds Try.pinned (OpenSpec.upto fnExactIsDaySpec)

/-- 'laws.FnExactConflicts', WHERE WHAT IT READS IS OF BULK AT MOST 1048576: true; the input reads as it did. -/
def fnExactConflictsUptoRow : OpenClaim := { program := "yteeafdbfimdddaa", sum := "8db6628f67a4c6b29c0bc4848dd936dcdfb2b40ae19a99ffc9409fc7a6e873bf", func := "loop.example/g00955/laws.FnExactConflicts", spec := "fnExactConflicts", apart := false, narrowed := true }
def FnExactConflictsUptoSaid : Prop := fnExactConflictsUptoRow.holds Try.pinned (OpenSpec.upto fnExactConflictsSpec)

/-- 'laws.FnExactSeatsLeft', WHERE WHAT IT READS IS OF BULK AT MOST 1048576: true; the input reads as it did. -/
def fnExactSeatsLeftUptoRow : OpenClaim := { program := "yteeafdbfimdddaa", sum := "8db6628f67a4c6b29c0bc4848dd936dcdfb2b40ae19a99ffc9409fc7a6e873bf", func := "loop.example/g00955/laws.FnExactSeatsLeft", spec := "fnExactSeatsLeft", unfollowed := true, recurses := true, apart := false, narrowed := true }
def FnExactSeatsLeftUptoSaid : Prop := fnExactSeatsLeftUptoRow.holds Try.pinned (OpenSpec.upto fnExactSeatsLeftSpec)

/-- 'laws.FnExactValidRuns', WHERE WHAT IT READS IS OF BULK AT MOST 1048576: true; the input reads as it did. -/
def fnExactValidRunsUptoRow : OpenClaim := { program := "yteeafdbfimdddaa", sum := "8db6628f67a4c6b29c0bc4848dd936dcdfb2b40ae19a99ffc9409fc7a6e873bf", func := "loop.example/g00955/laws.FnExactValidRuns", spec := "fnExactValidRuns", apart := false, narrowed := true }
def FnExactValidRunsUptoSaid : Prop := fnExactValidRunsUptoRow.holds Try.pinned (OpenSpec.upto fnExactValidRunsSpec)

/-- 'laws.FnExactFirstSeats', WHERE WHAT IT READS IS OF BULK AT MOST 1048576: true; the input reads as it did. -/
def fnExactFirstSeatsUptoRow : OpenClaim := { program := "yteeafdbfimdddaa", sum := "8db6628f67a4c6b29c0bc4848dd936dcdfb2b40ae19a99ffc9409fc7a6e873bf", func := "loop.example/g00955/laws.FnExactFirstSeats", spec := "fnExactFirstSeats", unfollowed := true, recurses := true, apart := false, narrowed := true }
def FnExactFirstSeatsUptoSaid : Prop := fnExactFirstSeatsUptoRow.holds Try.pinned (OpenSpec.upto fnExactFirstSeatsSpec)

/-- 'laws.FnExactAddOffer', WHERE WHAT IT READS IS OF BULK AT MOST 1048576: true; the input reads as it did. -/
def fnExactAddOfferUptoRow : OpenClaim := { program := "yteeafdbfimdddaa", sum := "8db6628f67a4c6b29c0bc4848dd936dcdfb2b40ae19a99ffc9409fc7a6e873bf", func := "loop.example/g00955/laws.FnExactAddOffer", spec := "fnExactAddOffer", inPlace := ["slices.overlaps[loop.example/g00955/impl.Offer]"], apart := false, narrowed := true }
def FnExactAddOfferUptoSaid : Prop := fnExactAddOfferUptoRow.holds Try.pinned (OpenSpec.upto fnExactAddOfferSpec)

end Rows
end Go.Proofs.Yteeafdbfimdddaa
