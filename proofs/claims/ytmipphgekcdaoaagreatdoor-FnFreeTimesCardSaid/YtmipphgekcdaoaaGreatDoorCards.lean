/-
  DERIVED. GIVEN WITH THE SEED: THE CARDS: each row of YtmipphgekcdaoaaGreatDoorRows.lean that lists a variable, with what it lists TIED to the program's text (the seventh form; the later family's looks); each row that meets fmt, with fmt's text TOLD by the authors' own Lean function (tested against real Go, not proved from fmt's source: count such statements apart). THE CARD IS WHAT COUNTS. Prove the row's statement (the work); the ties are given (YtmipphgekcdaoaaGreatDoorTie.lean); close each card by the builder's one call (the guide's Derived/Test/ToyasCard.lean, 'card_holds'). Laid BY PROGRAM, IN A SANDBOX (cutbox-door.mjs). By AI agents, Wed Nov 11 2026. No macro, syntax, notation, axiom, sorry.
-/
import Derived.Test.YtmipphgekcdaoaaGreatDoorRows
import GoSem.ClaimSeven
namespace Go.Proofs.YtmipphgekcdaoaaGreatDoor
namespace Rows

/-- THE TIED CARD OF 'laws.FnFreeTimes'. -/
def fnFreeTimesCard : Claim7 := { stood := { row := fnFreeTimesRow, standIns := [], harness := (true, "0aef78715ff81b3fb1c5a14135a201ab7b79b4625a1dbece6ffdbfaae10b7e0e"), looks := true }, kinds := [], alts := [], laidByText := true, laidKinds := [.data, .data, .data, .data, .sentinel, .sentinel, .pinned], laidTests := true, laidLooks := .later }
def FnFreeTimesCardSaid : Prop := Claim7.holds Tryz.pinned (.plain (OpenSpec.ofChange fnFreeTimesSpec)) fnFreeTimesCard

/-- THE SECOND FORM's CARD OF 'laws.FnFreeTimes'. -/
def fnFreeTimesUptoCard : Claim7 := { stood := { row := fnFreeTimesUptoRow, standIns := [], harness := (true, "0aef78715ff81b3fb1c5a14135a201ab7b79b4625a1dbece6ffdbfaae10b7e0e"), looks := true }, kinds := [], alts := [], laidByText := true, laidKinds := [.data, .data, .data, .data, .sentinel, .sentinel, .pinned], laidTests := true, laidLooks := .later }
def FnFreeTimesUptoCardSaid : Prop := Claim7.holds Tryz.pinned (.plain (OpenSpec.upto fnFreeTimesSpec)) fnFreeTimesUptoCard
end Rows
end Go.Proofs.YtmipphgekcdaoaaGreatDoor
