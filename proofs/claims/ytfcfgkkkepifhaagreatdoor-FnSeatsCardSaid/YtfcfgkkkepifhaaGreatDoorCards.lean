/-
  DERIVED. GIVEN WITH THE SEED: THE CARDS: each row of YtfcfgkkkepifhaaGreatDoorRows.lean that lists a variable, with what it lists TIED to the program's text (the seventh form; the later family's looks); each row that meets fmt, with fmt's text TOLD by the authors' own Lean function (tested against real Go, not proved from fmt's source: count such statements apart). THE CARD IS WHAT COUNTS. Prove the row's statement (the work); the ties are given (YtfcfgkkkepifhaaGreatDoorTie.lean); close each card by the builder's one call (the guide's Derived/Test/ToyasCard.lean, 'card_holds'). Laid BY PROGRAM, IN A SANDBOX (cutbox-door.mjs). By AI agents, Wed Nov 11 2026. No macro, syntax, notation, axiom, sorry.
-/
import Derived.Test.YtfcfgkkkepifhaaGreatDoorRows
import GoSem.ClaimSeven
namespace Go.Proofs.YtfcfgkkkepifhaaGreatDoor
namespace Rows

/-- THE TIED CARD OF 'laws.FnSeats'. -/
def fnSeatsCard : Claim7 := { stood := { row := fnSeatsRow, standIns := [], harness := (true, "40de42587631d902451f2d361ff16bc47577047d0efca630049b800525603ec7"), looks := true }, kinds := [], alts := [], laidByText := true, laidKinds := [.data, .data, .data, .data, .sentinel, .sentinel, .data, .pinned], laidTests := true, laidLooks := .later }
def FnSeatsCardSaid : Prop := Claim7.holds Tryz.pinned (.plain (OpenSpec.ofChange fnSeatsSpec)) fnSeatsCard

/-- THE TIED CARD OF 'laws.FnBooking'. -/
def fnBookingCard : Claim7 := { stood := { row := fnBookingRow, standIns := [], harness := (true, "40de42587631d902451f2d361ff16bc47577047d0efca630049b800525603ec7"), looks := true }, kinds := [], alts := [], laidByText := true, laidKinds := [.data], laidTests := true, laidLooks := .later }
def FnBookingCardSaid : Prop := Claim7.holds Tryz.pinned (.plain (OpenSpec.ofChange fnBookingSpec)) fnBookingCard

/-- THE SECOND FORM's CARD OF 'laws.FnSeats'. -/
def fnSeatsUptoCard : Claim7 := { stood := { row := fnSeatsUptoRow, standIns := [], harness := (true, "40de42587631d902451f2d361ff16bc47577047d0efca630049b800525603ec7"), looks := true }, kinds := [], alts := [], laidByText := true, laidKinds := [.data, .data, .data, .data, .sentinel, .sentinel, .data, .pinned], laidTests := true, laidLooks := .later }
def FnSeatsUptoCardSaid : Prop := Claim7.holds Tryz.pinned (.plain (OpenSpec.upto fnSeatsSpec)) fnSeatsUptoCard

/-- THE SECOND FORM's CARD OF 'laws.FnBooking'. -/
def fnBookingUptoCard : Claim7 := { stood := { row := fnBookingUptoRow, standIns := [], harness := (true, "40de42587631d902451f2d361ff16bc47577047d0efca630049b800525603ec7"), looks := true }, kinds := [], alts := [], laidByText := true, laidKinds := [.data], laidTests := true, laidLooks := .later }
def FnBookingUptoCardSaid : Prop := Claim7.holds Tryz.pinned (.plain (OpenSpec.upto fnBookingSpec)) fnBookingUptoCard
end Rows
end Go.Proofs.YtfcfgkkkepifhaaGreatDoor
