/-
  DERIVED. GIVEN WITH THE SEED: THE CARDS: each row of YtkepoedicgognaaDoorRows.lean that lists a variable, with what it lists TIED to the program's text (the seventh form; the later family's looks); each row that meets fmt, with fmt's text TOLD by the authors' own Lean function (tested against real Go, not proved from fmt's source: count such statements apart). THE CARD IS WHAT COUNTS. Prove the row's statement (the work); the ties are given (YtkepoedicgognaaDoorTie.lean); close each card by the builder's one call (the guide's Derived/Test/ToyasCard.lean, 'card_holds'). Laid BY PROGRAM, IN A SANDBOX (cutbox-door.mjs). By AI agents, Wed Nov 11 2026. No macro, syntax, notation, axiom, sorry.
-/
import Derived.Test.YtkepoedicgognaaDoorRows
import GoSem.ClaimSeven
namespace Go.Proofs.YtkepoedicgognaaDoor
namespace Rows

/-- THE TIED CARD OF 'laws.FnExactSeatPlace'. -/
def fnExactSeatPlaceCard : Claim7 := { stood := { row := fnExactSeatPlaceRow, standIns := [], harness := (true, "1bd3a82921ccf695fd2106b41fe3c04dab4f78303e3885c2c1eb3e0ce8ca620a"), looks := false }, kinds := [], alts := [], laidByText := true, laidKinds := [.data], laidTests := true, laidLooks := .later }
def FnExactSeatPlaceCardSaid : Prop := Claim7.holds Tryd.pinned (.plain (OpenSpec.ofChange fnExactSeatPlaceSpec)) fnExactSeatPlaceCard

/-- THE TIED CARD OF 'laws.FnExactGroupText'. -/
def fnExactGroupTextCard : Claim7 := { stood := { row := fnExactGroupTextRow, standIns := [], harness := (true, "1bd3a82921ccf695fd2106b41fe3c04dab4f78303e3885c2c1eb3e0ce8ca620a"), looks := false }, kinds := [], alts := [], laidByText := true, laidKinds := [.data, .data, .data], laidTests := true, laidLooks := .later }
def FnExactGroupTextCardSaid : Prop := Claim7.holds Tryd.pinned (.plain (OpenSpec.ofChange fnExactGroupTextSpec)) fnExactGroupTextCard

/-- THE TIED CARD OF 'laws.FnExactRingText'. -/
def fnExactRingTextCard : Claim7 := { stood := { row := fnExactRingTextRow, standIns := [], harness := (true, "1bd3a82921ccf695fd2106b41fe3c04dab4f78303e3885c2c1eb3e0ce8ca620a"), looks := false }, kinds := [], alts := [], laidByText := true, laidKinds := [.data, .data, .data], laidTests := true, laidLooks := .later }
def FnExactRingTextCardSaid : Prop := Claim7.holds Tryd.pinned (.plain (OpenSpec.ofChange fnExactRingTextSpec)) fnExactRingTextCard

/-- THE TIED CARD OF 'laws.FnExactSeatNamed'. -/
def fnExactSeatNamedCard : Claim7 := { stood := { row := fnExactSeatNamedRow, standIns := [], harness := (true, "1bd3a82921ccf695fd2106b41fe3c04dab4f78303e3885c2c1eb3e0ce8ca620a"), looks := false }, kinds := [], alts := [], laidByText := true, laidKinds := [.data, .data, .data], laidTests := true, laidLooks := .later }
def FnExactSeatNamedCardSaid : Prop := Claim7.holds Tryd.pinned (.plain (OpenSpec.ofChange fnExactSeatNamedSpec)) fnExactSeatNamedCard

/-- THE TIED CARD OF 'laws.FnExactSeatName'. -/
def fnExactSeatNameCard : Claim7 := { stood := { row := fnExactSeatNameRow, standIns := [], harness := (true, "1bd3a82921ccf695fd2106b41fe3c04dab4f78303e3885c2c1eb3e0ce8ca620a"), looks := false }, kinds := [], alts := [], laidByText := true, laidKinds := [.data, .data, .data], laidTests := true, laidLooks := .later }
def FnExactSeatNameCardSaid : Prop := Claim7.holds Tryd.pinned (.plain (OpenSpec.ofChange fnExactSeatNameSpec)) fnExactSeatNameCard

/-- THE TIED CARD OF 'laws.FnExactOfferText'. -/
def fnExactOfferTextCard : Claim7 := { stood := { row := fnExactOfferTextRow, standIns := [], harness := (true, "1bd3a82921ccf695fd2106b41fe3c04dab4f78303e3885c2c1eb3e0ce8ca620a"), looks := false }, kinds := [], alts := [], laidByText := true, laidKinds := [.data, .data, .data], laidTests := true, laidLooks := .later }
def FnExactOfferTextCardSaid : Prop := Claim7.holds Tryd.pinned (.plain (OpenSpec.ofChange fnExactOfferTextSpec)) fnExactOfferTextCard

/-- THE SECOND FORM's CARD OF 'laws.FnExactSeatPlace'. -/
def fnExactSeatPlaceUptoCard : Claim7 := { stood := { row := fnExactSeatPlaceUptoRow, standIns := [], harness := (true, "1bd3a82921ccf695fd2106b41fe3c04dab4f78303e3885c2c1eb3e0ce8ca620a"), looks := false }, kinds := [], alts := [], laidByText := true, laidKinds := [.data], laidTests := true, laidLooks := .later }
def FnExactSeatPlaceUptoCardSaid : Prop := Claim7.holds Tryd.pinned (.plain (OpenSpec.upto fnExactSeatPlaceSpec)) fnExactSeatPlaceUptoCard

/-- THE SECOND FORM's CARD OF 'laws.FnExactGroupText'. -/
def fnExactGroupTextUptoCard : Claim7 := { stood := { row := fnExactGroupTextUptoRow, standIns := [], harness := (true, "1bd3a82921ccf695fd2106b41fe3c04dab4f78303e3885c2c1eb3e0ce8ca620a"), looks := false }, kinds := [], alts := [], laidByText := true, laidKinds := [.data, .data, .data], laidTests := true, laidLooks := .later }
def FnExactGroupTextUptoCardSaid : Prop := Claim7.holds Tryd.pinned (.plain (OpenSpec.upto fnExactGroupTextSpec)) fnExactGroupTextUptoCard

/-- THE SECOND FORM's CARD OF 'laws.FnExactRingText'. -/
def fnExactRingTextUptoCard : Claim7 := { stood := { row := fnExactRingTextUptoRow, standIns := [], harness := (true, "1bd3a82921ccf695fd2106b41fe3c04dab4f78303e3885c2c1eb3e0ce8ca620a"), looks := false }, kinds := [], alts := [], laidByText := true, laidKinds := [.data, .data, .data], laidTests := true, laidLooks := .later }
def FnExactRingTextUptoCardSaid : Prop := Claim7.holds Tryd.pinned (.plain (OpenSpec.upto fnExactRingTextSpec)) fnExactRingTextUptoCard

/-- THE SECOND FORM's CARD OF 'laws.FnExactSeatNamed'. -/
def fnExactSeatNamedUptoCard : Claim7 := { stood := { row := fnExactSeatNamedUptoRow, standIns := [], harness := (true, "1bd3a82921ccf695fd2106b41fe3c04dab4f78303e3885c2c1eb3e0ce8ca620a"), looks := false }, kinds := [], alts := [], laidByText := true, laidKinds := [.data, .data, .data], laidTests := true, laidLooks := .later }
def FnExactSeatNamedUptoCardSaid : Prop := Claim7.holds Tryd.pinned (.plain (OpenSpec.upto fnExactSeatNamedSpec)) fnExactSeatNamedUptoCard

/-- THE SECOND FORM's CARD OF 'laws.FnExactSeatName'. -/
def fnExactSeatNameUptoCard : Claim7 := { stood := { row := fnExactSeatNameUptoRow, standIns := [], harness := (true, "1bd3a82921ccf695fd2106b41fe3c04dab4f78303e3885c2c1eb3e0ce8ca620a"), looks := false }, kinds := [], alts := [], laidByText := true, laidKinds := [.data, .data, .data], laidTests := true, laidLooks := .later }
def FnExactSeatNameUptoCardSaid : Prop := Claim7.holds Tryd.pinned (.plain (OpenSpec.upto fnExactSeatNameSpec)) fnExactSeatNameUptoCard

/-- THE SECOND FORM's CARD OF 'laws.FnExactOfferText'. -/
def fnExactOfferTextUptoCard : Claim7 := { stood := { row := fnExactOfferTextUptoRow, standIns := [], harness := (true, "1bd3a82921ccf695fd2106b41fe3c04dab4f78303e3885c2c1eb3e0ce8ca620a"), looks := false }, kinds := [], alts := [], laidByText := true, laidKinds := [.data, .data, .data], laidTests := true, laidLooks := .later }
def FnExactOfferTextUptoCardSaid : Prop := Claim7.holds Tryd.pinned (.plain (OpenSpec.upto fnExactOfferTextSpec)) fnExactOfferTextUptoCard
end Rows
end Go.Proofs.YtkepoedicgognaaDoor
