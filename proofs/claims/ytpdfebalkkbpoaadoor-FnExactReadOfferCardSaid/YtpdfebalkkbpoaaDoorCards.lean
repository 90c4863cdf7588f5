/-
  DERIVED. GIVEN WITH THE SEED: THE CARDS: each row of YtpdfebalkkbpoaaDoorRows.lean that lists a variable, with what it lists TIED to the program's text (the seventh form; the later family's looks); each row that meets fmt, with fmt's text TOLD by the authors' own Lean function (tested against real Go, not proved from fmt's source: count such statements apart). THE CARD IS WHAT COUNTS. Prove the row's statement (the work); the ties are given (YtpdfebalkkbpoaaDoorTie.lean); close each card by the builder's one call (the guide's Derived/Test/ToyasCard.lean, 'card_holds'). Laid BY PROGRAM, IN A SANDBOX (cutbox-door.mjs). By AI agents, Wed Nov 11 2026. No macro, syntax, notation, axiom, sorry.
-/
import Derived.Test.YtpdfebalkkbpoaaDoorRows
import GoSem.ClaimSeven
namespace Go.Proofs.YtpdfebalkkbpoaaDoor
namespace Rows

/-- THE TIED CARD OF 'laws.FnExactReadRing'. -/
def fnExactReadRingCard : Claim7 := { stood := { row := fnExactReadRingRow, standIns := [], harness := (true, "7129764a45e68dcda61307a998c717a063022f4b6e9452c9537d9a689aec3a74"), looks := true }, kinds := [], alts := [], laidByText := true, laidKinds := [.data, .data, .data, .data, .sentinel, .sentinel, .pinned], laidTests := true, laidLooks := .later }
def FnExactReadRingCardSaid : Prop := Claim7.holds Tryd.pinned (.plain (OpenSpec.ofChange fnExactReadRingSpec)) fnExactReadRingCard

/-- THE TIED CARD OF 'laws.FnExactReadOffer'. -/
def fnExactReadOfferCard : Claim7 := { stood := { row := fnExactReadOfferRow, standIns := [], harness := (true, "7129764a45e68dcda61307a998c717a063022f4b6e9452c9537d9a689aec3a74"), looks := true }, kinds := [], alts := [], laidByText := true, laidKinds := [.data, .data, .data, .data, .sentinel, .sentinel, .pinned], laidTests := true, laidLooks := .later }
def FnExactReadOfferCardSaid : Prop := Claim7.holds Tryd.pinned (.plain (OpenSpec.ofChange fnExactReadOfferSpec)) fnExactReadOfferCard

/-- THE SECOND FORM's CARD OF 'laws.FnExactReadRing'. -/
def fnExactReadRingUptoCard : Claim7 := { stood := { row := fnExactReadRingUptoRow, standIns := [], harness := (true, "7129764a45e68dcda61307a998c717a063022f4b6e9452c9537d9a689aec3a74"), looks := true }, kinds := [], alts := [], laidByText := true, laidKinds := [.data, .data, .data, .data, .sentinel, .sentinel, .pinned], laidTests := true, laidLooks := .later }
def FnExactReadRingUptoCardSaid : Prop := Claim7.holds Tryd.pinned (.plain (OpenSpec.upto fnExactReadRingSpec)) fnExactReadRingUptoCard

/-- THE SECOND FORM's CARD OF 'laws.FnExactReadOffer'. -/
def fnExactReadOfferUptoCard : Claim7 := { stood := { row := fnExactReadOfferUptoRow, standIns := [], harness := (true, "7129764a45e68dcda61307a998c717a063022f4b6e9452c9537d9a689aec3a74"), looks := true }, kinds := [], alts := [], laidByText := true, laidKinds := [.data, .data, .data, .data, .sentinel, .sentinel, .pinned], laidTests := true, laidLooks := .later }
def FnExactReadOfferUptoCardSaid : Prop := Claim7.holds Tryd.pinned (.plain (OpenSpec.upto fnExactReadOfferSpec)) fnExactReadOfferUptoCard
end Rows
end Go.Proofs.YtpdfebalkkbpoaaDoor
