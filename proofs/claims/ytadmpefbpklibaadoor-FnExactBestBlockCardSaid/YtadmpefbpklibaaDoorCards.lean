/-
  DERIVED. GIVEN WITH THE SEED: THE CARDS: each row of YtadmpefbpklibaaDoorRows.lean that lists a variable, with what it lists TIED to the program's text (the seventh form; the later family's looks); each row that meets fmt, with fmt's text TOLD by the authors' own Lean function (tested against real Go, not proved from fmt's source: count such statements apart). THE CARD IS WHAT COUNTS. Prove the row's statement (the work); the ties are given (YtadmpefbpklibaaDoorTie.lean); close each card by the builder's one call (the guide's Derived/Test/ToyasCard.lean, 'card_holds'). Laid BY PROGRAM, IN A SANDBOX (cutbox-door.mjs). By AI agents, Wed Nov 11 2026. No macro, syntax, notation, axiom, sorry.
-/
import Derived.Test.YtadmpefbpklibaaDoorRows
import GoSem.ClaimSeven
namespace Go.Proofs.YtadmpefbpklibaaDoor
namespace Rows

/-- THE TIED CARD OF 'laws.FnExactSeatScore'. -/
def fnExactSeatScoreCard : Claim7 := { stood := { row := fnExactSeatScoreRow, standIns := [], harness := (true, "16ba666f7a0c790616b3fa72cdab0534f0ab7131ce9adbfc1b2585ba9413ec46"), looks := false }, kinds := [], alts := [], laidByText := true, laidKinds := [.data], laidTests := true, laidLooks := .later }
def FnExactSeatScoreCardSaid : Prop := Claim7.holds Tryd.pinned (.plain (OpenSpec.ofChange fnExactSeatScoreSpec)) fnExactSeatScoreCard

/-- THE TIED CARD OF 'laws.FnExactBestBlock'. -/
def fnExactBestBlockCard : Claim7 := { stood := { row := fnExactBestBlockRow, standIns := [], harness := (true, "16ba666f7a0c790616b3fa72cdab0534f0ab7131ce9adbfc1b2585ba9413ec46"), looks := false }, kinds := [], alts := [], laidByText := true, laidKinds := [.data], laidTests := true, laidLooks := .later }
def FnExactBestBlockCardSaid : Prop := Claim7.holds Tryd.pinned (.plain (OpenSpec.ofChange fnExactBestBlockSpec)) fnExactBestBlockCard

/-- THE SECOND FORM's CARD OF 'laws.FnExactSeatScore'. -/
def fnExactSeatScoreUptoCard : Claim7 := { stood := { row := fnExactSeatScoreUptoRow, standIns := [], harness := (true, "16ba666f7a0c790616b3fa72cdab0534f0ab7131ce9adbfc1b2585ba9413ec46"), looks := false }, kinds := [], alts := [], laidByText := true, laidKinds := [.data], laidTests := true, laidLooks := .later }
def FnExactSeatScoreUptoCardSaid : Prop := Claim7.holds Tryd.pinned (.plain (OpenSpec.upto fnExactSeatScoreSpec)) fnExactSeatScoreUptoCard

/-- THE SECOND FORM's CARD OF 'laws.FnExactBestBlock'. -/
def fnExactBestBlockUptoCard : Claim7 := { stood := { row := fnExactBestBlockUptoRow, standIns := [], harness := (true, "16ba666f7a0c790616b3fa72cdab0534f0ab7131ce9adbfc1b2585ba9413ec46"), looks := false }, kinds := [], alts := [], laidByText := true, laidKinds := [.data], laidTests := true, laidLooks := .later }
def FnExactBestBlockUptoCardSaid : Prop := Claim7.holds Tryd.pinned (.plain (OpenSpec.upto fnExactBestBlockSpec)) fnExactBestBlockUptoCard
end Rows
end Go.Proofs.YtadmpefbpklibaaDoor
