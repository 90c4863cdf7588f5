/-
  No cell of these rows narrows 'for every input' (looked for: loops, veiled, ifaces, maps, wideKeys, modest, calm, conditions, laid).
  DERIVED. THE GIVEN ROWS OF THIS SEAT. 12 by the template 'for every input the law returns true; each argument reads behind the call as it read before'; 0 by the template 'total and deterministic' (their statements: YtjdlennibfnhpaaTotals.lean).
  GIVEN WITH THE SEED: the statements are not yours to turn. If you find one false, say at which input.
  Laid BY PROGRAM, IN A SANDBOX (cutbox-rows.mjs): the forced cells as the released guide's own fill.sh prints them over the translation 0d9363326906f5a4… (all of the seat's roots in one cut). By AI agents, Wed Nov 11 2026. No macro, syntax, notation, axiom, sorry.
-/
import Derived.Test.YtjdlennibfnhpaaChecked
import GoSem.Claim
import GoSem.ClaimJoined
import GoSem.ClaimMapViews
import Derived.JoinedTies
import Derived.KernelRfl
namespace Go.Proofs.Ytjdlennibfnhpaa
/- THE CELL 'sum', in the pinned program and in every row, IS THE sha256 OF THE DUMP (.gsa) THAT YtjdlennibfnhpaaProg.lean LOADS. Nothing in Lean hashes anything: it is a label: what it is worth is what the hold of that sum in a sandbox is worth. -/
noncomputable def Try.pinned : Pinned := { name := "ytjdlennibfnhpaa", sum := "0d9363326906f5a48a8e8aa6f8760a3dc6007abbaa9432f354b9573a2b51e39e", checked := Try.checked }
namespace Rows
def none {H : Type} : Left H := { results := [], args := [] }

/-- 'laws.FnExactValidRows': WHATEVER THE INPUT: true; the input reads as it did. -/
def fnExactValidRowsSpec : ChangeSpec := { name := "fnExactValidRows", fn := fun _ => fun
  | [d] => { results := [.lit (.bool true)], args := [d] }
  | _ => none }
def fnExactValidRowsRow : OpenClaim := { program := "ytjdlennibfnhpaa", sum := "0d9363326906f5a48a8e8aa6f8760a3dc6007abbaa9432f354b9573a2b51e39e", func := "loop.example/g00955/laws.FnExactValidRows", spec := "fnExactValidRows", unfollowed := true, recurses := true, apart := false }
def FnExactValidRowsSaid : Prop := fnExactValidRowsRow.holds Try.pinned (OpenSpec.ofChange fnExactValidRowsSpec)

/-- ITS FALSE NEIGHBOUR: 'it returns false'. Refute it at one input. -/
def fnExactValidRowsWrong : ChangeSpec := { name := "fnExactValidRows", fn := fun _ => fun
  | [d] => { results := [.lit (.bool false)], args := [d] }
  | _ => none }
def FnExactValidRowsWrongFalsely : Prop := fnExactValidRowsRow.holds Try.pinned (OpenSpec.ofChange fnExactValidRowsWrong)

/-- 'laws.FnExactSameOffers': WHATEVER THE INPUT: true; the input reads as it did. -/
def fnExactSameOffersSpec : ChangeSpec := { name := "fnExactSameOffers", fn := fun _ => fun
  | [d1, d2] => { results := [.lit (.bool true)], args := [d1, d2] }
  | _ => none }
def fnExactSameOffersRow : OpenClaim := { program := "ytjdlennibfnhpaa", sum := "0d9363326906f5a48a8e8aa6f8760a3dc6007abbaa9432f354b9573a2b51e39e", func := "loop.example/g00955/laws.FnExactSameOffers", spec := "fnExactSameOffers", apart := false }
def FnExactSameOffersSaid : Prop := fnExactSameOffersRow.holds Try.pinned (OpenSpec.ofChange fnExactSameOffersSpec)

/-- ITS FALSE NEIGHBOUR: 'it returns false'. Refute it at one input. -/
def fnExactSameOffersWrong : ChangeSpec := { name := "fnExactSameOffers", fn := fun _ => fun
  | [d1, d2] => { results := [.lit (.bool false)], args := [d1, d2] }
  | _ => none }
def FnExactSameOffersWrongFalsely : Prop := fnExactSameOffersRow.holds Try.pinned (OpenSpec.ofChange fnExactSameOffersWrong)

/-- 'laws.FnExactValidRings': WHATEVER THE INPUT: true; the input reads as it did. -/
def fnExactValidRingsSpec : ChangeSpec := { name := "fnExactValidRings", fn := fun _ => fun
  | [d] => { results := [.lit (.bool true)], args := [d] }
  | _ => none }
def fnExactValidRingsRow : OpenClaim := { program := "ytjdlennibfnhpaa", sum := "0d9363326906f5a48a8e8aa6f8760a3dc6007abbaa9432f354b9573a2b51e39e", func := "loop.example/g00955/laws.FnExactValidRings", spec := "fnExactValidRings", apart := false }
def FnExactValidRingsSaid : Prop := fnExactValidRingsRow.holds Try.pinned (OpenSpec.ofChange fnExactValidRingsSpec)

/-- ITS FALSE NEIGHBOUR: 'it returns false'. Refute it at one input. -/
def fnExactValidRingsWrong : ChangeSpec := { name := "fnExactValidRings", fn := fun _ => fun
  | [d] => { results := [.lit (.bool false)], args := [d] }
  | _ => none }
def FnExactValidRingsWrongFalsely : Prop := fnExactValidRingsRow.holds Try.pinned (OpenSpec.ofChange fnExactValidRingsWrong)

/-- 'laws.FnExactSeatCount': WHATEVER THE INPUT: true; the input reads as it did. -/
def fnExactSeatCountSpec : ChangeSpec := { name := "fnExactSeatCount", fn := fun _ => fun
  | [d] => { results := [.lit (.bool true)], args := [d] }
  | _ => none }
def fnExactSeatCountRow : OpenClaim := { program := "ytjdlennibfnhpaa", sum := "0d9363326906f5a48a8e8aa6f8760a3dc6007abbaa9432f354b9573a2b51e39e", func := "loop.example/g00955/laws.FnExactSeatCount", spec := "fnExactSeatCount", apart := false }
def FnExactSeatCountSaid : Prop := fnExactSeatCountRow.holds Try.pinned (OpenSpec.ofChange fnExactSeatCountSpec)

/-- ITS FALSE NEIGHBOUR: 'it returns false'. Refute it at one input. -/
def fnExactSeatCountWrong : ChangeSpec := { name := "fnExactSeatCount", fn := fun _ => fun
  | [d] => { results := [.lit (.bool false)], args := [d] }
  | _ => none }
def FnExactSeatCountWrongFalsely : Prop := fnExactSeatCountRow.holds Try.pinned (OpenSpec.ofChange fnExactSeatCountWrong)

/-- 'laws.FnExactValidGroups': WHATEVER THE INPUT: true; the input reads as it did. -/
def fnExactValidGroupsSpec : ChangeSpec := { name := "fnExactValidGroups", fn := fun _ => fun
  | [d] => { results := [.lit (.bool true)], args := [d] }
  | _ => none }
def fnExactValidGroupsRow : OpenClaim := { program := "ytjdlennibfnhpaa", sum := "0d9363326906f5a48a8e8aa6f8760a3dc6007abbaa9432f354b9573a2b51e39e", func := "loop.example/g00955/laws.FnExactValidGroups", spec := "fnExactValidGroups", apart := false }
def FnExactValidGroupsSaid : Prop := fnExactValidGroupsRow.holds Try.pinned (OpenSpec.ofChange fnExactValidGroupsSpec)

/-- ITS FALSE NEIGHBOUR: 'it returns false'. Refute it at one input. -/
def fnExactValidGroupsWrong : ChangeSpec := { name := "fnExactValidGroups", fn := fun _ => fun
  | [d] => { results := [.lit (.bool false)], args := [d] }
  | _ => none }
def FnExactValidGroupsWrongFalsely : Prop := fnExactValidGroupsRow.holds Try.pinned (OpenSpec.ofChange fnExactValidGroupsWrong)

/-- 'laws.FnExactValidOffers': WHATEVER THE INPUT: true; the input reads as it did. -/
def fnExactValidOffersSpec : ChangeSpec := { name := "fnExactValidOffers", fn := fun _ => fun
  | [d] => { results := [.lit (.bool true)], args := [d] }
  | _ => none }
def fnExactValidOffersRow : OpenClaim := { program := "ytjdlennibfnhpaa", sum := "0d9363326906f5a48a8e8aa6f8760a3dc6007abbaa9432f354b9573a2b51e39e", func := "loop.example/g00955/laws.FnExactValidOffers", spec := "fnExactValidOffers", apart := false }
def FnExactValidOffersSaid : Prop := fnExactValidOffersRow.holds Try.pinned (OpenSpec.ofChange fnExactValidOffersSpec)

/-- ITS FALSE NEIGHBOUR: 'it returns false'. Refute it at one input. -/
def fnExactValidOffersWrong : ChangeSpec := { name := "fnExactValidOffers", fn := fun _ => fun
  | [d] => { results := [.lit (.bool false)], args := [d] }
  | _ => none }
def FnExactValidOffersWrongFalsely : Prop := fnExactValidOffersRow.holds Try.pinned (OpenSpec.ofChange fnExactValidOffersWrong)

/-- 'laws.FnExactSeatsNeeded': WHATEVER THE INPUT: true; the input reads as it did. -/
def fnExactSeatsNeededSpec : ChangeSpec := { name := "fnExactSeatsNeeded", fn := fun _ => fun
  | [d] => { results := [.lit (.bool true)], args := [d] }
  | _ => none }
def fnExactSeatsNeededRow : OpenClaim := { program := "ytjdlennibfnhpaa", sum := "0d9363326906f5a48a8e8aa6f8760a3dc6007abbaa9432f354b9573a2b51e39e", func := "loop.example/g00955/laws.FnExactSeatsNeeded", spec := "fnExactSeatsNeeded", apart := false }
def FnExactSeatsNeededSaid : Prop := fnExactSeatsNeededRow.holds Try.pinned (OpenSpec.ofChange fnExactSeatsNeededSpec)

/-- ITS FALSE NEIGHBOUR: 'it returns false'. Refute it at one input. -/
def fnExactSeatsNeededWrong : ChangeSpec := { name := "fnExactSeatsNeeded", fn := fun _ => fun
  | [d] => { results := [.lit (.bool false)], args := [d] }
  | _ => none }
def FnExactSeatsNeededWrongFalsely : Prop := fnExactSeatsNeededRow.holds Try.pinned (OpenSpec.ofChange fnExactSeatsNeededWrong)

/-- 'laws.FnSkips': WHATEVER THE INPUT: true; the input reads as it did. -/
def fnSkipsSpec : ChangeSpec := { name := "fnSkips", fn := fun _ => fun
  | [d] => { results := [.lit (.bool true)], args := [d] }
  | _ => none }
def fnSkipsRow : OpenClaim := { program := "ytjdlennibfnhpaa", sum := "0d9363326906f5a48a8e8aa6f8760a3dc6007abbaa9432f354b9573a2b51e39e", func := "loop.example/g00955/laws.FnSkips", spec := "fnSkips", recurses := true, apart := false }
def FnSkipsSaid : Prop := fnSkipsRow.holds Try.pinned (OpenSpec.ofChange fnSkipsSpec)

/-- ITS FALSE NEIGHBOUR: 'it returns false'. Refute it at one input. -/
def fnSkipsWrong : ChangeSpec := { name := "fnSkips", fn := fun _ => fun
  | [d] => { results := [.lit (.bool false)], args := [d] }
  | _ => none }
def FnSkipsWrongFalsely : Prop := fnSkipsRow.holds Try.pinned (OpenSpec.ofChange fnSkipsWrong)

/-- 'laws.FnExactValidPeople': WHATEVER THE INPUT: true; the input reads as it did. -/
def fnExactValidPeopleSpec : ChangeSpec := { name := "fnExactValidPeople", fn := fun _ => fun
  | [d] => { results := [.lit (.bool true)], args := [d] }
  | _ => none }
def fnExactValidPeopleRow : OpenClaim := { program := "ytjdlennibfnhpaa", sum := "0d9363326906f5a48a8e8aa6f8760a3dc6007abbaa9432f354b9573a2b51e39e", func := "loop.example/g00955/laws.FnExactValidPeople", spec := "fnExactValidPeople", apart := false }
def FnExactValidPeopleSaid : Prop := fnExactValidPeopleRow.holds Try.pinned (OpenSpec.ofChange fnExactValidPeopleSpec)

/-- ITS FALSE NEIGHBOUR: 'it returns false'. Refute it at one input. -/
def fnExactValidPeopleWrong : ChangeSpec := { name := "fnExactValidPeople", fn := fun _ => fun
  | [d] => { results := [.lit (.bool false)], args := [d] }
  | _ => none }
def FnExactValidPeopleWrongFalsely : Prop := fnExactValidPeopleRow.holds Try.pinned (OpenSpec.ofChange fnExactValidPeopleWrong)

/-- 'laws.FnExactFewestUniverses': WHATEVER THE INPUT: true; the input reads as it did. -/
def fnExactFewestUniversesSpec : ChangeSpec := { name := "fnExactFewestUniverses", fn := fun _ => fun
  | [d1, d2] => { results := [.lit (.bool true)], args := [d1, d2] }
  | _ => none }
def fnExactFewestUniversesRow : OpenClaim := { program := "ytjdlennibfnhpaa", sum := "0d9363326906f5a48a8e8aa6f8760a3dc6007abbaa9432f354b9573a2b51e39e", func := "loop.example/g00955/laws.FnExactFewestUniverses", spec := "fnExactFewestUniverses", unfollowed := true, recurses := true, apart := false }
def FnExactFewestUniversesSaid : Prop := fnExactFewestUniversesRow.holds Try.pinned (OpenSpec.ofChange fnExactFewestUniversesSpec)

/-- ITS FALSE NEIGHBOUR: 'it returns false'. Refute it at one input. -/
def fnExactFewestUniversesWrong : ChangeSpec := { name := "fnExactFewestUniverses", fn := fun _ => fun
  | [d1, d2] => { results := [.lit (.bool false)], args := [d1, d2] }
  | _ => none }
def FnExactFewestUniversesWrongFalsely : Prop := fnExactFewestUniversesRow.holds Try.pinned (OpenSpec.ofChange fnExactFewestUniversesWrong)

/-- 'laws.FnExactSeatedPersons': WHATEVER THE INPUT: true; the input reads as it did. -/
def fnExactSeatedPersonsSpec : ChangeSpec := { name := "fnExactSeatedPersons", fn := fun _ => fun
  | [d1, d2] => { results := [.lit (.bool true)], args := [d1, d2] }
  | _ => none }
def fnExactSeatedPersonsRow : OpenClaim := { program := "ytjdlennibfnhpaa", sum := "0d9363326906f5a48a8e8aa6f8760a3dc6007abbaa9432f354b9573a2b51e39e", func := "loop.example/g00955/laws.FnExactSeatedPersons", spec := "fnExactSeatedPersons", unfollowed := true, recurses := true, apart := false }
def FnExactSeatedPersonsSaid : Prop := fnExactSeatedPersonsRow.holds Try.pinned (OpenSpec.ofChange fnExactSeatedPersonsSpec)

/-- ITS FALSE NEIGHBOUR: 'it returns false'. Refute it at one input. -/
def fnExactSeatedPersonsWrong : ChangeSpec := { name := "fnExactSeatedPersons", fn := fun _ => fun
  | [d1, d2] => { results := [.lit (.bool false)], args := [d1, d2] }
  | _ => none }
def FnExactSeatedPersonsWrongFalsely : Prop := fnExactSeatedPersonsRow.holds Try.pinned (OpenSpec.ofChange fnExactSeatedPersonsWrong)

/-- 'laws.FnExactWishesKept': WHATEVER THE INPUT: true; the input reads as it did. -/
def fnExactWishesKeptSpec : ChangeSpec := { name := "fnExactWishesKept", fn := fun _ => fun
  | [d1, d2] => { results := [.lit (.bool true)], args := [d1, d2] }
  | _ => none }
def fnExactWishesKeptRow : OpenClaim := { program := "ytjdlennibfnhpaa", sum := "0d9363326906f5a48a8e8aa6f8760a3dc6007abbaa9432f354b9573a2b51e39e", func := "loop.example/g00955/laws.FnExactWishesKept", spec := "fnExactWishesKept", unfollowed := true, recurses := true, apart := false }
def FnExactWishesKeptSaid : Prop := fnExactWishesKeptRow.holds Try.pinned (OpenSpec.ofChange fnExactWishesKeptSpec)

/-- ITS FALSE NEIGHBOUR: 'it returns false'. Refute it at one input. -/
def fnExactWishesKeptWrong : ChangeSpec := { name := "fnExactWishesKept", fn := fun _ => fun
  | [d1, d2] => { results := [.lit (.bool false)], args := [d1, d2] }
  | _ => none }
def FnExactWishesKeptWrongFalsely : Prop := fnExactWishesKeptRow.holds Try.pinned (OpenSpec.ofChange fnExactWishesKeptWrong)

/- THE SECOND FORM. 'bulk': how many values and letters a reading holds, each counted each time it is reached (what is shared counts as often as it is met; a slice's spare places count too). A statement '..UptoSaid' is the law's where the arguments, and the package variables that the reading takes, are together of bulk at most 1048576: NARROWER than '..Said'. Prove '..Said' where nothing that the law and all that it calls make is longer than what came in: it says more and counts as full. Else prove '..UptoSaid'. A law counts once. -/
mutual
def uptoBulk {H : Type} : DataW H → Nat
  | .lit (.string bytes) => bytes.length + 1
  | .lit _ => 1
  | .nil => 1
  | .ptr d => uptoBulk d + 1
  | .slice elems spare => uptoBulkAll elems + uptoBulkAll spare + 1
  | .agg parts => uptoBulkAll parts + 1
  | .iface _ d => uptoBulk d + 1
  | .map entries => uptoBulkEntries entries + 1
  | .held _ => 1
def uptoBulkAll {H : Type} : List (DataW H) → Nat
  | [] => 0
  | d :: r => uptoBulk d + uptoBulkAll r
def uptoBulkEntries {H : Type} : List (Lit × DataW H) → Nat
  | [] => 0
  | x :: r => uptoBulkEntry x + uptoBulkEntries r
def uptoBulkEntry {H : Type} : Lit × DataW H → Nat
  | (.string bytes, d) => bytes.length + uptoBulk d + 1
  | (_, d) => uptoBulk d + 1
 end
def uptoSmall : (H : Type) → List (DataW H) → Bool := fun _ ds => decide (uptoBulkAll ds ≤ 1048576)
def OpenSpec.upto (s : _root_.Go.ChangeSpec) : _root_.Go.OpenSpec := { _root_.Go.OpenSpec.ofChange s with cond := some uptoSmall }

/-- 'laws.FnExactValidRows', WHERE WHAT IT READS IS OF BULK AT MOST 1048576: true; the input reads as it did. -/
def fnExactValidRowsUptoRow : OpenClaim := { program := "ytjdlennibfnhpaa", sum := "0d9363326906f5a48a8e8aa6f8760a3dc6007abbaa9432f354b9573a2b51e39e", func := "loop.example/g00955/laws.FnExactValidRows", spec := "fnExactValidRows", unfollowed := true, recurses := true, apart := false, narrowed := true }
def FnExactValidRowsUptoSaid : Prop := fnExactValidRowsUptoRow.holds Try.pinned (OpenSpec.upto fnExactValidRowsSpec)

/-- 'laws.FnExactSameOffers', WHERE WHAT IT READS IS OF BULK AT MOST 1048576: true; the input reads as it did. -/
def fnExactSameOffersUptoRow : OpenClaim := { program := "ytjdlennibfnhpaa", sum := "0d9363326906f5a48a8e8aa6f8760a3dc6007abbaa9432f354b9573a2b51e39e", func := "loop.example/g00955/laws.FnExactSameOffers", spec := "fnExactSameOffers", apart := false, narrowed := true }
def FnExactSameOffersUptoSaid : Prop := fnExactSameOffersUptoRow.holds Try.pinned (OpenSpec.upto fnExactSameOffersSpec)

/-- 'laws.FnExactValidRings', WHERE WHAT IT READS IS OF BULK AT MOST 1048576: true; the input reads as it did. -/
def fnExactValidRingsUptoRow : OpenClaim := { program := "ytjdlennibfnhpaa", sum := "0d9363326906f5a48a8e8aa6f8760a3dc6007abbaa9432f354b9573a2b51e39e", func := "loop.example/g00955/laws.FnExactValidRings", spec := "fnExactValidRings", apart := false, narrowed := true }
def FnExactValidRingsUptoSaid : Prop := fnExactValidRingsUptoRow.holds Try.pinned (OpenSpec.upto fnExactValidRingsSpec)

/-- 'laws.FnExactSeatCount', WHERE WHAT IT READS IS OF BULK AT MOST 1048576: true; the input reads as it did. -/
def fnExactSeatCountUptoRow : OpenClaim := { program := "ytjdlennibfnhpaa", sum := "0d9363326906f5a48a8e8aa6f8760a3dc6007abbaa9432f354b9573a2b51e39e", func := "loop.example/g00955/laws.FnExactSeatCount", spec := "fnExactSeatCount", apart := false, narrowed := true }
def FnExactSeatCountUptoSaid : Prop := fnExactSeatCountUptoRow.holds Try.pinned (OpenSpec.upto fnExactSeatCountSpec)

/-- 'laws.FnExactValidGroups', WHERE WHAT IT READS IS OF BULK AT MOST 1048576: true; the input reads as it did. -/
def fnExactValidGroupsUptoRow : OpenClaim := { program := "ytjdlennibfnhpaa", sum := "0d9363326906f5a48a8e8aa6f8760a3dc6007abbaa9432f354b9573a2b51e39e", func := "loop.example/g00955/laws.FnExactValidGroups", spec := "fnExactValidGroups", apart := false, narrowed := true }
def FnExactValidGroupsUptoSaid : Prop := fnExactValidGroupsUptoRow.holds Try.pinned (OpenSpec.upto fnExactValidGroupsSpec)

/-- 'laws.FnExactValidOffers', WHERE WHAT IT READS IS OF BULK AT MOST 1048576: true; the input reads as it did. -/
def fnExactValidOffersUptoRow : OpenClaim := { program := "ytjdlennibfnhpaa", sum := "0d9363326906f5a48a8e8aa6f8760a3dc6007abbaa9432f354b9573a2b51e39e", func := "loop.example/g00955/laws.FnExactValidOffers", spec := "fnExactValidOffers", apart := false, narrowed := true }
def FnExactValidOffersUptoSaid : Prop := fnExactValidOffersUptoRow.holds Try.pinned (OpenSpec.upto fnExactValidOffersSpec)

/-- 'laws.FnExactSeatsNeeded', WHERE WHAT IT READS IS OF BULK AT MOST 1048576: true; the input reads as it did. -/
def fnExactSeatsNeededUptoRow : OpenClaim := { program := "ytjdlennibfnhpaa", sum := "0d9363326906f5a48a8e8aa6f8760a3dc6007abbaa9432f354b9573a2b51e39e", func := "loop.example/g00955/laws.FnExactSeatsNeeded", spec := "fnExactSeatsNeeded", apart := false, narrowed := true }
def FnExactSeatsNeededUptoSaid : Prop := fnExactSeatsNeededUptoRow.holds Try.pinned (OpenSpec.upto fnExactSeatsNeededSpec)

/-- 'laws.FnSkips', WHERE WHAT IT READS IS OF BULK AT MOST 1048576: true; the input reads as it did. -/
def fnSkipsUptoRow : OpenClaim := { program := "ytjdlennibfnhpaa", sum := "0d9363326906f5a48a8e8aa6f8760a3dc6007abbaa9432f354b9573a2b51e39e", func := "loop.example/g00955/laws.FnSkips", spec := "fnSkips", recurses := true, apart := false, narrowed := true }
def FnSkipsUptoSaid : Prop := fnSkipsUptoRow.holds Try.pinned (OpenSpec.upto fnSkipsSpec)

/-- 'laws.FnExactValidPeople', WHERE WHAT IT READS IS OF BULK AT MOST 1048576: true; the input reads as it did. -/
def fnExactValidPeopleUptoRow : OpenClaim := { program := "ytjdlennibfnhpaa", sum := "0d9363326906f5a48a8e8aa6f8760a3dc6007abbaa9432f354b9573a2b51e39e", func := "loop.example/g00955/laws.FnExactValidPeople", spec := "fnExactValidPeople", apart := false, narrowed := true }
def FnExactValidPeopleUptoSaid : Prop := fnExactValidPeopleUptoRow.holds Try.pinned (OpenSpec.upto fnExactValidPeopleSpec)

/-- 'laws.FnExactFewestUniverses', WHERE WHAT IT READS IS OF BULK AT MOST 1048576: true; the input reads as it did. -/
def fnExactFewestUniversesUptoRow : OpenClaim := { program := "ytjdlennibfnhpaa", sum := "0d9363326906f5a48a8e8aa6f8760a3dc6007abbaa9432f354b9573a2b51e39e", func := "loop.example/g00955/laws.FnExactFewestUniverses", spec := "fnExactFewestUniverses", unfollowed := true, recurses := true, apart := false, narrowed := true }
def FnExactFewestUniversesUptoSaid : Prop := fnExactFewestUniversesUptoRow.holds Try.pinned (OpenSpec.upto fnExactFewestUniversesSpec)

/-- 'laws.FnExactSeatedPersons', WHERE WHAT IT READS IS OF BULK AT MOST 1048576: true; the input reads as it did. -/
def fnExactSeatedPersonsUptoRow : OpenClaim := { program := "ytjdlennibfnhpaa", sum := "0d9363326906f5a48a8e8aa6f8760a3dc6007abbaa9432f354b9573a2b51e39e", func := "loop.example/g00955/laws.FnExactSeatedPersons", spec := "fnExactSeatedPersons", unfollowed := true, recurses := true, apart := false, narrowed := true }
def FnExactSeatedPersonsUptoSaid : Prop := fnExactSeatedPersonsUptoRow.holds Try.pinned (OpenSpec.upto fnExactSeatedPersonsSpec)

/-- 'laws.FnExactWishesKept', WHERE WHAT IT READS IS OF BULK AT MOST 1048576: true; the input reads as it did. -/
def fnExactWishesKeptUptoRow : OpenClaim := { program := "ytjdlennibfnhpaa", sum := "0d9363326906f5a48a8e8aa6f8760a3dc6007abbaa9432f354b9573a2b51e39e", func := "loop.example/g00955/laws.FnExactWishesKept", spec := "fnExactWishesKept", unfollowed := true, recurses := true, apart := false, narrowed := true }
def FnExactWishesKeptUptoSaid : Prop := fnExactWishesKeptUptoRow.holds Try.pinned (OpenSpec.upto fnExactWishesKeptSpec)

end Rows
end Go.Proofs.Ytjdlennibfnhpaa
