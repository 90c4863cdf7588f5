/-
  NARROWER THAN 'FOR EVERY INPUT', by the rows' own cells (each row's printed sentence says how): FnExactSeatPlace: laid · FnExactGroupText: laid · FnExactRingText: laid · FnExactSeatNamed: laid · FnExactSeatName: laid · FnExactOfferText: laid.
  DERIVED. THE GIVEN ROWS OF THIS SEAT. 6 by the template 'for every input the law returns true; each argument reads behind the call as it read before'; 0 by the template 'total and deterministic' (their statements: YtkepoedicgognaaDoorTotals.lean).
  GIVEN WITH THE SEED: the statements are not yours to turn. If you find one false, say at which input.
  Laid BY PROGRAM, IN A SANDBOX (cutbox-rows.mjs): the forced cells as the released guide's own fill.sh prints them over the translation 0126766860bad1cb… (all of the seat's roots in one cut). By AI agents, Wed Nov 11 2026. No macro, syntax, notation, axiom, sorry.
-/
import Derived.Test.YtkepoedicgognaaDoorChecked
import GoSem.Claim
import GoSem.ClaimJoined
import GoSem.ClaimMapViews
import Derived.JoinedTies
import Derived.KernelRfl
namespace Go.Proofs.YtkepoedicgognaaDoor
/- THE CELL 'sum', in the pinned program and in every row, IS THE sha256 OF THE DUMP (.gsa) THAT YtkepoedicgognaaDoorProg.lean LOADS. Nothing in Lean hashes anything: it is a label: what it is worth is what the hold of that sum in a sandbox is worth. -/
noncomputable def Tryd.pinned : Pinned := { name := "ytkepoedicgognaadoor", sum := "0126766860bad1cba5afafe06e5201e9432d45c51f3cead832c406bd9d6b31e3", checked := Tryd.checked }
namespace Rows
def none {H : Type} : Left H := { results := [], args := [] }

/- WHAT THE LISTED PACKAGE-LEVEL VARIABLES READ AS WHEN THE CALL BEGINS. Each datum BY PROGRAM (the guide's laid-datum.mjs) off the statement by which the dump's own 'gosem.cut.vars' lays the variable. In a bare row this is a premise. The card (YtkepoedicgognaaDoorCards.lean) ties it to the program's text. -/
def laid_loop_example_g00955_impl_sines {H : Type} : DataW H := .agg [.lit (.int .i64 0), .lit (.int .i64 17452), .lit (.int .i64 34899), .lit (.int .i64 52336), .lit (.int .i64 69756), .lit (.int .i64 87156), .lit (.int .i64 104528), .lit (.int .i64 121869), .lit (.int .i64 139173), .lit (.int .i64 156434), .lit (.int .i64 173648), .lit (.int .i64 190809), .lit (.int .i64 207912), .lit (.int .i64 224951), .lit (.int .i64 241922), .lit (.int .i64 258819), .lit (.int .i64 275637), .lit (.int .i64 292372), .lit (.int .i64 309017), .lit (.int .i64 325568), .lit (.int .i64 342020), .lit (.int .i64 358368), .lit (.int .i64 374607), .lit (.int .i64 390731), .lit (.int .i64 406737), .lit (.int .i64 422618), .lit (.int .i64 438371), .lit (.int .i64 453990), .lit (.int .i64 469472), .lit (.int .i64 484810), .lit (.int .i64 500000), .lit (.int .i64 515038), .lit (.int .i64 529919), .lit (.int .i64 544639), .lit (.int .i64 559193), .lit (.int .i64 573576), .lit (.int .i64 587785), .lit (.int .i64 601815), .lit (.int .i64 615661), .lit (.int .i64 629320), .lit (.int .i64 642788), .lit (.int .i64 656059), .lit (.int .i64 669131), .lit (.int .i64 681998), .lit (.int .i64 694658), .lit (.int .i64 707107), .lit (.int .i64 719340), .lit (.int .i64 731354), .lit (.int .i64 743145), .lit (.int .i64 754710), .lit (.int .i64 766044), .lit (.int .i64 777146), .lit (.int .i64 788011), .lit (.int .i64 798636), .lit (.int .i64 809017), .lit (.int .i64 819152), .lit (.int .i64 829038), .lit (.int .i64 838671), .lit (.int .i64 848048), .lit (.int .i64 857167), .lit (.int .i64 866025), .lit (.int .i64 874620), .lit (.int .i64 882948), .lit (.int .i64 891007), .lit (.int .i64 898794), .lit (.int .i64 906308), .lit (.int .i64 913545), .lit (.int .i64 920505), .lit (.int .i64 927184), .lit (.int .i64 933580), .lit (.int .i64 939693), .lit (.int .i64 945519), .lit (.int .i64 951057), .lit (.int .i64 956305), .lit (.int .i64 961262), .lit (.int .i64 965926), .lit (.int .i64 970296), .lit (.int .i64 974370), .lit (.int .i64 978148), .lit (.int .i64 981627), .lit (.int .i64 984808), .lit (.int .i64 987688), .lit (.int .i64 990268), .lit (.int .i64 992546), .lit (.int .i64 994522), .lit (.int .i64 996195), .lit (.int .i64 997564), .lit (.int .i64 998630), .lit (.int .i64 999391), .lit (.int .i64 999848), .lit (.int .i64 1000000)]
def laid_math_bits_deBruijn32tab {H : Type} : DataW H := .agg [.lit (.int .u8 0), .lit (.int .u8 1), .lit (.int .u8 28), .lit (.int .u8 2), .lit (.int .u8 29), .lit (.int .u8 14), .lit (.int .u8 24), .lit (.int .u8 3), .lit (.int .u8 30), .lit (.int .u8 22), .lit (.int .u8 20), .lit (.int .u8 15), .lit (.int .u8 25), .lit (.int .u8 17), .lit (.int .u8 4), .lit (.int .u8 8), .lit (.int .u8 31), .lit (.int .u8 27), .lit (.int .u8 13), .lit (.int .u8 23), .lit (.int .u8 21), .lit (.int .u8 19), .lit (.int .u8 16), .lit (.int .u8 7), .lit (.int .u8 26), .lit (.int .u8 12), .lit (.int .u8 18), .lit (.int .u8 6), .lit (.int .u8 11), .lit (.int .u8 5), .lit (.int .u8 10), .lit (.int .u8 9)]
def laid_math_bits_deBruijn64tab {H : Type} : DataW H := .agg [.lit (.int .u8 0), .lit (.int .u8 1), .lit (.int .u8 56), .lit (.int .u8 2), .lit (.int .u8 57), .lit (.int .u8 49), .lit (.int .u8 28), .lit (.int .u8 3), .lit (.int .u8 61), .lit (.int .u8 58), .lit (.int .u8 42), .lit (.int .u8 50), .lit (.int .u8 38), .lit (.int .u8 29), .lit (.int .u8 17), .lit (.int .u8 4), .lit (.int .u8 62), .lit (.int .u8 47), .lit (.int .u8 59), .lit (.int .u8 36), .lit (.int .u8 45), .lit (.int .u8 43), .lit (.int .u8 51), .lit (.int .u8 22), .lit (.int .u8 53), .lit (.int .u8 39), .lit (.int .u8 33), .lit (.int .u8 30), .lit (.int .u8 24), .lit (.int .u8 18), .lit (.int .u8 12), .lit (.int .u8 5), .lit (.int .u8 63), .lit (.int .u8 55), .lit (.int .u8 48), .lit (.int .u8 27), .lit (.int .u8 60), .lit (.int .u8 41), .lit (.int .u8 37), .lit (.int .u8 16), .lit (.int .u8 46), .lit (.int .u8 35), .lit (.int .u8 44), .lit (.int .u8 21), .lit (.int .u8 52), .lit (.int .u8 32), .lit (.int .u8 23), .lit (.int .u8 11), .lit (.int .u8 54), .lit (.int .u8 26), .lit (.int .u8 40), .lit (.int .u8 15), .lit (.int .u8 34), .lit (.int .u8 20), .lit (.int .u8 31), .lit (.int .u8 10), .lit (.int .u8 25), .lit (.int .u8 14), .lit (.int .u8 19), .lit (.int .u8 9), .lit (.int .u8 13), .lit (.int .u8 8), .lit (.int .u8 7), .lit (.int .u8 6)]
def laid_internal_strconv_uint64pow10 {H : Type} : DataW H := .agg [.lit (.int .u64 1), .lit (.int .u64 10), .lit (.int .u64 100), .lit (.int .u64 1000), .lit (.int .u64 10000), .lit (.int .u64 100000), .lit (.int .u64 1000000), .lit (.int .u64 10000000), .lit (.int .u64 100000000), .lit (.int .u64 1000000000), .lit (.int .u64 10000000000), .lit (.int .u64 100000000000), .lit (.int .u64 1000000000000), .lit (.int .u64 10000000000000), .lit (.int .u64 100000000000000), .lit (.int .u64 1000000000000000), .lit (.int .u64 10000000000000000), .lit (.int .u64 100000000000000000), .lit (.int .u64 1000000000000000000), .lit (.int .u64 10000000000000000000)]

/-- 'laws.FnExactSeatPlace': WHATEVER THE INPUT: true; the input reads as it did. -/
def fnExactSeatPlaceSpec : ChangeSpec := { name := "fnExactSeatPlace", vars := ["loop.example/g00955/impl.sines"], fn := fun _ => fun
  | [d1, d2, g1] => { results := [.lit (.bool true)], args := [d1, d2], vars := [g1] }
  | _ => none }
def fnExactSeatPlaceRow : OpenClaim := { program := "ytkepoedicgognaadoor", sum := "0126766860bad1cba5afafe06e5201e9432d45c51f3cead832c406bd9d6b31e3", func := "loop.example/g00955/laws.FnExactSeatPlace", spec := "fnExactSeatPlace", recurses := true, named := ["loop.example/g00955/impl.sines"], apart := false, laid := [("loop.example/g00955/impl.sines", laid_loop_example_g00955_impl_sines)] }
def FnExactSeatPlaceSaid : Prop := fnExactSeatPlaceRow.holds Tryd.pinned (OpenSpec.ofChange fnExactSeatPlaceSpec)

/-- ITS FALSE NEIGHBOUR: 'it returns false'. Refute it at one input. -/
def fnExactSeatPlaceWrong : ChangeSpec := { name := "fnExactSeatPlace", vars := ["loop.example/g00955/impl.sines"], fn := fun _ => fun
  | [d1, d2, g1] => { results := [.lit (.bool false)], args := [d1, d2], vars := [g1] }
  | _ => none }
def FnExactSeatPlaceWrongFalsely : Prop := fnExactSeatPlaceRow.holds Tryd.pinned (OpenSpec.ofChange fnExactSeatPlaceWrong)

/-- 'laws.FnExactGroupText': WHATEVER THE INPUT: true; the input reads as it did. -/
def fnExactGroupTextSpec : ChangeSpec := { name := "fnExactGroupText", fn := fun _ => fun
  | [d] => { results := [.lit (.bool true)], args := [d] }
  | _ => none }
def fnExactGroupTextRow : OpenClaim := { program := "ytkepoedicgognaadoor", sum := "0126766860bad1cba5afafe06e5201e9432d45c51f3cead832c406bd9d6b31e3", func := "loop.example/g00955/laws.FnExactGroupText", spec := "fnExactGroupText", named := ["internal/strconv.uint64pow10", "math/bits.deBruijn32tab", "math/bits.deBruijn64tab"], apart := false, laid := [("math/bits.deBruijn32tab", laid_math_bits_deBruijn32tab), ("math/bits.deBruijn64tab", laid_math_bits_deBruijn64tab), ("internal/strconv.uint64pow10", laid_internal_strconv_uint64pow10)] }
def FnExactGroupTextSaid : Prop := fnExactGroupTextRow.holds Tryd.pinned (OpenSpec.ofChange fnExactGroupTextSpec)

/-- ITS FALSE NEIGHBOUR: 'it returns false'. Refute it at one input. -/
def fnExactGroupTextWrong : ChangeSpec := { name := "fnExactGroupText", fn := fun _ => fun
  | [d] => { results := [.lit (.bool false)], args := [d] }
  | _ => none }
def FnExactGroupTextWrongFalsely : Prop := fnExactGroupTextRow.holds Tryd.pinned (OpenSpec.ofChange fnExactGroupTextWrong)

/-- 'laws.FnExactRingText': WHATEVER THE INPUT: true; the input reads as it did. -/
def fnExactRingTextSpec : ChangeSpec := { name := "fnExactRingText", fn := fun _ => fun
  | [d] => { results := [.lit (.bool true)], args := [d] }
  | _ => none }
def fnExactRingTextRow : OpenClaim := { program := "ytkepoedicgognaadoor", sum := "0126766860bad1cba5afafe06e5201e9432d45c51f3cead832c406bd9d6b31e3", func := "loop.example/g00955/laws.FnExactRingText", spec := "fnExactRingText", inPlace := ["internal/abi.NoEscape", "internal/bytealg.MakeNoZero"], named := ["internal/strconv.uint64pow10", "math/bits.deBruijn32tab", "math/bits.deBruijn64tab"], apart := false, laid := [("math/bits.deBruijn32tab", laid_math_bits_deBruijn32tab), ("math/bits.deBruijn64tab", laid_math_bits_deBruijn64tab), ("internal/strconv.uint64pow10", laid_internal_strconv_uint64pow10)] }
def FnExactRingTextSaid : Prop := fnExactRingTextRow.holds Tryd.pinned (OpenSpec.ofChange fnExactRingTextSpec)

/-- ITS FALSE NEIGHBOUR: 'it returns false'. Refute it at one input. -/
def fnExactRingTextWrong : ChangeSpec := { name := "fnExactRingText", fn := fun _ => fun
  | [d] => { results := [.lit (.bool false)], args := [d] }
  | _ => none }
def FnExactRingTextWrongFalsely : Prop := fnExactRingTextRow.holds Tryd.pinned (OpenSpec.ofChange fnExactRingTextWrong)

/-- 'laws.FnExactSeatNamed': WHATEVER THE INPUT: true; the input reads as it did. -/
def fnExactSeatNamedSpec : ChangeSpec := { name := "fnExactSeatNamed", fn := fun _ => fun
  | [d1, d2] => { results := [.lit (.bool true)], args := [d1, d2] }
  | _ => none }
def fnExactSeatNamedRow : OpenClaim := { program := "ytkepoedicgognaadoor", sum := "0126766860bad1cba5afafe06e5201e9432d45c51f3cead832c406bd9d6b31e3", func := "loop.example/g00955/laws.FnExactSeatNamed", spec := "fnExactSeatNamed", named := ["internal/strconv.uint64pow10", "math/bits.deBruijn32tab", "math/bits.deBruijn64tab"], apart := false, laid := [("math/bits.deBruijn32tab", laid_math_bits_deBruijn32tab), ("math/bits.deBruijn64tab", laid_math_bits_deBruijn64tab), ("internal/strconv.uint64pow10", laid_internal_strconv_uint64pow10)] }
def FnExactSeatNamedSaid : Prop := fnExactSeatNamedRow.holds Tryd.pinned (OpenSpec.ofChange fnExactSeatNamedSpec)

/-- ITS FALSE NEIGHBOUR: 'it returns false'. Refute it at one input. -/
def fnExactSeatNamedWrong : ChangeSpec := { name := "fnExactSeatNamed", fn := fun _ => fun
  | [d1, d2] => { results := [.lit (.bool false)], args := [d1, d2] }
  | _ => none }
def FnExactSeatNamedWrongFalsely : Prop := fnExactSeatNamedRow.holds Tryd.pinned (OpenSpec.ofChange fnExactSeatNamedWrong)

/-- 'laws.FnExactSeatName': WHATEVER THE INPUT: true; the input reads as it did. -/
def fnExactSeatNameSpec : ChangeSpec := { name := "fnExactSeatName", fn := fun _ => fun
  | [d1, d2] => { results := [.lit (.bool true)], args := [d1, d2] }
  | _ => none }
def fnExactSeatNameRow : OpenClaim := { program := "ytkepoedicgognaadoor", sum := "0126766860bad1cba5afafe06e5201e9432d45c51f3cead832c406bd9d6b31e3", func := "loop.example/g00955/laws.FnExactSeatName", spec := "fnExactSeatName", named := ["internal/strconv.uint64pow10", "math/bits.deBruijn32tab", "math/bits.deBruijn64tab"], apart := false, laid := [("math/bits.deBruijn32tab", laid_math_bits_deBruijn32tab), ("math/bits.deBruijn64tab", laid_math_bits_deBruijn64tab), ("internal/strconv.uint64pow10", laid_internal_strconv_uint64pow10)] }
def FnExactSeatNameSaid : Prop := fnExactSeatNameRow.holds Tryd.pinned (OpenSpec.ofChange fnExactSeatNameSpec)

/-- ITS FALSE NEIGHBOUR: 'it returns false'. Refute it at one input. -/
def fnExactSeatNameWrong : ChangeSpec := { name := "fnExactSeatName", fn := fun _ => fun
  | [d1, d2] => { results := [.lit (.bool false)], args := [d1, d2] }
  | _ => none }
def FnExactSeatNameWrongFalsely : Prop := fnExactSeatNameRow.holds Tryd.pinned (OpenSpec.ofChange fnExactSeatNameWrong)

/-- 'laws.FnExactOfferText': WHATEVER THE INPUT: true; the input reads as it did. -/
def fnExactOfferTextSpec : ChangeSpec := { name := "fnExactOfferText", fn := fun _ => fun
  | [d] => { results := [.lit (.bool true)], args := [d] }
  | _ => none }
def fnExactOfferTextRow : OpenClaim := { program := "ytkepoedicgognaadoor", sum := "0126766860bad1cba5afafe06e5201e9432d45c51f3cead832c406bd9d6b31e3", func := "loop.example/g00955/laws.FnExactOfferText", spec := "fnExactOfferText", inPlace := ["internal/abi.NoEscape", "internal/bytealg.MakeNoZero"], named := ["internal/strconv.uint64pow10", "math/bits.deBruijn32tab", "math/bits.deBruijn64tab"], apart := false, laid := [("math/bits.deBruijn32tab", laid_math_bits_deBruijn32tab), ("math/bits.deBruijn64tab", laid_math_bits_deBruijn64tab), ("internal/strconv.uint64pow10", laid_internal_strconv_uint64pow10)] }
def FnExactOfferTextSaid : Prop := fnExactOfferTextRow.holds Tryd.pinned (OpenSpec.ofChange fnExactOfferTextSpec)

/-- ITS FALSE NEIGHBOUR: 'it returns false'. Refute it at one input. -/
def fnExactOfferTextWrong : ChangeSpec := { name := "fnExactOfferText", fn := fun _ => fun
  | [d] => { results := [.lit (.bool false)], args := [d] }
  | _ => none }
def FnExactOfferTextWrongFalsely : Prop := fnExactOfferTextRow.holds Tryd.pinned (OpenSpec.ofChange fnExactOfferTextWrong)

/- THE SECOND FORM. 'bulk': how many values and letters a reading holds, each counted each time it is reached (what is shared counts as often as it is met; a slice's spare places count too). A statement '..UptoSaid' is the law's where the arguments, and the package variables that the reading takes, are together of bulk at most 1048576: NARROWER than '..Said'. Prove '..Said' where nothing that the law and all that it calls make is longer than what came in: it says more and counts as full. Else prove '..UptoSaid'. A law counts once. -/
mutual
def uptoBulk {H : Type} : DataW H → Nat
  | .lit (.string bytes) => bytes.length + 1
  | .lit _ => 1
  | .nil => 1
  | .ptr d => uptoBulk d + 1
  | .slice elems spare => uptoBulkAll elems + uptoBulkAll spare + 1
  | .agg parts => uptoBulkAll parts + 1
  | .iface _ d => uptoBulk d + 1
  | .map entries => uptoBulkEntries entries + 1
  | .held _ => 1
def uptoBulkAll {H : Type} : List (DataW H) → Nat
  | [] => 0
  | d :: r => uptoBulk d + uptoBulkAll r
def uptoBulkEntries {H : Type} : List (Lit × DataW H) → Nat
  | [] => 0
  | x :: r => uptoBulkEntry x + uptoBulkEntries r
def uptoBulkEntry {H : Type} : Lit × DataW H → Nat
  | (.string bytes, d) => bytes.length + uptoBulk d + 1
  | (_, d) => uptoBulk d + 1
 end
def uptoSmall : (H : Type) → List (DataW H) → Bool := fun _ ds => decide (uptoBulkAll ds ≤ 1048576)
def OpenSpec.upto (s : _root_.Go.ChangeSpec) : _root_.Go.OpenSpec := { _root_.Go.OpenSpec.ofChange s with cond := some uptoSmall }

/-- 'laws.FnExactSeatPlace', WHERE WHAT IT READS IS OF BULK AT MOST 1048576: true; the input reads as it did. -/
def fnExactSeatPlaceUptoRow : OpenClaim := { program := "ytkepoedicgognaadoor", sum := "0126766860bad1cba5afafe06e5201e9432d45c51f3cead832c406bd9d6b31e3", func := "loop.example/g00955/laws.FnExactSeatPlace", spec := "fnExactSeatPlace", recurses := true, named := ["loop.example/g00955/impl.sines"], apart := false, laid := [("loop.example/g00955/impl.sines", laid_loop_example_g00955_impl_sines)], narrowed := true }
def FnExactSeatPlaceUptoSaid : Prop := fnExactSeatPlaceUptoRow.holds Tryd.pinned (OpenSpec.upto fnExactSeatPlaceSpec)

/-- 'laws.FnExactGroupText', WHERE WHAT IT READS IS OF BULK AT MOST 1048576: true; the input reads as it did. -/
def fnExactGroupTextUptoRow : OpenClaim := { program := "ytkepoedicgognaadoor", sum := "0126766860bad1cba5afafe06e5201e9432d45c51f3cead832c406bd9d6b31e3", func := "loop.example/g00955/laws.FnExactGroupText", spec := "fnExactGroupText", named := ["internal/strconv.uint64pow10", "math/bits.deBruijn32tab", "math/bits.deBruijn64tab"], apart := false, laid := [("math/bits.deBruijn32tab", laid_math_bits_deBruijn32tab), ("math/bits.deBruijn64tab", laid_math_bits_deBruijn64tab), ("internal/strconv.uint64pow10", laid_internal_strconv_uint64pow10)], narrowed := true }
def FnExactGroupTextUptoSaid : Prop := fnExactGroupTextUptoRow.holds Tryd.pinned (OpenSpec.upto fnExactGroupTextSpec)

/-- 'laws.FnExactRingText', WHERE WHAT IT READS IS OF BULK AT MOST 1048576: true; the input reads as it did. -/
def fnExactRingTextUptoRow : OpenClaim := { program := "ytkepoedicgognaadoor", sum := "0126766860bad1cba5afafe06e5201e9432d45c51f3cead832c406bd9d6b31e3", func := "loop.example/g00955/laws.FnExactRingText", spec := "fnExactRingText", inPlace := ["internal/abi.NoEscape", "internal/bytealg.MakeNoZero"], named := ["internal/strconv.uint64pow10", "math/bits.deBruijn32tab", "math/bits.deBruijn64tab"], apart := false, laid := [("math/bits.deBruijn32tab", laid_math_bits_deBruijn32tab), ("math/bits.deBruijn64tab", laid_math_bits_deBruijn64tab), ("internal/strconv.uint64pow10", laid_internal_strconv_uint64pow10)], narrowed := true }
def FnExactRingTextUptoSaid : Prop := fnExactRingTextUptoRow.holds Tryd.pinned (OpenSpec.upto fnExactRingTextSpec)

/-- 'laws.FnExactSeatNamed', WHERE WHAT IT READS IS OF BULK AT MOST 1048576: true; the input reads as it did. -/
def fnExactSeatNamedUptoRow : OpenClaim := { program := "ytkepoedicgognaadoor", sum := "0126766860bad1cba5afafe06e5201e9432d45c51f3cead832c406bd9d6b31e3", func := "loop.example/g00955/laws.FnExactSeatNamed", spec := "fnExactSeatNamed", named := ["internal/strconv.uint64pow10", "math/bits.deBruijn32tab", "math/bits.deBruijn64tab"], apart := false, laid := [("math/bits.deBruijn32tab", laid_math_bits_deBruijn32tab), ("math/bits.deBruijn64tab", laid_math_bits_deBruijn64tab), ("internal/strconv.uint64pow10", laid_internal_strconv_uint64pow10)], narrowed := true }
def FnExactSeatNamedUptoSaid : Prop := fnExactSeatNamedUptoRow.holds Tryd.pinned (OpenSpec.upto fnExactSeatNamedSpec)

/-- 'laws.FnExactSeatName', WHERE WHAT IT READS IS OF BULK AT MOST 1048576: true; the input reads as it did. -/
def fnExactSeatNameUptoRow : OpenClaim := { program := "ytkepoedicgognaadoor", sum := "0126766860bad1cba5afafe06e5201e9432d45c51f3cead832c406bd9d6b31e3", func := "loop.example/g00955/laws.FnExactSeatName", spec := "fnExactSeatName", named := ["internal/strconv.uint64pow10", "math/bits.deBruijn32tab", "math/bits.deBruijn64tab"], apart := false, laid := [("math/bits.deBruijn32tab", laid_math_bits_deBruijn32tab), ("math/bits.deBruijn64tab", laid_math_bits_deBruijn64tab), ("internal/strconv.uint64pow10", laid_internal_strconv_uint64pow10)], narrowed := true }
def FnExactSeatNameUptoSaid : Prop := fnExactSeatNameUptoRow.holds Tryd.pinned (OpenSpec.upto fnExactSeatNameSpec)

/-- 'laws.FnExactOfferText', WHERE WHAT IT READS IS OF BULK AT MOST 1048576: true; the input reads as it did. -/
def fnExactOfferTextUptoRow : OpenClaim := { program := "ytkepoedicgognaadoor", sum := "0126766860bad1cba5afafe06e5201e9432d45c51f3cead832c406bd9d6b31e3", func := "loop.example/g00955/laws.FnExactOfferText", spec := "fnExactOfferText", inPlace := ["internal/abi.NoEscape", "internal/bytealg.MakeNoZero"], named := ["internal/strconv.uint64pow10", "math/bits.deBruijn32tab", "math/bits.deBruijn64tab"], apart := false, laid := [("math/bits.deBruijn32tab", laid_math_bits_deBruijn32tab), ("math/bits.deBruijn64tab", laid_math_bits_deBruijn64tab), ("internal/strconv.uint64pow10", laid_internal_strconv_uint64pow10)], narrowed := true }
def FnExactOfferTextUptoSaid : Prop := fnExactOfferTextUptoRow.holds Tryd.pinned (OpenSpec.upto fnExactOfferTextSpec)

end Rows
end Go.Proofs.YtkepoedicgognaaDoor
