/-
  NARROWER THAN 'FOR EVERY INPUT', by the rows' own cells (each row's printed sentence says how): FnExactReadSwitch: laid · FnExactReadWater: laid · FnExactReadBreach: laid · FnExactSwitchText: laid · FnExactBreachText: laid · FnExactWaterText: laid · FnExactPlanText: laid.
  DERIVED. THE GIVEN ROWS OF THIS SEAT. 7 by the template 'for every input the law returns true; each argument reads behind the call as it read before'; 0 by the template 'total and deterministic' (their statements: YtbbnjddgioaoeaaDoorTotals.lean).
  GIVEN WITH THE SEED: the statements are not yours to turn. If you find one false, say at which input.
  Laid BY PROGRAM, IN A SANDBOX (cutbox-rows.mjs): the forced cells as the released guide's own fill.sh prints them over the translation 21b0b2870b061464… (all of the seat's roots in one cut). By AI agents, Wed Nov 11 2026. No macro, syntax, notation, axiom, sorry.
-/
import Derived.Test.YtbbnjddgioaoeaaDoorChecked
import GoSem.PinnedTables
import GoSem.Claim
import GoSem.ClaimJoined
import GoSem.ClaimMapViews
import Derived.JoinedTies
import Derived.KernelRfl
namespace Go.Proofs.YtbbnjddgioaoeaaDoor
/- THE CELL 'sum', in the pinned program and in every row, IS THE sha256 OF THE DUMP (.gsa) THAT YtbbnjddgioaoeaaDoorProg.lean LOADS. Nothing in Lean hashes anything: it is a label: what it is worth is what the hold of that sum in a sandbox is worth. -/
noncomputable def Tryd.pinned : Pinned := { name := "ytbbnjddgioaoeaadoor", sum := "21b0b2870b06146488123a4e25b1665e22264844cbb1adc4d4ebf216d005409c", checked := Tryd.checked }
namespace Rows
def none {H : Type} : Left H := { results := [], args := [] }

/- WHAT THE LISTED PACKAGE-LEVEL VARIABLES READ AS WHEN THE CALL BEGINS. Each datum BY PROGRAM (the guide's laid-datum.mjs) off the statement by which the dump's own 'gosem.cut.vars' lays the variable. In a bare row this is a premise. The card (YtbbnjddgioaoeaaDoorCards.lean) ties it to the program's text. -/
def laid_math_bits_deBruijn32tab {H : Type} : DataW H := .agg [.lit (.int .u8 0), .lit (.int .u8 1), .lit (.int .u8 28), .lit (.int .u8 2), .lit (.int .u8 29), .lit (.int .u8 14), .lit (.int .u8 24), .lit (.int .u8 3), .lit (.int .u8 30), .lit (.int .u8 22), .lit (.int .u8 20), .lit (.int .u8 15), .lit (.int .u8 25), .lit (.int .u8 17), .lit (.int .u8 4), .lit (.int .u8 8), .lit (.int .u8 31), .lit (.int .u8 27), .lit (.int .u8 13), .lit (.int .u8 23), .lit (.int .u8 21), .lit (.int .u8 19), .lit (.int .u8 16), .lit (.int .u8 7), .lit (.int .u8 26), .lit (.int .u8 12), .lit (.int .u8 18), .lit (.int .u8 6), .lit (.int .u8 11), .lit (.int .u8 5), .lit (.int .u8 10), .lit (.int .u8 9)]
def laid_math_bits_deBruijn64tab {H : Type} : DataW H := .agg [.lit (.int .u8 0), .lit (.int .u8 1), .lit (.int .u8 56), .lit (.int .u8 2), .lit (.int .u8 57), .lit (.int .u8 49), .lit (.int .u8 28), .lit (.int .u8 3), .lit (.int .u8 61), .lit (.int .u8 58), .lit (.int .u8 42), .lit (.int .u8 50), .lit (.int .u8 38), .lit (.int .u8 29), .lit (.int .u8 17), .lit (.int .u8 4), .lit (.int .u8 62), .lit (.int .u8 47), .lit (.int .u8 59), .lit (.int .u8 36), .lit (.int .u8 45), .lit (.int .u8 43), .lit (.int .u8 51), .lit (.int .u8 22), .lit (.int .u8 53), .lit (.int .u8 39), .lit (.int .u8 33), .lit (.int .u8 30), .lit (.int .u8 24), .lit (.int .u8 18), .lit (.int .u8 12), .lit (.int .u8 5), .lit (.int .u8 63), .lit (.int .u8 55), .lit (.int .u8 48), .lit (.int .u8 27), .lit (.int .u8 60), .lit (.int .u8 41), .lit (.int .u8 37), .lit (.int .u8 16), .lit (.int .u8 46), .lit (.int .u8 35), .lit (.int .u8 44), .lit (.int .u8 21), .lit (.int .u8 52), .lit (.int .u8 32), .lit (.int .u8 23), .lit (.int .u8 11), .lit (.int .u8 54), .lit (.int .u8 26), .lit (.int .u8 40), .lit (.int .u8 15), .lit (.int .u8 34), .lit (.int .u8 20), .lit (.int .u8 31), .lit (.int .u8 10), .lit (.int .u8 25), .lit (.int .u8 14), .lit (.int .u8 19), .lit (.int .u8 9), .lit (.int .u8 13), .lit (.int .u8 8), .lit (.int .u8 7), .lit (.int .u8 6)]
def laid_internal_strconv_uint64pow10 {H : Type} : DataW H := .agg [.lit (.int .u64 1), .lit (.int .u64 10), .lit (.int .u64 100), .lit (.int .u64 1000), .lit (.int .u64 10000), .lit (.int .u64 100000), .lit (.int .u64 1000000), .lit (.int .u64 10000000), .lit (.int .u64 100000000), .lit (.int .u64 1000000000), .lit (.int .u64 10000000000), .lit (.int .u64 100000000000), .lit (.int .u64 1000000000000), .lit (.int .u64 10000000000000), .lit (.int .u64 100000000000000), .lit (.int .u64 1000000000000000), .lit (.int .u64 10000000000000000), .lit (.int .u64 100000000000000000), .lit (.int .u64 1000000000000000000), .lit (.int .u64 10000000000000000000)]
def laid_strconv_ErrRange {H : Type} : DataW H := .iface "*errors.errorString" (.ptr (.agg [.lit (.string [118, 97, 108, 117, 101, 32, 111, 117, 116, 32, 111, 102, 32, 114, 97, 110, 103, 101])]))
def laid_strconv_ErrSyntax {H : Type} : DataW H := .iface "*errors.errorString" (.ptr (.agg [.lit (.string [105, 110, 118, 97, 108, 105, 100, 32, 115, 121, 110, 116, 97, 120])]))
def laid_unicode_utf8_acceptRanges {H : Type} : DataW H := .agg [.agg [.lit (.int .u8 128), .lit (.int .u8 191)], .agg [.lit (.int .u8 160), .lit (.int .u8 191)], .agg [.lit (.int .u8 128), .lit (.int .u8 159)], .agg [.lit (.int .u8 144), .lit (.int .u8 191)], .agg [.lit (.int .u8 128), .lit (.int .u8 143)], .agg [.lit (.int .u8 0), .lit (.int .u8 0)], .agg [.lit (.int .u8 0), .lit (.int .u8 0)], .agg [.lit (.int .u8 0), .lit (.int .u8 0)], .agg [.lit (.int .u8 0), .lit (.int .u8 0)], .agg [.lit (.int .u8 0), .lit (.int .u8 0)], .agg [.lit (.int .u8 0), .lit (.int .u8 0)], .agg [.lit (.int .u8 0), .lit (.int .u8 0)], .agg [.lit (.int .u8 0), .lit (.int .u8 0)], .agg [.lit (.int .u8 0), .lit (.int .u8 0)], .agg [.lit (.int .u8 0), .lit (.int .u8 0)], .agg [.lit (.int .u8 0), .lit (.int .u8 0)]]
/-- One of Go's own tables, pinned by name: the form's constant. -/
def laid_unicode_utf8_first : DataW Unit := Go.Pinned.utf8First

/-- 'laws.FnExactReadSwitch': WHATEVER THE INPUT: true; the input reads as it did. -/
def fnExactReadSwitchSpec : ChangeSpec := { name := "fnExactReadSwitch", fn := fun _ => fun
  | [d] => { results := [.lit (.bool true)], args := [d] }
  | _ => none }
def fnExactReadSwitchRow : OpenClaim := { program := "ytbbnjddgioaoeaadoor", sum := "21b0b2870b06146488123a4e25b1665e22264844cbb1adc4d4ebf216d005409c", func := "loop.example/g01032/laws.FnExactReadSwitch", spec := "fnExactReadSwitch", unfollowed := true, recurses := true, named := ["strconv.ErrSyntax", "strconv.ErrRange", "internal/strconv.uint64pow10", "math/bits.deBruijn32tab", "math/bits.deBruijn64tab"], apart := false, laid := [("math/bits.deBruijn32tab", laid_math_bits_deBruijn32tab), ("math/bits.deBruijn64tab", laid_math_bits_deBruijn64tab), ("internal/strconv.uint64pow10", laid_internal_strconv_uint64pow10), ("strconv.ErrRange", laid_strconv_ErrRange), ("strconv.ErrSyntax", laid_strconv_ErrSyntax)] }
def FnExactReadSwitchSaid : Prop := fnExactReadSwitchRow.holds Tryd.pinned (OpenSpec.ofChange fnExactReadSwitchSpec)

/-- ITS FALSE NEIGHBOUR: 'it returns false'. Refute it at one input. -/
def fnExactReadSwitchWrong : ChangeSpec := { name := "fnExactReadSwitch", fn := fun _ => fun
  | [d] => { results := [.lit (.bool false)], args := [d] }
  | _ => none }
def FnExactReadSwitchWrongFalsely : Prop := fnExactReadSwitchRow.holds Tryd.pinned (OpenSpec.ofChange fnExactReadSwitchWrong)

/-- 'laws.FnExactReadWater': WHATEVER THE INPUT: true; the input reads as it did. -/
def fnExactReadWaterSpec : ChangeSpec := { name := "fnExactReadWater", fn := fun _ => fun
  | [d] => { results := [.lit (.bool true)], args := [d] }
  | _ => none }
def fnExactReadWaterRow : OpenClaim := { program := "ytbbnjddgioaoeaadoor", sum := "21b0b2870b06146488123a4e25b1665e22264844cbb1adc4d4ebf216d005409c", func := "loop.example/g01032/laws.FnExactReadWater", spec := "fnExactReadWater", unfollowed := true, recurses := true, named := ["strconv.ErrSyntax", "strconv.ErrRange", "internal/strconv.uint64pow10", "math/bits.deBruijn32tab", "math/bits.deBruijn64tab"], apart := false, laid := [("math/bits.deBruijn32tab", laid_math_bits_deBruijn32tab), ("math/bits.deBruijn64tab", laid_math_bits_deBruijn64tab), ("internal/strconv.uint64pow10", laid_internal_strconv_uint64pow10), ("strconv.ErrRange", laid_strconv_ErrRange), ("strconv.ErrSyntax", laid_strconv_ErrSyntax)] }
def FnExactReadWaterSaid : Prop := fnExactReadWaterRow.holds Tryd.pinned (OpenSpec.ofChange fnExactReadWaterSpec)

/-- ITS FALSE NEIGHBOUR: 'it returns false'. Refute it at one input. -/
def fnExactReadWaterWrong : ChangeSpec := { name := "fnExactReadWater", fn := fun _ => fun
  | [d] => { results := [.lit (.bool false)], args := [d] }
  | _ => none }
def FnExactReadWaterWrongFalsely : Prop := fnExactReadWaterRow.holds Tryd.pinned (OpenSpec.ofChange fnExactReadWaterWrong)

/-- 'laws.FnExactReadBreach': WHATEVER THE INPUT: true; the input reads as it did. -/
def fnExactReadBreachSpec : ChangeSpec := { name := "fnExactReadBreach", fn := fun _ => fun
  | [d] => { results := [.lit (.bool true)], args := [d] }
  | _ => none }
def fnExactReadBreachRow : OpenClaim := { program := "ytbbnjddgioaoeaadoor", sum := "21b0b2870b06146488123a4e25b1665e22264844cbb1adc4d4ebf216d005409c", func := "loop.example/g01032/laws.FnExactReadBreach", spec := "fnExactReadBreach", inPlace := ["internal/bytealg.CountString", "internal/bytealg.IndexByteString", "internal/bytealg.IndexString", "internal/abi.NoEscape", "internal/bytealg.MakeNoZero"], unfollowed := true, recurses := true, named := ["internal/bytealg.MaxLen", "unicode/utf8.first", "unicode/utf8.acceptRanges", "strconv.ErrSyntax", "strconv.ErrRange", "internal/strconv.uint64pow10", "math/bits.deBruijn32tab", "math/bits.deBruijn64tab"], apart := false, laid := [("math/bits.deBruijn32tab", laid_math_bits_deBruijn32tab), ("math/bits.deBruijn64tab", laid_math_bits_deBruijn64tab), ("internal/strconv.uint64pow10", laid_internal_strconv_uint64pow10), ("unicode/utf8.acceptRanges", laid_unicode_utf8_acceptRanges), ("strconv.ErrRange", laid_strconv_ErrRange), ("strconv.ErrSyntax", laid_strconv_ErrSyntax), ("unicode/utf8.first", laid_unicode_utf8_first)] }
def FnExactReadBreachSaid : Prop := fnExactReadBreachRow.holds Tryd.pinned (OpenSpec.ofChange fnExactReadBreachSpec)

/-- ITS FALSE NEIGHBOUR: 'it returns false'. Refute it at one input. -/
def fnExactReadBreachWrong : ChangeSpec := { name := "fnExactReadBreach", fn := fun _ => fun
  | [d] => { results := [.lit (.bool false)], args := [d] }
  | _ => none }
def FnExactReadBreachWrongFalsely : Prop := fnExactReadBreachRow.holds Tryd.pinned (OpenSpec.ofChange fnExactReadBreachWrong)

/-- 'laws.FnExactSwitchText': WHATEVER THE INPUT: true; the input reads as it did. -/
def fnExactSwitchTextSpec : ChangeSpec := { name := "fnExactSwitchText", fn := fun _ => fun
  | [d] => { results := [.lit (.bool true)], args := [d] }
  | _ => none }
def fnExactSwitchTextRow : OpenClaim := { program := "ytbbnjddgioaoeaadoor", sum := "21b0b2870b06146488123a4e25b1665e22264844cbb1adc4d4ebf216d005409c", func := "loop.example/g01032/laws.FnExactSwitchText", spec := "fnExactSwitchText", named := ["internal/strconv.uint64pow10", "math/bits.deBruijn32tab", "math/bits.deBruijn64tab"], apart := false, laid := [("math/bits.deBruijn32tab", laid_math_bits_deBruijn32tab), ("math/bits.deBruijn64tab", laid_math_bits_deBruijn64tab), ("internal/strconv.uint64pow10", laid_internal_strconv_uint64pow10)] }
def FnExactSwitchTextSaid : Prop := fnExactSwitchTextRow.holds Tryd.pinned (OpenSpec.ofChange fnExactSwitchTextSpec)

/-- ITS FALSE NEIGHBOUR: 'it returns false'. Refute it at one input. -/
def fnExactSwitchTextWrong : ChangeSpec := { name := "fnExactSwitchText", fn := fun _ => fun
  | [d] => { results := [.lit (.bool false)], args := [d] }
  | _ => none }
def FnExactSwitchTextWrongFalsely : Prop := fnExactSwitchTextRow.holds Tryd.pinned (OpenSpec.ofChange fnExactSwitchTextWrong)

/-- 'laws.FnExactBreachText': WHATEVER THE INPUT: true; the input reads as it did. -/
def fnExactBreachTextSpec : ChangeSpec := { name := "fnExactBreachText", fn := fun _ => fun
  | [d] => { results := [.lit (.bool true)], args := [d] }
  | _ => none }
def fnExactBreachTextRow : OpenClaim := { program := "ytbbnjddgioaoeaadoor", sum := "21b0b2870b06146488123a4e25b1665e22264844cbb1adc4d4ebf216d005409c", func := "loop.example/g01032/laws.FnExactBreachText", spec := "fnExactBreachText", named := ["internal/strconv.uint64pow10", "math/bits.deBruijn32tab", "math/bits.deBruijn64tab"], apart := false, laid := [("math/bits.deBruijn32tab", laid_math_bits_deBruijn32tab), ("math/bits.deBruijn64tab", laid_math_bits_deBruijn64tab), ("internal/strconv.uint64pow10", laid_internal_strconv_uint64pow10)] }
def FnExactBreachTextSaid : Prop := fnExactBreachTextRow.holds Tryd.pinned (OpenSpec.ofChange fnExactBreachTextSpec)

/-- ITS FALSE NEIGHBOUR: 'it returns false'. Refute it at one input. -/
def fnExactBreachTextWrong : ChangeSpec := { name := "fnExactBreachText", fn := fun _ => fun
  | [d] => { results := [.lit (.bool false)], args := [d] }
  | _ => none }
def FnExactBreachTextWrongFalsely : Prop := fnExactBreachTextRow.holds Tryd.pinned (OpenSpec.ofChange fnExactBreachTextWrong)

/-- 'laws.FnExactWaterText': WHATEVER THE INPUT: true; the input reads as it did. -/
def fnExactWaterTextSpec : ChangeSpec := { name := "fnExactWaterText", fn := fun _ => fun
  | [d] => { results := [.lit (.bool true)], args := [d] }
  | _ => none }
def fnExactWaterTextRow : OpenClaim := { program := "ytbbnjddgioaoeaadoor", sum := "21b0b2870b06146488123a4e25b1665e22264844cbb1adc4d4ebf216d005409c", func := "loop.example/g01032/laws.FnExactWaterText", spec := "fnExactWaterText", unfollowed := true, recurses := true, named := ["internal/strconv.uint64pow10", "math/bits.deBruijn32tab", "math/bits.deBruijn64tab"], apart := false, laid := [("math/bits.deBruijn32tab", laid_math_bits_deBruijn32tab), ("math/bits.deBruijn64tab", laid_math_bits_deBruijn64tab), ("internal/strconv.uint64pow10", laid_internal_strconv_uint64pow10)] }
def FnExactWaterTextSaid : Prop := fnExactWaterTextRow.holds Tryd.pinned (OpenSpec.ofChange fnExactWaterTextSpec)

/-- ITS FALSE NEIGHBOUR: 'it returns false'. Refute it at one input. -/
def fnExactWaterTextWrong : ChangeSpec := { name := "fnExactWaterText", fn := fun _ => fun
  | [d] => { results := [.lit (.bool false)], args := [d] }
  | _ => none }
def FnExactWaterTextWrongFalsely : Prop := fnExactWaterTextRow.holds Tryd.pinned (OpenSpec.ofChange fnExactWaterTextWrong)

/-- 'laws.FnExactPlanText': WHATEVER THE INPUT: true; the input reads as it did. -/
def fnExactPlanTextSpec : ChangeSpec := { name := "fnExactPlanText", fn := fun _ => fun
  | [d] => { results := [.lit (.bool true)], args := [d] }
  | _ => none }
def fnExactPlanTextRow : OpenClaim := { program := "ytbbnjddgioaoeaadoor", sum := "21b0b2870b06146488123a4e25b1665e22264844cbb1adc4d4ebf216d005409c", func := "loop.example/g01032/laws.FnExactPlanText", spec := "fnExactPlanText", inPlace := ["internal/abi.NoEscape", "internal/bytealg.MakeNoZero"], unfollowed := true, recurses := true, named := ["internal/strconv.uint64pow10", "math/bits.deBruijn32tab", "math/bits.deBruijn64tab"], apart := false, laid := [("math/bits.deBruijn32tab", laid_math_bits_deBruijn32tab), ("math/bits.deBruijn64tab", laid_math_bits_deBruijn64tab), ("internal/strconv.uint64pow10", laid_internal_strconv_uint64pow10)] }
def FnExactPlanTextSaid : Prop := fnExactPlanTextRow.holds Tryd.pinned (OpenSpec.ofChange fnExactPlanTextSpec)

/-- ITS FALSE NEIGHBOUR: 'it returns false'. Refute it at one input. -/
def fnExactPlanTextWrong : ChangeSpec := { name := "fnExactPlanText", fn := fun _ => fun
  | [d] => { results := [.lit (.bool false)], args := [d] }
  | _ => none }
def FnExactPlanTextWrongFalsely : Prop := fnExactPlanTextRow.holds Tryd.pinned (OpenSpec.ofChange fnExactPlanTextWrong)

/- THE SECOND FORM. 'bulk': how many values and letters a reading holds, each counted each time it is reached (what is shared counts as often as it is met; a slice's spare places count too). A statement '..UptoSaid' is the law's where the arguments, and the package variables that the reading takes, are together of bulk at most 1048576: NARROWER than '..Said'. Prove '..Said' where nothing that the law and all that it calls make is longer than what came in: it says more and counts as full. Else prove '..UptoSaid'. A law counts once. -/
mutual
def uptoBulk {H : Type} : DataW H → Nat
  | .lit (.string bytes) => bytes.length + 1
  | .lit _ => 1
  | .nil => 1
  | .ptr d => uptoBulk d + 1
  | .slice elems spare => uptoBulkAll elems + uptoBulkAll spare + 1
  | .agg parts => uptoBulkAll parts + 1
  | .iface _ d => uptoBulk d + 1
  | .map entries => uptoBulkEntries entries + 1
  | .held _ => 1
def uptoBulkAll {H : Type} : List (DataW H) → Nat
  | [] => 0
  | d :: r => uptoBulk d + uptoBulkAll r
def uptoBulkEntries {H : Type} : List (Lit × DataW H) → Nat
  | [] => 0
  | x :: r => uptoBulkEntry x + uptoBulkEntries r
def uptoBulkEntry {H : Type} : Lit × DataW H → Nat
  | (.string bytes, d) => bytes.length + uptoBulk d + 1
  | (_, d) => uptoBulk d + 1
 end
def uptoSmall : (H : Type) → List (DataW H) → Bool := fun _ ds => decide (uptoBulkAll ds ≤ 1048576)
def OpenSpec.upto (s : _root_.Go.ChangeSpec) : _root_.Go.OpenSpec := { _root_.Go.OpenSpec.ofChange s with cond := some uptoSmall }

/-- 'laws.FnExactReadSwitch', WHERE WHAT IT READS IS OF BULK AT MOST 1048576: true; the input reads as it did. -/
def fnExactReadSwitchUptoRow : OpenClaim := { program := "ytbbnjddgioaoeaadoor", sum := "21b0b2870b06146488123a4e25b1665e22264844cbb1adc4d4ebf216d005409c", func := "loop.example/g01032/laws.FnExactReadSwitch", spec := "fnExactReadSwitch", unfollowed := true, recurses := true, named := ["strconv.ErrSyntax", "strconv.ErrRange", "internal/strconv.uint64pow10", "math/bits.deBruijn32tab", "math/bits.deBruijn64tab"], apart := false, laid := [("math/bits.deBruijn32tab", laid_math_bits_deBruijn32tab), ("math/bits.deBruijn64tab", laid_math_bits_deBruijn64tab), ("internal/strconv.uint64pow10", laid_internal_strconv_uint64pow10), ("strconv.ErrRange", laid_strconv_ErrRange), ("strconv.ErrSyntax", laid_strconv_ErrSyntax)], narrowed := true }
def FnExactReadSwitchUptoSaid : Prop := fnExactReadSwitchUptoRow.holds Tryd.pinned (OpenSpec.upto fnExactReadSwitchSpec)

/-- 'laws.FnExactReadWater', WHERE WHAT IT READS IS OF BULK AT MOST 1048576: true; the input reads as it did. -/
def fnExactReadWaterUptoRow : OpenClaim := { program := "ytbbnjddgioaoeaadoor", sum := "21b0b2870b06146488123a4e25b1665e22264844cbb1adc4d4ebf216d005409c", func := "loop.example/g01032/laws.FnExactReadWater", spec := "fnExactReadWater", unfollowed := true, recurses := true, named := ["strconv.ErrSyntax", "strconv.ErrRange", "internal/strconv.uint64pow10", "math/bits.deBruijn32tab", "math/bits.deBruijn64tab"], apart := false, laid := [("math/bits.deBruijn32tab", laid_math_bits_deBruijn32tab), ("math/bits.deBruijn64tab", laid_math_bits_deBruijn64tab), ("internal/strconv.uint64pow10", laid_internal_strconv_uint64pow10), ("strconv.ErrRange", laid_strconv_ErrRange), ("strconv.ErrSyntax", laid_strconv_ErrSyntax)], narrowed := true }
def FnExactReadWaterUptoSaid : Prop := fnExactReadWaterUptoRow.holds Tryd.pinned (OpenSpec.upto fnExactReadWaterSpec)

/-- 'laws.FnExactReadBreach', WHERE WHAT IT READS IS OF BULK AT MOST 1048576: true; the input reads as it did. -/
def fnExactReadBreachUptoRow : OpenClaim := { program := "ytbbnjddgioaoeaadoor", sum := "21b0b2870b06146488123a4e25b1665e22264844cbb1adc4d4ebf216d005409c", func := "loop.example/g01032/laws.FnExactReadBreach", spec := "fnExactReadBreach", inPlace := ["internal/bytealg.CountString", "internal/bytealg.IndexByteString", "internal/bytealg.IndexString", "internal/abi.NoEscape", "internal/bytealg.MakeNoZero"], unfollowed := true, recurses := true, named := ["internal/bytealg.MaxLen", "unicode/utf8.first", "unicode/utf8.acceptRanges", "strconv.ErrSyntax", "strconv.ErrRange", "internal/strconv.uint64pow10", "math/bits.deBruijn32tab", "math/bits.deBruijn64tab"], apart := false, laid := [("math/bits.deBruijn32tab", laid_math_bits_deBruijn32tab), ("math/bits.deBruijn64tab", laid_math_bits_deBruijn64tab), ("internal/strconv.uint64pow10", laid_internal_strconv_uint64pow10), ("unicode/utf8.acceptRanges", laid_unicode_utf8_acceptRanges), ("strconv.ErrRange", laid_strconv_ErrRange), ("strconv.ErrSyntax", laid_strconv_ErrSyntax), ("unicode/utf8.first", laid_unicode_utf8_first)], narrowed := true }
def FnExactReadBreachUptoSaid : Prop := fnExactReadBreachUptoRow.holds Tryd.pinned (OpenSpec.upto fnExactReadBreachSpec)

/-- 'laws.FnExactSwitchText', WHERE WHAT IT READS IS OF BULK AT MOST 1048576: true; the input reads as it did. -/
def fnExactSwitchTextUptoRow : OpenClaim := { program := "ytbbnjddgioaoeaadoor", sum := "21b0b2870b06146488123a4e25b1665e22264844cbb1adc4d4ebf216d005409c", func := "loop.example/g01032/laws.FnExactSwitchText", spec := "fnExactSwitchText", named := ["internal/strconv.uint64pow10", "math/bits.deBruijn32tab", "math/bits.deBruijn64tab"], apart := false, laid := [("math/bits.deBruijn32tab", laid_math_bits_deBruijn32tab), ("math/bits.deBruijn64tab", laid_math_bits_deBruijn64tab), ("internal/strconv.uint64pow10", laid_internal_strconv_uint64pow10)], narrowed := true }
def FnExactSwitchTextUptoSaid : Prop := fnExactSwitchTextUptoRow.holds Tryd.pinned (OpenSpec.upto fnExactSwitchTextSpec)

/-- 'laws.FnExactBreachText', WHERE WHAT IT READS IS OF BULK AT MOST 1048576: true; the input reads as it did. -/
def fnExactBreachTextUptoRow : OpenClaim := { program := "ytbbnjddgioaoeaadoor", sum := "21b0b2870b06146488123a4e25b1665e22264844cbb1adc4d4ebf216d005409c", func := "loop.example/g01032/laws.FnExactBreachText", spec := "fnExactBreachText", named := ["internal/strconv.uint64pow10", "math/bits.deBruijn32tab", "math/bits.deBruijn64tab"], apart := false, laid := [("math/bits.deBruijn32tab", laid_math_bits_deBruijn32tab), ("math/bits.deBruijn64tab", laid_math_bits_deBruijn64tab), ("internal/strconv.uint64pow10", laid_internal_strconv_uint64pow10)], narrowed := true }
def FnExactBreachTextUptoSaid : Prop := fnExactBreachTextUptoRow.holds Tryd.pinned (OpenSpec.upto fnExactBreachTextSpec)

/-- 'laws.FnExactWaterText', WHERE WHAT IT READS IS OF BULK AT MOST 1048576: true; the input reads as it did. -/
def fnExactWaterTextUptoRow : OpenClaim := { program := "ytbbnjddgioaoeaadoor", sum := "21b0b2870b06146488123a4e25b1665e22264844cbb1adc4d4ebf216d005409c", func := "loop.example/g01032/laws.FnExactWaterText", spec := "fnExactWaterText", unfollowed := true, recurses := true, named := ["internal/strconv.uint64pow10", "math/bits.deBruijn32tab", "math/bits.deBruijn64tab"], apart := false, laid := [("math/bits.deBruijn32tab", laid_math_bits_deBruijn32tab), ("math/bits.deBruijn64tab", laid_math_bits_deBruijn64tab), ("internal/strconv.uint64pow10", laid_internal_strconv_uint64pow10)], narrowed := true }
def FnExactWaterTextUptoSaid : Prop := fnExactWaterTextUptoRow.holds Tryd.pinned (OpenSpec.upto fnExactWaterTextSpec)

/-- 'laws.FnExactPlanText', WHERE WHAT IT READS IS OF BULK AT MOST 1048576: true; the input reads as it did. -/
def fnExactPlanTextUptoRow : OpenClaim := { program := "ytbbnjddgioaoeaadoor", sum := "21b0b2870b06146488123a4e25b1665e22264844cbb1adc4d4ebf216d005409c", func := "loop.example/g01032/laws.FnExactPlanText", spec := "fnExactPlanText", inPlace := ["internal/abi.NoEscape", "internal/bytealg.MakeNoZero"], unfollowed := true, recurses := true, named := ["internal/strconv.uint64pow10", "math/bits.deBruijn32tab", "math/bits.deBruijn64tab"], apart := false, laid := [("math/bits.deBruijn32tab", laid_math_bits_deBruijn32tab), ("math/bits.deBruijn64tab", laid_math_bits_deBruijn64tab), ("internal/strconv.uint64pow10", laid_internal_strconv_uint64pow10)], narrowed := true }
def FnExactPlanTextUptoSaid : Prop := fnExactPlanTextUptoRow.holds Tryd.pinned (OpenSpec.upto fnExactPlanTextSpec)

end Rows
end Go.Proofs.YtbbnjddgioaoeaaDoor
