/-
  No cell of these rows narrows 'for every input' (looked for: loops, veiled, ifaces, maps, wideKeys, modest, calm, conditions, laid).
  DERIVED. THE GIVEN ROWS OF THIS SEAT. 10 by the template 'for every input the law returns true; each argument reads behind the call as it read before'; 0 by the template 'total and deterministic' (their statements: YtbacajbfedgcjaaTotals.lean).
  GIVEN WITH THE SEED: the statements are not yours to turn. If you find one false, say at which input.
  Laid BY PROGRAM, IN A SANDBOX (cutbox-rows.mjs): the forced cells as the released guide's own fill.sh prints them over the translation 8981ea92aedb5dde… (all of the seat's roots in one cut). By AI agents, Wed Nov 11 2026. No macro, syntax, notation, axiom, sorry.
-/
import Derived.Test.YtbacajbfedgcjaaChecked
import GoSem.Claim
import GoSem.ClaimJoined
import GoSem.ClaimMapViews
import Derived.JoinedTies
import Derived.KernelRfl
namespace Go.Proofs.Ytbacajbfedgcjaa
/- THE CELL 'sum', in the pinned program and in every row, IS THE sha256 OF THE DUMP (.gsa) THAT YtbacajbfedgcjaaProg.lean LOADS. Nothing in Lean hashes anything: it is a label: what it is worth is what the hold of that sum in a sandbox is worth. -/
noncomputable def Try.pinned : Pinned := { name := "ytbacajbfedgcjaa", sum := "8981ea92aedb5ddeb65f51e9443c02cd3d0098625f2027a007223acffa31cb84", checked := Try.checked }
namespace Rows
def none {H : Type} : Left H := { results := [], args := [] }

/-- 'laws.FnExactValidWater': WHATEVER THE INPUT: true; the input reads as it did. -/
def fnExactValidWaterSpec : ChangeSpec := { name := "fnExactValidWater", fn := fun _ => fun
  | [d] => { results := [.lit (.bool true)], args := [d] }
  | _ => none }
def fnExactValidWaterRow : OpenClaim := { program := "ytbacajbfedgcjaa", sum := "8981ea92aedb5ddeb65f51e9443c02cd3d0098625f2027a007223acffa31cb84", func := "loop.example/g01032/laws.FnExactValidWater", spec := "fnExactValidWater", unfollowed := true, recurses := true, apart := false }
def FnExactValidWaterSaid : Prop := fnExactValidWaterRow.holds Try.pinned (OpenSpec.ofChange fnExactValidWaterSpec)

/-- ITS FALSE NEIGHBOUR: 'it returns false'. Refute it at one input. -/
def fnExactValidWaterWrong : ChangeSpec := { name := "fnExactValidWater", fn := fun _ => fun
  | [d] => { results := [.lit (.bool false)], args := [d] }
  | _ => none }
def FnExactValidWaterWrongFalsely : Prop := fnExactValidWaterRow.holds Try.pinned (OpenSpec.ofChange fnExactValidWaterWrong)

/-- 'laws.FnExactNetOf': WHATEVER THE INPUT: true; the input reads as it did. -/
def fnExactNetOfSpec : ChangeSpec := { name := "fnExactNetOf", fn := fun _ => fun
  | [d] => { results := [.lit (.bool true)], args := [d] }
  | _ => none }
def fnExactNetOfRow : OpenClaim := { program := "ytbacajbfedgcjaa", sum := "8981ea92aedb5ddeb65f51e9443c02cd3d0098625f2027a007223acffa31cb84", func := "loop.example/g01032/laws.FnExactNetOf", spec := "fnExactNetOf", unfollowed := true, recurses := true, apart := false }
def FnExactNetOfSaid : Prop := fnExactNetOfRow.holds Try.pinned (OpenSpec.ofChange fnExactNetOfSpec)

/-- ITS FALSE NEIGHBOUR: 'it returns false'. Refute it at one input. -/
def fnExactNetOfWrong : ChangeSpec := { name := "fnExactNetOf", fn := fun _ => fun
  | [d] => { results := [.lit (.bool false)], args := [d] }
  | _ => none }
def FnExactNetOfWrongFalsely : Prop := fnExactNetOfRow.holds Try.pinned (OpenSpec.ofChange fnExactNetOfWrong)

/-- 'laws.FnExactSameRun': WHATEVER THE INPUT: true; the input reads as it did. -/
def fnExactSameRunSpec : ChangeSpec := { name := "fnExactSameRun", fn := fun _ => fun
  | [d1, d2] => { results := [.lit (.bool true)], args := [d1, d2] }
  | _ => none }
def fnExactSameRunRow : OpenClaim := { program := "ytbacajbfedgcjaa", sum := "8981ea92aedb5ddeb65f51e9443c02cd3d0098625f2027a007223acffa31cb84", func := "loop.example/g01032/laws.FnExactSameRun", spec := "fnExactSameRun", apart := false }
def FnExactSameRunSaid : Prop := fnExactSameRunRow.holds Try.pinned (OpenSpec.ofChange fnExactSameRunSpec)

/-- ITS FALSE NEIGHBOUR: 'it returns false'. Refute it at one input. -/
def fnExactSameRunWrong : ChangeSpec := { name := "fnExactSameRun", fn := fun _ => fun
  | [d1, d2] => { results := [.lit (.bool false)], args := [d1, d2] }
  | _ => none }
def FnExactSameRunWrongFalsely : Prop := fnExactSameRunRow.holds Try.pinned (OpenSpec.ofChange fnExactSameRunWrong)

/-- 'laws.FnExactSumOfDays': WHATEVER THE INPUT: true; the input reads as it did. -/
def fnExactSumOfDaysSpec : ChangeSpec := { name := "fnExactSumOfDays", fn := fun _ => fun
  | [d] => { results := [.lit (.bool true)], args := [d] }
  | _ => none }
def fnExactSumOfDaysRow : OpenClaim := { program := "ytbacajbfedgcjaa", sum := "8981ea92aedb5ddeb65f51e9443c02cd3d0098625f2027a007223acffa31cb84", func := "loop.example/g01032/laws.FnExactSumOfDays", spec := "fnExactSumOfDays", unfollowed := true, recurses := true, apart := false }
def FnExactSumOfDaysSaid : Prop := fnExactSumOfDaysRow.holds Try.pinned (OpenSpec.ofChange fnExactSumOfDaysSpec)

/-- ITS FALSE NEIGHBOUR: 'it returns false'. Refute it at one input. -/
def fnExactSumOfDaysWrong : ChangeSpec := { name := "fnExactSumOfDays", fn := fun _ => fun
  | [d] => { results := [.lit (.bool false)], args := [d] }
  | _ => none }
def FnExactSumOfDaysWrongFalsely : Prop := fnExactSumOfDaysRow.holds Try.pinned (OpenSpec.ofChange fnExactSumOfDaysWrong)

/-- 'laws.FnExactClosingError': WHATEVER THE INPUT: true; the input reads as it did. -/
def fnExactClosingErrorSpec : ChangeSpec := { name := "fnExactClosingError", fn := fun _ => fun
  | [d1, d2, d3] => { results := [.lit (.bool true)], args := [d1, d2, d3] }
  | _ => none }
def fnExactClosingErrorRow : OpenClaim := { program := "ytbacajbfedgcjaa", sum := "8981ea92aedb5ddeb65f51e9443c02cd3d0098625f2027a007223acffa31cb84", func := "loop.example/g01032/laws.FnExactClosingError", spec := "fnExactClosingError", unfollowed := true, recurses := true, apart := false }
def FnExactClosingErrorSaid : Prop := fnExactClosingErrorRow.holds Try.pinned (OpenSpec.ofChange fnExactClosingErrorSpec)

/-- ITS FALSE NEIGHBOUR: 'it returns false'. Refute it at one input. -/
def fnExactClosingErrorWrong : ChangeSpec := { name := "fnExactClosingError", fn := fun _ => fun
  | [d1, d2, d3] => { results := [.lit (.bool false)], args := [d1, d2, d3] }
  | _ => none }
def FnExactClosingErrorWrongFalsely : Prop := fnExactClosingErrorRow.holds Try.pinned (OpenSpec.ofChange fnExactClosingErrorWrong)

/-- 'laws.FnExactWorstDays': WHATEVER THE INPUT: true; the input reads as it did. -/
def fnExactWorstDaysSpec : ChangeSpec := { name := "fnExactWorstDays", fn := fun _ => fun
  | [d] => { results := [.lit (.bool true)], args := [d] }
  | _ => none }
def fnExactWorstDaysRow : OpenClaim := { program := "ytbacajbfedgcjaa", sum := "8981ea92aedb5ddeb65f51e9443c02cd3d0098625f2027a007223acffa31cb84", func := "loop.example/g01032/laws.FnExactWorstDays", spec := "fnExactWorstDays", unfollowed := true, recurses := true, apart := false }
def FnExactWorstDaysSaid : Prop := fnExactWorstDaysRow.holds Try.pinned (OpenSpec.ofChange fnExactWorstDaysSpec)

/-- ITS FALSE NEIGHBOUR: 'it returns false'. Refute it at one input. -/
def fnExactWorstDaysWrong : ChangeSpec := { name := "fnExactWorstDays", fn := fun _ => fun
  | [d] => { results := [.lit (.bool false)], args := [d] }
  | _ => none }
def FnExactWorstDaysWrongFalsely : Prop := fnExactWorstDaysRow.holds Try.pinned (OpenSpec.ofChange fnExactWorstDaysWrong)

/-- 'laws.FnExactFirstOver': WHATEVER THE INPUT: true; the input reads as it did. -/
def fnExactFirstOverSpec : ChangeSpec := { name := "fnExactFirstOver", fn := fun _ => fun
  | [d1, d2, d3] => { results := [.lit (.bool true)], args := [d1, d2, d3] }
  | _ => none }
def fnExactFirstOverRow : OpenClaim := { program := "ytbacajbfedgcjaa", sum := "8981ea92aedb5ddeb65f51e9443c02cd3d0098625f2027a007223acffa31cb84", func := "loop.example/g01032/laws.FnExactFirstOver", spec := "fnExactFirstOver", unfollowed := true, recurses := true, apart := false }
def FnExactFirstOverSaid : Prop := fnExactFirstOverRow.holds Try.pinned (OpenSpec.ofChange fnExactFirstOverSpec)

/-- ITS FALSE NEIGHBOUR: 'it returns false'. Refute it at one input. -/
def fnExactFirstOverWrong : ChangeSpec := { name := "fnExactFirstOver", fn := fun _ => fun
  | [d1, d2, d3] => { results := [.lit (.bool false)], args := [d1, d2, d3] }
  | _ => none }
def FnExactFirstOverWrongFalsely : Prop := fnExactFirstOverRow.holds Try.pinned (OpenSpec.ofChange fnExactFirstOverWrong)

/-- 'laws.FnExactPumpedShare': WHATEVER THE INPUT: true; the input reads as it did. -/
def fnExactPumpedShareSpec : ChangeSpec := { name := "fnExactPumpedShare", fn := fun _ => fun
  | [d] => { results := [.lit (.bool true)], args := [d] }
  | _ => none }
def fnExactPumpedShareRow : OpenClaim := { program := "ytbacajbfedgcjaa", sum := "8981ea92aedb5ddeb65f51e9443c02cd3d0098625f2027a007223acffa31cb84", func := "loop.example/g01032/laws.FnExactPumpedShare", spec := "fnExactPumpedShare", unfollowed := true, recurses := true, apart := false }
def FnExactPumpedShareSaid : Prop := fnExactPumpedShareRow.holds Try.pinned (OpenSpec.ofChange fnExactPumpedShareSpec)

/-- ITS FALSE NEIGHBOUR: 'it returns false'. Refute it at one input. -/
def fnExactPumpedShareWrong : ChangeSpec := { name := "fnExactPumpedShare", fn := fun _ => fun
  | [d] => { results := [.lit (.bool false)], args := [d] }
  | _ => none }
def FnExactPumpedShareWrongFalsely : Prop := fnExactPumpedShareRow.holds Try.pinned (OpenSpec.ofChange fnExactPumpedShareWrong)

/-- 'laws.FnExactRunBalance': WHATEVER THE INPUT: true; the input reads as it did. -/
def fnExactRunBalanceSpec : ChangeSpec := { name := "fnExactRunBalance", fn := fun _ => fun
  | [d1, d2] => { results := [.lit (.bool true)], args := [d1, d2] }
  | _ => none }
def fnExactRunBalanceRow : OpenClaim := { program := "ytbacajbfedgcjaa", sum := "8981ea92aedb5ddeb65f51e9443c02cd3d0098625f2027a007223acffa31cb84", func := "loop.example/g01032/laws.FnExactRunBalance", spec := "fnExactRunBalance", unfollowed := true, recurses := true, apart := false }
def FnExactRunBalanceSaid : Prop := fnExactRunBalanceRow.holds Try.pinned (OpenSpec.ofChange fnExactRunBalanceSpec)

/-- ITS FALSE NEIGHBOUR: 'it returns false'. Refute it at one input. -/
def fnExactRunBalanceWrong : ChangeSpec := { name := "fnExactRunBalance", fn := fun _ => fun
  | [d1, d2] => { results := [.lit (.bool false)], args := [d1, d2] }
  | _ => none }
def FnExactRunBalanceWrongFalsely : Prop := fnExactRunBalanceRow.holds Try.pinned (OpenSpec.ofChange fnExactRunBalanceWrong)

/-- 'laws.FnExactMissingPumps': WHATEVER THE INPUT: true; the input reads as it did. -/
def fnExactMissingPumpsSpec : ChangeSpec := { name := "fnExactMissingPumps", fn := fun _ => fun
  | [d1, d2, d3] => { results := [.lit (.bool true)], args := [d1, d2, d3] }
  | _ => none }
def fnExactMissingPumpsRow : OpenClaim := { program := "ytbacajbfedgcjaa", sum := "8981ea92aedb5ddeb65f51e9443c02cd3d0098625f2027a007223acffa31cb84", func := "loop.example/g01032/laws.FnExactMissingPumps", spec := "fnExactMissingPumps", unfollowed := true, recurses := true, apart := false }
def FnExactMissingPumpsSaid : Prop := fnExactMissingPumpsRow.holds Try.pinned (OpenSpec.ofChange fnExactMissingPumpsSpec)

/-- ITS FALSE NEIGHBOUR: 'it returns false'. Refute it at one input. -/
def fnExactMissingPumpsWrong : ChangeSpec := { name := "fnExactMissingPumps", fn := fun _ => fun
  | [d1, d2, d3] => { results := [.lit (.bool false)], args := [d1, d2, d3] }
  | _ => none }
def FnExactMissingPumpsWrongFalsely : Prop := fnExactMissingPumpsRow.holds Try.pinned (OpenSpec.ofChange fnExactMissingPumpsWrong)

/- THE SECOND FORM. 'bulk': how many values and letters a reading holds, each counted each time it is reached (what is shared counts as often as it is met; a slice's spare places count too). A statement '..UptoSaid' is the law's where the arguments, and the package variables that the reading takes, are together of bulk at most 1048576: NARROWER than '..Said'. Prove '..Said' where nothing that the law and all that it calls make is longer than what came in: it says more and counts as full. Else prove '..UptoSaid'. A law counts once. -/
mutual
def uptoBulk {H : Type} : DataW H → Nat
  | .lit (.string bytes) => bytes.length + 1
  | .lit _ => 1
  | .nil => 1
  | .ptr d => uptoBulk d + 1
  | .slice elems spare => uptoBulkAll elems + uptoBulkAll spare + 1
  | .agg parts => uptoBulkAll parts + 1
  | .iface _ d => uptoBulk d + 1
  | .map entries => uptoBulkEntries entries + 1
  | .held _ => 1
def uptoBulkAll {H : Type} : List (DataW H) → Nat
  | [] => 0
  | d :: r => uptoBulk d + uptoBulkAll r
def uptoBulkEntries {H : Type} : List (Lit × DataW H) → Nat
  | [] => 0
  | x :: r => uptoBulkEntry x + uptoBulkEntries r
def uptoBulkEntry {H : Type} : Lit × DataW H → Nat
  | (.string bytes, d) => bytes.length + uptoBulk d + 1
  | (_, d) => uptoBulk d + 1
 end
def uptoSmall : (H : Type) → List (DataW H) → Bool := fun _ ds => decide (uptoBulkAll ds ≤ 1048576)
def OpenSpec.upto (s : _root_.Go.ChangeSpec) : _root_.Go.OpenSpec := { _root_.Go.OpenSpec.ofChange s with cond := some uptoSmall }

/-- 'laws.FnExactValidWater', WHERE WHAT IT READS IS OF BULK AT MOST 1048576: true; the input reads as it did. -/
def fnExactValidWaterUptoRow : OpenClaim := { program := "ytbacajbfedgcjaa", sum := "8981ea92aedb5ddeb65f51e9443c02cd3d0098625f2027a007223acffa31cb84", func := "loop.example/g01032/laws.FnExactValidWater", spec := "fnExactValidWater", unfollowed := true, recurses := true, apart := false, narrowed := true }
def FnExactValidWaterUptoSaid : Prop := fnExactValidWaterUptoRow.holds Try.pinned (OpenSpec.upto fnExactValidWaterSpec)

/-- 'laws.FnExactNetOf', WHERE WHAT IT READS IS OF BULK AT MOST 1048576: true; the input reads as it did. -/
def fnExactNetOfUptoRow : OpenClaim := { program := "ytbacajbfedgcjaa", sum := "8981ea92aedb5ddeb65f51e9443c02cd3d0098625f2027a007223acffa31cb84", func := "loop.example/g01032/laws.FnExactNetOf", spec := "fnExactNetOf", unfollowed := true, recurses := true, apart := false, narrowed := true }
def FnExactNetOfUptoSaid : Prop := fnExactNetOfUptoRow.holds Try.pinned (OpenSpec.upto fnExactNetOfSpec)

/-- 'laws.FnExactSameRun', WHERE WHAT IT READS IS OF BULK AT MOST 1048576: true; the input reads as it did. -/
def fnExactSameRunUptoRow : OpenClaim := { program := "ytbacajbfedgcjaa", sum := "8981ea92aedb5ddeb65f51e9443c02cd3d0098625f2027a007223acffa31cb84", func := "loop.example/g01032/laws.FnExactSameRun", spec := "fnExactSameRun", apart := false, narrowed := true }
def FnExactSameRunUptoSaid : Prop := fnExactSameRunUptoRow.holds Try.pinned (OpenSpec.upto fnExactSameRunSpec)

/-- 'laws.FnExactSumOfDays', WHERE WHAT IT READS IS OF BULK AT MOST 1048576: true; the input reads as it did. -/
def fnExactSumOfDaysUptoRow : OpenClaim := { program := "ytbacajbfedgcjaa", sum := "8981ea92aedb5ddeb65f51e9443c02cd3d0098625f2027a007223acffa31cb84", func := "loop.example/g01032/laws.FnExactSumOfDays", spec := "fnExactSumOfDays", unfollowed := true, recurses := true, apart := false, narrowed := true }
def FnExactSumOfDaysUptoSaid : Prop := fnExactSumOfDaysUptoRow.holds Try.pinned (OpenSpec.upto fnExactSumOfDaysSpec)

/-- 'laws.FnExactClosingError', WHERE WHAT IT READS IS OF BULK AT MOST 1048576: true; the input reads as it did. -/
def fnExactClosingErrorUptoRow : OpenClaim := { program := "ytbacajbfedgcjaa", sum := "8981ea92aedb5ddeb65f51e9443c02cd3d0098625f2027a007223acffa31cb84", func := "loop.example/g01032/laws.FnExactClosingError", spec := "fnExactClosingError", unfollowed := true, recurses := true, apart := false, narrowed := true }
def FnExactClosingErrorUptoSaid : Prop := fnExactClosingErrorUptoRow.holds Try.pinned (OpenSpec.upto fnExactClosingErrorSpec)

/-- 'laws.FnExactWorstDays', WHERE WHAT IT READS IS OF BULK AT MOST 1048576: true; the input reads as it did. -/
def fnExactWorstDaysUptoRow : OpenClaim := { program := "ytbacajbfedgcjaa", sum := "8981ea92aedb5ddeb65f51e9443c02cd3d0098625f2027a007223acffa31cb84", func := "loop.example/g01032/laws.FnExactWorstDays", spec := "fnExactWorstDays", unfollowed := true, recurses := true, apart := false, narrowed := true }
def FnExactWorstDaysUptoSaid : Prop := fnExactWorstDaysUptoRow.holds Try.pinned (OpenSpec.upto fnExactWorstDaysSpec)

/-- 'laws.FnExactFirstOver', WHERE WHAT IT READS IS OF BULK AT MOST 1048576: true; the input reads as it did. -/
def fnExactFirstOverUptoRow : OpenClaim := { program := "ytbacajbfedgcjaa", sum := "8981ea92aedb5ddeb65f51e9443c02cd3d0098625f2027a007223acffa31cb84", func := "loop.example/g01032/laws.FnExactFirstOver", spec := "fnExactFirstOver", unfollowed := true, recurses := true, apart := false, narrowed := true }
def FnExactFirstOverUptoSaid : Prop := fnExactFirstOverUptoRow.holds Try.pinned (OpenSpec.upto fnExactFirstOverSpec)

/-- 'laws.FnExactPumpedShare', WHERE WHAT IT READS IS OF BULK AT MOST 1048576: true; the input reads as it did. -/
def fnExactPumpedShareUptoRow : OpenClaim := { program := "ytbacajbfedgcjaa", sum := "8981ea92aedb5ddeb65f51e9443c02cd3d0098625f2027a007223acffa31cb84", func := "loop.example/g01032/laws.FnExactPumpedShare", spec := "fnExactPumpedShare", unfollowed := true, recurses := true, apart := false, narrowed := true }
def FnExactPumpedShareUptoSaid : Prop := fnExactPumpedShareUptoRow.holds Try.pinned (OpenSpec.upto fnExactPumpedShareSpec)

/-- 'laws.FnExactRunBalance', WHERE WHAT IT READS IS OF BULK AT MOST 1048576: true; the input reads as it did. -/
def fnExactRunBalanceUptoRow : OpenClaim := { program := "ytbacajbfedgcjaa", sum := "8981ea92aedb5ddeb65f51e9443c02cd3d0098625f2027a007223acffa31cb84", func := "loop.example/g01032/laws.FnExactRunBalance", spec := "fnExactRunBalance", unfollowed := true, recurses := true, apart := false, narrowed := true }
def FnExactRunBalanceUptoSaid : Prop := fnExactRunBalanceUptoRow.holds Try.pinned (OpenSpec.upto fnExactRunBalanceSpec)

/-- 'laws.FnExactMissingPumps', WHERE WHAT IT READS IS OF BULK AT MOST 1048576: true; the input reads as it did. -/
def fnExactMissingPumpsUptoRow : OpenClaim := { program := "ytbacajbfedgcjaa", sum := "8981ea92aedb5ddeb65f51e9443c02cd3d0098625f2027a007223acffa31cb84", func := "loop.example/g01032/laws.FnExactMissingPumps", spec := "fnExactMissingPumps", unfollowed := true, recurses := true, apart := false, narrowed := true }
def FnExactMissingPumpsUptoSaid : Prop := fnExactMissingPumpsUptoRow.holds Try.pinned (OpenSpec.upto fnExactMissingPumpsSpec)

end Rows
end Go.Proofs.Ytbacajbfedgcjaa
