/-
  No cell of these rows narrows 'for every input' (looked for: loops, veiled, ifaces, maps, wideKeys, modest, calm, conditions, laid).
  DERIVED. THE GIVEN ROWS OF THIS SEAT. 11 by the template 'for every input the law returns true; each argument reads behind the call as it read before'; 0 by the template 'total and deterministic' (their statements: YthabjlhfidcnoaaTotals.lean).
  GIVEN WITH THE SEED: the statements are not yours to turn. If you find one false, say at which input.
  Laid BY PROGRAM, IN A SANDBOX (cutbox-rows.mjs): the forced cells as the released guide's own fill.sh prints them over the translation 02468bb724cf4e6f… (all of the seat's roots in one cut). By AI agents, Wed Nov 11 2026. No macro, syntax, notation, axiom, sorry.
-/
import Derived.Test.YthabjlhfidcnoaaChecked
import GoSem.Claim
import GoSem.ClaimJoined
import GoSem.ClaimMapViews
import Derived.JoinedTies
import Derived.KernelRfl
namespace Go.Proofs.Ythabjlhfidcnoaa
/- THE CELL 'sum', in the pinned program and in every row, IS THE sha256 OF THE DUMP (.gsa) THAT YthabjlhfidcnoaaProg.lean LOADS. Nothing in Lean hashes anything: it is a label: what it is worth is what the hold of that sum in a sandbox is worth. -/
noncomputable def Try.pinned : Pinned := { name := "ythabjlhfidcnoaa", sum := "02468bb724cf4e6f79fd7ddd96d7fe65e68fc28d7a3879a3dcc30bad9e4e0508", checked := Try.checked }
namespace Rows
def none {H : Type} : Left H := { results := [], args := [] }

/-- 'laws.FnExactValidPumping': WHATEVER THE INPUT: true; the input reads as it did. -/
def fnExactValidPumpingSpec : ChangeSpec := { name := "fnExactValidPumping", fn := fun _ => fun
  | [d] => { results := [.lit (.bool true)], args := [d] }
  | _ => none }
def fnExactValidPumpingRow : OpenClaim := { program := "ythabjlhfidcnoaa", sum := "02468bb724cf4e6f79fd7ddd96d7fe65e68fc28d7a3879a3dcc30bad9e4e0508", func := "loop.example/g01032/laws.FnExactValidPumping", spec := "fnExactValidPumping", unfollowed := true, recurses := true, apart := false }
def FnExactValidPumpingSaid : Prop := fnExactValidPumpingRow.holds Try.pinned (OpenSpec.ofChange fnExactValidPumpingSpec)

/-- ITS FALSE NEIGHBOUR: 'it returns false'. Refute it at one input. -/
def fnExactValidPumpingWrong : ChangeSpec := { name := "fnExactValidPumping", fn := fun _ => fun
  | [d] => { results := [.lit (.bool false)], args := [d] }
  | _ => none }
def FnExactValidPumpingWrongFalsely : Prop := fnExactValidPumpingRow.holds Try.pinned (OpenSpec.ofChange fnExactValidPumpingWrong)

/-- 'laws.FnExactPumpOverload': WHATEVER THE INPUT: true; the input reads as it did. -/
def fnExactPumpOverloadSpec : ChangeSpec := { name := "fnExactPumpOverload", fn := fun _ => fun
  | [d] => { results := [.lit (.bool true)], args := [d] }
  | _ => none }
def fnExactPumpOverloadRow : OpenClaim := { program := "ythabjlhfidcnoaa", sum := "02468bb724cf4e6f79fd7ddd96d7fe65e68fc28d7a3879a3dcc30bad9e4e0508", func := "loop.example/g01032/laws.FnExactPumpOverload", spec := "fnExactPumpOverload", unfollowed := true, recurses := true, apart := false }
def FnExactPumpOverloadSaid : Prop := fnExactPumpOverloadRow.holds Try.pinned (OpenSpec.ofChange fnExactPumpOverloadSpec)

/-- ITS FALSE NEIGHBOUR: 'it returns false'. Refute it at one input. -/
def fnExactPumpOverloadWrong : ChangeSpec := { name := "fnExactPumpOverload", fn := fun _ => fun
  | [d] => { results := [.lit (.bool false)], args := [d] }
  | _ => none }
def FnExactPumpOverloadWrongFalsely : Prop := fnExactPumpOverloadRow.holds Try.pinned (OpenSpec.ofChange fnExactPumpOverloadWrong)

/-- 'laws.FnExactCostOfPlan': WHATEVER THE INPUT: true; the input reads as it did. -/
def fnExactCostOfPlanSpec : ChangeSpec := { name := "fnExactCostOfPlan", fn := fun _ => fun
  | [d1, d2] => { results := [.lit (.bool true)], args := [d1, d2] }
  | _ => none }
def fnExactCostOfPlanRow : OpenClaim := { program := "ythabjlhfidcnoaa", sum := "02468bb724cf4e6f79fd7ddd96d7fe65e68fc28d7a3879a3dcc30bad9e4e0508", func := "loop.example/g01032/laws.FnExactCostOfPlan", spec := "fnExactCostOfPlan", unfollowed := true, recurses := true, apart := false }
def FnExactCostOfPlanSaid : Prop := fnExactCostOfPlanRow.holds Try.pinned (OpenSpec.ofChange fnExactCostOfPlanSpec)

/-- ITS FALSE NEIGHBOUR: 'it returns false'. Refute it at one input. -/
def fnExactCostOfPlanWrong : ChangeSpec := { name := "fnExactCostOfPlan", fn := fun _ => fun
  | [d1, d2] => { results := [.lit (.bool false)], args := [d1, d2] }
  | _ => none }
def FnExactCostOfPlanWrongFalsely : Prop := fnExactCostOfPlanRow.holds Try.pinned (OpenSpec.ofChange fnExactCostOfPlanWrong)

/-- 'laws.FnExactIsPumpPlan': WHATEVER THE INPUT: true; the input reads as it did. -/
def fnExactIsPumpPlanSpec : ChangeSpec := { name := "fnExactIsPumpPlan", fn := fun _ => fun
  | [d1, d2] => { results := [.lit (.bool true)], args := [d1, d2] }
  | _ => none }
def fnExactIsPumpPlanRow : OpenClaim := { program := "ythabjlhfidcnoaa", sum := "02468bb724cf4e6f79fd7ddd96d7fe65e68fc28d7a3879a3dcc30bad9e4e0508", func := "loop.example/g01032/laws.FnExactIsPumpPlan", spec := "fnExactIsPumpPlan", unfollowed := true, recurses := true, apart := false }
def FnExactIsPumpPlanSaid : Prop := fnExactIsPumpPlanRow.holds Try.pinned (OpenSpec.ofChange fnExactIsPumpPlanSpec)

/-- ITS FALSE NEIGHBOUR: 'it returns false'. Refute it at one input. -/
def fnExactIsPumpPlanWrong : ChangeSpec := { name := "fnExactIsPumpPlan", fn := fun _ => fun
  | [d1, d2] => { results := [.lit (.bool false)], args := [d1, d2] }
  | _ => none }
def FnExactIsPumpPlanWrongFalsely : Prop := fnExactIsPumpPlanRow.holds Try.pinned (OpenSpec.ofChange fnExactIsPumpPlanWrong)

/-- 'laws.FnExactWaterAfter': WHATEVER THE INPUT: true; the input reads as it did. -/
def fnExactWaterAfterSpec : ChangeSpec := { name := "fnExactWaterAfter", fn := fun _ => fun
  | [d1, d2] => { results := [.lit (.bool true)], args := [d1, d2] }
  | _ => none }
def fnExactWaterAfterRow : OpenClaim := { program := "ythabjlhfidcnoaa", sum := "02468bb724cf4e6f79fd7ddd96d7fe65e68fc28d7a3879a3dcc30bad9e4e0508", func := "loop.example/g01032/laws.FnExactWaterAfter", spec := "fnExactWaterAfter", unfollowed := true, recurses := true, apart := false }
def FnExactWaterAfterSaid : Prop := fnExactWaterAfterRow.holds Try.pinned (OpenSpec.ofChange fnExactWaterAfterSpec)

/-- ITS FALSE NEIGHBOUR: 'it returns false'. Refute it at one input. -/
def fnExactWaterAfterWrong : ChangeSpec := { name := "fnExactWaterAfter", fn := fun _ => fun
  | [d1, d2] => { results := [.lit (.bool false)], args := [d1, d2] }
  | _ => none }
def FnExactWaterAfterWrongFalsely : Prop := fnExactWaterAfterRow.holds Try.pinned (OpenSpec.ofChange fnExactWaterAfterWrong)

/-- 'laws.FnExactConstantPlan': WHATEVER THE INPUT: true; the input reads as it did. -/
def fnExactConstantPlanSpec : ChangeSpec := { name := "fnExactConstantPlan", fn := fun _ => fun
  | [d] => { results := [.lit (.bool true)], args := [d] }
  | _ => none }
def fnExactConstantPlanRow : OpenClaim := { program := "ythabjlhfidcnoaa", sum := "02468bb724cf4e6f79fd7ddd96d7fe65e68fc28d7a3879a3dcc30bad9e4e0508", func := "loop.example/g01032/laws.FnExactConstantPlan", spec := "fnExactConstantPlan", unfollowed := true, recurses := true, apart := false }
def FnExactConstantPlanSaid : Prop := fnExactConstantPlanRow.holds Try.pinned (OpenSpec.ofChange fnExactConstantPlanSpec)

/-- ITS FALSE NEIGHBOUR: 'it returns false'. Refute it at one input. -/
def fnExactConstantPlanWrong : ChangeSpec := { name := "fnExactConstantPlan", fn := fun _ => fun
  | [d] => { results := [.lit (.bool false)], args := [d] }
  | _ => none }
def FnExactConstantPlanWrongFalsely : Prop := fnExactConstantPlanRow.holds Try.pinned (OpenSpec.ofChange fnExactConstantPlanWrong)

/-- 'laws.FnExactLeastCapacity': WHATEVER THE INPUT: true; the input reads as it did. -/
def fnExactLeastCapacitySpec : ChangeSpec := { name := "fnExactLeastCapacity", fn := fun _ => fun
  | [d] => { results := [.lit (.bool true)], args := [d] }
  | _ => none }
def fnExactLeastCapacityRow : OpenClaim := { program := "ythabjlhfidcnoaa", sum := "02468bb724cf4e6f79fd7ddd96d7fe65e68fc28d7a3879a3dcc30bad9e4e0508", func := "loop.example/g01032/laws.FnExactLeastCapacity", spec := "fnExactLeastCapacity", unfollowed := true, recurses := true, apart := false }
def FnExactLeastCapacitySaid : Prop := fnExactLeastCapacityRow.holds Try.pinned (OpenSpec.ofChange fnExactLeastCapacitySpec)

/-- ITS FALSE NEIGHBOUR: 'it returns false'. Refute it at one input. -/
def fnExactLeastCapacityWrong : ChangeSpec := { name := "fnExactLeastCapacity", fn := fun _ => fun
  | [d] => { results := [.lit (.bool false)], args := [d] }
  | _ => none }
def FnExactLeastCapacityWrongFalsely : Prop := fnExactLeastCapacityRow.holds Try.pinned (OpenSpec.ofChange fnExactLeastCapacityWrong)

/-- 'laws.FnExactLeastPumped': WHATEVER THE INPUT: true; the input reads as it did. -/
def fnExactLeastPumpedSpec : ChangeSpec := { name := "fnExactLeastPumped", fn := fun _ => fun
  | [d] => { results := [.lit (.bool true)], args := [d] }
  | _ => none }
def fnExactLeastPumpedRow : OpenClaim := { program := "ythabjlhfidcnoaa", sum := "02468bb724cf4e6f79fd7ddd96d7fe65e68fc28d7a3879a3dcc30bad9e4e0508", func := "loop.example/g01032/laws.FnExactLeastPumped", spec := "fnExactLeastPumped", unfollowed := true, recurses := true, apart := false }
def FnExactLeastPumpedSaid : Prop := fnExactLeastPumpedRow.holds Try.pinned (OpenSpec.ofChange fnExactLeastPumpedSpec)

/-- ITS FALSE NEIGHBOUR: 'it returns false'. Refute it at one input. -/
def fnExactLeastPumpedWrong : ChangeSpec := { name := "fnExactLeastPumped", fn := fun _ => fun
  | [d] => { results := [.lit (.bool false)], args := [d] }
  | _ => none }
def FnExactLeastPumpedWrongFalsely : Prop := fnExactLeastPumpedRow.holds Try.pinned (OpenSpec.ofChange fnExactLeastPumpedWrong)

/-- 'laws.FnExactCheapestPlan': WHATEVER THE INPUT: true; the input reads as it did. -/
def fnExactCheapestPlanSpec : ChangeSpec := { name := "fnExactCheapestPlan", fn := fun _ => fun
  | [d] => { results := [.lit (.bool true)], args := [d] }
  | _ => none }
def fnExactCheapestPlanRow : OpenClaim := { program := "ythabjlhfidcnoaa", sum := "02468bb724cf4e6f79fd7ddd96d7fe65e68fc28d7a3879a3dcc30bad9e4e0508", func := "loop.example/g01032/laws.FnExactCheapestPlan", spec := "fnExactCheapestPlan", unfollowed := true, recurses := true, apart := false }
def FnExactCheapestPlanSaid : Prop := fnExactCheapestPlanRow.holds Try.pinned (OpenSpec.ofChange fnExactCheapestPlanSpec)

/-- ITS FALSE NEIGHBOUR: 'it returns false'. Refute it at one input. -/
def fnExactCheapestPlanWrong : ChangeSpec := { name := "fnExactCheapestPlan", fn := fun _ => fun
  | [d] => { results := [.lit (.bool false)], args := [d] }
  | _ => none }
def FnExactCheapestPlanWrongFalsely : Prop := fnExactCheapestPlanRow.holds Try.pinned (OpenSpec.ofChange fnExactCheapestPlanWrong)

/-- 'laws.FnExactLatestPlan': WHATEVER THE INPUT: true; the input reads as it did. -/
def fnExactLatestPlanSpec : ChangeSpec := { name := "fnExactLatestPlan", fn := fun _ => fun
  | [d] => { results := [.lit (.bool true)], args := [d] }
  | _ => none }
def fnExactLatestPlanRow : OpenClaim := { program := "ythabjlhfidcnoaa", sum := "02468bb724cf4e6f79fd7ddd96d7fe65e68fc28d7a3879a3dcc30bad9e4e0508", func := "loop.example/g01032/laws.FnExactLatestPlan", spec := "fnExactLatestPlan", unfollowed := true, recurses := true, apart := false }
def FnExactLatestPlanSaid : Prop := fnExactLatestPlanRow.holds Try.pinned (OpenSpec.ofChange fnExactLatestPlanSpec)

/-- ITS FALSE NEIGHBOUR: 'it returns false'. Refute it at one input. -/
def fnExactLatestPlanWrong : ChangeSpec := { name := "fnExactLatestPlan", fn := fun _ => fun
  | [d] => { results := [.lit (.bool false)], args := [d] }
  | _ => none }
def FnExactLatestPlanWrongFalsely : Prop := fnExactLatestPlanRow.holds Try.pinned (OpenSpec.ofChange fnExactLatestPlanWrong)

/-- 'laws.FnExactSavingOf': WHATEVER THE INPUT: true; the input reads as it did. -/
def fnExactSavingOfSpec : ChangeSpec := { name := "fnExactSavingOf", fn := fun _ => fun
  | [d1, d2] => { results := [.lit (.bool true)], args := [d1, d2] }
  | _ => none }
def fnExactSavingOfRow : OpenClaim := { program := "ythabjlhfidcnoaa", sum := "02468bb724cf4e6f79fd7ddd96d7fe65e68fc28d7a3879a3dcc30bad9e4e0508", func := "loop.example/g01032/laws.FnExactSavingOf", spec := "fnExactSavingOf", unfollowed := true, recurses := true, apart := false }
def FnExactSavingOfSaid : Prop := fnExactSavingOfRow.holds Try.pinned (OpenSpec.ofChange fnExactSavingOfSpec)

/-- ITS FALSE NEIGHBOUR: 'it returns false'. Refute it at one input. -/
def fnExactSavingOfWrong : ChangeSpec := { name := "fnExactSavingOf", fn := fun _ => fun
  | [d1, d2] => { results := [.lit (.bool false)], args := [d1, d2] }
  | _ => none }
def FnExactSavingOfWrongFalsely : Prop := fnExactSavingOfRow.holds Try.pinned (OpenSpec.ofChange fnExactSavingOfWrong)

/- THE SECOND FORM. 'bulk': how many values and letters a reading holds, each counted each time it is reached (what is shared counts as often as it is met; a slice's spare places count too). A statement '..UptoSaid' is the law's where the arguments, and the package variables that the reading takes, are together of bulk at most 1048576: NARROWER than '..Said'. Prove '..Said' where nothing that the law and all that it calls make is longer than what came in: it says more and counts as full. Else prove '..UptoSaid'. A law counts once. -/
mutual
def uptoBulk {H : Type} : DataW H → Nat
  | .lit (.string bytes) => bytes.length + 1
  | .lit _ => 1
  | .nil => 1
  | .ptr d => uptoBulk d + 1
  | .slice elems spare => uptoBulkAll elems + uptoBulkAll spare + 1
  | .agg parts => uptoBulkAll parts + 1
  | .iface _ d => uptoBulk d + 1
  | .map entries => uptoBulkEntries entries + 1
  | .held _ => 1
def uptoBulkAll {H : Type} : List (DataW H) → Nat
  | [] => 0
  | d :: r => uptoBulk d + uptoBulkAll r
def uptoBulkEntries {H : Type} : List (Lit × DataW H) → Nat
  | [] => 0
  | x :: r => uptoBulkEntry x + uptoBulkEntries r
def uptoBulkEntry {H : Type} : Lit × DataW H → Nat
  | (.string bytes, d) => bytes.length + uptoBulk d + 1
  | (_, d) => uptoBulk d + 1
 end
def uptoSmall : (H : Type) → List (DataW H) → Bool := fun _ ds => decide (uptoBulkAll ds ≤ 1048576)
def OpenSpec.upto (s : _root_.Go.ChangeSpec) : _root_.Go.OpenSpec := { _root_.Go.OpenSpec.ofChange s with cond := some uptoSmall }

/-- 'laws.FnExactValidPumping', WHERE WHAT IT READS IS OF BULK AT MOST 1048576: true; the input reads as it did. -/
def fnExactValidPumpingUptoRow : OpenClaim := { program := "ythabjlhfidcnoaa", sum := "02468bb724cf4e6f79fd7ddd96d7fe65e68fc28d7a3879a3dcc30bad9e4e0508", func := "loop.example/g01032/laws.FnExactValidPumping", spec := "fnExactValidPumping", unfollowed := true, recurses := true, apart := false, narrowed := true }
def FnExactValidPumpingUptoSaid : Prop := fnExactValidPumpingUptoRow.holds Try.pinned (OpenSpec.upto fnExactValidPumpingSpec)

/-- 'laws.FnExactPumpOverload', WHERE WHAT IT READS IS OF BULK AT MOST 1048576: true; the input reads as it did. -/
def fnExactPumpOverloadUptoRow : OpenClaim := { program := "ythabjlhfidcnoaa", sum := "02468bb724cf4e6f79fd7ddd96d7fe65e68fc28d7a3879a3dcc30bad9e4e0508", func := "loop.example/g01032/laws.FnExactPumpOverload", spec := "fnExactPumpOverload", unfollowed := true, recurses := true, apart := false, narrowed := true }
def FnExactPumpOverloadUptoSaid : Prop := fnExactPumpOverloadUptoRow.holds Try.pinned (OpenSpec.upto fnExactPumpOverloadSpec)

/-- 'laws.FnExactCostOfPlan', WHERE WHAT IT READS IS OF BULK AT MOST 1048576: true; the input reads as it did. -/
def fnExactCostOfPlanUptoRow : OpenClaim := { program := "ythabjlhfidcnoaa", sum := "02468bb724cf4e6f79fd7ddd96d7fe65e68fc28d7a3879a3dcc30bad9e4e0508", func := "loop.example/g01032/laws.FnExactCostOfPlan", spec := "fnExactCostOfPlan", unfollowed := true, recurses := true, apart := false, narrowed := true }
def FnExactCostOfPlanUptoSaid : Prop := fnExactCostOfPlanUptoRow.holds Try.pinned (OpenSpec.upto fnExactCostOfPlanSpec)

/-- 'laws.FnExactIsPumpPlan', WHERE WHAT IT READS IS OF BULK AT MOST 1048576: true; the input reads as it did. -/
def fnExactIsPumpPlanUptoRow : OpenClaim := { program := "ythabjlhfidcnoaa", sum := "02468bb724cf4e6f79fd7ddd96d7fe65e68fc28d7a3879a3dcc30bad9e4e0508", func := "loop.example/g01032/laws.FnExactIsPumpPlan", spec := "fnExactIsPumpPlan", unfollowed := true, recurses := true, apart := false, narrowed := true }
def FnExactIsPumpPlanUptoSaid : Prop := fnExactIsPumpPlanUptoRow.holds Try.pinned (OpenSpec.upto fnExactIsPumpPlanSpec)

/-- 'laws.FnExactWaterAfter', WHERE WHAT IT READS IS OF BULK AT MOST 1048576: true; the input reads as it did. -/
def fnExactWaterAfterUptoRow : OpenClaim := { program := "ythabjlhfidcnoaa", sum := "02468bb724cf4e6f79fd7ddd96d7fe65e68fc28d7a3879a3dcc30bad9e4e0508", func := "loop.example/g01032/laws.FnExactWaterAfter", spec := "fnExactWaterAfter", unfollowed := true, recurses := true, apart := false, narrowed := true }
def FnExactWaterAfterUptoSaid : Prop := fnExactWaterAfterUptoRow.holds Try.pinned (OpenSpec.upto fnExactWaterAfterSpec)

/-- 'laws.FnExactConstantPlan', WHERE WHAT IT READS IS OF BULK AT MOST 1048576: true; the input reads as it did. -/
def fnExactConstantPlanUptoRow : OpenClaim := { program := "ythabjlhfidcnoaa", sum := "02468bb724cf4e6f79fd7ddd96d7fe65e68fc28d7a3879a3dcc30bad9e4e0508", func := "loop.example/g01032/laws.FnExactConstantPlan", spec := "fnExactConstantPlan", unfollowed := true, recurses := true, apart := false, narrowed := true }
def FnExactConstantPlanUptoSaid : Prop := fnExactConstantPlanUptoRow.holds Try.pinned (OpenSpec.upto fnExactConstantPlanSpec)

/-- 'laws.FnExactLeastCapacity', WHERE WHAT IT READS IS OF BULK AT MOST 1048576: true; the input reads as it did. -/
def fnExactLeastCapacityUptoRow : OpenClaim := { program := "ythabjlhfidcnoaa", sum := "02468bb724cf4e6f79fd7ddd96d7fe65e68fc28d7a3879a3dcc30bad9e4e0508", func := "loop.example/g01032/laws.FnExactLeastCapacity", spec := "fnExactLeastCapacity", unfollowed := true, recurses := true, apart := false, narrowed := true }
def FnExactLeastCapacityUptoSaid : Prop := fnExactLeastCapacityUptoRow.holds Try.pinned (OpenSpec.upto fnExactLeastCapacitySpec)

/-- 'laws.FnExactLeastPumped', WHERE WHAT IT READS IS OF BULK AT MOST 1048576: true; the input reads as it did. -/
def fnExactLeastPumpedUptoRow : OpenClaim := { program := "ythabjlhfidcnoaa", sum := "02468bb724cf4e6f79fd7ddd96d7fe65e68fc28d7a3879a3dcc30bad9e4e0508", func := "loop.example/g01032/laws.FnExactLeastPumped", spec := "fnExactLeastPumped", unfollowed := true, recurses := true, apart := false, narrowed := true }
def FnExactLeastPumpedUptoSaid : Prop := fnExactLeastPumpedUptoRow.holds Try.pinned (OpenSpec.upto fnExactLeastPumpedSpec)

/-- 'laws.FnExactCheapestPlan', WHERE WHAT IT READS IS OF BULK AT MOST 1048576: true; the input reads as it did. -/
def fnExactCheapestPlanUptoRow : OpenClaim := { program := "ythabjlhfidcnoaa", sum := "02468bb724cf4e6f79fd7ddd96d7fe65e68fc28d7a3879a3dcc30bad9e4e0508", func := "loop.example/g01032/laws.FnExactCheapestPlan", spec := "fnExactCheapestPlan", unfollowed := true, recurses := true, apart := false, narrowed := true }
def FnExactCheapestPlanUptoSaid : Prop := fnExactCheapestPlanUptoRow.holds Try.pinned (OpenSpec.upto fnExactCheapestPlanSpec)

/-- 'laws.FnExactLatestPlan', WHERE WHAT IT READS IS OF BULK AT MOST 1048576: true; the input reads as it did. -/
def fnExactLatestPlanUptoRow : OpenClaim := { program := "ythabjlhfidcnoaa", sum := "02468bb724cf4e6f79fd7ddd96d7fe65e68fc28d7a3879a3dcc30bad9e4e0508", func := "loop.example/g01032/laws.FnExactLatestPlan", spec := "fnExactLatestPlan", unfollowed := true, recurses := true, apart := false, narrowed := true }
def FnExactLatestPlanUptoSaid : Prop := fnExactLatestPlanUptoRow.holds Try.pinned (OpenSpec.upto fnExactLatestPlanSpec)

/-- 'laws.FnExactSavingOf', WHERE WHAT IT READS IS OF BULK AT MOST 1048576: true; the input reads as it did. -/
def fnExactSavingOfUptoRow : OpenClaim := { program := "ythabjlhfidcnoaa", sum := "02468bb724cf4e6f79fd7ddd96d7fe65e68fc28d7a3879a3dcc30bad9e4e0508", func := "loop.example/g01032/laws.FnExactSavingOf", spec := "fnExactSavingOf", unfollowed := true, recurses := true, apart := false, narrowed := true }
def FnExactSavingOfUptoSaid : Prop := fnExactSavingOfUptoRow.holds Try.pinned (OpenSpec.upto fnExactSavingOfSpec)

end Rows
end Go.Proofs.Ythabjlhfidcnoaa
