/-
  No cell of these rows narrows 'for every input' (looked for: loops, veiled, ifaces, maps, wideKeys, modest, calm, conditions, laid).
  DERIVED. THE GIVEN ROWS OF THIS SEAT. 8 by the template 'for every input the law returns true; each argument reads behind the call as it read before'; 0 by the template 'total and deterministic' (their statements: YtppkljhnmifilaaTotals.lean).
  GIVEN WITH THE SEED: the statements are not yours to turn. If you find one false, say at which input.
  Laid BY PROGRAM, IN A SANDBOX (cutbox-rows.mjs): the forced cells as the released guide's own fill.sh prints them over the translation 968ebca5807fccf3… (all of the seat's roots in one cut). By AI agents, Wed Nov 11 2026. No macro, syntax, notation, axiom, sorry.
-/
import Derived.Test.YtppkljhnmifilaaChecked
import GoSem.Claim
import GoSem.ClaimJoined
import GoSem.ClaimMapViews
import Derived.JoinedTies
import Derived.KernelRfl
namespace Go.Proofs.Ytppkljhnmifilaa
/- THE CELL 'sum', in the pinned program and in every row, IS THE sha256 OF THE DUMP (.gsa) THAT YtppkljhnmifilaaProg.lean LOADS. Nothing in Lean hashes anything: it is a label: what it is worth is what the hold of that sum in a sandbox is worth. -/
noncomputable def Try.pinned : Pinned := { name := "ytppkljhnmifilaa", sum := "968ebca5807fccf39c00346e0e68a3ccb52448c807ee89074fb82e8bec746b27", checked := Try.checked }
namespace Rows
def none {H : Type} : Left H := { results := [], args := [] }

/-- 'laws.FnExactValidSwitch': WHATEVER THE INPUT: true; the input reads as it did. -/
def fnExactValidSwitchSpec : ChangeSpec := { name := "fnExactValidSwitch", fn := fun _ => fun
  | [d] => { results := [.lit (.bool true)], args := [d] }
  | _ => none }
def fnExactValidSwitchRow : OpenClaim := { program := "ytppkljhnmifilaa", sum := "968ebca5807fccf39c00346e0e68a3ccb52448c807ee89074fb82e8bec746b27", func := "loop.example/g01032/laws.FnExactValidSwitch", spec := "fnExactValidSwitch", apart := false }
def FnExactValidSwitchSaid : Prop := fnExactValidSwitchRow.holds Try.pinned (OpenSpec.ofChange fnExactValidSwitchSpec)

/-- ITS FALSE NEIGHBOUR: 'it returns false'. Refute it at one input. -/
def fnExactValidSwitchWrong : ChangeSpec := { name := "fnExactValidSwitch", fn := fun _ => fun
  | [d] => { results := [.lit (.bool false)], args := [d] }
  | _ => none }
def FnExactValidSwitchWrongFalsely : Prop := fnExactValidSwitchRow.holds Try.pinned (OpenSpec.ofChange fnExactValidSwitchWrong)

/-- 'laws.FnExactRunsNow': WHATEVER THE INPUT: true; the input reads as it did. -/
def fnExactRunsNowSpec : ChangeSpec := { name := "fnExactRunsNow", fn := fun _ => fun
  | [d1, d2, d3] => { results := [.lit (.bool true)], args := [d1, d2, d3] }
  | _ => none }
def fnExactRunsNowRow : OpenClaim := { program := "ytppkljhnmifilaa", sum := "968ebca5807fccf39c00346e0e68a3ccb52448c807ee89074fb82e8bec746b27", func := "loop.example/g01032/laws.FnExactRunsNow", spec := "fnExactRunsNow", apart := false }
def FnExactRunsNowSaid : Prop := fnExactRunsNowRow.holds Try.pinned (OpenSpec.ofChange fnExactRunsNowSpec)

/-- ITS FALSE NEIGHBOUR: 'it returns false'. Refute it at one input. -/
def fnExactRunsNowWrong : ChangeSpec := { name := "fnExactRunsNow", fn := fun _ => fun
  | [d1, d2, d3] => { results := [.lit (.bool false)], args := [d1, d2, d3] }
  | _ => none }
def FnExactRunsNowWrongFalsely : Prop := fnExactRunsNowRow.holds Try.pinned (OpenSpec.ofChange fnExactRunsNowWrong)

/-- 'laws.FnExactSameHours': WHATEVER THE INPUT: true; the input reads as it did. -/
def fnExactSameHoursSpec : ChangeSpec := { name := "fnExactSameHours", fn := fun _ => fun
  | [d1, d2] => { results := [.lit (.bool true)], args := [d1, d2] }
  | _ => none }
def fnExactSameHoursRow : OpenClaim := { program := "ytppkljhnmifilaa", sum := "968ebca5807fccf39c00346e0e68a3ccb52448c807ee89074fb82e8bec746b27", func := "loop.example/g01032/laws.FnExactSameHours", spec := "fnExactSameHours", apart := false }
def FnExactSameHoursSaid : Prop := fnExactSameHoursRow.holds Try.pinned (OpenSpec.ofChange fnExactSameHoursSpec)

/-- ITS FALSE NEIGHBOUR: 'it returns false'. Refute it at one input. -/
def fnExactSameHoursWrong : ChangeSpec := { name := "fnExactSameHours", fn := fun _ => fun
  | [d1, d2] => { results := [.lit (.bool false)], args := [d1, d2] }
  | _ => none }
def FnExactSameHoursWrongFalsely : Prop := fnExactSameHoursRow.holds Try.pinned (OpenSpec.ofChange fnExactSameHoursWrong)

/-- 'laws.FnExactHoursRunning': WHATEVER THE INPUT: true; the input reads as it did. -/
def fnExactHoursRunningSpec : ChangeSpec := { name := "fnExactHoursRunning", fn := fun _ => fun
  | [d] => { results := [.lit (.bool true)], args := [d] }
  | _ => none }
def fnExactHoursRunningRow : OpenClaim := { program := "ytppkljhnmifilaa", sum := "968ebca5807fccf39c00346e0e68a3ccb52448c807ee89074fb82e8bec746b27", func := "loop.example/g01032/laws.FnExactHoursRunning", spec := "fnExactHoursRunning", unfollowed := true, recurses := true, apart := false }
def FnExactHoursRunningSaid : Prop := fnExactHoursRunningRow.holds Try.pinned (OpenSpec.ofChange fnExactHoursRunningSpec)

/-- ITS FALSE NEIGHBOUR: 'it returns false'. Refute it at one input. -/
def fnExactHoursRunningWrong : ChangeSpec := { name := "fnExactHoursRunning", fn := fun _ => fun
  | [d] => { results := [.lit (.bool false)], args := [d] }
  | _ => none }
def FnExactHoursRunningWrongFalsely : Prop := fnExactHoursRunningRow.holds Try.pinned (OpenSpec.ofChange fnExactHoursRunningWrong)

/-- 'laws.FnExactHighestHour': WHATEVER THE INPUT: true; the input reads as it did. -/
def fnExactHighestHourSpec : ChangeSpec := { name := "fnExactHighestHour", fn := fun _ => fun
  | [d] => { results := [.lit (.bool true)], args := [d] }
  | _ => none }
def fnExactHighestHourRow : OpenClaim := { program := "ytppkljhnmifilaa", sum := "968ebca5807fccf39c00346e0e68a3ccb52448c807ee89074fb82e8bec746b27", func := "loop.example/g01032/laws.FnExactHighestHour", spec := "fnExactHighestHour", unfollowed := true, recurses := true, apart := false }
def FnExactHighestHourSaid : Prop := fnExactHighestHourRow.holds Try.pinned (OpenSpec.ofChange fnExactHighestHourSpec)

/-- ITS FALSE NEIGHBOUR: 'it returns false'. Refute it at one input. -/
def fnExactHighestHourWrong : ChangeSpec := { name := "fnExactHighestHour", fn := fun _ => fun
  | [d] => { results := [.lit (.bool false)], args := [d] }
  | _ => none }
def FnExactHighestHourWrongFalsely : Prop := fnExactHighestHourRow.holds Try.pinned (OpenSpec.ofChange fnExactHighestHourWrong)

/-- 'laws.FnExactCountSwitches': WHATEVER THE INPUT: true; the input reads as it did. -/
def fnExactCountSwitchesSpec : ChangeSpec := { name := "fnExactCountSwitches", fn := fun _ => fun
  | [d] => { results := [.lit (.bool true)], args := [d] }
  | _ => none }
def fnExactCountSwitchesRow : OpenClaim := { program := "ytppkljhnmifilaa", sum := "968ebca5807fccf39c00346e0e68a3ccb52448c807ee89074fb82e8bec746b27", func := "loop.example/g01032/laws.FnExactCountSwitches", spec := "fnExactCountSwitches", unfollowed := true, recurses := true, apart := false }
def FnExactCountSwitchesSaid : Prop := fnExactCountSwitchesRow.holds Try.pinned (OpenSpec.ofChange fnExactCountSwitchesSpec)

/-- ITS FALSE NEIGHBOUR: 'it returns false'. Refute it at one input. -/
def fnExactCountSwitchesWrong : ChangeSpec := { name := "fnExactCountSwitches", fn := fun _ => fun
  | [d] => { results := [.lit (.bool false)], args := [d] }
  | _ => none }
def FnExactCountSwitchesWrongFalsely : Prop := fnExactCountSwitchesRow.holds Try.pinned (OpenSpec.ofChange fnExactCountSwitchesWrong)

/-- 'laws.FnExactStepSluice': WHATEVER THE INPUT: true; the input reads as it did. -/
def fnExactStepSluiceSpec : ChangeSpec := { name := "fnExactStepSluice", fn := fun _ => fun
  | [d1, d2, d3, d4, d5] => { results := [.lit (.bool true)], args := [d1, d2, d3, d4, d5] }
  | _ => none }
def fnExactStepSluiceRow : OpenClaim := { program := "ytppkljhnmifilaa", sum := "968ebca5807fccf39c00346e0e68a3ccb52448c807ee89074fb82e8bec746b27", func := "loop.example/g01032/laws.FnExactStepSluice", spec := "fnExactStepSluice", apart := false }
def FnExactStepSluiceSaid : Prop := fnExactStepSluiceRow.holds Try.pinned (OpenSpec.ofChange fnExactStepSluiceSpec)

/-- ITS FALSE NEIGHBOUR: 'it returns false'. Refute it at one input. -/
def fnExactStepSluiceWrong : ChangeSpec := { name := "fnExactStepSluice", fn := fun _ => fun
  | [d1, d2, d3, d4, d5] => { results := [.lit (.bool false)], args := [d1, d2, d3, d4, d5] }
  | _ => none }
def FnExactStepSluiceWrongFalsely : Prop := fnExactStepSluiceRow.holds Try.pinned (OpenSpec.ofChange fnExactStepSluiceWrong)

/-- 'laws.FnExactRunSluice': WHATEVER THE INPUT: true; the input reads as it did. -/
def fnExactRunSluiceSpec : ChangeSpec := { name := "fnExactRunSluice", fn := fun _ => fun
  | [d1, d2, d3, d4] => { results := [.lit (.bool true)], args := [d1, d2, d3, d4] }
  | _ => none }
def fnExactRunSluiceRow : OpenClaim := { program := "ytppkljhnmifilaa", sum := "968ebca5807fccf39c00346e0e68a3ccb52448c807ee89074fb82e8bec746b27", func := "loop.example/g01032/laws.FnExactRunSluice", spec := "fnExactRunSluice", unfollowed := true, recurses := true, apart := false }
def FnExactRunSluiceSaid : Prop := fnExactRunSluiceRow.holds Try.pinned (OpenSpec.ofChange fnExactRunSluiceSpec)

/-- ITS FALSE NEIGHBOUR: 'it returns false'. Refute it at one input. -/
def fnExactRunSluiceWrong : ChangeSpec := { name := "fnExactRunSluice", fn := fun _ => fun
  | [d1, d2, d3, d4] => { results := [.lit (.bool false)], args := [d1, d2, d3, d4] }
  | _ => none }
def FnExactRunSluiceWrongFalsely : Prop := fnExactRunSluiceRow.holds Try.pinned (OpenSpec.ofChange fnExactRunSluiceWrong)

/- THE SECOND FORM. 'bulk': how many values and letters a reading holds, each counted each time it is reached (what is shared counts as often as it is met; a slice's spare places count too). A statement '..UptoSaid' is the law's where the arguments, and the package variables that the reading takes, are together of bulk at most 1048576: NARROWER than '..Said'. Prove '..Said' where nothing that the law and all that it calls make is longer than what came in: it says more and counts as full. Else prove '..UptoSaid'. A law counts once. -/
mutual
def uptoBulk {H : Type} : DataW H → Nat
  | .lit (.string bytes) => bytes.length + 1
  | .lit _ => 1
  | .nil => 1
  | .ptr d => uptoBulk d + 1
  | .slice elems spare => uptoBulkAll elems + uptoBulkAll spare + 1
  | .agg parts => uptoBulkAll parts + 1
  | .iface _ d => uptoBulk d + 1
  | .map entries => uptoBulkEntries entries + 1
  | .held _ => 1
def uptoBulkAll {H : Type} : List (DataW H) → Nat
  | [] => 0
  | d :: r => uptoBulk d + uptoBulkAll r
def uptoBulkEntries {H : Type} : List (Lit × DataW H) → Nat
  | [] => 0
  | x :: r => uptoBulkEntry x + uptoBulkEntries r
def uptoBulkEntry {H : Type} : Lit × DataW H → Nat
  | (.string bytes, d) => bytes.length + uptoBulk d + 1
  | (_, d) => uptoBulk d + 1
 end
def uptoSmall : (H : Type) → List (DataW H) → Bool := fun _ ds => decide (uptoBulkAll ds ≤ 1048576)
def OpenSpec.upto (s : _root_.Go.ChangeSpec) : _root_.Go.OpenSpec := { _root_.Go.OpenSpec.ofChange s with cond := some uptoSmall }

/-- 'laws.FnExactValidSwitch', WHERE WHAT IT READS IS OF BULK AT MOST 1048576: true; the input reads as it did. -/
def fnExactValidSwitchUptoRow : OpenClaim := { program := "ytppkljhnmifilaa", sum := "968ebca5807fccf39c00346e0e68a3ccb52448c807ee89074fb82e8bec746b27", func := "loop.example/g01032/laws.FnExactValidSwitch", spec := "fnExactValidSwitch", apart := false, narrowed := true }
def FnExactValidSwitchUptoSaid : Prop := fnExactValidSwitchUptoRow.holds Try.pinned (OpenSpec.upto fnExactValidSwitchSpec)

/-- 'laws.FnExactRunsNow', WHERE WHAT IT READS IS OF BULK AT MOST 1048576: true; the input reads as it did. -/
def fnExactRunsNowUptoRow : OpenClaim := { program := "ytppkljhnmifilaa", sum := "968ebca5807fccf39c00346e0e68a3ccb52448c807ee89074fb82e8bec746b27", func := "loop.example/g01032/laws.FnExactRunsNow", spec := "fnExactRunsNow", apart := false, narrowed := true }
def FnExactRunsNowUptoSaid : Prop := fnExactRunsNowUptoRow.holds Try.pinned (OpenSpec.upto fnExactRunsNowSpec)

/-- 'laws.FnExactSameHours', WHERE WHAT IT READS IS OF BULK AT MOST 1048576: true; the input reads as it did. -/
def fnExactSameHoursUptoRow : OpenClaim := { program := "ytppkljhnmifilaa", sum := "968ebca5807fccf39c00346e0e68a3ccb52448c807ee89074fb82e8bec746b27", func := "loop.example/g01032/laws.FnExactSameHours", spec := "fnExactSameHours", apart := false, narrowed := true }
def FnExactSameHoursUptoSaid : Prop := fnExactSameHoursUptoRow.holds Try.pinned (OpenSpec.upto fnExactSameHoursSpec)

/-- 'laws.FnExactHoursRunning', WHERE WHAT IT READS IS OF BULK AT MOST 1048576: true; the input reads as it did. -/
def fnExactHoursRunningUptoRow : OpenClaim := { program := "ytppkljhnmifilaa", sum := "968ebca5807fccf39c00346e0e68a3ccb52448c807ee89074fb82e8bec746b27", func := "loop.example/g01032/laws.FnExactHoursRunning", spec := "fnExactHoursRunning", unfollowed := true, recurses := true, apart := false, narrowed := true }
def FnExactHoursRunningUptoSaid : Prop := fnExactHoursRunningUptoRow.holds Try.pinned (OpenSpec.upto fnExactHoursRunningSpec)

/-- 'laws.FnExactHighestHour', WHERE WHAT IT READS IS OF BULK AT MOST 1048576: true; the input reads as it did. -/
def fnExactHighestHourUptoRow : OpenClaim := { program := "ytppkljhnmifilaa", sum := "968ebca5807fccf39c00346e0e68a3ccb52448c807ee89074fb82e8bec746b27", func := "loop.example/g01032/laws.FnExactHighestHour", spec := "fnExactHighestHour", unfollowed := true, recurses := true, apart := false, narrowed := true }
def FnExactHighestHourUptoSaid : Prop := fnExactHighestHourUptoRow.holds Try.pinned (OpenSpec.upto fnExactHighestHourSpec)

/-- 'laws.FnExactCountSwitches', WHERE WHAT IT READS IS OF BULK AT MOST 1048576: true; the input reads as it did. -/
def fnExactCountSwitchesUptoRow : OpenClaim := { program := "ytppkljhnmifilaa", sum := "968ebca5807fccf39c00346e0e68a3ccb52448c807ee89074fb82e8bec746b27", func := "loop.example/g01032/laws.FnExactCountSwitches", spec := "fnExactCountSwitches", unfollowed := true, recurses := true, apart := false, narrowed := true }
def FnExactCountSwitchesUptoSaid : Prop := fnExactCountSwitchesUptoRow.holds Try.pinned (OpenSpec.upto fnExactCountSwitchesSpec)

/-- 'laws.FnExactStepSluice', WHERE WHAT IT READS IS OF BULK AT MOST 1048576: true; the input reads as it did. -/
def fnExactStepSluiceUptoRow : OpenClaim := { program := "ytppkljhnmifilaa", sum := "968ebca5807fccf39c00346e0e68a3ccb52448c807ee89074fb82e8bec746b27", func := "loop.example/g01032/laws.FnExactStepSluice", spec := "fnExactStepSluice", apart := false, narrowed := true }
def FnExactStepSluiceUptoSaid : Prop := fnExactStepSluiceUptoRow.holds Try.pinned (OpenSpec.upto fnExactStepSluiceSpec)

/-- 'laws.FnExactRunSluice', WHERE WHAT IT READS IS OF BULK AT MOST 1048576: true; the input reads as it did. -/
def fnExactRunSluiceUptoRow : OpenClaim := { program := "ytppkljhnmifilaa", sum := "968ebca5807fccf39c00346e0e68a3ccb52448c807ee89074fb82e8bec746b27", func := "loop.example/g01032/laws.FnExactRunSluice", spec := "fnExactRunSluice", unfollowed := true, recurses := true, apart := false, narrowed := true }
def FnExactRunSluiceUptoSaid : Prop := fnExactRunSluiceUptoRow.holds Try.pinned (OpenSpec.upto fnExactRunSluiceSpec)

end Rows
end Go.Proofs.Ytppkljhnmifilaa
