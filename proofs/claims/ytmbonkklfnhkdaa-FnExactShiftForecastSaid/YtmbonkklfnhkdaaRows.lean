/-
  No cell of these rows narrows 'for every input' (looked for: loops, veiled, ifaces, maps, wideKeys, modest, calm, conditions, laid).
  DERIVED. THE GIVEN ROWS OF THIS SEAT. 8 by the template 'for every input the law returns true; each argument reads behind the call as it read before'; 0 by the template 'total and deterministic' (their statements: YtmbonkklfnhkdaaTotals.lean).
  GIVEN WITH THE SEED: the statements are not yours to turn. If you find one false, say at which input.
  Laid BY PROGRAM, IN A SANDBOX (cutbox-rows.mjs): the forced cells as the released guide's own fill.sh prints them over the translation 111345da149fd6a8… (all of the seat's roots in one cut). By AI agents, Wed Nov 11 2026. No macro, syntax, notation, axiom, sorry.
-/
import Derived.Test.YtmbonkklfnhkdaaChecked
import GoSem.Claim
import GoSem.ClaimJoined
import GoSem.ClaimMapViews
import Derived.JoinedTies
import Derived.KernelRfl
namespace Go.Proofs.Ytmbonkklfnhkdaa
/- THE CELL 'sum', in the pinned program and in every row, IS THE sha256 OF THE DUMP (.gsa) THAT YtmbonkklfnhkdaaProg.lean LOADS. Nothing in Lean hashes anything: it is a label: what it is worth is what the hold of that sum in a sandbox is worth. -/
noncomputable def Try.pinned : Pinned := { name := "ytmbonkklfnhkdaa", sum := "111345da149fd6a81f151a2e7ffe8771b56dfa71bf658087df7b884231972241", checked := Try.checked }
namespace Rows
def none {H : Type} : Left H := { results := [], args := [] }

/-- 'laws.FnExactValidAlarms': WHATEVER THE INPUT: true; the input reads as it did. -/
def fnExactValidAlarmsSpec : ChangeSpec := { name := "fnExactValidAlarms", fn := fun _ => fun
  | [d] => { results := [.lit (.bool true)], args := [d] }
  | _ => none }
def fnExactValidAlarmsRow : OpenClaim := { program := "ytmbonkklfnhkdaa", sum := "111345da149fd6a81f151a2e7ffe8771b56dfa71bf658087df7b884231972241", func := "loop.example/g01032/laws.FnExactValidAlarms", spec := "fnExactValidAlarms", apart := false }
def FnExactValidAlarmsSaid : Prop := fnExactValidAlarmsRow.holds Try.pinned (OpenSpec.ofChange fnExactValidAlarmsSpec)

/-- ITS FALSE NEIGHBOUR: 'it returns false'. Refute it at one input. -/
def fnExactValidAlarmsWrong : ChangeSpec := { name := "fnExactValidAlarms", fn := fun _ => fun
  | [d] => { results := [.lit (.bool false)], args := [d] }
  | _ => none }
def FnExactValidAlarmsWrongFalsely : Prop := fnExactValidAlarmsRow.holds Try.pinned (OpenSpec.ofChange fnExactValidAlarmsWrong)

/-- 'laws.FnExactErrorsOfForecast': WHATEVER THE INPUT: true; the input reads as it did. -/
def fnExactErrorsOfForecastSpec : ChangeSpec := { name := "fnExactErrorsOfForecast", fn := fun _ => fun
  | [d1, d2] => { results := [.lit (.bool true)], args := [d1, d2] }
  | _ => none }
def fnExactErrorsOfForecastRow : OpenClaim := { program := "ytmbonkklfnhkdaa", sum := "111345da149fd6a81f151a2e7ffe8771b56dfa71bf658087df7b884231972241", func := "loop.example/g01032/laws.FnExactErrorsOfForecast", spec := "fnExactErrorsOfForecast", unfollowed := true, recurses := true, apart := false }
def FnExactErrorsOfForecastSaid : Prop := fnExactErrorsOfForecastRow.holds Try.pinned (OpenSpec.ofChange fnExactErrorsOfForecastSpec)

/-- ITS FALSE NEIGHBOUR: 'it returns false'. Refute it at one input. -/
def fnExactErrorsOfForecastWrong : ChangeSpec := { name := "fnExactErrorsOfForecast", fn := fun _ => fun
  | [d1, d2] => { results := [.lit (.bool false)], args := [d1, d2] }
  | _ => none }
def FnExactErrorsOfForecastWrongFalsely : Prop := fnExactErrorsOfForecastRow.holds Try.pinned (OpenSpec.ofChange fnExactErrorsOfForecastWrong)

/-- 'laws.FnExactAlarmOf': WHATEVER THE INPUT: true; the input reads as it did. -/
def fnExactAlarmOfSpec : ChangeSpec := { name := "fnExactAlarmOf", fn := fun _ => fun
  | [d1, d2] => { results := [.lit (.bool true)], args := [d1, d2] }
  | _ => none }
def fnExactAlarmOfRow : OpenClaim := { program := "ytmbonkklfnhkdaa", sum := "111345da149fd6a81f151a2e7ffe8771b56dfa71bf658087df7b884231972241", func := "loop.example/g01032/laws.FnExactAlarmOf", spec := "fnExactAlarmOf", unfollowed := true, recurses := true, apart := false }
def FnExactAlarmOfSaid : Prop := fnExactAlarmOfRow.holds Try.pinned (OpenSpec.ofChange fnExactAlarmOfSpec)

/-- ITS FALSE NEIGHBOUR: 'it returns false'. Refute it at one input. -/
def fnExactAlarmOfWrong : ChangeSpec := { name := "fnExactAlarmOf", fn := fun _ => fun
  | [d1, d2] => { results := [.lit (.bool false)], args := [d1, d2] }
  | _ => none }
def FnExactAlarmOfWrongFalsely : Prop := fnExactAlarmOfRow.holds Try.pinned (OpenSpec.ofChange fnExactAlarmOfWrong)

/-- 'laws.FnExactMissedAndFalse': WHATEVER THE INPUT: true; the input reads as it did. -/
def fnExactMissedAndFalseSpec : ChangeSpec := { name := "fnExactMissedAndFalse", fn := fun _ => fun
  | [d1, d2] => { results := [.lit (.bool true)], args := [d1, d2] }
  | _ => none }
def fnExactMissedAndFalseRow : OpenClaim := { program := "ytmbonkklfnhkdaa", sum := "111345da149fd6a81f151a2e7ffe8771b56dfa71bf658087df7b884231972241", func := "loop.example/g01032/laws.FnExactMissedAndFalse", spec := "fnExactMissedAndFalse", unfollowed := true, recurses := true, apart := false }
def FnExactMissedAndFalseSaid : Prop := fnExactMissedAndFalseRow.holds Try.pinned (OpenSpec.ofChange fnExactMissedAndFalseSpec)

/-- ITS FALSE NEIGHBOUR: 'it returns false'. Refute it at one input. -/
def fnExactMissedAndFalseWrong : ChangeSpec := { name := "fnExactMissedAndFalse", fn := fun _ => fun
  | [d1, d2] => { results := [.lit (.bool false)], args := [d1, d2] }
  | _ => none }
def FnExactMissedAndFalseWrongFalsely : Prop := fnExactMissedAndFalseRow.holds Try.pinned (OpenSpec.ofChange fnExactMissedAndFalseWrong)

/-- 'laws.FnExactBestAlarm': WHATEVER THE INPUT: true; the input reads as it did. -/
def fnExactBestAlarmSpec : ChangeSpec := { name := "fnExactBestAlarm", fn := fun _ => fun
  | [d1, d2] => { results := [.lit (.bool true)], args := [d1, d2] }
  | _ => none }
def fnExactBestAlarmRow : OpenClaim := { program := "ytmbonkklfnhkdaa", sum := "111345da149fd6a81f151a2e7ffe8771b56dfa71bf658087df7b884231972241", func := "loop.example/g01032/laws.FnExactBestAlarm", spec := "fnExactBestAlarm", unfollowed := true, recurses := true, apart := false }
def FnExactBestAlarmSaid : Prop := fnExactBestAlarmRow.holds Try.pinned (OpenSpec.ofChange fnExactBestAlarmSpec)

/-- ITS FALSE NEIGHBOUR: 'it returns false'. Refute it at one input. -/
def fnExactBestAlarmWrong : ChangeSpec := { name := "fnExactBestAlarm", fn := fun _ => fun
  | [d1, d2] => { results := [.lit (.bool false)], args := [d1, d2] }
  | _ => none }
def FnExactBestAlarmWrongFalsely : Prop := fnExactBestAlarmRow.holds Try.pinned (OpenSpec.ofChange fnExactBestAlarmWrong)

/-- 'laws.FnExactWarningTime': WHATEVER THE INPUT: true; the input reads as it did. -/
def fnExactWarningTimeSpec : ChangeSpec := { name := "fnExactWarningTime", fn := fun _ => fun
  | [d1, d2, d3] => { results := [.lit (.bool true)], args := [d1, d2, d3] }
  | _ => none }
def fnExactWarningTimeRow : OpenClaim := { program := "ytmbonkklfnhkdaa", sum := "111345da149fd6a81f151a2e7ffe8771b56dfa71bf658087df7b884231972241", func := "loop.example/g01032/laws.FnExactWarningTime", spec := "fnExactWarningTime", unfollowed := true, recurses := true, apart := false }
def FnExactWarningTimeSaid : Prop := fnExactWarningTimeRow.holds Try.pinned (OpenSpec.ofChange fnExactWarningTimeSpec)

/-- ITS FALSE NEIGHBOUR: 'it returns false'. Refute it at one input. -/
def fnExactWarningTimeWrong : ChangeSpec := { name := "fnExactWarningTime", fn := fun _ => fun
  | [d1, d2, d3] => { results := [.lit (.bool false)], args := [d1, d2, d3] }
  | _ => none }
def FnExactWarningTimeWrongFalsely : Prop := fnExactWarningTimeRow.holds Try.pinned (OpenSpec.ofChange fnExactWarningTimeWrong)

/-- 'laws.FnExactShiftForecast': WHATEVER THE INPUT: true; the input reads as it did. -/
def fnExactShiftForecastSpec : ChangeSpec := { name := "fnExactShiftForecast", fn := fun _ => fun
  | [d1, d2, d3] => { results := [.lit (.bool true)], args := [d1, d2, d3] }
  | _ => none }
def fnExactShiftForecastRow : OpenClaim := { program := "ytmbonkklfnhkdaa", sum := "111345da149fd6a81f151a2e7ffe8771b56dfa71bf658087df7b884231972241", func := "loop.example/g01032/laws.FnExactShiftForecast", spec := "fnExactShiftForecast", unfollowed := true, recurses := true, apart := false }
def FnExactShiftForecastSaid : Prop := fnExactShiftForecastRow.holds Try.pinned (OpenSpec.ofChange fnExactShiftForecastSpec)

/-- ITS FALSE NEIGHBOUR: 'it returns false'. Refute it at one input. -/
def fnExactShiftForecastWrong : ChangeSpec := { name := "fnExactShiftForecast", fn := fun _ => fun
  | [d1, d2, d3] => { results := [.lit (.bool false)], args := [d1, d2, d3] }
  | _ => none }
def FnExactShiftForecastWrongFalsely : Prop := fnExactShiftForecastRow.holds Try.pinned (OpenSpec.ofChange fnExactShiftForecastWrong)

/-- 'laws.FnExactStageOfName': WHATEVER THE INPUT: true; the input reads as it did. -/
def fnExactStageOfNameSpec : ChangeSpec := { name := "fnExactStageOfName", fn := fun _ => fun
  | [d1, d2] => { results := [.lit (.bool true)], args := [d1, d2] }
  | _ => none }
def fnExactStageOfNameRow : OpenClaim := { program := "ytmbonkklfnhkdaa", sum := "111345da149fd6a81f151a2e7ffe8771b56dfa71bf658087df7b884231972241", func := "loop.example/g01032/laws.FnExactStageOfName", spec := "fnExactStageOfName", unfollowed := true, recurses := true, apart := false }
def FnExactStageOfNameSaid : Prop := fnExactStageOfNameRow.holds Try.pinned (OpenSpec.ofChange fnExactStageOfNameSpec)

/-- ITS FALSE NEIGHBOUR: 'it returns false'. Refute it at one input. -/
def fnExactStageOfNameWrong : ChangeSpec := { name := "fnExactStageOfName", fn := fun _ => fun
  | [d1, d2] => { results := [.lit (.bool false)], args := [d1, d2] }
  | _ => none }
def FnExactStageOfNameWrongFalsely : Prop := fnExactStageOfNameRow.holds Try.pinned (OpenSpec.ofChange fnExactStageOfNameWrong)

/- THE SECOND FORM. 'bulk': how many values and letters a reading holds, each counted each time it is reached (what is shared counts as often as it is met; a slice's spare places count too). A statement '..UptoSaid' is the law's where the arguments, and the package variables that the reading takes, are together of bulk at most 1048576: NARROWER than '..Said'. Prove '..Said' where nothing that the law and all that it calls make is longer than what came in: it says more and counts as full. Else prove '..UptoSaid'. A law counts once. -/
mutual
def uptoBulk {H : Type} : DataW H → Nat
  | .lit (.string bytes) => bytes.length + 1
  | .lit _ => 1
  | .nil => 1
  | .ptr d => uptoBulk d + 1
  | .slice elems spare => uptoBulkAll elems + uptoBulkAll spare + 1
  | .agg parts => uptoBulkAll parts + 1
  | .iface _ d => uptoBulk d + 1
  | .map entries => uptoBulkEntries entries + 1
  | .held _ => 1
def uptoBulkAll {H : Type} : List (DataW H) → Nat
  | [] => 0
  | d :: r => uptoBulk d + uptoBulkAll r
def uptoBulkEntries {H : Type} : List (Lit × DataW H) → Nat
  | [] => 0
  | x :: r => uptoBulkEntry x + uptoBulkEntries r
def uptoBulkEntry {H : Type} : Lit × DataW H → Nat
  | (.string bytes, d) => bytes.length + uptoBulk d + 1
  | (_, d) => uptoBulk d + 1
 end
def uptoSmall : (H : Type) → List (DataW H) → Bool := fun _ ds => decide (uptoBulkAll ds ≤ 1048576)
def OpenSpec.upto (s : _root_.Go.ChangeSpec) : _root_.Go.OpenSpec := { _root_.Go.OpenSpec.ofChange s with cond := some uptoSmall }

/-- 'laws.FnExactValidAlarms', WHERE WHAT IT READS IS OF BULK AT MOST 1048576: true; the input reads as it did. -/
def fnExactValidAlarmsUptoRow : OpenClaim := { program := "ytmbonkklfnhkdaa", sum := "111345da149fd6a81f151a2e7ffe8771b56dfa71bf658087df7b884231972241", func := "loop.example/g01032/laws.FnExactValidAlarms", spec := "fnExactValidAlarms", apart := false, narrowed := true }
def FnExactValidAlarmsUptoSaid : Prop := fnExactValidAlarmsUptoRow.holds Try.pinned (OpenSpec.upto fnExactValidAlarmsSpec)

/-- 'laws.FnExactErrorsOfForecast', WHERE WHAT IT READS IS OF BULK AT MOST 1048576: true; the input reads as it did. -/
def fnExactErrorsOfForecastUptoRow : OpenClaim := { program := "ytmbonkklfnhkdaa", sum := "111345da149fd6a81f151a2e7ffe8771b56dfa71bf658087df7b884231972241", func := "loop.example/g01032/laws.FnExactErrorsOfForecast", spec := "fnExactErrorsOfForecast", unfollowed := true, recurses := true, apart := false, narrowed := true }
def FnExactErrorsOfForecastUptoSaid : Prop := fnExactErrorsOfForecastUptoRow.holds Try.pinned (OpenSpec.upto fnExactErrorsOfForecastSpec)

/-- 'laws.FnExactAlarmOf', WHERE WHAT IT READS IS OF BULK AT MOST 1048576: true; the input reads as it did. -/
def fnExactAlarmOfUptoRow : OpenClaim := { program := "ytmbonkklfnhkdaa", sum := "111345da149fd6a81f151a2e7ffe8771b56dfa71bf658087df7b884231972241", func := "loop.example/g01032/laws.FnExactAlarmOf", spec := "fnExactAlarmOf", unfollowed := true, recurses := true, apart := false, narrowed := true }
def FnExactAlarmOfUptoSaid : Prop := fnExactAlarmOfUptoRow.holds Try.pinned (OpenSpec.upto fnExactAlarmOfSpec)

/-- 'laws.FnExactMissedAndFalse', WHERE WHAT IT READS IS OF BULK AT MOST 1048576: true; the input reads as it did. -/
def fnExactMissedAndFalseUptoRow : OpenClaim := { program := "ytmbonkklfnhkdaa", sum := "111345da149fd6a81f151a2e7ffe8771b56dfa71bf658087df7b884231972241", func := "loop.example/g01032/laws.FnExactMissedAndFalse", spec := "fnExactMissedAndFalse", unfollowed := true, recurses := true, apart := false, narrowed := true }
def FnExactMissedAndFalseUptoSaid : Prop := fnExactMissedAndFalseUptoRow.holds Try.pinned (OpenSpec.upto fnExactMissedAndFalseSpec)

/-- 'laws.FnExactBestAlarm', WHERE WHAT IT READS IS OF BULK AT MOST 1048576: true; the input reads as it did. -/
def fnExactBestAlarmUptoRow : OpenClaim := { program := "ytmbonkklfnhkdaa", sum := "111345da149fd6a81f151a2e7ffe8771b56dfa71bf658087df7b884231972241", func := "loop.example/g01032/laws.FnExactBestAlarm", spec := "fnExactBestAlarm", unfollowed := true, recurses := true, apart := false, narrowed := true }
def FnExactBestAlarmUptoSaid : Prop := fnExactBestAlarmUptoRow.holds Try.pinned (OpenSpec.upto fnExactBestAlarmSpec)

/-- 'laws.FnExactWarningTime', WHERE WHAT IT READS IS OF BULK AT MOST 1048576: true; the input reads as it did. -/
def fnExactWarningTimeUptoRow : OpenClaim := { program := "ytmbonkklfnhkdaa", sum := "111345da149fd6a81f151a2e7ffe8771b56dfa71bf658087df7b884231972241", func := "loop.example/g01032/laws.FnExactWarningTime", spec := "fnExactWarningTime", unfollowed := true, recurses := true, apart := false, narrowed := true }
def FnExactWarningTimeUptoSaid : Prop := fnExactWarningTimeUptoRow.holds Try.pinned (OpenSpec.upto fnExactWarningTimeSpec)

/-- 'laws.FnExactShiftForecast', WHERE WHAT IT READS IS OF BULK AT MOST 1048576: true; the input reads as it did. -/
def fnExactShiftForecastUptoRow : OpenClaim := { program := "ytmbonkklfnhkdaa", sum := "111345da149fd6a81f151a2e7ffe8771b56dfa71bf658087df7b884231972241", func := "loop.example/g01032/laws.FnExactShiftForecast", spec := "fnExactShiftForecast", unfollowed := true, recurses := true, apart := false, narrowed := true }
def FnExactShiftForecastUptoSaid : Prop := fnExactShiftForecastUptoRow.holds Try.pinned (OpenSpec.upto fnExactShiftForecastSpec)

/-- 'laws.FnExactStageOfName', WHERE WHAT IT READS IS OF BULK AT MOST 1048576: true; the input reads as it did. -/
def fnExactStageOfNameUptoRow : OpenClaim := { program := "ytmbonkklfnhkdaa", sum := "111345da149fd6a81f151a2e7ffe8771b56dfa71bf658087df7b884231972241", func := "loop.example/g01032/laws.FnExactStageOfName", spec := "fnExactStageOfName", unfollowed := true, recurses := true, apart := false, narrowed := true }
def FnExactStageOfNameUptoSaid : Prop := fnExactStageOfNameUptoRow.holds Try.pinned (OpenSpec.upto fnExactStageOfNameSpec)

end Rows
end Go.Proofs.Ytmbonkklfnhkdaa
