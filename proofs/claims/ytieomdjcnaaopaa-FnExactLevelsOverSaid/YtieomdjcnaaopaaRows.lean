/-
  No cell of these rows narrows 'for every input' (looked for: loops, veiled, ifaces, maps, wideKeys, modest, calm, conditions, laid).
  DERIVED. THE GIVEN ROWS OF THIS SEAT. 13 by the template 'for every input the law returns true; each argument reads behind the call as it read before'; 0 by the template 'total and deterministic' (their statements: YtieomdjcnaaopaaTotals.lean).
  GIVEN WITH THE SEED: the statements are not yours to turn. If you find one false, say at which input.
  Laid BY PROGRAM, IN A SANDBOX (cutbox-rows.mjs): the forced cells as the released guide's own fill.sh prints them over the translation 45c92a8140a8f991… (all of the seat's roots in one cut). By AI agents, Wed Nov 11 2026. No macro, syntax, notation, axiom, sorry.
-/
import Derived.Test.YtieomdjcnaaopaaChecked
import GoSem.Claim
import GoSem.ClaimJoined
import GoSem.ClaimMapViews
import Derived.JoinedTies
import Derived.KernelRfl
namespace Go.Proofs.Ytieomdjcnaaopaa
/- THE CELL 'sum', in the pinned program and in every row, IS THE sha256 OF THE DUMP (.gsa) THAT YtieomdjcnaaopaaProg.lean LOADS. Nothing in Lean hashes anything: it is a label: what it is worth is what the hold of that sum in a sandbox is worth. -/
noncomputable def Try.pinned : Pinned := { name := "ytieomdjcnaaopaa", sum := "45c92a8140a8f9919a1d8a828da515461f53a1fbd9edec1aec0fb2feb6cca641", checked := Try.checked }
namespace Rows
def none {H : Type} : Left H := { results := [], args := [] }

/-- 'laws.FnExactHeadOf': WHATEVER THE INPUT: true; the input reads as it did. -/
def fnExactHeadOfSpec : ChangeSpec := { name := "fnExactHeadOf", fn := fun _ => fun
  | [d1, d2, d3] => { results := [.lit (.bool true)], args := [d1, d2, d3] }
  | _ => none }
def fnExactHeadOfRow : OpenClaim := { program := "ytieomdjcnaaopaa", sum := "45c92a8140a8f9919a1d8a828da515461f53a1fbd9edec1aec0fb2feb6cca641", func := "loop.example/g01032/laws.FnExactHeadOf", spec := "fnExactHeadOf", unfollowed := true, recurses := true, apart := false }
def FnExactHeadOfSaid : Prop := fnExactHeadOfRow.holds Try.pinned (OpenSpec.ofChange fnExactHeadOfSpec)

/-- ITS FALSE NEIGHBOUR: 'it returns false'. Refute it at one input. -/
def fnExactHeadOfWrong : ChangeSpec := { name := "fnExactHeadOf", fn := fun _ => fun
  | [d1, d2, d3] => { results := [.lit (.bool false)], args := [d1, d2, d3] }
  | _ => none }
def FnExactHeadOfWrongFalsely : Prop := fnExactHeadOfRow.holds Try.pinned (OpenSpec.ofChange fnExactHeadOfWrong)

/-- 'laws.FnExactInflowOf': WHATEVER THE INPUT: true; the input reads as it did. -/
def fnExactInflowOfSpec : ChangeSpec := { name := "fnExactInflowOf", fn := fun _ => fun
  | [d1, d2, d3] => { results := [.lit (.bool true)], args := [d1, d2, d3] }
  | _ => none }
def fnExactInflowOfRow : OpenClaim := { program := "ytieomdjcnaaopaa", sum := "45c92a8140a8f9919a1d8a828da515461f53a1fbd9edec1aec0fb2feb6cca641", func := "loop.example/g01032/laws.FnExactInflowOf", spec := "fnExactInflowOf", unfollowed := true, recurses := true, apart := false }
def FnExactInflowOfSaid : Prop := fnExactInflowOfRow.holds Try.pinned (OpenSpec.ofChange fnExactInflowOfSpec)

/-- ITS FALSE NEIGHBOUR: 'it returns false'. Refute it at one input. -/
def fnExactInflowOfWrong : ChangeSpec := { name := "fnExactInflowOf", fn := fun _ => fun
  | [d1, d2, d3] => { results := [.lit (.bool false)], args := [d1, d2, d3] }
  | _ => none }
def FnExactInflowOfWrongFalsely : Prop := fnExactInflowOfRow.holds Try.pinned (OpenSpec.ofChange fnExactInflowOfWrong)

/-- 'laws.FnExactKeepsBelow': WHATEVER THE INPUT: true; the input reads as it did. -/
def fnExactKeepsBelowSpec : ChangeSpec := { name := "fnExactKeepsBelow", fn := fun _ => fun
  | [d1, d2, d3, d4, d5, d6] => { results := [.lit (.bool true)], args := [d1, d2, d3, d4, d5, d6] }
  | _ => none }
def fnExactKeepsBelowRow : OpenClaim := { program := "ytieomdjcnaaopaa", sum := "45c92a8140a8f9919a1d8a828da515461f53a1fbd9edec1aec0fb2feb6cca641", func := "loop.example/g01032/laws.FnExactKeepsBelow", spec := "fnExactKeepsBelow", unfollowed := true, recurses := true, apart := false }
def FnExactKeepsBelowSaid : Prop := fnExactKeepsBelowRow.holds Try.pinned (OpenSpec.ofChange fnExactKeepsBelowSpec)

/-- ITS FALSE NEIGHBOUR: 'it returns false'. Refute it at one input. -/
def fnExactKeepsBelowWrong : ChangeSpec := { name := "fnExactKeepsBelow", fn := fun _ => fun
  | [d1, d2, d3, d4, d5, d6] => { results := [.lit (.bool false)], args := [d1, d2, d3, d4, d5, d6] }
  | _ => none }
def FnExactKeepsBelowWrongFalsely : Prop := fnExactKeepsBelowRow.holds Try.pinned (OpenSpec.ofChange fnExactKeepsBelowWrong)

/-- 'laws.FnExactEnoughRate': WHATEVER THE INPUT: true; the input reads as it did. -/
def fnExactEnoughRateSpec : ChangeSpec := { name := "fnExactEnoughRate", fn := fun _ => fun
  | [d1, d2, d3, d4, d5, d6] => { results := [.lit (.bool true)], args := [d1, d2, d3, d4, d5, d6] }
  | _ => none }
def fnExactEnoughRateRow : OpenClaim := { program := "ytieomdjcnaaopaa", sum := "45c92a8140a8f9919a1d8a828da515461f53a1fbd9edec1aec0fb2feb6cca641", func := "loop.example/g01032/laws.FnExactEnoughRate", spec := "fnExactEnoughRate", unfollowed := true, recurses := true, apart := false }
def FnExactEnoughRateSaid : Prop := fnExactEnoughRateRow.holds Try.pinned (OpenSpec.ofChange fnExactEnoughRateSpec)

/-- ITS FALSE NEIGHBOUR: 'it returns false'. Refute it at one input. -/
def fnExactEnoughRateWrong : ChangeSpec := { name := "fnExactEnoughRate", fn := fun _ => fun
  | [d1, d2, d3, d4, d5, d6] => { results := [.lit (.bool false)], args := [d1, d2, d3, d4, d5, d6] }
  | _ => none }
def FnExactEnoughRateWrongFalsely : Prop := fnExactEnoughRateRow.holds Try.pinned (OpenSpec.ofChange fnExactEnoughRateWrong)

/-- 'laws.FnExactStepBreach': WHATEVER THE INPUT: true; the input reads as it did. -/
def fnExactStepBreachSpec : ChangeSpec := { name := "fnExactStepBreach", fn := fun _ => fun
  | [d1, d2, d3, d4] => { results := [.lit (.bool true)], args := [d1, d2, d3, d4] }
  | _ => none }
def fnExactStepBreachRow : OpenClaim := { program := "ytieomdjcnaaopaa", sum := "45c92a8140a8f9919a1d8a828da515461f53a1fbd9edec1aec0fb2feb6cca641", func := "loop.example/g01032/laws.FnExactStepBreach", spec := "fnExactStepBreach", unfollowed := true, recurses := true, apart := false }
def FnExactStepBreachSaid : Prop := fnExactStepBreachRow.holds Try.pinned (OpenSpec.ofChange fnExactStepBreachSpec)

/-- ITS FALSE NEIGHBOUR: 'it returns false'. Refute it at one input. -/
def fnExactStepBreachWrong : ChangeSpec := { name := "fnExactStepBreach", fn := fun _ => fun
  | [d1, d2, d3, d4] => { results := [.lit (.bool false)], args := [d1, d2, d3, d4] }
  | _ => none }
def FnExactStepBreachWrongFalsely : Prop := fnExactStepBreachRow.holds Try.pinned (OpenSpec.ofChange fnExactStepBreachWrong)

/-- 'laws.FnExactHoursToLevel': WHATEVER THE INPUT: true; the input reads as it did. -/
def fnExactHoursToLevelSpec : ChangeSpec := { name := "fnExactHoursToLevel", fn := fun _ => fun
  | [d1, d2, d3, d4] => { results := [.lit (.bool true)], args := [d1, d2, d3, d4] }
  | _ => none }
def fnExactHoursToLevelRow : OpenClaim := { program := "ytieomdjcnaaopaa", sum := "45c92a8140a8f9919a1d8a828da515461f53a1fbd9edec1aec0fb2feb6cca641", func := "loop.example/g01032/laws.FnExactHoursToLevel", spec := "fnExactHoursToLevel", unfollowed := true, recurses := true, apart := false }
def FnExactHoursToLevelSaid : Prop := fnExactHoursToLevelRow.holds Try.pinned (OpenSpec.ofChange fnExactHoursToLevelSpec)

/-- ITS FALSE NEIGHBOUR: 'it returns false'. Refute it at one input. -/
def fnExactHoursToLevelWrong : ChangeSpec := { name := "fnExactHoursToLevel", fn := fun _ => fun
  | [d1, d2, d3, d4] => { results := [.lit (.bool false)], args := [d1, d2, d3, d4] }
  | _ => none }
def FnExactHoursToLevelWrongFalsely : Prop := fnExactHoursToLevelRow.holds Try.pinned (OpenSpec.ofChange fnExactHoursToLevelWrong)

/-- 'laws.FnExactLeastStones': WHATEVER THE INPUT: true; the input reads as it did. -/
def fnExactLeastStonesSpec : ChangeSpec := { name := "fnExactLeastStones", fn := fun _ => fun
  | [d1, d2, d3, d4] => { results := [.lit (.bool true)], args := [d1, d2, d3, d4] }
  | _ => none }
def fnExactLeastStonesRow : OpenClaim := { program := "ytieomdjcnaaopaa", sum := "45c92a8140a8f9919a1d8a828da515461f53a1fbd9edec1aec0fb2feb6cca641", func := "loop.example/g01032/laws.FnExactLeastStones", spec := "fnExactLeastStones", unfollowed := true, recurses := true, apart := false }
def FnExactLeastStonesSaid : Prop := fnExactLeastStonesRow.holds Try.pinned (OpenSpec.ofChange fnExactLeastStonesSpec)

/-- ITS FALSE NEIGHBOUR: 'it returns false'. Refute it at one input. -/
def fnExactLeastStonesWrong : ChangeSpec := { name := "fnExactLeastStones", fn := fun _ => fun
  | [d1, d2, d3, d4] => { results := [.lit (.bool false)], args := [d1, d2, d3, d4] }
  | _ => none }
def FnExactLeastStonesWrongFalsely : Prop := fnExactLeastStonesRow.holds Try.pinned (OpenSpec.ofChange fnExactLeastStonesWrong)

/-- 'laws.FnExactLevelsOver': WHATEVER THE INPUT: true; the input reads as it did. -/
def fnExactLevelsOverSpec : ChangeSpec := { name := "fnExactLevelsOver", fn := fun _ => fun
  | [d1, d2, d3] => { results := [.lit (.bool true)], args := [d1, d2, d3] }
  | _ => none }
def fnExactLevelsOverRow : OpenClaim := { program := "ytieomdjcnaaopaa", sum := "45c92a8140a8f9919a1d8a828da515461f53a1fbd9edec1aec0fb2feb6cca641", func := "loop.example/g01032/laws.FnExactLevelsOver", spec := "fnExactLevelsOver", unfollowed := true, recurses := true, apart := false }
def FnExactLevelsOverSaid : Prop := fnExactLevelsOverRow.holds Try.pinned (OpenSpec.ofChange fnExactLevelsOverSpec)

/-- ITS FALSE NEIGHBOUR: 'it returns false'. Refute it at one input. -/
def fnExactLevelsOverWrong : ChangeSpec := { name := "fnExactLevelsOver", fn := fun _ => fun
  | [d1, d2, d3] => { results := [.lit (.bool false)], args := [d1, d2, d3] }
  | _ => none }
def FnExactLevelsOverWrongFalsely : Prop := fnExactLevelsOverRow.holds Try.pinned (OpenSpec.ofChange fnExactLevelsOverWrong)

/-- 'laws.FnExactRunControl': WHATEVER THE INPUT: true; the input reads as it did. -/
def fnExactRunControlSpec : ChangeSpec := { name := "fnExactRunControl", fn := fun _ => fun
  | [d1, d2, d3, d4, d5] => { results := [.lit (.bool true)], args := [d1, d2, d3, d4, d5] }
  | _ => none }
def fnExactRunControlRow : OpenClaim := { program := "ytieomdjcnaaopaa", sum := "45c92a8140a8f9919a1d8a828da515461f53a1fbd9edec1aec0fb2feb6cca641", func := "loop.example/g01032/laws.FnExactRunControl", spec := "fnExactRunControl", unfollowed := true, recurses := true, apart := false }
def FnExactRunControlSaid : Prop := fnExactRunControlRow.holds Try.pinned (OpenSpec.ofChange fnExactRunControlSpec)

/-- ITS FALSE NEIGHBOUR: 'it returns false'. Refute it at one input. -/
def fnExactRunControlWrong : ChangeSpec := { name := "fnExactRunControl", fn := fun _ => fun
  | [d1, d2, d3, d4, d5] => { results := [.lit (.bool false)], args := [d1, d2, d3, d4, d5] }
  | _ => none }
def FnExactRunControlWrongFalsely : Prop := fnExactRunControlRow.holds Try.pinned (OpenSpec.ofChange fnExactRunControlWrong)

/-- 'laws.FnExactHoursToClose': WHATEVER THE INPUT: true; the input reads as it did. -/
def fnExactHoursToCloseSpec : ChangeSpec := { name := "fnExactHoursToClose", fn := fun _ => fun
  | [d1, d2, d3, d4] => { results := [.lit (.bool true)], args := [d1, d2, d3, d4] }
  | _ => none }
def fnExactHoursToCloseRow : OpenClaim := { program := "ytieomdjcnaaopaa", sum := "45c92a8140a8f9919a1d8a828da515461f53a1fbd9edec1aec0fb2feb6cca641", func := "loop.example/g01032/laws.FnExactHoursToClose", spec := "fnExactHoursToClose", unfollowed := true, recurses := true, apart := false }
def FnExactHoursToCloseSaid : Prop := fnExactHoursToCloseRow.holds Try.pinned (OpenSpec.ofChange fnExactHoursToCloseSpec)

/-- ITS FALSE NEIGHBOUR: 'it returns false'. Refute it at one input. -/
def fnExactHoursToCloseWrong : ChangeSpec := { name := "fnExactHoursToClose", fn := fun _ => fun
  | [d1, d2, d3, d4] => { results := [.lit (.bool false)], args := [d1, d2, d3, d4] }
  | _ => none }
def FnExactHoursToCloseWrongFalsely : Prop := fnExactHoursToCloseRow.holds Try.pinned (OpenSpec.ofChange fnExactHoursToCloseWrong)

/-- 'laws.FnExactStonesNeeded': WHATEVER THE INPUT: true; the input reads as it did. -/
def fnExactStonesNeededSpec : ChangeSpec := { name := "fnExactStonesNeeded", fn := fun _ => fun
  | [d1, d2, d3, d4] => { results := [.lit (.bool true)], args := [d1, d2, d3, d4] }
  | _ => none }
def fnExactStonesNeededRow : OpenClaim := { program := "ytieomdjcnaaopaa", sum := "45c92a8140a8f9919a1d8a828da515461f53a1fbd9edec1aec0fb2feb6cca641", func := "loop.example/g01032/laws.FnExactStonesNeeded", spec := "fnExactStonesNeeded", unfollowed := true, recurses := true, apart := false }
def FnExactStonesNeededSaid : Prop := fnExactStonesNeededRow.holds Try.pinned (OpenSpec.ofChange fnExactStonesNeededSpec)

/-- ITS FALSE NEIGHBOUR: 'it returns false'. Refute it at one input. -/
def fnExactStonesNeededWrong : ChangeSpec := { name := "fnExactStonesNeeded", fn := fun _ => fun
  | [d1, d2, d3, d4] => { results := [.lit (.bool false)], args := [d1, d2, d3, d4] }
  | _ => none }
def FnExactStonesNeededWrongFalsely : Prop := fnExactStonesNeededRow.holds Try.pinned (OpenSpec.ofChange fnExactStonesNeededWrong)

/-- 'laws.FnExactFewestSwitches': WHATEVER THE INPUT: true; the input reads as it did. -/
def fnExactFewestSwitchesSpec : ChangeSpec := { name := "fnExactFewestSwitches", fn := fun _ => fun
  | [d1, d2, d3, d4, d5, d6] => { results := [.lit (.bool true)], args := [d1, d2, d3, d4, d5, d6] }
  | _ => none }
def fnExactFewestSwitchesRow : OpenClaim := { program := "ytieomdjcnaaopaa", sum := "45c92a8140a8f9919a1d8a828da515461f53a1fbd9edec1aec0fb2feb6cca641", func := "loop.example/g01032/laws.FnExactFewestSwitches", spec := "fnExactFewestSwitches", unfollowed := true, recurses := true, apart := false }
def FnExactFewestSwitchesSaid : Prop := fnExactFewestSwitchesRow.holds Try.pinned (OpenSpec.ofChange fnExactFewestSwitchesSpec)

/-- ITS FALSE NEIGHBOUR: 'it returns false'. Refute it at one input. -/
def fnExactFewestSwitchesWrong : ChangeSpec := { name := "fnExactFewestSwitches", fn := fun _ => fun
  | [d1, d2, d3, d4, d5, d6] => { results := [.lit (.bool false)], args := [d1, d2, d3, d4, d5, d6] }
  | _ => none }
def FnExactFewestSwitchesWrongFalsely : Prop := fnExactFewestSwitchesRow.holds Try.pinned (OpenSpec.ofChange fnExactFewestSwitchesWrong)

/-- 'laws.FnExactRunBreach': WHATEVER THE INPUT: true; the input reads as it did. -/
def fnExactRunBreachSpec : ChangeSpec := { name := "fnExactRunBreach", fn := fun _ => fun
  | [d1, d2, d3, d4] => { results := [.lit (.bool true)], args := [d1, d2, d3, d4] }
  | _ => none }
def fnExactRunBreachRow : OpenClaim := { program := "ytieomdjcnaaopaa", sum := "45c92a8140a8f9919a1d8a828da515461f53a1fbd9edec1aec0fb2feb6cca641", func := "loop.example/g01032/laws.FnExactRunBreach", spec := "fnExactRunBreach", unfollowed := true, recurses := true, apart := false }
def FnExactRunBreachSaid : Prop := fnExactRunBreachRow.holds Try.pinned (OpenSpec.ofChange fnExactRunBreachSpec)

/-- ITS FALSE NEIGHBOUR: 'it returns false'. Refute it at one input. -/
def fnExactRunBreachWrong : ChangeSpec := { name := "fnExactRunBreach", fn := fun _ => fun
  | [d1, d2, d3, d4] => { results := [.lit (.bool false)], args := [d1, d2, d3, d4] }
  | _ => none }
def FnExactRunBreachWrongFalsely : Prop := fnExactRunBreachRow.holds Try.pinned (OpenSpec.ofChange fnExactRunBreachWrong)

/- THE SECOND FORM. 'bulk': how many values and letters a reading holds, each counted each time it is reached (what is shared counts as often as it is met; a slice's spare places count too). A statement '..UptoSaid' is the law's where the arguments, and the package variables that the reading takes, are together of bulk at most 1048576: NARROWER than '..Said'. Prove '..Said' where nothing that the law and all that it calls make is longer than what came in: it says more and counts as full. Else prove '..UptoSaid'. A law counts once. -/
mutual
def uptoBulk {H : Type} : DataW H → Nat
  | .lit (.string bytes) => bytes.length + 1
  | .lit _ => 1
  | .nil => 1
  | .ptr d => uptoBulk d + 1
  | .slice elems spare => uptoBulkAll elems + uptoBulkAll spare + 1
  | .agg parts => uptoBulkAll parts + 1
  | .iface _ d => uptoBulk d + 1
  | .map entries => uptoBulkEntries entries + 1
  | .held _ => 1
def uptoBulkAll {H : Type} : List (DataW H) → Nat
  | [] => 0
  | d :: r => uptoBulk d + uptoBulkAll r
def uptoBulkEntries {H : Type} : List (Lit × DataW H) → Nat
  | [] => 0
  | x :: r => uptoBulkEntry x + uptoBulkEntries r
def uptoBulkEntry {H : Type} : Lit × DataW H → Nat
  | (.string bytes, d) => bytes.length + uptoBulk d + 1
  | (_, d) => uptoBulk d + 1
 end
def uptoSmall : (H : Type) → List (DataW H) → Bool := fun _ ds => decide (uptoBulkAll ds ≤ 1048576)
def OpenSpec.upto (s : _root_.Go.ChangeSpec) : _root_.Go.OpenSpec := { _root_.Go.OpenSpec.ofChange s with cond := some uptoSmall }

/-- 'laws.FnExactHeadOf', WHERE WHAT IT READS IS OF BULK AT MOST 1048576: true; the input reads as it did. -/
def fnExactHeadOfUptoRow : OpenClaim := { program := "ytieomdjcnaaopaa", sum := "45c92a8140a8f9919a1d8a828da515461f53a1fbd9edec1aec0fb2feb6cca641", func := "loop.example/g01032/laws.FnExactHeadOf", spec := "fnExactHeadOf", unfollowed := true, recurses := true, apart := false, narrowed := true }
def FnExactHeadOfUptoSaid : Prop := fnExactHeadOfUptoRow.holds Try.pinned (OpenSpec.upto fnExactHeadOfSpec)

/-- 'laws.FnExactInflowOf', WHERE WHAT IT READS IS OF BULK AT MOST 1048576: true; the input reads as it did. -/
def fnExactInflowOfUptoRow : OpenClaim := { program := "ytieomdjcnaaopaa", sum := "45c92a8140a8f9919a1d8a828da515461f53a1fbd9edec1aec0fb2feb6cca641", func := "loop.example/g01032/laws.FnExactInflowOf", spec := "fnExactInflowOf", unfollowed := true, recurses := true, apart := false, narrowed := true }
def FnExactInflowOfUptoSaid : Prop := fnExactInflowOfUptoRow.holds Try.pinned (OpenSpec.upto fnExactInflowOfSpec)

/-- 'laws.FnExactKeepsBelow', WHERE WHAT IT READS IS OF BULK AT MOST 1048576: true; the input reads as it did. -/
def fnExactKeepsBelowUptoRow : OpenClaim := { program := "ytieomdjcnaaopaa", sum := "45c92a8140a8f9919a1d8a828da515461f53a1fbd9edec1aec0fb2feb6cca641", func := "loop.example/g01032/laws.FnExactKeepsBelow", spec := "fnExactKeepsBelow", unfollowed := true, recurses := true, apart := false, narrowed := true }
def FnExactKeepsBelowUptoSaid : Prop := fnExactKeepsBelowUptoRow.holds Try.pinned (OpenSpec.upto fnExactKeepsBelowSpec)

/-- 'laws.FnExactEnoughRate', WHERE WHAT IT READS IS OF BULK AT MOST 1048576: true; the input reads as it did. -/
def fnExactEnoughRateUptoRow : OpenClaim := { program := "ytieomdjcnaaopaa", sum := "45c92a8140a8f9919a1d8a828da515461f53a1fbd9edec1aec0fb2feb6cca641", func := "loop.example/g01032/laws.FnExactEnoughRate", spec := "fnExactEnoughRate", unfollowed := true, recurses := true, apart := false, narrowed := true }
def FnExactEnoughRateUptoSaid : Prop := fnExactEnoughRateUptoRow.holds Try.pinned (OpenSpec.upto fnExactEnoughRateSpec)

/-- 'laws.FnExactStepBreach', WHERE WHAT IT READS IS OF BULK AT MOST 1048576: true; the input reads as it did. -/
def fnExactStepBreachUptoRow : OpenClaim := { program := "ytieomdjcnaaopaa", sum := "45c92a8140a8f9919a1d8a828da515461f53a1fbd9edec1aec0fb2feb6cca641", func := "loop.example/g01032/laws.FnExactStepBreach", spec := "fnExactStepBreach", unfollowed := true, recurses := true, apart := false, narrowed := true }
def FnExactStepBreachUptoSaid : Prop := fnExactStepBreachUptoRow.holds Try.pinned (OpenSpec.upto fnExactStepBreachSpec)

/-- 'laws.FnExactHoursToLevel', WHERE WHAT IT READS IS OF BULK AT MOST 1048576: true; the input reads as it did. -/
def fnExactHoursToLevelUptoRow : OpenClaim := { program := "ytieomdjcnaaopaa", sum := "45c92a8140a8f9919a1d8a828da515461f53a1fbd9edec1aec0fb2feb6cca641", func := "loop.example/g01032/laws.FnExactHoursToLevel", spec := "fnExactHoursToLevel", unfollowed := true, recurses := true, apart := false, narrowed := true }
def FnExactHoursToLevelUptoSaid : Prop := fnExactHoursToLevelUptoRow.holds Try.pinned (OpenSpec.upto fnExactHoursToLevelSpec)

/-- 'laws.FnExactLeastStones', WHERE WHAT IT READS IS OF BULK AT MOST 1048576: true; the input reads as it did. -/
def fnExactLeastStonesUptoRow : OpenClaim := { program := "ytieomdjcnaaopaa", sum := "45c92a8140a8f9919a1d8a828da515461f53a1fbd9edec1aec0fb2feb6cca641", func := "loop.example/g01032/laws.FnExactLeastStones", spec := "fnExactLeastStones", unfollowed := true, recurses := true, apart := false, narrowed := true }
def FnExactLeastStonesUptoSaid : Prop := fnExactLeastStonesUptoRow.holds Try.pinned (OpenSpec.upto fnExactLeastStonesSpec)

/-- 'laws.FnExactLevelsOver', WHERE WHAT IT READS IS OF BULK AT MOST 1048576: true; the input reads as it did. -/
def fnExactLevelsOverUptoRow : OpenClaim := { program := "ytieomdjcnaaopaa", sum := "45c92a8140a8f9919a1d8a828da515461f53a1fbd9edec1aec0fb2feb6cca641", func := "loop.example/g01032/laws.FnExactLevelsOver", spec := "fnExactLevelsOver", unfollowed := true, recurses := true, apart := false, narrowed := true }
def FnExactLevelsOverUptoSaid : Prop := fnExactLevelsOverUptoRow.holds Try.pinned (OpenSpec.upto fnExactLevelsOverSpec)

/-- 'laws.FnExactRunControl', WHERE WHAT IT READS IS OF BULK AT MOST 1048576: true; the input reads as it did. -/
def fnExactRunControlUptoRow : OpenClaim := { program := "ytieomdjcnaaopaa", sum := "45c92a8140a8f9919a1d8a828da515461f53a1fbd9edec1aec0fb2feb6cca641", func := "loop.example/g01032/laws.FnExactRunControl", spec := "fnExactRunControl", unfollowed := true, recurses := true, apart := false, narrowed := true }
def FnExactRunControlUptoSaid : Prop := fnExactRunControlUptoRow.holds Try.pinned (OpenSpec.upto fnExactRunControlSpec)

/-- 'laws.FnExactHoursToClose', WHERE WHAT IT READS IS OF BULK AT MOST 1048576: true; the input reads as it did. -/
def fnExactHoursToCloseUptoRow : OpenClaim := { program := "ytieomdjcnaaopaa", sum := "45c92a8140a8f9919a1d8a828da515461f53a1fbd9edec1aec0fb2feb6cca641", func := "loop.example/g01032/laws.FnExactHoursToClose", spec := "fnExactHoursToClose", unfollowed := true, recurses := true, apart := false, narrowed := true }
def FnExactHoursToCloseUptoSaid : Prop := fnExactHoursToCloseUptoRow.holds Try.pinned (OpenSpec.upto fnExactHoursToCloseSpec)

/-- 'laws.FnExactStonesNeeded', WHERE WHAT IT READS IS OF BULK AT MOST 1048576: true; the input reads as it did. -/
def fnExactStonesNeededUptoRow : OpenClaim := { program := "ytieomdjcnaaopaa", sum := "45c92a8140a8f9919a1d8a828da515461f53a1fbd9edec1aec0fb2feb6cca641", func := "loop.example/g01032/laws.FnExactStonesNeeded", spec := "fnExactStonesNeeded", unfollowed := true, recurses := true, apart := false, narrowed := true }
def FnExactStonesNeededUptoSaid : Prop := fnExactStonesNeededUptoRow.holds Try.pinned (OpenSpec.upto fnExactStonesNeededSpec)

/-- 'laws.FnExactFewestSwitches', WHERE WHAT IT READS IS OF BULK AT MOST 1048576: true; the input reads as it did. -/
def fnExactFewestSwitchesUptoRow : OpenClaim := { program := "ytieomdjcnaaopaa", sum := "45c92a8140a8f9919a1d8a828da515461f53a1fbd9edec1aec0fb2feb6cca641", func := "loop.example/g01032/laws.FnExactFewestSwitches", spec := "fnExactFewestSwitches", unfollowed := true, recurses := true, apart := false, narrowed := true }
def FnExactFewestSwitchesUptoSaid : Prop := fnExactFewestSwitchesUptoRow.holds Try.pinned (OpenSpec.upto fnExactFewestSwitchesSpec)

/-- 'laws.FnExactRunBreach', WHERE WHAT IT READS IS OF BULK AT MOST 1048576: true; the input reads as it did. -/
def fnExactRunBreachUptoRow : OpenClaim := { program := "ytieomdjcnaaopaa", sum := "45c92a8140a8f9919a1d8a828da515461f53a1fbd9edec1aec0fb2feb6cca641", func := "loop.example/g01032/laws.FnExactRunBreach", spec := "fnExactRunBreach", unfollowed := true, recurses := true, apart := false, narrowed := true }
def FnExactRunBreachUptoSaid : Prop := fnExactRunBreachUptoRow.holds Try.pinned (OpenSpec.upto fnExactRunBreachSpec)

end Rows
end Go.Proofs.Ytieomdjcnaaopaa
