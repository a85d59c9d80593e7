/-
  DERIVED. GIVEN WITH THE SEED: THE CARDS: each row of YtbbnjddgioaoeaaDoorRows.lean that lists a variable, with what it lists TIED to the program's text (the seventh form; the later family's looks); each row that meets fmt, with fmt's text TOLD by the authors' own Lean function (tested against real Go, not proved from fmt's source: count such statements apart). THE CARD IS WHAT COUNTS. Prove the row's statement (the work); the ties are given (YtbbnjddgioaoeaaDoorTie.lean); close each card by the builder's one call (the guide's Derived/Test/ToyasCard.lean, 'card_holds'). Laid BY PROGRAM, IN A SANDBOX (cutbox-door.mjs). By AI agents, Wed Nov 11 2026. No macro, syntax, notation, axiom, sorry.
-/
import Derived.Test.YtbbnjddgioaoeaaDoorRows
import GoSem.ClaimSeven
namespace Go.Proofs.YtbbnjddgioaoeaaDoor
namespace Rows

/-- THE TIED CARD OF 'laws.FnExactReadSwitch'. -/
def fnExactReadSwitchCard : Claim7 := { stood := { row := fnExactReadSwitchRow, standIns := [], harness := (true, "23ba353558c3ea2115805802efaa0a535ecb68e645978997ed1d0953e2078a53"), looks := true }, kinds := [], alts := [], laidByText := true, laidKinds := [.data, .data, .data, .sentinel, .sentinel], laidTests := true, laidLooks := .later }
def FnExactReadSwitchCardSaid : Prop := Claim7.holds Tryd.pinned (.plain (OpenSpec.ofChange fnExactReadSwitchSpec)) fnExactReadSwitchCard

/-- THE TIED CARD OF 'laws.FnExactReadWater'. -/
def fnExactReadWaterCard : Claim7 := { stood := { row := fnExactReadWaterRow, standIns := [], harness := (true, "23ba353558c3ea2115805802efaa0a535ecb68e645978997ed1d0953e2078a53"), looks := true }, kinds := [], alts := [], laidByText := true, laidKinds := [.data, .data, .data, .sentinel, .sentinel], laidTests := true, laidLooks := .later }
def FnExactReadWaterCardSaid : Prop := Claim7.holds Tryd.pinned (.plain (OpenSpec.ofChange fnExactReadWaterSpec)) fnExactReadWaterCard

/-- THE TIED CARD OF 'laws.FnExactReadBreach'. -/
def fnExactReadBreachCard : Claim7 := { stood := { row := fnExactReadBreachRow, standIns := [], harness := (true, "23ba353558c3ea2115805802efaa0a535ecb68e645978997ed1d0953e2078a53"), looks := true }, kinds := [], alts := [], laidByText := true, laidKinds := [.data, .data, .data, .data, .sentinel, .sentinel, .pinned], laidTests := true, laidLooks := .later }
def FnExactReadBreachCardSaid : Prop := Claim7.holds Tryd.pinned (.plain (OpenSpec.ofChange fnExactReadBreachSpec)) fnExactReadBreachCard

/-- THE TIED CARD OF 'laws.FnExactSwitchText'. -/
def fnExactSwitchTextCard : Claim7 := { stood := { row := fnExactSwitchTextRow, standIns := [], harness := (true, "23ba353558c3ea2115805802efaa0a535ecb68e645978997ed1d0953e2078a53"), looks := true }, kinds := [], alts := [], laidByText := true, laidKinds := [.data, .data, .data], laidTests := true, laidLooks := .later }
def FnExactSwitchTextCardSaid : Prop := Claim7.holds Tryd.pinned (.plain (OpenSpec.ofChange fnExactSwitchTextSpec)) fnExactSwitchTextCard

/-- THE TIED CARD OF 'laws.FnExactBreachText'. -/
def fnExactBreachTextCard : Claim7 := { stood := { row := fnExactBreachTextRow, standIns := [], harness := (true, "23ba353558c3ea2115805802efaa0a535ecb68e645978997ed1d0953e2078a53"), looks := true }, kinds := [], alts := [], laidByText := true, laidKinds := [.data, .data, .data], laidTests := true, laidLooks := .later }
def FnExactBreachTextCardSaid : Prop := Claim7.holds Tryd.pinned (.plain (OpenSpec.ofChange fnExactBreachTextSpec)) fnExactBreachTextCard

/-- THE TIED CARD OF 'laws.FnExactWaterText'. -/
def fnExactWaterTextCard : Claim7 := { stood := { row := fnExactWaterTextRow, standIns := [], harness := (true, "23ba353558c3ea2115805802efaa0a535ecb68e645978997ed1d0953e2078a53"), looks := true }, kinds := [], alts := [], laidByText := true, laidKinds := [.data, .data, .data], laidTests := true, laidLooks := .later }
def FnExactWaterTextCardSaid : Prop := Claim7.holds Tryd.pinned (.plain (OpenSpec.ofChange fnExactWaterTextSpec)) fnExactWaterTextCard

/-- THE TIED CARD OF 'laws.FnExactPlanText'. -/
def fnExactPlanTextCard : Claim7 := { stood := { row := fnExactPlanTextRow, standIns := [], harness := (true, "23ba353558c3ea2115805802efaa0a535ecb68e645978997ed1d0953e2078a53"), looks := true }, kinds := [], alts := [], laidByText := true, laidKinds := [.data, .data, .data], laidTests := true, laidLooks := .later }
def FnExactPlanTextCardSaid : Prop := Claim7.holds Tryd.pinned (.plain (OpenSpec.ofChange fnExactPlanTextSpec)) fnExactPlanTextCard

/-- THE SECOND FORM's CARD OF 'laws.FnExactReadSwitch'. -/
def fnExactReadSwitchUptoCard : Claim7 := { stood := { row := fnExactReadSwitchUptoRow, standIns := [], harness := (true, "23ba353558c3ea2115805802efaa0a535ecb68e645978997ed1d0953e2078a53"), looks := true }, kinds := [], alts := [], laidByText := true, laidKinds := [.data, .data, .data, .sentinel, .sentinel], laidTests := true, laidLooks := .later }
def FnExactReadSwitchUptoCardSaid : Prop := Claim7.holds Tryd.pinned (.plain (OpenSpec.upto fnExactReadSwitchSpec)) fnExactReadSwitchUptoCard

/-- THE SECOND FORM's CARD OF 'laws.FnExactReadWater'. -/
def fnExactReadWaterUptoCard : Claim7 := { stood := { row := fnExactReadWaterUptoRow, standIns := [], harness := (true, "23ba353558c3ea2115805802efaa0a535ecb68e645978997ed1d0953e2078a53"), looks := true }, kinds := [], alts := [], laidByText := true, laidKinds := [.data, .data, .data, .sentinel, .sentinel], laidTests := true, laidLooks := .later }
def FnExactReadWaterUptoCardSaid : Prop := Claim7.holds Tryd.pinned (.plain (OpenSpec.upto fnExactReadWaterSpec)) fnExactReadWaterUptoCard

/-- THE SECOND FORM's CARD OF 'laws.FnExactReadBreach'. -/
def fnExactReadBreachUptoCard : Claim7 := { stood := { row := fnExactReadBreachUptoRow, standIns := [], harness := (true, "23ba353558c3ea2115805802efaa0a535ecb68e645978997ed1d0953e2078a53"), looks := true }, kinds := [], alts := [], laidByText := true, laidKinds := [.data, .data, .data, .data, .sentinel, .sentinel, .pinned], laidTests := true, laidLooks := .later }
def FnExactReadBreachUptoCardSaid : Prop := Claim7.holds Tryd.pinned (.plain (OpenSpec.upto fnExactReadBreachSpec)) fnExactReadBreachUptoCard

/-- THE SECOND FORM's CARD OF 'laws.FnExactSwitchText'. -/
def fnExactSwitchTextUptoCard : Claim7 := { stood := { row := fnExactSwitchTextUptoRow, standIns := [], harness := (true, "23ba353558c3ea2115805802efaa0a535ecb68e645978997ed1d0953e2078a53"), looks := true }, kinds := [], alts := [], laidByText := true, laidKinds := [.data, .data, .data], laidTests := true, laidLooks := .later }
def FnExactSwitchTextUptoCardSaid : Prop := Claim7.holds Tryd.pinned (.plain (OpenSpec.upto fnExactSwitchTextSpec)) fnExactSwitchTextUptoCard

/-- THE SECOND FORM's CARD OF 'laws.FnExactBreachText'. -/
def fnExactBreachTextUptoCard : Claim7 := { stood := { row := fnExactBreachTextUptoRow, standIns := [], harness := (true, "23ba353558c3ea2115805802efaa0a535ecb68e645978997ed1d0953e2078a53"), looks := true }, kinds := [], alts := [], laidByText := true, laidKinds := [.data, .data, .data], laidTests := true, laidLooks := .later }
def FnExactBreachTextUptoCardSaid : Prop := Claim7.holds Tryd.pinned (.plain (OpenSpec.upto fnExactBreachTextSpec)) fnExactBreachTextUptoCard

/-- THE SECOND FORM's CARD OF 'laws.FnExactWaterText'. -/
def fnExactWaterTextUptoCard : Claim7 := { stood := { row := fnExactWaterTextUptoRow, standIns := [], harness := (true, "23ba353558c3ea2115805802efaa0a535ecb68e645978997ed1d0953e2078a53"), looks := true }, kinds := [], alts := [], laidByText := true, laidKinds := [.data, .data, .data], laidTests := true, laidLooks := .later }
def FnExactWaterTextUptoCardSaid : Prop := Claim7.holds Tryd.pinned (.plain (OpenSpec.upto fnExactWaterTextSpec)) fnExactWaterTextUptoCard

/-- THE SECOND FORM's CARD OF 'laws.FnExactPlanText'. -/
def fnExactPlanTextUptoCard : Claim7 := { stood := { row := fnExactPlanTextUptoRow, standIns := [], harness := (true, "23ba353558c3ea2115805802efaa0a535ecb68e645978997ed1d0953e2078a53"), looks := true }, kinds := [], alts := [], laidByText := true, laidKinds := [.data, .data, .data], laidTests := true, laidLooks := .later }
def FnExactPlanTextUptoCardSaid : Prop := Claim7.holds Tryd.pinned (.plain (OpenSpec.upto fnExactPlanTextSpec)) fnExactPlanTextUptoCard
end Rows
end Go.Proofs.YtbbnjddgioaoeaaDoor
