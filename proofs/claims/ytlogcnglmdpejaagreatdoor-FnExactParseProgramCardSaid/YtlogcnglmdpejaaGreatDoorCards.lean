/-
  DERIVED. GIVEN WITH THE SEED: THE CARDS: each row of YtlogcnglmdpejaaGreatDoorRows.lean that lists a variable, with what it lists TIED to the program's text (the seventh form; the later family's looks); each row that meets fmt, with fmt's text TOLD by the authors' own Lean function (tested against real Go, not proved from fmt's source: count such statements apart). THE CARD IS WHAT COUNTS. Prove the row's statement (the work); the ties are given (YtlogcnglmdpejaaGreatDoorTie.lean); close each card by the builder's one call (the guide's Derived/Test/ToyasCard.lean, 'card_holds'). Laid BY PROGRAM, IN A SANDBOX (cutbox-door.mjs). By AI agents, Wed Nov 11 2026. No macro, syntax, notation, axiom, sorry.
-/
import Derived.Test.YtlogcnglmdpejaaGreatDoorRows
import GoSem.ClaimSeven
namespace Go.Proofs.YtlogcnglmdpejaaGreatDoor
namespace Rows

/-- THE TIED CARD OF 'laws.FnExactVariablesOf'. -/
def fnExactVariablesOfCard : Claim7 := { stood := { row := fnExactVariablesOfRow, standIns := [], harness := (true, "8fcd40409e1b7574f8117d5b9f3990381a489224ff5c9ffb5619914174200cbf"), looks := true }, kinds := [], alts := [], laidByText := true, laidKinds := [.data, .data, .data, .sentinel, .sentinel], laidTests := true, laidLooks := .later }
def FnExactVariablesOfCardSaid : Prop := Claim7.holds Tryz.pinned (.plain (OpenSpec.ofChange fnExactVariablesOfSpec)) fnExactVariablesOfCard

/-- THE TIED CARD OF 'laws.FnExactProgramText'. -/
def fnExactProgramTextCard : Claim7 := { stood := { row := fnExactProgramTextRow, standIns := [], harness := (true, "8fcd40409e1b7574f8117d5b9f3990381a489224ff5c9ffb5619914174200cbf"), looks := true }, kinds := [], alts := [], laidByText := true, laidKinds := [.data, .data, .data, .sentinel, .sentinel], laidTests := true, laidLooks := .later }
def FnExactProgramTextCardSaid : Prop := Claim7.holds Tryz.pinned (.plain (OpenSpec.ofChange fnExactProgramTextSpec)) fnExactProgramTextCard

/-- THE TIED CARD OF 'laws.FnExactParseProgram'. -/
def fnExactParseProgramCard : Claim7 := { stood := { row := fnExactParseProgramRow, standIns := [], harness := (true, "8fcd40409e1b7574f8117d5b9f3990381a489224ff5c9ffb5619914174200cbf"), looks := true }, kinds := [], alts := [], laidByText := true, laidKinds := [.data, .data, .data, .data, .sentinel, .sentinel, .pinned], laidTests := true, laidLooks := .later }
def FnExactParseProgramCardSaid : Prop := Claim7.holds Tryz.pinned (.plain (OpenSpec.ofChange fnExactParseProgramSpec)) fnExactParseProgramCard

/-- THE TIED CARD OF 'laws.FnExactIsServer'. -/
def fnExactIsServerCard : Claim7 := { stood := { row := fnExactIsServerRow, standIns := [], harness := (true, "8fcd40409e1b7574f8117d5b9f3990381a489224ff5c9ffb5619914174200cbf"), looks := true }, kinds := [], alts := [], laidByText := true, laidKinds := [.data, .data, .data, .sentinel, .sentinel], laidTests := true, laidLooks := .later }
def FnExactIsServerCardSaid : Prop := Claim7.holds Tryz.pinned (.plain (OpenSpec.ofChange fnExactIsServerSpec)) fnExactIsServerCard

/-- THE TIED CARD OF 'laws.FnExactRunExact'. -/
def fnExactRunExactCard : Claim7 := { stood := { row := fnExactRunExactRow, standIns := [], harness := (true, "8fcd40409e1b7574f8117d5b9f3990381a489224ff5c9ffb5619914174200cbf"), looks := true }, kinds := [], alts := [], laidByText := true, laidKinds := [.data, .data, .data, .sentinel, .sentinel], laidTests := true, laidLooks := .later }
def FnExactRunExactCardSaid : Prop := Claim7.holds Tryz.pinned (.plain (OpenSpec.ofChange fnExactRunExactSpec)) fnExactRunExactCard

/-- THE TIED CARD OF 'laws.FnExactRunPair'. -/
def fnExactRunPairCard : Claim7 := { stood := { row := fnExactRunPairRow, standIns := [], harness := (true, "8fcd40409e1b7574f8117d5b9f3990381a489224ff5c9ffb5619914174200cbf"), looks := true }, kinds := [], alts := [], laidByText := true, laidKinds := [.data, .data, .data, .sentinel, .sentinel], laidTests := true, laidLooks := .later }
def FnExactRunPairCardSaid : Prop := Claim7.holds Tryz.pinned (.plain (OpenSpec.ofChange fnExactRunPairSpec)) fnExactRunPairCard

/-- THE TIED CARD OF 'laws.FnProgramTexts'. -/
def fnProgramTextsCard : Claim7 := { stood := { row := fnProgramTextsRow, standIns := [], harness := (true, "8fcd40409e1b7574f8117d5b9f3990381a489224ff5c9ffb5619914174200cbf"), looks := true }, kinds := [], alts := [], laidByText := true, laidKinds := [.data, .data, .data, .data, .sentinel, .sentinel, .pinned], laidTests := true, laidLooks := .later }
def FnProgramTextsCardSaid : Prop := Claim7.holds Tryz.pinned (.plain (OpenSpec.ofChange fnProgramTextsSpec)) fnProgramTextsCard

/-- THE SECOND FORM's CARD OF 'laws.FnExactVariablesOf'. -/
def fnExactVariablesOfUptoCard : Claim7 := { stood := { row := fnExactVariablesOfUptoRow, standIns := [], harness := (true, "8fcd40409e1b7574f8117d5b9f3990381a489224ff5c9ffb5619914174200cbf"), looks := true }, kinds := [], alts := [], laidByText := true, laidKinds := [.data, .data, .data, .sentinel, .sentinel], laidTests := true, laidLooks := .later }
def FnExactVariablesOfUptoCardSaid : Prop := Claim7.holds Tryz.pinned (.plain (OpenSpec.upto fnExactVariablesOfSpec)) fnExactVariablesOfUptoCard

/-- THE SECOND FORM's CARD OF 'laws.FnExactProgramText'. -/
def fnExactProgramTextUptoCard : Claim7 := { stood := { row := fnExactProgramTextUptoRow, standIns := [], harness := (true, "8fcd40409e1b7574f8117d5b9f3990381a489224ff5c9ffb5619914174200cbf"), looks := true }, kinds := [], alts := [], laidByText := true, laidKinds := [.data, .data, .data, .sentinel, .sentinel], laidTests := true, laidLooks := .later }
def FnExactProgramTextUptoCardSaid : Prop := Claim7.holds Tryz.pinned (.plain (OpenSpec.upto fnExactProgramTextSpec)) fnExactProgramTextUptoCard

/-- THE SECOND FORM's CARD OF 'laws.FnExactParseProgram'. -/
def fnExactParseProgramUptoCard : Claim7 := { stood := { row := fnExactParseProgramUptoRow, standIns := [], harness := (true, "8fcd40409e1b7574f8117d5b9f3990381a489224ff5c9ffb5619914174200cbf"), looks := true }, kinds := [], alts := [], laidByText := true, laidKinds := [.data, .data, .data, .data, .sentinel, .sentinel, .pinned], laidTests := true, laidLooks := .later }
def FnExactParseProgramUptoCardSaid : Prop := Claim7.holds Tryz.pinned (.plain (OpenSpec.upto fnExactParseProgramSpec)) fnExactParseProgramUptoCard

/-- THE SECOND FORM's CARD OF 'laws.FnExactIsServer'. -/
def fnExactIsServerUptoCard : Claim7 := { stood := { row := fnExactIsServerUptoRow, standIns := [], harness := (true, "8fcd40409e1b7574f8117d5b9f3990381a489224ff5c9ffb5619914174200cbf"), looks := true }, kinds := [], alts := [], laidByText := true, laidKinds := [.data, .data, .data, .sentinel, .sentinel], laidTests := true, laidLooks := .later }
def FnExactIsServerUptoCardSaid : Prop := Claim7.holds Tryz.pinned (.plain (OpenSpec.upto fnExactIsServerSpec)) fnExactIsServerUptoCard

/-- THE SECOND FORM's CARD OF 'laws.FnExactRunExact'. -/
def fnExactRunExactUptoCard : Claim7 := { stood := { row := fnExactRunExactUptoRow, standIns := [], harness := (true, "8fcd40409e1b7574f8117d5b9f3990381a489224ff5c9ffb5619914174200cbf"), looks := true }, kinds := [], alts := [], laidByText := true, laidKinds := [.data, .data, .data, .sentinel, .sentinel], laidTests := true, laidLooks := .later }
def FnExactRunExactUptoCardSaid : Prop := Claim7.holds Tryz.pinned (.plain (OpenSpec.upto fnExactRunExactSpec)) fnExactRunExactUptoCard

/-- THE SECOND FORM's CARD OF 'laws.FnExactRunPair'. -/
def fnExactRunPairUptoCard : Claim7 := { stood := { row := fnExactRunPairUptoRow, standIns := [], harness := (true, "8fcd40409e1b7574f8117d5b9f3990381a489224ff5c9ffb5619914174200cbf"), looks := true }, kinds := [], alts := [], laidByText := true, laidKinds := [.data, .data, .data, .sentinel, .sentinel], laidTests := true, laidLooks := .later }
def FnExactRunPairUptoCardSaid : Prop := Claim7.holds Tryz.pinned (.plain (OpenSpec.upto fnExactRunPairSpec)) fnExactRunPairUptoCard

/-- THE SECOND FORM's CARD OF 'laws.FnProgramTexts'. -/
def fnProgramTextsUptoCard : Claim7 := { stood := { row := fnProgramTextsUptoRow, standIns := [], harness := (true, "8fcd40409e1b7574f8117d5b9f3990381a489224ff5c9ffb5619914174200cbf"), looks := true }, kinds := [], alts := [], laidByText := true, laidKinds := [.data, .data, .data, .data, .sentinel, .sentinel, .pinned], laidTests := true, laidLooks := .later }
def FnProgramTextsUptoCardSaid : Prop := Claim7.holds Tryz.pinned (.plain (OpenSpec.upto fnProgramTextsSpec)) fnProgramTextsUptoCard
end Rows
end Go.Proofs.YtlogcnglmdpejaaGreatDoor
