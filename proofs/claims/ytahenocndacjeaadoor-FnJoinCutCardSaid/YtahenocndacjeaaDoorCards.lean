/-
  DERIVED. GIVEN WITH THE SEED: THE CARDS: each row of YtahenocndacjeaaDoorRows.lean that lists a variable, with what it lists TIED to the program's text (the seventh form; the later family's looks); each row that meets fmt, with fmt's text TOLD by the authors' own Lean function (tested against real Go, not proved from fmt's source: count such statements apart). THE CARD IS WHAT COUNTS. Prove the row's statement (the work); the ties are given (YtahenocndacjeaaDoorTie.lean); close each card by the builder's one call (the guide's Derived/Test/ToyasCard.lean, 'card_holds'). Laid BY PROGRAM, IN A SANDBOX (cutbox-door.mjs). By AI agents, Wed Nov 11 2026. No macro, syntax, notation, axiom, sorry.
-/
import Derived.Test.YtahenocndacjeaaDoorRows
import GoSem.ClaimSeven
namespace Go.Proofs.YtahenocndacjeaaDoor
namespace Rows

/-- THE TIED CARD OF 'laws.FnCut'. -/
def fnCutCard : Claim7 := { stood := { row := fnCutRow, standIns := [], harness := (true, "dba9739cc882f5d8879bb2c64de6007db1b45042d3c3631de14440e6cc2a767b"), looks := true }, kinds := [], alts := [], laidByText := true, laidKinds := [.sentinel], laidTests := true, laidLooks := .later }
def FnCutCardSaid : Prop := Claim7.holds Tryd.pinned (.plain (OpenSpec.ofChange fnCutSpec)) fnCutCard

/-- THE TIED CARD OF 'laws.FnCutJoin'. -/
def fnCutJoinCard : Claim7 := { stood := { row := fnCutJoinRow, standIns := [], harness := (true, "dba9739cc882f5d8879bb2c64de6007db1b45042d3c3631de14440e6cc2a767b"), looks := true }, kinds := [], alts := [], laidByText := true, laidKinds := [.sentinel, .sentinel], laidTests := true, laidLooks := .later }
def FnCutJoinCardSaid : Prop := Claim7.holds Tryd.pinned (.plain (OpenSpec.ofChange fnCutJoinSpec)) fnCutJoinCard

/-- THE TIED CARD OF 'laws.FnJoinCut'. -/
def fnJoinCutCard : Claim7 := { stood := { row := fnJoinCutRow, standIns := [], harness := (true, "dba9739cc882f5d8879bb2c64de6007db1b45042d3c3631de14440e6cc2a767b"), looks := true }, kinds := [], alts := [], laidByText := true, laidKinds := [.sentinel, .sentinel], laidTests := true, laidLooks := .later }
def FnJoinCutCardSaid : Prop := Claim7.holds Tryd.pinned (.plain (OpenSpec.ofChange fnJoinCutSpec)) fnJoinCutCard

/-- THE TIED CARD OF 'laws.FnExactBatchCut'. -/
def fnExactBatchCutCard : Claim7 := { stood := { row := fnExactBatchCutRow, standIns := [], harness := (true, "dba9739cc882f5d8879bb2c64de6007db1b45042d3c3631de14440e6cc2a767b"), looks := true }, kinds := [], alts := [], laidByText := true, laidKinds := [.sentinel], laidTests := true, laidLooks := .later }
def FnExactBatchCutCardSaid : Prop := Claim7.holds Tryd.pinned (.plain (OpenSpec.ofChange fnExactBatchCutSpec)) fnExactBatchCutCard

/-- THE TIED CARD OF 'laws.FnExactBatchJoin'. -/
def fnExactBatchJoinCard : Claim7 := { stood := { row := fnExactBatchJoinRow, standIns := [], harness := (true, "dba9739cc882f5d8879bb2c64de6007db1b45042d3c3631de14440e6cc2a767b"), looks := true }, kinds := [], alts := [], laidByText := true, laidKinds := [.sentinel], laidTests := true, laidLooks := .later }
def FnExactBatchJoinCardSaid : Prop := Claim7.holds Tryd.pinned (.plain (OpenSpec.ofChange fnExactBatchJoinSpec)) fnExactBatchJoinCard

/-- THE SECOND FORM's CARD OF 'laws.FnCut'. -/
def fnCutUptoCard : Claim7 := { stood := { row := fnCutUptoRow, standIns := [], harness := (true, "dba9739cc882f5d8879bb2c64de6007db1b45042d3c3631de14440e6cc2a767b"), looks := true }, kinds := [], alts := [], laidByText := true, laidKinds := [.sentinel], laidTests := true, laidLooks := .later }
def FnCutUptoCardSaid : Prop := Claim7.holds Tryd.pinned (.plain (OpenSpec.upto fnCutSpec)) fnCutUptoCard

/-- THE SECOND FORM's CARD OF 'laws.FnCutJoin'. -/
def fnCutJoinUptoCard : Claim7 := { stood := { row := fnCutJoinUptoRow, standIns := [], harness := (true, "dba9739cc882f5d8879bb2c64de6007db1b45042d3c3631de14440e6cc2a767b"), looks := true }, kinds := [], alts := [], laidByText := true, laidKinds := [.sentinel, .sentinel], laidTests := true, laidLooks := .later }
def FnCutJoinUptoCardSaid : Prop := Claim7.holds Tryd.pinned (.plain (OpenSpec.upto fnCutJoinSpec)) fnCutJoinUptoCard

/-- THE SECOND FORM's CARD OF 'laws.FnJoinCut'. -/
def fnJoinCutUptoCard : Claim7 := { stood := { row := fnJoinCutUptoRow, standIns := [], harness := (true, "dba9739cc882f5d8879bb2c64de6007db1b45042d3c3631de14440e6cc2a767b"), looks := true }, kinds := [], alts := [], laidByText := true, laidKinds := [.sentinel, .sentinel], laidTests := true, laidLooks := .later }
def FnJoinCutUptoCardSaid : Prop := Claim7.holds Tryd.pinned (.plain (OpenSpec.upto fnJoinCutSpec)) fnJoinCutUptoCard

/-- THE SECOND FORM's CARD OF 'laws.FnExactBatchCut'. -/
def fnExactBatchCutUptoCard : Claim7 := { stood := { row := fnExactBatchCutUptoRow, standIns := [], harness := (true, "dba9739cc882f5d8879bb2c64de6007db1b45042d3c3631de14440e6cc2a767b"), looks := true }, kinds := [], alts := [], laidByText := true, laidKinds := [.sentinel], laidTests := true, laidLooks := .later }
def FnExactBatchCutUptoCardSaid : Prop := Claim7.holds Tryd.pinned (.plain (OpenSpec.upto fnExactBatchCutSpec)) fnExactBatchCutUptoCard

/-- THE SECOND FORM's CARD OF 'laws.FnExactBatchJoin'. -/
def fnExactBatchJoinUptoCard : Claim7 := { stood := { row := fnExactBatchJoinUptoRow, standIns := [], harness := (true, "dba9739cc882f5d8879bb2c64de6007db1b45042d3c3631de14440e6cc2a767b"), looks := true }, kinds := [], alts := [], laidByText := true, laidKinds := [.sentinel], laidTests := true, laidLooks := .later }
def FnExactBatchJoinUptoCardSaid : Prop := Claim7.holds Tryd.pinned (.plain (OpenSpec.upto fnExactBatchJoinSpec)) fnExactBatchJoinUptoCard
end Rows
end Go.Proofs.YtahenocndacjeaaDoor
