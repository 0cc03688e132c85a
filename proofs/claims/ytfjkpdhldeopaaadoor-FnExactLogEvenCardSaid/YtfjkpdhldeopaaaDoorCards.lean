/-
  DERIVED. GIVEN WITH THE SEED: THE CARDS: each row of YtfjkpdhldeopaaaDoorRows.lean that lists a variable, with what it lists TIED to the program's text (the seventh form; the later family's looks); each row that meets fmt, with fmt's text TOLD by the authors' own Lean function (tested against real Go, not proved from fmt's source: count such statements apart). THE CARD IS WHAT COUNTS. Prove the row's statement (the work); the ties are given (YtfjkpdhldeopaaaDoorTie.lean); close each card by the builder's one call (the guide's Derived/Test/ToyasCard.lean, 'card_holds'). Laid BY PROGRAM, IN A SANDBOX (cutbox-door.mjs). By AI agents, Wed Nov 11 2026. No macro, syntax, notation, axiom, sorry.
-/
import Derived.Test.YtfjkpdhldeopaaaDoorRows
import GoSem.ClaimSeven
namespace Go.Proofs.YtfjkpdhldeopaaaDoor
namespace Rows

/-- THE TIED CARD OF 'laws.FnExactBatchJoin'. -/
def fnExactBatchJoinCard : Claim7 := { stood := { row := fnExactBatchJoinRow, standIns := [], harness := (true, "b61f1c08241aa9639d9ab7dbd627422c50556f76b0fa2dd21839bf8d79a0296e"), looks := true }, kinds := [], alts := [], laidByText := true, laidKinds := [.sentinel], laidTests := true, laidLooks := .later }
def FnExactBatchJoinCardSaid : Prop := Claim7.holds Tryd.pinned (.plain (OpenSpec.ofChange fnExactBatchJoinSpec)) fnExactBatchJoinCard

/-- THE TIED CARD OF 'laws.FnExactBatchCut'. -/
def fnExactBatchCutCard : Claim7 := { stood := { row := fnExactBatchCutRow, standIns := [], harness := (true, "b61f1c08241aa9639d9ab7dbd627422c50556f76b0fa2dd21839bf8d79a0296e"), looks := true }, kinds := [], alts := [], laidByText := true, laidKinds := [.sentinel], laidTests := true, laidLooks := .later }
def FnExactBatchCutCardSaid : Prop := Claim7.holds Tryd.pinned (.plain (OpenSpec.ofChange fnExactBatchCutSpec)) fnExactBatchCutCard

/-- THE TIED CARD OF 'laws.FnExactLogCut'. -/
def fnExactLogCutCard : Claim7 := { stood := { row := fnExactLogCutRow, standIns := [], harness := (true, "b61f1c08241aa9639d9ab7dbd627422c50556f76b0fa2dd21839bf8d79a0296e"), looks := true }, kinds := [], alts := [], laidByText := true, laidKinds := [.sentinel], laidTests := true, laidLooks := .later }
def FnExactLogCutCardSaid : Prop := Claim7.holds Tryd.pinned (.plain (OpenSpec.ofChange fnExactLogCutSpec)) fnExactLogCutCard

/-- THE TIED CARD OF 'laws.FnExactLogEven'. -/
def fnExactLogEvenCard : Claim7 := { stood := { row := fnExactLogEvenRow, standIns := [], harness := (true, "b61f1c08241aa9639d9ab7dbd627422c50556f76b0fa2dd21839bf8d79a0296e"), looks := true }, kinds := [], alts := [], laidByText := true, laidKinds := [.sentinel], laidTests := true, laidLooks := .later }
def FnExactLogEvenCardSaid : Prop := Claim7.holds Tryd.pinned (.plain (OpenSpec.ofChange fnExactLogEvenSpec)) fnExactLogEvenCard

/-- THE SECOND FORM's CARD OF 'laws.FnExactBatchJoin'. -/
def fnExactBatchJoinUptoCard : Claim7 := { stood := { row := fnExactBatchJoinUptoRow, standIns := [], harness := (true, "b61f1c08241aa9639d9ab7dbd627422c50556f76b0fa2dd21839bf8d79a0296e"), looks := true }, kinds := [], alts := [], laidByText := true, laidKinds := [.sentinel], laidTests := true, laidLooks := .later }
def FnExactBatchJoinUptoCardSaid : Prop := Claim7.holds Tryd.pinned (.plain (OpenSpec.upto fnExactBatchJoinSpec)) fnExactBatchJoinUptoCard

/-- THE SECOND FORM's CARD OF 'laws.FnExactBatchCut'. -/
def fnExactBatchCutUptoCard : Claim7 := { stood := { row := fnExactBatchCutUptoRow, standIns := [], harness := (true, "b61f1c08241aa9639d9ab7dbd627422c50556f76b0fa2dd21839bf8d79a0296e"), looks := true }, kinds := [], alts := [], laidByText := true, laidKinds := [.sentinel], laidTests := true, laidLooks := .later }
def FnExactBatchCutUptoCardSaid : Prop := Claim7.holds Tryd.pinned (.plain (OpenSpec.upto fnExactBatchCutSpec)) fnExactBatchCutUptoCard

/-- THE SECOND FORM's CARD OF 'laws.FnExactLogCut'. -/
def fnExactLogCutUptoCard : Claim7 := { stood := { row := fnExactLogCutUptoRow, standIns := [], harness := (true, "b61f1c08241aa9639d9ab7dbd627422c50556f76b0fa2dd21839bf8d79a0296e"), looks := true }, kinds := [], alts := [], laidByText := true, laidKinds := [.sentinel], laidTests := true, laidLooks := .later }
def FnExactLogCutUptoCardSaid : Prop := Claim7.holds Tryd.pinned (.plain (OpenSpec.upto fnExactLogCutSpec)) fnExactLogCutUptoCard

/-- THE SECOND FORM's CARD OF 'laws.FnExactLogEven'. -/
def fnExactLogEvenUptoCard : Claim7 := { stood := { row := fnExactLogEvenUptoRow, standIns := [], harness := (true, "b61f1c08241aa9639d9ab7dbd627422c50556f76b0fa2dd21839bf8d79a0296e"), looks := true }, kinds := [], alts := [], laidByText := true, laidKinds := [.sentinel], laidTests := true, laidLooks := .later }
def FnExactLogEvenUptoCardSaid : Prop := Claim7.holds Tryd.pinned (.plain (OpenSpec.upto fnExactLogEvenSpec)) fnExactLogEvenUptoCard
end Rows
end Go.Proofs.YtfjkpdhldeopaaaDoor
