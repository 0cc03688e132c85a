/-
  DERIVED. GIVEN WITH THE SEED: THE CARDS: each row of YteoicjlhkaljbaaDoorRows.lean that lists a variable, with what it lists TIED to the program's text (the seventh form; the later family's looks); each row that meets fmt, with fmt's text TOLD by the authors' own Lean function (tested against real Go, not proved from fmt's source: count such statements apart). THE CARD IS WHAT COUNTS. Prove the row's statement (the work); the ties are given (YteoicjlhkaljbaaDoorTie.lean); close each card by the builder's one call (the guide's Derived/Test/ToyasCard.lean, 'card_holds'). Laid BY PROGRAM, IN A SANDBOX (cutbox-door.mjs). By AI agents, Wed Nov 11 2026. No macro, syntax, notation, axiom, sorry.
-/
import Derived.Test.YteoicjlhkaljbaaDoorRows
import GoSem.ClaimSeven
namespace Go.Proofs.YteoicjlhkaljbaaDoor
namespace Rows

/-- THE TIED CARD OF 'laws.FnRecordTextLast'. -/
def fnRecordTextLastCard : Claim7 := { stood := { row := fnRecordTextLastRow, standIns := [], harness := (true, "ef6fe5f5f6daff1c50aa8af91370cf0377cad3eec5cad5a8540fa73015e2e4f7"), looks := false }, kinds := [], alts := [], laidByText := true, laidKinds := [.data, .data, .data], laidTests := true, laidLooks := .later }
def FnRecordTextLastCardSaid : Prop := Claim7.holds Tryd.pinned (.plain (OpenSpec.ofChange fnRecordTextLastSpec)) fnRecordTextLastCard

/-- THE TIED CARD OF 'laws.FnExactRecordText'. -/
def fnExactRecordTextCard : Claim7 := { stood := { row := fnExactRecordTextRow, standIns := [], harness := (true, "ef6fe5f5f6daff1c50aa8af91370cf0377cad3eec5cad5a8540fa73015e2e4f7"), looks := false }, kinds := [], alts := [], laidByText := true, laidKinds := [.data, .data, .data], laidTests := true, laidLooks := .later }
def FnExactRecordTextCardSaid : Prop := Claim7.holds Tryd.pinned (.plain (OpenSpec.ofChange fnExactRecordTextSpec)) fnExactRecordTextCard

/-- THE TIED CARD OF 'laws.FnExactRecordOf'. -/
def fnExactRecordOfCard : Claim7 := { stood := { row := fnExactRecordOfRow, standIns := [], harness := (true, "ef6fe5f5f6daff1c50aa8af91370cf0377cad3eec5cad5a8540fa73015e2e4f7"), looks := false }, kinds := [], alts := [], laidByText := true, laidKinds := [.data, .pinned], laidTests := true, laidLooks := .later }
def FnExactRecordOfCardSaid : Prop := Claim7.holds Tryd.pinned (.plain (OpenSpec.ofChange fnExactRecordOfSpec)) fnExactRecordOfCard

/-- THE TIED CARD OF 'laws.FnRecordOfBlank'. -/
def fnRecordOfBlankCard : Claim7 := { stood := { row := fnRecordOfBlankRow, standIns := [], harness := (true, "ef6fe5f5f6daff1c50aa8af91370cf0377cad3eec5cad5a8540fa73015e2e4f7"), looks := false }, kinds := [], alts := [], laidByText := true, laidKinds := [.data, .pinned], laidTests := true, laidLooks := .later }
def FnRecordOfBlankCardSaid : Prop := Claim7.holds Tryd.pinned (.plain (OpenSpec.ofChange fnRecordOfBlankSpec)) fnRecordOfBlankCard

/-- THE TIED CARD OF 'laws.FnRecordText'. -/
def fnRecordTextCard : Claim7 := { stood := { row := fnRecordTextRow, standIns := [], harness := (true, "ef6fe5f5f6daff1c50aa8af91370cf0377cad3eec5cad5a8540fa73015e2e4f7"), looks := false }, kinds := [], alts := [], laidByText := true, laidKinds := [.data, .data, .data, .data, .pinned], laidTests := true, laidLooks := .later }
def FnRecordTextCardSaid : Prop := Claim7.holds Tryd.pinned (.plain (OpenSpec.ofChange fnRecordTextSpec)) fnRecordTextCard

/-- THE TIED CARD OF 'laws.FnRecordOf'. -/
def fnRecordOfCard : Claim7 := { stood := { row := fnRecordOfRow, standIns := [], harness := (true, "ef6fe5f5f6daff1c50aa8af91370cf0377cad3eec5cad5a8540fa73015e2e4f7"), looks := false }, kinds := [], alts := [], laidByText := true, laidKinds := [.data, .data, .data, .data, .pinned], laidTests := true, laidLooks := .later }
def FnRecordOfCardSaid : Prop := Claim7.holds Tryd.pinned (.plain (OpenSpec.ofChange fnRecordOfSpec)) fnRecordOfCard

/-- THE TIED CARD OF 'laws.FnLogText'. -/
def fnLogTextCard : Claim7 := { stood := { row := fnLogTextRow, standIns := [], harness := (true, "ef6fe5f5f6daff1c50aa8af91370cf0377cad3eec5cad5a8540fa73015e2e4f7"), looks := false }, kinds := [], alts := [], laidByText := true, laidKinds := [.data, .data, .data], laidTests := true, laidLooks := .later }
def FnLogTextCardSaid : Prop := Claim7.holds Tryd.pinned (.plain (OpenSpec.ofChange fnLogTextSpec)) fnLogTextCard

/-- THE TIED CARD OF 'laws.FnLogTextRecords'. -/
def fnLogTextRecordsCard : Claim7 := { stood := { row := fnLogTextRecordsRow, standIns := [], harness := (true, "ef6fe5f5f6daff1c50aa8af91370cf0377cad3eec5cad5a8540fa73015e2e4f7"), looks := false }, kinds := [], alts := [], laidByText := true, laidKinds := [.data, .data, .data], laidTests := true, laidLooks := .later }
def FnLogTextRecordsCardSaid : Prop := Claim7.holds Tryd.pinned (.plain (OpenSpec.ofChange fnLogTextRecordsSpec)) fnLogTextRecordsCard

/-- THE TIED CARD OF 'laws.FnExactLogText'. -/
def fnExactLogTextCard : Claim7 := { stood := { row := fnExactLogTextRow, standIns := [], harness := (true, "ef6fe5f5f6daff1c50aa8af91370cf0377cad3eec5cad5a8540fa73015e2e4f7"), looks := false }, kinds := [], alts := [], laidByText := true, laidKinds := [.data, .data, .data], laidTests := true, laidLooks := .later }
def FnExactLogTextCardSaid : Prop := Claim7.holds Tryd.pinned (.plain (OpenSpec.ofChange fnExactLogTextSpec)) fnExactLogTextCard

/-- THE SECOND FORM's CARD OF 'laws.FnRecordTextLast'. -/
def fnRecordTextLastUptoCard : Claim7 := { stood := { row := fnRecordTextLastUptoRow, standIns := [], harness := (true, "ef6fe5f5f6daff1c50aa8af91370cf0377cad3eec5cad5a8540fa73015e2e4f7"), looks := false }, kinds := [], alts := [], laidByText := true, laidKinds := [.data, .data, .data], laidTests := true, laidLooks := .later }
def FnRecordTextLastUptoCardSaid : Prop := Claim7.holds Tryd.pinned (.plain (OpenSpec.upto fnRecordTextLastSpec)) fnRecordTextLastUptoCard

/-- THE SECOND FORM's CARD OF 'laws.FnExactRecordText'. -/
def fnExactRecordTextUptoCard : Claim7 := { stood := { row := fnExactRecordTextUptoRow, standIns := [], harness := (true, "ef6fe5f5f6daff1c50aa8af91370cf0377cad3eec5cad5a8540fa73015e2e4f7"), looks := false }, kinds := [], alts := [], laidByText := true, laidKinds := [.data, .data, .data], laidTests := true, laidLooks := .later }
def FnExactRecordTextUptoCardSaid : Prop := Claim7.holds Tryd.pinned (.plain (OpenSpec.upto fnExactRecordTextSpec)) fnExactRecordTextUptoCard

/-- THE SECOND FORM's CARD OF 'laws.FnExactRecordOf'. -/
def fnExactRecordOfUptoCard : Claim7 := { stood := { row := fnExactRecordOfUptoRow, standIns := [], harness := (true, "ef6fe5f5f6daff1c50aa8af91370cf0377cad3eec5cad5a8540fa73015e2e4f7"), looks := false }, kinds := [], alts := [], laidByText := true, laidKinds := [.data, .pinned], laidTests := true, laidLooks := .later }
def FnExactRecordOfUptoCardSaid : Prop := Claim7.holds Tryd.pinned (.plain (OpenSpec.upto fnExactRecordOfSpec)) fnExactRecordOfUptoCard

/-- THE SECOND FORM's CARD OF 'laws.FnRecordOfBlank'. -/
def fnRecordOfBlankUptoCard : Claim7 := { stood := { row := fnRecordOfBlankUptoRow, standIns := [], harness := (true, "ef6fe5f5f6daff1c50aa8af91370cf0377cad3eec5cad5a8540fa73015e2e4f7"), looks := false }, kinds := [], alts := [], laidByText := true, laidKinds := [.data, .pinned], laidTests := true, laidLooks := .later }
def FnRecordOfBlankUptoCardSaid : Prop := Claim7.holds Tryd.pinned (.plain (OpenSpec.upto fnRecordOfBlankSpec)) fnRecordOfBlankUptoCard

/-- THE SECOND FORM's CARD OF 'laws.FnRecordText'. -/
def fnRecordTextUptoCard : Claim7 := { stood := { row := fnRecordTextUptoRow, standIns := [], harness := (true, "ef6fe5f5f6daff1c50aa8af91370cf0377cad3eec5cad5a8540fa73015e2e4f7"), looks := false }, kinds := [], alts := [], laidByText := true, laidKinds := [.data, .data, .data, .data, .pinned], laidTests := true, laidLooks := .later }
def FnRecordTextUptoCardSaid : Prop := Claim7.holds Tryd.pinned (.plain (OpenSpec.upto fnRecordTextSpec)) fnRecordTextUptoCard

/-- THE SECOND FORM's CARD OF 'laws.FnRecordOf'. -/
def fnRecordOfUptoCard : Claim7 := { stood := { row := fnRecordOfUptoRow, standIns := [], harness := (true, "ef6fe5f5f6daff1c50aa8af91370cf0377cad3eec5cad5a8540fa73015e2e4f7"), looks := false }, kinds := [], alts := [], laidByText := true, laidKinds := [.data, .data, .data, .data, .pinned], laidTests := true, laidLooks := .later }
def FnRecordOfUptoCardSaid : Prop := Claim7.holds Tryd.pinned (.plain (OpenSpec.upto fnRecordOfSpec)) fnRecordOfUptoCard

/-- THE SECOND FORM's CARD OF 'laws.FnLogText'. -/
def fnLogTextUptoCard : Claim7 := { stood := { row := fnLogTextUptoRow, standIns := [], harness := (true, "ef6fe5f5f6daff1c50aa8af91370cf0377cad3eec5cad5a8540fa73015e2e4f7"), looks := false }, kinds := [], alts := [], laidByText := true, laidKinds := [.data, .data, .data], laidTests := true, laidLooks := .later }
def FnLogTextUptoCardSaid : Prop := Claim7.holds Tryd.pinned (.plain (OpenSpec.upto fnLogTextSpec)) fnLogTextUptoCard

/-- THE SECOND FORM's CARD OF 'laws.FnLogTextRecords'. -/
def fnLogTextRecordsUptoCard : Claim7 := { stood := { row := fnLogTextRecordsUptoRow, standIns := [], harness := (true, "ef6fe5f5f6daff1c50aa8af91370cf0377cad3eec5cad5a8540fa73015e2e4f7"), looks := false }, kinds := [], alts := [], laidByText := true, laidKinds := [.data, .data, .data], laidTests := true, laidLooks := .later }
def FnLogTextRecordsUptoCardSaid : Prop := Claim7.holds Tryd.pinned (.plain (OpenSpec.upto fnLogTextRecordsSpec)) fnLogTextRecordsUptoCard

/-- THE SECOND FORM's CARD OF 'laws.FnExactLogText'. -/
def fnExactLogTextUptoCard : Claim7 := { stood := { row := fnExactLogTextUptoRow, standIns := [], harness := (true, "ef6fe5f5f6daff1c50aa8af91370cf0377cad3eec5cad5a8540fa73015e2e4f7"), looks := false }, kinds := [], alts := [], laidByText := true, laidKinds := [.data, .data, .data], laidTests := true, laidLooks := .later }
def FnExactLogTextUptoCardSaid : Prop := Claim7.holds Tryd.pinned (.plain (OpenSpec.upto fnExactLogTextSpec)) fnExactLogTextUptoCard
end Rows
end Go.Proofs.YteoicjlhkaljbaaDoor
