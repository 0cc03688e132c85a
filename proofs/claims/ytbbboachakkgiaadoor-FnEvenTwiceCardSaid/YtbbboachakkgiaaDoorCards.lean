/-
  DERIVED. GIVEN WITH THE SEED: THE CARDS: each row of YtbbboachakkgiaaDoorRows.lean that lists a variable, with what it lists TIED to the program's text (the seventh form; the later family's looks); each row that meets fmt, with fmt's text TOLD by the authors' own Lean function (tested against real Go, not proved from fmt's source: count such statements apart). THE CARD IS WHAT COUNTS. Prove the row's statement (the work); the ties are given (YtbbboachakkgiaaDoorTie.lean); close each card by the builder's one call (the guide's Derived/Test/ToyasCard.lean, 'card_holds'). Laid BY PROGRAM, IN A SANDBOX (cutbox-door.mjs). By AI agents, Wed Nov 11 2026. No macro, syntax, notation, axiom, sorry.
-/
import Derived.Test.YtbbboachakkgiaaDoorRows
import GoSem.ClaimSeven
namespace Go.Proofs.YtbbboachakkgiaaDoor
namespace Rows

/-- THE TIED CARD OF 'laws.FnLogCut'. -/
def fnLogCutCard : Claim7 := { stood := { row := fnLogCutRow, standIns := [], harness := (true, "2e05aa95766e6917fe95301784a47f45e0e7b4b4973cc25155ec255d9f160fba"), looks := true }, kinds := [], alts := [], laidByText := true, laidKinds := [.sentinel], laidTests := true, laidLooks := .later }
def FnLogCutCardSaid : Prop := Claim7.holds Tryd.pinned (.plain (OpenSpec.ofChange fnLogCutSpec)) fnLogCutCard

/-- THE TIED CARD OF 'laws.FnLogCutEnd'. -/
def fnLogCutEndCard : Claim7 := { stood := { row := fnLogCutEndRow, standIns := [], harness := (true, "2e05aa95766e6917fe95301784a47f45e0e7b4b4973cc25155ec255d9f160fba"), looks := true }, kinds := [], alts := [], laidByText := true, laidKinds := [.sentinel], laidTests := true, laidLooks := .later }
def FnLogCutEndCardSaid : Prop := Claim7.holds Tryd.pinned (.plain (OpenSpec.ofChange fnLogCutEndSpec)) fnLogCutEndCard

/-- THE TIED CARD OF 'laws.FnLogCutTwice'. -/
def fnLogCutTwiceCard : Claim7 := { stood := { row := fnLogCutTwiceRow, standIns := [], harness := (true, "2e05aa95766e6917fe95301784a47f45e0e7b4b4973cc25155ec255d9f160fba"), looks := true }, kinds := [], alts := [], laidByText := true, laidKinds := [.sentinel], laidTests := true, laidLooks := .later }
def FnLogCutTwiceCardSaid : Prop := Claim7.holds Tryd.pinned (.plain (OpenSpec.ofChange fnLogCutTwiceSpec)) fnLogCutTwiceCard

/-- THE TIED CARD OF 'laws.FnExactLogCut'. -/
def fnExactLogCutCard : Claim7 := { stood := { row := fnExactLogCutRow, standIns := [], harness := (true, "2e05aa95766e6917fe95301784a47f45e0e7b4b4973cc25155ec255d9f160fba"), looks := true }, kinds := [], alts := [], laidByText := true, laidKinds := [.sentinel], laidTests := true, laidLooks := .later }
def FnExactLogCutCardSaid : Prop := Claim7.holds Tryd.pinned (.plain (OpenSpec.ofChange fnExactLogCutSpec)) fnExactLogCutCard

/-- THE TIED CARD OF 'laws.FnEven'. -/
def fnEvenCard : Claim7 := { stood := { row := fnEvenRow, standIns := [], harness := (true, "2e05aa95766e6917fe95301784a47f45e0e7b4b4973cc25155ec255d9f160fba"), looks := true }, kinds := [], alts := [], laidByText := true, laidKinds := [.sentinel], laidTests := true, laidLooks := .later }
def FnEvenCardSaid : Prop := Claim7.holds Tryd.pinned (.plain (OpenSpec.ofChange fnEvenSpec)) fnEvenCard

/-- THE TIED CARD OF 'laws.FnEvenTwice'. -/
def fnEvenTwiceCard : Claim7 := { stood := { row := fnEvenTwiceRow, standIns := [], harness := (true, "2e05aa95766e6917fe95301784a47f45e0e7b4b4973cc25155ec255d9f160fba"), looks := true }, kinds := [], alts := [], laidByText := true, laidKinds := [.sentinel], laidTests := true, laidLooks := .later }
def FnEvenTwiceCardSaid : Prop := Claim7.holds Tryd.pinned (.plain (OpenSpec.ofChange fnEvenTwiceSpec)) fnEvenTwiceCard

/-- THE TIED CARD OF 'laws.FnExactLogEven'. -/
def fnExactLogEvenCard : Claim7 := { stood := { row := fnExactLogEvenRow, standIns := [], harness := (true, "2e05aa95766e6917fe95301784a47f45e0e7b4b4973cc25155ec255d9f160fba"), looks := true }, kinds := [], alts := [], laidByText := true, laidKinds := [.sentinel], laidTests := true, laidLooks := .later }
def FnExactLogEvenCardSaid : Prop := Claim7.holds Tryd.pinned (.plain (OpenSpec.ofChange fnExactLogEvenSpec)) fnExactLogEvenCard

/-- THE TIED CARD OF 'laws.FnEvenState'. -/
def fnEvenStateCard : Claim7 := { stood := { row := fnEvenStateRow, standIns := [], harness := (true, "2e05aa95766e6917fe95301784a47f45e0e7b4b4973cc25155ec255d9f160fba"), looks := true }, kinds := [], alts := [], laidByText := true, laidKinds := [.sentinel], laidTests := true, laidLooks := .later }
def FnEvenStateCardSaid : Prop := Claim7.holds Tryd.pinned (.plain (OpenSpec.ofChange fnEvenStateSpec)) fnEvenStateCard

/-- THE SECOND FORM's CARD OF 'laws.FnLogCut'. -/
def fnLogCutUptoCard : Claim7 := { stood := { row := fnLogCutUptoRow, standIns := [], harness := (true, "2e05aa95766e6917fe95301784a47f45e0e7b4b4973cc25155ec255d9f160fba"), looks := true }, kinds := [], alts := [], laidByText := true, laidKinds := [.sentinel], laidTests := true, laidLooks := .later }
def FnLogCutUptoCardSaid : Prop := Claim7.holds Tryd.pinned (.plain (OpenSpec.upto fnLogCutSpec)) fnLogCutUptoCard

/-- THE SECOND FORM's CARD OF 'laws.FnLogCutEnd'. -/
def fnLogCutEndUptoCard : Claim7 := { stood := { row := fnLogCutEndUptoRow, standIns := [], harness := (true, "2e05aa95766e6917fe95301784a47f45e0e7b4b4973cc25155ec255d9f160fba"), looks := true }, kinds := [], alts := [], laidByText := true, laidKinds := [.sentinel], laidTests := true, laidLooks := .later }
def FnLogCutEndUptoCardSaid : Prop := Claim7.holds Tryd.pinned (.plain (OpenSpec.upto fnLogCutEndSpec)) fnLogCutEndUptoCard

/-- THE SECOND FORM's CARD OF 'laws.FnLogCutTwice'. -/
def fnLogCutTwiceUptoCard : Claim7 := { stood := { row := fnLogCutTwiceUptoRow, standIns := [], harness := (true, "2e05aa95766e6917fe95301784a47f45e0e7b4b4973cc25155ec255d9f160fba"), looks := true }, kinds := [], alts := [], laidByText := true, laidKinds := [.sentinel], laidTests := true, laidLooks := .later }
def FnLogCutTwiceUptoCardSaid : Prop := Claim7.holds Tryd.pinned (.plain (OpenSpec.upto fnLogCutTwiceSpec)) fnLogCutTwiceUptoCard

/-- THE SECOND FORM's CARD OF 'laws.FnExactLogCut'. -/
def fnExactLogCutUptoCard : Claim7 := { stood := { row := fnExactLogCutUptoRow, standIns := [], harness := (true, "2e05aa95766e6917fe95301784a47f45e0e7b4b4973cc25155ec255d9f160fba"), looks := true }, kinds := [], alts := [], laidByText := true, laidKinds := [.sentinel], laidTests := true, laidLooks := .later }
def FnExactLogCutUptoCardSaid : Prop := Claim7.holds Tryd.pinned (.plain (OpenSpec.upto fnExactLogCutSpec)) fnExactLogCutUptoCard

/-- THE SECOND FORM's CARD OF 'laws.FnEven'. -/
def fnEvenUptoCard : Claim7 := { stood := { row := fnEvenUptoRow, standIns := [], harness := (true, "2e05aa95766e6917fe95301784a47f45e0e7b4b4973cc25155ec255d9f160fba"), looks := true }, kinds := [], alts := [], laidByText := true, laidKinds := [.sentinel], laidTests := true, laidLooks := .later }
def FnEvenUptoCardSaid : Prop := Claim7.holds Tryd.pinned (.plain (OpenSpec.upto fnEvenSpec)) fnEvenUptoCard

/-- THE SECOND FORM's CARD OF 'laws.FnEvenTwice'. -/
def fnEvenTwiceUptoCard : Claim7 := { stood := { row := fnEvenTwiceUptoRow, standIns := [], harness := (true, "2e05aa95766e6917fe95301784a47f45e0e7b4b4973cc25155ec255d9f160fba"), looks := true }, kinds := [], alts := [], laidByText := true, laidKinds := [.sentinel], laidTests := true, laidLooks := .later }
def FnEvenTwiceUptoCardSaid : Prop := Claim7.holds Tryd.pinned (.plain (OpenSpec.upto fnEvenTwiceSpec)) fnEvenTwiceUptoCard

/-- THE SECOND FORM's CARD OF 'laws.FnExactLogEven'. -/
def fnExactLogEvenUptoCard : Claim7 := { stood := { row := fnExactLogEvenUptoRow, standIns := [], harness := (true, "2e05aa95766e6917fe95301784a47f45e0e7b4b4973cc25155ec255d9f160fba"), looks := true }, kinds := [], alts := [], laidByText := true, laidKinds := [.sentinel], laidTests := true, laidLooks := .later }
def FnExactLogEvenUptoCardSaid : Prop := Claim7.holds Tryd.pinned (.plain (OpenSpec.upto fnExactLogEvenSpec)) fnExactLogEvenUptoCard

/-- THE SECOND FORM's CARD OF 'laws.FnEvenState'. -/
def fnEvenStateUptoCard : Claim7 := { stood := { row := fnEvenStateUptoRow, standIns := [], harness := (true, "2e05aa95766e6917fe95301784a47f45e0e7b4b4973cc25155ec255d9f160fba"), looks := true }, kinds := [], alts := [], laidByText := true, laidKinds := [.sentinel], laidTests := true, laidLooks := .later }
def FnEvenStateUptoCardSaid : Prop := Claim7.holds Tryd.pinned (.plain (OpenSpec.upto fnEvenStateSpec)) fnEvenStateUptoCard
end Rows
end Go.Proofs.YtbbboachakkgiaaDoor
