/-
  No cell of these rows narrows 'for every input' (looked for: loops, veiled, ifaces, maps, wideKeys, modest, calm, conditions, laid).
  DERIVED. THE GIVEN ROWS OF THIS SEAT. 6 by the template 'for every input the law returns true; each argument reads behind the call as it read before'; 0 by the template 'total and deterministic' (their statements: YthoioccmnphfgaaTotals.lean).
  GIVEN WITH THE SEED: the statements are not yours to turn. If you find one false, say at which input.
  Laid BY PROGRAM, IN A SANDBOX (cutbox-rows.mjs): the forced cells as the released guide's own fill.sh prints them over the translation 4a45e782ae5f16e9… (all of the seat's roots in one cut). By AI agents, Wed Nov 11 2026. No macro, syntax, notation, axiom, sorry.
-/
import Derived.Test.YthoioccmnphfgaaChecked
import GoSem.Claim
import GoSem.ClaimJoined
import GoSem.ClaimMapViews
import Derived.JoinedTies
import Derived.KernelRfl
namespace Go.Proofs.Ythoioccmnphfgaa
/- THE CELL 'sum', in the pinned program and in every row, IS THE sha256 OF THE DUMP (.gsa) THAT YthoioccmnphfgaaProg.lean LOADS. Nothing in Lean hashes anything: it is a label: what it is worth is what the hold of that sum in a sandbox is worth. -/
noncomputable def Try.pinned : Pinned := { name := "ythoioccmnphfgaa", sum := "4a45e782ae5f16e9a057d8861120563ee438762047f068e499bec061137119ac", checked := Try.checked }
namespace Rows
def none {H : Type} : Left H := { results := [], args := [] }

/-- 'laws.FnSize': WHATEVER THE INPUT: true; the input reads as it did. -/
def fnSizeSpec : ChangeSpec := { name := "fnSize", fn := fun _ => fun
  | [d1, d2] => { results := [.lit (.bool true)], args := [d1, d2] }
  | _ => none }
def fnSizeRow : OpenClaim := { program := "ythoioccmnphfgaa", sum := "4a45e782ae5f16e9a057d8861120563ee438762047f068e499bec061137119ac", func := "loop.example/recordbatches/laws.FnSize", spec := "fnSize", unfollowed := true, recurses := true, plainKeys := false, apart := false }
def FnSizeSaid : Prop := fnSizeRow.holds Try.pinned (OpenSpec.ofChange fnSizeSpec)

/-- ITS FALSE NEIGHBOUR: 'it returns false'. Refute it at one input. -/
def fnSizeWrong : ChangeSpec := { name := "fnSize", fn := fun _ => fun
  | [d1, d2] => { results := [.lit (.bool false)], args := [d1, d2] }
  | _ => none }
def FnSizeWrongFalsely : Prop := fnSizeRow.holds Try.pinned (OpenSpec.ofChange fnSizeWrong)

/-- 'laws.FnKeepMore': WHATEVER THE INPUT: true; the input reads as it did. -/
def fnKeepMoreSpec : ChangeSpec := { name := "fnKeepMore", fn := fun _ => fun
  | [d] => { results := [.lit (.bool true)], args := [d] }
  | _ => none }
def fnKeepMoreRow : OpenClaim := { program := "ythoioccmnphfgaa", sum := "4a45e782ae5f16e9a057d8861120563ee438762047f068e499bec061137119ac", func := "loop.example/recordbatches/laws.FnKeepMore", spec := "fnKeepMore", unfollowed := true, recurses := true, plainKeys := false, apart := false }
def FnKeepMoreSaid : Prop := fnKeepMoreRow.holds Try.pinned (OpenSpec.ofChange fnKeepMoreSpec)

/-- ITS FALSE NEIGHBOUR: 'it returns false'. Refute it at one input. -/
def fnKeepMoreWrong : ChangeSpec := { name := "fnKeepMore", fn := fun _ => fun
  | [d] => { results := [.lit (.bool false)], args := [d] }
  | _ => none }
def FnKeepMoreWrongFalsely : Prop := fnKeepMoreRow.holds Try.pinned (OpenSpec.ofChange fnKeepMoreWrong)

/-- 'laws.FnKeep': WHATEVER THE INPUT: true; the input reads as it did. -/
def fnKeepSpec : ChangeSpec := { name := "fnKeep", fn := fun _ => fun
  | [d] => { results := [.lit (.bool true)], args := [d] }
  | _ => none }
def fnKeepRow : OpenClaim := { program := "ythoioccmnphfgaa", sum := "4a45e782ae5f16e9a057d8861120563ee438762047f068e499bec061137119ac", func := "loop.example/recordbatches/laws.FnKeep", spec := "fnKeep", unfollowed := true, recurses := true, plainKeys := false, apart := false }
def FnKeepSaid : Prop := fnKeepRow.holds Try.pinned (OpenSpec.ofChange fnKeepSpec)

/-- ITS FALSE NEIGHBOUR: 'it returns false'. Refute it at one input. -/
def fnKeepWrong : ChangeSpec := { name := "fnKeep", fn := fun _ => fun
  | [d] => { results := [.lit (.bool false)], args := [d] }
  | _ => none }
def FnKeepWrongFalsely : Prop := fnKeepRow.holds Try.pinned (OpenSpec.ofChange fnKeepWrong)

/-- 'laws.FnKeepAll': WHATEVER THE INPUT: true; the input reads as it did. -/
def fnKeepAllSpec : ChangeSpec := { name := "fnKeepAll", fn := fun _ => fun
  | [d] => { results := [.lit (.bool true)], args := [d] }
  | _ => none }
def fnKeepAllRow : OpenClaim := { program := "ythoioccmnphfgaa", sum := "4a45e782ae5f16e9a057d8861120563ee438762047f068e499bec061137119ac", func := "loop.example/recordbatches/laws.FnKeepAll", spec := "fnKeepAll", unfollowed := true, recurses := true, plainKeys := false, apart := false }
def FnKeepAllSaid : Prop := fnKeepAllRow.holds Try.pinned (OpenSpec.ofChange fnKeepAllSpec)

/-- ITS FALSE NEIGHBOUR: 'it returns false'. Refute it at one input. -/
def fnKeepAllWrong : ChangeSpec := { name := "fnKeepAll", fn := fun _ => fun
  | [d] => { results := [.lit (.bool false)], args := [d] }
  | _ => none }
def FnKeepAllWrongFalsely : Prop := fnKeepAllRow.holds Try.pinned (OpenSpec.ofChange fnKeepAllWrong)

/-- 'laws.FnExactLogSize': WHATEVER THE INPUT: true; the input reads as it did. -/
def fnExactLogSizeSpec : ChangeSpec := { name := "fnExactLogSize", fn := fun _ => fun
  | [d] => { results := [.lit (.bool true)], args := [d] }
  | _ => none }
def fnExactLogSizeRow : OpenClaim := { program := "ythoioccmnphfgaa", sum := "4a45e782ae5f16e9a057d8861120563ee438762047f068e499bec061137119ac", func := "loop.example/recordbatches/laws.FnExactLogSize", spec := "fnExactLogSize", unfollowed := true, recurses := true, plainKeys := false, apart := false }
def FnExactLogSizeSaid : Prop := fnExactLogSizeRow.holds Try.pinned (OpenSpec.ofChange fnExactLogSizeSpec)

/-- ITS FALSE NEIGHBOUR: 'it returns false'. Refute it at one input. -/
def fnExactLogSizeWrong : ChangeSpec := { name := "fnExactLogSize", fn := fun _ => fun
  | [d] => { results := [.lit (.bool false)], args := [d] }
  | _ => none }
def FnExactLogSizeWrongFalsely : Prop := fnExactLogSizeRow.holds Try.pinned (OpenSpec.ofChange fnExactLogSizeWrong)

/-- 'laws.FnExactKeepSize': WHATEVER THE INPUT: true; the input reads as it did. -/
def fnExactKeepSizeSpec : ChangeSpec := { name := "fnExactKeepSize", fn := fun _ => fun
  | [d1, d2] => { results := [.lit (.bool true)], args := [d1, d2] }
  | _ => none }
def fnExactKeepSizeRow : OpenClaim := { program := "ythoioccmnphfgaa", sum := "4a45e782ae5f16e9a057d8861120563ee438762047f068e499bec061137119ac", func := "loop.example/recordbatches/laws.FnExactKeepSize", spec := "fnExactKeepSize", unfollowed := true, recurses := true, plainKeys := false, apart := false }
def FnExactKeepSizeSaid : Prop := fnExactKeepSizeRow.holds Try.pinned (OpenSpec.ofChange fnExactKeepSizeSpec)

/-- ITS FALSE NEIGHBOUR: 'it returns false'. Refute it at one input. -/
def fnExactKeepSizeWrong : ChangeSpec := { name := "fnExactKeepSize", fn := fun _ => fun
  | [d1, d2] => { results := [.lit (.bool false)], args := [d1, d2] }
  | _ => none }
def FnExactKeepSizeWrongFalsely : Prop := fnExactKeepSizeRow.holds Try.pinned (OpenSpec.ofChange fnExactKeepSizeWrong)

/- THE SECOND FORM. 'bulk': how many values and letters a reading holds, each counted each time it is reached (what is shared counts as often as it is met; a slice's spare places count too). A statement '..UptoSaid' is the law's where the arguments, and the package variables that the reading takes, are together of bulk at most 1048576: NARROWER than '..Said'. Prove '..Said' where nothing that the law and all that it calls make is longer than what came in: it says more and counts as full. Else prove '..UptoSaid'. A law counts once. -/
mutual
def uptoBulk {H : Type} : DataW H → Nat
  | .lit (.string bytes) => bytes.length + 1
  | .lit _ => 1
  | .nil => 1
  | .ptr d => uptoBulk d + 1
  | .slice elems spare => uptoBulkAll elems + uptoBulkAll spare + 1
  | .agg parts => uptoBulkAll parts + 1
  | .iface _ d => uptoBulk d + 1
  | .map entries => uptoBulkEntries entries + 1
  | .held _ => 1
def uptoBulkAll {H : Type} : List (DataW H) → Nat
  | [] => 0
  | d :: r => uptoBulk d + uptoBulkAll r
def uptoBulkEntries {H : Type} : List (Lit × DataW H) → Nat
  | [] => 0
  | x :: r => uptoBulkEntry x + uptoBulkEntries r
def uptoBulkEntry {H : Type} : Lit × DataW H → Nat
  | (.string bytes, d) => bytes.length + uptoBulk d + 1
  | (_, d) => uptoBulk d + 1
 end
def uptoSmall : (H : Type) → List (DataW H) → Bool := fun _ ds => decide (uptoBulkAll ds ≤ 1048576)
def OpenSpec.upto (s : _root_.Go.ChangeSpec) : _root_.Go.OpenSpec := { _root_.Go.OpenSpec.ofChange s with cond := some uptoSmall }

/-- 'laws.FnSize', WHERE WHAT IT READS IS OF BULK AT MOST 1048576: true; the input reads as it did. -/
def fnSizeUptoRow : OpenClaim := { program := "ythoioccmnphfgaa", sum := "4a45e782ae5f16e9a057d8861120563ee438762047f068e499bec061137119ac", func := "loop.example/recordbatches/laws.FnSize", spec := "fnSize", unfollowed := true, recurses := true, plainKeys := false, apart := false, narrowed := true }
def FnSizeUptoSaid : Prop := fnSizeUptoRow.holds Try.pinned (OpenSpec.upto fnSizeSpec)

/-- 'laws.FnKeepMore', WHERE WHAT IT READS IS OF BULK AT MOST 1048576: true; the input reads as it did. -/
def fnKeepMoreUptoRow : OpenClaim := { program := "ythoioccmnphfgaa", sum := "4a45e782ae5f16e9a057d8861120563ee438762047f068e499bec061137119ac", func := "loop.example/recordbatches/laws.FnKeepMore", spec := "fnKeepMore", unfollowed := true, recurses := true, plainKeys := false, apart := false, narrowed := true }
def FnKeepMoreUptoSaid : Prop := fnKeepMoreUptoRow.holds Try.pinned (OpenSpec.upto fnKeepMoreSpec)

/-- 'laws.FnKeep', WHERE WHAT IT READS IS OF BULK AT MOST 1048576: true; the input reads as it did. -/
def fnKeepUptoRow : OpenClaim := { program := "ythoioccmnphfgaa", sum := "4a45e782ae5f16e9a057d8861120563ee438762047f068e499bec061137119ac", func := "loop.example/recordbatches/laws.FnKeep", spec := "fnKeep", unfollowed := true, recurses := true, plainKeys := false, apart := false, narrowed := true }
def FnKeepUptoSaid : Prop := fnKeepUptoRow.holds Try.pinned (OpenSpec.upto fnKeepSpec)

/-- 'laws.FnKeepAll', WHERE WHAT IT READS IS OF BULK AT MOST 1048576: true; the input reads as it did. -/
def fnKeepAllUptoRow : OpenClaim := { program := "ythoioccmnphfgaa", sum := "4a45e782ae5f16e9a057d8861120563ee438762047f068e499bec061137119ac", func := "loop.example/recordbatches/laws.FnKeepAll", spec := "fnKeepAll", unfollowed := true, recurses := true, plainKeys := false, apart := false, narrowed := true }
def FnKeepAllUptoSaid : Prop := fnKeepAllUptoRow.holds Try.pinned (OpenSpec.upto fnKeepAllSpec)

/-- 'laws.FnExactLogSize', WHERE WHAT IT READS IS OF BULK AT MOST 1048576: true; the input reads as it did. -/
def fnExactLogSizeUptoRow : OpenClaim := { program := "ythoioccmnphfgaa", sum := "4a45e782ae5f16e9a057d8861120563ee438762047f068e499bec061137119ac", func := "loop.example/recordbatches/laws.FnExactLogSize", spec := "fnExactLogSize", unfollowed := true, recurses := true, plainKeys := false, apart := false, narrowed := true }
def FnExactLogSizeUptoSaid : Prop := fnExactLogSizeUptoRow.holds Try.pinned (OpenSpec.upto fnExactLogSizeSpec)

/-- 'laws.FnExactKeepSize', WHERE WHAT IT READS IS OF BULK AT MOST 1048576: true; the input reads as it did. -/
def fnExactKeepSizeUptoRow : OpenClaim := { program := "ythoioccmnphfgaa", sum := "4a45e782ae5f16e9a057d8861120563ee438762047f068e499bec061137119ac", func := "loop.example/recordbatches/laws.FnExactKeepSize", spec := "fnExactKeepSize", unfollowed := true, recurses := true, plainKeys := false, apart := false, narrowed := true }
def FnExactKeepSizeUptoSaid : Prop := fnExactKeepSizeUptoRow.holds Try.pinned (OpenSpec.upto fnExactKeepSizeSpec)

end Rows
end Go.Proofs.Ythoioccmnphfgaa
