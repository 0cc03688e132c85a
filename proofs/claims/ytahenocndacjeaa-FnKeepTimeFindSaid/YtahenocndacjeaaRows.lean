/-
  No cell of these rows narrows 'for every input' (looked for: loops, veiled, ifaces, maps, wideKeys, modest, calm, conditions, laid).
  DERIVED. THE GIVEN ROWS OF THIS SEAT. 4 by the template 'for every input the law returns true; each argument reads behind the call as it read before'; 0 by the template 'total and deterministic' (their statements: YtahenocndacjeaaTotals.lean).
  GIVEN WITH THE SEED: the statements are not yours to turn. If you find one false, say at which input.
  Laid BY PROGRAM, IN A SANDBOX (cutbox-rows.mjs): the forced cells as the released guide's own fill.sh prints them over the translation 2191ab6bb3b268de… (all of the seat's roots in one cut). By AI agents, Wed Nov 11 2026. No macro, syntax, notation, axiom, sorry.
-/
import Derived.Test.YtahenocndacjeaaChecked
import GoSem.Claim
import GoSem.ClaimJoined
import GoSem.ClaimMapViews
import Derived.JoinedTies
import Derived.KernelRfl
namespace Go.Proofs.Ytahenocndacjeaa
/- THE CELL 'sum', in the pinned program and in every row, IS THE sha256 OF THE DUMP (.gsa) THAT YtahenocndacjeaaProg.lean LOADS. Nothing in Lean hashes anything: it is a label: what it is worth is what the hold of that sum in a sandbox is worth. -/
noncomputable def Try.pinned : Pinned := { name := "ytahenocndacjeaa", sum := "2191ab6bb3b268de48f3d73726c74ce3cd0420e1f48438cfc7e87969086ed05d", checked := Try.checked }
namespace Rows
def none {H : Type} : Left H := { results := [], args := [] }

/-- 'laws.FnKeepTime': WHATEVER THE INPUT: true; the input reads as it did. -/
def fnKeepTimeSpec : ChangeSpec := { name := "fnKeepTime", fn := fun _ => fun
  | [d] => { results := [.lit (.bool true)], args := [d] }
  | _ => none }
def fnKeepTimeRow : OpenClaim := { program := "ytahenocndacjeaa", sum := "2191ab6bb3b268de48f3d73726c74ce3cd0420e1f48438cfc7e87969086ed05d", func := "loop.example/recordbatches/laws.FnKeepTime", spec := "fnKeepTime", unfollowed := true, recurses := true, apart := false }
def FnKeepTimeSaid : Prop := fnKeepTimeRow.holds Try.pinned (OpenSpec.ofChange fnKeepTimeSpec)

/-- ITS FALSE NEIGHBOUR: 'it returns false'. Refute it at one input. -/
def fnKeepTimeWrong : ChangeSpec := { name := "fnKeepTime", fn := fun _ => fun
  | [d] => { results := [.lit (.bool false)], args := [d] }
  | _ => none }
def FnKeepTimeWrongFalsely : Prop := fnKeepTimeRow.holds Try.pinned (OpenSpec.ofChange fnKeepTimeWrong)

/-- 'laws.FnKeepTimeFirst': WHATEVER THE INPUT: true; the input reads as it did. -/
def fnKeepTimeFirstSpec : ChangeSpec := { name := "fnKeepTimeFirst", fn := fun _ => fun
  | [d] => { results := [.lit (.bool true)], args := [d] }
  | _ => none }
def fnKeepTimeFirstRow : OpenClaim := { program := "ytahenocndacjeaa", sum := "2191ab6bb3b268de48f3d73726c74ce3cd0420e1f48438cfc7e87969086ed05d", func := "loop.example/recordbatches/laws.FnKeepTimeFirst", spec := "fnKeepTimeFirst", unfollowed := true, recurses := true, apart := false }
def FnKeepTimeFirstSaid : Prop := fnKeepTimeFirstRow.holds Try.pinned (OpenSpec.ofChange fnKeepTimeFirstSpec)

/-- ITS FALSE NEIGHBOUR: 'it returns false'. Refute it at one input. -/
def fnKeepTimeFirstWrong : ChangeSpec := { name := "fnKeepTimeFirst", fn := fun _ => fun
  | [d] => { results := [.lit (.bool false)], args := [d] }
  | _ => none }
def FnKeepTimeFirstWrongFalsely : Prop := fnKeepTimeFirstRow.holds Try.pinned (OpenSpec.ofChange fnKeepTimeFirstWrong)

/-- 'laws.FnKeepTimeFind': WHATEVER THE INPUT: true; the input reads as it did. -/
def fnKeepTimeFindSpec : ChangeSpec := { name := "fnKeepTimeFind", fn := fun _ => fun
  | [d] => { results := [.lit (.bool true)], args := [d] }
  | _ => none }
def fnKeepTimeFindRow : OpenClaim := { program := "ytahenocndacjeaa", sum := "2191ab6bb3b268de48f3d73726c74ce3cd0420e1f48438cfc7e87969086ed05d", func := "loop.example/recordbatches/laws.FnKeepTimeFind", spec := "fnKeepTimeFind", unfollowed := true, recurses := true, apart := false }
def FnKeepTimeFindSaid : Prop := fnKeepTimeFindRow.holds Try.pinned (OpenSpec.ofChange fnKeepTimeFindSpec)

/-- ITS FALSE NEIGHBOUR: 'it returns false'. Refute it at one input. -/
def fnKeepTimeFindWrong : ChangeSpec := { name := "fnKeepTimeFind", fn := fun _ => fun
  | [d] => { results := [.lit (.bool false)], args := [d] }
  | _ => none }
def FnKeepTimeFindWrongFalsely : Prop := fnKeepTimeFindRow.holds Try.pinned (OpenSpec.ofChange fnKeepTimeFindWrong)

/-- 'laws.FnExactKeepTime': WHATEVER THE INPUT: true; the input reads as it did. -/
def fnExactKeepTimeSpec : ChangeSpec := { name := "fnExactKeepTime", fn := fun _ => fun
  | [d1, d2] => { results := [.lit (.bool true)], args := [d1, d2] }
  | _ => none }
def fnExactKeepTimeRow : OpenClaim := { program := "ytahenocndacjeaa", sum := "2191ab6bb3b268de48f3d73726c74ce3cd0420e1f48438cfc7e87969086ed05d", func := "loop.example/recordbatches/laws.FnExactKeepTime", spec := "fnExactKeepTime", unfollowed := true, recurses := true, apart := false }
def FnExactKeepTimeSaid : Prop := fnExactKeepTimeRow.holds Try.pinned (OpenSpec.ofChange fnExactKeepTimeSpec)

/-- ITS FALSE NEIGHBOUR: 'it returns false'. Refute it at one input. -/
def fnExactKeepTimeWrong : ChangeSpec := { name := "fnExactKeepTime", fn := fun _ => fun
  | [d1, d2] => { results := [.lit (.bool false)], args := [d1, d2] }
  | _ => none }
def FnExactKeepTimeWrongFalsely : Prop := fnExactKeepTimeRow.holds Try.pinned (OpenSpec.ofChange fnExactKeepTimeWrong)

/- THE SECOND FORM. 'bulk': how many values and letters a reading holds, each counted each time it is reached (what is shared counts as often as it is met; a slice's spare places count too). A statement '..UptoSaid' is the law's where the arguments, and the package variables that the reading takes, are together of bulk at most 1048576: NARROWER than '..Said'. Prove '..Said' where nothing that the law and all that it calls make is longer than what came in: it says more and counts as full. Else prove '..UptoSaid'. A law counts once. -/
mutual
def uptoBulk {H : Type} : DataW H → Nat
  | .lit (.string bytes) => bytes.length + 1
  | .lit _ => 1
  | .nil => 1
  | .ptr d => uptoBulk d + 1
  | .slice elems spare => uptoBulkAll elems + uptoBulkAll spare + 1
  | .agg parts => uptoBulkAll parts + 1
  | .iface _ d => uptoBulk d + 1
  | .map entries => uptoBulkEntries entries + 1
  | .held _ => 1
def uptoBulkAll {H : Type} : List (DataW H) → Nat
  | [] => 0
  | d :: r => uptoBulk d + uptoBulkAll r
def uptoBulkEntries {H : Type} : List (Lit × DataW H) → Nat
  | [] => 0
  | x :: r => uptoBulkEntry x + uptoBulkEntries r
def uptoBulkEntry {H : Type} : Lit × DataW H → Nat
  | (.string bytes, d) => bytes.length + uptoBulk d + 1
  | (_, d) => uptoBulk d + 1
 end
def uptoSmall : (H : Type) → List (DataW H) → Bool := fun _ ds => decide (uptoBulkAll ds ≤ 1048576)
def OpenSpec.upto (s : _root_.Go.ChangeSpec) : _root_.Go.OpenSpec := { _root_.Go.OpenSpec.ofChange s with cond := some uptoSmall }

/-- 'laws.FnKeepTime', WHERE WHAT IT READS IS OF BULK AT MOST 1048576: true; the input reads as it did. -/
def fnKeepTimeUptoRow : OpenClaim := { program := "ytahenocndacjeaa", sum := "2191ab6bb3b268de48f3d73726c74ce3cd0420e1f48438cfc7e87969086ed05d", func := "loop.example/recordbatches/laws.FnKeepTime", spec := "fnKeepTime", unfollowed := true, recurses := true, apart := false, narrowed := true }
def FnKeepTimeUptoSaid : Prop := fnKeepTimeUptoRow.holds Try.pinned (OpenSpec.upto fnKeepTimeSpec)

/-- 'laws.FnKeepTimeFirst', WHERE WHAT IT READS IS OF BULK AT MOST 1048576: true; the input reads as it did. -/
def fnKeepTimeFirstUptoRow : OpenClaim := { program := "ytahenocndacjeaa", sum := "2191ab6bb3b268de48f3d73726c74ce3cd0420e1f48438cfc7e87969086ed05d", func := "loop.example/recordbatches/laws.FnKeepTimeFirst", spec := "fnKeepTimeFirst", unfollowed := true, recurses := true, apart := false, narrowed := true }
def FnKeepTimeFirstUptoSaid : Prop := fnKeepTimeFirstUptoRow.holds Try.pinned (OpenSpec.upto fnKeepTimeFirstSpec)

/-- 'laws.FnKeepTimeFind', WHERE WHAT IT READS IS OF BULK AT MOST 1048576: true; the input reads as it did. -/
def fnKeepTimeFindUptoRow : OpenClaim := { program := "ytahenocndacjeaa", sum := "2191ab6bb3b268de48f3d73726c74ce3cd0420e1f48438cfc7e87969086ed05d", func := "loop.example/recordbatches/laws.FnKeepTimeFind", spec := "fnKeepTimeFind", unfollowed := true, recurses := true, apart := false, narrowed := true }
def FnKeepTimeFindUptoSaid : Prop := fnKeepTimeFindUptoRow.holds Try.pinned (OpenSpec.upto fnKeepTimeFindSpec)

/-- 'laws.FnExactKeepTime', WHERE WHAT IT READS IS OF BULK AT MOST 1048576: true; the input reads as it did. -/
def fnExactKeepTimeUptoRow : OpenClaim := { program := "ytahenocndacjeaa", sum := "2191ab6bb3b268de48f3d73726c74ce3cd0420e1f48438cfc7e87969086ed05d", func := "loop.example/recordbatches/laws.FnExactKeepTime", spec := "fnExactKeepTime", unfollowed := true, recurses := true, apart := false, narrowed := true }
def FnExactKeepTimeUptoSaid : Prop := fnExactKeepTimeUptoRow.holds Try.pinned (OpenSpec.upto fnExactKeepTimeSpec)

end Rows
end Go.Proofs.Ytahenocndacjeaa
