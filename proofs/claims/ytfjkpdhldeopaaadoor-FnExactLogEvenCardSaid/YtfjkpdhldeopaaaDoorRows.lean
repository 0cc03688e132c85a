/-
  NARROWER THAN 'FOR EVERY INPUT', by the rows' own cells (each row's printed sentence says how): FnExactBatchJoin: ifaces, laid · FnExactBatchCut: ifaces, laid · FnExactLogCut: ifaces, laid · FnExactLogEven: ifaces, laid.
  DERIVED. THE GIVEN ROWS OF THIS SEAT. 4 by the template 'for every input the law returns true; each argument reads behind the call as it read before'; 0 by the template 'total and deterministic' (their statements: YtfjkpdhldeopaaaDoorTotals.lean).
  GIVEN WITH THE SEED: the statements are not yours to turn. If you find one false, say at which input.
  Laid BY PROGRAM, IN A SANDBOX (cutbox-rows.mjs): the forced cells as the released guide's own fill.sh prints them over the translation 7cbe1794c3e52fed… (all of the seat's roots in one cut). By AI agents, Wed Nov 11 2026. No macro, syntax, notation, axiom, sorry.
-/
import Derived.Test.YtfjkpdhldeopaaaDoorChecked
import GoSem.Claim
import GoSem.ClaimJoined
import GoSem.ClaimMapViews
import Derived.JoinedTies
import Derived.KernelRfl
namespace Go.Proofs.YtfjkpdhldeopaaaDoor
/- THE CELL 'sum', in the pinned program and in every row, IS THE sha256 OF THE DUMP (.gsa) THAT YtfjkpdhldeopaaaDoorProg.lean LOADS. Nothing in Lean hashes anything: it is a label: what it is worth is what the hold of that sum in a sandbox is worth. -/
noncomputable def Tryd.pinned : Pinned := { name := "ytfjkpdhldeopaaadoor", sum := "7cbe1794c3e52fed4875cc271409cace71de3302295612fad02007fd3f6da0cb", checked := Tryd.checked }
namespace Rows
def none {H : Type} : Left H := { results := [], args := [] }

/- WHAT THE LISTED PACKAGE-LEVEL VARIABLES READ AS WHEN THE CALL BEGINS. Each datum BY PROGRAM (the guide's laid-datum.mjs) off the statement by which the dump's own 'gosem.cut.vars' lays the variable. In a bare row this is a premise. The card (YtfjkpdhldeopaaaDoorCards.lean) ties it to the program's text. -/
def laid_loop_example_recordbatches_impl_errNoJoin {H : Type} : DataW H := .iface "*errors.errorString" (.ptr (.agg [.lit (.string [110, 111, 32, 106, 111, 105, 110])]))
def laid_loop_example_recordbatches_impl_errNoCut {H : Type} : DataW H := .iface "*errors.errorString" (.ptr (.agg [.lit (.string [110, 111, 32, 99, 117, 116])]))

/-- 'laws.FnExactBatchJoin': WHATEVER THE INPUT: true; the input reads as it did. -/
def fnExactBatchJoinSpec : ChangeSpec := { name := "fnExactBatchJoin", vars := ["loop.example/recordbatches/impl.errNoJoin"], fn := fun _ => fun
  | [d1, d2, g1] => { results := [.lit (.bool true)], args := [d1, d2], vars := [g1] }
  | _ => none }
def fnExactBatchJoinRow : OpenClaim := { program := "ytfjkpdhldeopaaadoor", sum := "7cbe1794c3e52fed4875cc271409cace71de3302295612fad02007fd3f6da0cb", func := "loop.example/recordbatches/laws.FnExactBatchJoin", spec := "fnExactBatchJoin", inPlace := ["internal/reflectlite.TypeOf"], unfollowed := true, recurses := true, named := ["loop.example/recordbatches/impl.errNoJoin"], ifaces := true, apart := false, laid := [("loop.example/recordbatches/impl.errNoJoin", laid_loop_example_recordbatches_impl_errNoJoin)] }
def FnExactBatchJoinSaid : Prop := fnExactBatchJoinRow.holds Tryd.pinned (OpenSpec.ofChange fnExactBatchJoinSpec)

/-- ITS FALSE NEIGHBOUR: 'it returns false'. Refute it at one input. -/
def fnExactBatchJoinWrong : ChangeSpec := { name := "fnExactBatchJoin", vars := ["loop.example/recordbatches/impl.errNoJoin"], fn := fun _ => fun
  | [d1, d2, g1] => { results := [.lit (.bool false)], args := [d1, d2], vars := [g1] }
  | _ => none }
def FnExactBatchJoinWrongFalsely : Prop := fnExactBatchJoinRow.holds Tryd.pinned (OpenSpec.ofChange fnExactBatchJoinWrong)

/-- 'laws.FnExactBatchCut': WHATEVER THE INPUT: true; the input reads as it did. -/
def fnExactBatchCutSpec : ChangeSpec := { name := "fnExactBatchCut", vars := ["loop.example/recordbatches/impl.errNoCut"], fn := fun _ => fun
  | [d1, d2, g1] => { results := [.lit (.bool true)], args := [d1, d2], vars := [g1] }
  | _ => none }
def fnExactBatchCutRow : OpenClaim := { program := "ytfjkpdhldeopaaadoor", sum := "7cbe1794c3e52fed4875cc271409cace71de3302295612fad02007fd3f6da0cb", func := "loop.example/recordbatches/laws.FnExactBatchCut", spec := "fnExactBatchCut", inPlace := ["internal/reflectlite.TypeOf"], unfollowed := true, recurses := true, named := ["loop.example/recordbatches/impl.errNoCut"], ifaces := true, apart := false, laid := [("loop.example/recordbatches/impl.errNoCut", laid_loop_example_recordbatches_impl_errNoCut)] }
def FnExactBatchCutSaid : Prop := fnExactBatchCutRow.holds Tryd.pinned (OpenSpec.ofChange fnExactBatchCutSpec)

/-- ITS FALSE NEIGHBOUR: 'it returns false'. Refute it at one input. -/
def fnExactBatchCutWrong : ChangeSpec := { name := "fnExactBatchCut", vars := ["loop.example/recordbatches/impl.errNoCut"], fn := fun _ => fun
  | [d1, d2, g1] => { results := [.lit (.bool false)], args := [d1, d2], vars := [g1] }
  | _ => none }
def FnExactBatchCutWrongFalsely : Prop := fnExactBatchCutRow.holds Tryd.pinned (OpenSpec.ofChange fnExactBatchCutWrong)

/-- 'laws.FnExactLogCut': WHATEVER THE INPUT: true; the input reads as it did. -/
def fnExactLogCutSpec : ChangeSpec := { name := "fnExactLogCut", vars := ["loop.example/recordbatches/impl.errNoCut"], fn := fun _ => fun
  | [d1, d2, g1] => { results := [.lit (.bool true)], args := [d1, d2], vars := [g1] }
  | _ => none }
def fnExactLogCutRow : OpenClaim := { program := "ytfjkpdhldeopaaadoor", sum := "7cbe1794c3e52fed4875cc271409cace71de3302295612fad02007fd3f6da0cb", func := "loop.example/recordbatches/laws.FnExactLogCut", spec := "fnExactLogCut", inPlace := ["internal/reflectlite.TypeOf"], unfollowed := true, recurses := true, named := ["loop.example/recordbatches/impl.errNoCut"], ifaces := true, apart := false, laid := [("loop.example/recordbatches/impl.errNoCut", laid_loop_example_recordbatches_impl_errNoCut)] }
def FnExactLogCutSaid : Prop := fnExactLogCutRow.holds Tryd.pinned (OpenSpec.ofChange fnExactLogCutSpec)

/-- ITS FALSE NEIGHBOUR: 'it returns false'. Refute it at one input. -/
def fnExactLogCutWrong : ChangeSpec := { name := "fnExactLogCut", vars := ["loop.example/recordbatches/impl.errNoCut"], fn := fun _ => fun
  | [d1, d2, g1] => { results := [.lit (.bool false)], args := [d1, d2], vars := [g1] }
  | _ => none }
def FnExactLogCutWrongFalsely : Prop := fnExactLogCutRow.holds Tryd.pinned (OpenSpec.ofChange fnExactLogCutWrong)

/-- 'laws.FnExactLogEven': WHATEVER THE INPUT: true; the input reads as it did. -/
def fnExactLogEvenSpec : ChangeSpec := { name := "fnExactLogEven", vars := ["loop.example/recordbatches/impl.errNoJoin"], fn := fun _ => fun
  | [d, g1] => { results := [.lit (.bool true)], args := [d], vars := [g1] }
  | _ => none }
def fnExactLogEvenRow : OpenClaim := { program := "ytfjkpdhldeopaaadoor", sum := "7cbe1794c3e52fed4875cc271409cace71de3302295612fad02007fd3f6da0cb", func := "loop.example/recordbatches/laws.FnExactLogEven", spec := "fnExactLogEven", inPlace := ["internal/reflectlite.TypeOf"], unfollowed := true, recurses := true, named := ["loop.example/recordbatches/impl.errNoJoin"], ifaces := true, apart := false, laid := [("loop.example/recordbatches/impl.errNoJoin", laid_loop_example_recordbatches_impl_errNoJoin)] }
def FnExactLogEvenSaid : Prop := fnExactLogEvenRow.holds Tryd.pinned (OpenSpec.ofChange fnExactLogEvenSpec)

/-- ITS FALSE NEIGHBOUR: 'it returns false'. Refute it at one input. -/
def fnExactLogEvenWrong : ChangeSpec := { name := "fnExactLogEven", vars := ["loop.example/recordbatches/impl.errNoJoin"], fn := fun _ => fun
  | [d, g1] => { results := [.lit (.bool false)], args := [d], vars := [g1] }
  | _ => none }
def FnExactLogEvenWrongFalsely : Prop := fnExactLogEvenRow.holds Tryd.pinned (OpenSpec.ofChange fnExactLogEvenWrong)

/- THE SECOND FORM. 'bulk': how many values and letters a reading holds, each counted each time it is reached (what is shared counts as often as it is met; a slice's spare places count too). A statement '..UptoSaid' is the law's where the arguments, and the package variables that the reading takes, are together of bulk at most 1048576: NARROWER than '..Said'. Prove '..Said' where nothing that the law and all that it calls make is longer than what came in: it says more and counts as full. Else prove '..UptoSaid'. A law counts once. -/
mutual
def uptoBulk {H : Type} : DataW H → Nat
  | .lit (.string bytes) => bytes.length + 1
  | .lit _ => 1
  | .nil => 1
  | .ptr d => uptoBulk d + 1
  | .slice elems spare => uptoBulkAll elems + uptoBulkAll spare + 1
  | .agg parts => uptoBulkAll parts + 1
  | .iface _ d => uptoBulk d + 1
  | .map entries => uptoBulkEntries entries + 1
  | .held _ => 1
def uptoBulkAll {H : Type} : List (DataW H) → Nat
  | [] => 0
  | d :: r => uptoBulk d + uptoBulkAll r
def uptoBulkEntries {H : Type} : List (Lit × DataW H) → Nat
  | [] => 0
  | x :: r => uptoBulkEntry x + uptoBulkEntries r
def uptoBulkEntry {H : Type} : Lit × DataW H → Nat
  | (.string bytes, d) => bytes.length + uptoBulk d + 1
  | (_, d) => uptoBulk d + 1
 end
def uptoSmall : (H : Type) → List (DataW H) → Bool := fun _ ds => decide (uptoBulkAll ds ≤ 1048576)
def OpenSpec.upto (s : _root_.Go.ChangeSpec) : _root_.Go.OpenSpec := { _root_.Go.OpenSpec.ofChange s with cond := some uptoSmall }

/-- 'laws.FnExactBatchJoin', WHERE WHAT IT READS IS OF BULK AT MOST 1048576: true; the input reads as it did. -/
def fnExactBatchJoinUptoRow : OpenClaim := { program := "ytfjkpdhldeopaaadoor", sum := "7cbe1794c3e52fed4875cc271409cace71de3302295612fad02007fd3f6da0cb", func := "loop.example/recordbatches/laws.FnExactBatchJoin", spec := "fnExactBatchJoin", inPlace := ["internal/reflectlite.TypeOf"], unfollowed := true, recurses := true, named := ["loop.example/recordbatches/impl.errNoJoin"], ifaces := true, apart := false, laid := [("loop.example/recordbatches/impl.errNoJoin", laid_loop_example_recordbatches_impl_errNoJoin)], narrowed := true }
def FnExactBatchJoinUptoSaid : Prop := fnExactBatchJoinUptoRow.holds Tryd.pinned (OpenSpec.upto fnExactBatchJoinSpec)

/-- 'laws.FnExactBatchCut', WHERE WHAT IT READS IS OF BULK AT MOST 1048576: true; the input reads as it did. -/
def fnExactBatchCutUptoRow : OpenClaim := { program := "ytfjkpdhldeopaaadoor", sum := "7cbe1794c3e52fed4875cc271409cace71de3302295612fad02007fd3f6da0cb", func := "loop.example/recordbatches/laws.FnExactBatchCut", spec := "fnExactBatchCut", inPlace := ["internal/reflectlite.TypeOf"], unfollowed := true, recurses := true, named := ["loop.example/recordbatches/impl.errNoCut"], ifaces := true, apart := false, laid := [("loop.example/recordbatches/impl.errNoCut", laid_loop_example_recordbatches_impl_errNoCut)], narrowed := true }
def FnExactBatchCutUptoSaid : Prop := fnExactBatchCutUptoRow.holds Tryd.pinned (OpenSpec.upto fnExactBatchCutSpec)

/-- 'laws.FnExactLogCut', WHERE WHAT IT READS IS OF BULK AT MOST 1048576: true; the input reads as it did. -/
def fnExactLogCutUptoRow : OpenClaim := { program := "ytfjkpdhldeopaaadoor", sum := "7cbe1794c3e52fed4875cc271409cace71de3302295612fad02007fd3f6da0cb", func := "loop.example/recordbatches/laws.FnExactLogCut", spec := "fnExactLogCut", inPlace := ["internal/reflectlite.TypeOf"], unfollowed := true, recurses := true, named := ["loop.example/recordbatches/impl.errNoCut"], ifaces := true, apart := false, laid := [("loop.example/recordbatches/impl.errNoCut", laid_loop_example_recordbatches_impl_errNoCut)], narrowed := true }
def FnExactLogCutUptoSaid : Prop := fnExactLogCutUptoRow.holds Tryd.pinned (OpenSpec.upto fnExactLogCutSpec)

/-- 'laws.FnExactLogEven', WHERE WHAT IT READS IS OF BULK AT MOST 1048576: true; the input reads as it did. -/
def fnExactLogEvenUptoRow : OpenClaim := { program := "ytfjkpdhldeopaaadoor", sum := "7cbe1794c3e52fed4875cc271409cace71de3302295612fad02007fd3f6da0cb", func := "loop.example/recordbatches/laws.FnExactLogEven", spec := "fnExactLogEven", inPlace := ["internal/reflectlite.TypeOf"], unfollowed := true, recurses := true, named := ["loop.example/recordbatches/impl.errNoJoin"], ifaces := true, apart := false, laid := [("loop.example/recordbatches/impl.errNoJoin", laid_loop_example_recordbatches_impl_errNoJoin)], narrowed := true }
def FnExactLogEvenUptoSaid : Prop := fnExactLogEvenUptoRow.holds Tryd.pinned (OpenSpec.upto fnExactLogEvenSpec)

end Rows
end Go.Proofs.YtfjkpdhldeopaaaDoor
