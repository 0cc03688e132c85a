/-
  NARROWER THAN 'FOR EVERY INPUT', by the rows' own cells (each row's printed sentence says how): FnLogCut: ifaces, laid · FnLogCutEnd: ifaces, laid · FnLogCutTwice: ifaces, laid · FnExactLogCut: ifaces, laid · FnEven: ifaces, laid · FnEvenTwice: ifaces, laid · FnExactLogEven: ifaces, laid · FnEvenState: ifaces, laid.
  DERIVED. THE GIVEN ROWS OF THIS SEAT. 8 by the template 'for every input the law returns true; each argument reads behind the call as it read before'; 0 by the template 'total and deterministic' (their statements: YtbbboachakkgiaaDoorTotals.lean).
  GIVEN WITH THE SEED: the statements are not yours to turn. If you find one false, say at which input.
  Laid BY PROGRAM, IN A SANDBOX (cutbox-rows.mjs): the forced cells as the released guide's own fill.sh prints them over the translation 32379dc6ecd2cc17… (all of the seat's roots in one cut). By AI agents, Wed Nov 11 2026. No macro, syntax, notation, axiom, sorry.
-/
import Derived.Test.YtbbboachakkgiaaDoorChecked
import GoSem.Claim
import GoSem.ClaimJoined
import GoSem.ClaimMapViews
import Derived.JoinedTies
import Derived.KernelRfl
namespace Go.Proofs.YtbbboachakkgiaaDoor
/- THE CELL 'sum', in the pinned program and in every row, IS THE sha256 OF THE DUMP (.gsa) THAT YtbbboachakkgiaaDoorProg.lean LOADS. Nothing in Lean hashes anything: it is a label: what it is worth is what the hold of that sum in a sandbox is worth. -/
noncomputable def Tryd.pinned : Pinned := { name := "ytbbboachakkgiaadoor", sum := "32379dc6ecd2cc171e4324a713cc27850c2e3aeb22cc8dfdb32b523ab11333b5", checked := Tryd.checked }
namespace Rows
def none {H : Type} : Left H := { results := [], args := [] }

/- WHAT THE LISTED PACKAGE-LEVEL VARIABLES READ AS WHEN THE CALL BEGINS. Each datum BY PROGRAM (the guide's laid-datum.mjs) off the statement by which the dump's own 'gosem.cut.vars' lays the variable. In a bare row this is a premise. The card (YtbbboachakkgiaaDoorCards.lean) ties it to the program's text. -/
def laid_loop_example_recordbatches_impl_errNoCut {H : Type} : DataW H := .iface "*errors.errorString" (.ptr (.agg [.lit (.string [110, 111, 32, 99, 117, 116])]))
def laid_loop_example_recordbatches_impl_errNoJoin {H : Type} : DataW H := .iface "*errors.errorString" (.ptr (.agg [.lit (.string [110, 111, 32, 106, 111, 105, 110])]))

/-- 'laws.FnLogCut': WHATEVER THE INPUT: true; the input reads as it did. -/
def fnLogCutSpec : ChangeSpec := { name := "fnLogCut", vars := ["loop.example/recordbatches/impl.errNoCut"], fn := fun _ => fun
  | [d, g1] => { results := [.lit (.bool true)], args := [d], vars := [g1] }
  | _ => none }
def fnLogCutRow : OpenClaim := { program := "ytbbboachakkgiaadoor", sum := "32379dc6ecd2cc171e4324a713cc27850c2e3aeb22cc8dfdb32b523ab11333b5", func := "loop.example/recordbatches/laws.FnLogCut", spec := "fnLogCut", inPlace := ["internal/reflectlite.TypeOf"], unfollowed := true, recurses := true, named := ["loop.example/recordbatches/impl.errNoCut"], ifaces := true, apart := false, laid := [("loop.example/recordbatches/impl.errNoCut", laid_loop_example_recordbatches_impl_errNoCut)] }
def FnLogCutSaid : Prop := fnLogCutRow.holds Tryd.pinned (OpenSpec.ofChange fnLogCutSpec)

/-- ITS FALSE NEIGHBOUR: 'it returns false'. Refute it at one input. -/
def fnLogCutWrong : ChangeSpec := { name := "fnLogCut", vars := ["loop.example/recordbatches/impl.errNoCut"], fn := fun _ => fun
  | [d, g1] => { results := [.lit (.bool false)], args := [d], vars := [g1] }
  | _ => none }
def FnLogCutWrongFalsely : Prop := fnLogCutRow.holds Tryd.pinned (OpenSpec.ofChange fnLogCutWrong)

/-- 'laws.FnLogCutEnd': WHATEVER THE INPUT: true; the input reads as it did. -/
def fnLogCutEndSpec : ChangeSpec := { name := "fnLogCutEnd", vars := ["loop.example/recordbatches/impl.errNoCut"], fn := fun _ => fun
  | [d, g1] => { results := [.lit (.bool true)], args := [d], vars := [g1] }
  | _ => none }
def fnLogCutEndRow : OpenClaim := { program := "ytbbboachakkgiaadoor", sum := "32379dc6ecd2cc171e4324a713cc27850c2e3aeb22cc8dfdb32b523ab11333b5", func := "loop.example/recordbatches/laws.FnLogCutEnd", spec := "fnLogCutEnd", inPlace := ["internal/reflectlite.TypeOf"], unfollowed := true, recurses := true, named := ["loop.example/recordbatches/impl.errNoCut"], ifaces := true, apart := false, laid := [("loop.example/recordbatches/impl.errNoCut", laid_loop_example_recordbatches_impl_errNoCut)] }
def FnLogCutEndSaid : Prop := fnLogCutEndRow.holds Tryd.pinned (OpenSpec.ofChange fnLogCutEndSpec)

/-- ITS FALSE NEIGHBOUR: 'it returns false'. Refute it at one input. -/
def fnLogCutEndWrong : ChangeSpec := { name := "fnLogCutEnd", vars := ["loop.example/recordbatches/impl.errNoCut"], fn := fun _ => fun
  | [d, g1] => { results := [.lit (.bool false)], args := [d], vars := [g1] }
  | _ => none }
def FnLogCutEndWrongFalsely : Prop := fnLogCutEndRow.holds Tryd.pinned (OpenSpec.ofChange fnLogCutEndWrong)

/-- 'laws.FnLogCutTwice': WHATEVER THE INPUT: true; the input reads as it did. -/
def fnLogCutTwiceSpec : ChangeSpec := { name := "fnLogCutTwice", vars := ["loop.example/recordbatches/impl.errNoCut"], fn := fun _ => fun
  | [d, g1] => { results := [.lit (.bool true)], args := [d], vars := [g1] }
  | _ => none }
def fnLogCutTwiceRow : OpenClaim := { program := "ytbbboachakkgiaadoor", sum := "32379dc6ecd2cc171e4324a713cc27850c2e3aeb22cc8dfdb32b523ab11333b5", func := "loop.example/recordbatches/laws.FnLogCutTwice", spec := "fnLogCutTwice", inPlace := ["internal/reflectlite.TypeOf"], unfollowed := true, recurses := true, named := ["loop.example/recordbatches/impl.errNoCut"], ifaces := true, apart := false, laid := [("loop.example/recordbatches/impl.errNoCut", laid_loop_example_recordbatches_impl_errNoCut)] }
def FnLogCutTwiceSaid : Prop := fnLogCutTwiceRow.holds Tryd.pinned (OpenSpec.ofChange fnLogCutTwiceSpec)

/-- ITS FALSE NEIGHBOUR: 'it returns false'. Refute it at one input. -/
def fnLogCutTwiceWrong : ChangeSpec := { name := "fnLogCutTwice", vars := ["loop.example/recordbatches/impl.errNoCut"], fn := fun _ => fun
  | [d, g1] => { results := [.lit (.bool false)], args := [d], vars := [g1] }
  | _ => none }
def FnLogCutTwiceWrongFalsely : Prop := fnLogCutTwiceRow.holds Tryd.pinned (OpenSpec.ofChange fnLogCutTwiceWrong)

/-- 'laws.FnExactLogCut': WHATEVER THE INPUT: true; the input reads as it did. -/
def fnExactLogCutSpec : ChangeSpec := { name := "fnExactLogCut", vars := ["loop.example/recordbatches/impl.errNoCut"], fn := fun _ => fun
  | [d1, d2, g1] => { results := [.lit (.bool true)], args := [d1, d2], vars := [g1] }
  | _ => none }
def fnExactLogCutRow : OpenClaim := { program := "ytbbboachakkgiaadoor", sum := "32379dc6ecd2cc171e4324a713cc27850c2e3aeb22cc8dfdb32b523ab11333b5", func := "loop.example/recordbatches/laws.FnExactLogCut", spec := "fnExactLogCut", inPlace := ["internal/reflectlite.TypeOf"], unfollowed := true, recurses := true, named := ["loop.example/recordbatches/impl.errNoCut"], ifaces := true, apart := false, laid := [("loop.example/recordbatches/impl.errNoCut", laid_loop_example_recordbatches_impl_errNoCut)] }
def FnExactLogCutSaid : Prop := fnExactLogCutRow.holds Tryd.pinned (OpenSpec.ofChange fnExactLogCutSpec)

/-- ITS FALSE NEIGHBOUR: 'it returns false'. Refute it at one input. -/
def fnExactLogCutWrong : ChangeSpec := { name := "fnExactLogCut", vars := ["loop.example/recordbatches/impl.errNoCut"], fn := fun _ => fun
  | [d1, d2, g1] => { results := [.lit (.bool false)], args := [d1, d2], vars := [g1] }
  | _ => none }
def FnExactLogCutWrongFalsely : Prop := fnExactLogCutRow.holds Tryd.pinned (OpenSpec.ofChange fnExactLogCutWrong)

/-- 'laws.FnEven': WHATEVER THE INPUT: true; the input reads as it did. -/
def fnEvenSpec : ChangeSpec := { name := "fnEven", vars := ["loop.example/recordbatches/impl.errNoJoin"], fn := fun _ => fun
  | [d, g1] => { results := [.lit (.bool true)], args := [d], vars := [g1] }
  | _ => none }
def fnEvenRow : OpenClaim := { program := "ytbbboachakkgiaadoor", sum := "32379dc6ecd2cc171e4324a713cc27850c2e3aeb22cc8dfdb32b523ab11333b5", func := "loop.example/recordbatches/laws.FnEven", spec := "fnEven", inPlace := ["internal/reflectlite.TypeOf"], unfollowed := true, recurses := true, named := ["loop.example/recordbatches/impl.errNoJoin"], ifaces := true, apart := false, laid := [("loop.example/recordbatches/impl.errNoJoin", laid_loop_example_recordbatches_impl_errNoJoin)] }
def FnEvenSaid : Prop := fnEvenRow.holds Tryd.pinned (OpenSpec.ofChange fnEvenSpec)

/-- ITS FALSE NEIGHBOUR: 'it returns false'. Refute it at one input. -/
def fnEvenWrong : ChangeSpec := { name := "fnEven", vars := ["loop.example/recordbatches/impl.errNoJoin"], fn := fun _ => fun
  | [d, g1] => { results := [.lit (.bool false)], args := [d], vars := [g1] }
  | _ => none }
def FnEvenWrongFalsely : Prop := fnEvenRow.holds Tryd.pinned (OpenSpec.ofChange fnEvenWrong)

/-- 'laws.FnEvenTwice': WHATEVER THE INPUT: true; the input reads as it did. -/
def fnEvenTwiceSpec : ChangeSpec := { name := "fnEvenTwice", vars := ["loop.example/recordbatches/impl.errNoJoin"], fn := fun _ => fun
  | [d, g1] => { results := [.lit (.bool true)], args := [d], vars := [g1] }
  | _ => none }
def fnEvenTwiceRow : OpenClaim := { program := "ytbbboachakkgiaadoor", sum := "32379dc6ecd2cc171e4324a713cc27850c2e3aeb22cc8dfdb32b523ab11333b5", func := "loop.example/recordbatches/laws.FnEvenTwice", spec := "fnEvenTwice", inPlace := ["internal/reflectlite.TypeOf"], unfollowed := true, recurses := true, named := ["loop.example/recordbatches/impl.errNoJoin"], ifaces := true, apart := false, laid := [("loop.example/recordbatches/impl.errNoJoin", laid_loop_example_recordbatches_impl_errNoJoin)] }
def FnEvenTwiceSaid : Prop := fnEvenTwiceRow.holds Tryd.pinned (OpenSpec.ofChange fnEvenTwiceSpec)

/-- ITS FALSE NEIGHBOUR: 'it returns false'. Refute it at one input. -/
def fnEvenTwiceWrong : ChangeSpec := { name := "fnEvenTwice", vars := ["loop.example/recordbatches/impl.errNoJoin"], fn := fun _ => fun
  | [d, g1] => { results := [.lit (.bool false)], args := [d], vars := [g1] }
  | _ => none }
def FnEvenTwiceWrongFalsely : Prop := fnEvenTwiceRow.holds Tryd.pinned (OpenSpec.ofChange fnEvenTwiceWrong)

/-- 'laws.FnExactLogEven': WHATEVER THE INPUT: true; the input reads as it did. -/
def fnExactLogEvenSpec : ChangeSpec := { name := "fnExactLogEven", vars := ["loop.example/recordbatches/impl.errNoJoin"], fn := fun _ => fun
  | [d, g1] => { results := [.lit (.bool true)], args := [d], vars := [g1] }
  | _ => none }
def fnExactLogEvenRow : OpenClaim := { program := "ytbbboachakkgiaadoor", sum := "32379dc6ecd2cc171e4324a713cc27850c2e3aeb22cc8dfdb32b523ab11333b5", func := "loop.example/recordbatches/laws.FnExactLogEven", spec := "fnExactLogEven", inPlace := ["internal/reflectlite.TypeOf"], unfollowed := true, recurses := true, named := ["loop.example/recordbatches/impl.errNoJoin"], ifaces := true, apart := false, laid := [("loop.example/recordbatches/impl.errNoJoin", laid_loop_example_recordbatches_impl_errNoJoin)] }
def FnExactLogEvenSaid : Prop := fnExactLogEvenRow.holds Tryd.pinned (OpenSpec.ofChange fnExactLogEvenSpec)

/-- ITS FALSE NEIGHBOUR: 'it returns false'. Refute it at one input. -/
def fnExactLogEvenWrong : ChangeSpec := { name := "fnExactLogEven", vars := ["loop.example/recordbatches/impl.errNoJoin"], fn := fun _ => fun
  | [d, g1] => { results := [.lit (.bool false)], args := [d], vars := [g1] }
  | _ => none }
def FnExactLogEvenWrongFalsely : Prop := fnExactLogEvenRow.holds Tryd.pinned (OpenSpec.ofChange fnExactLogEvenWrong)

/-- 'laws.FnEvenState': WHATEVER THE INPUT: true; the input reads as it did. -/
def fnEvenStateSpec : ChangeSpec := { name := "fnEvenState", vars := ["loop.example/recordbatches/impl.errNoJoin"], fn := fun _ => fun
  | [d, g1] => { results := [.lit (.bool true)], args := [d], vars := [g1] }
  | _ => none }
def fnEvenStateRow : OpenClaim := { program := "ytbbboachakkgiaadoor", sum := "32379dc6ecd2cc171e4324a713cc27850c2e3aeb22cc8dfdb32b523ab11333b5", func := "loop.example/recordbatches/laws.FnEvenState", spec := "fnEvenState", inPlace := ["internal/reflectlite.TypeOf", "internal/abi.NoEscape"], unfollowed := true, recurses := true, named := ["loop.example/recordbatches/impl.errNoJoin"], ifaces := true, apart := false, laid := [("loop.example/recordbatches/impl.errNoJoin", laid_loop_example_recordbatches_impl_errNoJoin)] }
def FnEvenStateSaid : Prop := fnEvenStateRow.holds Tryd.pinned (OpenSpec.ofChange fnEvenStateSpec)

/-- ITS FALSE NEIGHBOUR: 'it returns false'. Refute it at one input. -/
def fnEvenStateWrong : ChangeSpec := { name := "fnEvenState", vars := ["loop.example/recordbatches/impl.errNoJoin"], fn := fun _ => fun
  | [d, g1] => { results := [.lit (.bool false)], args := [d], vars := [g1] }
  | _ => none }
def FnEvenStateWrongFalsely : Prop := fnEvenStateRow.holds Tryd.pinned (OpenSpec.ofChange fnEvenStateWrong)

/- THE SECOND FORM. 'bulk': how many values and letters a reading holds, each counted each time it is reached (what is shared counts as often as it is met; a slice's spare places count too). A statement '..UptoSaid' is the law's where the arguments, and the package variables that the reading takes, are together of bulk at most 1048576: NARROWER than '..Said'. Prove '..Said' where nothing that the law and all that it calls make is longer than what came in: it says more and counts as full. Else prove '..UptoSaid'. A law counts once. -/
mutual
def uptoBulk {H : Type} : DataW H → Nat
  | .lit (.string bytes) => bytes.length + 1
  | .lit _ => 1
  | .nil => 1
  | .ptr d => uptoBulk d + 1
  | .slice elems spare => uptoBulkAll elems + uptoBulkAll spare + 1
  | .agg parts => uptoBulkAll parts + 1
  | .iface _ d => uptoBulk d + 1
  | .map entries => uptoBulkEntries entries + 1
  | .held _ => 1
def uptoBulkAll {H : Type} : List (DataW H) → Nat
  | [] => 0
  | d :: r => uptoBulk d + uptoBulkAll r
def uptoBulkEntries {H : Type} : List (Lit × DataW H) → Nat
  | [] => 0
  | x :: r => uptoBulkEntry x + uptoBulkEntries r
def uptoBulkEntry {H : Type} : Lit × DataW H → Nat
  | (.string bytes, d) => bytes.length + uptoBulk d + 1
  | (_, d) => uptoBulk d + 1
 end
def uptoSmall : (H : Type) → List (DataW H) → Bool := fun _ ds => decide (uptoBulkAll ds ≤ 1048576)
def OpenSpec.upto (s : _root_.Go.ChangeSpec) : _root_.Go.OpenSpec := { _root_.Go.OpenSpec.ofChange s with cond := some uptoSmall }

/-- 'laws.FnLogCut', WHERE WHAT IT READS IS OF BULK AT MOST 1048576: true; the input reads as it did. -/
def fnLogCutUptoRow : OpenClaim := { program := "ytbbboachakkgiaadoor", sum := "32379dc6ecd2cc171e4324a713cc27850c2e3aeb22cc8dfdb32b523ab11333b5", func := "loop.example/recordbatches/laws.FnLogCut", spec := "fnLogCut", inPlace := ["internal/reflectlite.TypeOf"], unfollowed := true, recurses := true, named := ["loop.example/recordbatches/impl.errNoCut"], ifaces := true, apart := false, laid := [("loop.example/recordbatches/impl.errNoCut", laid_loop_example_recordbatches_impl_errNoCut)], narrowed := true }
def FnLogCutUptoSaid : Prop := fnLogCutUptoRow.holds Tryd.pinned (OpenSpec.upto fnLogCutSpec)

/-- 'laws.FnLogCutEnd', WHERE WHAT IT READS IS OF BULK AT MOST 1048576: true; the input reads as it did. -/
def fnLogCutEndUptoRow : OpenClaim := { program := "ytbbboachakkgiaadoor", sum := "32379dc6ecd2cc171e4324a713cc27850c2e3aeb22cc8dfdb32b523ab11333b5", func := "loop.example/recordbatches/laws.FnLogCutEnd", spec := "fnLogCutEnd", inPlace := ["internal/reflectlite.TypeOf"], unfollowed := true, recurses := true, named := ["loop.example/recordbatches/impl.errNoCut"], ifaces := true, apart := false, laid := [("loop.example/recordbatches/impl.errNoCut", laid_loop_example_recordbatches_impl_errNoCut)], narrowed := true }
def FnLogCutEndUptoSaid : Prop := fnLogCutEndUptoRow.holds Tryd.pinned (OpenSpec.upto fnLogCutEndSpec)

/-- 'laws.FnLogCutTwice', WHERE WHAT IT READS IS OF BULK AT MOST 1048576: true; the input reads as it did. -/
def fnLogCutTwiceUptoRow : OpenClaim := { program := "ytbbboachakkgiaadoor", sum := "32379dc6ecd2cc171e4324a713cc27850c2e3aeb22cc8dfdb32b523ab11333b5", func := "loop.example/recordbatches/laws.FnLogCutTwice", spec := "fnLogCutTwice", inPlace := ["internal/reflectlite.TypeOf"], unfollowed := true, recurses := true, named := ["loop.example/recordbatches/impl.errNoCut"], ifaces := true, apart := false, laid := [("loop.example/recordbatches/impl.errNoCut", laid_loop_example_recordbatches_impl_errNoCut)], narrowed := true }
def FnLogCutTwiceUptoSaid : Prop := fnLogCutTwiceUptoRow.holds Tryd.pinned (OpenSpec.upto fnLogCutTwiceSpec)

/-- 'laws.FnExactLogCut', WHERE WHAT IT READS IS OF BULK AT MOST 1048576: true; the input reads as it did. -/
def fnExactLogCutUptoRow : OpenClaim := { program := "ytbbboachakkgiaadoor", sum := "32379dc6ecd2cc171e4324a713cc27850c2e3aeb22cc8dfdb32b523ab11333b5", func := "loop.example/recordbatches/laws.FnExactLogCut", spec := "fnExactLogCut", inPlace := ["internal/reflectlite.TypeOf"], unfollowed := true, recurses := true, named := ["loop.example/recordbatches/impl.errNoCut"], ifaces := true, apart := false, laid := [("loop.example/recordbatches/impl.errNoCut", laid_loop_example_recordbatches_impl_errNoCut)], narrowed := true }
def FnExactLogCutUptoSaid : Prop := fnExactLogCutUptoRow.holds Tryd.pinned (OpenSpec.upto fnExactLogCutSpec)

/-- 'laws.FnEven', WHERE WHAT IT READS IS OF BULK AT MOST 1048576: true; the input reads as it did. -/
def fnEvenUptoRow : OpenClaim := { program := "ytbbboachakkgiaadoor", sum := "32379dc6ecd2cc171e4324a713cc27850c2e3aeb22cc8dfdb32b523ab11333b5", func := "loop.example/recordbatches/laws.FnEven", spec := "fnEven", inPlace := ["internal/reflectlite.TypeOf"], unfollowed := true, recurses := true, named := ["loop.example/recordbatches/impl.errNoJoin"], ifaces := true, apart := false, laid := [("loop.example/recordbatches/impl.errNoJoin", laid_loop_example_recordbatches_impl_errNoJoin)], narrowed := true }
def FnEvenUptoSaid : Prop := fnEvenUptoRow.holds Tryd.pinned (OpenSpec.upto fnEvenSpec)

/-- 'laws.FnEvenTwice', WHERE WHAT IT READS IS OF BULK AT MOST 1048576: true; the input reads as it did. -/
def fnEvenTwiceUptoRow : OpenClaim := { program := "ytbbboachakkgiaadoor", sum := "32379dc6ecd2cc171e4324a713cc27850c2e3aeb22cc8dfdb32b523ab11333b5", func := "loop.example/recordbatches/laws.FnEvenTwice", spec := "fnEvenTwice", inPlace := ["internal/reflectlite.TypeOf"], unfollowed := true, recurses := true, named := ["loop.example/recordbatches/impl.errNoJoin"], ifaces := true, apart := false, laid := [("loop.example/recordbatches/impl.errNoJoin", laid_loop_example_recordbatches_impl_errNoJoin)], narrowed := true }
def FnEvenTwiceUptoSaid : Prop := fnEvenTwiceUptoRow.holds Tryd.pinned (OpenSpec.upto fnEvenTwiceSpec)

/-- 'laws.FnExactLogEven', WHERE WHAT IT READS IS OF BULK AT MOST 1048576: true; the input reads as it did. -/
def fnExactLogEvenUptoRow : OpenClaim := { program := "ytbbboachakkgiaadoor", sum := "32379dc6ecd2cc171e4324a713cc27850c2e3aeb22cc8dfdb32b523ab11333b5", func := "loop.example/recordbatches/laws.FnExactLogEven", spec := "fnExactLogEven", inPlace := ["internal/reflectlite.TypeOf"], unfollowed := true, recurses := true, named := ["loop.example/recordbatches/impl.errNoJoin"], ifaces := true, apart := false, laid := [("loop.example/recordbatches/impl.errNoJoin", laid_loop_example_recordbatches_impl_errNoJoin)], narrowed := true }
def FnExactLogEvenUptoSaid : Prop := fnExactLogEvenUptoRow.holds Tryd.pinned (OpenSpec.upto fnExactLogEvenSpec)

/-- 'laws.FnEvenState', WHERE WHAT IT READS IS OF BULK AT MOST 1048576: true; the input reads as it did. -/
def fnEvenStateUptoRow : OpenClaim := { program := "ytbbboachakkgiaadoor", sum := "32379dc6ecd2cc171e4324a713cc27850c2e3aeb22cc8dfdb32b523ab11333b5", func := "loop.example/recordbatches/laws.FnEvenState", spec := "fnEvenState", inPlace := ["internal/reflectlite.TypeOf", "internal/abi.NoEscape"], unfollowed := true, recurses := true, named := ["loop.example/recordbatches/impl.errNoJoin"], ifaces := true, apart := false, laid := [("loop.example/recordbatches/impl.errNoJoin", laid_loop_example_recordbatches_impl_errNoJoin)], narrowed := true }
def FnEvenStateUptoSaid : Prop := fnEvenStateUptoRow.holds Tryd.pinned (OpenSpec.upto fnEvenStateSpec)

end Rows
end Go.Proofs.YtbbboachakkgiaaDoor
