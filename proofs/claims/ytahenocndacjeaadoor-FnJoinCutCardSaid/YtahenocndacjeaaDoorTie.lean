/-
  DERIVED. GIVEN WITH THE SEED: THE PROGRAM's TIES (one call each: nine closed facts by the kernel) AND EACH ROW's TIE, after the 31st guide's Derived/Test/Toyas{Tie, Card}.lean. No idea stands in it: it is a product of the set-up. Laid BY PROGRAM, IN A SANDBOX (cutbox-door.mjs). By AI agents, Wed Nov 11 2026. No macro, syntax, notation, axiom, sorry.
-/
import Derived.Test.YtahenocndacjeaaDoorRows
import Derived.LaidByTextLater
import Derived.SevenTiedAt
import Derived.LaidSub
import Derived.LaidOnce
namespace Go.Proofs.YtahenocndacjeaaDoor
open Go
set_option maxRecDepth 100000
theorem seatTie1 : Tryd.prog.laidByTextLater [("loop.example/recordbatches/impl.errNoCut", Rows.laid_loop_example_recordbatches_impl_errNoCut), ("loop.example/recordbatches/impl.errNoJoin", Rows.laid_loop_example_recordbatches_impl_errNoJoin)] [.sentinel, .sentinel] true :=
  Program.laidByTextLater_by_one 47 8 2 (by kernel_rfl) (by kernel_rfl) (by kernel_rfl) (by kernel_rfl) (by kernel_rfl) (by kernel_rfl) (fun _ _ => by kernel_rfl)
theorem noOwnUnsafe : Tryd.pinned.checked.prog.headLifts.contains "ownunsafe" = false := by kernel_rfl
theorem tie : Tryd.prog.laidByTextLater [("loop.example/recordbatches/impl.errNoCut", Rows.laid_loop_example_recordbatches_impl_errNoCut)] [.sentinel] true :=
  Program.laidByTextLater.sub seatTie1 ["loop.example/recordbatches/impl.errNoCut"] (by kernel_rfl) (by kernel_rfl)
theorem fnCut_row_tie : Rows.fnCutRow.laidByTextAt .later Tryd.pinned [.sentinel] true :=
  OpenClaim.laidByTextAt_later rfl rfl tie noOwnUnsafe
theorem fnExactBatchCut_row_tie : Rows.fnExactBatchCutRow.laidByTextAt .later Tryd.pinned [.sentinel] true :=
  OpenClaim.laidByTextAt_later rfl rfl tie noOwnUnsafe
theorem tie2 : Tryd.prog.laidByTextLater [("loop.example/recordbatches/impl.errNoCut", Rows.laid_loop_example_recordbatches_impl_errNoCut), ("loop.example/recordbatches/impl.errNoJoin", Rows.laid_loop_example_recordbatches_impl_errNoJoin)] [.sentinel, .sentinel] true :=
  Program.laidByTextLater.sub seatTie1 ["loop.example/recordbatches/impl.errNoCut", "loop.example/recordbatches/impl.errNoJoin"] (by kernel_rfl) (by kernel_rfl)
theorem fnCutJoin_row_tie : Rows.fnCutJoinRow.laidByTextAt .later Tryd.pinned [.sentinel, .sentinel] true :=
  OpenClaim.laidByTextAt_later rfl rfl tie2 noOwnUnsafe
theorem fnJoinCut_row_tie : Rows.fnJoinCutRow.laidByTextAt .later Tryd.pinned [.sentinel, .sentinel] true :=
  OpenClaim.laidByTextAt_later rfl rfl tie2 noOwnUnsafe
theorem tie3 : Tryd.prog.laidByTextLater [("loop.example/recordbatches/impl.errNoJoin", Rows.laid_loop_example_recordbatches_impl_errNoJoin)] [.sentinel] true :=
  Program.laidByTextLater.sub seatTie1 ["loop.example/recordbatches/impl.errNoJoin"] (by kernel_rfl) (by kernel_rfl)
theorem fnExactBatchJoin_row_tie : Rows.fnExactBatchJoinRow.laidByTextAt .later Tryd.pinned [.sentinel] true :=
  OpenClaim.laidByTextAt_later rfl rfl tie3 noOwnUnsafe
theorem fnCutUpto_row_tie : Rows.fnCutUptoRow.laidByTextAt .later Tryd.pinned [.sentinel] true :=
  OpenClaim.laidByTextAt_later rfl rfl tie noOwnUnsafe
theorem fnCutJoinUpto_row_tie : Rows.fnCutJoinUptoRow.laidByTextAt .later Tryd.pinned [.sentinel, .sentinel] true :=
  OpenClaim.laidByTextAt_later rfl rfl tie2 noOwnUnsafe
theorem fnJoinCutUpto_row_tie : Rows.fnJoinCutUptoRow.laidByTextAt .later Tryd.pinned [.sentinel, .sentinel] true :=
  OpenClaim.laidByTextAt_later rfl rfl tie2 noOwnUnsafe
theorem fnExactBatchCutUpto_row_tie : Rows.fnExactBatchCutUptoRow.laidByTextAt .later Tryd.pinned [.sentinel] true :=
  OpenClaim.laidByTextAt_later rfl rfl tie noOwnUnsafe
theorem fnExactBatchJoinUpto_row_tie : Rows.fnExactBatchJoinUptoRow.laidByTextAt .later Tryd.pinned [.sentinel] true :=
  OpenClaim.laidByTextAt_later rfl rfl tie3 noOwnUnsafe
end Go.Proofs.YtahenocndacjeaaDoor
