/-
  No cell of these rows narrows 'for every input' (looked for: loops, veiled, ifaces, maps, wideKeys, modest, calm, conditions, laid).
  DERIVED. THE GIVEN ROWS OF THIS SEAT. 4 by the template 'for every input the law returns true; each argument reads behind the call as it read before'; 0 by the template 'total and deterministic' (their statements: YtkihdohphddjaaaTotals.lean).
  GIVEN WITH THE SEED: the statements are not yours to turn. If you find one false, say at which input.
  Laid BY PROGRAM, IN A SANDBOX (cutbox-rows.mjs): the forced cells as the released guide's own fill.sh prints them over the translation 6a05e3deb4e47309… (all of the seat's roots in one cut). By AI agents, Wed Nov 11 2026. No macro, syntax, notation, axiom, sorry.
-/
import Derived.Test.YtkihdohphddjaaaChecked
import GoSem.Claim
import GoSem.ClaimJoined
import GoSem.ClaimMapViews
import Derived.JoinedTies
import Derived.KernelRfl
namespace Go.Proofs.Ytkihdohphddjaaa
/- THE CELL 'sum', in the pinned program and in every row, IS THE sha256 OF THE DUMP (.gsa) THAT YtkihdohphddjaaaProg.lean LOADS. Nothing in Lean hashes anything: it is a label: what it is worth is what the hold of that sum in a sandbox is worth. -/
noncomputable def Try.pinned : Pinned := { name := "ytkihdohphddjaaa", sum := "6a05e3deb4e473099a446424022592d2b2d08128a17beb2a15da296359433bc5", checked := Try.checked }
namespace Rows
def none {H : Type} : Left H := { results := [], args := [] }

/-- 'laws.FnGroups': WHATEVER THE INPUT: true; the input reads as it did. -/
def fnGroupsSpec : ChangeSpec := { name := "fnGroups", fn := fun _ => fun
  | [d] => { results := [.lit (.bool true)], args := [d] }
  | _ => none }
def fnGroupsRow : OpenClaim := { program := "ytkihdohphddjaaa", sum := "6a05e3deb4e473099a446424022592d2b2d08128a17beb2a15da296359433bc5", func := "loop.example/recordbatches/laws.FnGroups", spec := "fnGroups", inPlace := ["(*internal/sync.Mutex).Lock", "internal/race.Disable", "sync/atomic.CompareAndSwapInt32", "internal/race.Enable", "internal/race.Acquire", "(*internal/sync.Mutex).lockSlow", "internal/sync.runtime_canSpin", "internal/sync.runtime_doSpin", "internal/sync.throw", "internal/sync.runtime_nanotime", "internal/sync.runtime_SemacquireMutex", "sync/atomic.AddInt32", "(*internal/sync.Mutex).Unlock", "internal/race.ReleaseMerge", "(*internal/sync.Mutex).unlockSlow", "internal/sync.fatal", "internal/sync.runtime_Semrelease", "internal/bytealg.abigen_runtime_cmpstring", "slices.overlaps[loop.example/recordbatches/impl.Group]"], unfollowed := true, recurses := true, apart := false }
def FnGroupsSaid : Prop := fnGroupsRow.holds Try.pinned (OpenSpec.ofChange fnGroupsSpec)

/-- ITS FALSE NEIGHBOUR: 'it returns false'. Refute it at one input. -/
def fnGroupsWrong : ChangeSpec := { name := "fnGroups", fn := fun _ => fun
  | [d] => { results := [.lit (.bool false)], args := [d] }
  | _ => none }
def FnGroupsWrongFalsely : Prop := fnGroupsRow.holds Try.pinned (OpenSpec.ofChange fnGroupsWrong)

/-- 'laws.FnGroupsTwice': WHATEVER THE INPUT: true; the input reads as it did. -/
def fnGroupsTwiceSpec : ChangeSpec := { name := "fnGroupsTwice", fn := fun _ => fun
  | [d] => { results := [.lit (.bool true)], args := [d] }
  | _ => none }
def fnGroupsTwiceRow : OpenClaim := { program := "ytkihdohphddjaaa", sum := "6a05e3deb4e473099a446424022592d2b2d08128a17beb2a15da296359433bc5", func := "loop.example/recordbatches/laws.FnGroupsTwice", spec := "fnGroupsTwice", inPlace := ["(*internal/sync.Mutex).Lock", "internal/race.Disable", "sync/atomic.CompareAndSwapInt32", "internal/race.Enable", "internal/race.Acquire", "(*internal/sync.Mutex).lockSlow", "internal/sync.runtime_canSpin", "internal/sync.runtime_doSpin", "internal/sync.throw", "internal/sync.runtime_nanotime", "internal/sync.runtime_SemacquireMutex", "sync/atomic.AddInt32", "(*internal/sync.Mutex).Unlock", "internal/race.ReleaseMerge", "(*internal/sync.Mutex).unlockSlow", "internal/sync.fatal", "internal/sync.runtime_Semrelease", "internal/bytealg.abigen_runtime_cmpstring", "slices.overlaps[loop.example/recordbatches/impl.Group]"], unfollowed := true, recurses := true, apart := false }
def FnGroupsTwiceSaid : Prop := fnGroupsTwiceRow.holds Try.pinned (OpenSpec.ofChange fnGroupsTwiceSpec)

/-- ITS FALSE NEIGHBOUR: 'it returns false'. Refute it at one input. -/
def fnGroupsTwiceWrong : ChangeSpec := { name := "fnGroupsTwice", fn := fun _ => fun
  | [d] => { results := [.lit (.bool false)], args := [d] }
  | _ => none }
def FnGroupsTwiceWrongFalsely : Prop := fnGroupsTwiceRow.holds Try.pinned (OpenSpec.ofChange fnGroupsTwiceWrong)

/-- 'laws.FnExactGroupsPut': WHATEVER THE INPUT: true; the input reads as it did. -/
def fnExactGroupsPutSpec : ChangeSpec := { name := "fnExactGroupsPut", fn := fun _ => fun
  | [d1, d2] => { results := [.lit (.bool true)], args := [d1, d2] }
  | _ => none }
def fnExactGroupsPutRow : OpenClaim := { program := "ytkihdohphddjaaa", sum := "6a05e3deb4e473099a446424022592d2b2d08128a17beb2a15da296359433bc5", func := "loop.example/recordbatches/laws.FnExactGroupsPut", spec := "fnExactGroupsPut", inPlace := ["(*internal/sync.Mutex).Lock", "internal/race.Disable", "sync/atomic.CompareAndSwapInt32", "internal/race.Enable", "internal/race.Acquire", "(*internal/sync.Mutex).lockSlow", "internal/sync.runtime_canSpin", "internal/sync.runtime_doSpin", "internal/sync.throw", "internal/sync.runtime_nanotime", "internal/sync.runtime_SemacquireMutex", "sync/atomic.AddInt32", "(*internal/sync.Mutex).Unlock", "internal/race.ReleaseMerge", "(*internal/sync.Mutex).unlockSlow", "internal/sync.fatal", "internal/sync.runtime_Semrelease", "internal/bytealg.abigen_runtime_cmpstring", "slices.overlaps[loop.example/recordbatches/impl.Group]"], unfollowed := true, recurses := true, apart := false }
def FnExactGroupsPutSaid : Prop := fnExactGroupsPutRow.holds Try.pinned (OpenSpec.ofChange fnExactGroupsPutSpec)

/-- ITS FALSE NEIGHBOUR: 'it returns false'. Refute it at one input. -/
def fnExactGroupsPutWrong : ChangeSpec := { name := "fnExactGroupsPut", fn := fun _ => fun
  | [d1, d2] => { results := [.lit (.bool false)], args := [d1, d2] }
  | _ => none }
def FnExactGroupsPutWrongFalsely : Prop := fnExactGroupsPutRow.holds Try.pinned (OpenSpec.ofChange fnExactGroupsPutWrong)

/-- 'laws.FnGroupsLeftEnd': WHATEVER THE INPUT: true; the input reads as it did. -/
def fnGroupsLeftEndSpec : ChangeSpec := { name := "fnGroupsLeftEnd", fn := fun _ => fun
  | [d] => { results := [.lit (.bool true)], args := [d] }
  | _ => none }
def fnGroupsLeftEndRow : OpenClaim := { program := "ytkihdohphddjaaa", sum := "6a05e3deb4e473099a446424022592d2b2d08128a17beb2a15da296359433bc5", func := "loop.example/recordbatches/laws.FnGroupsLeftEnd", spec := "fnGroupsLeftEnd", inPlace := ["(*internal/sync.Mutex).Lock", "internal/race.Disable", "sync/atomic.CompareAndSwapInt32", "internal/race.Enable", "internal/race.Acquire", "(*internal/sync.Mutex).lockSlow", "internal/sync.runtime_canSpin", "internal/sync.runtime_doSpin", "internal/sync.throw", "internal/sync.runtime_nanotime", "internal/sync.runtime_SemacquireMutex", "sync/atomic.AddInt32", "(*internal/sync.Mutex).Unlock", "internal/race.ReleaseMerge", "(*internal/sync.Mutex).unlockSlow", "internal/sync.fatal", "internal/sync.runtime_Semrelease", "internal/bytealg.abigen_runtime_cmpstring", "slices.overlaps[loop.example/recordbatches/impl.Group]"], unfollowed := true, recurses := true, apart := false }
def FnGroupsLeftEndSaid : Prop := fnGroupsLeftEndRow.holds Try.pinned (OpenSpec.ofChange fnGroupsLeftEndSpec)

/-- ITS FALSE NEIGHBOUR: 'it returns false'. Refute it at one input. -/
def fnGroupsLeftEndWrong : ChangeSpec := { name := "fnGroupsLeftEnd", fn := fun _ => fun
  | [d] => { results := [.lit (.bool false)], args := [d] }
  | _ => none }
def FnGroupsLeftEndWrongFalsely : Prop := fnGroupsLeftEndRow.holds Try.pinned (OpenSpec.ofChange fnGroupsLeftEndWrong)

/- THE SECOND FORM. 'bulk': how many values and letters a reading holds, each counted each time it is reached (what is shared counts as often as it is met; a slice's spare places count too). A statement '..UptoSaid' is the law's where the arguments, and the package variables that the reading takes, are together of bulk at most 1048576: NARROWER than '..Said'. Prove '..Said' where nothing that the law and all that it calls make is longer than what came in: it says more and counts as full. Else prove '..UptoSaid'. A law counts once. -/
mutual
def uptoBulk {H : Type} : DataW H → Nat
  | .lit (.string bytes) => bytes.length + 1
  | .lit _ => 1
  | .nil => 1
  | .ptr d => uptoBulk d + 1
  | .slice elems spare => uptoBulkAll elems + uptoBulkAll spare + 1
  | .agg parts => uptoBulkAll parts + 1
  | .iface _ d => uptoBulk d + 1
  | .map entries => uptoBulkEntries entries + 1
  | .held _ => 1
def uptoBulkAll {H : Type} : List (DataW H) → Nat
  | [] => 0
  | d :: r => uptoBulk d + uptoBulkAll r
def uptoBulkEntries {H : Type} : List (Lit × DataW H) → Nat
  | [] => 0
  | x :: r => uptoBulkEntry x + uptoBulkEntries r
def uptoBulkEntry {H : Type} : Lit × DataW H → Nat
  | (.string bytes, d) => bytes.length + uptoBulk d + 1
  | (_, d) => uptoBulk d + 1
 end
def uptoSmall : (H : Type) → List (DataW H) → Bool := fun _ ds => decide (uptoBulkAll ds ≤ 1048576)
def OpenSpec.upto (s : _root_.Go.ChangeSpec) : _root_.Go.OpenSpec := { _root_.Go.OpenSpec.ofChange s with cond := some uptoSmall }

/-- 'laws.FnGroups', WHERE WHAT IT READS IS OF BULK AT MOST 1048576: true; the input reads as it did. -/
def fnGroupsUptoRow : OpenClaim := { program := "ytkihdohphddjaaa", sum := "6a05e3deb4e473099a446424022592d2b2d08128a17beb2a15da296359433bc5", func := "loop.example/recordbatches/laws.FnGroups", spec := "fnGroups", inPlace := ["(*internal/sync.Mutex).Lock", "internal/race.Disable", "sync/atomic.CompareAndSwapInt32", "internal/race.Enable", "internal/race.Acquire", "(*internal/sync.Mutex).lockSlow", "internal/sync.runtime_canSpin", "internal/sync.runtime_doSpin", "internal/sync.throw", "internal/sync.runtime_nanotime", "internal/sync.runtime_SemacquireMutex", "sync/atomic.AddInt32", "(*internal/sync.Mutex).Unlock", "internal/race.ReleaseMerge", "(*internal/sync.Mutex).unlockSlow", "internal/sync.fatal", "internal/sync.runtime_Semrelease", "internal/bytealg.abigen_runtime_cmpstring", "slices.overlaps[loop.example/recordbatches/impl.Group]"], unfollowed := true, recurses := true, apart := false, narrowed := true }
def FnGroupsUptoSaid : Prop := fnGroupsUptoRow.holds Try.pinned (OpenSpec.upto fnGroupsSpec)

/-- 'laws.FnGroupsTwice', WHERE WHAT IT READS IS OF BULK AT MOST 1048576: true; the input reads as it did. -/
def fnGroupsTwiceUptoRow : OpenClaim := { program := "ytkihdohphddjaaa", sum := "6a05e3deb4e473099a446424022592d2b2d08128a17beb2a15da296359433bc5", func := "loop.example/recordbatches/laws.FnGroupsTwice", spec := "fnGroupsTwice", inPlace := ["(*internal/sync.Mutex).Lock", "internal/race.Disable", "sync/atomic.CompareAndSwapInt32", "internal/race.Enable", "internal/race.Acquire", "(*internal/sync.Mutex).lockSlow", "internal/sync.runtime_canSpin", "internal/sync.runtime_doSpin", "internal/sync.throw", "internal/sync.runtime_nanotime", "internal/sync.runtime_SemacquireMutex", "sync/atomic.AddInt32", "(*internal/sync.Mutex).Unlock", "internal/race.ReleaseMerge", "(*internal/sync.Mutex).unlockSlow", "internal/sync.fatal", "internal/sync.runtime_Semrelease", "internal/bytealg.abigen_runtime_cmpstring", "slices.overlaps[loop.example/recordbatches/impl.Group]"], unfollowed := true, recurses := true, apart := false, narrowed := true }
def FnGroupsTwiceUptoSaid : Prop := fnGroupsTwiceUptoRow.holds Try.pinned (OpenSpec.upto fnGroupsTwiceSpec)

/-- 'laws.FnExactGroupsPut', WHERE WHAT IT READS IS OF BULK AT MOST 1048576: true; the input reads as it did. -/
def fnExactGroupsPutUptoRow : OpenClaim := { program := "ytkihdohphddjaaa", sum := "6a05e3deb4e473099a446424022592d2b2d08128a17beb2a15da296359433bc5", func := "loop.example/recordbatches/laws.FnExactGroupsPut", spec := "fnExactGroupsPut", inPlace := ["(*internal/sync.Mutex).Lock", "internal/race.Disable", "sync/atomic.CompareAndSwapInt32", "internal/race.Enable", "internal/race.Acquire", "(*internal/sync.Mutex).lockSlow", "internal/sync.runtime_canSpin", "internal/sync.runtime_doSpin", "internal/sync.throw", "internal/sync.runtime_nanotime", "internal/sync.runtime_SemacquireMutex", "sync/atomic.AddInt32", "(*internal/sync.Mutex).Unlock", "internal/race.ReleaseMerge", "(*internal/sync.Mutex).unlockSlow", "internal/sync.fatal", "internal/sync.runtime_Semrelease", "internal/bytealg.abigen_runtime_cmpstring", "slices.overlaps[loop.example/recordbatches/impl.Group]"], unfollowed := true, recurses := true, apart := false, narrowed := true }
def FnExactGroupsPutUptoSaid : Prop := fnExactGroupsPutUptoRow.holds Try.pinned (OpenSpec.upto fnExactGroupsPutSpec)

/-- 'laws.FnGroupsLeftEnd', WHERE WHAT IT READS IS OF BULK AT MOST 1048576: true; the input reads as it did. -/
def fnGroupsLeftEndUptoRow : OpenClaim := { program := "ytkihdohphddjaaa", sum := "6a05e3deb4e473099a446424022592d2b2d08128a17beb2a15da296359433bc5", func := "loop.example/recordbatches/laws.FnGroupsLeftEnd", spec := "fnGroupsLeftEnd", inPlace := ["(*internal/sync.Mutex).Lock", "internal/race.Disable", "sync/atomic.CompareAndSwapInt32", "internal/race.Enable", "internal/race.Acquire", "(*internal/sync.Mutex).lockSlow", "internal/sync.runtime_canSpin", "internal/sync.runtime_doSpin", "internal/sync.throw", "internal/sync.runtime_nanotime", "internal/sync.runtime_SemacquireMutex", "sync/atomic.AddInt32", "(*internal/sync.Mutex).Unlock", "internal/race.ReleaseMerge", "(*internal/sync.Mutex).unlockSlow", "internal/sync.fatal", "internal/sync.runtime_Semrelease", "internal/bytealg.abigen_runtime_cmpstring", "slices.overlaps[loop.example/recordbatches/impl.Group]"], unfollowed := true, recurses := true, apart := false, narrowed := true }
def FnGroupsLeftEndUptoSaid : Prop := fnGroupsLeftEndUptoRow.holds Try.pinned (OpenSpec.upto fnGroupsLeftEndSpec)

end Rows
end Go.Proofs.Ytkihdohphddjaaa
