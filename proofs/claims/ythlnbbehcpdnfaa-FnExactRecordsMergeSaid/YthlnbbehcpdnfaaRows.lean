/-
  No cell of these rows narrows 'for every input' (looked for: loops, veiled, ifaces, maps, wideKeys, modest, calm, conditions, laid).
  DERIVED. THE GIVEN ROWS OF THIS SEAT. 12 by the template 'for every input the law returns true; each argument reads behind the call as it read before'; 0 by the template 'total and deterministic' (their statements: YthlnbbehcpdnfaaTotals.lean).
  GIVEN WITH THE SEED: the statements are not yours to turn. If you find one false, say at which input.
  Laid BY PROGRAM, IN A SANDBOX (cutbox-rows.mjs): the forced cells as the released guide's own fill.sh prints them over the translation 3f33211465bd2555… (all of the seat's roots in one cut). By AI agents, Wed Nov 11 2026. No macro, syntax, notation, axiom, sorry.
-/
import Derived.Test.YthlnbbehcpdnfaaChecked
import GoSem.Claim
import GoSem.ClaimJoined
import GoSem.ClaimMapViews
import Derived.JoinedTies
import Derived.KernelRfl
namespace Go.Proofs.Ythlnbbehcpdnfaa
/- THE CELL 'sum', in the pinned program and in every row, IS THE sha256 OF THE DUMP (.gsa) THAT YthlnbbehcpdnfaaProg.lean LOADS. Nothing in Lean hashes anything: it is a label: what it is worth is what the hold of that sum in a sandbox is worth. -/
noncomputable def Try.pinned : Pinned := { name := "ythlnbbehcpdnfaa", sum := "3f33211465bd25559490c65f07164e6c29e97c31ea92a39d61d757a161022436", checked := Try.checked }
namespace Rows
def none {H : Type} : Left H := { results := [], args := [] }

/-- 'laws.FnExactGroupsValid': WHATEVER THE INPUT: true; the input reads as it did. -/
def fnExactGroupsValidSpec : ChangeSpec := { name := "fnExactGroupsValid", fn := fun _ => fun
  | [d] => { results := [.lit (.bool true)], args := [d] }
  | _ => none }
def fnExactGroupsValidRow : OpenClaim := { program := "ythlnbbehcpdnfaa", sum := "3f33211465bd25559490c65f07164e6c29e97c31ea92a39d61d757a161022436", func := "loop.example/recordbatches/laws.FnExactGroupsValid", spec := "fnExactGroupsValid", apart := false }
def FnExactGroupsValidSaid : Prop := fnExactGroupsValidRow.holds Try.pinned (OpenSpec.ofChange fnExactGroupsValidSpec)

/-- ITS FALSE NEIGHBOUR: 'it returns false'. Refute it at one input. -/
def fnExactGroupsValidWrong : ChangeSpec := { name := "fnExactGroupsValid", fn := fun _ => fun
  | [d] => { results := [.lit (.bool false)], args := [d] }
  | _ => none }
def FnExactGroupsValidWrongFalsely : Prop := fnExactGroupsValidRow.holds Try.pinned (OpenSpec.ofChange fnExactGroupsValidWrong)

/-- 'laws.FnGroupsPart': WHATEVER THE INPUT: true; the input reads as it did. -/
def fnGroupsPartSpec : ChangeSpec := { name := "fnGroupsPart", fn := fun _ => fun
  | [d1, d2] => { results := [.lit (.bool true)], args := [d1, d2] }
  | _ => none }
def fnGroupsPartRow : OpenClaim := { program := "ythlnbbehcpdnfaa", sum := "3f33211465bd25559490c65f07164e6c29e97c31ea92a39d61d757a161022436", func := "loop.example/recordbatches/laws.FnGroupsPart", spec := "fnGroupsPart", apart := false }
def FnGroupsPartSaid : Prop := fnGroupsPartRow.holds Try.pinned (OpenSpec.ofChange fnGroupsPartSpec)

/-- ITS FALSE NEIGHBOUR: 'it returns false'. Refute it at one input. -/
def fnGroupsPartWrong : ChangeSpec := { name := "fnGroupsPart", fn := fun _ => fun
  | [d1, d2] => { results := [.lit (.bool false)], args := [d1, d2] }
  | _ => none }
def FnGroupsPartWrongFalsely : Prop := fnGroupsPartRow.holds Try.pinned (OpenSpec.ofChange fnGroupsPartWrong)

/-- 'laws.FnCommonSelf': WHATEVER THE INPUT: true; the input reads as it did. -/
def fnCommonSelfSpec : ChangeSpec := { name := "fnCommonSelf", fn := fun _ => fun
  | [d] => { results := [.lit (.bool true)], args := [d] }
  | _ => none }
def fnCommonSelfRow : OpenClaim := { program := "ythlnbbehcpdnfaa", sum := "3f33211465bd25559490c65f07164e6c29e97c31ea92a39d61d757a161022436", func := "loop.example/recordbatches/laws.FnCommonSelf", spec := "fnCommonSelf", recurses := true, apart := false }
def FnCommonSelfSaid : Prop := fnCommonSelfRow.holds Try.pinned (OpenSpec.ofChange fnCommonSelfSpec)

/-- ITS FALSE NEIGHBOUR: 'it returns false'. Refute it at one input. -/
def fnCommonSelfWrong : ChangeSpec := { name := "fnCommonSelf", fn := fun _ => fun
  | [d] => { results := [.lit (.bool false)], args := [d] }
  | _ => none }
def FnCommonSelfWrongFalsely : Prop := fnCommonSelfRow.holds Try.pinned (OpenSpec.ofChange fnCommonSelfWrong)

/-- 'laws.FnCommon': WHATEVER THE INPUT: true; the input reads as it did. -/
def fnCommonSpec : ChangeSpec := { name := "fnCommon", fn := fun _ => fun
  | [d] => { results := [.lit (.bool true)], args := [d] }
  | _ => none }
def fnCommonRow : OpenClaim := { program := "ythlnbbehcpdnfaa", sum := "3f33211465bd25559490c65f07164e6c29e97c31ea92a39d61d757a161022436", func := "loop.example/recordbatches/laws.FnCommon", spec := "fnCommon", recurses := true, apart := false }
def FnCommonSaid : Prop := fnCommonRow.holds Try.pinned (OpenSpec.ofChange fnCommonSpec)

/-- ITS FALSE NEIGHBOUR: 'it returns false'. Refute it at one input. -/
def fnCommonWrong : ChangeSpec := { name := "fnCommon", fn := fun _ => fun
  | [d] => { results := [.lit (.bool false)], args := [d] }
  | _ => none }
def FnCommonWrongFalsely : Prop := fnCommonRow.holds Try.pinned (OpenSpec.ofChange fnCommonWrong)

/-- 'laws.FnApart': WHATEVER THE INPUT: true; the input reads as it did. -/
def fnApartSpec : ChangeSpec := { name := "fnApart", fn := fun _ => fun
  | [d] => { results := [.lit (.bool true)], args := [d] }
  | _ => none }
def fnApartRow : OpenClaim := { program := "ythlnbbehcpdnfaa", sum := "3f33211465bd25559490c65f07164e6c29e97c31ea92a39d61d757a161022436", func := "loop.example/recordbatches/laws.FnApart", spec := "fnApart", recurses := true, apart := false }
def FnApartSaid : Prop := fnApartRow.holds Try.pinned (OpenSpec.ofChange fnApartSpec)

/-- ITS FALSE NEIGHBOUR: 'it returns false'. Refute it at one input. -/
def fnApartWrong : ChangeSpec := { name := "fnApart", fn := fun _ => fun
  | [d] => { results := [.lit (.bool false)], args := [d] }
  | _ => none }
def FnApartWrongFalsely : Prop := fnApartRow.holds Try.pinned (OpenSpec.ofChange fnApartWrong)

/-- 'laws.FnExactRecordsCommon': WHATEVER THE INPUT: true; the input reads as it did. -/
def fnExactRecordsCommonSpec : ChangeSpec := { name := "fnExactRecordsCommon", fn := fun _ => fun
  | [d1, d2] => { results := [.lit (.bool true)], args := [d1, d2] }
  | _ => none }
def fnExactRecordsCommonRow : OpenClaim := { program := "ythlnbbehcpdnfaa", sum := "3f33211465bd25559490c65f07164e6c29e97c31ea92a39d61d757a161022436", func := "loop.example/recordbatches/laws.FnExactRecordsCommon", spec := "fnExactRecordsCommon", recurses := true, apart := false }
def FnExactRecordsCommonSaid : Prop := fnExactRecordsCommonRow.holds Try.pinned (OpenSpec.ofChange fnExactRecordsCommonSpec)

/-- ITS FALSE NEIGHBOUR: 'it returns false'. Refute it at one input. -/
def fnExactRecordsCommonWrong : ChangeSpec := { name := "fnExactRecordsCommon", fn := fun _ => fun
  | [d1, d2] => { results := [.lit (.bool false)], args := [d1, d2] }
  | _ => none }
def FnExactRecordsCommonWrongFalsely : Prop := fnExactRecordsCommonRow.holds Try.pinned (OpenSpec.ofChange fnExactRecordsCommonWrong)

/-- 'laws.FnApartNone': WHATEVER THE INPUT: true; the input reads as it did. -/
def fnApartNoneSpec : ChangeSpec := { name := "fnApartNone", fn := fun _ => fun
  | [d] => { results := [.lit (.bool true)], args := [d] }
  | _ => none }
def fnApartNoneRow : OpenClaim := { program := "ythlnbbehcpdnfaa", sum := "3f33211465bd25559490c65f07164e6c29e97c31ea92a39d61d757a161022436", func := "loop.example/recordbatches/laws.FnApartNone", spec := "fnApartNone", recurses := true, apart := false }
def FnApartNoneSaid : Prop := fnApartNoneRow.holds Try.pinned (OpenSpec.ofChange fnApartNoneSpec)

/-- ITS FALSE NEIGHBOUR: 'it returns false'. Refute it at one input. -/
def fnApartNoneWrong : ChangeSpec := { name := "fnApartNone", fn := fun _ => fun
  | [d] => { results := [.lit (.bool false)], args := [d] }
  | _ => none }
def FnApartNoneWrongFalsely : Prop := fnApartNoneRow.holds Try.pinned (OpenSpec.ofChange fnApartNoneWrong)

/-- 'laws.FnExactRecordsApart': WHATEVER THE INPUT: true; the input reads as it did. -/
def fnExactRecordsApartSpec : ChangeSpec := { name := "fnExactRecordsApart", fn := fun _ => fun
  | [d1, d2] => { results := [.lit (.bool true)], args := [d1, d2] }
  | _ => none }
def fnExactRecordsApartRow : OpenClaim := { program := "ythlnbbehcpdnfaa", sum := "3f33211465bd25559490c65f07164e6c29e97c31ea92a39d61d757a161022436", func := "loop.example/recordbatches/laws.FnExactRecordsApart", spec := "fnExactRecordsApart", recurses := true, apart := false }
def FnExactRecordsApartSaid : Prop := fnExactRecordsApartRow.holds Try.pinned (OpenSpec.ofChange fnExactRecordsApartSpec)

/-- ITS FALSE NEIGHBOUR: 'it returns false'. Refute it at one input. -/
def fnExactRecordsApartWrong : ChangeSpec := { name := "fnExactRecordsApart", fn := fun _ => fun
  | [d1, d2] => { results := [.lit (.bool false)], args := [d1, d2] }
  | _ => none }
def FnExactRecordsApartWrongFalsely : Prop := fnExactRecordsApartRow.holds Try.pinned (OpenSpec.ofChange fnExactRecordsApartWrong)

/-- 'laws.FnMerge': WHATEVER THE INPUT: true; the input reads as it did. -/
def fnMergeSpec : ChangeSpec := { name := "fnMerge", fn := fun _ => fun
  | [d] => { results := [.lit (.bool true)], args := [d] }
  | _ => none }
def fnMergeRow : OpenClaim := { program := "ythlnbbehcpdnfaa", sum := "3f33211465bd25559490c65f07164e6c29e97c31ea92a39d61d757a161022436", func := "loop.example/recordbatches/laws.FnMerge", spec := "fnMerge", apart := false }
def FnMergeSaid : Prop := fnMergeRow.holds Try.pinned (OpenSpec.ofChange fnMergeSpec)

/-- ITS FALSE NEIGHBOUR: 'it returns false'. Refute it at one input. -/
def fnMergeWrong : ChangeSpec := { name := "fnMerge", fn := fun _ => fun
  | [d] => { results := [.lit (.bool false)], args := [d] }
  | _ => none }
def FnMergeWrongFalsely : Prop := fnMergeRow.holds Try.pinned (OpenSpec.ofChange fnMergeWrong)

/-- 'laws.FnMergeNone': WHATEVER THE INPUT: true; the input reads as it did. -/
def fnMergeNoneSpec : ChangeSpec := { name := "fnMergeNone", fn := fun _ => fun
  | [d] => { results := [.lit (.bool true)], args := [d] }
  | _ => none }
def fnMergeNoneRow : OpenClaim := { program := "ythlnbbehcpdnfaa", sum := "3f33211465bd25559490c65f07164e6c29e97c31ea92a39d61d757a161022436", func := "loop.example/recordbatches/laws.FnMergeNone", spec := "fnMergeNone", apart := false }
def FnMergeNoneSaid : Prop := fnMergeNoneRow.holds Try.pinned (OpenSpec.ofChange fnMergeNoneSpec)

/-- ITS FALSE NEIGHBOUR: 'it returns false'. Refute it at one input. -/
def fnMergeNoneWrong : ChangeSpec := { name := "fnMergeNone", fn := fun _ => fun
  | [d] => { results := [.lit (.bool false)], args := [d] }
  | _ => none }
def FnMergeNoneWrongFalsely : Prop := fnMergeNoneRow.holds Try.pinned (OpenSpec.ofChange fnMergeNoneWrong)

/-- 'laws.FnMergeOrder': WHATEVER THE INPUT: true; the input reads as it did. -/
def fnMergeOrderSpec : ChangeSpec := { name := "fnMergeOrder", fn := fun _ => fun
  | [d] => { results := [.lit (.bool true)], args := [d] }
  | _ => none }
def fnMergeOrderRow : OpenClaim := { program := "ythlnbbehcpdnfaa", sum := "3f33211465bd25559490c65f07164e6c29e97c31ea92a39d61d757a161022436", func := "loop.example/recordbatches/laws.FnMergeOrder", spec := "fnMergeOrder", apart := false }
def FnMergeOrderSaid : Prop := fnMergeOrderRow.holds Try.pinned (OpenSpec.ofChange fnMergeOrderSpec)

/-- ITS FALSE NEIGHBOUR: 'it returns false'. Refute it at one input. -/
def fnMergeOrderWrong : ChangeSpec := { name := "fnMergeOrder", fn := fun _ => fun
  | [d] => { results := [.lit (.bool false)], args := [d] }
  | _ => none }
def FnMergeOrderWrongFalsely : Prop := fnMergeOrderRow.holds Try.pinned (OpenSpec.ofChange fnMergeOrderWrong)

/-- 'laws.FnExactRecordsMerge': WHATEVER THE INPUT: true; the input reads as it did. -/
def fnExactRecordsMergeSpec : ChangeSpec := { name := "fnExactRecordsMerge", fn := fun _ => fun
  | [d1, d2] => { results := [.lit (.bool true)], args := [d1, d2] }
  | _ => none }
def fnExactRecordsMergeRow : OpenClaim := { program := "ythlnbbehcpdnfaa", sum := "3f33211465bd25559490c65f07164e6c29e97c31ea92a39d61d757a161022436", func := "loop.example/recordbatches/laws.FnExactRecordsMerge", spec := "fnExactRecordsMerge", apart := false }
def FnExactRecordsMergeSaid : Prop := fnExactRecordsMergeRow.holds Try.pinned (OpenSpec.ofChange fnExactRecordsMergeSpec)

/-- ITS FALSE NEIGHBOUR: 'it returns false'. Refute it at one input. -/
def fnExactRecordsMergeWrong : ChangeSpec := { name := "fnExactRecordsMerge", fn := fun _ => fun
  | [d1, d2] => { results := [.lit (.bool false)], args := [d1, d2] }
  | _ => none }
def FnExactRecordsMergeWrongFalsely : Prop := fnExactRecordsMergeRow.holds Try.pinned (OpenSpec.ofChange fnExactRecordsMergeWrong)

/- THE SECOND FORM. 'bulk': how many values and letters a reading holds, each counted each time it is reached (what is shared counts as often as it is met; a slice's spare places count too). A statement '..UptoSaid' is the law's where the arguments, and the package variables that the reading takes, are together of bulk at most 1048576: NARROWER than '..Said'. Prove '..Said' where nothing that the law and all that it calls make is longer than what came in: it says more and counts as full. Else prove '..UptoSaid'. A law counts once. -/
mutual
def uptoBulk {H : Type} : DataW H → Nat
  | .lit (.string bytes) => bytes.length + 1
  | .lit _ => 1
  | .nil => 1
  | .ptr d => uptoBulk d + 1
  | .slice elems spare => uptoBulkAll elems + uptoBulkAll spare + 1
  | .agg parts => uptoBulkAll parts + 1
  | .iface _ d => uptoBulk d + 1
  | .map entries => uptoBulkEntries entries + 1
  | .held _ => 1
def uptoBulkAll {H : Type} : List (DataW H) → Nat
  | [] => 0
  | d :: r => uptoBulk d + uptoBulkAll r
def uptoBulkEntries {H : Type} : List (Lit × DataW H) → Nat
  | [] => 0
  | x :: r => uptoBulkEntry x + uptoBulkEntries r
def uptoBulkEntry {H : Type} : Lit × DataW H → Nat
  | (.string bytes, d) => bytes.length + uptoBulk d + 1
  | (_, d) => uptoBulk d + 1
 end
def uptoSmall : (H : Type) → List (DataW H) → Bool := fun _ ds => decide (uptoBulkAll ds ≤ 1048576)
def OpenSpec.upto (s : _root_.Go.ChangeSpec) : _root_.Go.OpenSpec := { _root_.Go.OpenSpec.ofChange s with cond := some uptoSmall }

/-- 'laws.FnExactGroupsValid', WHERE WHAT IT READS IS OF BULK AT MOST 1048576: true; the input reads as it did. -/
def fnExactGroupsValidUptoRow : OpenClaim := { program := "ythlnbbehcpdnfaa", sum := "3f33211465bd25559490c65f07164e6c29e97c31ea92a39d61d757a161022436", func := "loop.example/recordbatches/laws.FnExactGroupsValid", spec := "fnExactGroupsValid", apart := false, narrowed := true }
def FnExactGroupsValidUptoSaid : Prop := fnExactGroupsValidUptoRow.holds Try.pinned (OpenSpec.upto fnExactGroupsValidSpec)

/-- 'laws.FnGroupsPart', WHERE WHAT IT READS IS OF BULK AT MOST 1048576: true; the input reads as it did. -/
def fnGroupsPartUptoRow : OpenClaim := { program := "ythlnbbehcpdnfaa", sum := "3f33211465bd25559490c65f07164e6c29e97c31ea92a39d61d757a161022436", func := "loop.example/recordbatches/laws.FnGroupsPart", spec := "fnGroupsPart", apart := false, narrowed := true }
def FnGroupsPartUptoSaid : Prop := fnGroupsPartUptoRow.holds Try.pinned (OpenSpec.upto fnGroupsPartSpec)

/-- 'laws.FnCommonSelf', WHERE WHAT IT READS IS OF BULK AT MOST 1048576: true; the input reads as it did. -/
def fnCommonSelfUptoRow : OpenClaim := { program := "ythlnbbehcpdnfaa", sum := "3f33211465bd25559490c65f07164e6c29e97c31ea92a39d61d757a161022436", func := "loop.example/recordbatches/laws.FnCommonSelf", spec := "fnCommonSelf", recurses := true, apart := false, narrowed := true }
def FnCommonSelfUptoSaid : Prop := fnCommonSelfUptoRow.holds Try.pinned (OpenSpec.upto fnCommonSelfSpec)

/-- 'laws.FnCommon', WHERE WHAT IT READS IS OF BULK AT MOST 1048576: true; the input reads as it did. -/
def fnCommonUptoRow : OpenClaim := { program := "ythlnbbehcpdnfaa", sum := "3f33211465bd25559490c65f07164e6c29e97c31ea92a39d61d757a161022436", func := "loop.example/recordbatches/laws.FnCommon", spec := "fnCommon", recurses := true, apart := false, narrowed := true }
def FnCommonUptoSaid : Prop := fnCommonUptoRow.holds Try.pinned (OpenSpec.upto fnCommonSpec)

/-- 'laws.FnApart', WHERE WHAT IT READS IS OF BULK AT MOST 1048576: true; the input reads as it did. -/
def fnApartUptoRow : OpenClaim := { program := "ythlnbbehcpdnfaa", sum := "3f33211465bd25559490c65f07164e6c29e97c31ea92a39d61d757a161022436", func := "loop.example/recordbatches/laws.FnApart", spec := "fnApart", recurses := true, apart := false, narrowed := true }
def FnApartUptoSaid : Prop := fnApartUptoRow.holds Try.pinned (OpenSpec.upto fnApartSpec)

/-- 'laws.FnExactRecordsCommon', WHERE WHAT IT READS IS OF BULK AT MOST 1048576: true; the input reads as it did. -/
def fnExactRecordsCommonUptoRow : OpenClaim := { program := "ythlnbbehcpdnfaa", sum := "3f33211465bd25559490c65f07164e6c29e97c31ea92a39d61d757a161022436", func := "loop.example/recordbatches/laws.FnExactRecordsCommon", spec := "fnExactRecordsCommon", recurses := true, apart := false, narrowed := true }
def FnExactRecordsCommonUptoSaid : Prop := fnExactRecordsCommonUptoRow.holds Try.pinned (OpenSpec.upto fnExactRecordsCommonSpec)

/-- 'laws.FnApartNone', WHERE WHAT IT READS IS OF BULK AT MOST 1048576: true; the input reads as it did. -/
def fnApartNoneUptoRow : OpenClaim := { program := "ythlnbbehcpdnfaa", sum := "3f33211465bd25559490c65f07164e6c29e97c31ea92a39d61d757a161022436", func := "loop.example/recordbatches/laws.FnApartNone", spec := "fnApartNone", recurses := true, apart := false, narrowed := true }
def FnApartNoneUptoSaid : Prop := fnApartNoneUptoRow.holds Try.pinned (OpenSpec.upto fnApartNoneSpec)

/-- 'laws.FnExactRecordsApart', WHERE WHAT IT READS IS OF BULK AT MOST 1048576: true; the input reads as it did. -/
def fnExactRecordsApartUptoRow : OpenClaim := { program := "ythlnbbehcpdnfaa", sum := "3f33211465bd25559490c65f07164e6c29e97c31ea92a39d61d757a161022436", func := "loop.example/recordbatches/laws.FnExactRecordsApart", spec := "fnExactRecordsApart", recurses := true, apart := false, narrowed := true }
def FnExactRecordsApartUptoSaid : Prop := fnExactRecordsApartUptoRow.holds Try.pinned (OpenSpec.upto fnExactRecordsApartSpec)

/-- 'laws.FnMerge', WHERE WHAT IT READS IS OF BULK AT MOST 1048576: true; the input reads as it did. -/
def fnMergeUptoRow : OpenClaim := { program := "ythlnbbehcpdnfaa", sum := "3f33211465bd25559490c65f07164e6c29e97c31ea92a39d61d757a161022436", func := "loop.example/recordbatches/laws.FnMerge", spec := "fnMerge", apart := false, narrowed := true }
def FnMergeUptoSaid : Prop := fnMergeUptoRow.holds Try.pinned (OpenSpec.upto fnMergeSpec)

/-- 'laws.FnMergeNone', WHERE WHAT IT READS IS OF BULK AT MOST 1048576: true; the input reads as it did. -/
def fnMergeNoneUptoRow : OpenClaim := { program := "ythlnbbehcpdnfaa", sum := "3f33211465bd25559490c65f07164e6c29e97c31ea92a39d61d757a161022436", func := "loop.example/recordbatches/laws.FnMergeNone", spec := "fnMergeNone", apart := false, narrowed := true }
def FnMergeNoneUptoSaid : Prop := fnMergeNoneUptoRow.holds Try.pinned (OpenSpec.upto fnMergeNoneSpec)

/-- 'laws.FnMergeOrder', WHERE WHAT IT READS IS OF BULK AT MOST 1048576: true; the input reads as it did. -/
def fnMergeOrderUptoRow : OpenClaim := { program := "ythlnbbehcpdnfaa", sum := "3f33211465bd25559490c65f07164e6c29e97c31ea92a39d61d757a161022436", func := "loop.example/recordbatches/laws.FnMergeOrder", spec := "fnMergeOrder", apart := false, narrowed := true }
def FnMergeOrderUptoSaid : Prop := fnMergeOrderUptoRow.holds Try.pinned (OpenSpec.upto fnMergeOrderSpec)

/-- 'laws.FnExactRecordsMerge', WHERE WHAT IT READS IS OF BULK AT MOST 1048576: true; the input reads as it did. -/
def fnExactRecordsMergeUptoRow : OpenClaim := { program := "ythlnbbehcpdnfaa", sum := "3f33211465bd25559490c65f07164e6c29e97c31ea92a39d61d757a161022436", func := "loop.example/recordbatches/laws.FnExactRecordsMerge", spec := "fnExactRecordsMerge", apart := false, narrowed := true }
def FnExactRecordsMergeUptoSaid : Prop := fnExactRecordsMergeUptoRow.holds Try.pinned (OpenSpec.upto fnExactRecordsMergeSpec)

end Rows
end Go.Proofs.Ythlnbbehcpdnfaa
