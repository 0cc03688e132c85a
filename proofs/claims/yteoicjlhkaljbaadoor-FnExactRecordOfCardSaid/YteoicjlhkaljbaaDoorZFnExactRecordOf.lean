/- A text of seat YteoicjlhkaljbaaDoor: what the law FnExactRecordOf needs of this repo's texts (by pack.py). Not trusted: Lean checks it. -/
import Derived.Test.YteoicjlhkaljbaaDoorKFnExactRecordOf8
import Derived.Lay
import Derived.LaidMore
import Derived.MakeChecks
import Derived.Stop.LaidErr
import Derived.Test.YteoicjlhkaljbaaDoorRows
import Derived.Test.YteoicjlhkaljbaaDoorCards
import Derived.Test.YteoicjlhkaljbaaDoorTie
import Derived.SevenTiedAt
import Derived.WalkSmall
import Derived.ChangeVars
import Derived.JoinedOf
import Derived.LaidLaws
import Derived.LaidHandle
import Derived.Stop.LaidTwo
import Derived.Stop.Joined
import Derived.RowKitTokens
import Derived.WalkKit
import Derived.ProofKit
import Derived.OpenShut
import Derived.ShutString
import Derived.ChangeOld
import Derived.Below
import Derived.SizedLaws
import Derived.Lib.SmallJoins
import Derived.Laws.StructEq
import Derived.ChangeSlices
namespace Go.Proofs.YteoicjlhkaljbaaDoor.Pure
open Go.RowKit Go.Proofs.YteoicjlhkaljbaaDoor.G Go.Proofs.YteoicjlhkaljbaaDoorW.PrintWords Go.Proofs.YteoicjlhkaljbaaDoorW.PrintLast Go.Proofs.YteoicjlhkaljbaaDoorW.PrintMore Go.Proofs.YteoicjlhkaljbaaDoor.Pu
set_option linter.unusedSimpArgs false
theorem markRec_ev (r : Rec) (h : r.f3.length ≤ 100 ∧ r.f5.length ≤ 100) : Ev (fun k => laws_markRecord.f k r.f0 r.f1 r.f2 r.f3 r.f4 r.f5 1) (1 + (r.f3.length : Int) + (r.f5.length : Int), marks 1 r.f3.length, marks (1 + (r.f3.length : Int)) r.f5.length) := by
  unfold laws_markRecord.f
  refine Ev.bind (markIntS_ev r.f3 1 (by omega) (by omega) (by omega)) ?_
  dsimp only
  exact Ev.bind (markIntS_ev r.f5 _ (by omega) (by omega) (by omega)) (Ev.now _)
theorem heldRec_ev (a b : Int) (c d : Bool) (n m : Nat) (hn : n ≤ 100) (hm : m ≤ 100) : Ev (fun k => laws_heldRecord.f k a b c (marks 1 n) d (marks (1 + (n : Int)) m) 1) (1 + (n : Int) + (m : Int)) := by
  unfold laws_heldRecord.f
  refine Ev.bind (heldIntS_ev 1 n (by omega) (by omega) (by omega)) ?_
  simp only [if_neg (show ¬ (1 + (n : Int)) < 0 by omega)]
  refine Ev.bind (heldIntS_ev (1 + (n : Int)) m (by omega) (by omega) (by omega)) ?_
  simp only [if_neg (show ¬ (1 + (n : Int) + (m : Int)) < 0 by omega)]
  exact Ev.now _
theorem exact_go (s : ByteArray) (hs : s.size ≤ 1048576) (r : Rec) (g : Bool) (h : r.f3.length ≤ 100 ∧ r.f5.length ≤ 100) (hv : recV s.toList = (r.f0, r.f1, r.f2, r.f3, r.f4, r.f5, g)) : Ev (fun k => laws_FnExactRecordOf.f k s) true := by
  have hL : Lens r := ⟨by omega, by omega⟩
  unfold laws_FnExactRecordOf.f
  simp only [if_neg (show ¬ (s.size : Int) > 1048576 by omega)]
  have e1 := RecordOf_ev s (by omega)
  have e2 := sRecordOf_ev s (by omega)
  rw [hv] at e1 e2
  refine Ev.bind e2 (Ev.bind e1 ?_)
  refine Ev.bind (eqRecord_ev r hL) ?_
  simp only [if_true, bne_self_eq_false]
  refine Ev.step (fun k => by rw [laws_FnExactRecordOf.j0]) ?_
  simp only [Bool.false_eq_true, if_false]
  refine Ev.bind (markRec_ev r h) ?_
  dsimp only
  refine Ev.bind (heldRec_ev r.f0 r.f1 r.f2 r.f4 r.f3.length r.f5.length h.1 h.2) ?_
  simp only [if_neg (show ¬ (1 + (r.f3.length : Int) + (r.f5.length : Int)) < 0 by omega), if_true]
  refine Ev.bind e1 ?_
  refine Ev.bind (eqRecord_ev r hL) ?_
  simp only [if_true, bne_self_eq_false]
  refine Ev.step (fun k => by rw [laws_FnExactRecordOf.j1]) ?_
  simp only [Bool.false_eq_true, if_false]
  refine Ev.bind (heldRec_ev r.f0 r.f1 r.f2 r.f4 r.f3.length r.f5.length h.1 h.2) ?_
  simp only [if_neg (show ¬ (1 + (r.f3.length : Int) + (r.f5.length : Int)) < 0 by omega), if_true]
  exact Ev.now _
theorem FnExactRecordOf : OFnExactRecordOf.Pure := by
  intro s hs
  by_cases h : (s.size : Int) > 1048576
  · refine ⟨0, ?_⟩
    unfold laws_FnExactRecordOf.f
    simp only [if_pos h]
  · refine Ev.rounds ?_
    by_cases hx : ∃ r : Rec, recOk r = true ∧ textOf r = s.toList
    · obtain ⟨r, h1, h2⟩ := hx
      have hl := recOk_len h1
      exact exact_go s (by omega) r true ⟨by omega, by omega⟩ (by rw [← h2, recV_some h1]; rfl)
    · exact exact_go s (by omega) (⟨0, 0, false, [], false, []⟩ : Rec) false ⟨by simp, by simp⟩ (by rw [recV_none (fun r h1 h2 => hx ⟨r, h1, h2⟩)]; rfl)
end Go.Proofs.YteoicjlhkaljbaaDoor.Pure

namespace Go.Proofs.YteoicjlhkaljbaaDoor.fnExactRecordOf
open Go.ChangeShapes Go.WideShapes Go.ChangeAt Go.RowKit Go.Proofs.YteoicjlhkaljbaaDoor.OFnExactRecordOf Go.Proofs.YteoicjlhkaljbaaDoor.G Go.Joins
open Go.ChangeMaps (open_string shut_string)
set_option linter.unusedVariables false
theorem own : ownKnob Tryd.prog.godebug = none := by kernel_rfl
theorem laidOut : laidOutB Tryd.prog = true := by kernel_rfl
set_option maxRecDepth 100000 in
theorem lifted (os : Os) (started : os.Started) (H : Type) (enc : TypeId × Value → H) :
    ReturnsInHanded {} Tryd.checked os 5 .any (fun w args => (Rows.fnExactRecordOfSpec.pre enc Tryd.prog Tryd.f5 Rows.fnExactRecordOfRow.domain false w args ∧ laidMetH Tryd.prog Rows.fnExactRecordOfRow.laid w) ∧ sizedMet enc Tryd.prog Tryd.f5 (OpenSpec.ofChange Rows.fnExactRecordOfSpec) false w args) (Rows.fnExactRecordOfSpec.post enc Tryd.prog Tryd.f5 false true false false) := by
  refine returns_and_shaped (C := Tryd.checked) (X := fun w _ => laidMetH Tryd.prog Rows.fnExactRecordOfRow.laid w) (fun _ _ _ hh h => h.of_heap hh) own started (by kernel_rfl) Tryd.func5
    (ChangeSpec.witness_shaped (enc := enc) (C := Tryd.checked) (os := os) (X := fun w _ => laidMetH Tryd.prog Rows.fnExactRecordOfRow.laid w) false (World.laidAll Tryd.prog os Rows.fnExactRecordOfRow.laid) #[.string ByteArray.empty] 8 (World.laidAll_os _ _ _)
      (World.shaped_of_ZipB (by kernel_rfl) (by kernel_rfl)) (by kernel_rfl) (by kernel_rfl) (by kernel_rfl)
      (by rw [MakeChecks.laidMetH_plain _ _ _ (by kernel_rfl)]; exact laidMet_laidAll _ (by kernel_rfl) (by kernel_rfl))) ?_
  intro W base args ds gs before hval0 hW hcnd hsz0 hLL hsh _
  have hsz : (DataW.weightsEach Tryd.prog (Tryd.f5.params.toList ++ Rows.fnExactRecordOfSpec.plain.varTypes Tryd.prog) (ds ++ gs)).all (· ≤ reachBytes) = true := hsz0
  have hval : ∀ (j : Nat) t v, Tryd.f5.params[j]? = some t → args[j]? = some v → Value.okWide Tryd.prog W .any base t v := hval0
  have hW' := hW
  obtain ⟨p, q, hA0, hV, rfl, hfz, hnd⟩ := hW
  have hA : DataW.TrodAll enc Tryd.prog W 0 (fun _ => true) true Tryd.f5.params.toList args.toList ds p := hA0
  rw [Tryd.params5] at hA hval hsz
  obtain ⟨v0, vs0, d0, ds0, p0, q0, hargs, rfl, rfl, h0, r0⟩ := trodAll_cons hA
  obtain ⟨rfl, rfl, rfl⟩ := trodAll_nil r0
  obtain rfl : args = #[v0] := by cases args; simp_all
  obtain ⟨rfl, rfl⟩ := trodVars_none hV
  obtain ⟨a0, rfl, rfl, rfl, y0⟩ := open_string Tryd.underlying9 (hval 0 9 v0 rfl rfl) h0
  have w0 : a0.size ≤ 140737488351232 := by
    have z := sized_string hsz (j := 0) (t := 9) rfl rfl
    rw [Array.length_toList] at z
    exact z
  have hL : laidMet Tryd.prog [("unicode/utf8.acceptRanges", Rows.laid_unicode_utf8_acceptRanges), ("unicode/utf8.first", Rows.laid_unicode_utf8_first)] W := by
    have h_ := hLL
    rw [MakeChecks.laidMetH_plain _ _ _ (by kernel_rfl)] at h_
    exact h_
  have hE : ErrOk [0] W := ⟨fun h_ => absurd h_ (by decide), fun h_ => maxLen_cell hsh⟩
  clear hL hLL hsh
  clear hA0 hval0 hsz0 hsz
  obtain ⟨k, h⟩ := Pure.FnExactRecordOf a0 w0
  refine (laws_FnExactRecordOf.calls k a0 true W hE  h).mono fun e W' ⟨he, bel0⟩ => ?_
  subst he
  have bel : Below W.heap.size W W' := bel0
  exact ⟨_, rfl, _, _, _, [], _, [], hW', trodAll_mk1 (shut_bool Tryd.underlying4 _), (trodAll_cons_mk (shut_string Tryd.underlying9 y0) trodAll_mk0), rfl, bel.frame _, fun h => by cases h⟩
theorem over : Rows.fnExactRecordOfRow.holds Tryd.pinned (OpenSpec.ofChange Rows.fnExactRecordOfSpec) :=
  OpenClaim.holds_of_wide 5 Tryd.f5 rfl rfl rfl rfl rfl rfl rfl ⟨rfl, rfl, rfl, rfl, rfl⟩ rfl rfl rfl rfl rfl (by kernel_rfl) Tryd.func5 (by kernel_rfl)
    (of_decide_eq_true (by kernel_rfl)) (by unfold Func.isWrapper; first | (rw [if_pos (by decide +kernel)]; kernel_rfl) | (rw [if_neg (by decide +kernel)]; exact ⟨rfl, rfl⟩))
    (fun os started H enc _ => lifted os started H enc)
theorem proved : Rows.FnExactRecordOfSaid := over
#print axioms proved
end Go.Proofs.YteoicjlhkaljbaaDoor.fnExactRecordOf
namespace Go.Proofs.YteoicjlhkaljbaaDoor
/-- The row, under a short name, for the claim. -/
theorem fnExactRecordOf_holds : Rows.FnExactRecordOfSaid := fnExactRecordOf.proved
theorem fnExactRecordOf_card : Rows.FnExactRecordOfCardSaid :=
  Claim7.holds_tied_plain_at .later [] [.data, .pinned] true (true, "ef6fe5f5f6daff1c50aa8af91370cf0377cad3eec5cad5a8540fa73015e2e4f7") false
    fnExactRecordOf_holds (fun _ h => by cases h) (by kernel_rfl) (fun _ h => by cases h) fnExactRecordOf_row_tie rfl ⟨rfl, rfl⟩ (by kernel_rfl) rfl
    (fun f fn hf hfn => by
      obtain rfl : f = 5 := Option.some.inj ((show Tryd.prog.funcNamed "loop.example/recordbatches/laws.FnExactRecordOf" = some 5 by kernel_rfl).symm.trans hf) |>.symm
      obtain rfl : fn = Tryd.f5 := (Option.some.inj (Tryd.func5.symm.trans hfn)).symm
      exact ⟨by kernel_rfl, fun j t ht => by
        rw [Tryd.params5] at ht
        have h3 : t = 9 := by
          rcases j with _ | j
          · have h_ := ht.symm; simp at h_; simp [h_]
          · simp at ht
        rcases h3 with rfl
        · exact (show Tryd.prog.wantsStandIn 9 = false by kernel_rfl)⟩)
    (by kernel_rfl)
#print axioms fnExactRecordOf_card
end Go.Proofs.YteoicjlhkaljbaaDoor

