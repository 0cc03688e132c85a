/- A text of seat Ythlnbbehcpdnfaa: what the law FnCommonSelf needs of this repo's texts (by pack.py). Not trusted: Lean checks it. -/
import Derived.Test.YthlnbbehcpdnfaaKFnCommonSelf4
import Derived.Test.YthlnbbehcpdnfaaProg
import Derived.Below
import Derived.Deep.Draws
import Derived.Deep.AppendLies
import Derived.Maps.AppendAt
import Derived.OwnWalk
import Derived.Laws.BytesArg
import Derived.Laws.MakeOwn
import Derived.Laws.OwnMore
import Derived.Deep.OwnRows
import Derived.Tactics
import Derived.Lib.ConvBytes
import Derived.Laws.Slices
import Derived.WalkKit
import Derived.KernelRfl
import Derived.RowKit3
import Derived.Deep.LoopGhost
import Derived.Deep.QuietTactic
import Derived.BigQuiet
import Derived.WideLaws
import Derived.Deep.DeepCutAuto
import Derived.Deep.CutBlock
import Derived.Deep.RegionHeld3
import Derived.Laws.Rows
import Derived.Lib.AppendStr
import Derived.ArgAppend
import Derived.Laws.IdiomCopy
import Derived.OrdersHeld
import Derived.Laws.BitsLemmas
import Derived.RowKit
import Derived.WalkLawsBesides
import Derived.Test.YthlnbbehcpdnfaaWWords
import Derived.Test.YthlnbbehcpdnfaaWLast
import Derived.Test.YthlnbbehcpdnfaaWTab
import Derived.Test.YthlnbbehcpdnfaaWFour
import Derived.Test.YthlnbbehcpdnfaaWQPut
import Derived.Test.YthlnbbehcpdnfaaWApart
import Derived.Test.YthlnbbehcpdnfaaWArr
import Derived.Test.YthlnbbehcpdnfaaWZeros
import Derived.Test.YthlnbbehcpdnfaaWFoot
import Derived.Test.YthlnbbehcpdnfaaWKept
import Derived.Test.YthlnbbehcpdnfaaWShare
import Derived.Test.YthlnbbehcpdnfaaWN
import Derived.Test.YthlnbbehcpdnfaaWFootNe
import Derived.Test.YthlnbbehcpdnfaaWAt
import Derived.Test.YthlnbbehcpdnfaaWEqStruct
import Derived.Test.YthlnbbehcpdnfaaWRepsOne
import Derived.Test.YthlnbbehcpdnfaaWInv
import Derived.Test.YthlnbbehcpdnfaaWInvWords
import Derived.Test.YthlnbbehcpdnfaaWGuard
import Derived.Test.YthlnbbehcpdnfaaWNEv
import Derived.Test.YthlnbbehcpdnfaaWMore
import Derived.Deep.Slices
import Derived.SizedLaws
import Derived.Test.YthlnbbehcpdnfaaRows
import Derived.ProofKit
import Derived.OpenShut
import Derived.ShutString
import Derived.ChangeOld
import Derived.Lib.SmallJoins
import Derived.Test.YthlnbbehcpdnfaaWSized
namespace Go.Proofs.Ythlnbbehcpdnfaa.Pu
open Go.RowKit Go.Proofs.YthlnbbehcpdnfaaW.PrintWords Go.Proofs.YthlnbbehcpdnfaaW.PrintLast Go.Proofs.YthlnbbehcpdnfaaW.PrintMore Go.Proofs.Ythlnbbehcpdnfaa.G
set_option linter.unusedVariables false
set_option linter.unusedSimpArgs false
def RecD (r : S41) : Prop := r.f3.length ≤ 1 ∧ r.f5.length = 0 ∧ 0 ≤ r.f0 ∧ r.f0 ≤ 16 ∧ -1 ≤ r.f1 ∧ r.f1 ≤ 1000
def DrR (l : List S41) : Prop := l.length ≤ 16 ∧ ∀ r ∈ l, RecD r
theorem DrR.rowL {l : List S41} (h : DrR l) : RowL l := ⟨by have := h.1; omega, fun r hr => by have := h.2 r hr; unfold RecD at this; exact ⟨by omega, by omega⟩⟩
theorem rdR_mem (l : List S41) (i : Int) (h0 : 0 ≤ i) (h1 : i < (l.length : Int)) : rd_T41 l i ∈ l := by
  unfold rd_T41
  rw [List.getD_eq_getElem?_getD, List.getElem?_eq_getElem (by omega)]
  exact List.getElem_mem _
theorem drawRow_loop {b : List Int} (hb : CodeOk b) (n : Int) (hn : n ≤ 16) : ∀ d (i : Nat) (l : List S41) (t p : Int), 16 - i = d → l.length = i → i ≤ 16 → (∀ r ∈ l, RecD r) → 0 ≤ t → t ≤ 40 + 12 * (i : Int) → 0 ≤ p → p ≤ 100000000 + 2 * (i : Int) →
    EndsIn (fun k => spec_l92Row.l0 k l n t (i : Int) b p) (fun r => DrR r.1 ∧ p ≤ r.2 ∧ r.2 ≤ p + 2 * (16 - (i : Int)) + 2) := by
  have fin : ∀ (i : Nat) (l : List S41) (t p : Int), l.length = i → i ≤ 16 → (∀ r ∈ l, RecD r) → 0 ≤ p → p ≤ 100000000 + 2 * (i : Int) → ¬ (i : Int) < n →
    EndsIn (fun k => spec_l92Row.l0 k l n t (i : Int) b p) (fun r => DrR r.1 ∧ p ≤ r.2 ∧ r.2 ≤ p + 2 * (16 - (i : Int)) + 2) := by
    intro i l t p hl hi hr p0 p1 h
    refine EndsIn.step (fun k => by rw [spec_l92Row.l0]) ?_
    simp only [if_neg h]
    by_cases hz : n > 0
    · simp only [if_pos hz]
      refine EndsIn.bind (pick_ends hb p 24 p0 (by omega) (by omega)) fun q hq => ?_
      obtain ⟨q2, q3, q4, _⟩ := hq
      rw [q2]
      by_cases hq0 : q.1 = 0
      · simp only [if_pos hq0]
        refine EndsIn.bind (pick_ends hb (p + 1) n (by omega) (by omega) (by omega)) fun s hs => ?_
        obtain ⟨s2, s3, s4, _⟩ := hs
        have s5 := s4 (by omega)
        simp only [if_pos s3, if_pos (show s.1 < (l.length : Int) by omega)]
        refine EndsIn.now _ ⟨⟨by rw [List.length_set]; omega, fun r hx => ?_⟩, by omega, by omega⟩
        rcases List.mem_or_eq_of_mem_set hx with hx | rfl
        · exact hr r hx
        · have := hr _ (rdR_mem l s.1 s3 (by omega))
          exact ⟨this.1, this.2.1, this.2.2.1, this.2.2.2.1, by show (-1 : Int) ≤ -1; omega, by show (-1 : Int) ≤ 1000; omega⟩
      · simp only [if_neg hq0]
        exact EndsIn.now _ ⟨⟨by show l.length ≤ 16; omega, hr⟩, by omega, by omega⟩
    · simp only [if_neg hz]
      exact EndsIn.now _ ⟨⟨by show l.length ≤ 16; omega, hr⟩, by omega, by omega⟩
  intro d
  induction d with
  | zero =>
    intro i l t p hd hl hi hr t0 t1 p0 p1
    exact fin i l t p hl hi hr p0 p1 (by omega)
  | succ d ih =>
    intro i l t p hd hl hi hr t0 t1 p0 p1
    by_cases h : (i : Int) < n
    · refine EndsIn.step (fun k => by rw [spec_l92Row.l0]) ?_
      simp only [if_pos h]
      refine EndsIn.bind (pick_ends hb p 3 p0 (by omega) (by omega)) fun q hq => ?_
      obtain ⟨q2, q3, q4, _⟩ := hq
      simp only [if_pos (show l.length < 1759218604441 by omega)]
      rw [q2]
      refine EndsIn.bind (pick_ends hb (p + 1) 12 (by omega) (by omega) (by omega)) fun s hs => ?_
      obtain ⟨s2, s3, s4, _⟩ := hs
      have s5 := s4 (by omega)
      rw [s2, w64 (a := t + s.1) (by omega) (by omega), w64 (a := (i : Int) + 1) (by omega) (by omega)]
      refine (ih (i + 1) _ (t + s.1) (p + 1 + 1) (by omega) (by rw [List.length_append]; simp [hl]) (by omega) (fun r hx => ?_) (by omega) (by omega) (by omega) (by omega)).mono fun r hr => ⟨hr.1, by omega, by omega⟩
      rcases List.mem_append.1 hx with hx | hx
      · exact hr r hx
      · rw [List.mem_singleton] at hx
        subst hx
        exact ⟨by simp, by simp, by show (0 : Int) ≤ i; omega, by show (i : Int) ≤ 16; omega, by show (-1 : Int) ≤ t; omega, by show t ≤ 1000; omega⟩
    · exact fin i l t p hl hi hr p0 p1 h
theorem drawRow_ends {b : List Int} (hb : CodeOk b) (p : Int) (h0 : 0 ≤ p) (h1 : p ≤ 99999000) : EndsIn (fun k => spec_l92Row.f k b p) (fun r => DrR r.1 ∧ p ≤ r.2 ∧ r.2 ≤ p + 100) := by
  have st : ∀ (n q : Int), n ≤ 16 → p ≤ q → q ≤ p + 10 → EndsIn (fun k => spec_l92Row.j0 k [] n b q) (fun r => DrR r.1 ∧ p ≤ r.2 ∧ r.2 ≤ p + 100) := by
    intro n q hn hq0 hq1
    refine EndsIn.step (fun k => by rw [spec_l92Row.j0]) ?_
    refine EndsIn.bind (pick_ends hb q 40 (by omega) (by omega) (by omega)) fun t ht => ?_
    obtain ⟨t2, t3, t4, _⟩ := ht
    have t5 := t4 (by omega)
    rw [t2]
    have := drawRow_loop hb n hn 16 0 [] t.1 (q + 1) (by omega) (by simp) (by omega) (by simp) t3 (by omega) (by omega) (by omega)
    exact this.mono fun r hr => ⟨hr.1, by omega, by omega⟩
  unfold spec_l92Row.f
  simp only [bindS]
  refine EndsIn.bind (pick_ends hb p 5 h0 (by omega) (by omega)) fun q hq => ?_
  obtain ⟨q2, q3, q4, _⟩ := hq
  have q5 := q4 (by omega)
  rw [q2]
  refine EndsIn.bind (pick_ends hb (p + 1) 24 (by omega) (by omega) (by omega)) fun s hs => ?_
  obtain ⟨s2, s3, s4, _⟩ := hs
  rw [s2]
  by_cases hz : s.1 = 0
  · simp only [if_pos hz]
    refine EndsIn.bind (pick_ends hb (p + 1 + 1) 2 (by omega) (by omega) (by omega)) fun u hu => ?_
    obtain ⟨u2, u3, u4, _⟩ := hu
    have u5 := u4 (by omega)
    rw [u2, w64 (a := 15 + u.1) (by omega) (by omega)]
    exact st _ _ (by omega) (by omega) (by omega)
  · simp only [if_neg hz]
    exact st _ _ (by omega) (by omega) (by omega)
theorem alike_j {b : List Int} (hb : CodeOk b) (x y : List S41) (hx : DrR x) (hy : DrR y) (c : Bool) (p : Int) (h0 : 0 ≤ p) (h1 : p ≤ 99999000) :
    EndsIn (fun k => spec_l92Alike.j0 k x y c b p) (fun r => DrR r.1 ∧ DrR r.2.1) := by
  refine EndsIn.step (fun k => by rw [spec_l92Alike.j0]) ?_
  cases c
  · simp only [Bool.false_eq_true, if_false]
    exact EndsIn.now _ ⟨hx, hy⟩
  · simp only [if_true]
    have hy1 := hy.1
    by_cases hz : (y.length : Int) > 0
    · simp only [if_pos hz]
      refine EndsIn.bind (pick_ends hb p (y.length : Int) h0 (by omega) (by omega)) fun q hq => ?_
      obtain ⟨q2, q3, q4, _⟩ := hq
      have q5 := q4 (by omega)
      rw [q2]
      refine EndsIn.bind (pick_ends hb (p + 1) 2 (by omega) (by omega) (by omega)) fun s hs => ?_
      by_cases hs0 : s.1 = 0
      · simp only [if_pos hs0, if_pos q3, if_pos (show q.1 ≤ (y.length : Int) by omega)]
        exact EndsIn.now _ ⟨hx, by rw [List.length_take]; omega, fun r hr => hy.2 r (List.mem_of_mem_take hr)⟩
      · simp only [if_neg hs0, if_pos q3, if_pos q5]
        refine EndsIn.now _ ⟨hx, by rw [List.length_set]; omega, fun r hr => ?_⟩
        rcases List.mem_or_eq_of_mem_set hr with hr | rfl
        · exact hy.2 r hr
        · have := hy.2 _ (rdR_mem y q.1 q3 q5)
          exact ⟨this.1, this.2.1, this.2.2.1, this.2.2.2.1, this.2.2.2.2.1, this.2.2.2.2.2⟩
    · simp only [if_neg hz]
      exact EndsIn.now _ ⟨hx, hy⟩
theorem alike_ends {b : List Int} (hb : CodeOk b) : EndsIn (fun k => spec_l92Alike.f k b 0) (fun r => DrR r.1 ∧ DrR r.2.1) := by
  unfold spec_l92Alike.f
  refine EndsIn.bind (drawRow_ends hb 0 (by omega) (by omega)) fun x hx => ?_
  obtain ⟨x1, x2, x3⟩ := hx
  have := x1.1
  simp only [bindS, List.nil_append, if_pos (show ([] : List S41).length + x.1.length < 1759218604441 by rw [List.length_nil]; omega)]
  refine EndsIn.bind (pick_ends hb x.2 4 (by omega) (by omega) (by omega)) fun q hq => ?_
  obtain ⟨q2, q3, q4, _⟩ := hq
  rw [q2]
  by_cases h0 : q.1 = 0
  · simp only [if_pos h0]
    exact EndsIn.bind (drawRow_ends hb (x.2 + 1) (by omega) (by omega)) fun y hy => EndsIn.now _ ⟨x1, hy.1⟩
  · simp only [if_neg h0]
    by_cases h1 : q.1 = 1
    · simp only [if_pos h1]
      exact alike_j hb _ _ x1 x1 _ _ (by omega) (by omega)
    · simp only [if_neg h1]
      exact alike_j hb _ _ x1 x1 _ _ (by omega) (by omega)
end Go.Proofs.Ythlnbbehcpdnfaa.Pu

namespace Go.Proofs.Ythlnbbehcpdnfaa.Pu
open Go.RowKit Go.Proofs.YthlnbbehcpdnfaaW.PrintWords Go.Proofs.YthlnbbehcpdnfaaW.PrintLast Go.Proofs.YthlnbbehcpdnfaaW.PrintMore Go.Proofs.Ythlnbbehcpdnfaa.G
set_option linter.unusedVariables false
set_option linter.unusedSimpArgs false
instance decR : DecidableEq S41 := fun a b => if h : sameB a b = true then .isTrue ((sameB_iff a b).1 h) else .isFalse (fun e => h ((sameB_iff a b).2 e))
/-! what is common -/
theorem sameB_comm (a b : S41) : sameB a b = sameB b a := by
  rw [Bool.eq_iff_iff, sameB_iff, sameB_iff]
  exact eq_comm
theorem cmn_comm : ∀ (a b : List S41), cmn a b = cmn b a
  | [], b => by rw [cmn_nil_left, cmn_nil_right]
  | _ :: _, [] => by rw [cmn_nil_left, cmn_nil_right]
  | a :: xs, b :: ys => by
    unfold cmn
    rw [sameB_comm a b, cmn_comm xs ys]
theorem cmn_self : ∀ (a : List S41), cmn a a = a.length
  | [] => rfl
  | a :: xs => by
    unfold cmn
    rw [if_pos ((sameB_iff a a).2 rfl), cmn_self xs]
    rfl
theorem comV_comm (a b : List S41) : comV a b = comV b a := by
  unfold comV
  rw [cmn_comm a b, Bool.and_comm]
end Go.Proofs.Ythlnbbehcpdnfaa.Pu

namespace Go.Proofs.Ythlnbbehcpdnfaa.Pu
open Go.RowKit Go.Proofs.YthlnbbehcpdnfaaW.PrintWords Go.Proofs.YthlnbbehcpdnfaaW.PrintLast Go.Proofs.Ythlnbbehcpdnfaa.G
set_option linter.unusedVariables false
set_option linter.unusedSimpArgs false
theorem open_some (l0 : List Int) (hr : ∀ x ∈ l0, 0 ≤ x ∧ x ≤ 255) : ∃ b, spec_l6Open.f l0 = some (b, 0) ∧ CodeOk b := by
  unfold spec_l6Open.f
  by_cases h : (l0.length : Int) > 2000
  · rw [if_pos h, if_pos (by omega)]
    exact ⟨_, rfl, by rw [List.length_take]; omega, fun x hx => hr x (List.mem_of_mem_take hx)⟩
  · rw [if_neg h]
    exact ⟨_, rfl, by omega, hr⟩
/-- What is drawn: at most so many groups, each with a short name and a small number. -/
def DrG (l : List S53) : Prop := l.length ≤ 8 ∧ ∀ g ∈ l, g.f0.size ≤ 7 ∧ 0 ≤ g.f1 ∧ g.f1 ≤ 100
theorem DrG.size {l : List S53} (h : DrG l) : ∀ g ∈ l, g.f0.size ≤ 9223372036854775807 := fun g hg => by have := (h.2 g hg).1; omega
end Go.Proofs.Ythlnbbehcpdnfaa.Pu

namespace Go.Proofs.Ythlnbbehcpdnfaa.Pure
open Go.RowKit Go.Proofs.Ythlnbbehcpdnfaa.G Go.Proofs.YthlnbbehcpdnfaaW.PrintWords Go.Proofs.YthlnbbehcpdnfaaW.PrintLast Go.Proofs.YthlnbbehcpdnfaaW.PrintMore Go.Proofs.Ythlnbbehcpdnfaa.Pu
set_option linter.unusedSimpArgs false
theorem FnCommonSelf : OFnCommonSelf.Pure := by
  intro l0 hl0 ho0
  refine EndsIn.rounds ?_
  unfold laws_FnCommonSelf.f
  have hr := fun x hx => u8_range (ho0 x hx)
  by_cases h : (l0.length : Int) > 1048576
  · simp only [if_pos h]
    exact EndsIn.now _ rfl
  · simp only [if_neg h]
    obtain ⟨c, hc, hok⟩ := open_some l0 hr
    unfold spec_DrawRecordsCommon.f
    simp only [hc, bindS]
    refine EndsIn.bind (P := fun r => DrR r.1 ∧ DrR r.2) (EndsIn.bind (alike_ends hok) fun r hr => EndsIn.now _ ⟨hr.1, hr.2⟩) fun q hq => ?_
    obtain ⟨a, b⟩ := q
    obtain ⟨da, db⟩ := hq
    have ra := DrR.rowL da
    have rb := DrR.rowL db
    refine ⟨true, ?_, rfl⟩
    refine Ev.bind (RecordsCommon_ev _ _ ra rb) (Ev.bind (sRecordsCommon_ev _ _ ra rb) ?_)
    simp only [if_true]
    refine Ev.step (fun k => by rw [laws_FnCommonSelf.j0]) ?_
    by_cases hv : comV a b < 0
    · simp only [decide_eq_true hv, if_true, beq_self_eq_true]
      exact Ev.now _
    · simp only [decide_eq_false hv, Bool.false_eq_true, if_false]
      have hok : (rowOk a && rowOk b) = true := by
        by_cases ho : (rowOk a && rowOk b) = true
        · exact ho
        · exact absurd (show comV a b < 0 by unfold comV; rw [if_neg ho]; omega) hv
      have hoa : rowOk a = true := (Bool.and_eq_true_iff.1 hok).1
      refine Ev.bind (RecordsCommon_ev a a ra ra) ?_
      have e : comV a a = (a.length : Int) := by
        unfold comV
        rw [hoa, cmn_self]
        exact if_pos rfl
      simp only [if_pos e]
      refine Ev.bind (RecordsCommon_ev b a rb ra) ?_
      rw [comV_comm b a]
      simp only [beq_self_eq_true]
      exact Ev.now _
end Go.Proofs.Ythlnbbehcpdnfaa.Pure

namespace Go.Proofs.Ythlnbbehcpdnfaa.fnCommonSelf
open Go.ChangeShapes Go.WideShapes Go.ChangeAt Go.RowKit Go.Proofs.Ythlnbbehcpdnfaa.OFnCommonSelf Go.Proofs.Ythlnbbehcpdnfaa.G Go.Joins
open Go.ChangeMaps (open_string shut_string)
set_option linter.unusedVariables false
theorem own : ownKnob Try.prog.godebug = none := by kernel_rfl
theorem laidOut : laidOutB Try.prog = true := by kernel_rfl
set_option maxRecDepth 100000 in
theorem lifted (os : Os) (started : os.Started) (H : Type) (enc : TypeId × Value → H) :
    ReturnsInHanded {} Try.checked os 5 .any (Rows.fnCommonSelfSpec.pre6 enc Try.prog Try.f5 Rows.fnCommonSelfRow.domain false) (Rows.fnCommonSelfSpec.post enc Try.prog Try.f5 false true false false) := by
  refine returnsInHanded_of_change_sized (C := Try.checked) own started (by kernel_rfl) Try.func5
    (ChangeSpec.witness6 (enc := enc) (C := Try.checked) false ⟨#[], #[.slice none 0 0], []⟩ 8 (by kernel_rfl) (by kernel_rfl) (by kernel_rfl) (by kernel_rfl)) ?_
  intro W base args ds gs before hval0 hW hcnd hsz0 _
  have hsz : (DataW.weightsEach Try.prog (Try.f5.params.toList ++ Rows.fnCommonSelfSpec.plain.varTypes Try.prog) (ds ++ gs)).all (· ≤ reachBytes) = true := hsz0
  have hval : ∀ (j : Nat) t v, Try.f5.params[j]? = some t → args[j]? = some v → Value.okWide Try.prog W .any base t v := hval0
  have hW' := hW
  obtain ⟨p, q, hA0, hV, rfl, hfz, hnd⟩ := hW
  have hA : DataW.TrodAll enc Try.prog W 0 (fun _ => true) true Try.f5.params.toList args.toList ds p := hA0
  rw [Try.params5] at hA hval hsz
  obtain ⟨v0, vs0, d0, ds0, p0, q0, hargs, rfl, rfl, h0, r0⟩ := trodAll_cons hA
  obtain ⟨rfl, rfl, rfl⟩ := trodAll_nil r0
  obtain rfl : args = #[v0] := by cases args; simp_all
  obtain ⟨rfl, rfl⟩ := trodVars_none hV
  obtain ⟨a0, len0, cap0, rfl⟩ := okWide_slice Try.underlying29 (hval 0 29 v0 rfl rfl)
  have k0 := h0
  have lt0 : ∀ x ∈ p0, x.block < W.heap.size := by obtain ⟨m, hm⟩ := k0; exact DataW.trod_lt m _ _ _ hm
  obtain ⟨fuel0, hf0⟩ := h0
  obtain ⟨A0, c0, l0, hcs0, hlc0, hm0, hC0, ho0⟩ := Rd.opens_row Try.underlying29 (Rd.opens_int Try.underlying5 (by kernel_rfl)) hf0
  simp [Value.cells] at hcs0
  obtain ⟨rfl, rfl, rfl⟩ := hcs0
  clear hA0 hval0 hsz0 hsz
  obtain ⟨k, h⟩ := Pure.FnCommonSelf l0 (Nat.le_trans hlc0 hm0) ho0
  refine (laws_FnCommonSelf.calls k _ _ l0 true W hC0 hlc0 h).mono fun e W' ⟨he, bel0⟩ => ?_
  subst he
  have bel : Below W.heap.size W W' := bel0
  exact ⟨_, rfl, _, _, _, [], _, [], hW', trodAll_mk1 (shut_bool Try.underlying4 _), (trodAll_cons_mk (Below.trod laidOut (by kernel_rfl) (of_decide_eq_true (by kernel_rfl)) k0 bel lt0) trodAll_mk0), rfl, bel.frame _, fun h => by cases h⟩
theorem over : Rows.fnCommonSelfRow.holds Try.pinned (OpenSpec.ofChange Rows.fnCommonSelfSpec) :=
  OpenClaim.holds_of_wide 5 Try.f5 rfl rfl rfl rfl rfl rfl rfl ⟨rfl, rfl, rfl, rfl, rfl⟩ rfl rfl rfl rfl rfl (by kernel_rfl) Try.func5 (by kernel_rfl)
    (of_decide_eq_true (by kernel_rfl)) (by unfold Func.isWrapper; first | (rw [if_pos (by decide +kernel)]; kernel_rfl) | (rw [if_neg (by decide +kernel)]; exact ⟨rfl, rfl⟩))
    (fun os started H enc _ => lifted os started H enc)
theorem proved : Rows.FnCommonSelfSaid := over
#print axioms proved
end Go.Proofs.Ythlnbbehcpdnfaa.fnCommonSelf
namespace Go.Proofs.Ythlnbbehcpdnfaa
/-- The row, under a short name, for the claim. -/
theorem fnCommonSelf_holds : Rows.FnCommonSelfSaid := fnCommonSelf.proved
end Go.Proofs.Ythlnbbehcpdnfaa

