/- A text of seat YtbbboachakkgiaaDoor: what the law FnEven needs of this repo's texts (by pack.py). Not trusted: Lean checks it. -/
import Derived.Test.YtbbboachakkgiaaDoorKFnEven11
import Derived.Laws.BitsLemmas
import Derived.Test.YtbbboachakkgiaaDoorRows
import Derived.Test.YtbbboachakkgiaaDoorCards
import Derived.Test.YtbbboachakkgiaaDoorTie
import Derived.SevenTiedAt
import Derived.WalkSmall
import Derived.ChangeVars
import Derived.JoinedOf
import Derived.LaidLaws
import Derived.LaidHandle
import Derived.Stop.LaidErr
import Derived.Stop.LaidTwo
import Derived.Stop.Joined
import Derived.RowKitTokens
import Derived.WalkKit
import Derived.ProofKit
import Derived.OpenShut
import Derived.ShutString
import Derived.ChangeOld
import Derived.Below
import Derived.SizedLaws
import Derived.Lib.SmallJoins
import Derived.Laws.StructEq
import Derived.ChangeSlices
namespace Go.Proofs.YtbbboachakkgiaaDoor.Pu
open Go.RowKit Go.Proofs.YtbbboachakkgiaaDoorW.PrintWords Go.Proofs.YtbbboachakkgiaaDoorW.PrintLast Go.Proofs.YtbbboachakkgiaaDoorW.PrintMore Go.Proofs.YtbbboachakkgiaaDoor.G
set_option linter.unusedVariables false
set_option linter.unusedSimpArgs false
def recsOf (l : List S47) : List S33 := l.flatMap fun b => b.f5
theorem recsOf_len {l : List S47} (h : logOk l = true) : ∀ i, (recsOf (l.take i)).length ≤ 6 * i := by
  intro i
  have key : ∀ (m : List S47), (∀ b ∈ m, b.f5.length ≤ 6) → (recsOf m).length ≤ 6 * m.length := by
    intro m
    induction m with
    | nil => intro _; simp [recsOf]
    | cons b m ih =>
      intro hm
      have h1 := ih fun x hx => hm x (List.mem_cons_of_mem _ hx)
      have h2 := hm b (List.mem_cons_self ..)
      unfold recsOf at h1 ⊢
      rw [List.flatMap_cons, List.length_append, List.length_cons]
      omega
  have h1 := key (l.take i) (fun b hb => by
    obtain ⟨j, hj, rfl⟩ := List.getElem_of_mem (List.mem_of_mem_take hb)
    exact (batOk_len (logOk_bat h j hj)).2)
  have h2 : (l.take i).length ≤ i := List.length_take_le _ _
  omega
theorem recsOf_all_len {l : List S47} (h : logOk l = true) : (recsOf l).length ≤ 48 := by
  have h1 := recsOf_len h l.length
  rw [List.take_length] at h1
  have := logOk_len h
  omega
/-- A loop that gathers all records. -/
theorem gather_ev (l : List S47) (h : logOk l = true) (L : Nat → List S33 → Int → Option (List S33))
    (hend : ∀ k m, L (k + 1) m (l.length : Int) = some m)
    (hstep : ∀ k m (i : Nat) (hi : i < l.length), m.length + l[i].f5.length < 1759218604441 → L (k + 1) m (i : Int) = L k (m ++ l[i].f5) ((i : Int) + 1)) : Ev (fun k => L k [] 0) (recsOf l) := by
  have hl := logOk_len h
  have key : ∀ d i, l.length - i = d → i ≤ l.length → Ev (fun k => L k (recsOf (l.take i)) (i : Int)) (recsOf l) := by
    intro d
    induction d with
    | zero =>
      intro i hd hi
      obtain rfl : i = l.length := by omega
      refine Ev.step (fun k => hend k _) ?_
      rw [List.take_length]
      exact Ev.now _
    | succ d ih =>
      intro i hd hi
      have hlt : i < l.length := by omega
      have h1 := recsOf_len h i
      have h2 := (batOk_len (logOk_bat h i hlt)).2
      refine Ev.step (fun k => hstep k _ i hlt (by omega)) ?_
      have e : recsOf (l.take i) ++ l[i].f5 = recsOf (l.take (i + 1)) := by
        unfold recsOf
        rw [List.take_succ_eq_append_getElem hlt, List.flatMap_append]
        simp
      rw [e]
      exact_mod_cast ih (i + 1) (by omega) (by omega)
  have := key l.length 0 (by omega) (by omega)
  simpa [recsOf] using this
end Go.Proofs.YtbbboachakkgiaaDoor.Pu

namespace Go.Proofs.YtbbboachakkgiaaDoor.Pu
open Go.RowKit Go.Proofs.YtbbboachakkgiaaDoorW.PrintWords Go.Proofs.YtbbboachakkgiaaDoorW.PrintLast Go.Proofs.YtbbboachakkgiaaDoorW.PrintMore Go.Proofs.YtbbboachakkgiaaDoor.G
set_option linter.unusedVariables false
set_option linter.unusedSimpArgs false
def joinB (a b : BT) : BT := ⟨a.f0, a.f1, a.f2, a.f3, a.f4, a.f5 ++ b.f5⟩
def evenStep (acc : List BT) (b : BT) : List BT := if h : 0 < acc.length then (if joinGood (acc[acc.length - 1]'(by omega)) b = true then acc.set (acc.length - 1) (joinB (acc[acc.length - 1]'(by omega)) b) else acc ++ [b]) else acc ++ [b]
def evenV (l : List BT) : List BT := l.foldl evenStep []
theorem step_len (acc : List BT) (b : BT) : (evenStep acc b).length ≤ acc.length + 1 := by
  unfold evenStep
  split
  · split <;> simp
  · simp
theorem fold_len : ∀ (l acc : List BT), (l.foldl evenStep acc).length ≤ acc.length + l.length
  | [], acc => by simp
  | b :: l, acc => by
    have h1 := fold_len l (evenStep acc b)
    have h2 := step_len acc b
    simp only [List.foldl_cons, List.length_cons]
    omega
/-- The last one replaced. -/
theorem set_last (acc : List BT) (x : BT) (h : 0 < acc.length) : acc.set (acc.length - 1) x = acc.take (acc.length - 1) ++ [x] := by
  rw [List.set_eq_take_append_cons_drop]
  rw [if_pos (by omega), show acc.length - 1 + 1 = acc.length by omega, List.drop_length]
theorem take_last (acc : List BT) (h : 0 < acc.length) : acc = acc.take (acc.length - 1) ++ [acc[acc.length - 1]'(by omega)] := by
  have := List.take_append_getElem (l := acc) (i := acc.length - 1) (by omega)
  rw [show acc.length - 1 + 1 = acc.length by omega, List.take_length] at this
  exact this.symm
theorem step_cases (acc : List BT) (b : BT) : evenStep acc b = acc ++ [b] ∨ ∃ pre z, acc = pre ++ [z] ∧ joinGood z b = true ∧ evenStep acc b = pre ++ [joinB z b] := by
  unfold evenStep
  by_cases h : 0 < acc.length
  · rw [dif_pos h]
    by_cases hj : joinGood (acc[acc.length - 1]'(by omega)) b = true
    · rw [if_pos hj, set_last _ _ h]
      exact .inr ⟨acc.take (acc.length - 1), acc[acc.length - 1]'(by omega), take_last acc h, hj, rfl⟩
    · rw [if_neg hj]
      exact .inl rfl
  · rw [dif_neg h]
    exact .inl rfl
theorem recs_app (a b : List BT) : recsOf (a ++ b) = recsOf a ++ recsOf b := by simp [recsOf]
theorem recs_one (b : BT) : recsOf [b] = b.f5 := by simp [recsOf]
theorem step_recs (acc : List BT) (b : BT) : recsOf (evenStep acc b) = recsOf acc ++ b.f5 := by
  rcases step_cases acc b with h | ⟨pre, z, rfl, _, h⟩
  · rw [h, recs_app, recs_one]
  · rw [h, recs_app, recs_app, recs_one, recs_one, List.append_assoc]
    rfl
theorem fold_recs : ∀ (l acc : List BT), recsOf (l.foldl evenStep acc) = recsOf acc ++ recsOf l
  | [], acc => by simp [recsOf]
  | b :: l, acc => by
    rw [List.foldl_cons, fold_recs l, step_recs, List.append_assoc, show b :: l = [b] ++ l from rfl, recs_app, recs_one]
theorem even_recs (l : List BT) : recsOf (evenV l) = recsOf l := by
  unfold evenV
  rw [fold_recs]
  rfl
theorem good_join {z b : BT} (h : joinGood z b = true) : batOk z = true ∧ batOk b = true ∧ batOk (joinB z b) = true ∧ z.f2 = 255 ∧ b.f2 = 255 ∧ z.f0 = b.f0 := by
  unfold joinGood at h
  simp only [Bool.and_eq_true, decide_eq_true_eq] at h
  exact ⟨h.1, h.2.1, h.2.2.2.2.2, h.2.2.1, h.2.2.2.1, h.2.2.2.2.1⟩
theorem first_join {z b : BT} (h : 0 < z.f5.length) : firstOf (joinB z b) = firstOf z := by
  rw [firstOf_eq (show 0 < (joinB z b).f5.length by show 0 < (z.f5 ++ b.f5).length; rw [List.length_append]; omega), firstOf_eq h]
  congr 1
  exact List.getElem_append_left h
theorem last_join {z b : BT} (h : 0 < b.f5.length) : lastOf (joinB z b) = lastOf b := by
  have hl : (joinB z b).f5.length = z.f5.length + b.f5.length := List.length_append
  rw [lastOf_eq (show 0 < (joinB z b).f5.length by omega), lastOf_eq h]
  congr 1
  have e : (joinB z b).f5.length - 1 = z.f5.length + (b.f5.length - 1) := by omega
  simp only [e]
  show (z.f5 ++ b.f5)[z.f5.length + (b.f5.length - 1)]'(by rw [List.length_append]; omega) = _
  rw [List.getElem_append_right (by omega)]
  congr 1
  omega
theorem incB_app : ∀ (a b : List BT), IncB (a ++ b) ↔ IncB a ∧ IncB b ∧ ∀ x ∈ a, ∀ y ∈ b, lastOf x < firstOf y
  | [], b => by simp [IncB]
  | x :: a, b => by
    have ih := incB_app a b
    simp only [List.cons_append, IncB, ih, List.mem_append, List.mem_cons]
    constructor
    · rintro ⟨h1, h2, h3, h4⟩
      refine ⟨⟨fun c hc => h1 c (.inl hc), h2⟩, h3, fun y hy z hz => ?_⟩
      rcases hy with rfl | hy
      · exact h1 z (.inr hz)
      · exact h4 y hy z hz
    · rintro ⟨⟨h1, h2⟩, h3, h4⟩
      refine ⟨fun c hc => ?_, h2, h3, fun y hy z hz => h4 y (.inr hy) z hz⟩
      rcases hc with hc | hc
      · exact h1 c hc
      · exact h4 x (.inl rfl) c hc
/-- What is known on the way. -/
def EvenOk (acc rest : List BT) : Prop := (∀ b ∈ acc ++ rest, batOk b = true) ∧ IncB (acc ++ rest)
theorem step_ok {acc rest : List BT} {b : BT} (h : EvenOk acc (b :: rest)) : EvenOk (evenStep acc b) rest := by
  rcases step_cases acc b with e | ⟨pre, z, rfl, hg, e⟩
  · rw [e]
    unfold EvenOk
    rw [List.append_assoc]
    exact h
  · rw [e]
    obtain ⟨h1, h2⟩ := h
    obtain ⟨gz, gb, gj, _⟩ := good_join hg
    have hz := batOk_len gz
    have hb := batOk_len gb
    refine ⟨fun c hc => ?_, ?_⟩
    · rw [List.append_assoc, List.mem_append, List.singleton_append, List.mem_cons] at hc
      rcases hc with hc | rfl | hc
      · exact h1 c (by simp [hc])
      · exact gj
      · exact h1 c (by simp [hc])
    · rw [List.append_assoc, List.singleton_append, incB_app] at h2 ⊢
      obtain ⟨i1, i2, i3⟩ := h2
      have i4 := i2.2
      refine ⟨i1, ⟨fun c hc => ?_, i4.2⟩, fun x hx y hy => ?_⟩
      · rw [last_join (by omega)]
        exact i4.1 c hc
      · rcases List.mem_cons.1 hy with rfl | hy
        · rw [first_join (by omega)]
          exact i3 x hx z (by simp)
        · exact i3 x hx y (by simp [hy])
theorem fold_ok : ∀ (l acc : List BT), EvenOk acc l → EvenOk (l.foldl evenStep acc) []
  | [], acc, h => h
  | b :: l, acc, h => by
    rw [List.foldl_cons]
    exact fold_ok l _ (step_ok h)
theorem even_ok {l : List BT} (h : logOk l = true) : logOk (evenV l) = true := by
  have := fold_ok l [] ⟨fun b hb => logOk_mem h b (by simpa using hb), incB_log h⟩
  obtain ⟨h1, h2⟩ := this
  rw [List.append_nil] at h1 h2
  refine logOk_of h1 h2 ?_
  have := fold_len l []
  have := logOk_len h
  unfold evenV
  simp only [List.length_nil] at *
  omega
end Go.Proofs.YtbbboachakkgiaaDoor.Pu

namespace Go.Proofs.YtbbboachakkgiaaDoor.Pu
open Go.RowKit Go.Proofs.YtbbboachakkgiaaDoorW.PrintWords Go.Proofs.YtbbboachakkgiaaDoorW.PrintLast Go.Proofs.YtbbboachakkgiaaDoorW.PrintMore Go.Proofs.YtbbboachakkgiaaDoor.G
set_option linter.unusedVariables false
set_option linter.unusedSimpArgs false
theorem sjoin_j (a b : BT) (x : Bool) (ha : batOk a = true) (hb : batOk b = true) : Ev (fun k => spec_BatchJoin.j0 k x a.f0 a.f1 a.f2 a.f3 a.f4 a.f5 b.f0 b.f1 b.f2 b.f3 b.f4 b.f5) (if x = true ∨ ¬ batOk (freeB a.f0 (a.f5 ++ b.f5)) = true then (false, false, 0, 0, 0, [], false) else (a.f0, false, 255, 0, 0, a.f5 ++ b.f5, true)) := by
  refine Ev.step (fun k => by rw [spec_BatchJoin.j0]) ?_
  cases x
  · simp only [Bool.false_eq_true, if_false, false_or]
    have h1 := short_of ha
    have h2 := short_of hb
    have l1 := h1.1
    have l2 := h2.1
    simp only [bindS, List.length_nil, List.nil_append, if_pos (show 0 + a.f5.length < 1759218604441 by omega), if_pos (show a.f5.length + b.f5.length < 1759218604441 by omega)]
    refine Ev.bind (free_ev12 a.f0 (a.f5 ++ b.f5) ⟨by rw [List.length_append]; omega, fun r hr => by rcases List.mem_append.1 hr with hr | hr; exact h1.2 r hr; exact h2.2 r hr⟩) ?_
    have e : batOk ⟨a.f0, false, 255, 0, 0, a.f5 ++ b.f5⟩ = batOk (freeB a.f0 (a.f5 ++ b.f5)) := rfl
    simp only [spec_BatchValid.f, bindS, e]
    by_cases hv : batOk (freeB a.f0 (a.f5 ++ b.f5)) = true
    · rw [if_neg (show ¬ ¬ batOk (freeB a.f0 (a.f5 ++ b.f5)) = true from fun h => h hv)]
      simp only [hv, if_true]
      exact Ev.now _
    · rw [if_pos hv]
      simp only [if_neg hv]
      exact Ev.now _
  · simp only [if_true, true_or]
    exact Ev.now _
theorem sBatchJoin_ev (a b : BT) : Ev (fun k => spec_BatchJoin.f k a.f0 a.f1 a.f2 a.f3 a.f4 a.f5 b.f0 b.f1 b.f2 b.f3 b.f4 b.f5) (bjoinV a b) := by
  have bad : ∀ k, spec_BatchJoin.j0 (k + 1) true a.f0 a.f1 a.f2 a.f3 a.f4 a.f5 b.f0 b.f1 b.f2 b.f3 b.f4 b.f5 = some (false, false, 0, 0, 0, [], false) := fun k => by rw [spec_BatchJoin.j0]; simp
  have badE : Ev (fun k => spec_BatchJoin.j0 k true a.f0 a.f1 a.f2 a.f3 a.f4 a.f5 b.f0 b.f1 b.f2 b.f3 b.f4 b.f5) (false, false, 0, 0, 0, [], false) := Ev.step bad (Ev.now _)
  unfold spec_BatchJoin.f bjoinV joinGood
  simp only [spec_BatchValid.f, bindS]
  cases ha : batOk a
  · simpa using badE
  · cases hb : batOk b
    · simpa using badE
    · simp only [if_true, Bool.true_and]
      by_cases h2 : a.f2 = 255
      · by_cases h3 : b.f2 = 255
        · have ef := free_of ha h2
          have e5 : (⟨a.f0, a.f1, a.f2, a.f3, a.f4, a.f5 ++ b.f5⟩ : BT) = freeB a.f0 (a.f5 ++ b.f5) := by
            obtain ⟨a0, a1, a2, a3, a4, l⟩ := a
            simp only [freeB, S47.mk.injEq, true_and, and_true] at ef ⊢
            exact ef
          have e6 : ((a.f0, a.f1, a.f2, a.f3, a.f4, a.f5 ++ b.f5, true) : BJoinT) = (a.f0, false, 255, 0, 0, a.f5 ++ b.f5, true) := by
            have := e5
            simp only [freeB, S47.mk.injEq, true_and, and_true] at this
            obtain ⟨q1, q2, q3, q4⟩ := this
            rw [q1, q2, q3, q4]
          rw [e5, e6]
          simp only [if_pos h2, if_pos h3, decide_eq_true h2, decide_eq_true h3, Bool.true_and]
          have := sjoin_j a b (a.f0 != b.f0) ha hb
          by_cases h4 : a.f0 = b.f0
          · have e : (a.f0 != b.f0) = false := by simp [h4]
            rw [e] at this ⊢
            simp only [Bool.false_eq_true, false_or] at this
            rw [decide_eq_true h4, Bool.true_and]
            by_cases hv : batOk (freeB a.f0 (a.f5 ++ b.f5)) = true
            · rw [if_neg (by simp [hv])] at this
              rw [if_pos hv]
              exact this
            · rw [if_pos hv] at this
              rw [if_neg hv]
              exact this
          · have e : (a.f0 != b.f0) = true := by simp [h4]
            rw [e, decide_eq_false h4, Bool.false_and, if_neg (by simp)]
            exact badE
        · simp only [if_pos h2, if_neg h3, decide_eq_false h3, Bool.false_and, Bool.and_false, Bool.false_eq_true, if_false]
          exact badE
      · simp only [if_neg h2, decide_eq_false h2, Bool.false_and, Bool.and_false, Bool.false_eq_true, if_false]
        exact badE
end Go.Proofs.YtbbboachakkgiaaDoor.Pu

namespace Go.Proofs.YtbbboachakkgiaaDoor.Pu
open Go.RowKit Go.Proofs.YtbbboachakkgiaaDoorW.PrintWords Go.Proofs.YtbbboachakkgiaaDoorW.PrintLast Go.Proofs.YtbbboachakkgiaaDoorW.PrintMore Go.Proofs.YtbbboachakkgiaaDoor.G
set_option linter.unusedVariables false
set_option linter.unusedSimpArgs false
theorem l12Batch_loop (b0 b1 : Bool) (b2 b3 b4 : Int) (l : List RT) (h : ShortR l) : ∀ d i, l.length - i = d → i ≤ l.length → Ev (fun k => spec_l12Batch.l0 k (l.take i) (i : Int) b0 b1 b2 b3 b4 l) (b0, b1, b2, b3, b4, l) := by
  intro d
  induction d with
  | zero =>
    intro i hd hi
    refine Ev.step (fun k => by rw [spec_l12Batch.l0]) ?_
    simp only [if_neg (show ¬ (i : Int) < (l.length : Int) by omega), List.take_of_length_le (show l.length ≤ i by omega)]
    exact Ev.now _
  | succ d ih =>
    intro i hd hi
    have hlt : i < l.length := by omega
    have hl := h.1
    refine Ev.step (fun k => by rw [spec_l12Batch.l0]) ?_
    simp only [if_pos (show (i : Int) < (l.length : Int) by omega), if_pos (show (0 : Int) ≤ (i : Int) by omega), rdR_nat l i hlt, l12Copy_ev _ (h.2 _ (List.getElem_mem hlt)), bindS, w64 (a := (i : Int) + 1) (by omega) (by omega), if_pos (show (l.take i).length < 1759218604441 by rw [List.length_take]; omega)]
    have := ih (i + 1) (by omega) (by omega)
    rw [← List.take_append_getElem hlt] at this
    exact this
theorem l12Batch_ev (b : BT) (h : ShortR b.f5) : Ev (fun k => spec_l12Batch.f k b.f0 b.f1 b.f2 b.f3 b.f4 b.f5) (b.f0, b.f1, b.f2, b.f3, b.f4, b.f5) := by
  unfold spec_l12Batch.f
  have := l12Batch_loop b.f0 b.f1 b.f2 b.f3 b.f4 b.f5 h _ 0 rfl (by omega)
  simpa using this
end Go.Proofs.YtbbboachakkgiaaDoor.Pu

namespace Go.Proofs.YtbbboachakkgiaaDoor.Pu
open Go.RowKit Go.Proofs.YtbbboachakkgiaaDoorW.PrintWords Go.Proofs.YtbbboachakkgiaaDoorW.PrintLast Go.Proofs.YtbbboachakkgiaaDoorW.PrintMore Go.Proofs.YtbbboachakkgiaaDoor.G
set_option linter.unusedVariables false
set_option linter.unusedSimpArgs false
def logEvenV (l : List BT) : List BT × Bool := if logOk l = true then (evenV l, true) else ([], false)
theorem even_loop (l : List BT) (hl : l.length ≤ 8) (hs : ∀ b ∈ l, ShortR b.f5) : ∀ d i (acc : List BT), l.length - i = d → i ≤ l.length → acc.length ≤ i → Ev (fun k => impl_LogEven.l0 k acc l (l.length : Int) (i : Int)) ((l.drop i).foldl evenStep acc, true) := by
  intro d
  induction d with
  | zero =>
    intro i acc hd hi ha
    refine Ev.step (fun k => by rw [impl_LogEven.l0]) ?_
    simp only [if_neg (show ¬ (i : Int) < (l.length : Int) by omega), List.drop_of_length_le (show l.length ≤ i by omega), List.foldl_nil]
    exact Ev.now _
  | succ d ih =>
    intro i acc hd hi ha
    have hlt : i < l.length := by omega
    have hw : wrap64 ((i : Int) + 1) = ((i + 1 : Nat) : Int) := by rw [w64 (by omega) (by omega)]; omega
    have hcp := copyBatch_ev l[i] (hs _ (List.getElem_mem hlt))
    refine Ev.step (fun k => by rw [impl_LogEven.l0]) ?_
    rw [List.drop_eq_getElem_cons hlt, List.foldl_cons]
    simp only [if_pos (show (i : Int) < (l.length : Int) by omega), if_pos (show (0 : Int) ≤ (i : Int) by omega), rdB_nat l i hlt, hw]
    by_cases h0 : 0 < acc.length
    · have hlast : acc.length - 1 < acc.length := by omega
      have ew : wrap64 ((acc.length : Int) - 1) = ((acc.length - 1 : Nat) : Int) := by rw [w64 (by omega) (by omega)]; omega
      simp only [if_pos (show (acc.length : Int) > 0 by omega), ew, if_pos (show (0 : Int) ≤ ((acc.length - 1 : Nat) : Int) by omega), if_pos (show ((acc.length - 1 : Nat) : Int) < (acc.length : Int) by omega), rdB_nat acc _ hlast, Int.toNat_natCast]
      refine Ev.bind (BatchJoin_ev acc[acc.length - 1] l[i]) ?_
      by_cases hg : joinGood acc[acc.length - 1] l[i] = true
      · have e : evenStep acc l[i] = acc.set (acc.length - 1) (joinB acc[acc.length - 1] l[i]) := by unfold evenStep; rw [dif_pos h0, if_pos hg]
        rw [e]
        unfold bjoinV
        simp only [if_pos hg, if_true]
        exact ih (i + 1) _ (by omega) (by omega) (by rw [List.length_set]; omega)
      · have e : evenStep acc l[i] = acc ++ [l[i]] := by unfold evenStep; rw [dif_pos h0, if_neg hg]
        rw [e]
        unfold bjoinV
        simp only [if_neg hg, Bool.false_eq_true, if_false]
        refine Ev.bind hcp ?_
        simp only [if_pos (show acc.length < 2513169434916 by omega)]
        exact ih (i + 1) _ (by omega) (by omega) (by rw [List.length_append, List.length_singleton]; omega)
    · have e : evenStep acc l[i] = acc ++ [l[i]] := by unfold evenStep; rw [dif_neg h0]
      rw [e]
      simp only [if_neg (show ¬ (acc.length : Int) > 0 by omega)]
      refine Ev.bind hcp ?_
      simp only [if_pos (show acc.length < 2513169434916 by omega)]
      exact ih (i + 1) _ (by omega) (by omega) (by rw [List.length_append, List.length_singleton]; omega)
theorem short_all {l : List BT} (h : logOk l = true) : ∀ b ∈ l, ShortR b.f5 := fun b hb => short_of (logOk_mem h b hb)
theorem LogEven_ev (l : List BT) : Ev (fun k => impl_LogEven.f k l) (logEvenV l) := by
  unfold impl_LogEven.f logEvenV
  simp only [impl_LogValid.f, bindS]
  by_cases h : logOk l = true
  · simp only [if_pos h]
    have := even_loop l (logOk_len h) (short_all h) _ 0 [] rfl (by omega) (by simp)
    simpa [evenV] using this
  · simp only [if_neg h]
    exact Ev.now _
theorem sEven_loop (l : List BT) (hl : l.length ≤ 8) (hs : ∀ b ∈ l, ShortR b.f5) : ∀ d i (acc : List BT), l.length - i = d → i ≤ l.length → acc.length ≤ i → Ev (fun k => spec_LogEven.l0 k l acc (i : Int)) ((l.drop i).foldl evenStep acc, true) := by
  intro d
  induction d with
  | zero =>
    intro i acc hd hi ha
    refine Ev.step (fun k => by rw [spec_LogEven.l0]) ?_
    simp only [if_neg (show ¬ (i : Int) < (l.length : Int) by omega), List.drop_of_length_le (show l.length ≤ i by omega), List.foldl_nil]
    exact Ev.now _
  | succ d ih =>
    intro i acc hd hi ha
    have hlt : i < l.length := by omega
    have hw : wrap64 ((i : Int) + 1) = ((i + 1 : Nat) : Int) := by rw [w64 (by omega) (by omega)]; omega
    have hcp := l12Batch_ev l[i] (hs _ (List.getElem_mem hlt))
    refine Ev.step (fun k => by rw [spec_LogEven.l0]) ?_
    rw [List.drop_eq_getElem_cons hlt, List.foldl_cons]
    simp only [if_pos (show (i : Int) < (l.length : Int) by omega), if_pos (show (0 : Int) ≤ (i : Int) by omega), rdB_nat l i hlt, hw]
    by_cases h0 : 0 < acc.length
    · have hlast : acc.length - 1 < acc.length := by omega
      have ew : wrap64 ((acc.length : Int) - 1) = ((acc.length - 1 : Nat) : Int) := by rw [w64 (by omega) (by omega)]; omega
      simp only [if_pos (show (acc.length : Int) > 0 by omega), ew, if_pos (show (0 : Int) ≤ ((acc.length - 1 : Nat) : Int) by omega), if_pos (show ((acc.length - 1 : Nat) : Int) < (acc.length : Int) by omega), rdB_nat acc _ hlast, Int.toNat_natCast]
      refine Ev.bind (sBatchJoin_ev acc[acc.length - 1] l[i]) ?_
      by_cases hg : joinGood acc[acc.length - 1] l[i] = true
      · have e : evenStep acc l[i] = acc.set (acc.length - 1) (joinB acc[acc.length - 1] l[i]) := by unfold evenStep; rw [dif_pos h0, if_pos hg]
        rw [e]
        unfold bjoinV
        simp only [if_pos hg, if_true]
        exact ih (i + 1) _ (by omega) (by omega) (by rw [List.length_set]; omega)
      · have e : evenStep acc l[i] = acc ++ [l[i]] := by unfold evenStep; rw [dif_pos h0, if_neg hg]
        rw [e]
        unfold bjoinV
        simp only [if_neg hg, Bool.false_eq_true, if_false]
        refine Ev.bind hcp ?_
        simp only [if_pos (show acc.length < 2513169434916 by omega)]
        exact ih (i + 1) _ (by omega) (by omega) (by rw [List.length_append, List.length_singleton]; omega)
    · have e : evenStep acc l[i] = acc ++ [l[i]] := by unfold evenStep; rw [dif_neg h0]
      rw [e]
      simp only [if_neg (show ¬ (acc.length : Int) > 0 by omega)]
      refine Ev.bind hcp ?_
      simp only [if_pos (show acc.length < 2513169434916 by omega)]
      exact ih (i + 1) _ (by omega) (by omega) (by rw [List.length_append, List.length_singleton]; omega)
theorem sLogEven_ev (l : List BT) : Ev (fun k => spec_LogEven.f k l) (logEvenV l) := by
  unfold spec_LogEven.f logEvenV
  simp only [spec_LogValid.f, bindS]
  by_cases h : logOk l = true
  · simp only [if_pos h]
    have := sEven_loop l (logOk_len h) (short_all h) _ 0 [] rfl (by omega) (by simp)
    simpa [evenV] using this
  · simp only [if_neg h]
    exact Ev.now _
theorem even_row {l : List BT} (h : RowB l) : RowB (logEvenV l).1 := by
  unfold logEvenV
  by_cases hv : logOk l = true
  · rw [if_pos hv]
    have ho := even_ok hv
    exact ⟨by show (evenV l).length ≤ _; have := logOk_len ho; omega, fun b hb => short_row (short_of (logOk_mem ho b hb))⟩
  · rw [if_neg hv]
    exact ⟨by simp, fun b hb => by simp at hb⟩
end Go.Proofs.YtbbboachakkgiaaDoor.Pu

namespace Go.Proofs.YtbbboachakkgiaaDoor.Pu
open Go.RowKit Go.Proofs.YtbbboachakkgiaaDoorW.PrintWords Go.Proofs.YtbbboachakkgiaaDoorW.PrintLast Go.Proofs.YtbbboachakkgiaaDoorW.PrintMore Go.Proofs.YtbbboachakkgiaaDoor.G
set_option linter.unusedVariables false
set_option linter.unusedSimpArgs false
theorem selfInts (l : List Int) (hl : l.length ≤ 9223372036854775807) : Ev (fun k => laws_sameInts.f k l l) true := by
  unfold laws_sameInts.f
  simp only [if_true]
  have := ev_all l hl (fun k i => laws_sameInts.l0 k l l i) (fun k i => some true) (fun _ => true) true
    (fun k => by simp only [laws_sameInts.l0]; rw [if_neg (by omega)])
    (fun k i h => by simp only [laws_sameInts.l0]; rw [if_pos (by omega), if_pos (by omega), if_pos (by omega), if_pos trivial]; rfl)
    (fun i h => Ev.now _) l.length 0 (by omega) (by omega)
  rw [show ((l.drop 0).all fun _ => true) = true from List.all_eq_true.2 (fun _ _ => rfl)] at this
  simpa using this
theorem selfRecord (x : S33) (h : Lens x) : Ev (fun k => laws_sameRecord.f k x.f0 x.f1 x.f2 x.f3 x.f4 x.f5 x.f0 x.f1 x.f2 x.f3 x.f4 x.f5) true := by
  unfold laws_sameRecord.f
  simp only [if_true, beq_self_eq_true]
  refine Ev.bind (selfInts _ h.1) ?_
  simp only [if_true]
  exact Ev.bind (selfInts _ h.2) (Ev.now _)
theorem selfRecords (l : List S33) (h : RowR l) : Ev (fun k => laws_sameRecords.f k l l) true := by
  unfold laws_sameRecords.f
  simp only [if_true]
  have := ev_all l h.1 (fun k i => laws_sameRecords.l0 k l l i) (fun k i => laws_sameRecord.f k (rd_T33 l i).f0 (rd_T33 l i).f1 (rd_T33 l i).f2 (rd_T33 l i).f3 (rd_T33 l i).f4 (rd_T33 l i).f5 (rd_T33 l i).f0 (rd_T33 l i).f1 (rd_T33 l i).f2 (rd_T33 l i).f3 (rd_T33 l i).f4 (rd_T33 l i).f5) (fun _ => true) true
    (fun k => by simp only [laws_sameRecords.l0]; rw [if_neg (by omega)])
    (fun k i h => by simp only [laws_sameRecords.l0]; rw [if_pos (by omega), if_pos (by omega), if_pos (by omega)])
    (fun i hi => by rw [rdR_nat l i hi]; exact selfRecord _ (h.2 _ (List.getElem_mem hi))) l.length 0 (by omega) (by omega)
  rw [show ((l.drop 0).all fun _ => true) = true from List.all_eq_true.2 (fun _ _ => rfl)] at this
  simpa using this
theorem selfBatch (b : S47) (h : RowR b.f5) : Ev (fun k => laws_sameBatch.f k b.f0 b.f1 b.f2 b.f3 b.f4 b.f5 b.f0 b.f1 b.f2 b.f3 b.f4 b.f5) true := by
  unfold laws_sameBatch.f
  simp only [if_true, beq_self_eq_true]
  exact Ev.bind (selfRecords _ h) (Ev.now _)
end Go.Proofs.YtbbboachakkgiaaDoor.Pu

namespace Go.Proofs.YtbbboachakkgiaaDoor.Pu
open Go.RowKit Go.Proofs.YtbbboachakkgiaaDoorW.PrintWords Go.Proofs.YtbbboachakkgiaaDoorW.PrintLast Go.Proofs.YtbbboachakkgiaaDoorW.PrintMore Go.Proofs.YtbbboachakkgiaaDoor.G
set_option linter.unusedVariables false
set_option linter.unusedSimpArgs false
theorem selfLog (l : List S47) (h : RowB l) : Ev (fun k => laws_sameLog.f k l l) true := by
  unfold laws_sameLog.f
  simp only [if_true]
  have := ev_all l h.1 (fun k i => laws_sameLog.l0 k l l i) (fun k i => laws_sameBatch.f k (rd_T47 l i).f0 (rd_T47 l i).f1 (rd_T47 l i).f2 (rd_T47 l i).f3 (rd_T47 l i).f4 (rd_T47 l i).f5 (rd_T47 l i).f0 (rd_T47 l i).f1 (rd_T47 l i).f2 (rd_T47 l i).f3 (rd_T47 l i).f4 (rd_T47 l i).f5) (fun _ => true) true
    (fun k => by simp only [laws_sameLog.l0]; rw [if_neg (by omega)])
    (fun k i h => by simp only [laws_sameLog.l0]; rw [if_pos (by omega), if_pos (by omega), if_pos (by omega)])
    (fun i hi => by rw [rdB_nat l i hi]; exact selfBatch _ (h.2 _ (List.getElem_mem hi))) l.length 0 (by omega) (by omega)
  rw [show ((l.drop 0).all fun _ => true) = true from List.all_eq_true.2 (fun _ _ => rfl)] at this
  simpa using this
end Go.Proofs.YtbbboachakkgiaaDoor.Pu

namespace Go.Proofs.YtbbboachakkgiaaDoor.Pu
open Go.RowKit Go.Proofs.YtbbboachakkgiaaDoorW.PrintWords Go.Proofs.YtbbboachakkgiaaDoorW.PrintLast Go.Proofs.YtbbboachakkgiaaDoorW.PrintMore Go.Proofs.YtbbboachakkgiaaDoor.G
set_option linter.unusedVariables false
theorem allOf_ev (l : List S47) (h : logOk l = true) : Ev (fun k => laws_allOf.f k l) (recsOf l) := by
  unfold laws_allOf.f
  have hl := logOk_len h
  exact gather_ev l h (fun k m i => laws_allOf.l0 k l m i)
    (fun k m => by simp only [laws_allOf.l0]; rw [if_neg (by omega)])
    (fun k m i hi hm => by simp only [laws_allOf.l0]; rw [if_pos (by omega), if_pos (by omega), rdB_nat l i hi, if_pos hm, w64 (by omega) (by omega)])
end Go.Proofs.YtbbboachakkgiaaDoor.Pu

namespace Go.Proofs.YtbbboachakkgiaaDoor.Pu
open Go.RowKit Go.Proofs.YtbbboachakkgiaaDoorW.PrintWords Go.Proofs.YtbbboachakkgiaaDoorW.PrintLast Go.Proofs.YtbbboachakkgiaaDoor.G
set_option linter.unusedVariables false
set_option linter.unusedSimpArgs false
theorem xor_i64 (a b : Int) (h0 : 0 ≤ a) (h1 : a < 4611686018427387904) (k0 : 0 ≤ b) (k1 : b < 4611686018427387904) : 0 ≤ bits .xor .i64 a b := by
  obtain ⟨a, rfl⟩ := Int.eq_ofNat_of_zero_le h0
  obtain ⟨b, rfl⟩ := Int.eq_ofNat_of_zero_le k0
  have ha : a < 2 ^ 62 := by omega
  have hb : b < 2 ^ 62 := by omega
  have hx := Nat.xor_lt_two_pow ha hb
  have ha' : a % 2 ^ 64 = a := Nat.mod_eq_of_lt (by omega)
  have hb' : b % 2 ^ 64 = b := Nat.mod_eq_of_lt (by omega)
  show 0 ≤ IntKind.i64.wrap ((BitVec.ofInt 64 (a : Int) ^^^ BitVec.ofInt 64 (b : Int)).toNat : Int)
  rw [BitVec.ofInt_natCast, BitVec.ofInt_natCast, BitVec.toNat_xor, BitVec.toNat_ofNat, BitVec.toNat_ofNat, ha', hb', IntKind.wrap_i64]
  omega
theorem rd_range {b : List Int} (hb : ∀ x ∈ b, 0 ≤ x ∧ x ≤ 255) (i : Int) : 0 ≤ rd b i ∧ rd b i ≤ 255 := by
  unfold rd
  rw [List.getD_eq_getElem?_getD]
  rcases h : b[i.toNat]? with _ | x
  · simp
  · exact hb x (List.mem_of_getElem? h)
theorem mod_range {x n : Int} (h0 : 0 ≤ x) (h1 : 1 ≤ n) : 0 ≤ Int.tmod x n ∧ Int.tmod x n < n := by
  rw [Int.tmod_eq_emod_of_nonneg h0]
  exact ⟨Int.emod_nonneg _ (by omega), Int.emod_lt_of_pos _ (by omega)⟩
/-- A code that is read: bytes, and a place that is no great number. -/
def CodeOk (b : List Int) : Prop := b.length ≤ 2000 ∧ ∀ x ∈ b, 0 ≤ x ∧ x ≤ 255
theorem pick_ends {b : List Int} (hb : CodeOk b) (p n : Int) (h0 : 0 ≤ p) (h1 : p ≤ 1000000000) (hn : n ≤ 4611686018427387904) :
    EndsIn (fun k => spec_l6Rd_pick.f k b p n) (fun r => r.2 = p + 1 ∧ 0 ≤ r.1 ∧ (1 ≤ n → r.1 < n) ∧ (n < 1 → r.1 = 0)) := by
  obtain ⟨hl, hr⟩ := hb
  unfold spec_l6Rd_pick.f
  rw [w64 (a := p + 1) (by omega) (by omega)]
  by_cases hn1 : n < 1
  · simp only [if_pos hn1]
    refine EndsIn.step (fun k => by rw [spec_l6Rd_pick.j0]) ?_
    simp only [if_true]
    exact EndsIn.now _ ⟨rfl, by omega, by omega, fun _ => rfl⟩
  · simp only [if_neg hn1]
    refine EndsIn.step (fun k => by rw [spec_l6Rd_pick.j0]) ?_
    rw [show p + 1 - 1 = p by omega, w64 (a := p) (by omega) (by omega)]
    by_cases hz : (b.length : Int) = 0
    · have : ((b.length : Int) == 0) = true := by simpa using hz
      simp only [this, if_true]
      exact EndsIn.now _ ⟨rfl, by omega, by omega, fun h => by omega⟩
    · have hz' : ((b.length : Int) == 0) = false := by simpa using hz
      simp only [hz', Bool.false_eq_true, if_false]
      by_cases hp : p < (b.length : Int)
      · have hx := rd_range hr p
        simp only [if_pos hp, if_pos h0, if_neg (show ¬ n = 0 by omega)]
        rw [w64 (a := rd b p) (by omega) (by omega)]
        have hm := mod_range (x := rd b p) (n := n) hx.1 (by omega)
        exact EndsIn.now _ ⟨rfl, hm.1, fun _ => hm.2, fun h => by omega⟩
      · have hm1 := mod_range (x := p) (n := (b.length : Int)) h0 (by omega)
        have h7 : wrap64 (wrap64 (p * 7) + 3) = p * 7 + 3 := by
          rw [w64 (a := p * 7) (by omega) (by omega), w64 (by omega) (by omega)]
        have hm2 := mod_range (x := p * 7 + 3) (n := (b.length : Int)) (by omega) (by omega)
        simp only [if_neg hp, if_neg hz, h7, if_pos hm1.1, if_pos hm1.2, if_pos hm2.1, if_pos hm2.2, if_neg (show ¬ n = 0 by omega)]
        have hx1 := rd_range hr (Int.tmod p b.length)
        have hx2 := rd_range hr (Int.tmod (p * 7 + 3) b.length)
        generalize rd b (Int.tmod p b.length) = x1 at hx1 ⊢
        generalize rd b (Int.tmod (p * 7 + 3) b.length) = x2 at hx2 ⊢
        have hd : 0 ≤ Int.tdiv p (b.length : Int) ∧ Int.tdiv p (b.length : Int) ≤ p := by
          rw [Int.tdiv_eq_ediv_of_nonneg h0]
          exact ⟨Int.ediv_nonneg h0 (by omega), Int.ediv_le_self _ h0⟩
        generalize Int.tdiv p (b.length : Int) = q at hd ⊢
        have e1 : wrap64 x1 = x1 := w64 (by omega) (by omega)
        have e2 : wrap64 x2 = x2 := w64 (by omega) (by omega)
        have e3 : wrap64 (x1 * 131) = x1 * 131 := w64 (by omega) (by omega)
        have e4 : wrap64 (x2 * 1117) = x2 * 1117 := w64 (by omega) (by omega)
        have e5 : wrap64 (x1 * 131 + x2 * 1117) = x1 * 131 + x2 * 1117 := w64 (by omega) (by omega)
        have e6 : wrap64 (p * 29) = p * 29 := w64 (by omega) (by omega)
        have e7 : wrap64 (x1 * 131 + x2 * 1117 + p * 29) = x1 * 131 + x2 * 1117 + p * 29 := w64 (by omega) (by omega)
        have e8 : wrap64 q = q := w64 (by omega) (by omega)
        have e9 : wrap64 (q * 53) = q * 53 := w64 (by omega) (by omega)
        have e10 : wrap64 (x1 * 131 + x2 * 1117 + p * 29 + q * 53) = x1 * 131 + x2 * 1117 + p * 29 + q * 53 := w64 (by omega) (by omega)
        simp only [e1, e2, e3, e4, e5, e6, e7, e8, e9, e10]
        have hX : 0 ≤ x1 * 131 + x2 * 1117 + p * 29 + q * 53 ∧ x1 * 131 + x2 * 1117 + p * 29 + q * 53 < 4611686018427387904 := ⟨by omega, by omega⟩
        generalize x1 * 131 + x2 * 1117 + p * 29 + q * 53 = X at hX ⊢
        have e11 : wrap64 (Int.tdiv X 64) = X / 64 := by
          rw [Int.tdiv_eq_ediv_of_nonneg hX.1]
          exact w64 (by omega) (by omega)
        rw [e11]
        have hxx := xor_i64 X (X / 64) hX.1 hX.2 (by omega) (by omega)
        have hm := mod_range (n := n) hxx (by omega)
        exact EndsIn.now _ ⟨rfl, hm.1, fun _ => hm.2, fun h => by omega⟩
end Go.Proofs.YtbbboachakkgiaaDoor.Pu

namespace Go.Proofs.YtbbboachakkgiaaDoor.Pu
open Go.RowKit Go.Proofs.YtbbboachakkgiaaDoorW.PrintWords Go.Proofs.YtbbboachakkgiaaDoorW.PrintLast Go.Proofs.YtbbboachakkgiaaDoorW.PrintMore Go.Proofs.YtbbboachakkgiaaDoor.G
set_option linter.unusedVariables false
set_option linter.unusedSimpArgs false
theorem part_loop {b : List Int} (hb : CodeOk b) (n : Int) (hn : n ≤ 12) : ∀ d (i : Nat) (l : List Int) (p : Int), 12 - i = d → l.length = i → i ≤ 12 → 0 ≤ p → p ≤ 900000000 + 2 * (i : Int) →
    EndsIn (fun k => spec_l91Part.l0 k l n (i : Int) b p) (fun r => r.2.1.length ≤ 12 ∧ p ≤ r.2.2 ∧ r.2.2 ≤ p + 2 * (12 - (i : Int))) := by
  intro d
  induction d with
  | zero =>
    intro i l p hd hl hi p0 p1
    refine EndsIn.step (fun k => by rw [spec_l91Part.l0]) ?_
    simp only [if_neg (show ¬ (i : Int) < n by omega)]
    exact EndsIn.now _ ⟨by show l.length ≤ 12; omega, by show p ≤ p; omega, by show p ≤ _; omega⟩
  | succ d ih =>
    intro i l p hd hl hi p0 p1
    refine EndsIn.step (fun k => by rw [spec_l91Part.l0]) ?_
    by_cases h : (i : Int) < n
    · simp only [if_pos h]
      refine EndsIn.bind (pick_ends hb p 256 p0 (by omega) (by omega)) fun q hq => ?_
      obtain ⟨q2, q3, q4, _⟩ := hq
      simp only [bindS]
      rw [q2]
      refine EndsIn.bind (pick_ends hb (p + 1) 4 (by omega) (by omega) (by omega)) fun s hs => ?_
      obtain ⟨s2, s3, s4, _⟩ := hs
      have s5 := s4 (by omega)
      rw [s2]
      simp only [if_pos s3, if_pos (show s.1 < (([1, 2, 3, q.1] : List Int).length : Int) by simpa using s5), if_pos (show l.length < 17592186044416 by omega), w64 (a := (i : Int) + 1) (by omega) (by omega)]
      have := ih (i + 1) (l ++ [rd [1, 2, 3, q.1] s.1]) (p + 1 + 1) (by omega) (by rw [List.length_append, hl]; rfl) (by omega) (by omega) (by omega)
      exact this.mono fun r hr => ⟨hr.1, by omega, by omega⟩
    · simp only [if_neg h]
      exact EndsIn.now _ ⟨by show l.length ≤ 12; omega, by show p ≤ p; omega, by show p ≤ _; omega⟩
theorem part_ends {b : List Int} (hb : CodeOk b) (p : Int) (h0 : 0 ≤ p) (h1 : p ≤ 800000000) : EndsIn (fun k => spec_l91Part.f k b p) (fun r => r.2.1.length ≤ 12 ∧ p ≤ r.2.2 ∧ r.2.2 ≤ p + 30) := by
  have st : ∀ (n q : Int), n ≤ 12 → p ≤ q → q ≤ p + 5 → EndsIn (fun k => spec_l91Part.j0 k [] n b q) (fun r => r.2.1.length ≤ 12 ∧ p ≤ r.2.2 ∧ r.2.2 ≤ p + 30) := by
    intro n q hn q0 q1
    refine EndsIn.step (fun k => by rw [spec_l91Part.j0]) ?_
    have := part_loop hb n hn 12 0 [] q (by omega) rfl (by omega) (by omega) (by omega)
    exact this.mono fun r hr => ⟨hr.1, by omega, by omega⟩
  unfold spec_l91Part.f
  refine EndsIn.bind (pick_ends hb p 4 h0 (by omega) (by omega)) fun q hq => ?_
  obtain ⟨q2, q3, q4, _⟩ := hq
  rw [q2]
  by_cases hz : q.1 = 0
  · simp only [if_pos hz]
    exact EndsIn.now _ ⟨by simp, by show p ≤ p + 1; omega, by show p + 1 ≤ p + 30; omega⟩
  · simp only [if_neg hz, bindS]
    refine EndsIn.bind (pick_ends hb (p + 1) 5 (by omega) (by omega) (by omega)) fun s hs => ?_
    obtain ⟨s2, s3, s4, _⟩ := hs
    have s5 := s4 (by omega)
    rw [s2]
    refine EndsIn.bind (pick_ends hb (p + 1 + 1) 12 (by omega) (by omega) (by omega)) fun u hu => ?_
    obtain ⟨u2, u3, u4, _⟩ := hu
    rw [u2]
    by_cases hu0 : u.1 = 0
    · simp only [if_pos hu0]
      exact st _ _ (by omega) (by omega) (by omega)
    · simp only [if_neg hu0]
      exact st _ _ (by omega) (by omega) (by omega)
def Small (r : S33) : Prop := r.f3.length ≤ 12 ∧ r.f5.length ≤ 12
theorem recs_loop {b : List Int} (hb : CodeOk b) (n : Int) (hn : n ≤ 6) : ∀ d (i : Nat) (l : List S33) (o t p : Int), 6 - i = d → l.length = i → i ≤ 6 → (∀ r ∈ l, Small r) → 0 ≤ p → p ≤ 700000000 + 100 * (i : Int) →
    EndsIn (fun k => spec_l91Records.l0 k o l n t (i : Int) b p) (fun r => (∀ x ∈ r.1, Small x) ∧ (n ≤ (r.1.length : Int)) ∧ r.1.length ≤ 6 ∧ p ≤ r.2 ∧ r.2 ≤ p + 100 * (6 - (i : Int))) := by
  have stop : ∀ (i : Nat) (l : List S33) (o t p : Int), l.length = i → i ≤ 6 → (∀ r ∈ l, Small r) → ¬ (i : Int) < n →
      EndsIn (fun k => spec_l91Records.l0 k o l n t (i : Int) b p) (fun r => (∀ x ∈ r.1, Small x) ∧ (n ≤ (r.1.length : Int)) ∧ r.1.length ≤ 6 ∧ p ≤ r.2 ∧ r.2 ≤ p + 100 * (6 - (i : Int))) := by
    intro i l o t p hl hi hs h
    refine EndsIn.step (fun k => by rw [spec_l91Records.l0]) ?_
    simp only [if_neg h]
    exact EndsIn.now _ ⟨hs, by show n ≤ (l.length : Int); omega, by show l.length ≤ 6; omega, by show p ≤ p; omega, by show p ≤ _; omega⟩
  intro d
  induction d with
  | zero =>
    intro i l o t p hd hl hi hs p0 p1
    exact stop i l o t p hl hi hs (by omega)
  | succ d ih =>
    intro i l o t p hd hl hi hs p0 p1
    by_cases h : (i : Int) < n
    · refine EndsIn.step (fun k => by rw [spec_l91Records.l0]) ?_
      simp only [if_pos h]
      refine EndsIn.bind (part_ends hb p p0 (by omega)) fun q hq => ?_
      obtain ⟨q1, q2, q3⟩ := hq
      refine EndsIn.bind (part_ends hb q.2.2 (by omega) (by omega)) fun s hs' => ?_
      obtain ⟨s1, s2, s3⟩ := hs'
      have st : ∀ (c : Bool) (u : Int), s.2.2 ≤ u → u ≤ s.2.2 + 2 → EndsIn (fun k => spec_l91Records.j1 k o l n t (i : Int) s.1 s.2.1 c b u o t q.1 q.2.1 false) (fun r => (∀ x ∈ r.1, Small x) ∧ (n ≤ (r.1.length : Int)) ∧ r.1.length ≤ 6 ∧ p ≤ r.2 ∧ r.2 ≤ p + 100 * (6 - (i : Int))) := by
        intro c u u0 u1
        refine EndsIn.step (fun k => by rw [spec_l91Records.j1]) ?_
        have nx : ∀ (x : S33) (o' t' v : Int), Small x → u ≤ v → v ≤ u + 5 → EndsIn (fun k => spec_l91Records.l0 k o' (l ++ [x]) n t' ((i : Int) + 1) b v) (fun r => (∀ x ∈ r.1, Small x) ∧ (n ≤ (r.1.length : Int)) ∧ r.1.length ≤ 6 ∧ p ≤ r.2 ∧ r.2 ≤ p + 100 * (6 - (i : Int))) := by
          intro x o' t' v hx v0 v1
          have := ih (i + 1) (l ++ [x]) o' t' v (by omega) (by rw [List.length_append, hl]; rfl) (by omega) (fun r hr => by
            rcases List.mem_append.1 hr with hr | hr
            · exact hs r hr
            · rw [List.mem_singleton] at hr
              rw [hr]
              exact hx) (by omega) (by omega)
          exact this.mono fun r hr => ⟨hr.1, hr.2.1, hr.2.2.1, by omega, by omega⟩
        cases c
        · simp only [Bool.false_eq_true, if_false, if_pos (show l.length < 1759218604441 by omega)]
          refine EndsIn.bind (pick_ends hb u 5 (by omega) (by omega) (by omega)) fun v hv => ?_
          rw [hv.1]
          refine EndsIn.bind (pick_ends hb (u + 1) 30 (by omega) (by omega) (by omega)) fun z hz => ?_
          rw [hz.1, w64 (a := (i : Int) + 1) (by omega) (by omega)]
          exact nx _ _ _ _ ⟨q1, s1⟩ (by omega) (by omega)
        · simp only [if_true, if_pos (show l.length < 1759218604441 by omega)]
          refine EndsIn.bind (pick_ends hb u 3 (by omega) (by omega) (by omega)) fun y hy => ?_
          rw [hy.1]
          refine EndsIn.bind (pick_ends hb (u + 1) 5 (by omega) (by omega) (by omega)) fun v hv => ?_
          rw [hv.1]
          refine EndsIn.bind (pick_ends hb (u + 1 + 1) 30 (by omega) (by omega) (by omega)) fun z hz => ?_
          rw [hz.1, w64 (a := (i : Int) + 1) (by omega) (by omega)]
          exact nx _ _ _ _ ⟨by show 1 ≤ 12; omega, s1⟩ (by omega) (by omega)
      cases hq1 : q.1
      · simp only [Bool.false_eq_true, if_false]
        have := st false s.2.2 (by omega) (by omega)
        rw [hq1] at this
        exact this
      · simp only [if_true]
        refine EndsIn.bind (pick_ends hb s.2.2 2 (by omega) (by omega) (by omega)) fun y hy => ?_
        rw [hy.1]
        have := st (y.1 == 0) (s.2.2 + 1) (by omega) (by omega)
        rw [hq1] at this
        exact this
    · exact stop i l o t p hl hi hs h
/-- Some records: one at least. -/
theorem recs_ends {b : List Int} (hb : CodeOk b) (p a n : Int) (h0 : 0 ≤ p) (h1 : p ≤ 600000000) (hn1 : 1 ≤ n) (hn : n ≤ 6) :
    EndsIn (fun k => spec_l91Records.f k b p a n) (fun r => (∀ x ∈ r.1, Small x) ∧ 1 ≤ r.1.length ∧ r.1.length ≤ 6 ∧ p ≤ r.2 ∧ r.2 ≤ p + 700) := by
  unfold spec_l91Records.f
  refine EndsIn.bind (pick_ends hb p n h0 (by omega) (by omega)) fun q hq => ?_
  obtain ⟨q2, q3, q4, _⟩ := hq
  have q5 := q4 (by omega)
  rw [q2]
  refine EndsIn.bind (pick_ends hb (p + 1) 200 (by omega) (by omega) (by omega)) fun s hs => ?_
  rw [hs.1, w64 (a := 1 + q.1) (by omega) (by omega)]
  have := recs_loop hb (1 + q.1) (by omega) 6 0 [] a s.1 (p + 1 + 1) (by omega) rfl (by omega) (by simp) (by omega) (by omega)
  exact this.mono fun r hr => ⟨hr.1, by omega, hr.2.2.1, by omega, by omega⟩
def BatS (l : List S33) : Prop := (∀ x ∈ l, Small x) ∧ 1 ≤ l.length ∧ l.length ≤ 7
theorem bat_j {b : List Int} (hb : CodeOk b) (p : Int) (h0 : 0 ≤ p) (h1 : p ≤ 600000000) (c0 c1 : Bool) (x y z : Int) (l : List S33) (hl : (∀ x ∈ l, Small x) ∧ 1 ≤ l.length ∧ l.length ≤ 6) :
    EndsIn (fun k => spec_l91Batch.j0 k b p c0 c1 x y z l) (fun r => BatS r.2.2.2.2.2.1 ∧ p ≤ r.2.2.2.2.2.2 ∧ r.2.2.2.2.2.2 ≤ p + 3) := by
  obtain ⟨l1, l2, l3⟩ := hl
  have hB : BatS l := ⟨l1, l2, by omega⟩
  refine EndsIn.step (fun k => by rw [spec_l91Batch.j0]) ?_
  refine EndsIn.bind (pick_ends hb p 40 h0 (by omega) (by omega)) fun q hq => ?_
  rw [hq.1]
  by_cases e0 : q.1 = 0
  · simp only [if_pos e0, bindS]
    refine EndsIn.bind (pick_ends hb (p + 1) 3 (by omega) (by omega) (by omega)) fun s hs => ?_
    obtain ⟨s2, s3, s4, _⟩ := hs
    have s5 := s4 (by omega)
    simp only [if_pos s3, if_pos (show s.1 < (([(-1), 1, 100] : List Int).length : Int) by simpa using s5)]
    exact EndsIn.now _ ⟨hB, by show p ≤ s.2; omega, by show s.2 ≤ p + 3; omega⟩
  · simp only [if_neg e0]
    by_cases e1 : q.1 = 1
    · simp only [if_pos e1, if_pos (show (0 : Int) < (l.length : Int) by omega), if_pos (show l.length < 1759218604441 by omega)]
      refine EndsIn.now _ ⟨⟨fun r hr => ?_, by show 1 ≤ (l ++ [_]).length; rw [List.length_append]; omega, by show (l ++ [_]).length ≤ 7; rw [List.length_append]; simp only [List.length_singleton]; omega⟩, by show p ≤ p + 1; omega, by show p + 1 ≤ p + 3; omega⟩
      rcases List.mem_append.1 hr with hr | hr
      · exact l1 r hr
      · rw [List.mem_singleton] at hr
        rw [hr]
        have := l1 _ (List.getElem_mem (show 0 < l.length by omega))
        rw [← rdR_nat l 0 (by omega)] at this
        exact this
    · simp only [if_neg e1]
      by_cases e2 : q.1 = 2
      · simp only [if_pos e2]
        exact EndsIn.now _ ⟨hB, by show p ≤ p + 1; omega, by show p + 1 ≤ p + 3; omega⟩
      · simp only [if_neg e2]
        exact EndsIn.now _ ⟨hB, by show p ≤ p + 1; omega, by show p + 1 ≤ p + 3; omega⟩
theorem bat_ends {b : List Int} (hb : CodeOk b) (p a : Int) (h0 : 0 ≤ p) (h1 : p ≤ 500000000) :
    EndsIn (fun k => spec_l91Batch.f k b p a) (fun r => BatS r.2.2.2.2.2.1 ∧ p ≤ r.2.2.2.2.2.2 ∧ r.2.2.2.2.2.2 ≤ p + 800) := by
  unfold spec_l91Batch.f
  refine EndsIn.bind (pick_ends hb p 2 h0 (by omega) (by omega)) fun q hq => ?_
  rw [hq.1]
  refine EndsIn.bind (recs_ends hb (p + 1) a 4 (by omega) (by omega) (by omega) (by omega)) fun s hs => ?_
  obtain ⟨s1, s2, s3, s4, s5⟩ := hs
  refine EndsIn.bind (pick_ends hb s.2 3 (by omega) (by omega) (by omega)) fun t ht => ?_
  rw [ht.1]
  by_cases e0 : t.1 = 0
  · simp only [if_pos e0]
    refine EndsIn.bind (pick_ends hb (s.2 + 1) 3 (by omega) (by omega) (by omega)) fun u hu => ?_
    rw [hu.1]
    refine EndsIn.bind (pick_ends hb (s.2 + 1 + 1) 3 (by omega) (by omega) (by omega)) fun v hv => ?_
    rw [hv.1]
    refine EndsIn.bind (pick_ends hb (s.2 + 1 + 1 + 1) 5 (by omega) (by omega) (by omega)) fun x hx => ?_
    rw [hx.1]
    refine EndsIn.bind (pick_ends hb (s.2 + 1 + 1 + 1 + 1) 3 (by omega) (by omega) (by omega)) fun y hy => ?_
    rw [hy.1]
    by_cases ey : y.1 = 0
    · simp only [if_pos ey]
      refine EndsIn.bind (pick_ends hb (s.2 + 1 + 1 + 1 + 1 + 1) 200 (by omega) (by omega) (by omega)) fun z hz => ?_
      rw [hz.1]
      refine EndsIn.bind (pick_ends hb (s.2 + 1 + 1 + 1 + 1 + 1 + 1) 2 (by omega) (by omega) (by omega)) fun m hm => ?_
      rw [hm.1]
      refine (bat_j hb (s.2 + 1 + 1 + 1 + 1 + 1 + 1 + 1) (by omega) (by omega) _ _ _ _ _ _ ⟨fun r hr => ?_, by simp, by simp⟩).mono fun r hr => ⟨hr.1, by omega, by omega⟩
      rw [List.mem_singleton] at hr
      rw [hr]
      exact ⟨by show 0 ≤ 12; omega, by show 1 ≤ 12; omega⟩
    · simp only [if_neg ey]
      exact (bat_j hb (s.2 + 1 + 1 + 1 + 1 + 1) (by omega) (by omega) _ _ _ _ _ _ ⟨s1, s2, s3⟩).mono fun r hr => ⟨hr.1, by omega, by omega⟩
  · simp only [if_neg e0]
    exact (bat_j hb (s.2 + 1) (by omega) (by omega) _ _ _ _ _ _ ⟨s1, s2, s3⟩).mono fun r hr => ⟨hr.1, by omega, by omega⟩
theorem BatS.rowR {l : List S33} (h : BatS l) : RowR l := ⟨by have := h.2.2; omega, fun r hr => by have := h.1 r hr; unfold Small at this; exact ⟨by omega, by omega⟩⟩
end Go.Proofs.YtbbboachakkgiaaDoor.Pu

namespace Go.Proofs.YtbbboachakkgiaaDoor.Pu
open Go.RowKit Go.Proofs.YtbbboachakkgiaaDoorW.PrintWords Go.Proofs.YtbbboachakkgiaaDoorW.PrintLast Go.Proofs.YtbbboachakkgiaaDoorW.PrintMore Go.Proofs.YtbbboachakkgiaaDoor.G
set_option linter.unusedVariables false
set_option linter.unusedSimpArgs false
def DrL (l : List S47) : Prop := l.length ≤ 9 ∧ ∀ x ∈ l, BatS x.f5
theorem DrL.rowB {l : List S47} (h : DrL l) : RowB l := ⟨by have := h.1; omega, fun x hx => (h.2 x hx).rowR⟩
theorem log_loop {b : List Int} (hb : CodeOk b) (n : Int) (hn : n ≤ 9) : ∀ d (i : Nat) (l : List S47) (o p : Int), 9 - i = d → l.length = i → i ≤ 9 → (∀ x ∈ l, BatS x.f5) → 0 ≤ p → p ≤ 400000000 + 2000 * (i : Int) →
    EndsIn (fun k => spec_l92Log.l0 k l n o (i : Int) b p) (fun r => DrL r.1 ∧ p ≤ r.2 ∧ r.2 ≤ p + 2000 * (9 - (i : Int)) + 10) := by
  have stop : ∀ (i : Nat) (l : List S47) (o p : Int), l.length = i → i ≤ 9 → (∀ x ∈ l, BatS x.f5) → 0 ≤ p → p ≤ 400000000 + 2000 * (i : Int) → ¬ (i : Int) < n →
      EndsIn (fun k => spec_l92Log.l0 k l n o (i : Int) b p) (fun r => DrL r.1 ∧ p ≤ r.2 ∧ r.2 ≤ p + 2000 * (9 - (i : Int)) + 10) := by
    intro i l o p hl hi hs p0 p1 h
    refine EndsIn.step (fun k => by rw [spec_l92Log.l0]) ?_
    simp only [if_neg h]
    by_cases h1 : n > 1
    · simp only [if_pos h1]
      refine EndsIn.bind (pick_ends hb p 30 p0 (by omega) (by omega)) fun q hq => ?_
      rw [hq.1]
      by_cases e0 : q.1 = 0
      · simp only [if_pos e0, if_pos (show (0 : Int) < (l.length : Int) by omega), if_pos (show (1 : Int) < (l.length : Int) by omega)]
        refine EndsIn.now _ ⟨⟨by rw [List.length_set]; omega, fun x hx => ?_⟩, by show p ≤ p + 1; omega, by show p + 1 ≤ _; omega⟩
        rcases List.mem_or_eq_of_mem_set hx with hx | rfl
        · exact hs x hx
        · have := hs _ (List.getElem_mem (show 0 < l.length by omega))
          rw [← rdB_nat l 0 (by omega)] at this
          exact this
      · simp only [if_neg e0]
        exact EndsIn.now _ ⟨⟨by show l.length ≤ 9; omega, hs⟩, by show p ≤ p + 1; omega, by show p + 1 ≤ _; omega⟩
    · simp only [if_neg h1]
      exact EndsIn.now _ ⟨⟨by show l.length ≤ 9; omega, hs⟩, by show p ≤ p; omega, by show p ≤ _; omega⟩
  intro d
  induction d with
  | zero =>
    intro i l o p hd hl hi hs p0 p1
    exact stop i l o p hl hi hs p0 p1 (by omega)
  | succ d ih =>
    intro i l o p hd hl hi hs p0 p1
    by_cases h : (i : Int) < n
    · refine EndsIn.step (fun k => by rw [spec_l92Log.l0]) ?_
      simp only [if_pos h]
      refine EndsIn.bind (bat_ends hb p o p0 (by omega)) fun x hx => ?_
      obtain ⟨x1, x2, x3⟩ := hx
      refine EndsIn.bind (pick_ends hb x.2.2.2.2.2.2 20 (by omega) (by omega) (by omega)) fun q hq => ?_
      have q2 := hq.1
      have nx : ∀ (y : S47) (o' v : Int), BatS y.f5 → p ≤ v → v ≤ p + 2000 → EndsIn (fun k => spec_l92Log.l0 k (l ++ [y]) n o' ((i : Int) + 1) b v) (fun r => DrL r.1 ∧ p ≤ r.2 ∧ r.2 ≤ p + 2000 * (9 - (i : Int)) + 10) := by
        intro y o' v hy v0 v1
        have := ih (i + 1) (l ++ [y]) o' v (by omega) (by rw [List.length_append, hl]; rfl) (by omega) (fun r hr => by
          rcases List.mem_append.1 hr with hr | hr
          · exact hs r hr
          · rw [List.mem_singleton] at hr
            rw [hr]
            exact hy) (by omega) (by omega)
        exact this.mono fun r hr => ⟨hr.1, by omega, by omega⟩
      have st : ∀ (c : Bool), EndsIn (fun k => spec_l92Log.j2 k l n o (i : Int) c b q.2 x.1 x.2.1 x.2.2.1 x.2.2.2.1 x.2.2.2.2.1 x.2.2.2.2.2.1) (fun r => DrL r.1 ∧ p ≤ r.2 ∧ r.2 ≤ p + 2000 * (9 - (i : Int)) + 10) := by
        intro c
        refine EndsIn.step (fun k => by rw [spec_l92Log.j2]) ?_
        cases c
        · obtain ⟨y1, y2, y3⟩ := x1
          simp only [Bool.false_eq_true, if_false, if_pos (show l.length < 2513169434916 by omega), w64 (a := (x.2.2.2.2.2.1.length : Int) - 1) (by omega) (by omega), if_pos (show (0 : Int) ≤ (x.2.2.2.2.2.1.length : Int) - 1 by omega), if_pos (show (x.2.2.2.2.2.1.length : Int) - 1 < (x.2.2.2.2.2.1.length : Int) by omega)]
          refine EndsIn.bind (pick_ends hb q.2 4 (by omega) (by omega) (by omega)) fun z hz => ?_
          rw [hz.1, w64 (a := (i : Int) + 1) (by omega) (by omega)]
          exact nx _ _ _ ⟨y1, y2, y3⟩ (by omega) (by omega)
        · simp only [if_true]
          refine EndsIn.bind (recs_ends hb q.2 o 2 (by omega) (by omega) (by omega) (by omega)) fun s hs => ?_
          obtain ⟨s1, s2, s3, s4, s5⟩ := hs
          simp only [if_pos (show l.length < 2513169434916 by omega), w64 (a := (s.1.length : Int) - 1) (by omega) (by omega), if_pos (show (0 : Int) ≤ (s.1.length : Int) - 1 by omega), if_pos (show (s.1.length : Int) - 1 < (s.1.length : Int) by omega)]
          refine EndsIn.bind (pick_ends hb s.2 4 (by omega) (by omega) (by omega)) fun z hz => ?_
          rw [hz.1, w64 (a := (i : Int) + 1) (by omega) (by omega)]
          exact nx _ _ _ ⟨s1, s2, by show s.1.length ≤ 7; omega⟩ (by omega) (by omega)
      by_cases e0 : q.1 > 0
      · simp only [if_pos e0]
        refine EndsIn.bind (P := fun _ => True) ⟨_, sBatchValid_ev ⟨x.1, x.2.1, x.2.2.1, x.2.2.2.1, x.2.2.2.2.1, x.2.2.2.2.2.1⟩ x1.rowR, trivial⟩ fun t _ => ?_
        exact st _
      · simp only [if_neg e0]
        exact st _
    · exact stop i l o p hl hi hs p0 p1 h
theorem drawLog_ends {b : List Int} (hb : CodeOk b) (p : Int) (h0 : 0 ≤ p) (h1 : p ≤ 300000000) : EndsIn (fun k => spec_l92Log.f k b p) (fun r => DrL r.1 ∧ p ≤ r.2 ∧ r.2 ≤ p + 20000) := by
  have st : ∀ (n q : Int), n ≤ 9 → p ≤ q → q ≤ p + 10 → EndsIn (fun k => spec_l92Log.j0 k [] n b q) (fun r => DrL r.1 ∧ p ≤ r.2 ∧ r.2 ≤ p + 20000) := by
    intro n q hn hq0 hq1
    refine EndsIn.step (fun k => by rw [spec_l92Log.j0]) ?_
    refine EndsIn.bind (pick_ends hb q 10 (by omega) (by omega) (by omega)) fun t ht => ?_
    rw [ht.1]
    have := log_loop hb n hn 9 0 [] t.1 (q + 1) (by omega) rfl (by omega) (by simp) (by omega) (by omega)
    exact this.mono fun r hr => ⟨hr.1, by omega, by omega⟩
  unfold spec_l92Log.f
  simp only [bindS]
  refine EndsIn.bind (pick_ends hb p 5 h0 (by omega) (by omega)) fun q hq => ?_
  obtain ⟨q2, q3, q4, _⟩ := hq
  have q5 := q4 (by omega)
  rw [q2]
  refine EndsIn.bind (pick_ends hb (p + 1) 16 (by omega) (by omega) (by omega)) fun s hs => ?_
  rw [hs.1]
  by_cases hz : s.1 = 0
  · simp only [if_pos hz]
    refine EndsIn.bind (pick_ends hb (p + 1 + 1) 3 (by omega) (by omega) (by omega)) fun u hu => ?_
    obtain ⟨u2, u3, u4, _⟩ := hu
    have u5 := u4 (by omega)
    simp only [if_pos u3, if_pos (show u.1 < (([0, 8, 9] : List Int).length : Int) by simpa using u5)]
    rw [u2]
    refine st _ _ ?_ (by omega) (by omega)
    have : u.1 = 0 ∨ u.1 = 1 ∨ u.1 = 2 := by omega
    rcases this with e | e | e <;> (rw [e]; decide)
  · simp only [if_neg hz, w64 (a := 1 + q.1) (by omega) (by omega)]
    exact st _ _ (by omega) (by omega) (by omega)
end Go.Proofs.YtbbboachakkgiaaDoor.Pu

namespace Go.Proofs.YtbbboachakkgiaaDoor.Pu
open Go.RowKit Go.Proofs.YtbbboachakkgiaaDoorW.PrintWords Go.Proofs.YtbbboachakkgiaaDoorW.PrintLast Go.Proofs.YtbbboachakkgiaaDoor.G
set_option linter.unusedVariables false
set_option linter.unusedSimpArgs false
theorem open_some (l0 : List Int) (hr : ∀ x ∈ l0, 0 ≤ x ∧ x ≤ 255) : ∃ b, spec_l6Open.f l0 = some (b, 0) ∧ CodeOk b := by
  unfold spec_l6Open.f
  by_cases h : (l0.length : Int) > 2000
  · rw [if_pos h, if_pos (by omega)]
    exact ⟨_, rfl, by rw [List.length_take]; omega, fun x hx => hr x (List.mem_of_mem_take hx)⟩
  · rw [if_neg h]
    exact ⟨_, rfl, by omega, hr⟩
end Go.Proofs.YtbbboachakkgiaaDoor.Pu

namespace Go.Proofs.YtbbboachakkgiaaDoor.Pu
open Go.RowKit Go.Proofs.YtbbboachakkgiaaDoorW.PrintWords Go.Proofs.YtbbboachakkgiaaDoorW.PrintLast Go.Proofs.YtbbboachakkgiaaDoorW.PrintMore Go.Proofs.YtbbboachakkgiaaDoor.G
set_option linter.unusedVariables false
set_option linter.unusedSimpArgs false
theorem drawE_loop {b : List Int} (hb : CodeOk b) : ∀ d (i : Nat) (l : List S47) (p : Int), l.length - i = d → i ≤ l.length → DrL l → 0 ≤ p → p ≤ 100000 + 2 * (i : Int) →
    EndsIn (fun k => spec_DrawLogEven.l0 k l (i : Int) b p) DrL := by
  intro d
  induction d with
  | zero =>
    intro i l p hd hi hl h0 h1
    refine EndsIn.step (fun k => by rw [spec_DrawLogEven.l0]) ?_
    simp only [if_neg (show ¬ (i : Int) < (l.length : Int) by omega)]
    exact EndsIn.now _ hl
  | succ d ih =>
    intro i l p hd hi hl h0 h1
    have hlt : i < l.length := by omega
    have h9 := hl.1
    have hw : wrap64 ((i : Int) + 1) = ((i + 1 : Nat) : Int) := by rw [w64 (by omega) (by omega)]; omega
    refine EndsIn.step (fun k => by rw [spec_DrawLogEven.l0]) ?_
    simp only [if_pos (show (i : Int) < (l.length : Int) by omega), hw, rdB_nat l i hlt, if_pos (show (0 : Int) ≤ (i : Int) by omega), Int.toNat_natCast]
    refine EndsIn.bind (pick_ends hb p 4 h0 (by omega) (by omega)) fun q hq => ?_
    rw [hq.1]
    by_cases e : q.1 > 0
    · simp only [if_pos e]
      refine EndsIn.bind (pick_ends hb (p + 1) 4 (by omega) (by omega) (by omega)) fun s hs => ?_
      rw [hs.1]
      refine ih (i + 1) _ (p + 1 + 1) (by rw [List.length_set]; omega) (by rw [List.length_set]; omega) ⟨by rw [List.length_set]; exact h9, fun x hx => ?_⟩ (by omega) (by omega)
      rcases List.mem_or_eq_of_mem_set hx with hx | hx
      · exact hl.2 x hx
      · rw [hx]
        exact hl.2 l[i] (List.getElem_mem hlt)
    · simp only [if_neg e]
      exact ih (i + 1) l (p + 1) (by omega) (by omega) hl (by omega) (by omega)
theorem drawE_ends {c : List Int} (hok : CodeOk c) (l0 : List Int) (hc : spec_l6Open.f l0 = some (c, 0)) : EndsIn (fun k => spec_DrawLogEven.f k l0) DrL := by
  unfold spec_DrawLogEven.f
  simp only [hc, bindS]
  refine EndsIn.bind (drawLog_ends hok 0 (by omega) (by omega)) fun r hr => ?_
  obtain ⟨h1, h2, h3⟩ := hr
  exact drawE_loop hok r.1.length 0 r.1 r.2 (by omega) (by omega) h1 (by omega) (by omega)
end Go.Proofs.YtbbboachakkgiaaDoor.Pu

namespace Go.Proofs.YtbbboachakkgiaaDoor.Pure
open Go.RowKit Go.Proofs.YtbbboachakkgiaaDoor.G Go.Proofs.YtbbboachakkgiaaDoorW.PrintWords Go.Proofs.YtbbboachakkgiaaDoorW.PrintLast Go.Proofs.YtbbboachakkgiaaDoorW.PrintMore Go.Proofs.YtbbboachakkgiaaDoor.Pu
set_option linter.unusedSimpArgs false
set_option linter.unusedVariables false
theorem FnEven : OFnEven.Pure := by
  intro l0 hl0 ho0
  refine EndsIn.rounds ?_
  unfold laws_FnEven.f
  have hr := fun x hx => u8_range (ho0 x hx)
  by_cases h : (l0.length : Int) > 1048576
  · simp only [if_pos h]
    exact EndsIn.now _ rfl
  · simp only [if_neg h]
    obtain ⟨c, hc, hok⟩ := open_some l0 hr
    refine EndsIn.bind (drawE_ends hok l0 hc) fun l dl => ?_
    have hB := even_row (DrL.rowB dl)
    refine EndsIn.bind (P := fun r => r = logEvenV l) ⟨_, LogEven_ev l, rfl⟩ fun r hr1 => ?_
    subst hr1
    refine EndsIn.bind (P := fun r => r = logEvenV l) ⟨_, sLogEven_ev l, rfl⟩ fun r hr2 => ?_
    subst hr2
    simp only [bne_self_eq_false, Bool.false_eq_true, if_false]
    refine EndsIn.bind (P := fun r => r = true) ⟨_, selfLog _ hB, rfl⟩ fun r hr3 => ?_
    subst hr3
    simp only [if_true]
    refine EndsIn.step (fun k => by rw [laws_FnEven.j0]) ?_
    by_cases hv : logOk l = true
    · have e : logEvenV l = (evenV l, true) := by unfold logEvenV; rw [if_pos hv]
      rw [e] at hB ⊢
      have ho := even_ok hv
      simp only [Bool.not_true, Bool.false_eq_true, if_false, impl_LogValid.f, bindS, ho, if_true]
      refine EndsIn.bind (P := fun r => r = recsOf l) ⟨_, allOf_ev (evenV l) ho, even_recs l⟩ fun r hr5 => ?_
      subst hr5
      refine EndsIn.bind (P := fun r => r = recsOf l) ⟨_, allOf_ev l hv, rfl⟩ fun r hr6 => ?_
      subst hr6
      have hR : RowR (recsOf l) := ⟨by have := recsOf_all_len hv; omega, fun r hr => by
        obtain ⟨b, hb, hrb⟩ := List.mem_flatMap.1 hr
        exact ((DrL.rowB dl).2 b hb).2 r hrb⟩
      refine EndsIn.bind (P := fun r => r = true) ⟨_, selfRecords _ hR, rfl⟩ fun r hr7 => ?_
      subst hr7
      simp only [if_true]
      have hlen := fold_len l []
      refine EndsIn.now _ ?_
      simp only [List.length_nil] at hlen
      unfold evenV
      simp only [decide_eq_true_eq]
      omega
    · have e : logEvenV l = ([], false) := by unfold logEvenV; rw [if_neg hv]
      rw [e] at hB ⊢
      simp only [Bool.not_false, if_true, beq_self_eq_true]
      refine EndsIn.bind (P := fun r => r = true) ⟨_, selfLog _ hB, rfl⟩ fun r hr4 => ?_
      subst hr4
      exact EndsIn.now _ rfl
end Go.Proofs.YtbbboachakkgiaaDoor.Pure

namespace Go.Proofs.YtbbboachakkgiaaDoor.fnEven
open Go.ChangeShapes Go.WideShapes Go.ChangeAt Go.RowKit Go.Proofs.YtbbboachakkgiaaDoor.OFnEven Go.Proofs.YtbbboachakkgiaaDoor.G Go.Joins
open Go.ChangeMaps (open_string shut_string)
set_option linter.unusedVariables false
theorem own : ownKnob Tryd.prog.godebug = none := by kernel_rfl
theorem laidOut : laidOutB Tryd.prog = true := by kernel_rfl
theorem star : "*" ++ "errors.errorString" = "*errors.errorString" := by decide
theorem cellsE : Tryd.prog.cellsOf 174 = 1 := by kernel_rfl
theorem cellsS : Tryd.prog.cellsOf 9 = 1 := by kernel_rfl
theorem g0 : Tryd.prog.globalNamed "loop.example/recordbatches/impl.errNoJoin" = some 0 := by kernel_rfl
theorem gT0 : (Tryd.prog.globals[0]?).map (·.type) = some 71 := by kernel_rfl
abbrev text0 : ByteArray := { data := #[110, 111, 32, 106, 111, 105, 110] }
theorem rowE (u : TypeId) (h : Tryd.prog.typeName? 3 u = some "*errors.errorString") : u = 151 :=
  typeName_ptr_named (nm := "errors.errorString") (by rw [star]; kernel_rfl) (by kernel_rfl) (by decide) u (by rw [star]; exact h)
noncomputable def low : Nat := (World.holding Tryd.prog default ⟨#[], #[], []⟩).heap.size
noncomputable def laidWorld (os : Os) : World :=
  let w0 := World.holding Tryd.prog os ⟨#[.cells #[.string text0] 174], #[], []⟩
  { w0 with heap := (w0.heap.modify 0 fun | .cells _ t frozen => .cells #[.iface 151 (.pointer (some ⟨low + 0, 0, none⟩))] t frozen | o => o) }
theorem laid_met (os : Os) (args : Array Value) : laidMetH Tryd.prog Rows.fnEvenRow.laid ((laidWorld os).forCall (fun _ _ => 0) ⟨#[], args, []⟩).memory :=
  laidMetH_of_parts (laidMet_of_run (ps := [.cell 0 0, .cell (low + 0) 0]) 8 (by kernel_rfl) (by kernel_rfl) (by kernel_rfl)) (by kernel_rfl)
set_option maxRecDepth 100000 in
theorem lifted (os : Os) (started : os.Started) (H : Type) (enc : TypeId × Value → H) :
    ReturnsInHanded {} Tryd.checked os 7 .any (fun w args => (Rows.fnEvenSpec.pre enc Tryd.prog Tryd.f7 Rows.fnEvenRow.domain false w args ∧ laidMetH Tryd.prog Rows.fnEvenRow.laid w) ∧ sizedMet enc Tryd.prog Tryd.f7 (OpenSpec.ofChange Rows.fnEvenSpec) false w args) (Rows.fnEvenSpec.post enc Tryd.prog Tryd.f7 false true false false) := by
  refine returnsInHanded_of_change_and (C := Tryd.checked) (X := fun w _ => laidMetH Tryd.prog Rows.fnEvenRow.laid w) (fun _ _ _ hh h => h.of_heap hh) own started (by kernel_rfl) Tryd.func7
    (ChangeSpec.witness_at (enc := enc) (C := Tryd.checked) (os := os) (X := fun w _ => laidMetH Tryd.prog Rows.fnEvenRow.laid w) false (laidWorld os) #[.slice none 0 0] 8 rfl (by kernel_rfl) (by kernel_rfl) (by kernel_rfl) (by kernel_rfl) (by kernel_rfl) (laid_met os _)) ?_
  intro W base args ds gs before hval0 hW hcnd hsz0 hLL _
  have hsz : (DataW.weightsEach Tryd.prog (Tryd.f7.params.toList ++ Rows.fnEvenSpec.plain.varTypes Tryd.prog) (ds ++ gs)).all (· ≤ reachBytes) = true := hsz0
  have hval : ∀ (j : Nat) t v, Tryd.f7.params[j]? = some t → args[j]? = some v → Value.okWide Tryd.prog W .any base t v := hval0
  have hW' := hW
  obtain ⟨p, q, hA0, hV, rfl, hfz, hnd⟩ := hW
  have hA : DataW.TrodAll enc Tryd.prog W 0 (fun _ => true) true Tryd.f7.params.toList args.toList ds p := hA0
  rw [Tryd.params7] at hA hval hsz
  obtain ⟨v0, vs0, d0, ds0, p0, q0, hargs, rfl, rfl, h0, r0⟩ := trodAll_cons hA
  obtain ⟨rfl, rfl, rfl⟩ := trodAll_nil r0
  obtain rfl : args = #[v0] := by cases args; simp_all
  have hL : laidMet Tryd.prog Rows.fnEvenRow.laid W := hLL
  obtain ⟨b0, s0, hv0, hc0, hs0, hz0⟩ := laid_sentinel hL g0 gT0 Tryd.underlying71 rowE Tryd.underlying151 Tryd.underlying174 rfl rfl Tryd.underlying9 cellsE cellsS
  obtain ⟨rfl, rfl⟩ := hV.unique (vars_read1 enc g0 gT0 Tryd.underlying71 hv0 trivial _)
  have hg0 : W.cell? ⟨0, 0, none⟩ = some (.iface 151 (.pointer (some b0))) := by simpa using World.var?_cell g0 hv0 0
  obtain ⟨a0, len0, cap0, rfl⟩ := okWide_slice Tryd.underlying22 (hval 0 22 v0 rfl rfl)
  have k0 := h0
  have lt0 : ∀ x ∈ p0, x.block < W.heap.size := by obtain ⟨m, hm⟩ := k0; exact DataW.trod_lt m _ _ _ hm
  obtain ⟨fuel0, hf0⟩ := h0
  obtain ⟨A0, c0, l0, hcs0, hlc0, hm0, hC0, ho0⟩ := Rd.opens_row Tryd.underlying22 (Rd.opens_int Tryd.underlying5 (by kernel_rfl)) hf0
  simp [Value.cells] at hcs0
  obtain ⟨rfl, rfl, rfl⟩ := hcs0
  clear hA0 hval0 hsz0 hsz
  obtain ⟨k, h⟩ := Pure.FnEven l0 (Nat.le_trans hlc0 hm0) ho0
  letI : ErrA := ⟨fun n => b0⟩
  have hE : ErrOk [0] W := fun g hg => by
    have hg' : g = 0 := by simpa using hg
    rcases hg' with rfl
    · exact hg0
  refine (laws_FnEven.calls k _ _ l0 true W hE hC0 hlc0 h).mono fun e W' ⟨he, bel0⟩ => ?_
  subst he
  have bel : Below W.heap.size W W' := bel0
  have hw0 : W'.var? Tryd.prog "loop.example/recordbatches/impl.errNoJoin" = some #[.iface 151 (.pointer (some b0))] := var?_below bel g0 (World.block_lt_of_cell? W _ hg0) hv0
  exact ⟨_, rfl, _, _, _, [], _, _, hW', trodAll_mk1 (shut_bool Tryd.underlying4 _), (trodAll_cons_mk (Below.trod laidOut (by kernel_rfl) (of_decide_eq_true (by kernel_rfl)) k0 bel lt0) trodAll_mk0), vars_read1 enc g0 gT0 Tryd.underlying71 hw0 trivial _, bel.frame _, fun h => by cases h⟩
theorem over : Rows.fnEvenRow.holds Tryd.pinned (OpenSpec.ofChange Rows.fnEvenSpec) :=
  OpenClaim.holds_of_wide 7 Tryd.f7 rfl rfl rfl rfl rfl rfl rfl ⟨rfl, rfl, rfl, rfl, rfl⟩ rfl rfl rfl rfl rfl (by kernel_rfl) Tryd.func7 (by kernel_rfl)
    (of_decide_eq_true (by kernel_rfl)) (by unfold Func.isWrapper; first | (rw [if_pos (by decide +kernel)]; kernel_rfl) | (rw [if_neg (by decide +kernel)]; exact ⟨rfl, rfl⟩))
    (fun os started H enc _ => lifted os started H enc)
theorem proved : Rows.FnEvenSaid := over
#print axioms proved
end Go.Proofs.YtbbboachakkgiaaDoor.fnEven
namespace Go.Proofs.YtbbboachakkgiaaDoor
/-- The row, under a short name, for the claim. -/
theorem fnEven_holds : Rows.FnEvenSaid := fnEven.proved
theorem fnEven_card : Rows.FnEvenCardSaid :=
  Claim7.holds_tied_plain_at .later [] [.sentinel] true (true, "2e05aa95766e6917fe95301784a47f45e0e7b4b4973cc25155ec255d9f160fba") true
    fnEven_holds (fun _ h => by cases h) (by kernel_rfl) (fun _ h => by cases h) fnEven_row_tie rfl ⟨rfl, rfl⟩ (by kernel_rfl) rfl
    (fun f fn hf hfn => by
      obtain rfl : f = 7 := Option.some.inj ((show Tryd.prog.funcNamed "loop.example/recordbatches/laws.FnEven" = some 7 by kernel_rfl).symm.trans hf) |>.symm
      obtain rfl : fn = Tryd.f7 := (Option.some.inj (Tryd.func7.symm.trans hfn)).symm
      exact ⟨by kernel_rfl, fun j t ht => by
        rw [Tryd.params7] at ht
        have h3 : t = 22 := by
          rcases j with _ | j
          · have h_ := ht.symm; simp at h_; simp [h_]
          · simp at ht
        rcases h3 with rfl
        · exact (show Tryd.prog.wantsStandIn 22 = false by kernel_rfl)⟩)
    (by kernel_rfl)
#print axioms fnEven_card
end Go.Proofs.YtbbboachakkgiaaDoor

