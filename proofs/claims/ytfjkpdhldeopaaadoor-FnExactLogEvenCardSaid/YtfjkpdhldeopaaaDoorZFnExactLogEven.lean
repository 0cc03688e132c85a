/- A text of seat YtfjkpdhldeopaaaDoor: what the law FnExactLogEven needs of this repo's texts (by pack.py). Not trusted: Lean checks it. -/
import Derived.Test.YtfjkpdhldeopaaaDoorKFnExactLogEven12
import Derived.Test.YtfjkpdhldeopaaaDoorRows
import Derived.Test.YtfjkpdhldeopaaaDoorCards
import Derived.Test.YtfjkpdhldeopaaaDoorTie
import Derived.SevenTiedAt
import Derived.WalkSmall
import Derived.ChangeVars
import Derived.JoinedOf
import Derived.LaidLaws
import Derived.LaidHandle
import Derived.Stop.LaidErr
import Derived.Stop.LaidTwo
import Derived.Stop.Joined
import Derived.RowKitTokens
import Derived.WalkKit
import Derived.ProofKit
import Derived.OpenShut
import Derived.ShutString
import Derived.ChangeOld
import Derived.Below
import Derived.SizedLaws
import Derived.Lib.SmallJoins
import Derived.Laws.StructEq
import Derived.ChangeSlices
namespace Go.Proofs.YtfjkpdhldeopaaaDoor.Pu
open Go.RowKit Go.Proofs.YtfjkpdhldeopaaaDoorW.PrintWords Go.Proofs.YtfjkpdhldeopaaaDoorW.PrintLast Go.Proofs.YtfjkpdhldeopaaaDoorW.PrintMore Go.Proofs.YtfjkpdhldeopaaaDoor.G
set_option linter.unusedVariables false
set_option linter.unusedSimpArgs false
abbrev JoinT := Bool × Bool × Int × Int × Int × List RT × Option Int
/-- Whether two batches can be joined. -/
def joinGood (a b : BT) : Bool := batOk a && (batOk b && (decide (a.f2 = 255) && (decide (b.f2 = 255) && (decide (a.f0 = b.f0) && batOk ⟨a.f0, a.f1, a.f2, a.f3, a.f4, a.f5 ++ b.f5⟩))))
def joinV (a b : BT) : JoinT := if joinGood a b = true then (a.f0, a.f1, a.f2, a.f3, a.f4, a.f5 ++ b.f5, none) else (false, false, 0, 0, 0, [], some 1)
theorem join_j (a b : BT) (x : Bool) (ha : batOk a = true) (hb : batOk b = true) : Ev (fun k => impl_Batch_join.j0 k x a.f0 a.f1 a.f2 a.f3 a.f4 a.f5 b.f0 b.f1 b.f2 b.f3 b.f4 b.f5) (if x = true ∨ ¬ batOk ⟨a.f0, a.f1, a.f2, a.f3, a.f4, a.f5 ++ b.f5⟩ = true then (false, false, 0, 0, 0, [], some 1) else (a.f0, a.f1, a.f2, a.f3, a.f4, a.f5 ++ b.f5, none)) := by
  refine Ev.step (fun k => by rw [impl_Batch_join.j0]) ?_
  cases x
  · simp only [Bool.false_eq_true, if_false, false_or]
    have h1 := short_of ha
    have h2 := short_of hb
    refine Ev.bind (copyBatch_ev a h1) ?_
    refine Ev.bind (copyRecords_ev b.f5 h2) ?_
    have := h1.1
    have := h2.1
    simp only [if_pos (show a.f5.length + b.f5.length < 1759218604441 by omega), bindS, impl_BatchValid.f]
    by_cases hv : batOk ⟨a.f0, a.f1, a.f2, a.f3, a.f4, a.f5 ++ b.f5⟩ = true
    · rw [if_neg (show ¬ ¬ batOk ⟨a.f0, a.f1, a.f2, a.f3, a.f4, a.f5 ++ b.f5⟩ = true from fun h => h hv)]
      simp only [hv, if_true]
      exact Ev.now _
    · rw [if_pos hv]
      simp only [if_neg hv]
      exact Ev.now _
  · simp only [if_true, true_or]
    exact Ev.now _
theorem join_ev (a b : BT) : Ev (fun k => impl_Batch_join.f k a.f0 a.f1 a.f2 a.f3 a.f4 a.f5 b.f0 b.f1 b.f2 b.f3 b.f4 b.f5) (joinV a b) := by
  have bad : ∀ k, impl_Batch_join.j0 (k + 1) true a.f0 a.f1 a.f2 a.f3 a.f4 a.f5 b.f0 b.f1 b.f2 b.f3 b.f4 b.f5 = some (false, false, 0, 0, 0, [], some 1) := fun k => by rw [impl_Batch_join.j0]; simp
  have badE : Ev (fun k => impl_Batch_join.j0 k true a.f0 a.f1 a.f2 a.f3 a.f4 a.f5 b.f0 b.f1 b.f2 b.f3 b.f4 b.f5) (false, false, 0, 0, 0, [], some 1) := Ev.step bad (Ev.now _)
  unfold impl_Batch_join.f joinV joinGood
  simp only [impl_BatchValid.f, bindS]
  cases ha : batOk a
  · simpa using badE
  · cases hb : batOk b
    · simpa using badE
    · simp only [if_true, Bool.true_and]
      by_cases h2 : a.f2 = 255
      · by_cases h3 : b.f2 = 255
        · simp only [if_pos h2, if_pos h3, decide_eq_true h2, decide_eq_true h3, Bool.true_and]
          have := join_j a b (a.f0 != b.f0) ha hb
          by_cases h4 : a.f0 = b.f0
          · have e : (a.f0 != b.f0) = false := by simp [h4]
            rw [e] at this ⊢
            simp only [Bool.false_eq_true, false_or] at this
            rw [decide_eq_true h4, Bool.true_and]
            by_cases hv : batOk ⟨a.f0, a.f1, a.f2, a.f3, a.f4, a.f5 ++ b.f5⟩ = true
            · rw [if_neg (by simp [hv])] at this
              rw [if_pos hv]
              exact this
            · rw [if_pos hv] at this
              rw [if_neg hv]
              exact this
          · have e : (a.f0 != b.f0) = true := by simp [h4]
            rw [e, decide_eq_false h4, Bool.false_and, if_neg (by simp)]
            exact badE
        · simp only [if_pos h2, if_neg h3, decide_eq_false h3, Bool.false_and, Bool.and_false, Bool.false_eq_true, if_false]
          exact badE
      · simp only [if_neg h2, decide_eq_false h2, Bool.false_and, Bool.and_false, Bool.false_eq_true, if_false]
        exact badE
abbrev BJoinT := Bool × Bool × Int × Int × Int × List RT × Bool
def bjoinV (a b : BT) : BJoinT := if joinGood a b = true then (a.f0, a.f1, a.f2, a.f3, a.f4, a.f5 ++ b.f5, true) else (false, false, 0, 0, 0, [], false)
theorem BatchJoin_ev (a b : BT) : Ev (fun k => impl_BatchJoin.f k a.f0 a.f1 a.f2 a.f3 a.f4 a.f5 b.f0 b.f1 b.f2 b.f3 b.f4 b.f5) (bjoinV a b) := by
  unfold impl_BatchJoin.f
  refine Ev.bind (join_ev a b) ?_
  unfold bjoinV joinV
  by_cases h : joinGood a b = true
  · simp only [if_pos h, errors_Is.f, bindS, Bool.false_eq_true, if_false]
    exact Ev.now _
  · simp only [if_neg h, errors_Is.f, if_true, bindS]
    exact Ev.now _
end Go.Proofs.YtfjkpdhldeopaaaDoor.Pu

namespace Go.Proofs.YtfjkpdhldeopaaaDoor.Pu
open Go.RowKit Go.Proofs.YtfjkpdhldeopaaaDoorW.PrintWords Go.Proofs.YtfjkpdhldeopaaaDoorW.PrintLast Go.Proofs.YtfjkpdhldeopaaaDoorW.PrintMore Go.Proofs.YtfjkpdhldeopaaaDoor.G
set_option linter.unusedVariables false
set_option linter.unusedSimpArgs false
theorem logOk_len {l : List S28} (h : logOk l = true) : l.length ≤ 8 := by
  unfold logOk at h
  simp only [Bool.and_eq_true, decide_eq_true_eq] at h
  omega
end Go.Proofs.YtfjkpdhldeopaaaDoor.Pu

namespace Go.Proofs.YtfjkpdhldeopaaaDoor.Pu
open Go.RowKit Go.Proofs.YtfjkpdhldeopaaaDoorW.PrintWords Go.Proofs.YtfjkpdhldeopaaaDoorW.PrintLast Go.Proofs.YtfjkpdhldeopaaaDoorW.PrintMore Go.Proofs.YtfjkpdhldeopaaaDoor.G
set_option linter.unusedVariables false
set_option linter.unusedSimpArgs false
def freeB (p : Bool) (l : List RT) : BT := ⟨p, false, 255, 0, 0, l⟩
/-- A valid batch without a producer is told by whether it is packed, and its records. -/
theorem free_of {b : BT} (h : batOk b = true) (h2 : b.f2 = 255) : b = freeB b.f0 b.f5 := by
  obtain ⟨b0, b1, b2, b3, b4, l⟩ := b
  simp only at h2
  subst h2
  unfold batOk headOk at h
  simp only [if_true, Bool.and_eq_true, decide_eq_true_eq, Bool.not_eq_true'] at h
  obtain ⟨⟨rfl, rfl, rfl⟩, -⟩ := h
  rfl
end Go.Proofs.YtfjkpdhldeopaaaDoor.Pu

namespace Go.Proofs.YtfjkpdhldeopaaaDoor.Pu
open Go.RowKit Go.Proofs.YtfjkpdhldeopaaaDoorW.PrintWords Go.Proofs.YtfjkpdhldeopaaaDoorW.PrintLast Go.Proofs.YtfjkpdhldeopaaaDoorW.PrintMore Go.Proofs.YtfjkpdhldeopaaaDoor.G
set_option linter.unusedVariables false
set_option linter.unusedSimpArgs false
theorem logOk_mem {l : List S28} (h : logOk l = true) : ∀ b ∈ l, batOk b = true := fun b hb => by
  obtain ⟨i, hi, rfl⟩ := List.getElem_of_mem hb
  exact logOk_bat h i hi
end Go.Proofs.YtfjkpdhldeopaaaDoor.Pu

namespace Go.Proofs.YtfjkpdhldeopaaaDoor.Pu
open Go.RowKit Go.Proofs.YtfjkpdhldeopaaaDoorW.PrintWords Go.Proofs.YtfjkpdhldeopaaaDoorW.PrintLast Go.Proofs.YtfjkpdhldeopaaaDoorW.PrintMore Go.Proofs.YtfjkpdhldeopaaaDoor.G
set_option linter.unusedVariables false
set_option linter.unusedSimpArgs false
def joinB (a b : BT) : BT := ⟨a.f0, a.f1, a.f2, a.f3, a.f4, a.f5 ++ b.f5⟩
def evenStep (acc : List BT) (b : BT) : List BT := if h : 0 < acc.length then (if joinGood (acc[acc.length - 1]'(by omega)) b = true then acc.set (acc.length - 1) (joinB (acc[acc.length - 1]'(by omega)) b) else acc ++ [b]) else acc ++ [b]
def evenV (l : List BT) : List BT := l.foldl evenStep []
theorem step_len (acc : List BT) (b : BT) : (evenStep acc b).length ≤ acc.length + 1 := by
  unfold evenStep
  split
  · split <;> simp
  · simp
theorem fold_len : ∀ (l acc : List BT), (l.foldl evenStep acc).length ≤ acc.length + l.length
  | [], acc => by simp
  | b :: l, acc => by
    have h1 := fold_len l (evenStep acc b)
    have h2 := step_len acc b
    simp only [List.foldl_cons, List.length_cons]
    omega
end Go.Proofs.YtfjkpdhldeopaaaDoor.Pu

namespace Go.Proofs.YtfjkpdhldeopaaaDoor.Pu
open Go.RowKit Go.Proofs.YtfjkpdhldeopaaaDoorW.PrintWords Go.Proofs.YtfjkpdhldeopaaaDoorW.PrintLast Go.Proofs.YtfjkpdhldeopaaaDoorW.PrintMore Go.Proofs.YtfjkpdhldeopaaaDoor.G
set_option linter.unusedVariables false
set_option linter.unusedSimpArgs false
theorem sjoin_j (a b : BT) (x : Bool) (ha : batOk a = true) (hb : batOk b = true) : Ev (fun k => spec_BatchJoin.j0 k x a.f0 a.f1 a.f2 a.f3 a.f4 a.f5 b.f0 b.f1 b.f2 b.f3 b.f4 b.f5) (if x = true ∨ ¬ batOk (freeB a.f0 (a.f5 ++ b.f5)) = true then (false, false, 0, 0, 0, [], false) else (a.f0, false, 255, 0, 0, a.f5 ++ b.f5, true)) := by
  refine Ev.step (fun k => by rw [spec_BatchJoin.j0]) ?_
  cases x
  · simp only [Bool.false_eq_true, if_false, false_or]
    have h1 := short_of ha
    have h2 := short_of hb
    have l1 := h1.1
    have l2 := h2.1
    simp only [bindS, List.length_nil, List.nil_append, if_pos (show 0 + a.f5.length < 1759218604441 by omega), if_pos (show a.f5.length + b.f5.length < 1759218604441 by omega)]
    refine Ev.bind (free_ev12 a.f0 (a.f5 ++ b.f5) ⟨by rw [List.length_append]; omega, fun r hr => by rcases List.mem_append.1 hr with hr | hr; exact h1.2 r hr; exact h2.2 r hr⟩) ?_
    have e : batOk ⟨a.f0, false, 255, 0, 0, a.f5 ++ b.f5⟩ = batOk (freeB a.f0 (a.f5 ++ b.f5)) := rfl
    simp only [spec_BatchValid.f, bindS, e]
    by_cases hv : batOk (freeB a.f0 (a.f5 ++ b.f5)) = true
    · rw [if_neg (show ¬ ¬ batOk (freeB a.f0 (a.f5 ++ b.f5)) = true from fun h => h hv)]
      simp only [hv, if_true]
      exact Ev.now _
    · rw [if_pos hv]
      simp only [if_neg hv]
      exact Ev.now _
  · simp only [if_true, true_or]
    exact Ev.now _
theorem sBatchJoin_ev (a b : BT) : Ev (fun k => spec_BatchJoin.f k a.f0 a.f1 a.f2 a.f3 a.f4 a.f5 b.f0 b.f1 b.f2 b.f3 b.f4 b.f5) (bjoinV a b) := by
  have bad : ∀ k, spec_BatchJoin.j0 (k + 1) true a.f0 a.f1 a.f2 a.f3 a.f4 a.f5 b.f0 b.f1 b.f2 b.f3 b.f4 b.f5 = some (false, false, 0, 0, 0, [], false) := fun k => by rw [spec_BatchJoin.j0]; simp
  have badE : Ev (fun k => spec_BatchJoin.j0 k true a.f0 a.f1 a.f2 a.f3 a.f4 a.f5 b.f0 b.f1 b.f2 b.f3 b.f4 b.f5) (false, false, 0, 0, 0, [], false) := Ev.step bad (Ev.now _)
  unfold spec_BatchJoin.f bjoinV joinGood
  simp only [spec_BatchValid.f, bindS]
  cases ha : batOk a
  · simpa using badE
  · cases hb : batOk b
    · simpa using badE
    · simp only [if_true, Bool.true_and]
      by_cases h2 : a.f2 = 255
      · by_cases h3 : b.f2 = 255
        · have ef := free_of ha h2
          have e5 : (⟨a.f0, a.f1, a.f2, a.f3, a.f4, a.f5 ++ b.f5⟩ : BT) = freeB a.f0 (a.f5 ++ b.f5) := by
            obtain ⟨a0, a1, a2, a3, a4, l⟩ := a
            simp only [freeB, S28.mk.injEq, true_and, and_true] at ef ⊢
            exact ef
          have e6 : ((a.f0, a.f1, a.f2, a.f3, a.f4, a.f5 ++ b.f5, true) : BJoinT) = (a.f0, false, 255, 0, 0, a.f5 ++ b.f5, true) := by
            have := e5
            simp only [freeB, S28.mk.injEq, true_and, and_true] at this
            obtain ⟨q1, q2, q3, q4⟩ := this
            rw [q1, q2, q3, q4]
          rw [e5, e6]
          simp only [if_pos h2, if_pos h3, decide_eq_true h2, decide_eq_true h3, Bool.true_and]
          have := sjoin_j a b (a.f0 != b.f0) ha hb
          by_cases h4 : a.f0 = b.f0
          · have e : (a.f0 != b.f0) = false := by simp [h4]
            rw [e] at this ⊢
            simp only [Bool.false_eq_true, false_or] at this
            rw [decide_eq_true h4, Bool.true_and]
            by_cases hv : batOk (freeB a.f0 (a.f5 ++ b.f5)) = true
            · rw [if_neg (by simp [hv])] at this
              rw [if_pos hv]
              exact this
            · rw [if_pos hv] at this
              rw [if_neg hv]
              exact this
          · have e : (a.f0 != b.f0) = true := by simp [h4]
            rw [e, decide_eq_false h4, Bool.false_and, if_neg (by simp)]
            exact badE
        · simp only [if_pos h2, if_neg h3, decide_eq_false h3, Bool.false_and, Bool.and_false, Bool.false_eq_true, if_false]
          exact badE
      · simp only [if_neg h2, decide_eq_false h2, Bool.false_and, Bool.and_false, Bool.false_eq_true, if_false]
        exact badE
end Go.Proofs.YtfjkpdhldeopaaaDoor.Pu

namespace Go.Proofs.YtfjkpdhldeopaaaDoor.Pu
open Go.RowKit Go.Proofs.YtfjkpdhldeopaaaDoorW.PrintWords Go.Proofs.YtfjkpdhldeopaaaDoorW.PrintLast Go.Proofs.YtfjkpdhldeopaaaDoorW.PrintMore Go.Proofs.YtfjkpdhldeopaaaDoor.G
set_option linter.unusedVariables false
set_option linter.unusedSimpArgs false
theorem l12Batch_loop (b0 b1 : Bool) (b2 b3 b4 : Int) (l : List RT) (h : ShortR l) : ∀ d i, l.length - i = d → i ≤ l.length → Ev (fun k => spec_l12Batch.l0 k (l.take i) (i : Int) b0 b1 b2 b3 b4 l) (b0, b1, b2, b3, b4, l) := by
  intro d
  induction d with
  | zero =>
    intro i hd hi
    refine Ev.step (fun k => by rw [spec_l12Batch.l0]) ?_
    simp only [if_neg (show ¬ (i : Int) < (l.length : Int) by omega), List.take_of_length_le (show l.length ≤ i by omega)]
    exact Ev.now _
  | succ d ih =>
    intro i hd hi
    have hlt : i < l.length := by omega
    have hl := h.1
    refine Ev.step (fun k => by rw [spec_l12Batch.l0]) ?_
    simp only [if_pos (show (i : Int) < (l.length : Int) by omega), if_pos (show (0 : Int) ≤ (i : Int) by omega), rdR_nat l i hlt, l12Copy_ev _ (h.2 _ (List.getElem_mem hlt)), bindS, w64 (a := (i : Int) + 1) (by omega) (by omega), if_pos (show (l.take i).length < 1759218604441 by rw [List.length_take]; omega)]
    have := ih (i + 1) (by omega) (by omega)
    rw [← List.take_append_getElem hlt] at this
    exact this
theorem l12Batch_ev (b : BT) (h : ShortR b.f5) : Ev (fun k => spec_l12Batch.f k b.f0 b.f1 b.f2 b.f3 b.f4 b.f5) (b.f0, b.f1, b.f2, b.f3, b.f4, b.f5) := by
  unfold spec_l12Batch.f
  have := l12Batch_loop b.f0 b.f1 b.f2 b.f3 b.f4 b.f5 h _ 0 rfl (by omega)
  simpa using this
end Go.Proofs.YtfjkpdhldeopaaaDoor.Pu

namespace Go.Proofs.YtfjkpdhldeopaaaDoor.Pu
open Go.RowKit Go.Proofs.YtfjkpdhldeopaaaDoorW.PrintWords Go.Proofs.YtfjkpdhldeopaaaDoorW.PrintLast Go.Proofs.YtfjkpdhldeopaaaDoorW.PrintMore Go.Proofs.YtfjkpdhldeopaaaDoor.G
set_option linter.unusedVariables false
set_option linter.unusedSimpArgs false
def logEvenV (l : List BT) : List BT × Bool := if logOk l = true then (evenV l, true) else ([], false)
theorem even_loop (l : List BT) (hl : l.length ≤ 8) (hs : ∀ b ∈ l, ShortR b.f5) : ∀ d i (acc : List BT), l.length - i = d → i ≤ l.length → acc.length ≤ i → Ev (fun k => impl_LogEven.l0 k acc l (l.length : Int) (i : Int)) ((l.drop i).foldl evenStep acc, true) := by
  intro d
  induction d with
  | zero =>
    intro i acc hd hi ha
    refine Ev.step (fun k => by rw [impl_LogEven.l0]) ?_
    simp only [if_neg (show ¬ (i : Int) < (l.length : Int) by omega), List.drop_of_length_le (show l.length ≤ i by omega), List.foldl_nil]
    exact Ev.now _
  | succ d ih =>
    intro i acc hd hi ha
    have hlt : i < l.length := by omega
    have hw : wrap64 ((i : Int) + 1) = ((i + 1 : Nat) : Int) := by rw [w64 (by omega) (by omega)]; omega
    have hcp := copyBatch_ev l[i] (hs _ (List.getElem_mem hlt))
    refine Ev.step (fun k => by rw [impl_LogEven.l0]) ?_
    rw [List.drop_eq_getElem_cons hlt, List.foldl_cons]
    simp only [if_pos (show (i : Int) < (l.length : Int) by omega), if_pos (show (0 : Int) ≤ (i : Int) by omega), rdB_nat l i hlt, hw]
    by_cases h0 : 0 < acc.length
    · have hlast : acc.length - 1 < acc.length := by omega
      have ew : wrap64 ((acc.length : Int) - 1) = ((acc.length - 1 : Nat) : Int) := by rw [w64 (by omega) (by omega)]; omega
      simp only [if_pos (show (acc.length : Int) > 0 by omega), ew, if_pos (show (0 : Int) ≤ ((acc.length - 1 : Nat) : Int) by omega), if_pos (show ((acc.length - 1 : Nat) : Int) < (acc.length : Int) by omega), rdB_nat acc _ hlast, Int.toNat_natCast]
      refine Ev.bind (BatchJoin_ev acc[acc.length - 1] l[i]) ?_
      by_cases hg : joinGood acc[acc.length - 1] l[i] = true
      · have e : evenStep acc l[i] = acc.set (acc.length - 1) (joinB acc[acc.length - 1] l[i]) := by unfold evenStep; rw [dif_pos h0, if_pos hg]
        rw [e]
        unfold bjoinV
        simp only [if_pos hg, if_true]
        exact ih (i + 1) _ (by omega) (by omega) (by rw [List.length_set]; omega)
      · have e : evenStep acc l[i] = acc ++ [l[i]] := by unfold evenStep; rw [dif_pos h0, if_neg hg]
        rw [e]
        unfold bjoinV
        simp only [if_neg hg, Bool.false_eq_true, if_false]
        refine Ev.bind hcp ?_
        simp only [if_pos (show acc.length < 2513169434916 by omega)]
        exact ih (i + 1) _ (by omega) (by omega) (by rw [List.length_append, List.length_singleton]; omega)
    · have e : evenStep acc l[i] = acc ++ [l[i]] := by unfold evenStep; rw [dif_neg h0]
      rw [e]
      simp only [if_neg (show ¬ (acc.length : Int) > 0 by omega)]
      refine Ev.bind hcp ?_
      simp only [if_pos (show acc.length < 2513169434916 by omega)]
      exact ih (i + 1) _ (by omega) (by omega) (by rw [List.length_append, List.length_singleton]; omega)
theorem short_all {l : List BT} (h : logOk l = true) : ∀ b ∈ l, ShortR b.f5 := fun b hb => short_of (logOk_mem h b hb)
theorem LogEven_ev (l : List BT) : Ev (fun k => impl_LogEven.f k l) (logEvenV l) := by
  unfold impl_LogEven.f logEvenV
  simp only [impl_LogValid.f, bindS]
  by_cases h : logOk l = true
  · simp only [if_pos h]
    have := even_loop l (logOk_len h) (short_all h) _ 0 [] rfl (by omega) (by simp)
    simpa [evenV] using this
  · simp only [if_neg h]
    exact Ev.now _
theorem sEven_loop (l : List BT) (hl : l.length ≤ 8) (hs : ∀ b ∈ l, ShortR b.f5) : ∀ d i (acc : List BT), l.length - i = d → i ≤ l.length → acc.length ≤ i → Ev (fun k => spec_LogEven.l0 k l acc (i : Int)) ((l.drop i).foldl evenStep acc, true) := by
  intro d
  induction d with
  | zero =>
    intro i acc hd hi ha
    refine Ev.step (fun k => by rw [spec_LogEven.l0]) ?_
    simp only [if_neg (show ¬ (i : Int) < (l.length : Int) by omega), List.drop_of_length_le (show l.length ≤ i by omega), List.foldl_nil]
    exact Ev.now _
  | succ d ih =>
    intro i acc hd hi ha
    have hlt : i < l.length := by omega
    have hw : wrap64 ((i : Int) + 1) = ((i + 1 : Nat) : Int) := by rw [w64 (by omega) (by omega)]; omega
    have hcp := l12Batch_ev l[i] (hs _ (List.getElem_mem hlt))
    refine Ev.step (fun k => by rw [spec_LogEven.l0]) ?_
    rw [List.drop_eq_getElem_cons hlt, List.foldl_cons]
    simp only [if_pos (show (i : Int) < (l.length : Int) by omega), if_pos (show (0 : Int) ≤ (i : Int) by omega), rdB_nat l i hlt, hw]
    by_cases h0 : 0 < acc.length
    · have hlast : acc.length - 1 < acc.length := by omega
      have ew : wrap64 ((acc.length : Int) - 1) = ((acc.length - 1 : Nat) : Int) := by rw [w64 (by omega) (by omega)]; omega
      simp only [if_pos (show (acc.length : Int) > 0 by omega), ew, if_pos (show (0 : Int) ≤ ((acc.length - 1 : Nat) : Int) by omega), if_pos (show ((acc.length - 1 : Nat) : Int) < (acc.length : Int) by omega), rdB_nat acc _ hlast, Int.toNat_natCast]
      refine Ev.bind (sBatchJoin_ev acc[acc.length - 1] l[i]) ?_
      by_cases hg : joinGood acc[acc.length - 1] l[i] = true
      · have e : evenStep acc l[i] = acc.set (acc.length - 1) (joinB acc[acc.length - 1] l[i]) := by unfold evenStep; rw [dif_pos h0, if_pos hg]
        rw [e]
        unfold bjoinV
        simp only [if_pos hg, if_true]
        exact ih (i + 1) _ (by omega) (by omega) (by rw [List.length_set]; omega)
      · have e : evenStep acc l[i] = acc ++ [l[i]] := by unfold evenStep; rw [dif_pos h0, if_neg hg]
        rw [e]
        unfold bjoinV
        simp only [if_neg hg, Bool.false_eq_true, if_false]
        refine Ev.bind hcp ?_
        simp only [if_pos (show acc.length < 2513169434916 by omega)]
        exact ih (i + 1) _ (by omega) (by omega) (by rw [List.length_append, List.length_singleton]; omega)
    · have e : evenStep acc l[i] = acc ++ [l[i]] := by unfold evenStep; rw [dif_neg h0]
      rw [e]
      simp only [if_neg (show ¬ (acc.length : Int) > 0 by omega)]
      refine Ev.bind hcp ?_
      simp only [if_pos (show acc.length < 2513169434916 by omega)]
      exact ih (i + 1) _ (by omega) (by omega) (by rw [List.length_append, List.length_singleton]; omega)
theorem sLogEven_ev (l : List BT) : Ev (fun k => spec_LogEven.f k l) (logEvenV l) := by
  unfold spec_LogEven.f logEvenV
  simp only [spec_LogValid.f, bindS]
  by_cases h : logOk l = true
  · simp only [if_pos h]
    have := sEven_loop l (logOk_len h) (short_all h) _ 0 [] rfl (by omega) (by simp)
    simpa [evenV] using this
  · simp only [if_neg h]
    exact Ev.now _
end Go.Proofs.YtfjkpdhldeopaaaDoor.Pu

namespace Go.Proofs.YtfjkpdhldeopaaaDoor.Pure
open Go.RowKit Go.Proofs.YtfjkpdhldeopaaaDoor.G Go.Proofs.YtfjkpdhldeopaaaDoorW.PrintWords Go.Proofs.YtfjkpdhldeopaaaDoorW.PrintLast Go.Proofs.YtfjkpdhldeopaaaDoor.Pu
set_option linter.unusedSimpArgs false
theorem evenStep_q (acc : List BT) (b : BT) (ha : ∀ x ∈ acc, QB x) (hb : QB b) : ∀ x ∈ evenStep acc b, QB x := by
  have snoc : ∀ x ∈ acc ++ [b], QB x := fun x hx => by
    rcases List.mem_append.1 hx with hx | hx
    · exact ha x hx
    · rw [List.mem_singleton.1 hx]; exact hb
  unfold evenStep
  split
  case isTrue h0 =>
    split
    case isTrue hj =>
      intro x hx
      rcases List.mem_or_eq_of_mem_set hx with hx | hx
      · exact ha x hx
      · subst hx
        have hl := ha _ (List.getElem_mem (l := acc) (n := acc.length - 1) (by omega))
        generalize acc[acc.length - 1]'(by omega) = y at *
        unfold joinGood at hj
        simp only [Bool.and_eq_true] at hj
        have h6 := (batOk_len hj.2.2.2.2.2).2
        refine ⟨Nat.le_trans h6 (by omega), fun r hr => ?_⟩
        rcases List.mem_append.1 hr with hr | hr
        · exact hl.2 r hr
        · exact hb.2 r hr
    case isFalse => exact snoc
  case isFalse => exact snoc
theorem foldl_q : ∀ (l acc : List BT), (∀ b ∈ l, QB b) → (∀ b ∈ acc, QB b) → ∀ x ∈ l.foldl evenStep acc, QB x
  | [], acc, _, h => h
  | b :: l, acc, hl, h => by
    rw [List.foldl_cons]
    exact foldl_q l _ (fun x hx => hl x (List.mem_cons_of_mem _ hx)) (evenStep_q acc b h (hl b List.mem_cons_self))
theorem FnExactLogEven : OFnExactLogEven.Pure := by
  intro l hl ho
  have lb : ∀ b ∈ l, LenB b := fun b hb => ⟨(ho b hb).2.2.2.2.2.1, fun r hr => ⟨((ho b hb).2.2.2.2.2.2 r hr).2.2.2.1.1, ((ho b hb).2.2.2.2.2.2 r hr).2.2.2.2.2.1⟩⟩
  obtain ⟨t, ⟨K0, e0⟩, ht⟩ := szBatchS_ends l hl lb 1048576 (by omega) (by omega)
  by_cases h : t < 0
  · refine ⟨K0, ?_⟩
    unfold laws_FnExactLogEven.f
    rw [if_pos (.inl ⟨t, e0 K0 (Nat.le_refl _), h⟩)]
  · obtain ⟨t0, t1, n0, z0⟩ := ht.resolve_left h
    have xq := qB_cv z0
    have xl : (l.map cvB).length ≤ 1048576 := by rw [List.length_map]; exact n0
    obtain ⟨g, hg⟩ : ∃ g, g = logEvenV (l.map cvB) := ⟨_, rfl⟩
    have gq : (∀ b ∈ g.1, QB b) ∧ g.1.length ≤ 1048576 := by
      rw [hg]
      unfold logEvenV
      split
      · refine ⟨foldl_q (l.map cvB) [] xq (by simp), ?_⟩
        have := fold_len (l.map cvB) []
        show (evenV (l.map cvB)).length ≤ _
        unfold evenV
        simp only [List.length_nil] at this
        omega
      · exact ⟨by simp, by simp⟩
    have bx := totB_small _ xq
    have bg := totB_small _ gq.1
    have gl := gq.2
    have bx' : (totB (l.map cvB) : Int) ≤ 2900000000000000000 := by omega
    have bg' : (totB g.1 : Int) ≤ 2900000000000000000 := by omega
    obtain ⟨K2, e2⟩ := toBatchS_ev l n0 z0
    obtain ⟨K4, e4⟩ := sLogEven_ev (l.map cvB)
    obtain ⟨K5, e5⟩ := LogEven_ev (l.map cvB)
    rw [← hg] at e4 e5
    obtain ⟨K6, e6⟩ := eqBatchS_ev g.1 (rowB_q (by omega) gq.1)
    obtain ⟨K8, e8⟩ := eqBatchS_ev (l.map cvB) (rowB_q (by omega) xq)
    obtain ⟨K9, e9⟩ := heldBatchS_ev 1 g.1 gq.1 (by omega) (by omega) (by omega)
    refine ⟨K0 + K2 + K4 + K5 + K6 + K8 + K9, ?_⟩
    unfold laws_FnExactLogEven.f
    rw [if_pos (.inr ⟨t, l.map cvB, g.1, g.2, e0 _ (by omega), by omega, e2 _ (by omega), e4 _ (by omega), e5 _ (by omega), e6 _ (by omega), e8 _ (by omega), e9 _ (by omega), bx', bg'⟩)]
end Go.Proofs.YtfjkpdhldeopaaaDoor.Pure

namespace Go.Proofs.YtfjkpdhldeopaaaDoor.fnExactLogEven
open Go.ChangeShapes Go.WideShapes Go.ChangeAt Go.RowKit Go.Proofs.YtfjkpdhldeopaaaDoor.OFnExactLogEven Go.Proofs.YtfjkpdhldeopaaaDoor.G Go.Joins
open Go.ChangeMaps (open_string shut_string)
set_option linter.unusedVariables false
theorem own : ownKnob Tryd.prog.godebug = none := by kernel_rfl
theorem laidOut : laidOutB Tryd.prog = true := by kernel_rfl
theorem star : "*" ++ "errors.errorString" = "*errors.errorString" := by decide
theorem cellsE : Tryd.prog.cellsOf 128 = 1 := by kernel_rfl
theorem cellsS : Tryd.prog.cellsOf 9 = 1 := by kernel_rfl
theorem g0 : Tryd.prog.globalNamed "loop.example/recordbatches/impl.errNoJoin" = some 0 := by kernel_rfl
theorem gT0 : (Tryd.prog.globals[0]?).map (·.type) = some 54 := by kernel_rfl
abbrev text0 : ByteArray := { data := #[110, 111, 32, 106, 111, 105, 110] }
theorem rowE (u : TypeId) (h : Tryd.prog.typeName? 3 u = some "*errors.errorString") : u = 103 :=
  typeName_ptr_named (nm := "errors.errorString") (by rw [star]; kernel_rfl) (by kernel_rfl) (by decide) u (by rw [star]; exact h)
noncomputable def low : Nat := (World.holding Tryd.prog default ⟨#[], #[], []⟩).heap.size
noncomputable def laidWorld (os : Os) : World :=
  let w0 := World.holding Tryd.prog os ⟨#[.cells #[.string text0] 128], #[], []⟩
  { w0 with heap := (w0.heap.modify 0 fun | .cells _ t frozen => .cells #[.iface 103 (.pointer (some ⟨low + 0, 0, none⟩))] t frozen | o => o) }
theorem laid_met (os : Os) (args : Array Value) : laidMetH Tryd.prog Rows.fnExactLogEvenRow.laid ((laidWorld os).forCall (fun _ _ => 0) ⟨#[], args, []⟩).memory :=
  laidMetH_of_parts (laidMet_of_run (ps := [.cell 0 0, .cell (low + 0) 0]) 8 (by kernel_rfl) (by kernel_rfl) (by kernel_rfl)) (by kernel_rfl)
set_option maxRecDepth 100000 in
theorem lifted (os : Os) (started : os.Started) (H : Type) (enc : TypeId × Value → H) :
    ReturnsInHanded {} Tryd.checked os 6 .any (fun w args => (Rows.fnExactLogEvenSpec.pre enc Tryd.prog Tryd.f6 Rows.fnExactLogEvenRow.domain false w args ∧ laidMetH Tryd.prog Rows.fnExactLogEvenRow.laid w) ∧ sizedMet enc Tryd.prog Tryd.f6 (OpenSpec.ofChange Rows.fnExactLogEvenSpec) false w args) (Rows.fnExactLogEvenSpec.post enc Tryd.prog Tryd.f6 false true false false) := by
  refine returnsInHanded_of_change_and (C := Tryd.checked) (X := fun w _ => laidMetH Tryd.prog Rows.fnExactLogEvenRow.laid w) (fun _ _ _ hh h => h.of_heap hh) own started (by kernel_rfl) Tryd.func6
    (ChangeSpec.witness_at (enc := enc) (C := Tryd.checked) (os := os) (X := fun w _ => laidMetH Tryd.prog Rows.fnExactLogEvenRow.laid w) false (laidWorld os) #[.slice none 0 0] 8 rfl (by kernel_rfl) (by kernel_rfl) (by kernel_rfl) (by kernel_rfl) (by kernel_rfl) (laid_met os _)) ?_
  intro W base args ds gs before hval0 hW hcnd hsz0 hLL _
  have hsz : (DataW.weightsEach Tryd.prog (Tryd.f6.params.toList ++ Rows.fnExactLogEvenSpec.plain.varTypes Tryd.prog) (ds ++ gs)).all (· ≤ reachBytes) = true := hsz0
  have hval : ∀ (j : Nat) t v, Tryd.f6.params[j]? = some t → args[j]? = some v → Value.okWide Tryd.prog W .any base t v := hval0
  have hW' := hW
  obtain ⟨p, q, hA0, hV, rfl, hfz, hnd⟩ := hW
  have hA : DataW.TrodAll enc Tryd.prog W 0 (fun _ => true) true Tryd.f6.params.toList args.toList ds p := hA0
  rw [Tryd.params6] at hA hval hsz
  obtain ⟨v0, vs0, d0, ds0, p0, q0, hargs, rfl, rfl, h0, r0⟩ := trodAll_cons hA
  obtain ⟨rfl, rfl, rfl⟩ := trodAll_nil r0
  obtain rfl : args = #[v0] := by cases args; simp_all
  have hL : laidMet Tryd.prog Rows.fnExactLogEvenRow.laid W := hLL
  obtain ⟨b0, s0, hv0, hc0, hs0, hz0⟩ := laid_sentinel hL g0 gT0 Tryd.underlying54 rowE Tryd.underlying103 Tryd.underlying128 rfl rfl Tryd.underlying9 cellsE cellsS
  obtain ⟨rfl, rfl⟩ := hV.unique (vars_read1 enc g0 gT0 Tryd.underlying54 hv0 trivial _)
  have hg0 : W.cell? ⟨0, 0, none⟩ = some (.iface 103 (.pointer (some b0))) := by simpa using World.var?_cell g0 hv0 0
  obtain ⟨a0, len0, cap0, rfl⟩ := okWide_slice Tryd.underlying38 (hval 0 38 v0 rfl rfl)
  have k0 := h0
  have lt0 : ∀ x ∈ p0, x.block < W.heap.size := by obtain ⟨m, hm⟩ := k0; exact DataW.trod_lt m _ _ _ hm
  obtain ⟨fuel0, hf0⟩ := h0
  obtain ⟨A0, c0, l0, hcs0, hlc0, hm0, hC0, ho0⟩ := Rd.opens_row Tryd.underlying38 open24 hf0
  simp [Value.cells] at hcs0
  obtain ⟨rfl, rfl, rfl⟩ := hcs0
  clear hA0 hval0 hsz0 hsz
  obtain ⟨k, h⟩ := Pure.FnExactLogEven l0 (Nat.le_trans hlc0 hm0) ho0
  letI : ErrA := ⟨fun n => b0⟩
  have hE : ErrOk [0] W := fun g hg => by
    have hg' : g = 0 := by simpa using hg
    rcases hg' with rfl
    · exact hg0
  refine (laws_FnExactLogEven.calls k _ _ l0 true W hE hC0 hlc0 h).mono fun e W' ⟨he, bel0⟩ => ?_
  subst he
  have bel : Below W.heap.size W W' := bel0
  have hw0 : W'.var? Tryd.prog "loop.example/recordbatches/impl.errNoJoin" = some #[.iface 103 (.pointer (some b0))] := var?_below bel g0 (World.block_lt_of_cell? W _ hg0) hv0
  exact ⟨_, rfl, _, _, _, [], _, _, hW', trodAll_mk1 (shut_bool Tryd.underlying4 _), (trodAll_cons_mk (Below.trod laidOut (by kernel_rfl) (of_decide_eq_true (by kernel_rfl)) k0 bel lt0) trodAll_mk0), vars_read1 enc g0 gT0 Tryd.underlying54 hw0 trivial _, bel.frame _, fun h => by cases h⟩
theorem over : Rows.fnExactLogEvenRow.holds Tryd.pinned (OpenSpec.ofChange Rows.fnExactLogEvenSpec) :=
  OpenClaim.holds_of_wide 6 Tryd.f6 rfl rfl rfl rfl rfl rfl rfl ⟨rfl, rfl, rfl, rfl, rfl⟩ rfl rfl rfl rfl rfl (by kernel_rfl) Tryd.func6 (by kernel_rfl)
    (of_decide_eq_true (by kernel_rfl)) (by unfold Func.isWrapper; first | (rw [if_pos (by decide +kernel)]; kernel_rfl) | (rw [if_neg (by decide +kernel)]; exact ⟨rfl, rfl⟩))
    (fun os started H enc _ => lifted os started H enc)
theorem proved : Rows.FnExactLogEvenSaid := over
#print axioms proved
end Go.Proofs.YtfjkpdhldeopaaaDoor.fnExactLogEven
namespace Go.Proofs.YtfjkpdhldeopaaaDoor
/-- The row, under a short name, for the claim. -/
theorem fnExactLogEven_holds : Rows.FnExactLogEvenSaid := fnExactLogEven.proved
theorem fnExactLogEven_card : Rows.FnExactLogEvenCardSaid :=
  Claim7.holds_tied_plain_at .later [] [.sentinel] true (true, "b61f1c08241aa9639d9ab7dbd627422c50556f76b0fa2dd21839bf8d79a0296e") true
    fnExactLogEven_holds (fun _ h => by cases h) (by kernel_rfl) (fun _ h => by cases h) fnExactLogEven_row_tie rfl ⟨rfl, rfl⟩ (by kernel_rfl) rfl
    (fun f fn hf hfn => by
      obtain rfl : f = 6 := Option.some.inj ((show Tryd.prog.funcNamed "loop.example/recordbatches/laws.FnExactLogEven" = some 6 by kernel_rfl).symm.trans hf) |>.symm
      obtain rfl : fn = Tryd.f6 := (Option.some.inj (Tryd.func6.symm.trans hfn)).symm
      exact ⟨by kernel_rfl, fun j t ht => by
        rw [Tryd.params6] at ht
        have h3 : t = 38 := by
          rcases j with _ | j
          · have h_ := ht.symm; simp at h_; simp [h_]
          · simp at ht
        rcases h3 with rfl
        · exact (show Tryd.prog.wantsStandIn 38 = false by kernel_rfl)⟩)
    (by kernel_rfl)
#print axioms fnExactLogEven_card
end Go.Proofs.YtfjkpdhldeopaaaDoor

