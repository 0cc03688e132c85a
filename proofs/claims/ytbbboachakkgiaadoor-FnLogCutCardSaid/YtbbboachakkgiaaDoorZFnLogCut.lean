/- A text of seat YtbbboachakkgiaaDoor: what the law FnLogCut needs of this repo's texts (by pack.py). Not trusted: Lean checks it. -/
import Derived.Test.YtbbboachakkgiaaDoorKFnLogCut11
import Derived.Test.YtbbboachakkgiaaDoorRows
import Derived.Test.YtbbboachakkgiaaDoorCards
import Derived.Test.YtbbboachakkgiaaDoorTie
import Derived.SevenTiedAt
import Derived.WalkSmall
import Derived.ChangeVars
import Derived.JoinedOf
import Derived.LaidLaws
import Derived.LaidHandle
import Derived.Stop.LaidErr
import Derived.Stop.LaidTwo
import Derived.Stop.Joined
import Derived.RowKitTokens
import Derived.WalkKit
import Derived.ProofKit
import Derived.OpenShut
import Derived.ShutString
import Derived.ChangeOld
import Derived.Below
import Derived.SizedLaws
import Derived.Lib.SmallJoins
import Derived.Laws.StructEq
import Derived.ChangeSlices
namespace Go.Proofs.YtbbboachakkgiaaDoor.Pu
open Go.RowKit Go.Proofs.YtbbboachakkgiaaDoorW.PrintWords Go.Proofs.YtbbboachakkgiaaDoorW.PrintLast Go.Proofs.YtbbboachakkgiaaDoorW.PrintMore Go.Proofs.YtbbboachakkgiaaDoor.G
set_option linter.unusedVariables false
set_option linter.unusedSimpArgs false
theorem inc_filter (p : RT → Bool) : ∀ (l : List RT), Inc l → Inc (l.filter p)
  | [], _ => trivial
  | x :: l, h => by
    rw [List.filter_cons]
    split
    · exact ⟨fun y hy => h.1 y (List.mem_filter.1 hy).1, inc_filter p l h.2⟩
    · exact inc_filter p l h.2
theorem inc_step : ∀ (l : List RT), Inc l → ∀ (j : Nat) (hj : j + 1 < l.length), l[j].f0 < l[j + 1].f0
  | [], _, j, hj => by simp at hj
  | x :: l, h, 0, hj => h.1 _ (List.getElem_mem (l := l) (n := 0) (by simpa using hj))
  | x :: l, h, j + 1, hj => inc_step l h.2 j (by simpa using hj)
theorem recsInc_of (l : List RT) (h : ∀ r ∈ l, recOk r = true) (hi : Inc l) : recsInc l = true := incs_of fun j hj => by
  unfold recStep
  rw [rdR_nat l j hj, h _ (List.getElem_mem hj), Bool.true_and]
  rcases j with _ | j
  · simp
  · rw [show ((j + 1 : Nat) : Int) - 1 = (j : Int) by omega, rdR_nat l j (by omega), decide_eq_true (inc_step l hi j hj), Bool.or_true]
def freeB (p : Bool) (l : List RT) : BT := ⟨p, false, 255, 0, 0, l⟩
theorem free_ok {p : Bool} {l : List RT} (hr : ∀ r ∈ l, recOk r = true) (hi : Inc l) (h1 : 1 ≤ l.length) (h6 : l.length ≤ 6) : batOk (freeB p l) = true := by
  unfold batOk headOk lenOk freeB
  simp only [recsInc_of l hr hi, if_true, decide_true, Bool.not_false, Bool.true_or, Bool.and_true, Bool.true_and, Bool.and_eq_true, decide_eq_true_eq]
  omega
theorem bat_recs {b : BT} (h : batOk b = true) : ∀ r ∈ b.f5, recOk r = true := fun r hr => by
  obtain ⟨i, hi, rfl⟩ := List.getElem_of_mem hr
  exact batOk_rec h i hi
theorem good_parts {b : BT} {o : Int} (h : cutGood b o = true) : batOk b = true ∧ b.f2 = 255 ∧ aheadL b.f5 o ≠ [] ∧ behindL b.f5 o ≠ [] := by
  unfold cutGood at h
  simp only [Bool.and_eq_true, Bool.not_eq_true', decide_eq_true_eq] at h
  exact ⟨h.1.1, h.1.2, fun e => by rw [e] at h; simp at h, fun e => by rw [e] at h; simp at h⟩
theorem part_ok {b : BT} {o : Int} (p : RT → Bool) (h : cutGood b o = true) (hn : b.f5.filter p ≠ []) : batOk (freeB b.f0 (b.f5.filter p)) = true := by
  have hb := (good_parts h).1
  refine free_ok (fun r hr => bat_recs hb r (List.mem_filter.1 hr).1) (inc_filter p _ (inc_bat hb)) (List.length_pos_iff.2 hn) ?_
  have := (batOk_len hb).2
  have := List.length_filter_le p b.f5
  omega
theorem ahead_ok {b : BT} {o : Int} (h : cutGood b o = true) : batOk (freeB b.f0 (aheadL b.f5 o)) = true := part_ok _ h (good_parts h).2.2.1
theorem ahead_lt {b : BT} {o : Int} (h : cutGood b o = true) : lastOf (freeB b.f0 (aheadL b.f5 o)) < o := by
  have hn := (batOk_len (ahead_ok h)).1
  rw [lastOf_eq (by omega)]
  have := (List.mem_filter.1 (List.getElem_mem (l := aheadL b.f5 o) (n := (aheadL b.f5 o).length - 1) (by simp only [freeB] at hn; omega))).2
  simpa [freeB] using this
end Go.Proofs.YtbbboachakkgiaaDoor.Pu

namespace Go.Proofs.YtbbboachakkgiaaDoor.Pu
open Go.RowKit Go.Proofs.YtbbboachakkgiaaDoorW.PrintWords Go.Proofs.YtbbboachakkgiaaDoorW.PrintLast Go.Proofs.YtbbboachakkgiaaDoorW.PrintMore Go.Proofs.YtbbboachakkgiaaDoor.G
set_option linter.unusedVariables false
set_option linter.unusedSimpArgs false
def IncB : List S47 → Prop
  | [] => True
  | b :: l => (∀ c ∈ l, lastOf b < firstOf c) ∧ IncB l
theorem incB_of : ∀ (l : List S47), (∀ b ∈ l, batOk b = true) → (∀ i (h : i + 1 < l.length), lastOf l[i] < firstOf l[i + 1]) → IncB l
  | [], _, _ => trivial
  | [b], _, _ => ⟨fun c hc => by simp at hc, trivial⟩
  | b :: c :: l, hv, h => by
    have h1 := incB_of (c :: l) (fun x hx => hv x (List.mem_cons_of_mem _ hx)) fun i hi => h (i + 1) (by simp only [List.length_cons] at hi ⊢; omega)
    have h0 : lastOf b < firstOf c := h 0 (by simp)
    refine ⟨fun y hy => ?_, h1⟩
    rcases List.mem_cons.1 hy with rfl | hy
    · exact h0
    · have := h1.1 y hy
      have := first_le_last (hv c (by simp))
      omega
theorem incB_log {l : List S47} (h : logOk l = true) : IncB l :=
  incB_of l (fun b hb => by obtain ⟨i, hi, rfl⟩ := List.getElem_of_mem hb; exact logOk_bat h i hi) fun i hi => bat_inc h i hi
theorem incB_step : ∀ (l : List S47), IncB l → ∀ (j : Nat) (hj : j + 1 < l.length), lastOf l[j] < firstOf l[j + 1]
  | [], _, j, hj => by simp at hj
  | x :: l, h, 0, hj => h.1 _ (List.getElem_mem (l := l) (n := 0) (by simpa using hj))
  | x :: l, h, j + 1, hj => incB_step l h.2 j (by simpa using hj)
theorem logOk_of {l : List S47} (hv : ∀ b ∈ l, batOk b = true) (hi : IncB l) (hl : l.length ≤ 8) : logOk l = true := by
  unfold logOk
  rw [logs_of fun j hj => ?_, Bool.true_and, decide_eq_true (by omega)]
  unfold batStep
  rw [rdB_nat l j hj, hv _ (List.getElem_mem hj), Bool.true_and]
  rcases j with _ | j
  · simp
  · rw [show ((j + 1 : Nat) : Int) - 1 = (j : Int) by omega, rdB_nat l j (by omega), decide_eq_true (incB_step l hi j hj), Bool.or_true]
theorem logOk_mem {l : List S47} (h : logOk l = true) : ∀ b ∈ l, batOk b = true := fun b hb => by
  obtain ⟨i, hi, rfl⟩ := List.getElem_of_mem hb
  exact logOk_bat h i hi
end Go.Proofs.YtbbboachakkgiaaDoor.Pu

namespace Go.Proofs.YtbbboachakkgiaaDoor.Pu
open Go.RowKit Go.Proofs.YtbbboachakkgiaaDoorW.PrintWords Go.Proofs.YtbbboachakkgiaaDoorW.PrintLast Go.Proofs.YtbbboachakkgiaaDoorW.PrintMore Go.Proofs.YtbbboachakkgiaaDoor.G
set_option linter.unusedVariables false
set_option linter.unusedSimpArgs false
def recsOf (l : List S47) : List S33 := l.flatMap fun b => b.f5
theorem recsOf_len {l : List S47} (h : logOk l = true) : ∀ i, (recsOf (l.take i)).length ≤ 6 * i := by
  intro i
  have key : ∀ (m : List S47), (∀ b ∈ m, b.f5.length ≤ 6) → (recsOf m).length ≤ 6 * m.length := by
    intro m
    induction m with
    | nil => intro _; simp [recsOf]
    | cons b m ih =>
      intro hm
      have h1 := ih fun x hx => hm x (List.mem_cons_of_mem _ hx)
      have h2 := hm b (List.mem_cons_self ..)
      unfold recsOf at h1 ⊢
      rw [List.flatMap_cons, List.length_append, List.length_cons]
      omega
  have h1 := key (l.take i) (fun b hb => by
    obtain ⟨j, hj, rfl⟩ := List.getElem_of_mem (List.mem_of_mem_take hb)
    exact (batOk_len (logOk_bat h j hj)).2)
  have h2 : (l.take i).length ≤ i := List.length_take_le _ _
  omega
theorem recsOf_all_len {l : List S47} (h : logOk l = true) : (recsOf l).length ≤ 48 := by
  have h1 := recsOf_len h l.length
  rw [List.take_length] at h1
  have := logOk_len h
  omega
/-- A loop that gathers all records. -/
theorem gather_ev (l : List S47) (h : logOk l = true) (L : Nat → List S33 → Int → Option (List S33))
    (hend : ∀ k m, L (k + 1) m (l.length : Int) = some m)
    (hstep : ∀ k m (i : Nat) (hi : i < l.length), m.length + l[i].f5.length < 1759218604441 → L (k + 1) m (i : Int) = L k (m ++ l[i].f5) ((i : Int) + 1)) : Ev (fun k => L k [] 0) (recsOf l) := by
  have hl := logOk_len h
  have key : ∀ d i, l.length - i = d → i ≤ l.length → Ev (fun k => L k (recsOf (l.take i)) (i : Int)) (recsOf l) := by
    intro d
    induction d with
    | zero =>
      intro i hd hi
      obtain rfl : i = l.length := by omega
      refine Ev.step (fun k => hend k _) ?_
      rw [List.take_length]
      exact Ev.now _
    | succ d ih =>
      intro i hd hi
      have hlt : i < l.length := by omega
      have h1 := recsOf_len h i
      have h2 := (batOk_len (logOk_bat h i hlt)).2
      refine Ev.step (fun k => hstep k _ i hlt (by omega)) ?_
      have e : recsOf (l.take i) ++ l[i].f5 = recsOf (l.take (i + 1)) := by
        unfold recsOf
        rw [List.take_succ_eq_append_getElem hlt, List.flatMap_append]
        simp
      rw [e]
      exact_mod_cast ih (i + 1) (by omega) (by omega)
  have := key l.length 0 (by omega) (by omega)
  simpa [recsOf] using this
end Go.Proofs.YtbbboachakkgiaaDoor.Pu

namespace Go.Proofs.YtbbboachakkgiaaDoor.Pu
open Go.RowKit Go.Proofs.YtbbboachakkgiaaDoorW.PrintWords Go.Proofs.YtbbboachakkgiaaDoorW.PrintLast Go.Proofs.YtbbboachakkgiaaDoorW.PrintMore Go.Proofs.YtbbboachakkgiaaDoor.G
set_option linter.unusedVariables false
theorem allOf_ev (l : List S47) (h : logOk l = true) : Ev (fun k => laws_allOf.f k l) (recsOf l) := by
  unfold laws_allOf.f
  have hl := logOk_len h
  exact gather_ev l h (fun k m i => laws_allOf.l0 k l m i)
    (fun k m => by simp only [laws_allOf.l0]; rw [if_neg (by omega)])
    (fun k m i hi hm => by simp only [laws_allOf.l0]; rw [if_pos (by omega), if_pos (by omega), rdB_nat l i hi, if_pos hm, w64 (by omega) (by omega)])
end Go.Proofs.YtbbboachakkgiaaDoor.Pu

namespace Go.Proofs.YtbbboachakkgiaaDoor.Pu
open Go.RowKit Go.Proofs.YtbbboachakkgiaaDoorW.PrintWords Go.Proofs.YtbbboachakkgiaaDoorW.PrintLast Go.Proofs.YtbbboachakkgiaaDoorW.PrintMore Go.Proofs.YtbbboachakkgiaaDoor.G
set_option linter.unusedVariables false
set_option linter.unusedSimpArgs false
def kept (o : Int) : List BT → List BT
  | [] => []
  | b :: l => if lastOf b < o then b :: kept o l else if firstOf b < o then aheadB b o :: kept o l else kept o l
theorem lcut_kept (o : Int) : ∀ (l acc : List BT), (lcut o l acc).2 = true → (lcut o l acc).1 = acc ++ kept o l ∧ ∀ b ∈ l, ¬ lastOf b < o → firstOf b < o → cutGood b o = true
  | [], acc, _ => ⟨by simp [lcut, kept], fun b hb => by simp at hb⟩
  | x :: l, acc, h => by
    rw [lcut] at h ⊢
    rw [kept]
    by_cases c1 : lastOf x < o
    · rw [if_pos c1] at h ⊢
      obtain ⟨h1, h2⟩ := lcut_kept o l (acc ++ [x]) h
      rw [if_pos c1, h1]
      refine ⟨by simp, fun b hb n1 n2 => ?_⟩
      rcases List.mem_cons.1 hb with rfl | hb
      · exact absurd c1 n1
      · exact h2 b hb n1 n2
    · rw [if_neg c1] at h ⊢
      by_cases c2 : firstOf x < o
      · rw [if_pos c2] at h ⊢
        by_cases c3 : cutGood x o = true
        · rw [if_pos c3] at h ⊢
          obtain ⟨h1, h2⟩ := lcut_kept o l (acc ++ [aheadB x o]) h
          rw [if_neg c1, if_pos c2, h1]
          refine ⟨by simp, fun b hb n1 n2 => ?_⟩
          rcases List.mem_cons.1 hb with rfl | hb
          · exact c3
          · exact h2 b hb n1 n2
        · rw [if_neg c3] at h
          simp at h
      · rw [if_neg c2] at h ⊢
        obtain ⟨h1, h2⟩ := lcut_kept o l acc h
        rw [if_neg c1, if_neg c2, h1]
        refine ⟨rfl, fun b hb n1 n2 => ?_⟩
        rcases List.mem_cons.1 hb with rfl | hb
        · exact absurd n2 c2
        · exact h2 b hb n1 n2
/-- Where each one that is left comes from. -/
theorem kept_mem (o : Int) : ∀ (l : List BT), (∀ b ∈ l, ¬ lastOf b < o → firstOf b < o → cutGood b o = true) → ∀ y ∈ kept o l, ∃ b ∈ l, (y = b ∧ lastOf b < o) ∨ (y = aheadB b o ∧ cutGood b o = true ∧ ¬ lastOf b < o)
  | [], _, y, hy => by simp [kept] at hy
  | x :: l, h, y, hy => by
    have ih := kept_mem o l fun b hb => h b (List.mem_cons_of_mem _ hb)
    have up : (∃ b ∈ l, (y = b ∧ lastOf b < o) ∨ (y = aheadB b o ∧ cutGood b o = true ∧ ¬ lastOf b < o)) → ∃ b ∈ x :: l, (y = b ∧ lastOf b < o) ∨ (y = aheadB b o ∧ cutGood b o = true ∧ ¬ lastOf b < o) := fun ⟨b, hb, k⟩ => ⟨b, List.mem_cons_of_mem _ hb, k⟩
    rw [kept] at hy
    by_cases c1 : lastOf x < o
    · rw [if_pos c1] at hy
      rcases List.mem_cons.1 hy with rfl | hy
      · exact ⟨_, by simp, .inl ⟨rfl, c1⟩⟩
      · exact up (ih y hy)
    · rw [if_neg c1] at hy
      by_cases c2 : firstOf x < o
      · rw [if_pos c2] at hy
        rcases List.mem_cons.1 hy with rfl | hy
        · exact ⟨x, by simp, .inr ⟨rfl, h x (by simp) c1 c2, c1⟩⟩
        · exact up (ih y hy)
      · rw [if_neg c2] at hy
        exact up (ih y hy)
theorem first_ahead {b : BT} {o : Int} (h : cutGood b o = true) : firstOf (aheadB b o) = firstOf b := by
  have hn := (batOk_len (ahead_ok h)).1
  have hb := batOk_len (good_parts h).1
  have hI := inc_bat (good_parts h).1
  have hne := (good_parts h).2.2.1
  rw [firstOf_eq (show 0 < (aheadB b o).f5.length from hn), firstOf_eq (by omega)]
  obtain ⟨b0, b1, b2, b3, b4, l⟩ := b
  simp only [aheadB] at hn hb hI hne ⊢
  rcases l with _ | ⟨x, l⟩
  · simp at hb
  · by_cases hx : x.f0 < o
    · simp [aheadL_cons, hx]
    · exfalso
      apply hne
      rw [aheadL_cons, if_neg hx]
      exact List.filter_eq_nil_iff.2 fun y hy => by have := hI.1 y hy; simp; omega
theorem kept_first (o : Int) {l : List BT} (h : ∀ b ∈ l, ¬ lastOf b < o → firstOf b < o → cutGood b o = true) {m : Int} (hm : ∀ b ∈ l, m < firstOf b) : ∀ y ∈ kept o l, m < firstOf y := fun y hy => by
  obtain ⟨b, hb, ⟨rfl, _⟩ | ⟨rfl, hg, _⟩⟩ := kept_mem o l h y hy
  · exact hm _ hb
  · rw [first_ahead hg]
    exact hm _ hb
theorem kept_inc (o : Int) : ∀ (l : List BT), (∀ b ∈ l, ¬ lastOf b < o → firstOf b < o → cutGood b o = true) → IncB l → IncB (kept o l)
  | [], _, _ => trivial
  | x :: l, h, hi => by
    have h' : ∀ b ∈ l, ¬ lastOf b < o → firstOf b < o → cutGood b o = true := fun b hb => h b (List.mem_cons_of_mem _ hb)
    have ih := kept_inc o l h' hi.2
    rw [kept]
    by_cases c1 : lastOf x < o
    · rw [if_pos c1]
      exact ⟨kept_first o h' hi.1, ih⟩
    · rw [if_neg c1]
      by_cases c2 : firstOf x < o
      · rw [if_pos c2]
        have hg := h x (by simp) c1 c2
        have := ahead_lt hg
        refine ⟨kept_first o h' fun b hb => ?_, ih⟩
        have h1 := hi.1 b hb
        have h2 : lastOf (aheadB x o) < o := ahead_lt hg
        omega
      · rw [if_neg c2]
        exact ih
theorem kept_len (o : Int) : ∀ (l : List BT), (kept o l).length ≤ l.length
  | [] => by simp [kept]
  | x :: l => by
    have := kept_len o l
    rw [kept]
    split
    · simp only [List.length_cons]; omega
    · split <;> simp only [List.length_cons] <;> omega
theorem kept_ok (o : Int) {l : List BT} (hl : logOk l = true) (h : ∀ b ∈ l, ¬ lastOf b < o → firstOf b < o → cutGood b o = true) : logOk (kept o l) = true := by
  refine logOk_of (fun y hy => ?_) (kept_inc o l h (incB_log hl)) (Nat.le_trans (kept_len o l) (logOk_len hl))
  obtain ⟨b, hb, ⟨rfl, _⟩ | ⟨rfl, hg, _⟩⟩ := kept_mem o l h y hy
  · exact logOk_mem hl _ hb
  · exact ahead_ok hg
/-- What stays are the records ahead of the offset. -/
theorem kept_recs (o : Int) : ∀ (l : List BT), (∀ b ∈ l, batOk b = true) → recsOf (kept o l) = (recsOf l).filter fun r => decide (r.f0 < o)
  | [], _ => by simp [kept, recsOf]
  | x :: l, hv => by
    have ih := kept_recs o l fun b hb => hv b (List.mem_cons_of_mem _ hb)
    have hx := hv x (by simp)
    have e : ∀ (z : BT) (k : List BT), recsOf (z :: k) = z.f5 ++ recsOf k := fun z k => by simp [recsOf]
    rw [kept, e, List.filter_append]
    by_cases c1 : lastOf x < o
    · rw [if_pos c1, e, ih]
      congr 1
      refine (List.filter_eq_self.2 fun r hr => ?_).symm
      obtain ⟨j, hj, rfl⟩ := List.getElem_of_mem hr
      have := rec_le hx j hj
      simp; omega
    · rw [if_neg c1]
      by_cases c2 : firstOf x < o
      · rw [if_pos c2, e, ih]
        rfl
      · rw [if_neg c2, ih]
        have : (x.f5.filter fun r => decide (r.f0 < o)) = [] := List.filter_eq_nil_iff.2 fun r hr => by
          obtain ⟨j, hj, rfl⟩ := List.getElem_of_mem hr
          have := rec_ge hx j hj
          simp; omega
        rw [this, List.nil_append]
theorem logCut_good {l : List BT} {o : Int} (h : (logCutV l o).2 = true) : logOk l = true ∧ (logCutV l o).1 = kept o l ∧ ∀ b ∈ l, ¬ lastOf b < o → firstOf b < o → cutGood b o = true := by
  unfold logCutV at h ⊢
  by_cases hv : logOk l = true
  · rw [if_pos hv] at h ⊢
    obtain ⟨h1, h2⟩ := lcut_kept o l [] h
    exact ⟨hv, by simpa using h1, h2⟩
  · rw [if_neg hv] at h
    simp at h
end Go.Proofs.YtbbboachakkgiaaDoor.Pu

namespace Go.Proofs.YtbbboachakkgiaaDoor.Pure
open Go.RowKit Go.Proofs.YtbbboachakkgiaaDoor.G Go.Proofs.YtbbboachakkgiaaDoorW.PrintWords Go.Proofs.YtbbboachakkgiaaDoorW.PrintLast Go.Proofs.YtbbboachakkgiaaDoorW.PrintMore Go.Proofs.YtbbboachakkgiaaDoor.Pu
set_option linter.unusedSimpArgs false
set_option linter.unusedVariables false
theorem logCut_loop (o : Int) (out : List BT) (all : List RT) (ha : all.length ≤ 48) (hs : ∀ r ∈ all, Lens r) (hv : logOk out = true) : ∀ d i, all.length - i = d → i ≤ all.length →
    Ev (fun k => laws_FnLogCut.l0 k o out (((all.take i).filter fun r => decide (r.f0 < o)).length : Nat) all (all.filter fun r => decide (r.f0 < o)) (i : Int)) true := by
  intro d
  induction d with
  | zero =>
    intro i hd hi
    refine Ev.step (fun k => by rw [laws_FnLogCut.l0]) ?_
    obtain rfl : i = all.length := by omega
    rw [List.take_length]
    simp only [if_neg (show ¬ (all.length : Int) < (all.length : Int) by omega), if_true, impl_LogValid.f, bindS, hv]
    exact Ev.now _
  | succ d ih =>
    intro i hd hi
    have hlt : i < all.length := by omega
    refine Ev.step (fun k => by rw [laws_FnLogCut.l0]) ?_
    have hT := ih (i + 1) (by omega) (by omega)
    rw [List.take_succ_eq_append_getElem hlt, List.filter_append] at hT
    have split_ : all.filter (fun r => decide (r.f0 < o)) = ((all.take i).filter fun r => decide (r.f0 < o)) ++ ((all.drop i).filter fun r => decide (r.f0 < o)) := by
      rw [← List.filter_append, List.take_append_drop]
    have hle : ((all.take i).filter fun r => decide (r.f0 < o)).length ≤ i := Nat.le_trans (List.length_filter_le _ _) (List.length_take_le _ _)
    simp only [if_pos (show (i : Int) < (all.length : Int) by omega), if_pos (show (0 : Int) ≤ (i : Int) by omega), rdR_nat all i hlt, w64 (a := (i : Int) + 1) (by omega) (by omega)]
    by_cases hc : all[i].f0 < o
    · simp only [if_pos hc]
      have hd2 : (all.drop i).filter (fun r => decide (r.f0 < o)) = all[i] :: ((all.drop (i + 1)).filter fun r => decide (r.f0 < o)) := by
        rw [List.drop_eq_getElem_cons hlt, List.filter_cons, if_pos (by simpa using hc)]
      have hlen : ((all.take i).filter fun r => decide (r.f0 < o)).length < (all.filter fun r => decide (r.f0 < o)).length := by
        rw [split_, hd2, List.length_append]
        simp
      have hget : (all.filter fun r => decide (r.f0 < o))[((all.take i).filter fun r => decide (r.f0 < o)).length]'hlen = all[i] := by
        simp only [split_, hd2]
        rw [List.getElem_append_right (Nat.le_refl _)]
        simp
      simp only [if_neg (show ¬ ((((all.take i).filter fun r => decide (r.f0 < o)).length : Nat) : Int) ≥ (((all.filter fun r => decide (r.f0 < o)).length : Nat) : Int) by omega), if_pos (show (0 : Int) ≤ ((((all.take i).filter fun r => decide (r.f0 < o)).length : Nat) : Int) by omega), if_pos (show ((((all.take i).filter fun r => decide (r.f0 < o)).length : Nat) : Int) < (((all.filter fun r => decide (r.f0 < o)).length : Nat) : Int) by omega), rdR_nat _ _ hlen, hget]
      refine Ev.bind (selfRecord all[i] (hs _ (List.getElem_mem hlt))) ?_
      simp only [if_true, w64 (a := ((((all.take i).filter fun r => decide (r.f0 < o)).length : Nat) : Int) + 1) (by omega) (by omega)]
      rw [show [all[i]].filter (fun r => decide (r.f0 < o)) = [all[i]] by simp [hc], List.length_append] at hT
      exact_mod_cast hT
    · simp only [if_neg hc]
      rw [show [all[i]].filter (fun r => decide (r.f0 < o)) = [] by simp [hc], List.append_nil] at hT
      exact_mod_cast hT
theorem FnLogCut : OFnLogCut.Pure := by
  intro l0 hl0 ho0
  refine EndsIn.rounds ?_
  unfold laws_FnLogCut.f
  have hr := fun x hx => u8_range (ho0 x hx)
  by_cases h : (l0.length : Int) > 1048576
  · simp only [if_pos h]
    exact EndsIn.now _ rfl
  · simp only [if_neg h]
    obtain ⟨c, hc, hok⟩ := open_some l0 hr
    unfold spec_DrawLogCut.f
    simp only [hc, bindS]
    refine EndsIn.bind (P := fun r => DrL r.1 ∧ 0 ≤ r.2 ∧ r.2 < 26) (drawLC_ends hok) fun q hq => ?_
    obtain ⟨l, o⟩ := q
    obtain ⟨dl, h0, h1⟩ := hq
    simp only at h0 h1
    have hB := logCut_row o (DrL.rowB dl)
    refine EndsIn.bind (P := fun r => r = logCutV l o) ⟨_, LogCut_ev l o, rfl⟩ fun r hr1 => ?_
    subst hr1
    refine EndsIn.bind (P := fun r => r = logCutV l o) ⟨_, sLogCut_ev l o, rfl⟩ fun r hr2 => ?_
    subst hr2
    simp only [bne_self_eq_false, Bool.false_eq_true, if_false]
    refine EndsIn.bind (P := fun r => r = true) ⟨_, selfLog _ hB, rfl⟩ fun r hr3 => ?_
    subst hr3
    simp only [if_true]
    refine EndsIn.step (fun k => by rw [laws_FnLogCut.j0]) ?_
    cases hk : (logCutV l o).2
    · simp only [Bool.not_false, if_true, beq_self_eq_true]
      refine EndsIn.bind (P := fun r => r = true) ⟨_, selfLog _ hB, rfl⟩ fun r hr4 => ?_
      subst hr4
      exact EndsIn.now _ rfl
    · simp only [Bool.not_true, Bool.false_eq_true, if_false]
      obtain ⟨hv, ek, hg⟩ := logCut_good hk
      have hko := kept_ok o hv hg
      rw [ek] at hB ⊢
      refine EndsIn.bind (P := fun r => r = recsOf l) ⟨_, allOf_ev l hv, rfl⟩ fun r hr5 => ?_
      subst hr5
      refine EndsIn.bind (P := fun r => r = (recsOf l).filter fun r => decide (r.f0 < o)) ⟨_, allOf_ev (kept o l) hko, kept_recs o l (logOk_mem hv)⟩ fun r hr6 => ?_
      subst hr6
      have hl := recsOf_all_len hv
      have hs : ∀ r ∈ recsOf l, Lens r := fun r hr => by
        obtain ⟨b, hb, hrb⟩ := List.mem_flatMap.1 hr
        exact ((DrL.rowB dl).2 b hb).2 r hrb
      have := logCut_loop o (kept o l) (recsOf l) hl hs hko (recsOf l).length 0 (by omega) (by omega)
      refine ⟨true, ?_, rfl⟩
      simpa using this
end Go.Proofs.YtbbboachakkgiaaDoor.Pure

namespace Go.Proofs.YtbbboachakkgiaaDoor.fnLogCut
open Go.ChangeShapes Go.WideShapes Go.ChangeAt Go.RowKit Go.Proofs.YtbbboachakkgiaaDoor.OFnLogCut Go.Proofs.YtbbboachakkgiaaDoor.G Go.Joins
open Go.ChangeMaps (open_string shut_string)
set_option linter.unusedVariables false
theorem own : ownKnob Tryd.prog.godebug = none := by kernel_rfl
theorem laidOut : laidOutB Tryd.prog = true := by kernel_rfl
theorem star : "*" ++ "errors.errorString" = "*errors.errorString" := by decide
theorem cellsE : Tryd.prog.cellsOf 174 = 1 := by kernel_rfl
theorem cellsS : Tryd.prog.cellsOf 9 = 1 := by kernel_rfl
theorem g0 : Tryd.prog.globalNamed "loop.example/recordbatches/impl.errNoCut" = some 1 := by kernel_rfl
theorem gT0 : (Tryd.prog.globals[1]?).map (·.type) = some 71 := by kernel_rfl
abbrev text0 : ByteArray := { data := #[110, 111, 32, 99, 117, 116] }
theorem rowE (u : TypeId) (h : Tryd.prog.typeName? 3 u = some "*errors.errorString") : u = 151 :=
  typeName_ptr_named (nm := "errors.errorString") (by rw [star]; kernel_rfl) (by kernel_rfl) (by decide) u (by rw [star]; exact h)
noncomputable def low : Nat := (World.holding Tryd.prog default ⟨#[], #[], []⟩).heap.size
noncomputable def laidWorld (os : Os) : World :=
  let w0 := World.holding Tryd.prog os ⟨#[.cells #[.string text0] 174], #[], []⟩
  { w0 with heap := (w0.heap.modify 1 fun | .cells _ t frozen => .cells #[.iface 151 (.pointer (some ⟨low + 0, 0, none⟩))] t frozen | o => o) }
theorem laid_met (os : Os) (args : Array Value) : laidMetH Tryd.prog Rows.fnLogCutRow.laid ((laidWorld os).forCall (fun _ _ => 0) ⟨#[], args, []⟩).memory :=
  laidMetH_of_parts (laidMet_of_run (ps := [.cell 1 0, .cell (low + 0) 0]) 8 (by kernel_rfl) (by kernel_rfl) (by kernel_rfl)) (by kernel_rfl)
set_option maxRecDepth 100000 in
theorem lifted (os : Os) (started : os.Started) (H : Type) (enc : TypeId × Value → H) :
    ReturnsInHanded {} Tryd.checked os 3 .any (fun w args => (Rows.fnLogCutSpec.pre enc Tryd.prog Tryd.f3 Rows.fnLogCutRow.domain false w args ∧ laidMetH Tryd.prog Rows.fnLogCutRow.laid w) ∧ sizedMet enc Tryd.prog Tryd.f3 (OpenSpec.ofChange Rows.fnLogCutSpec) false w args) (Rows.fnLogCutSpec.post enc Tryd.prog Tryd.f3 false true false false) := by
  refine returnsInHanded_of_change_and (C := Tryd.checked) (X := fun w _ => laidMetH Tryd.prog Rows.fnLogCutRow.laid w) (fun _ _ _ hh h => h.of_heap hh) own started (by kernel_rfl) Tryd.func3
    (ChangeSpec.witness_at (enc := enc) (C := Tryd.checked) (os := os) (X := fun w _ => laidMetH Tryd.prog Rows.fnLogCutRow.laid w) false (laidWorld os) #[.slice none 0 0] 8 rfl (by kernel_rfl) (by kernel_rfl) (by kernel_rfl) (by kernel_rfl) (by kernel_rfl) (laid_met os _)) ?_
  intro W base args ds gs before hval0 hW hcnd hsz0 hLL _
  have hsz : (DataW.weightsEach Tryd.prog (Tryd.f3.params.toList ++ Rows.fnLogCutSpec.plain.varTypes Tryd.prog) (ds ++ gs)).all (· ≤ reachBytes) = true := hsz0
  have hval : ∀ (j : Nat) t v, Tryd.f3.params[j]? = some t → args[j]? = some v → Value.okWide Tryd.prog W .any base t v := hval0
  have hW' := hW
  obtain ⟨p, q, hA0, hV, rfl, hfz, hnd⟩ := hW
  have hA : DataW.TrodAll enc Tryd.prog W 0 (fun _ => true) true Tryd.f3.params.toList args.toList ds p := hA0
  rw [Tryd.params3] at hA hval hsz
  obtain ⟨v0, vs0, d0, ds0, p0, q0, hargs, rfl, rfl, h0, r0⟩ := trodAll_cons hA
  obtain ⟨rfl, rfl, rfl⟩ := trodAll_nil r0
  obtain rfl : args = #[v0] := by cases args; simp_all
  have hL : laidMet Tryd.prog Rows.fnLogCutRow.laid W := hLL
  obtain ⟨b0, s0, hv0, hc0, hs0, hz0⟩ := laid_sentinel hL g0 gT0 Tryd.underlying71 rowE Tryd.underlying151 Tryd.underlying174 rfl rfl Tryd.underlying9 cellsE cellsS
  obtain ⟨rfl, rfl⟩ := hV.unique (vars_read1 enc g0 gT0 Tryd.underlying71 hv0 trivial _)
  have hg0 : W.cell? ⟨1, 0, none⟩ = some (.iface 151 (.pointer (some b0))) := by simpa using World.var?_cell g0 hv0 0
  obtain ⟨a0, len0, cap0, rfl⟩ := okWide_slice Tryd.underlying22 (hval 0 22 v0 rfl rfl)
  have k0 := h0
  have lt0 : ∀ x ∈ p0, x.block < W.heap.size := by obtain ⟨m, hm⟩ := k0; exact DataW.trod_lt m _ _ _ hm
  obtain ⟨fuel0, hf0⟩ := h0
  obtain ⟨A0, c0, l0, hcs0, hlc0, hm0, hC0, ho0⟩ := Rd.opens_row Tryd.underlying22 (Rd.opens_int Tryd.underlying5 (by kernel_rfl)) hf0
  simp [Value.cells] at hcs0
  obtain ⟨rfl, rfl, rfl⟩ := hcs0
  clear hA0 hval0 hsz0 hsz
  obtain ⟨k, h⟩ := Pure.FnLogCut l0 (Nat.le_trans hlc0 hm0) ho0
  letI : ErrA := ⟨fun n => b0⟩
  have hE : ErrOk [1] W := fun g hg => by
    have hg' : g = 1 := by simpa using hg
    rcases hg' with rfl
    · exact hg0
  refine (laws_FnLogCut.calls k _ _ l0 true W hE hC0 hlc0 h).mono fun e W' ⟨he, bel0⟩ => ?_
  subst he
  have bel : Below W.heap.size W W' := bel0
  have hw0 : W'.var? Tryd.prog "loop.example/recordbatches/impl.errNoCut" = some #[.iface 151 (.pointer (some b0))] := var?_below bel g0 (World.block_lt_of_cell? W _ hg0) hv0
  exact ⟨_, rfl, _, _, _, [], _, _, hW', trodAll_mk1 (shut_bool Tryd.underlying4 _), (trodAll_cons_mk (Below.trod laidOut (by kernel_rfl) (of_decide_eq_true (by kernel_rfl)) k0 bel lt0) trodAll_mk0), vars_read1 enc g0 gT0 Tryd.underlying71 hw0 trivial _, bel.frame _, fun h => by cases h⟩
theorem over : Rows.fnLogCutRow.holds Tryd.pinned (OpenSpec.ofChange Rows.fnLogCutSpec) :=
  OpenClaim.holds_of_wide 3 Tryd.f3 rfl rfl rfl rfl rfl rfl rfl ⟨rfl, rfl, rfl, rfl, rfl⟩ rfl rfl rfl rfl rfl (by kernel_rfl) Tryd.func3 (by kernel_rfl)
    (of_decide_eq_true (by kernel_rfl)) (by unfold Func.isWrapper; first | (rw [if_pos (by decide +kernel)]; kernel_rfl) | (rw [if_neg (by decide +kernel)]; exact ⟨rfl, rfl⟩))
    (fun os started H enc _ => lifted os started H enc)
theorem proved : Rows.FnLogCutSaid := over
#print axioms proved
end Go.Proofs.YtbbboachakkgiaaDoor.fnLogCut
namespace Go.Proofs.YtbbboachakkgiaaDoor
/-- The row, under a short name, for the claim. -/
theorem fnLogCut_holds : Rows.FnLogCutSaid := fnLogCut.proved
theorem fnLogCut_card : Rows.FnLogCutCardSaid :=
  Claim7.holds_tied_plain_at .later [] [.sentinel] true (true, "2e05aa95766e6917fe95301784a47f45e0e7b4b4973cc25155ec255d9f160fba") true
    fnLogCut_holds (fun _ h => by cases h) (by kernel_rfl) (fun _ h => by cases h) fnLogCut_row_tie rfl ⟨rfl, rfl⟩ (by kernel_rfl) rfl
    (fun f fn hf hfn => by
      obtain rfl : f = 3 := Option.some.inj ((show Tryd.prog.funcNamed "loop.example/recordbatches/laws.FnLogCut" = some 3 by kernel_rfl).symm.trans hf) |>.symm
      obtain rfl : fn = Tryd.f3 := (Option.some.inj (Tryd.func3.symm.trans hfn)).symm
      exact ⟨by kernel_rfl, fun j t ht => by
        rw [Tryd.params3] at ht
        have h3 : t = 22 := by
          rcases j with _ | j
          · have h_ := ht.symm; simp at h_; simp [h_]
          · simp at ht
        rcases h3 with rfl
        · exact (show Tryd.prog.wantsStandIn 22 = false by kernel_rfl)⟩)
    (by kernel_rfl)
#print axioms fnLogCut_card
end Go.Proofs.YtbbboachakkgiaaDoor

