/- A text of seat Ytlkbjipndlmjgaa: what the law FnExactGroupsLeft needs of this repo's texts (by pack.py). Not trusted: Lean checks it. -/
import Derived.Test.YtlkbjipndlmjgaaKFnExactGroupsLeft9
import Derived.Test.YtlkbjipndlmjgaaRows
import Derived.WalkKit
import Derived.ProofKit
import Derived.OpenShut
import Derived.ShutString
import Derived.ChangeOld
import Derived.Below
import Derived.SizedLaws
import Derived.Lib.SmallJoins
import Derived.Laws.StructEq
import Derived.ChangeSlices
namespace Go.Proofs.Ytlkbjipndlmjgaa.Pu
open Go.RowKit Go.Proofs.YtlkbjipndlmjgaaW.PrintWords Go.Proofs.YtlkbjipndlmjgaaW.PrintLast Go.Proofs.Ytlkbjipndlmjgaa.G
set_option linter.unusedVariables false
set_option linter.unusedSimpArgs false
def low (c : UInt8) : Bool := decide (97 ≤ c.toNat) && decide (c.toNat ≤ 122)
def word (s : ByteArray) (most : Int) : Bool := (decide (1 ≤ s.size) && decide ((s.size : Int) ≤ most)) && s.data.toList.all low
def gOk (g : S31) : Bool := word g.f0 6 && (decide (0 ≤ g.f1) && decide (g.f1 ≤ 100000))
theorem drop_cons_get {α : Type} (l : List α) (i : Nat) (h : i < l.length) : l.drop i = l[i] :: l.drop (i + 1) := by simp
theorem bt_low (s : ByteArray) (i : Nat) (h : i < s.size) : low (s.data.toList[i]'(by simpa using h)) = (decide (¬ bt s (i : Int) < 97) && decide (¬ bt s (i : Int) > 122)) := by
  rw [bt_get s i h]
  unfold low
  congr 1
  · simp only [decide_eq_decide]; omega
  · simp only [decide_eq_decide]; omega
theorem letters_loop (s : ByteArray) (hs : s.size ≤ 9223372036854775807) : ∀ d i, s.size - i = d → Ev (fun k => impl_letters.l0 k s (s.size : Int) (i : Int)) ((s.data.toList.drop i).all low) := by
  intro d
  induction d with
  | zero =>
    intro i hi
    refine Ev.step (fun k => by rw [impl_letters.l0]) ?_
    rw [List.drop_of_length_le (by rw [data_len]; omega)]
    simp only [if_neg (show ¬ ((i : Int) < (s.size : Int)) by omega)]
    exact Ev.now _
  | succ d ih =>
    intro i hi
    have hlt : i < s.size := by omega
    refine Ev.step (fun k => by rw [impl_letters.l0]) ?_
    simp only [if_pos (show ((i : Int) < (s.size : Int)) by omega), if_pos (show (0 : Int) ≤ (i : Int) by omega)]
    rw [drop_cons_get _ i (by rw [data_len]; exact hlt), List.all_cons, bt_low s i hlt]
    by_cases h1 : bt s (i : Int) < 97
    · simp only [if_pos h1, h1]
      exact Ev.now _
    · by_cases h2 : bt s (i : Int) > 122
      · simp only [if_neg h1, if_pos h2, h1, h2]
        exact Ev.now _
      · simp only [if_neg h1, if_neg h2, w64 (a := (i : Int) + 1) (by omega) (by omega)]
        have := ih (i + 1) (by omega)
        simpa [h1, h2] using this
theorem letters_ev (s : ByteArray) (most : Int) (hs : s.size ≤ 9223372036854775807) : Ev (fun k => impl_letters.f k s most) (word s most) := by
  unfold impl_letters.f word
  by_cases h0 : (s.size : Int) < 1
  · simp only [if_pos h0]
    refine Ev.step (fun k => by rw [impl_letters.j0]) ?_
    rw [show decide (1 ≤ s.size) = false from decide_eq_false (by omega)]
    exact Ev.now _
  · simp only [if_neg h0]
    refine Ev.step (fun k => by rw [impl_letters.j0]) ?_
    rw [show decide (1 ≤ s.size) = true from decide_eq_true (by omega)]
    by_cases h1 : (s.size : Int) > most
    · simp only [h1, decide_true, if_true]
      rw [show decide ((s.size : Int) ≤ most) = false from decide_eq_false (by omega)]
      exact Ev.now _
    · simp only [h1, decide_false]
      rw [show decide ((s.size : Int) ≤ most) = true from decide_eq_true (by omega)]
      have := letters_loop s hs s.size 0 (by omega)
      simpa using this
theorem groupValid_ev (g : S31) (hs : g.f0.size ≤ 9223372036854775807) : Ev (fun k => impl_groupValid.f k g.f0 g.f1) (gOk g) := by
  unfold impl_groupValid.f gOk
  refine Ev.bind (letters_ev _ _ hs) ?_
  cases word g.f0 6
  · exact Ev.now _
  · simp only [if_true]
    unfold impl_within.f
    by_cases h : g.f1 ≥ 0
    · simp only [if_pos h, Option.bind_some]
      rw [show decide (0 ≤ g.f1) = true from decide_eq_true h]
      exact Ev.now _
    · simp only [if_neg h, Option.bind_some]
      rw [show decide (0 ≤ g.f1) = false from decide_eq_false h]
      exact Ev.now _
theorem l6In_some (a b c : Int) : spec_l6In.f a b c = some (decide (b ≤ a) && decide (a ≤ c)) := by
  unfold spec_l6In.f
  by_cases h : a ≥ b
  · rw [if_pos h, show decide (b ≤ a) = true from decide_eq_true h]; rfl
  · rw [if_neg h, show decide (b ≤ a) = false from decide_eq_false h]; rfl
theorem group_loop (g : S31) (hs : g.f0.size ≤ 9223372036854775807) : ∀ d i, g.f0.size - i = d → Ev (fun k => spec_l32Group.l0 k (i : Int) g.f0 g.f1) ((g.f0.data.toList.drop i).all low && ((decide (1 ≤ g.f0.size) && decide ((g.f0.size : Int) ≤ 6)) && (decide (0 ≤ g.f1) && decide (g.f1 ≤ 100000)))) := by
  intro d
  induction d with
  | zero =>
    intro i hi
    refine Ev.step (fun k => by rw [spec_l32Group.l0]) ?_
    rw [List.drop_of_length_le (by rw [data_len]; omega)]
    simp only [if_neg (show ¬ ((i : Int) < (g.f0.size : Int)) by omega), l6In_some, Option.bind_some]
    rw [show decide ((1 : Int) ≤ (g.f0.size : Int)) = decide (1 ≤ g.f0.size) from decide_eq_decide.2 (by omega)]
    cases (decide (1 ≤ g.f0.size) && decide ((g.f0.size : Int) ≤ 6))
    · exact Ev.now _
    · exact Ev.now _
  | succ d ih =>
    intro i hi
    have hlt : i < g.f0.size := by omega
    refine Ev.step (fun k => by rw [spec_l32Group.l0]) ?_
    simp only [if_pos (show ((i : Int) < (g.f0.size : Int)) by omega), if_pos (show (0 : Int) ≤ (i : Int) by omega)]
    rw [drop_cons_get _ i (by rw [data_len]; exact hlt), List.all_cons, bt_low g.f0 i hlt]
    by_cases h1 : bt g.f0 (i : Int) < 97
    · simp only [if_pos h1, h1]
      exact Ev.now _
    · by_cases h2 : bt g.f0 (i : Int) > 122
      · simp only [if_neg h1, if_pos h2, h1, h2]
        exact Ev.now _
      · simp only [if_neg h1, if_neg h2, w64 (a := (i : Int) + 1) (by omega) (by omega)]
        have := ih (i + 1) (by omega)
        simpa [h1, h2] using this
theorem l32Group_ev (g : S31) (hs : g.f0.size ≤ 9223372036854775807) : Ev (fun k => spec_l32Group.f k g.f0 g.f1) (gOk g) := by
  have := group_loop g hs g.f0.size 0 (by omega)
  unfold spec_l32Group.f gOk word
  rw [List.drop_zero] at this
  have e : ∀ a b c : Bool, (a && (b && c)) = ((b && a) && c) := by decide
  rw [e] at this
  exact this
/-- Valid from place i on, each behind the one ahead of it. -/
def gsFrom (prev : Option S31) : List S31 → Bool
  | [] => true
  | g :: l => gOk g && ((match prev with | none => true | some p => Op.bytesLess p.f0.toList g.f0.toList) && gsFrom (some g) l)
def gsOk (l : List S31) : Bool := gsFrom none l && decide (l.length ≤ 8)
theorem rd_nat (l : List S31) (i : Nat) (h : i < l.length) : rd_T31 l (i : Int) = l[i] := by
  unfold rd_T31
  simp [h]
def prevOf (l : List S31) (i : Nat) : Option S31 := if i = 0 then none else l[i - 1]?
theorem valid_loop (l : List S31) (hl : l.length ≤ 9223372036854775807) (hs : ∀ g ∈ l, g.f0.size ≤ 9223372036854775807) : ∀ d i, l.length - i = d → Ev (fun k => impl_GroupsValid.l0 k l l (l.length : Int) (i : Int)) (gsFrom (prevOf l i) (l.drop i)) := by
  intro d
  induction d with
  | zero =>
    intro i hi
    refine Ev.step (fun k => by rw [impl_GroupsValid.l0]) ?_
    rw [List.drop_of_length_le (by omega)]
    simp only [if_neg (show ¬ ((i : Int) < (l.length : Int)) by omega)]
    exact Ev.now _
  | succ d ih =>
    intro i hi
    have hlt : i < l.length := by omega
    refine Ev.step (fun k => by rw [impl_GroupsValid.l0]) ?_
    simp only [if_pos (show ((i : Int) < (l.length : Int)) by omega), if_pos (show (0 : Int) ≤ (i : Int) by omega)]
    rw [drop_cons_get _ i hlt, rd_nat l i hlt]
    refine Ev.bind (groupValid_ev _ (hs _ (List.getElem_mem _))) ?_
    unfold gsFrom
    have hn := ih (i + 1) (by omega)
    rw [show prevOf l (i + 1) = some l[i] by unfold prevOf; simp [hlt]] at hn
    cases gOk l[i]
    · exact Ev.now _
    · simp only [if_true, Bool.true_and, w64 (a := (i : Int) + 1) (by omega) (by omega)]
      rcases Nat.eq_zero_or_pos i with h0 | h0
      · subst h0
        simp only [if_neg (show ¬ (((0 : Nat) : Int) > 0) by omega)]
        unfold prevOf
        simpa using hn
      · have hp : prevOf l i = some l[i - 1] := by
          unfold prevOf
          rw [if_neg (by omega)]
          simp [show i - 1 < l.length by omega]
        rw [hp]
        simp only [if_pos (show ((i : Int) > 0) by omega), w64 (a := (i : Int) - 1) (by omega) (by omega), if_pos (show (0 : Int) ≤ (i : Int) - 1 by omega), if_pos (show ((i : Int) - 1) < (l.length : Int) by omega)]
        rw [show ((i : Int) - 1) = ((i - 1 : Nat) : Int) by omega, rd_nat l (i - 1) (by omega)]
        cases Op.bytesLess l[i - 1].f0.toList l[i].f0.toList
        · exact Ev.now _
        · simpa using hn
theorem valid_ev (l : List S31) (hl : l.length ≤ 9223372036854775807) (hs : ∀ g ∈ l, g.f0.size ≤ 9223372036854775807) : Ev (fun k => impl_GroupsValid.f k l) (gsOk l) := by
  unfold impl_GroupsValid.f gsOk
  by_cases h : (l.length : Int) > 8
  · simp only [if_pos h]
    rw [show decide (l.length ≤ 8) = false from decide_eq_false (by omega), Bool.and_false]
    exact Ev.now _
  · simp only [if_neg h]
    rw [show decide (l.length ≤ 8) = true from decide_eq_true (by omega), Bool.and_true]
    have := valid_loop l hl hs l.length 0 (by omega)
    simpa [prevOf] using this
theorem svalid_loop (l : List S31) (hl : l.length ≤ 9223372036854775807) (hs : ∀ g ∈ l, g.f0.size ≤ 9223372036854775807) : ∀ d i, l.length - i = d → Ev (fun k => spec_GroupsValid.l0 k l (i : Int)) (gsFrom (prevOf l i) (l.drop i) && decide (l.length ≤ 8)) := by
  intro d
  induction d with
  | zero =>
    intro i hi
    refine Ev.step (fun k => by rw [spec_GroupsValid.l0]) ?_
    rw [List.drop_of_length_le (by omega)]
    simp only [if_neg (show ¬ ((i : Int) < (l.length : Int)) by omega)]
    rw [show decide ((l.length : Int) ≤ 8) = decide (l.length ≤ 8) from decide_eq_decide.2 (by omega)]
    exact Ev.now _
  | succ d ih =>
    intro i hi
    have hlt : i < l.length := by omega
    refine Ev.step (fun k => by rw [spec_GroupsValid.l0]) ?_
    simp only [if_pos (show ((i : Int) < (l.length : Int)) by omega), if_pos (show (0 : Int) ≤ (i : Int) by omega)]
    rw [drop_cons_get _ i hlt, rd_nat l i hlt]
    refine Ev.bind (l32Group_ev _ (hs _ (List.getElem_mem _))) ?_
    unfold gsFrom
    have hn := ih (i + 1) (by omega)
    rw [show prevOf l (i + 1) = some l[i] by unfold prevOf; simp [hlt]] at hn
    cases gOk l[i]
    · exact Ev.now _
    · simp only [if_true, Bool.true_and, w64 (a := (i : Int) + 1) (by omega) (by omega)]
      rcases Nat.eq_zero_or_pos i with h0 | h0
      · subst h0
        simp only [if_neg (show ¬ (((0 : Nat) : Int) > 0) by omega)]
        unfold prevOf
        simpa using hn
      · have hp : prevOf l i = some l[i - 1] := by
          unfold prevOf
          rw [if_neg (by omega)]
          simp [show i - 1 < l.length by omega]
        rw [hp]
        simp only [if_pos (show ((i : Int) > 0) by omega), w64 (a := (i : Int) - 1) (by omega) (by omega), if_pos (show (0 : Int) ≤ (i : Int) - 1 by omega), if_pos (show ((i : Int) - 1) < (l.length : Int) by omega)]
        rw [show ((i : Int) - 1) = ((i - 1 : Nat) : Int) by omega, rd_nat l (i - 1) (by omega)]
        cases Op.bytesLess l[i - 1].f0.toList l[i].f0.toList
        · exact Ev.now _
        · simpa using hn
theorem svalid_ev (l : List S31) (hl : l.length ≤ 9223372036854775807) (hs : ∀ g ∈ l, g.f0.size ≤ 9223372036854775807) : Ev (fun k => spec_GroupsValid.f k l) (gsOk l) := by
  unfold spec_GroupsValid.f gsOk
  have := svalid_loop l hl hs l.length 0 (by omega)
  simpa [prevOf] using this
end Go.Proofs.Ytlkbjipndlmjgaa.Pu

namespace Go.Proofs.Ytlkbjipndlmjgaa.Pu
open Go.RowKit Go.Proofs.YtlkbjipndlmjgaaW.PrintWords Go.Proofs.YtlkbjipndlmjgaaW.PrintLast Go.Proofs.YtlkbjipndlmjgaaW.PrintMore Go.Proofs.Ytlkbjipndlmjgaa.G
set_option linter.unusedVariables false
set_option linter.unusedSimpArgs false
theorem lenG_ok {l : List S56} (h : logOk l = true) : lenG l = true := by
  unfold lenG
  simp only [Bool.and_eq_true, decide_eq_true_eq, List.all_eq_true]
  have := logOk_len h
  refine ⟨by omega, fun b hb => ?_⟩
  obtain ⟨i, hi, rfl⟩ := List.getElem_of_mem hb
  have := batOk_len (logOk_bat h i hi)
  omega
def recsOf (l : List S56) : List S34 := l.flatMap fun b => b.f5
theorem recsOf_allP (l : List S56) : (allP l).map (fun x => x.2) = recsOf l := by
  unfold allP recsOf
  rw [List.map_flatMap]
  congr 1
  funext b
  rw [List.map_map]
  exact List.map_id _
def cntR (n : Int) (l : List S34) : Nat := (l.filter fun r => decide (n ≤ r.f0)).length
theorem cntR_allP (n : Int) (l : List S56) : leftN n (allP l) = cntR n (recsOf l) := by
  unfold leftN cntR
  rw [← recsOf_allP, List.filter_map, List.length_map]
  rfl
theorem cntR_cons (n : Int) (r : S34) (l : List S34) : cntR n (r :: l) = (if n ≤ r.f0 then 1 else 0) + cntR n l := by
  unfold cntR
  rw [List.filter_cons]
  by_cases h : n ≤ r.f0
  · rw [if_pos (decide_eq_true h), if_pos h, List.length_cons, Nat.add_comm]
  · rw [if_neg (by simpa using h), if_neg h, Nat.zero_add]
theorem recsOf_len {l : List S56} (h : logOk l = true) : ∀ i, (recsOf (l.take i)).length ≤ 6 * i := by
  intro i
  have key : ∀ (m : List S56), (∀ b ∈ m, b.f5.length ≤ 6) → (recsOf m).length ≤ 6 * m.length := by
    intro m
    induction m with
    | nil => intro _; simp [recsOf]
    | cons b m ih =>
      intro hm
      have h1 := ih fun x hx => hm x (List.mem_cons_of_mem _ hx)
      have h2 := hm b (List.mem_cons_self ..)
      unfold recsOf at h1 ⊢
      rw [List.flatMap_cons, List.length_append, List.length_cons]
      omega
  have h1 := key (l.take i) (fun b hb => by
    obtain ⟨j, hj, rfl⟩ := List.getElem_of_mem (List.mem_of_mem_take hb)
    exact (batOk_len (logOk_bat h j hj)).2)
  have h2 : (l.take i).length ≤ i := List.length_take_le _ _
  omega
theorem recsOf_all_len {l : List S56} (h : logOk l = true) : (recsOf l).length ≤ 48 := by
  have h1 := recsOf_len h l.length
  rw [List.take_length] at h1
  have := logOk_len h
  omega
/-- A loop that gathers all records. -/
theorem gather_ev (l : List S56) (h : logOk l = true) (L : Nat → List S34 → Int → Option (List S34))
    (hend : ∀ k m, L (k + 1) m (l.length : Int) = some m)
    (hstep : ∀ k m (i : Nat) (hi : i < l.length), m.length + l[i].f5.length < 1759218604441 → L (k + 1) m (i : Int) = L k (m ++ l[i].f5) ((i : Int) + 1)) : Ev (fun k => L k [] 0) (recsOf l) := by
  have hl := logOk_len h
  have key : ∀ d i, l.length - i = d → i ≤ l.length → Ev (fun k => L k (recsOf (l.take i)) (i : Int)) (recsOf l) := by
    intro d
    induction d with
    | zero =>
      intro i hd hi
      obtain rfl : i = l.length := by omega
      refine Ev.step (fun k => hend k _) ?_
      rw [List.take_length]
      exact Ev.now _
    | succ d ih =>
      intro i hd hi
      have hlt : i < l.length := by omega
      have h1 := recsOf_len h i
      have h2 := (batOk_len (logOk_bat h i hlt)).2
      refine Ev.step (fun k => hstep k _ i hlt (by omega)) ?_
      have e : recsOf (l.take i) ++ l[i].f5 = recsOf (l.take (i + 1)) := by
        unfold recsOf
        rw [List.take_succ_eq_append_getElem hlt, List.flatMap_append]
        simp
      rw [e]
      exact_mod_cast ih (i + 1) (by omega) (by omega)
  have := key l.length 0 (by omega) (by omega)
  simpa [recsOf] using this
theorem l14All_ev (l : List S56) (h : logOk l = true) : Ev (fun k => spec_l14All.f k l) (recsOf l) := by
  unfold spec_l14All.f
  have hl := logOk_len h
  exact gather_ev l h (fun k m i => spec_l14All.l0 k l m i)
    (fun k m => by simp only [spec_l14All.l0]; rw [if_neg (by omega)])
    (fun k m i hi hm => by simp only [spec_l14All.l0]; rw [if_pos (by omega), if_pos (by omega), rdB_nat l i hi, if_pos hm, w64 (by omega) (by omega)])
theorem rdG_nat' (l : List S31) (i : Nat) (h : i < l.length) : rd_T31 l (i : Int) = l[i] := by
  unfold rd_T31
  simp [h]
def findV (s : ByteArray) (R : List S34) (l0 : List S31) : Int := match l0.find? (fun g => decide (g.f0 = s)) with | some g => (cntR g.f1 R : Int) | none => -1
theorem findV_leftV (s : ByteArray) (l0 : List S31) (l : List S56) : leftV l0 s l = findV s (recsOf l) l0 := by
  unfold leftV findV
  cases l0.find? (fun g => decide (g.f0 = s)) with
  | none => rfl
  | some g => simp only [cntR_allP]
theorem sleft_cnt (l0 : List S31) (R : List S34) (hR : R.length ≤ 1000) (i : Nat) (hi : i < l0.length) : ∀ d j (c : Nat), R.length - j = d → j ≤ R.length → c ≤ j →
    Ev (fun k => spec_GroupsLeft.l1 k l0 R (i : Int) (c : Int) (j : Int)) ((c + cntR l0[i].f1 (R.drop j) : Nat) : Int) := by
  intro d
  induction d with
  | zero =>
    intro j c hd hj hc
    refine Ev.step (fun k => by rw [spec_GroupsLeft.l1]) ?_
    simp only [if_neg (show ¬ (j : Int) < (R.length : Int) by omega)]
    rw [List.drop_of_length_le (by omega)]
    exact Ev.now _
  | succ d ih =>
    intro j c hd hj hc
    have hlt : j < R.length := by omega
    refine Ev.step (fun k => by rw [spec_GroupsLeft.l1]) ?_
    simp only [if_pos (show (j : Int) < (R.length : Int) by omega), if_pos (show (0 : Int) ≤ (j : Int) by omega), if_pos (show (0 : Int) ≤ (i : Int) by omega), if_pos (show (i : Int) < (l0.length : Int) by omega), rdR_nat R j hlt, rdG_nat' l0 i hi, w64 (a := (j : Int) + 1) (by omega) (by omega), w64 (a := (c : Int) + 1) (by omega) (by omega)]
    rw [List.drop_eq_getElem_cons hlt, cntR_cons]
    by_cases h : R[j].f0 ≥ l0[i].f1
    · simp only [if_pos h]
      have := ih (j + 1) (c + 1) (by omega) (by omega) (by omega)
      rw [show c + (1 + cntR l0[i].f1 (R.drop (j + 1))) = c + 1 + cntR l0[i].f1 (R.drop (j + 1)) by omega]
      exact_mod_cast this
    · simp only [if_neg h]
      have := ih (j + 1) c (by omega) (by omega) (by omega)
      rw [Nat.zero_add]
      exact_mod_cast this
theorem sleft_loop (l0 : List S31) (s : ByteArray) (R : List S34) (hR : R.length ≤ 1000) (hl0 : l0.length ≤ 1000) : ∀ d i, l0.length - i = d → i ≤ l0.length →
    Ev (fun k => spec_GroupsLeft.l0 k l0 s R (i : Int)) (findV s R (l0.drop i)) := by
  intro d
  induction d with
  | zero =>
    intro i hd hi
    refine Ev.step (fun k => by rw [spec_GroupsLeft.l0]) ?_
    simp only [if_neg (show ¬ (i : Int) < (l0.length : Int) by omega)]
    rw [List.drop_of_length_le (by omega)]
    exact Ev.now _
  | succ d ih =>
    intro i hd hi
    have hlt : i < l0.length := by omega
    refine Ev.step (fun k => by rw [spec_GroupsLeft.l0]) ?_
    simp only [if_pos (show (i : Int) < (l0.length : Int) by omega), if_pos (show (0 : Int) ≤ (i : Int) by omega), rdG_nat' l0 i hlt, w64 (a := (i : Int) + 1) (by omega) (by omega)]
    rw [List.drop_eq_getElem_cons hlt]
    unfold findV
    by_cases h : l0[i].f0 = s
    · simp only [if_pos (show l0[i].f0.toList = s.toList by rw [h]), List.find?_cons, decide_eq_true h]
      have := sleft_cnt l0 R hR i hlt R.length 0 0 (by omega) (by omega) (by omega)
      simpa using this
    · simp only [if_neg (show ¬ l0[i].f0.toList = s.toList from fun e => h (ba_ext e)), List.find?_cons, decide_eq_false h]
      exact ih (i + 1) (by omega) (by omega)
def gleftV (l0 : List S31) (s : ByteArray) (l : List S56) : Int := if (gsOk l0 && logOk l) = true then findV s (recsOf l) l0 else -1
theorem gsOk_len {l : List S31} (h : gsOk l = true) : l.length ≤ 8 := by
  unfold gsOk at h
  simp only [Bool.and_eq_true, decide_eq_true_eq] at h
  omega
theorem GroupsLeft_ev (l0 : List S31) (s : ByteArray) (l : List S56) (hl : l0.length ≤ 9223372036854775807) (hs : ∀ g ∈ l0, g.f0.size ≤ 9223372036854775807) (hb : RowB l) : Ev (fun k => impl_GroupsLeft.f k l0 s l) (gleftV l0 s l) := by
  unfold impl_GroupsLeft.f gleftV
  refine Ev.bind (valid_ev l0 hl hs) ?_
  cases hg : gsOk l0
  · simp only [Bool.false_eq_true, if_false, Bool.false_and]
    exact Ev.now _
  · simp only [if_true, Bool.true_and]
    refine Ev.bind (LogValid_ev l hb) ?_
    cases hv : logOk l
    · exact Ev.now _
    · have := gsOk_len hg
      simp only [if_true, lenG_ok hv, decide_eq_true (show l0.length ≤ 100 by omega), Bool.and_self, findV_leftV]
      exact Ev.now _
theorem sGroupsLeft_ev (l0 : List S31) (s : ByteArray) (l : List S56) (hl : l0.length ≤ 9223372036854775807) (hs : ∀ g ∈ l0, g.f0.size ≤ 9223372036854775807) (hb : RowB l) : Ev (fun k => spec_GroupsLeft.f k l0 s l) (gleftV l0 s l) := by
  have bad : Ev (fun k => spec_GroupsLeft.j0 k l0 s l true) (-1) := by
    refine Ev.step (fun k => by rw [spec_GroupsLeft.j0]) ?_
    simp only [if_true]
    exact Ev.now _
  unfold spec_GroupsLeft.f gleftV
  refine Ev.bind (svalid_ev l0 hl hs) ?_
  cases hg : gsOk l0
  · simp only [Bool.false_eq_true, if_false, Bool.false_and]
    exact bad
  · simp only [if_true, Bool.true_and]
    refine Ev.bind (sLogValid_ev l hb) ?_
    cases hv : logOk l
    · exact bad
    · simp only [if_true, Bool.not_true]
      refine Ev.step (fun k => by rw [spec_GroupsLeft.j0]) ?_
      simp only [Bool.false_eq_true, if_false]
      refine Ev.bind (l14All_ev l hv) ?_
      have h1 := recsOf_all_len hv
      have h2 := gsOk_len hg
      have := sleft_loop l0 s (recsOf l) (by omega) (by omega) l0.length 0 (by omega) (by omega)
      simpa using this
end Go.Proofs.Ytlkbjipndlmjgaa.Pu

namespace Go.Proofs.Ytlkbjipndlmjgaa.Pu
open Go.RowKit Go.Proofs.YtlkbjipndlmjgaaW.PrintWords Go.Proofs.YtlkbjipndlmjgaaW.PrintLast Go.Proofs.Ytlkbjipndlmjgaa.G
set_option linter.unusedVariables false
set_option linter.unusedSimpArgs false
def cvG (g : S58) : S31 := ⟨g.f0, g.f1⟩
theorem rdL_nat (l : List S58) (i : Nat) (h : i < l.length) : rd_T58 l (i : Int) = l[i] := by
  unfold rd_T58
  simp [h]
theorem szGroup_some (s : ByteArray) (n a : Int) (hs : s.size ≤ 9223372036854775807) (ha : 0 ≤ a) (ha2 : a ≤ 1048576) :
    laws_szGroup.f s n a = some (if a - (s.size : Int) < 0 then -1 else a - (s.size : Int)) := by
  unfold laws_szGroup.f
  rw [w64 (a := a - (s.size : Int)) (by omega) (by omega)]
  split <;> rfl
theorem szGroupS_loop (l : List S58) (hl : l.length ≤ 9223372036854775807) (hs : ∀ g ∈ l, g.f0.size ≤ 9223372036854775807) : ∀ d i (a : Int), l.length - i = d → 0 ≤ a → a ≤ 1048576 →
    EndsIn (fun k => laws_szGroupS.l0 k l a (i : Int)) (fun r => r < 0 ∨ (0 ≤ r ∧ r ≤ a) ∧ ∀ g ∈ l.drop i, g.f0.size ≤ 1048576) := by
  intro d
  induction d with
  | zero =>
    intro i a hi h0 h1
    refine EndsIn.step (fun k => by rw [laws_szGroupS.l0]) ?_
    simp only [if_neg (show ¬ ((i : Int) < (l.length : Int)) by omega)]
    refine EndsIn.now _ (.inr ⟨⟨h0, Int.le_refl _⟩, ?_⟩)
    rw [List.drop_of_length_le (by omega)]
    simp
  | succ d ih =>
    intro i a hi h0 h1
    have hlt : i < l.length := by omega
    refine EndsIn.step (fun k => by rw [laws_szGroupS.l0]) ?_
    simp only [if_pos (show ((i : Int) < (l.length : Int)) by omega), if_pos (show (0 : Int) ≤ (i : Int) by omega), rdL_nat l i hlt, szGroup_some _ _ a (hs _ (List.getElem_mem hlt)) h0 h1, Option.bind_some, w64 (a := (i : Int) + 1) (by omega) (by omega)]
    by_cases h : a - (l[i].f0.size : Int) < 0
    · simp only [if_pos h, if_pos (show (-1 : Int) < 0 by omega)]
      exact EndsIn.now _ (.inl (by omega))
    · simp only [if_neg h]
      refine (ih (i + 1) (a - l[i].f0.size) (by omega) (by omega) (by omega)).mono fun r hr => ?_
      rcases hr with hr | ⟨hb, hr⟩
      · exact .inl hr
      · refine .inr ⟨by omega, ?_⟩
        rw [drop_cons_get l i hlt]
        intro g hg
        rcases List.mem_cons.1 hg with rfl | hg
        · omega
        · exact hr g hg
theorem szGroupS_ends2 (l : List S58) (hl : l.length ≤ 9223372036854775807) (hs : ∀ g ∈ l, g.f0.size ≤ 9223372036854775807) (a : Int) (h0 : 0 ≤ a) (h1 : a ≤ 1048576) :
    EndsIn (fun k => laws_szGroupS.f k l a) (fun r => r < 0 ∨ ((0 ≤ r ∧ r ≤ a) ∧ l.length ≤ 1048576 ∧ ∀ g ∈ l, g.f0.size ≤ 1048576)) := by
  unfold laws_szGroupS.f
  rw [w64 (a := a - (l.length : Int)) (by omega) (by omega)]
  by_cases h : a - (l.length : Int) < 0
  · simp only [if_pos h]
    exact EndsIn.now _ (.inl (by omega))
  · simp only [if_neg h]
    refine (szGroupS_loop l hl hs l.length 0 _ (by omega) (by omega) (by omega)).mono fun r hr => ?_
    rcases hr with hr | ⟨hb, hr⟩
    · exact .inl hr
    · exact .inr ⟨by omega, by omega, by simpa using hr⟩
theorem toGroupS_loop (l : List S58) (hl : l.length ≤ 1048576) : ∀ d i, l.length - i = d → i ≤ l.length →
    Ev (fun k => laws_toGroupS.l0 k l ((l.take i).map cvG ++ List.replicate (l.length - i) z31) (i : Int)) (l.map cvG) := by
  intro d
  induction d with
  | zero =>
    intro i hi hle
    obtain rfl : i = l.length := by omega
    refine Ev.step (fun k => by rw [laws_toGroupS.l0]) ?_
    simp only [if_neg (show ¬ ((l.length : Int) < (l.length : Int)) by omega), List.take_length, Nat.sub_self, List.replicate_zero, List.append_nil]
    exact Ev.now _
  | succ d ih =>
    intro i hi hle
    have hlt : i < l.length := by omega
    refine Ev.step (fun k => by rw [laws_toGroupS.l0]) ?_
    simp only [if_pos (show ((i : Int) < (l.length : Int)) by omega), if_pos (show (0 : Int) ≤ (i : Int) by omega), rdL_nat l i hlt, laws_toGroup.f, Option.bind_some, fill_len cvG z31 l i hle, w64 (a := (i : Int) + 1) (by omega) (by omega), Int.toNat_natCast]
    have := ih (i + 1) (by omega) (by omega)
    rw [← fill_set cvG z31 l i hlt] at this
    exact this
theorem toGroupS_ev (l : List S58) (hl : l.length ≤ 1048576) : Ev (fun k => laws_toGroupS.f k l) (l.map cvG) := by
  unfold laws_toGroupS.f
  simp only [if_pos (show (0 : Int) ≤ (l.length : Int) by omega), Int.toNat_natCast, if_pos (show l.length ≤ 11728124029610 by omega)]
  have := toGroupS_loop l hl l.length 0 (by omega) (by omega)
  simpa using this
theorem eqGroupS_loop (l : List S31) (hl : l.length ≤ 1048576) : ∀ d i, l.length - i = d → Ev (fun k => laws_eqGroupS.l0 k l l (i : Int)) true := by
  intro d
  induction d with
  | zero =>
    intro i hi
    refine Ev.step (fun k => by rw [laws_eqGroupS.l0]) ?_
    simp only [if_neg (show ¬ ((i : Int) < (l.length : Int)) by omega)]
    exact Ev.now _
  | succ d ih =>
    intro i hi
    have hlt : i < l.length := by omega
    refine Ev.step (fun k => by rw [laws_eqGroupS.l0]) ?_
    simp only [if_pos (show ((i : Int) < (l.length : Int)) by omega), if_pos (show (0 : Int) ≤ (i : Int) by omega), laws_eqGroup.f, if_true, Option.bind_some, w64 (a := (i : Int) + 1) (by omega) (by omega)]
    exact ih (i + 1) (by omega)
theorem eqGroupS_ev (l : List S31) (hl : l.length ≤ 1048576) : Ev (fun k => laws_eqGroupS.f k l l) true := by
  unfold laws_eqGroupS.f
  simp only [if_true]
  exact eqGroupS_loop l hl l.length 0 (by omega)
end Go.Proofs.Ytlkbjipndlmjgaa.Pu

namespace Go.Proofs.Ytlkbjipndlmjgaa.Pu
open Go.RowKit Go.Proofs.YtlkbjipndlmjgaaW.PrintWords Go.Proofs.YtlkbjipndlmjgaaW.PrintLast Go.Proofs.Ytlkbjipndlmjgaa.G
set_option linter.unusedVariables false
set_option linter.unusedSimpArgs false
def cvR (r : S91) : S34 := ⟨r.f0, r.f1, r.f2, r.f3, r.f4, r.f5⟩
theorem rdLR_nat (l : List S91) (i : Nat) (h : i < l.length) : rd_T91 l (i : Int) = l[i] := by
  unfold rd_T91
  simp [h]
theorem szIntS_some (l : List Int) (a : Int) (hl : l.length ≤ 9223372036854775807) (h0 : 0 ≤ a) (h1 : a ≤ 1048576) :
    laws_szIntS.f l a = some (if a - (l.length : Int) < 0 then -1 else a - (l.length : Int)) := by
  unfold laws_szIntS.f
  rw [w64 (a := a - (l.length : Int)) (by omega) (by omega)]
  split <;> rfl
/-- What a row of sizes tells: it is too much, or something is left and all is small. -/
def SzR (r : S91) : Prop := r.f3.length ≤ 1048576 ∧ r.f5.length ≤ 1048576
theorem szRecord_some (r : S91) (a : Int) (hl : r.f3.length ≤ 9223372036854775807 ∧ r.f5.length ≤ 9223372036854775807) (h0 : 0 ≤ a) (h1 : a ≤ 1048576) :
    ∃ t, laws_szRecord.f r.f0 r.f1 r.f2 r.f3 r.f4 r.f5 a = some t ∧ (t < 0 ∨ (0 ≤ t ∧ t ≤ a ∧ SzR r)) := by
  unfold laws_szRecord.f
  rw [szIntS_some _ _ hl.1 h0 h1, bindS]
  by_cases h : a - (r.f3.length : Int) < 0
  · rw [if_pos h, if_pos (by omega)]
    exact ⟨_, rfl, .inl (by omega)⟩
  · rw [if_neg h, if_neg h, szIntS_some _ _ hl.2 (by omega) (by omega), bindS]
    by_cases h2 : a - (r.f3.length : Int) - (r.f5.length : Int) < 0
    · rw [if_pos h2, if_pos (by omega)]
      exact ⟨_, rfl, .inl (by omega)⟩
    · rw [if_neg h2, if_neg h2]
      exact ⟨_, rfl, .inr ⟨by omega, by omega, by omega, by omega⟩⟩
theorem szRecordS_loop (l : List S91) (hl : l.length ≤ 9223372036854775807) (hs : ∀ r ∈ l, r.f3.length ≤ 9223372036854775807 ∧ r.f5.length ≤ 9223372036854775807) : ∀ d i (a : Int), l.length - i = d → 0 ≤ a → a ≤ 1048576 →
    EndsIn (fun k => laws_szRecordS.l0 k l a (i : Int)) (fun t => t < 0 ∨ (0 ≤ t ∧ t ≤ a ∧ ∀ r ∈ l.drop i, SzR r)) := by
  intro d
  induction d with
  | zero =>
    intro i a hi h0 h1
    refine EndsIn.step (fun k => by rw [laws_szRecordS.l0]) ?_
    simp only [if_neg (show ¬ ((i : Int) < (l.length : Int)) by omega)]
    refine EndsIn.now _ (.inr ⟨h0, by omega, ?_⟩)
    rw [List.drop_of_length_le (by omega)]
    simp
  | succ d ih =>
    intro i a hi h0 h1
    have hlt : i < l.length := by omega
    refine EndsIn.step (fun k => by rw [laws_szRecordS.l0]) ?_
    obtain ⟨t, ht, hc⟩ := szRecord_some l[i] a (hs _ (List.getElem_mem hlt)) h0 h1
    simp only [if_pos (show ((i : Int) < (l.length : Int)) by omega), if_pos (show (0 : Int) ≤ (i : Int) by omega), rdLR_nat l i hlt, ht, bindS, w64 (a := (i : Int) + 1) (by omega) (by omega)]
    rcases hc with h | ⟨h2, h3, h4⟩
    · simp only [if_pos h]
      exact EndsIn.now _ (.inl (by omega))
    · simp only [if_neg (show ¬ t < 0 by omega)]
      refine (ih (i + 1) t (by omega) h2 (by omega)).mono fun q hq => ?_
      rcases hq with hq | ⟨q0, q1, q2⟩
      · exact .inl hq
      · refine .inr ⟨q0, by omega, ?_⟩
        rw [List.drop_eq_getElem_cons hlt]
        intro g hg
        rcases List.mem_cons.1 hg with rfl | hg
        · exact h4
        · exact q2 g hg
theorem szRecordS_ends (l : List S91) (hl : l.length ≤ 9223372036854775807) (hs : ∀ r ∈ l, r.f3.length ≤ 9223372036854775807 ∧ r.f5.length ≤ 9223372036854775807) (a : Int) (h0 : 0 ≤ a) (h1 : a ≤ 1048576) :
    EndsIn (fun k => laws_szRecordS.f k l a) (fun t => t < 0 ∨ (0 ≤ t ∧ t ≤ a ∧ l.length ≤ 1048576 ∧ ∀ r ∈ l, SzR r)) := by
  unfold laws_szRecordS.f
  rw [w64 (a := a - (l.length : Int)) (by omega) (by omega)]
  by_cases h : a - (l.length : Int) < 0
  · simp only [if_pos h]
    exact EndsIn.now _ (.inl (by omega))
  · simp only [if_neg h]
    refine (szRecordS_loop l hl hs l.length 0 _ (by omega) (by omega) (by omega)).mono fun r hr => ?_
    rcases hr with hr | ⟨q0, q1, q2⟩
    · exact .inl hr
    · exact .inr ⟨q0, by omega, by omega, by simpa using q2⟩
theorem toIntS_loop (l : List Int) (hl : l.length ≤ 1048576) : ∀ d i, l.length - i = d → i ≤ l.length →
    Ev (fun k => laws_toIntS.l0 k l ((l.take i).map (fun x => x) ++ List.replicate (l.length - i) 0) (i : Int)) l := by
  intro d
  induction d with
  | zero =>
    intro i hi hle
    obtain rfl : i = l.length := by omega
    refine Ev.step (fun k => by rw [laws_toIntS.l0]) ?_
    simp only [if_neg (show ¬ ((l.length : Int) < (l.length : Int)) by omega), List.take_length, Nat.sub_self, List.replicate_zero, List.append_nil, List.map_id']
    exact Ev.now _
  | succ d ih =>
    intro i hi hle
    have hlt : i < l.length := by omega
    refine Ev.step (fun k => by rw [laws_toIntS.l0]) ?_
    simp only [if_pos (show ((i : Int) < (l.length : Int)) by omega), if_pos (show (0 : Int) ≤ (i : Int) by omega), rdi_nat l i hlt, fill_len (fun x : Int => x) 0 l i hle, w64 (a := (i : Int) + 1) (by omega) (by omega), Int.toNat_natCast]
    have := ih (i + 1) (by omega) (by omega)
    rw [← fill_set (fun x : Int => x) 0 l i hlt] at this
    exact this
theorem toIntS_ev (l : List Int) (hl : l.length ≤ 1048576) : Ev (fun k => laws_toIntS.f k l) l := by
  unfold laws_toIntS.f
  simp only [if_pos (show (0 : Int) ≤ (l.length : Int) by omega), Int.toNat_natCast, if_pos (show l.length ≤ 35184372088832 by omega)]
  have := toIntS_loop l hl l.length 0 (by omega) (by omega)
  simpa using this
theorem toRecord_ev (r : S91) (h : SzR r) : Ev (fun k => laws_toRecord.f k r.f0 r.f1 r.f2 r.f3 r.f4 r.f5) (r.f0, r.f1, r.f2, r.f3, r.f4, r.f5) := by
  unfold laws_toRecord.f
  exact Ev.bind (toIntS_ev _ h.1) (Ev.bind (toIntS_ev _ h.2) (Ev.now _))
theorem toRecordS_loop (l : List S91) (hl : l.length ≤ 1048576) (hs : ∀ r ∈ l, SzR r) : ∀ d i, l.length - i = d → i ≤ l.length →
    Ev (fun k => laws_toRecordS.l0 k l ((l.take i).map cvR ++ List.replicate (l.length - i) z34) (i : Int)) (l.map cvR) := by
  intro d
  induction d with
  | zero =>
    intro i hi hle
    obtain rfl : i = l.length := by omega
    refine Ev.step (fun k => by rw [laws_toRecordS.l0]) ?_
    simp only [if_neg (show ¬ ((l.length : Int) < (l.length : Int)) by omega), List.take_length, Nat.sub_self, List.replicate_zero, List.append_nil]
    exact Ev.now _
  | succ d ih =>
    intro i hi hle
    have hlt : i < l.length := by omega
    refine Ev.step (fun k => by rw [laws_toRecordS.l0]) ?_
    simp only [if_pos (show ((i : Int) < (l.length : Int)) by omega), if_pos (show (0 : Int) ≤ (i : Int) by omega), rdLR_nat l i hlt, fill_len cvR z34 l i hle, w64 (a := (i : Int) + 1) (by omega) (by omega), Int.toNat_natCast]
    refine Ev.bind (toRecord_ev l[i] (hs _ (List.getElem_mem _))) ?_
    have := ih (i + 1) (by omega) (by omega)
    rw [← fill_set cvR z34 l i hlt] at this
    exact this
theorem toRecordS_ev (l : List S91) (hl : l.length ≤ 1048576) (hs : ∀ r ∈ l, SzR r) : Ev (fun k => laws_toRecordS.f k l) (l.map cvR) := by
  unfold laws_toRecordS.f
  simp only [if_pos (show (0 : Int) ≤ (l.length : Int) by omega), Int.toNat_natCast, if_pos (show l.length ≤ 3518437208883 by omega)]
  have := toRecordS_loop l hl hs l.length 0 (by omega) (by omega)
  simpa using this
theorem all_true {α} (l : List α) : l.all (fun _ => true) = true := List.all_eq_true.2 (fun _ _ => rfl)
theorem eqIntS_ev (l : List Int) (hl : l.length ≤ 9223372036854775807) : Ev (fun k => laws_eqIntS.f k l l) true := by
  unfold laws_eqIntS.f
  simp only [if_true]
  have := ev_all l hl (fun k i => laws_eqIntS.l0 k l l i) (fun k i => some true) (fun _ => true) true
    (fun k => by simp only [laws_eqIntS.l0]; rw [if_neg (by omega)])
    (fun k i h => by simp only [laws_eqIntS.l0]; rw [if_pos (by omega), if_pos (by omega), if_pos (by omega), if_true]; rfl)
    (fun i h => Ev.now _) l.length 0 (by omega) (by omega)
  rw [all_true] at this
  simpa using this
theorem eqRecord_ev (r : S34) (h : Lens r) : Ev (fun k => laws_eqRecord.f k r.f0 r.f1 r.f2 r.f3 r.f4 r.f5 r.f0 r.f1 r.f2 r.f3 r.f4 r.f5) true := by
  unfold laws_eqRecord.f
  simp only [if_true, bne_self_eq_false, Bool.false_eq_true, if_false]
  refine Ev.bind (eqIntS_ev _ h.1) ?_
  simp only [if_true]
  exact Ev.bind (eqIntS_ev _ h.2) (Ev.now _)
theorem eqRecordS_ev (l : List S34) (hl : l.length ≤ 9223372036854775807) (hs : ∀ r ∈ l, Lens r) : Ev (fun k => laws_eqRecordS.f k l l) true := by
  unfold laws_eqRecordS.f
  simp only [if_true]
  have := ev_all l hl (fun k i => laws_eqRecordS.l0 k l l i) (fun k i => laws_eqRecord.f k (rd_T34 l i).f0 (rd_T34 l i).f1 (rd_T34 l i).f2 (rd_T34 l i).f3 (rd_T34 l i).f4 (rd_T34 l i).f5 (rd_T34 l i).f0 (rd_T34 l i).f1 (rd_T34 l i).f2 (rd_T34 l i).f3 (rd_T34 l i).f4 (rd_T34 l i).f5) (fun _ => true) true
    (fun k => by simp only [laws_eqRecordS.l0]; rw [if_neg (by omega)])
    (fun k i h => by simp only [laws_eqRecordS.l0]; rw [if_pos (by omega), if_pos (by omega), if_pos (by omega)])
    (fun i h => by rw [rdR_nat l i h]; exact eqRecord_ev _ (hs _ (List.getElem_mem _))) l.length 0 (by omega) (by omega)
  rw [all_true] at this
  simpa using this
theorem lens_cv {l : List S91} (hs : ∀ r ∈ l, SzR r) : ∀ r ∈ l.map cvR, Lens r := by
  intro r hr
  obtain ⟨x, hx, rfl⟩ := List.mem_map.1 hr
  have := hs x hx
  exact ⟨by have := this.1; show x.f3.length ≤ _; omega, by have := this.2; show x.f5.length ≤ _; omega⟩
end Go.Proofs.Ytlkbjipndlmjgaa.Pu

namespace Go.Proofs.Ytlkbjipndlmjgaa.Pu
open Go.RowKit Go.Proofs.YtlkbjipndlmjgaaW.PrintWords Go.Proofs.YtlkbjipndlmjgaaW.PrintLast Go.Proofs.Ytlkbjipndlmjgaa.G
set_option linter.unusedVariables false
set_option linter.unusedSimpArgs false
def cvB (b : S62) : S56 := ⟨b.f0, b.f1, b.f2, b.f3, b.f4, b.f5.map cvR⟩
theorem rdLB_nat (l : List S62) (i : Nat) (h : i < l.length) : rd_T62 l (i : Int) = l[i] := by
  unfold rd_T62
  simp [h]
def SzB (b : S62) : Prop := b.f5.length ≤ 1048576 ∧ ∀ r ∈ b.f5, SzR r
/-- Parts whose lengths can be told. -/
def LenB (b : S62) : Prop := b.f5.length ≤ 9223372036854775807 ∧ ∀ r ∈ b.f5, r.f3.length ≤ 9223372036854775807 ∧ r.f5.length ≤ 9223372036854775807
theorem szBatch_ends (b : S62) (hs : LenB b) (a : Int) (h0 : 0 ≤ a) (h1 : a ≤ 1048576) :
    EndsIn (fun k => laws_szBatch.f k b.f0 b.f1 b.f2 b.f3 b.f4 b.f5 a) (fun t => t < 0 ∨ (0 ≤ t ∧ t ≤ a ∧ SzB b)) := by
  unfold laws_szBatch.f
  refine EndsIn.bind (szRecordS_ends b.f5 hs.1 hs.2 a h0 h1) fun t ht => ?_
  by_cases h : t < 0
  · simp only [if_pos h]
    exact EndsIn.now _ (.inl (by omega))
  · simp only [if_neg h]
    obtain ⟨t0, t1, n, z⟩ := ht.resolve_left h
    exact EndsIn.now _ (.inr ⟨t0, t1, n, z⟩)
theorem szBatchS_loop (l : List S62) (hl : l.length ≤ 9223372036854775807) (hs : ∀ b ∈ l, LenB b) : ∀ d i (a : Int), l.length - i = d → 0 ≤ a → a ≤ 1048576 →
    EndsIn (fun k => laws_szBatchS.l0 k l a (i : Int)) (fun t => t < 0 ∨ (0 ≤ t ∧ t ≤ a ∧ ∀ r ∈ l.drop i, SzB r)) := by
  intro d
  induction d with
  | zero =>
    intro i a hi h0 h1
    refine EndsIn.step (fun k => by rw [laws_szBatchS.l0]) ?_
    simp only [if_neg (show ¬ ((i : Int) < (l.length : Int)) by omega)]
    refine EndsIn.now _ (.inr ⟨h0, by omega, ?_⟩)
    rw [List.drop_of_length_le (by omega)]
    simp
  | succ d ih =>
    intro i a hi h0 h1
    have hlt : i < l.length := by omega
    refine EndsIn.step (fun k => by rw [laws_szBatchS.l0]) ?_
    simp only [if_pos (show ((i : Int) < (l.length : Int)) by omega), if_pos (show (0 : Int) ≤ (i : Int) by omega), rdLB_nat l i hlt, w64 (a := (i : Int) + 1) (by omega) (by omega)]
    refine EndsIn.bind (szBatch_ends l[i] (hs _ (List.getElem_mem hlt)) a h0 h1) fun t hc => ?_
    by_cases h : t < 0
    · simp only [if_pos h]
      exact EndsIn.now _ (.inl (by omega))
    · obtain ⟨h2, h3, h4⟩ := hc.resolve_left h
      simp only [if_neg h]
      refine (ih (i + 1) t (by omega) h2 (by omega)).mono fun q hq => ?_
      rcases hq with hq | ⟨q0, q1, q2⟩
      · exact .inl hq
      · refine .inr ⟨q0, by omega, ?_⟩
        rw [List.drop_eq_getElem_cons hlt]
        intro g hg
        rcases List.mem_cons.1 hg with rfl | hg
        · exact h4
        · exact q2 g hg
theorem szBatchS_ends (l : List S62) (hl : l.length ≤ 9223372036854775807) (hs : ∀ b ∈ l, LenB b) (a : Int) (h0 : 0 ≤ a) (h1 : a ≤ 1048576) :
    EndsIn (fun k => laws_szBatchS.f k l a) (fun t => t < 0 ∨ (0 ≤ t ∧ t ≤ a ∧ l.length ≤ 1048576 ∧ ∀ r ∈ l, SzB r)) := by
  unfold laws_szBatchS.f
  rw [w64 (a := a - (l.length : Int)) (by omega) (by omega)]
  by_cases h : a - (l.length : Int) < 0
  · simp only [if_pos h]
    exact EndsIn.now _ (.inl (by omega))
  · simp only [if_neg h]
    refine (szBatchS_loop l hl hs l.length 0 _ (by omega) (by omega) (by omega)).mono fun r hr => ?_
    rcases hr with hr | ⟨q0, q1, q2⟩
    · exact .inl hr
    · exact .inr ⟨q0, by omega, by omega, by simpa using q2⟩
theorem toBatch_ev (b : S62) (h : SzB b) : Ev (fun k => laws_toBatch.f k b.f0 b.f1 b.f2 b.f3 b.f4 b.f5) (b.f0, b.f1, b.f2, b.f3, b.f4, b.f5.map cvR) := by
  unfold laws_toBatch.f
  exact Ev.bind (toRecordS_ev _ h.1 h.2) (Ev.now _)
theorem toBatchS_loop (l : List S62) (hl : l.length ≤ 1048576) (hs : ∀ r ∈ l, SzB r) : ∀ d i, l.length - i = d → i ≤ l.length →
    Ev (fun k => laws_toBatchS.l0 k l ((l.take i).map cvB ++ List.replicate (l.length - i) z56) (i : Int)) (l.map cvB) := by
  intro d
  induction d with
  | zero =>
    intro i hi hle
    obtain rfl : i = l.length := by omega
    refine Ev.step (fun k => by rw [laws_toBatchS.l0]) ?_
    simp only [if_neg (show ¬ ((l.length : Int) < (l.length : Int)) by omega), List.take_length, Nat.sub_self, List.replicate_zero, List.append_nil]
    exact Ev.now _
  | succ d ih =>
    intro i hi hle
    have hlt : i < l.length := by omega
    refine Ev.step (fun k => by rw [laws_toBatchS.l0]) ?_
    simp only [if_pos (show ((i : Int) < (l.length : Int)) by omega), if_pos (show (0 : Int) ≤ (i : Int) by omega), rdLB_nat l i hlt, fill_len cvB z56 l i hle, w64 (a := (i : Int) + 1) (by omega) (by omega), Int.toNat_natCast]
    refine Ev.bind (toBatch_ev l[i] (hs _ (List.getElem_mem _))) ?_
    have := ih (i + 1) (by omega) (by omega)
    rw [← fill_set cvB z56 l i hlt] at this
    exact this
theorem toBatchS_ev (l : List S62) (hl : l.length ≤ 1048576) (hs : ∀ r ∈ l, SzB r) : Ev (fun k => laws_toBatchS.f k l) (l.map cvB) := by
  unfold laws_toBatchS.f
  simp only [if_pos (show (0 : Int) ≤ (l.length : Int) by omega), Int.toNat_natCast, if_pos (show l.length ≤ 5026338869833 by omega)]
  have := toBatchS_loop l hl hs l.length 0 (by omega) (by omega)
  simpa using this
theorem eqBatch_ev (b : S56) (h : RowR b.f5) : Ev (fun k => laws_eqBatch.f k b.f0 b.f1 b.f2 b.f3 b.f4 b.f5 b.f0 b.f1 b.f2 b.f3 b.f4 b.f5) true := by
  unfold laws_eqBatch.f
  simp only [if_true, bne_self_eq_false, Bool.false_eq_true, if_false]
  refine Ev.bind (eqRecordS_ev _ h.1 h.2) ?_
  simp only [if_true]
  exact Ev.now _
theorem eqBatchS_ev (l : List S56) (hb : RowB l) : Ev (fun k => laws_eqBatchS.f k l l) true := by
  have hl := hb.1
  unfold laws_eqBatchS.f
  simp only [if_true]
  have := ev_all l hl (fun k i => laws_eqBatchS.l0 k l l i) (fun k i => laws_eqBatch.f k (rd_T56 l i).f0 (rd_T56 l i).f1 (rd_T56 l i).f2 (rd_T56 l i).f3 (rd_T56 l i).f4 (rd_T56 l i).f5 (rd_T56 l i).f0 (rd_T56 l i).f1 (rd_T56 l i).f2 (rd_T56 l i).f3 (rd_T56 l i).f4 (rd_T56 l i).f5) (fun _ => true) true
    (fun k => by simp only [laws_eqBatchS.l0]; rw [if_neg (by omega)])
    (fun k i h => by simp only [laws_eqBatchS.l0]; rw [if_pos (by omega), if_pos (by omega), if_pos (by omega)])
    (fun i h => by rw [rdB_nat l i h]; exact eqBatch_ev _ (hb.2 _ (List.getElem_mem _))) l.length 0 (by omega) (by omega)
  rw [all_true] at this
  simpa using this
theorem rowB_cv {l : List S62} (hl : l.length ≤ 1048576) (hs : ∀ b ∈ l, SzB b) : RowB (l.map cvB) := by
  refine ⟨by rw [List.length_map]; omega, fun b hb => ?_⟩
  obtain ⟨x, hx, rfl⟩ := List.mem_map.1 hb
  have h := hs x hx
  exact ⟨by show (x.f5.map cvR).length ≤ _; rw [List.length_map]; have := h.1; omega, lens_cv h.2⟩
end Go.Proofs.Ytlkbjipndlmjgaa.Pu

namespace Go.Proofs.Ytlkbjipndlmjgaa.Pure
open Go.RowKit Go.Proofs.Ytlkbjipndlmjgaa.G Go.Proofs.YtlkbjipndlmjgaaW.PrintWords Go.Proofs.YtlkbjipndlmjgaaW.PrintLast Go.Proofs.YtlkbjipndlmjgaaW.PrintMore Go.Proofs.Ytlkbjipndlmjgaa.Pu
set_option linter.unusedSimpArgs false
theorem FnExactGroupsLeft : OFnExactGroupsLeft.Pure := by
  intro l0 a1 l2 hl0 ho0 hs1 hl2 ho2
  refine EndsIn.rounds ?_
  unfold laws_FnExactGroupsLeft.f
  have hs2 : ∀ b ∈ l2, LenB b := fun b hb => ⟨(ho2 b hb).2.2.2.2.2.1, fun r hr => ⟨((ho2 b hb).2.2.2.2.2.2 r hr).2.2.2.1.1, ((ho2 b hb).2.2.2.2.2.2 r hr).2.2.2.2.2.1⟩⟩
  have hs0 : ∀ g ∈ l0, g.f0.size ≤ 9223372036854775807 := fun g hg => (ho0 g hg).1
  by_cases h : (a1.size : Int) > 1048576
  · simp only [if_pos h]
    exact EndsIn.now _ rfl
  simp only [if_neg h]
  refine EndsIn.bind (szGroupS_ends2 l0 hl0 hs0 1048576 (by omega) (by omega)) fun t ht => ?_
  by_cases h : t < 0
  · simp only [if_pos h]
    exact EndsIn.now _ rfl
  simp only [if_neg h]
  obtain ⟨⟨t0, t1⟩, m0, y0⟩ := ht.resolve_left h
  refine EndsIn.bind (szBatchS_ends l2 hl2 hs2 t (by omega) (by omega)) fun u hu => ?_
  by_cases h : u < 0
  · simp only [if_pos h]
    exact EndsIn.now _ rfl
  simp only [if_neg h]
  obtain ⟨u0, u1, n0, z0⟩ := hu.resolve_left h
  have hb := rowB_cv n0 z0
  have hm : (l0.map cvG).length ≤ 1048576 := by rw [List.length_map]; omega
  have hm' : (l0.map cvG).length ≤ 9223372036854775807 := by omega
  have hgs : ∀ g ∈ l0.map cvG, g.f0.size ≤ 9223372036854775807 := fun g hg => by obtain ⟨x, hx, rfl⟩ := List.mem_map.1 hg; exact hs0 x hx
  refine ⟨true, ?_, rfl⟩
  refine Ev.bind (toGroupS_ev l0 (by omega)) (Ev.bind (toBatchS_ev l2 n0 z0) (Ev.bind (sGroupsLeft_ev _ a1 _ hm' hgs hb) (Ev.bind (toGroupS_ev l0 (by omega)) (Ev.bind (toBatchS_ev l2 n0 z0) (Ev.bind (GroupsLeft_ev _ a1 _ hm' hgs hb) ?_)))))
  simp only [if_true]
  refine Ev.bind (toGroupS_ev l0 (by omega)) (Ev.bind (eqGroupS_ev _ hm) ?_)
  simp only [if_true]
  refine Ev.bind (toBatchS_ev l2 n0 z0) (Ev.bind (eqBatchS_ev _ hb) ?_)
  simp only [if_true]
  exact Ev.now _
end Go.Proofs.Ytlkbjipndlmjgaa.Pure

namespace Go.Proofs.Ytlkbjipndlmjgaa.fnExactGroupsLeft
open Go.ChangeShapes Go.WideShapes Go.ChangeAt Go.RowKit Go.Proofs.Ytlkbjipndlmjgaa.OFnExactGroupsLeft Go.Proofs.Ytlkbjipndlmjgaa.G Go.Joins
open Go.ChangeMaps (open_string shut_string)
set_option linter.unusedVariables false
theorem own : ownKnob Try.prog.godebug = none := by kernel_rfl
theorem laidOut : laidOutB Try.prog = true := by kernel_rfl
set_option maxRecDepth 100000 in
theorem lifted (os : Os) (started : os.Started) (H : Type) (enc : TypeId × Value → H) :
    ReturnsInHanded {} Try.checked os 4 .any (Rows.fnExactGroupsLeftSpec.pre6 enc Try.prog Try.f4 Rows.fnExactGroupsLeftRow.domain false) (Rows.fnExactGroupsLeftSpec.post enc Try.prog Try.f4 false true false false) := by
  refine returnsInHanded_of_change_sized (C := Try.checked) own started (by kernel_rfl) Try.func4
    (ChangeSpec.witness6 (enc := enc) (C := Try.checked) false ⟨#[], #[.slice none 0 0, .string ByteArray.empty, .slice none 0 0], []⟩ 8 (by kernel_rfl) (by kernel_rfl) (by kernel_rfl) (by kernel_rfl)) ?_
  intro W base args ds gs before hval0 hW hcnd hsz0 _
  have hsz : (DataW.weightsEach Try.prog (Try.f4.params.toList ++ Rows.fnExactGroupsLeftSpec.plain.varTypes Try.prog) (ds ++ gs)).all (· ≤ reachBytes) = true := hsz0
  have hval : ∀ (j : Nat) t v, Try.f4.params[j]? = some t → args[j]? = some v → Value.okWide Try.prog W .any base t v := hval0
  have hW' := hW
  obtain ⟨p, q, hA0, hV, rfl, hfz, hnd⟩ := hW
  have hA : DataW.TrodAll enc Try.prog W 0 (fun _ => true) true Try.f4.params.toList args.toList ds p := hA0
  rw [Try.params4] at hA hval hsz
  obtain ⟨v0, vs0, d0, ds0, p0, q0, hargs, rfl, rfl, h0, r0⟩ := trodAll_cons hA
  obtain ⟨v1, vs1, d1, ds1, p1, q1, rfl, rfl, rfl, h1, r1⟩ := trodAll_cons r0
  obtain ⟨v2, vs2, d2, ds2, p2, q2, rfl, rfl, rfl, h2, r2⟩ := trodAll_cons r1
  obtain ⟨rfl, rfl, rfl⟩ := trodAll_nil r2
  obtain rfl : args = #[v0, v1, v2] := by cases args; simp_all
  obtain ⟨rfl, rfl⟩ := trodVars_none hV
  obtain ⟨a0, len0, cap0, rfl⟩ := okWide_slice Try.underlying36 (hval 0 36 v0 rfl rfl)
  have k0 := h0
  have lt0 : ∀ x ∈ p0, x.block < W.heap.size := by obtain ⟨m, hm⟩ := k0; exact DataW.trod_lt m _ _ _ hm
  obtain ⟨fuel0, hf0⟩ := h0
  obtain ⟨A0, c0, l0, hcs0, hlc0, hm0, hC0, ho0⟩ := Rd.opens_row Try.underlying36 open58 hf0
  simp [Value.cells] at hcs0
  obtain ⟨rfl, rfl, rfl⟩ := hcs0
  obtain ⟨a1, rfl, rfl, rfl, y1⟩ := open_string Try.underlying9 (hval 1 9 v1 rfl rfl) h1
  have w1 : a1.size ≤ 140737488351232 := by
    have z := sized_string hsz (j := 1) (t := 9) rfl rfl
    rw [Array.length_toList] at z
    exact z
  obtain ⟨a2, len2, cap2, rfl⟩ := okWide_slice Try.underlying37 (hval 2 37 v2 rfl rfl)
  have k2 := h2
  have lt2 : ∀ x ∈ p2, x.block < W.heap.size := by obtain ⟨m, hm⟩ := k2; exact DataW.trod_lt m _ _ _ hm
  obtain ⟨fuel2, hf2⟩ := h2
  obtain ⟨A2, c2, l2, hcs2, hlc2, hm2, hC2, ho2⟩ := Rd.opens_row Try.underlying37 open62 hf2
  simp [Value.cells] at hcs2
  obtain ⟨rfl, rfl, rfl⟩ := hcs2
  clear hA0 hval0 hsz0 hsz
  obtain ⟨k, h⟩ := Pure.FnExactGroupsLeft l0 a1 l2 (Nat.le_trans hlc0 hm0) ho0 w1 (Nat.le_trans hlc2 hm2) ho2
  refine (laws_FnExactGroupsLeft.calls k _ _ l0 a1 _ _ l2 true W hC0 hlc0 hC2 hlc2 h).mono fun e W' ⟨he, bel0⟩ => ?_
  subst he
  have bel : Below W.heap.size W W' := bel0
  exact ⟨_, rfl, _, _, _, [], _, [], hW', trodAll_mk1 (shut_bool Try.underlying4 _), (trodAll_cons_mk (Below.trod laidOut (by kernel_rfl) (of_decide_eq_true (by kernel_rfl)) k0 bel lt0) (trodAll_cons_mk (shut_string Try.underlying9 y1) (trodAll_cons_mk (Below.trod laidOut (by kernel_rfl) (of_decide_eq_true (by kernel_rfl)) k2 bel lt2) trodAll_mk0))), rfl, bel.frame _, fun h => by cases h⟩
theorem over : Rows.fnExactGroupsLeftRow.holds Try.pinned (OpenSpec.ofChange Rows.fnExactGroupsLeftSpec) :=
  OpenClaim.holds_of_wide 4 Try.f4 rfl rfl rfl rfl rfl rfl rfl ⟨rfl, rfl, rfl, rfl, rfl⟩ rfl rfl rfl rfl rfl (by kernel_rfl) Try.func4 (by kernel_rfl)
    (of_decide_eq_true (by kernel_rfl)) (by unfold Func.isWrapper; first | (rw [if_pos (by decide +kernel)]; kernel_rfl) | (rw [if_neg (by decide +kernel)]; exact ⟨rfl, rfl⟩))
    (fun os started H enc _ => lifted os started H enc)
theorem proved : Rows.FnExactGroupsLeftSaid := over
#print axioms proved
end Go.Proofs.Ytlkbjipndlmjgaa.fnExactGroupsLeft
namespace Go.Proofs.Ytlkbjipndlmjgaa
/-- The row, under a short name, for the claim. -/
theorem fnExactGroupsLeft_holds : Rows.FnExactGroupsLeftSaid := fnExactGroupsLeft.proved
end Go.Proofs.Ytlkbjipndlmjgaa

