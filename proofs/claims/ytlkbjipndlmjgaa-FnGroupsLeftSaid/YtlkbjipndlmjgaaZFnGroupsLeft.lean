/- A text of seat Ytlkbjipndlmjgaa: what the law FnGroupsLeft needs of this repo's texts (by pack.py). Not trusted: Lean checks it. -/
import Derived.Test.YtlkbjipndlmjgaaKFnGroupsLeft12
import Derived.Laws.BitsLemmas
import Derived.Test.YtlkbjipndlmjgaaRows
import Derived.WalkKit
import Derived.ProofKit
import Derived.OpenShut
import Derived.ShutString
import Derived.ChangeOld
import Derived.Below
import Derived.SizedLaws
import Derived.Lib.SmallJoins
import Derived.Laws.StructEq
import Derived.ChangeSlices
namespace Go.Proofs.Ytlkbjipndlmjgaa.Pu
open Go.RowKit Go.Proofs.YtlkbjipndlmjgaaW.PrintWords Go.Proofs.YtlkbjipndlmjgaaW.PrintLast Go.Proofs.Ytlkbjipndlmjgaa.G
set_option linter.unusedVariables false
set_option linter.unusedSimpArgs false
def low (c : UInt8) : Bool := decide (97 ≤ c.toNat) && decide (c.toNat ≤ 122)
def word (s : ByteArray) (most : Int) : Bool := (decide (1 ≤ s.size) && decide ((s.size : Int) ≤ most)) && s.data.toList.all low
def gOk (g : S31) : Bool := word g.f0 6 && (decide (0 ≤ g.f1) && decide (g.f1 ≤ 100000))
theorem drop_cons_get {α : Type} (l : List α) (i : Nat) (h : i < l.length) : l.drop i = l[i] :: l.drop (i + 1) := by simp
theorem bt_low (s : ByteArray) (i : Nat) (h : i < s.size) : low (s.data.toList[i]'(by simpa using h)) = (decide (¬ bt s (i : Int) < 97) && decide (¬ bt s (i : Int) > 122)) := by
  rw [bt_get s i h]
  unfold low
  congr 1
  · simp only [decide_eq_decide]; omega
  · simp only [decide_eq_decide]; omega
theorem letters_loop (s : ByteArray) (hs : s.size ≤ 9223372036854775807) : ∀ d i, s.size - i = d → Ev (fun k => impl_letters.l0 k s (s.size : Int) (i : Int)) ((s.data.toList.drop i).all low) := by
  intro d
  induction d with
  | zero =>
    intro i hi
    refine Ev.step (fun k => by rw [impl_letters.l0]) ?_
    rw [List.drop_of_length_le (by rw [data_len]; omega)]
    simp only [if_neg (show ¬ ((i : Int) < (s.size : Int)) by omega)]
    exact Ev.now _
  | succ d ih =>
    intro i hi
    have hlt : i < s.size := by omega
    refine Ev.step (fun k => by rw [impl_letters.l0]) ?_
    simp only [if_pos (show ((i : Int) < (s.size : Int)) by omega), if_pos (show (0 : Int) ≤ (i : Int) by omega)]
    rw [drop_cons_get _ i (by rw [data_len]; exact hlt), List.all_cons, bt_low s i hlt]
    by_cases h1 : bt s (i : Int) < 97
    · simp only [if_pos h1, h1]
      exact Ev.now _
    · by_cases h2 : bt s (i : Int) > 122
      · simp only [if_neg h1, if_pos h2, h1, h2]
        exact Ev.now _
      · simp only [if_neg h1, if_neg h2, w64 (a := (i : Int) + 1) (by omega) (by omega)]
        have := ih (i + 1) (by omega)
        simpa [h1, h2] using this
theorem letters_ev (s : ByteArray) (most : Int) (hs : s.size ≤ 9223372036854775807) : Ev (fun k => impl_letters.f k s most) (word s most) := by
  unfold impl_letters.f word
  by_cases h0 : (s.size : Int) < 1
  · simp only [if_pos h0]
    refine Ev.step (fun k => by rw [impl_letters.j0]) ?_
    rw [show decide (1 ≤ s.size) = false from decide_eq_false (by omega)]
    exact Ev.now _
  · simp only [if_neg h0]
    refine Ev.step (fun k => by rw [impl_letters.j0]) ?_
    rw [show decide (1 ≤ s.size) = true from decide_eq_true (by omega)]
    by_cases h1 : (s.size : Int) > most
    · simp only [h1, decide_true, if_true]
      rw [show decide ((s.size : Int) ≤ most) = false from decide_eq_false (by omega)]
      exact Ev.now _
    · simp only [h1, decide_false]
      rw [show decide ((s.size : Int) ≤ most) = true from decide_eq_true (by omega)]
      have := letters_loop s hs s.size 0 (by omega)
      simpa using this
theorem groupValid_ev (g : S31) (hs : g.f0.size ≤ 9223372036854775807) : Ev (fun k => impl_groupValid.f k g.f0 g.f1) (gOk g) := by
  unfold impl_groupValid.f gOk
  refine Ev.bind (letters_ev _ _ hs) ?_
  cases word g.f0 6
  · exact Ev.now _
  · simp only [if_true]
    unfold impl_within.f
    by_cases h : g.f1 ≥ 0
    · simp only [if_pos h, Option.bind_some]
      rw [show decide (0 ≤ g.f1) = true from decide_eq_true h]
      exact Ev.now _
    · simp only [if_neg h, Option.bind_some]
      rw [show decide (0 ≤ g.f1) = false from decide_eq_false h]
      exact Ev.now _
theorem l6In_some (a b c : Int) : spec_l6In.f a b c = some (decide (b ≤ a) && decide (a ≤ c)) := by
  unfold spec_l6In.f
  by_cases h : a ≥ b
  · rw [if_pos h, show decide (b ≤ a) = true from decide_eq_true h]; rfl
  · rw [if_neg h, show decide (b ≤ a) = false from decide_eq_false h]; rfl
theorem group_loop (g : S31) (hs : g.f0.size ≤ 9223372036854775807) : ∀ d i, g.f0.size - i = d → Ev (fun k => spec_l32Group.l0 k (i : Int) g.f0 g.f1) ((g.f0.data.toList.drop i).all low && ((decide (1 ≤ g.f0.size) && decide ((g.f0.size : Int) ≤ 6)) && (decide (0 ≤ g.f1) && decide (g.f1 ≤ 100000)))) := by
  intro d
  induction d with
  | zero =>
    intro i hi
    refine Ev.step (fun k => by rw [spec_l32Group.l0]) ?_
    rw [List.drop_of_length_le (by rw [data_len]; omega)]
    simp only [if_neg (show ¬ ((i : Int) < (g.f0.size : Int)) by omega), l6In_some, Option.bind_some]
    rw [show decide ((1 : Int) ≤ (g.f0.size : Int)) = decide (1 ≤ g.f0.size) from decide_eq_decide.2 (by omega)]
    cases (decide (1 ≤ g.f0.size) && decide ((g.f0.size : Int) ≤ 6))
    · exact Ev.now _
    · exact Ev.now _
  | succ d ih =>
    intro i hi
    have hlt : i < g.f0.size := by omega
    refine Ev.step (fun k => by rw [spec_l32Group.l0]) ?_
    simp only [if_pos (show ((i : Int) < (g.f0.size : Int)) by omega), if_pos (show (0 : Int) ≤ (i : Int) by omega)]
    rw [drop_cons_get _ i (by rw [data_len]; exact hlt), List.all_cons, bt_low g.f0 i hlt]
    by_cases h1 : bt g.f0 (i : Int) < 97
    · simp only [if_pos h1, h1]
      exact Ev.now _
    · by_cases h2 : bt g.f0 (i : Int) > 122
      · simp only [if_neg h1, if_pos h2, h1, h2]
        exact Ev.now _
      · simp only [if_neg h1, if_neg h2, w64 (a := (i : Int) + 1) (by omega) (by omega)]
        have := ih (i + 1) (by omega)
        simpa [h1, h2] using this
theorem l32Group_ev (g : S31) (hs : g.f0.size ≤ 9223372036854775807) : Ev (fun k => spec_l32Group.f k g.f0 g.f1) (gOk g) := by
  have := group_loop g hs g.f0.size 0 (by omega)
  unfold spec_l32Group.f gOk word
  rw [List.drop_zero] at this
  have e : ∀ a b c : Bool, (a && (b && c)) = ((b && a) && c) := by decide
  rw [e] at this
  exact this
/-- Valid from place i on, each behind the one ahead of it. -/
def gsFrom (prev : Option S31) : List S31 → Bool
  | [] => true
  | g :: l => gOk g && ((match prev with | none => true | some p => Op.bytesLess p.f0.toList g.f0.toList) && gsFrom (some g) l)
def gsOk (l : List S31) : Bool := gsFrom none l && decide (l.length ≤ 8)
theorem rd_nat (l : List S31) (i : Nat) (h : i < l.length) : rd_T31 l (i : Int) = l[i] := by
  unfold rd_T31
  simp [h]
def prevOf (l : List S31) (i : Nat) : Option S31 := if i = 0 then none else l[i - 1]?
theorem valid_loop (l : List S31) (hl : l.length ≤ 9223372036854775807) (hs : ∀ g ∈ l, g.f0.size ≤ 9223372036854775807) : ∀ d i, l.length - i = d → Ev (fun k => impl_GroupsValid.l0 k l l (l.length : Int) (i : Int)) (gsFrom (prevOf l i) (l.drop i)) := by
  intro d
  induction d with
  | zero =>
    intro i hi
    refine Ev.step (fun k => by rw [impl_GroupsValid.l0]) ?_
    rw [List.drop_of_length_le (by omega)]
    simp only [if_neg (show ¬ ((i : Int) < (l.length : Int)) by omega)]
    exact Ev.now _
  | succ d ih =>
    intro i hi
    have hlt : i < l.length := by omega
    refine Ev.step (fun k => by rw [impl_GroupsValid.l0]) ?_
    simp only [if_pos (show ((i : Int) < (l.length : Int)) by omega), if_pos (show (0 : Int) ≤ (i : Int) by omega)]
    rw [drop_cons_get _ i hlt, rd_nat l i hlt]
    refine Ev.bind (groupValid_ev _ (hs _ (List.getElem_mem _))) ?_
    unfold gsFrom
    have hn := ih (i + 1) (by omega)
    rw [show prevOf l (i + 1) = some l[i] by unfold prevOf; simp [hlt]] at hn
    cases gOk l[i]
    · exact Ev.now _
    · simp only [if_true, Bool.true_and, w64 (a := (i : Int) + 1) (by omega) (by omega)]
      rcases Nat.eq_zero_or_pos i with h0 | h0
      · subst h0
        simp only [if_neg (show ¬ (((0 : Nat) : Int) > 0) by omega)]
        unfold prevOf
        simpa using hn
      · have hp : prevOf l i = some l[i - 1] := by
          unfold prevOf
          rw [if_neg (by omega)]
          simp [show i - 1 < l.length by omega]
        rw [hp]
        simp only [if_pos (show ((i : Int) > 0) by omega), w64 (a := (i : Int) - 1) (by omega) (by omega), if_pos (show (0 : Int) ≤ (i : Int) - 1 by omega), if_pos (show ((i : Int) - 1) < (l.length : Int) by omega)]
        rw [show ((i : Int) - 1) = ((i - 1 : Nat) : Int) by omega, rd_nat l (i - 1) (by omega)]
        cases Op.bytesLess l[i - 1].f0.toList l[i].f0.toList
        · exact Ev.now _
        · simpa using hn
theorem valid_ev (l : List S31) (hl : l.length ≤ 9223372036854775807) (hs : ∀ g ∈ l, g.f0.size ≤ 9223372036854775807) : Ev (fun k => impl_GroupsValid.f k l) (gsOk l) := by
  unfold impl_GroupsValid.f gsOk
  by_cases h : (l.length : Int) > 8
  · simp only [if_pos h]
    rw [show decide (l.length ≤ 8) = false from decide_eq_false (by omega), Bool.and_false]
    exact Ev.now _
  · simp only [if_neg h]
    rw [show decide (l.length ≤ 8) = true from decide_eq_true (by omega), Bool.and_true]
    have := valid_loop l hl hs l.length 0 (by omega)
    simpa [prevOf] using this
theorem svalid_loop (l : List S31) (hl : l.length ≤ 9223372036854775807) (hs : ∀ g ∈ l, g.f0.size ≤ 9223372036854775807) : ∀ d i, l.length - i = d → Ev (fun k => spec_GroupsValid.l0 k l (i : Int)) (gsFrom (prevOf l i) (l.drop i) && decide (l.length ≤ 8)) := by
  intro d
  induction d with
  | zero =>
    intro i hi
    refine Ev.step (fun k => by rw [spec_GroupsValid.l0]) ?_
    rw [List.drop_of_length_le (by omega)]
    simp only [if_neg (show ¬ ((i : Int) < (l.length : Int)) by omega)]
    rw [show decide ((l.length : Int) ≤ 8) = decide (l.length ≤ 8) from decide_eq_decide.2 (by omega)]
    exact Ev.now _
  | succ d ih =>
    intro i hi
    have hlt : i < l.length := by omega
    refine Ev.step (fun k => by rw [spec_GroupsValid.l0]) ?_
    simp only [if_pos (show ((i : Int) < (l.length : Int)) by omega), if_pos (show (0 : Int) ≤ (i : Int) by omega)]
    rw [drop_cons_get _ i hlt, rd_nat l i hlt]
    refine Ev.bind (l32Group_ev _ (hs _ (List.getElem_mem _))) ?_
    unfold gsFrom
    have hn := ih (i + 1) (by omega)
    rw [show prevOf l (i + 1) = some l[i] by unfold prevOf; simp [hlt]] at hn
    cases gOk l[i]
    · exact Ev.now _
    · simp only [if_true, Bool.true_and, w64 (a := (i : Int) + 1) (by omega) (by omega)]
      rcases Nat.eq_zero_or_pos i with h0 | h0
      · subst h0
        simp only [if_neg (show ¬ (((0 : Nat) : Int) > 0) by omega)]
        unfold prevOf
        simpa using hn
      · have hp : prevOf l i = some l[i - 1] := by
          unfold prevOf
          rw [if_neg (by omega)]
          simp [show i - 1 < l.length by omega]
        rw [hp]
        simp only [if_pos (show ((i : Int) > 0) by omega), w64 (a := (i : Int) - 1) (by omega) (by omega), if_pos (show (0 : Int) ≤ (i : Int) - 1 by omega), if_pos (show ((i : Int) - 1) < (l.length : Int) by omega)]
        rw [show ((i : Int) - 1) = ((i - 1 : Nat) : Int) by omega, rd_nat l (i - 1) (by omega)]
        cases Op.bytesLess l[i - 1].f0.toList l[i].f0.toList
        · exact Ev.now _
        · simpa using hn
theorem svalid_ev (l : List S31) (hl : l.length ≤ 9223372036854775807) (hs : ∀ g ∈ l, g.f0.size ≤ 9223372036854775807) : Ev (fun k => spec_GroupsValid.f k l) (gsOk l) := by
  unfold spec_GroupsValid.f gsOk
  have := svalid_loop l hl hs l.length 0 (by omega)
  simpa [prevOf] using this
end Go.Proofs.Ytlkbjipndlmjgaa.Pu

namespace Go.Proofs.Ytlkbjipndlmjgaa.Pu
open Go.RowKit Go.Proofs.YtlkbjipndlmjgaaW.PrintWords Go.Proofs.YtlkbjipndlmjgaaW.PrintLast Go.Proofs.YtlkbjipndlmjgaaW.PrintMore Go.Proofs.Ytlkbjipndlmjgaa.G
set_option linter.unusedVariables false
set_option linter.unusedSimpArgs false
theorem lenG_ok {l : List S56} (h : logOk l = true) : lenG l = true := by
  unfold lenG
  simp only [Bool.and_eq_true, decide_eq_true_eq, List.all_eq_true]
  have := logOk_len h
  refine ⟨by omega, fun b hb => ?_⟩
  obtain ⟨i, hi, rfl⟩ := List.getElem_of_mem hb
  have := batOk_len (logOk_bat h i hi)
  omega
def recsOf (l : List S56) : List S34 := l.flatMap fun b => b.f5
theorem recsOf_allP (l : List S56) : (allP l).map (fun x => x.2) = recsOf l := by
  unfold allP recsOf
  rw [List.map_flatMap]
  congr 1
  funext b
  rw [List.map_map]
  exact List.map_id _
def cntR (n : Int) (l : List S34) : Nat := (l.filter fun r => decide (n ≤ r.f0)).length
theorem cntR_allP (n : Int) (l : List S56) : leftN n (allP l) = cntR n (recsOf l) := by
  unfold leftN cntR
  rw [← recsOf_allP, List.filter_map, List.length_map]
  rfl
theorem cntR_cons (n : Int) (r : S34) (l : List S34) : cntR n (r :: l) = (if n ≤ r.f0 then 1 else 0) + cntR n l := by
  unfold cntR
  rw [List.filter_cons]
  by_cases h : n ≤ r.f0
  · rw [if_pos (decide_eq_true h), if_pos h, List.length_cons, Nat.add_comm]
  · rw [if_neg (by simpa using h), if_neg h, Nat.zero_add]
theorem recsOf_len {l : List S56} (h : logOk l = true) : ∀ i, (recsOf (l.take i)).length ≤ 6 * i := by
  intro i
  have key : ∀ (m : List S56), (∀ b ∈ m, b.f5.length ≤ 6) → (recsOf m).length ≤ 6 * m.length := by
    intro m
    induction m with
    | nil => intro _; simp [recsOf]
    | cons b m ih =>
      intro hm
      have h1 := ih fun x hx => hm x (List.mem_cons_of_mem _ hx)
      have h2 := hm b (List.mem_cons_self ..)
      unfold recsOf at h1 ⊢
      rw [List.flatMap_cons, List.length_append, List.length_cons]
      omega
  have h1 := key (l.take i) (fun b hb => by
    obtain ⟨j, hj, rfl⟩ := List.getElem_of_mem (List.mem_of_mem_take hb)
    exact (batOk_len (logOk_bat h j hj)).2)
  have h2 : (l.take i).length ≤ i := List.length_take_le _ _
  omega
theorem recsOf_all_len {l : List S56} (h : logOk l = true) : (recsOf l).length ≤ 48 := by
  have h1 := recsOf_len h l.length
  rw [List.take_length] at h1
  have := logOk_len h
  omega
/-- A loop that gathers all records. -/
theorem gather_ev (l : List S56) (h : logOk l = true) (L : Nat → List S34 → Int → Option (List S34))
    (hend : ∀ k m, L (k + 1) m (l.length : Int) = some m)
    (hstep : ∀ k m (i : Nat) (hi : i < l.length), m.length + l[i].f5.length < 1759218604441 → L (k + 1) m (i : Int) = L k (m ++ l[i].f5) ((i : Int) + 1)) : Ev (fun k => L k [] 0) (recsOf l) := by
  have hl := logOk_len h
  have key : ∀ d i, l.length - i = d → i ≤ l.length → Ev (fun k => L k (recsOf (l.take i)) (i : Int)) (recsOf l) := by
    intro d
    induction d with
    | zero =>
      intro i hd hi
      obtain rfl : i = l.length := by omega
      refine Ev.step (fun k => hend k _) ?_
      rw [List.take_length]
      exact Ev.now _
    | succ d ih =>
      intro i hd hi
      have hlt : i < l.length := by omega
      have h1 := recsOf_len h i
      have h2 := (batOk_len (logOk_bat h i hlt)).2
      refine Ev.step (fun k => hstep k _ i hlt (by omega)) ?_
      have e : recsOf (l.take i) ++ l[i].f5 = recsOf (l.take (i + 1)) := by
        unfold recsOf
        rw [List.take_succ_eq_append_getElem hlt, List.flatMap_append]
        simp
      rw [e]
      exact_mod_cast ih (i + 1) (by omega) (by omega)
  have := key l.length 0 (by omega) (by omega)
  simpa [recsOf] using this
theorem l14All_ev (l : List S56) (h : logOk l = true) : Ev (fun k => spec_l14All.f k l) (recsOf l) := by
  unfold spec_l14All.f
  have hl := logOk_len h
  exact gather_ev l h (fun k m i => spec_l14All.l0 k l m i)
    (fun k m => by simp only [spec_l14All.l0]; rw [if_neg (by omega)])
    (fun k m i hi hm => by simp only [spec_l14All.l0]; rw [if_pos (by omega), if_pos (by omega), rdB_nat l i hi, if_pos hm, w64 (by omega) (by omega)])
theorem rdG_nat' (l : List S31) (i : Nat) (h : i < l.length) : rd_T31 l (i : Int) = l[i] := by
  unfold rd_T31
  simp [h]
def findV (s : ByteArray) (R : List S34) (l0 : List S31) : Int := match l0.find? (fun g => decide (g.f0 = s)) with | some g => (cntR g.f1 R : Int) | none => -1
theorem findV_leftV (s : ByteArray) (l0 : List S31) (l : List S56) : leftV l0 s l = findV s (recsOf l) l0 := by
  unfold leftV findV
  cases l0.find? (fun g => decide (g.f0 = s)) with
  | none => rfl
  | some g => simp only [cntR_allP]
theorem sleft_cnt (l0 : List S31) (R : List S34) (hR : R.length ≤ 1000) (i : Nat) (hi : i < l0.length) : ∀ d j (c : Nat), R.length - j = d → j ≤ R.length → c ≤ j →
    Ev (fun k => spec_GroupsLeft.l1 k l0 R (i : Int) (c : Int) (j : Int)) ((c + cntR l0[i].f1 (R.drop j) : Nat) : Int) := by
  intro d
  induction d with
  | zero =>
    intro j c hd hj hc
    refine Ev.step (fun k => by rw [spec_GroupsLeft.l1]) ?_
    simp only [if_neg (show ¬ (j : Int) < (R.length : Int) by omega)]
    rw [List.drop_of_length_le (by omega)]
    exact Ev.now _
  | succ d ih =>
    intro j c hd hj hc
    have hlt : j < R.length := by omega
    refine Ev.step (fun k => by rw [spec_GroupsLeft.l1]) ?_
    simp only [if_pos (show (j : Int) < (R.length : Int) by omega), if_pos (show (0 : Int) ≤ (j : Int) by omega), if_pos (show (0 : Int) ≤ (i : Int) by omega), if_pos (show (i : Int) < (l0.length : Int) by omega), rdR_nat R j hlt, rdG_nat' l0 i hi, w64 (a := (j : Int) + 1) (by omega) (by omega), w64 (a := (c : Int) + 1) (by omega) (by omega)]
    rw [List.drop_eq_getElem_cons hlt, cntR_cons]
    by_cases h : R[j].f0 ≥ l0[i].f1
    · simp only [if_pos h]
      have := ih (j + 1) (c + 1) (by omega) (by omega) (by omega)
      rw [show c + (1 + cntR l0[i].f1 (R.drop (j + 1))) = c + 1 + cntR l0[i].f1 (R.drop (j + 1)) by omega]
      exact_mod_cast this
    · simp only [if_neg h]
      have := ih (j + 1) c (by omega) (by omega) (by omega)
      rw [Nat.zero_add]
      exact_mod_cast this
theorem sleft_loop (l0 : List S31) (s : ByteArray) (R : List S34) (hR : R.length ≤ 1000) (hl0 : l0.length ≤ 1000) : ∀ d i, l0.length - i = d → i ≤ l0.length →
    Ev (fun k => spec_GroupsLeft.l0 k l0 s R (i : Int)) (findV s R (l0.drop i)) := by
  intro d
  induction d with
  | zero =>
    intro i hd hi
    refine Ev.step (fun k => by rw [spec_GroupsLeft.l0]) ?_
    simp only [if_neg (show ¬ (i : Int) < (l0.length : Int) by omega)]
    rw [List.drop_of_length_le (by omega)]
    exact Ev.now _
  | succ d ih =>
    intro i hd hi
    have hlt : i < l0.length := by omega
    refine Ev.step (fun k => by rw [spec_GroupsLeft.l0]) ?_
    simp only [if_pos (show (i : Int) < (l0.length : Int) by omega), if_pos (show (0 : Int) ≤ (i : Int) by omega), rdG_nat' l0 i hlt, w64 (a := (i : Int) + 1) (by omega) (by omega)]
    rw [List.drop_eq_getElem_cons hlt]
    unfold findV
    by_cases h : l0[i].f0 = s
    · simp only [if_pos (show l0[i].f0.toList = s.toList by rw [h]), List.find?_cons, decide_eq_true h]
      have := sleft_cnt l0 R hR i hlt R.length 0 0 (by omega) (by omega) (by omega)
      simpa using this
    · simp only [if_neg (show ¬ l0[i].f0.toList = s.toList from fun e => h (ba_ext e)), List.find?_cons, decide_eq_false h]
      exact ih (i + 1) (by omega) (by omega)
def gleftV (l0 : List S31) (s : ByteArray) (l : List S56) : Int := if (gsOk l0 && logOk l) = true then findV s (recsOf l) l0 else -1
theorem gsOk_len {l : List S31} (h : gsOk l = true) : l.length ≤ 8 := by
  unfold gsOk at h
  simp only [Bool.and_eq_true, decide_eq_true_eq] at h
  omega
theorem GroupsLeft_ev (l0 : List S31) (s : ByteArray) (l : List S56) (hl : l0.length ≤ 9223372036854775807) (hs : ∀ g ∈ l0, g.f0.size ≤ 9223372036854775807) (hb : RowB l) : Ev (fun k => impl_GroupsLeft.f k l0 s l) (gleftV l0 s l) := by
  unfold impl_GroupsLeft.f gleftV
  refine Ev.bind (valid_ev l0 hl hs) ?_
  cases hg : gsOk l0
  · simp only [Bool.false_eq_true, if_false, Bool.false_and]
    exact Ev.now _
  · simp only [if_true, Bool.true_and]
    refine Ev.bind (LogValid_ev l hb) ?_
    cases hv : logOk l
    · exact Ev.now _
    · have := gsOk_len hg
      simp only [if_true, lenG_ok hv, decide_eq_true (show l0.length ≤ 100 by omega), Bool.and_self, findV_leftV]
      exact Ev.now _
theorem sGroupsLeft_ev (l0 : List S31) (s : ByteArray) (l : List S56) (hl : l0.length ≤ 9223372036854775807) (hs : ∀ g ∈ l0, g.f0.size ≤ 9223372036854775807) (hb : RowB l) : Ev (fun k => spec_GroupsLeft.f k l0 s l) (gleftV l0 s l) := by
  have bad : Ev (fun k => spec_GroupsLeft.j0 k l0 s l true) (-1) := by
    refine Ev.step (fun k => by rw [spec_GroupsLeft.j0]) ?_
    simp only [if_true]
    exact Ev.now _
  unfold spec_GroupsLeft.f gleftV
  refine Ev.bind (svalid_ev l0 hl hs) ?_
  cases hg : gsOk l0
  · simp only [Bool.false_eq_true, if_false, Bool.false_and]
    exact bad
  · simp only [if_true, Bool.true_and]
    refine Ev.bind (sLogValid_ev l hb) ?_
    cases hv : logOk l
    · exact bad
    · simp only [if_true, Bool.not_true]
      refine Ev.step (fun k => by rw [spec_GroupsLeft.j0]) ?_
      simp only [Bool.false_eq_true, if_false]
      refine Ev.bind (l14All_ev l hv) ?_
      have h1 := recsOf_all_len hv
      have h2 := gsOk_len hg
      have := sleft_loop l0 s (recsOf l) (by omega) (by omega) l0.length 0 (by omega) (by omega)
      simpa using this
end Go.Proofs.Ytlkbjipndlmjgaa.Pu

namespace Go.Proofs.Ytlkbjipndlmjgaa.Pu
open Go.RowKit Go.Proofs.YtlkbjipndlmjgaaW.PrintWords Go.Proofs.YtlkbjipndlmjgaaW.PrintLast Go.Proofs.YtlkbjipndlmjgaaW.PrintMore Go.Proofs.Ytlkbjipndlmjgaa.G
set_option linter.unusedVariables false
theorem allOf_ev (l : List S56) (h : logOk l = true) : Ev (fun k => laws_allOf.f k l) (recsOf l) := by
  unfold laws_allOf.f
  have hl := logOk_len h
  exact gather_ev l h (fun k m i => laws_allOf.l0 k l m i)
    (fun k m => by simp only [laws_allOf.l0]; rw [if_neg (by omega)])
    (fun k m i hi hm => by simp only [laws_allOf.l0]; rw [if_pos (by omega), if_pos (by omega), rdB_nat l i hi, if_pos hm, w64 (by omega) (by omega)])
end Go.Proofs.Ytlkbjipndlmjgaa.Pu

namespace Go.Proofs.Ytlkbjipndlmjgaa.Pu
open Go.RowKit Go.Proofs.YtlkbjipndlmjgaaW.PrintWords Go.Proofs.YtlkbjipndlmjgaaW.PrintLast Go.Proofs.Ytlkbjipndlmjgaa.G
set_option linter.unusedVariables false
set_option linter.unusedSimpArgs false
def putG (g : S31) : List S31 → List S31
  | [] => [g]
  | x :: xs => if Op.bytesLess x.f0.toList g.f0.toList = true then x :: putG g xs else g :: (x :: xs).filter (fun y => decide (y.f0.toList ≠ g.f0.toList))
def fin8 (l : List S31) : List S31 × Bool := if l.length > 8 then ([], false) else (l, true)
def gPut (l : List S31) (g : S31) : List S31 × Bool := if (gsOk l && gOk g) = true then fin8 (putG g l) else ([], false)
theorem fin8_if (l : List S31) : (if (l.length : Int) > 8 then (some ((([] : List S31)), false)) else (some (l, true))) = some (fin8 l) := by
  unfold fin8
  by_cases h : l.length > 8
  · rw [if_pos (show (l.length : Int) > 8 by omega), if_pos h]
  · rw [if_neg (show ¬ (l.length : Int) > 8 by omega), if_neg h]
theorem put_done (l : List S31) (g : S31) (hl : l.length ≤ 1048576) : ∀ d i (out : List S31), l.length - i = d → out.length ≤ i + 1 →
    Ev (fun k => spec_GroupsPut.l0 k l out true (i : Int) g.f0 g.f1) (fin8 (out ++ (l.drop i).filter (fun y => decide (y.f0.toList ≠ g.f0.toList)))) := by
  intro d
  induction d with
  | zero =>
    intro i out hi ho
    refine Ev.step (fun k => by rw [spec_GroupsPut.l0]) ?_
    simp only [if_neg (show ¬ ((i : Int) < (l.length : Int)) by omega), if_true]
    rw [List.drop_of_length_le (by omega)]
    simp only [List.filter_nil, List.append_nil, fin8_if]
    exact Ev.now _
  | succ d ih =>
    intro i out hi ho
    have hlt : i < l.length := by omega
    refine Ev.step (fun k => by rw [spec_GroupsPut.l0]) ?_
    simp only [if_pos (show ((i : Int) < (l.length : Int)) by omega), if_true]
    refine Ev.step (fun k => by rw [spec_GroupsPut.j2]) ?_
    simp only [Bool.false_eq_true, if_false, if_pos (show (0 : Int) ≤ (i : Int) by omega), if_pos (show ((i : Int) < (l.length : Int)) by omega), rd_nat l i hlt, w64 (a := (i : Int) + 1) (by omega) (by omega)]
    rw [drop_cons_get l i hlt, List.filter_cons]
    by_cases h : l[i].f0.toList = g.f0.toList
    · simp only [h, if_true, ne_eq, not_true_eq_false, decide_false, Bool.false_eq_true, if_false]
      exact ih (i + 1) out (by omega) (by omega)
    · simp only [if_neg h, ne_eq, h, not_false_eq_true, decide_true, if_true, if_pos (show out.length < 5864062014805 by omega)]
      have := ih (i + 1) (out ++ [l[i]]) (by omega) (by simp; omega)
      simp only [List.append_assoc, List.cons_append, List.nil_append] at this
      exact this
theorem put_not (l : List S31) (g : S31) (hl : l.length ≤ 1048576) : ∀ d i (out : List S31), l.length - i = d → i ≤ l.length → out.length ≤ i →
    Ev (fun k => spec_GroupsPut.l0 k l out false (i : Int) g.f0 g.f1) (fin8 (out ++ putG g (l.drop i))) := by
  intro d
  induction d with
  | zero =>
    intro i out hi hle ho
    refine Ev.step (fun k => by rw [spec_GroupsPut.l0]) ?_
    simp only [if_neg (show ¬ ((i : Int) < (l.length : Int)) by omega), Bool.false_eq_true, if_false]
    rw [List.drop_of_length_le (by omega)]
    have hlim : out.length < 5864062014805 := by omega
    simp only [if_pos hlim, Option.bind_some, fin8_if, putG]
    exact Ev.now _
  | succ d ih =>
    intro i out hi hle ho
    have hlt : i < l.length := by omega
    refine Ev.step (fun k => by rw [spec_GroupsPut.l0]) ?_
    simp only [if_pos (show ((i : Int) < (l.length : Int)) by omega), Bool.false_eq_true, if_false, if_pos (show (0 : Int) ≤ (i : Int) by omega), rd_nat l i hlt]
    refine Ev.step (fun k => by rw [spec_GroupsPut.j2]) ?_
    rw [drop_cons_get l i hlt]
    simp only [if_pos (show (0 : Int) ≤ (i : Int) by omega), if_pos (show ((i : Int) < (l.length : Int)) by omega), rd_nat l i hlt, w64 (a := (i : Int) + 1) (by omega) (by omega), putG]
    by_cases h : Op.bytesLess l[i].f0.toList g.f0.toList = true
    · have hne : ¬ l[i].f0.toList = g.f0.toList := by
        intro e
        rw [e, less_irrefl] at h
        exact absurd h (by simp)
      simp only [h, Bool.not_true, Bool.false_eq_true, if_false, if_neg hne, if_true, if_pos (show out.length < 5864062014805 by omega)]
      have := ih (i + 1) (out ++ [l[i]]) (by omega) (by omega) (by simp; omega)
      simp only [List.append_assoc, List.cons_append, List.nil_append] at this
      exact this
    · simp only [h, Bool.not_false, if_true, if_false, if_pos (show out.length < 5864062014805 by omega), Option.bind_some, Bool.false_eq_true]
      rw [List.filter_cons]
      by_cases he : l[i].f0.toList = g.f0.toList
      · simp only [he, if_true, ne_eq, not_true_eq_false, decide_false, Bool.false_eq_true, if_false]
        have := put_done l g hl (l.length - (i + 1)) (i + 1) (out ++ [g]) rfl (by simp; omega)
        simp only [List.append_assoc, List.cons_append, List.nil_append, ne_eq] at this
        exact this
      · simp only [ne_eq, he, if_false, not_false_eq_true, decide_true, if_true, if_pos (show (out ++ [g]).length < 5864062014805 by simp; omega)]
        have := put_done l g hl (l.length - (i + 1)) (i + 1) (out ++ [g] ++ [l[i]]) rfl (by simp; omega)
        have e : ∀ F : List S31, (out ++ [g] ++ [l[i]]) ++ F = out ++ (g :: l[i] :: F) := by intro F; simp
        rw [e] at this
        simp only [ne_eq] at this
        exact this
theorem gPut_ev (l : List S31) (g : S31) (hl : l.length ≤ 1048576) (hs : ∀ x ∈ l, x.f0.size ≤ 9223372036854775807) (hg : g.f0.size ≤ 9223372036854775807) :
    Ev (fun k => spec_GroupsPut.f k l g.f0 g.f1) (gPut l g) := by
  unfold spec_GroupsPut.f gPut
  refine Ev.bind (svalid_ev l (by omega) hs) ?_
  cases gsOk l
  · simp only [Bool.false_eq_true, if_false, Bool.false_and]
    refine Ev.step (fun k => by rw [spec_GroupsPut.j0]) ?_
    simp only [if_true]
    exact Ev.now _
  · simp only [if_true, Bool.true_and]
    refine Ev.bind (l32Group_ev g hg) ?_
    refine Ev.step (fun k => by rw [spec_GroupsPut.j0]) ?_
    cases gOk g
    · simp only [Bool.not_false, if_true, Bool.false_eq_true, if_false]
      exact Ev.now _
    · simp only [Bool.not_true, Bool.false_eq_true, if_false, if_true]
      have := put_not l g hl l.length 0 [] (by omega) (by omega) (by simp)
      simpa using this
theorem putG_mem (g : S31) : ∀ (l : List S31) x, x ∈ putG g l → x = g ∨ x ∈ l
  | [], x, h => by simp [putG] at h; exact .inl h
  | y :: ys, x, h => by
    unfold putG at h
    split at h
    · rcases List.mem_cons.1 h with rfl | h
      · exact .inr (by simp)
      · rcases putG_mem g ys x h with h | h
        · exact .inl h
        · exact .inr (by simp [h])
    · rcases List.mem_cons.1 h with rfl | h
      · exact .inl rfl
      · exact .inr ((List.mem_filter.1 h).1)
theorem gPut_mem {l : List S31} {g : S31} {x : S31} (h : x ∈ (gPut l g).1) : x = g ∨ x ∈ l := by
  unfold gPut at h
  split at h
  · unfold fin8 at h
    split at h
    · simp at h
    · exact putG_mem g l x h
  · simp at h
theorem gPut_len (l : List S31) (g : S31) : (gPut l g).1.length ≤ 8 := by
  unfold gPut
  split
  · unfold fin8
    split
    · simp
    · rename_i h
      simpa using h
  · simp
end Go.Proofs.Ytlkbjipndlmjgaa.Pu

namespace Go.Proofs.Ytlkbjipndlmjgaa.Pu
open Go.RowKit Go.Proofs.YtlkbjipndlmjgaaW.PrintWords Go.Proofs.YtlkbjipndlmjgaaW.PrintLast Go.Proofs.Ytlkbjipndlmjgaa.G
set_option linter.unusedVariables false
set_option linter.unusedSimpArgs false
theorem xor_i64 (a b : Int) (h0 : 0 ≤ a) (h1 : a < 4611686018427387904) (k0 : 0 ≤ b) (k1 : b < 4611686018427387904) : 0 ≤ bits .xor .i64 a b := by
  obtain ⟨a, rfl⟩ := Int.eq_ofNat_of_zero_le h0
  obtain ⟨b, rfl⟩ := Int.eq_ofNat_of_zero_le k0
  have ha : a < 2 ^ 62 := by omega
  have hb : b < 2 ^ 62 := by omega
  have hx := Nat.xor_lt_two_pow ha hb
  have ha' : a % 2 ^ 64 = a := Nat.mod_eq_of_lt (by omega)
  have hb' : b % 2 ^ 64 = b := Nat.mod_eq_of_lt (by omega)
  show 0 ≤ IntKind.i64.wrap ((BitVec.ofInt 64 (a : Int) ^^^ BitVec.ofInt 64 (b : Int)).toNat : Int)
  rw [BitVec.ofInt_natCast, BitVec.ofInt_natCast, BitVec.toNat_xor, BitVec.toNat_ofNat, BitVec.toNat_ofNat, ha', hb', IntKind.wrap_i64]
  omega
theorem rd_range {b : List Int} (hb : ∀ x ∈ b, 0 ≤ x ∧ x ≤ 255) (i : Int) : 0 ≤ rd b i ∧ rd b i ≤ 255 := by
  unfold rd
  rw [List.getD_eq_getElem?_getD]
  rcases h : b[i.toNat]? with _ | x
  · simp
  · exact hb x (List.mem_of_getElem? h)
theorem mod_range {x n : Int} (h0 : 0 ≤ x) (h1 : 1 ≤ n) : 0 ≤ Int.tmod x n ∧ Int.tmod x n < n := by
  rw [Int.tmod_eq_emod_of_nonneg h0]
  exact ⟨Int.emod_nonneg _ (by omega), Int.emod_lt_of_pos _ (by omega)⟩
/-- A code that is read: bytes, and a place that is no great number. -/
def CodeOk (b : List Int) : Prop := b.length ≤ 2000 ∧ ∀ x ∈ b, 0 ≤ x ∧ x ≤ 255
theorem pick_ends {b : List Int} (hb : CodeOk b) (p n : Int) (h0 : 0 ≤ p) (h1 : p ≤ 1000000000) (hn : n ≤ 4611686018427387904) :
    EndsIn (fun k => spec_l6Rd_pick.f k b p n) (fun r => r.2 = p + 1 ∧ 0 ≤ r.1 ∧ (1 ≤ n → r.1 < n) ∧ (n < 1 → r.1 = 0)) := by
  obtain ⟨hl, hr⟩ := hb
  unfold spec_l6Rd_pick.f
  rw [w64 (a := p + 1) (by omega) (by omega)]
  by_cases hn1 : n < 1
  · simp only [if_pos hn1]
    refine EndsIn.step (fun k => by rw [spec_l6Rd_pick.j0]) ?_
    simp only [if_true]
    exact EndsIn.now _ ⟨rfl, by omega, by omega, fun _ => rfl⟩
  · simp only [if_neg hn1]
    refine EndsIn.step (fun k => by rw [spec_l6Rd_pick.j0]) ?_
    rw [show p + 1 - 1 = p by omega, w64 (a := p) (by omega) (by omega)]
    by_cases hz : (b.length : Int) = 0
    · have : ((b.length : Int) == 0) = true := by simpa using hz
      simp only [this, if_true]
      exact EndsIn.now _ ⟨rfl, by omega, by omega, fun h => by omega⟩
    · have hz' : ((b.length : Int) == 0) = false := by simpa using hz
      simp only [hz', Bool.false_eq_true, if_false]
      by_cases hp : p < (b.length : Int)
      · have hx := rd_range hr p
        simp only [if_pos hp, if_pos h0, if_neg (show ¬ n = 0 by omega)]
        rw [w64 (a := rd b p) (by omega) (by omega)]
        have hm := mod_range (x := rd b p) (n := n) hx.1 (by omega)
        exact EndsIn.now _ ⟨rfl, hm.1, fun _ => hm.2, fun h => by omega⟩
      · have hm1 := mod_range (x := p) (n := (b.length : Int)) h0 (by omega)
        have h7 : wrap64 (wrap64 (p * 7) + 3) = p * 7 + 3 := by
          rw [w64 (a := p * 7) (by omega) (by omega), w64 (by omega) (by omega)]
        have hm2 := mod_range (x := p * 7 + 3) (n := (b.length : Int)) (by omega) (by omega)
        simp only [if_neg hp, if_neg hz, h7, if_pos hm1.1, if_pos hm1.2, if_pos hm2.1, if_pos hm2.2, if_neg (show ¬ n = 0 by omega)]
        have hx1 := rd_range hr (Int.tmod p b.length)
        have hx2 := rd_range hr (Int.tmod (p * 7 + 3) b.length)
        generalize rd b (Int.tmod p b.length) = x1 at hx1 ⊢
        generalize rd b (Int.tmod (p * 7 + 3) b.length) = x2 at hx2 ⊢
        have hd : 0 ≤ Int.tdiv p (b.length : Int) ∧ Int.tdiv p (b.length : Int) ≤ p := by
          rw [Int.tdiv_eq_ediv_of_nonneg h0]
          exact ⟨Int.ediv_nonneg h0 (by omega), Int.ediv_le_self _ h0⟩
        generalize Int.tdiv p (b.length : Int) = q at hd ⊢
        have e1 : wrap64 x1 = x1 := w64 (by omega) (by omega)
        have e2 : wrap64 x2 = x2 := w64 (by omega) (by omega)
        have e3 : wrap64 (x1 * 131) = x1 * 131 := w64 (by omega) (by omega)
        have e4 : wrap64 (x2 * 1117) = x2 * 1117 := w64 (by omega) (by omega)
        have e5 : wrap64 (x1 * 131 + x2 * 1117) = x1 * 131 + x2 * 1117 := w64 (by omega) (by omega)
        have e6 : wrap64 (p * 29) = p * 29 := w64 (by omega) (by omega)
        have e7 : wrap64 (x1 * 131 + x2 * 1117 + p * 29) = x1 * 131 + x2 * 1117 + p * 29 := w64 (by omega) (by omega)
        have e8 : wrap64 q = q := w64 (by omega) (by omega)
        have e9 : wrap64 (q * 53) = q * 53 := w64 (by omega) (by omega)
        have e10 : wrap64 (x1 * 131 + x2 * 1117 + p * 29 + q * 53) = x1 * 131 + x2 * 1117 + p * 29 + q * 53 := w64 (by omega) (by omega)
        simp only [e1, e2, e3, e4, e5, e6, e7, e8, e9, e10]
        have hX : 0 ≤ x1 * 131 + x2 * 1117 + p * 29 + q * 53 ∧ x1 * 131 + x2 * 1117 + p * 29 + q * 53 < 4611686018427387904 := ⟨by omega, by omega⟩
        generalize x1 * 131 + x2 * 1117 + p * 29 + q * 53 = X at hX ⊢
        have e11 : wrap64 (Int.tdiv X 64) = X / 64 := by
          rw [Int.tdiv_eq_ediv_of_nonneg hX.1]
          exact w64 (by omega) (by omega)
        rw [e11]
        have hxx := xor_i64 X (X / 64) hX.1 hX.2 (by omega) (by omega)
        have hm := mod_range (n := n) hxx (by omega)
        exact EndsIn.now _ ⟨rfl, hm.1, fun _ => hm.2, fun h => by omega⟩
end Go.Proofs.Ytlkbjipndlmjgaa.Pu

namespace Go.Proofs.Ytlkbjipndlmjgaa.Pu
open Go.RowKit Go.Proofs.YtlkbjipndlmjgaaW.PrintWords Go.Proofs.YtlkbjipndlmjgaaW.PrintLast Go.Proofs.Ytlkbjipndlmjgaa.G
set_option linter.unusedVariables false
set_option linter.unusedSimpArgs false
theorem open_some (l0 : List Int) (hr : ∀ x ∈ l0, 0 ≤ x ∧ x ≤ 255) : ∃ b, spec_l6Open.f l0 = some (b, 0) ∧ CodeOk b := by
  unfold spec_l6Open.f
  by_cases h : (l0.length : Int) > 2000
  · rw [if_pos h, if_pos (by omega)]
    exact ⟨_, rfl, by rw [List.length_take]; omega, fun x hx => hr x (List.mem_of_mem_take hx)⟩
  · rw [if_neg h]
    exact ⟨_, rfl, by omega, hr⟩
end Go.Proofs.Ytlkbjipndlmjgaa.Pu

namespace Go.Proofs.Ytlkbjipndlmjgaa.Pu
open Go.RowKit Go.Proofs.YtlkbjipndlmjgaaW.PrintWords Go.Proofs.YtlkbjipndlmjgaaW.PrintLast Go.Proofs.Ytlkbjipndlmjgaa.G
set_option linter.unusedVariables false
set_option linter.unusedSimpArgs false
theorem of_ends {b : List Int} (hb : CodeOk b) (p : Int) (l : List ByteArray) (h0 : 0 ≤ p) (h1 : p ≤ 1000000000) (hl : 1 ≤ l.length) (hl2 : l.length ≤ 1000000) :
    EndsIn (fun k => spec_l6Rd_of.f k b p l) (fun r => r.2 = p + 1 ∧ r.1 ∈ l) := by
  unfold spec_l6Rd_of.f
  refine EndsIn.bind (pick_ends hb p (l.length : Int) h0 h1 (by omega)) fun r hr => ?_
  obtain ⟨h2, h3, h4, _⟩ := hr
  have h5 := h4 (by omega)
  simp only [if_pos h3, if_pos h5]
  refine EndsIn.now _ ⟨h2, ?_⟩
  unfold rdOf
  rw [List.getD_eq_getElem?_getD, List.getElem?_eq_getElem (by omega)]
  exact List.getElem_mem _
/-- What is drawn: at most so many groups, each with a short name and a small number. -/
def DrG (l : List S31) : Prop := l.length ≤ 8 ∧ ∀ g ∈ l, g.f0.size ≤ 7 ∧ 0 ≤ g.f1 ∧ g.f1 ≤ 100
theorem DrG.size {l : List S31} (h : DrG l) : ∀ g ∈ l, g.f0.size ≤ 9223372036854775807 := fun g hg => by have := (h.2 g hg).1; omega
theorem drawG_j {b : List Int} (hb : CodeOk b) (l : List S31) (hl : DrG l) (hl0 : 1 ≤ l.length) (c : Bool) (hc : c = true → 1 ≤ l.length) (p : Int) (h0 : 0 ≤ p) (h1 : p ≤ 900000000) :
    EndsIn (fun k => spec_l92Groups.j1 k l c b p) (fun r => DrG r.1 ∧ p ≤ r.2 ∧ r.2 ≤ p + 10) := by
  refine EndsIn.step (fun k => by rw [spec_l92Groups.j1]) ?_
  cases c
  · simp only [Bool.false_eq_true, if_false]
    exact EndsIn.now _ ⟨hl, by omega, by omega⟩
  · simp only [if_true]
    have hl8 := hl.1
    refine EndsIn.bind (pick_ends hb p (l.length : Int) h0 (by omega) (by omega)) fun r hr => ?_
    obtain ⟨e2, h3, h4, _⟩ := hr
    have h5 := h4 (by omega)
    rw [e2]
    refine EndsIn.bind (of_ends hb (p + 1) _ (by omega) (by omega) (by decide) (by decide)) fun q hq => ?_
    obtain ⟨q2, q1⟩ := hq
    simp only [if_pos h3, if_pos h5]
    refine EndsIn.now _ ⟨⟨by rw [List.length_set]; exact hl8, fun g hg => ?_⟩, by omega, by omega⟩
    rcases List.mem_or_eq_of_mem_set hg with hg | rfl
    · exact hl.2 g hg
    · have hm : rd_T31 l r.1 ∈ l := by
        unfold rd_T31
        rw [List.getD_eq_getElem?_getD, List.getElem?_eq_getElem (by omega)]
        exact List.getElem_mem _
      refine ⟨?_, (hl.2 _ hm).2⟩
      simp only [List.mem_cons, List.not_mem_nil, or_false] at q1
      rcases q1 with q1 | q1 | q1 <;> (show q.1.size ≤ 7; rw [q1]; decide)
theorem drawG_loop {b : List Int} (hb : CodeOk b) (n : Int) (hn : n ≤ 5) : ∀ d (i : Nat) (l : List S31) (p : Int), 5 - i = d → i ≤ 5 → DrG l → 0 ≤ p → p ≤ 100 * (i : Int) + 100 →
    EndsIn (fun k => spec_l92Groups.l0 k l n (i : Int) b p) (fun r => DrG r.1 ∧ p ≤ r.2 ∧ r.2 ≤ 10000) := by
  intro d
  induction d with
  | zero =>
    intro i l p hi hle hl h0 h1
    obtain rfl : i = 5 := by omega
    refine EndsIn.step (fun k => by rw [spec_l92Groups.l0]) ?_
    simp only [if_neg (show ¬ (((5 : Nat) : Int) < n) by omega)]
    by_cases hz : (l.length : Int) > 0
    · simp only [if_pos hz]
      refine EndsIn.bind (pick_ends hb p 24 h0 (by omega) (by omega)) fun r hr => ?_
      rw [hr.1]
      exact (drawG_j hb l hl (by omega) _ (fun _ => by omega) (p + 1) (by omega) (by omega)).mono fun r hr => ⟨hr.1, by omega, by omega⟩
    · simp only [if_neg hz]
      refine EndsIn.step (fun k => by rw [spec_l92Groups.j1]) ?_
      simp only [Bool.false_eq_true, if_false]
      exact EndsIn.now _ ⟨hl, by omega, by omega⟩
  | succ d ih =>
    intro i l p hi hle hl h0 h1
    refine EndsIn.step (fun k => by rw [spec_l92Groups.l0]) ?_
    by_cases hin : (i : Int) < n
    · simp only [if_pos hin]
      refine EndsIn.bind (of_ends hb p _ h0 (by omega) (by decide) (by decide)) fun r hr => ?_
      obtain ⟨r2, r1⟩ := hr
      rw [r2]
      refine EndsIn.bind (pick_ends hb (p + 1) 20 (by omega) (by omega) (by omega)) fun q hq => ?_
      obtain ⟨q2, q3, q4, _⟩ := hq
      have q5 := q4 (by omega)
      have hsz : r.1.size ≤ 7 := by
        simp only [List.mem_cons, List.not_mem_nil, or_false] at r1
        rcases r1 with r1 | r1 | r1 | r1 | r1 | r1 | r1 | r1 <;> (rw [r1]; decide)
      have hev := gPut_ev l ⟨r.1, q.1⟩ (by have := hl.1; omega) hl.size (by show r.1.size ≤ _; omega)
      have hd : DrG (gPut l ⟨r.1, q.1⟩).1 := ⟨gPut_len _ _, fun g hg => by
        rcases gPut_mem hg with rfl | hg
        · exact ⟨hsz, q3, by show q.1 ≤ 100; omega⟩
        · exact hl.2 g hg⟩
      refine EndsIn.bind (P := fun x => x = gPut l ⟨r.1, q.1⟩) ⟨_, hev, rfl⟩ fun x hx => ?_
      subst hx
      rw [q2, w64 (a := (i : Int) + 1) (by omega) (by omega)]
      cases (gPut l ⟨r.1, q.1⟩).2
      · simp only [Bool.false_eq_true, if_false]
        exact (ih (i + 1) l (p + 1 + 1) (by omega) (by omega) hl (by omega) (by omega)).mono fun r hr => ⟨hr.1, by omega, hr.2.2⟩
      · simp only [if_true]
        exact (ih (i + 1) _ (p + 1 + 1) (by omega) (by omega) hd (by omega) (by omega)).mono fun r hr => ⟨hr.1, by omega, hr.2.2⟩
    · simp only [if_neg hin]
      by_cases hz : (l.length : Int) > 0
      · simp only [if_pos hz]
        refine EndsIn.bind (pick_ends hb p 24 h0 (by omega) (by omega)) fun r hr => ?_
        rw [hr.1]
        exact (drawG_j hb l hl (by omega) _ (fun _ => by omega) (p + 1) (by omega) (by omega)).mono fun r hr => ⟨hr.1, by omega, by omega⟩
      · simp only [if_neg hz]
        refine EndsIn.step (fun k => by rw [spec_l92Groups.j1]) ?_
        simp only [Bool.false_eq_true, if_false]
        exact EndsIn.now _ ⟨hl, by omega, by omega⟩
theorem drawGroups_ends {b : List Int} (hb : CodeOk b) : EndsIn (fun k => spec_l92Groups.f k b 0) (fun r => DrG r.1 ∧ 0 ≤ r.2 ∧ r.2 ≤ 10000) := by
  unfold spec_l92Groups.f
  refine EndsIn.bind (pick_ends hb 0 6 (by omega) (by omega) (by omega)) fun r hr => ?_
  obtain ⟨r2, r3, r4, _⟩ := hr
  have r5 := r4 (by omega)
  rw [r2]
  have := drawG_loop hb r.1 (by omega) 5 0 [] (0 + 1) (by omega) (by omega) ⟨by simp, by simp⟩ (by omega) (by omega)
  exact this.mono fun q hq => ⟨hq.1, by omega, hq.2.2⟩
end Go.Proofs.Ytlkbjipndlmjgaa.Pu

namespace Go.Proofs.Ytlkbjipndlmjgaa.Pu
open Go.RowKit Go.Proofs.YtlkbjipndlmjgaaW.PrintWords Go.Proofs.YtlkbjipndlmjgaaW.PrintLast Go.Proofs.YtlkbjipndlmjgaaW.PrintMore Go.Proofs.Ytlkbjipndlmjgaa.G
set_option linter.unusedVariables false
set_option linter.unusedSimpArgs false
theorem part_loop {b : List Int} (hb : CodeOk b) (n : Int) (hn : n ≤ 12) : ∀ d (i : Nat) (l : List Int) (p : Int), 12 - i = d → l.length = i → i ≤ 12 → 0 ≤ p → p ≤ 900000000 + 2 * (i : Int) →
    EndsIn (fun k => spec_l91Part.l0 k l n (i : Int) b p) (fun r => r.2.1.length ≤ 12 ∧ p ≤ r.2.2 ∧ r.2.2 ≤ p + 2 * (12 - (i : Int))) := by
  intro d
  induction d with
  | zero =>
    intro i l p hd hl hi p0 p1
    refine EndsIn.step (fun k => by rw [spec_l91Part.l0]) ?_
    simp only [if_neg (show ¬ (i : Int) < n by omega)]
    exact EndsIn.now _ ⟨by show l.length ≤ 12; omega, by show p ≤ p; omega, by show p ≤ _; omega⟩
  | succ d ih =>
    intro i l p hd hl hi p0 p1
    refine EndsIn.step (fun k => by rw [spec_l91Part.l0]) ?_
    by_cases h : (i : Int) < n
    · simp only [if_pos h]
      refine EndsIn.bind (pick_ends hb p 256 p0 (by omega) (by omega)) fun q hq => ?_
      obtain ⟨q2, q3, q4, _⟩ := hq
      simp only [bindS]
      rw [q2]
      refine EndsIn.bind (pick_ends hb (p + 1) 4 (by omega) (by omega) (by omega)) fun s hs => ?_
      obtain ⟨s2, s3, s4, _⟩ := hs
      have s5 := s4 (by omega)
      rw [s2]
      simp only [if_pos s3, if_pos (show s.1 < (([1, 2, 3, q.1] : List Int).length : Int) by simpa using s5), if_pos (show l.length < 17592186044416 by omega), w64 (a := (i : Int) + 1) (by omega) (by omega)]
      have := ih (i + 1) (l ++ [rd [1, 2, 3, q.1] s.1]) (p + 1 + 1) (by omega) (by rw [List.length_append, hl]; rfl) (by omega) (by omega) (by omega)
      exact this.mono fun r hr => ⟨hr.1, by omega, by omega⟩
    · simp only [if_neg h]
      exact EndsIn.now _ ⟨by show l.length ≤ 12; omega, by show p ≤ p; omega, by show p ≤ _; omega⟩
theorem part_ends {b : List Int} (hb : CodeOk b) (p : Int) (h0 : 0 ≤ p) (h1 : p ≤ 800000000) : EndsIn (fun k => spec_l91Part.f k b p) (fun r => r.2.1.length ≤ 12 ∧ p ≤ r.2.2 ∧ r.2.2 ≤ p + 30) := by
  have st : ∀ (n q : Int), n ≤ 12 → p ≤ q → q ≤ p + 5 → EndsIn (fun k => spec_l91Part.j0 k [] n b q) (fun r => r.2.1.length ≤ 12 ∧ p ≤ r.2.2 ∧ r.2.2 ≤ p + 30) := by
    intro n q hn q0 q1
    refine EndsIn.step (fun k => by rw [spec_l91Part.j0]) ?_
    have := part_loop hb n hn 12 0 [] q (by omega) rfl (by omega) (by omega) (by omega)
    exact this.mono fun r hr => ⟨hr.1, by omega, by omega⟩
  unfold spec_l91Part.f
  refine EndsIn.bind (pick_ends hb p 4 h0 (by omega) (by omega)) fun q hq => ?_
  obtain ⟨q2, q3, q4, _⟩ := hq
  rw [q2]
  by_cases hz : q.1 = 0
  · simp only [if_pos hz]
    exact EndsIn.now _ ⟨by simp, by show p ≤ p + 1; omega, by show p + 1 ≤ p + 30; omega⟩
  · simp only [if_neg hz, bindS]
    refine EndsIn.bind (pick_ends hb (p + 1) 5 (by omega) (by omega) (by omega)) fun s hs => ?_
    obtain ⟨s2, s3, s4, _⟩ := hs
    have s5 := s4 (by omega)
    rw [s2]
    refine EndsIn.bind (pick_ends hb (p + 1 + 1) 12 (by omega) (by omega) (by omega)) fun u hu => ?_
    obtain ⟨u2, u3, u4, _⟩ := hu
    rw [u2]
    by_cases hu0 : u.1 = 0
    · simp only [if_pos hu0]
      exact st _ _ (by omega) (by omega) (by omega)
    · simp only [if_neg hu0]
      exact st _ _ (by omega) (by omega) (by omega)
def Small (r : S34) : Prop := r.f3.length ≤ 12 ∧ r.f5.length ≤ 12
theorem recs_loop {b : List Int} (hb : CodeOk b) (n : Int) (hn : n ≤ 6) : ∀ d (i : Nat) (l : List S34) (o t p : Int), 6 - i = d → l.length = i → i ≤ 6 → (∀ r ∈ l, Small r) → 0 ≤ p → p ≤ 700000000 + 100 * (i : Int) →
    EndsIn (fun k => spec_l91Records.l0 k o l n t (i : Int) b p) (fun r => (∀ x ∈ r.1, Small x) ∧ (n ≤ (r.1.length : Int)) ∧ r.1.length ≤ 6 ∧ p ≤ r.2 ∧ r.2 ≤ p + 100 * (6 - (i : Int))) := by
  have stop : ∀ (i : Nat) (l : List S34) (o t p : Int), l.length = i → i ≤ 6 → (∀ r ∈ l, Small r) → ¬ (i : Int) < n →
      EndsIn (fun k => spec_l91Records.l0 k o l n t (i : Int) b p) (fun r => (∀ x ∈ r.1, Small x) ∧ (n ≤ (r.1.length : Int)) ∧ r.1.length ≤ 6 ∧ p ≤ r.2 ∧ r.2 ≤ p + 100 * (6 - (i : Int))) := by
    intro i l o t p hl hi hs h
    refine EndsIn.step (fun k => by rw [spec_l91Records.l0]) ?_
    simp only [if_neg h]
    exact EndsIn.now _ ⟨hs, by show n ≤ (l.length : Int); omega, by show l.length ≤ 6; omega, by show p ≤ p; omega, by show p ≤ _; omega⟩
  intro d
  induction d with
  | zero =>
    intro i l o t p hd hl hi hs p0 p1
    exact stop i l o t p hl hi hs (by omega)
  | succ d ih =>
    intro i l o t p hd hl hi hs p0 p1
    by_cases h : (i : Int) < n
    · refine EndsIn.step (fun k => by rw [spec_l91Records.l0]) ?_
      simp only [if_pos h]
      refine EndsIn.bind (part_ends hb p p0 (by omega)) fun q hq => ?_
      obtain ⟨q1, q2, q3⟩ := hq
      refine EndsIn.bind (part_ends hb q.2.2 (by omega) (by omega)) fun s hs' => ?_
      obtain ⟨s1, s2, s3⟩ := hs'
      have st : ∀ (c : Bool) (u : Int), s.2.2 ≤ u → u ≤ s.2.2 + 2 → EndsIn (fun k => spec_l91Records.j1 k o l n t (i : Int) s.1 s.2.1 c b u o t q.1 q.2.1 false) (fun r => (∀ x ∈ r.1, Small x) ∧ (n ≤ (r.1.length : Int)) ∧ r.1.length ≤ 6 ∧ p ≤ r.2 ∧ r.2 ≤ p + 100 * (6 - (i : Int))) := by
        intro c u u0 u1
        refine EndsIn.step (fun k => by rw [spec_l91Records.j1]) ?_
        have nx : ∀ (x : S34) (o' t' v : Int), Small x → u ≤ v → v ≤ u + 5 → EndsIn (fun k => spec_l91Records.l0 k o' (l ++ [x]) n t' ((i : Int) + 1) b v) (fun r => (∀ x ∈ r.1, Small x) ∧ (n ≤ (r.1.length : Int)) ∧ r.1.length ≤ 6 ∧ p ≤ r.2 ∧ r.2 ≤ p + 100 * (6 - (i : Int))) := by
          intro x o' t' v hx v0 v1
          have := ih (i + 1) (l ++ [x]) o' t' v (by omega) (by rw [List.length_append, hl]; rfl) (by omega) (fun r hr => by
            rcases List.mem_append.1 hr with hr | hr
            · exact hs r hr
            · rw [List.mem_singleton] at hr
              rw [hr]
              exact hx) (by omega) (by omega)
          exact this.mono fun r hr => ⟨hr.1, hr.2.1, hr.2.2.1, by omega, by omega⟩
        cases c
        · simp only [Bool.false_eq_true, if_false, if_pos (show l.length < 1759218604441 by omega)]
          refine EndsIn.bind (pick_ends hb u 5 (by omega) (by omega) (by omega)) fun v hv => ?_
          rw [hv.1]
          refine EndsIn.bind (pick_ends hb (u + 1) 30 (by omega) (by omega) (by omega)) fun z hz => ?_
          rw [hz.1, w64 (a := (i : Int) + 1) (by omega) (by omega)]
          exact nx _ _ _ _ ⟨q1, s1⟩ (by omega) (by omega)
        · simp only [if_true, if_pos (show l.length < 1759218604441 by omega)]
          refine EndsIn.bind (pick_ends hb u 3 (by omega) (by omega) (by omega)) fun y hy => ?_
          rw [hy.1]
          refine EndsIn.bind (pick_ends hb (u + 1) 5 (by omega) (by omega) (by omega)) fun v hv => ?_
          rw [hv.1]
          refine EndsIn.bind (pick_ends hb (u + 1 + 1) 30 (by omega) (by omega) (by omega)) fun z hz => ?_
          rw [hz.1, w64 (a := (i : Int) + 1) (by omega) (by omega)]
          exact nx _ _ _ _ ⟨by show 1 ≤ 12; omega, s1⟩ (by omega) (by omega)
      cases hq1 : q.1
      · simp only [Bool.false_eq_true, if_false]
        have := st false s.2.2 (by omega) (by omega)
        rw [hq1] at this
        exact this
      · simp only [if_true]
        refine EndsIn.bind (pick_ends hb s.2.2 2 (by omega) (by omega) (by omega)) fun y hy => ?_
        rw [hy.1]
        have := st (y.1 == 0) (s.2.2 + 1) (by omega) (by omega)
        rw [hq1] at this
        exact this
    · exact stop i l o t p hl hi hs h
/-- Some records: one at least. -/
theorem recs_ends {b : List Int} (hb : CodeOk b) (p a n : Int) (h0 : 0 ≤ p) (h1 : p ≤ 600000000) (hn1 : 1 ≤ n) (hn : n ≤ 5) :
    EndsIn (fun k => spec_l91Records.f k b p a n) (fun r => (∀ x ∈ r.1, Small x) ∧ 1 ≤ r.1.length ∧ r.1.length ≤ 6 ∧ p ≤ r.2 ∧ r.2 ≤ p + 700) := by
  unfold spec_l91Records.f
  refine EndsIn.bind (pick_ends hb p n h0 (by omega) (by omega)) fun q hq => ?_
  obtain ⟨q2, q3, q4, _⟩ := hq
  have q5 := q4 (by omega)
  rw [q2]
  refine EndsIn.bind (pick_ends hb (p + 1) 200 (by omega) (by omega) (by omega)) fun s hs => ?_
  rw [hs.1, w64 (a := 1 + q.1) (by omega) (by omega)]
  have := recs_loop hb (1 + q.1) (by omega) 6 0 [] a s.1 (p + 1 + 1) (by omega) rfl (by omega) (by simp) (by omega) (by omega)
  exact this.mono fun r hr => ⟨hr.1, by omega, hr.2.2.1, by omega, by omega⟩
def BatS (l : List S34) : Prop := (∀ x ∈ l, Small x) ∧ 1 ≤ l.length ∧ l.length ≤ 7
theorem bat_j {b : List Int} (hb : CodeOk b) (p : Int) (h0 : 0 ≤ p) (h1 : p ≤ 600000000) (c0 c1 : Bool) (x y z : Int) (l : List S34) (hl : (∀ x ∈ l, Small x) ∧ 1 ≤ l.length ∧ l.length ≤ 6) :
    EndsIn (fun k => spec_l91Batch.j0 k b p c0 c1 x y z l) (fun r => BatS r.2.2.2.2.2.1 ∧ p ≤ r.2.2.2.2.2.2 ∧ r.2.2.2.2.2.2 ≤ p + 3) := by
  obtain ⟨l1, l2, l3⟩ := hl
  have hB : BatS l := ⟨l1, l2, by omega⟩
  refine EndsIn.step (fun k => by rw [spec_l91Batch.j0]) ?_
  refine EndsIn.bind (pick_ends hb p 40 h0 (by omega) (by omega)) fun q hq => ?_
  rw [hq.1]
  by_cases e0 : q.1 = 0
  · simp only [if_pos e0, bindS]
    refine EndsIn.bind (pick_ends hb (p + 1) 3 (by omega) (by omega) (by omega)) fun s hs => ?_
    obtain ⟨s2, s3, s4, _⟩ := hs
    have s5 := s4 (by omega)
    simp only [if_pos s3, if_pos (show s.1 < (([(-1), 1, 100] : List Int).length : Int) by simpa using s5)]
    exact EndsIn.now _ ⟨hB, by show p ≤ s.2; omega, by show s.2 ≤ p + 3; omega⟩
  · simp only [if_neg e0]
    by_cases e1 : q.1 = 1
    · simp only [if_pos e1, if_pos (show (0 : Int) < (l.length : Int) by omega), if_pos (show l.length < 1759218604441 by omega)]
      refine EndsIn.now _ ⟨⟨fun r hr => ?_, by show 1 ≤ (l ++ [_]).length; rw [List.length_append]; omega, by show (l ++ [_]).length ≤ 7; rw [List.length_append]; simp only [List.length_singleton]; omega⟩, by show p ≤ p + 1; omega, by show p + 1 ≤ p + 3; omega⟩
      rcases List.mem_append.1 hr with hr | hr
      · exact l1 r hr
      · rw [List.mem_singleton] at hr
        rw [hr]
        have := l1 _ (List.getElem_mem (show 0 < l.length by omega))
        rw [← rdR_nat l 0 (by omega)] at this
        exact this
    · simp only [if_neg e1]
      by_cases e2 : q.1 = 2
      · simp only [if_pos e2]
        exact EndsIn.now _ ⟨hB, by show p ≤ p + 1; omega, by show p + 1 ≤ p + 3; omega⟩
      · simp only [if_neg e2]
        exact EndsIn.now _ ⟨hB, by show p ≤ p + 1; omega, by show p + 1 ≤ p + 3; omega⟩
theorem bat_ends {b : List Int} (hb : CodeOk b) (p a : Int) (h0 : 0 ≤ p) (h1 : p ≤ 500000000) :
    EndsIn (fun k => spec_l91Batch.f k b p a) (fun r => BatS r.2.2.2.2.2.1 ∧ p ≤ r.2.2.2.2.2.2 ∧ r.2.2.2.2.2.2 ≤ p + 800) := by
  unfold spec_l91Batch.f
  refine EndsIn.bind (pick_ends hb p 2 h0 (by omega) (by omega)) fun q hq => ?_
  rw [hq.1]
  refine EndsIn.bind (recs_ends hb (p + 1) a 4 (by omega) (by omega) (by omega) (by omega)) fun s hs => ?_
  obtain ⟨s1, s2, s3, s4, s5⟩ := hs
  refine EndsIn.bind (pick_ends hb s.2 3 (by omega) (by omega) (by omega)) fun t ht => ?_
  rw [ht.1]
  by_cases e0 : t.1 = 0
  · simp only [if_pos e0]
    refine EndsIn.bind (pick_ends hb (s.2 + 1) 3 (by omega) (by omega) (by omega)) fun u hu => ?_
    rw [hu.1]
    refine EndsIn.bind (pick_ends hb (s.2 + 1 + 1) 3 (by omega) (by omega) (by omega)) fun v hv => ?_
    rw [hv.1]
    refine EndsIn.bind (pick_ends hb (s.2 + 1 + 1 + 1) 5 (by omega) (by omega) (by omega)) fun x hx => ?_
    rw [hx.1]
    refine EndsIn.bind (pick_ends hb (s.2 + 1 + 1 + 1 + 1) 3 (by omega) (by omega) (by omega)) fun y hy => ?_
    rw [hy.1]
    by_cases ey : y.1 = 0
    · simp only [if_pos ey]
      refine EndsIn.bind (pick_ends hb (s.2 + 1 + 1 + 1 + 1 + 1) 200 (by omega) (by omega) (by omega)) fun z hz => ?_
      rw [hz.1]
      refine EndsIn.bind (pick_ends hb (s.2 + 1 + 1 + 1 + 1 + 1 + 1) 2 (by omega) (by omega) (by omega)) fun m hm => ?_
      rw [hm.1]
      refine (bat_j hb (s.2 + 1 + 1 + 1 + 1 + 1 + 1 + 1) (by omega) (by omega) _ _ _ _ _ _ ⟨fun r hr => ?_, by simp, by simp⟩).mono fun r hr => ⟨hr.1, by omega, by omega⟩
      rw [List.mem_singleton] at hr
      rw [hr]
      exact ⟨by show 0 ≤ 12; omega, by show 1 ≤ 12; omega⟩
    · simp only [if_neg ey]
      exact (bat_j hb (s.2 + 1 + 1 + 1 + 1 + 1) (by omega) (by omega) _ _ _ _ _ _ ⟨s1, s2, s3⟩).mono fun r hr => ⟨hr.1, by omega, by omega⟩
  · simp only [if_neg e0]
    exact (bat_j hb (s.2 + 1) (by omega) (by omega) _ _ _ _ _ _ ⟨s1, s2, s3⟩).mono fun r hr => ⟨hr.1, by omega, by omega⟩
def DrL (l : List S56) : Prop := l.length ≤ 9 ∧ ∀ x ∈ l, BatS x.f5
theorem BatS.rowR {l : List S34} (h : BatS l) : RowR l := ⟨by have := h.2.2; omega, fun r hr => by have := h.1 r hr; unfold Small at this; exact ⟨by omega, by omega⟩⟩
theorem DrL.rowB {l : List S56} (h : DrL l) : RowB l := ⟨by have := h.1; omega, fun x hx => (h.2 x hx).rowR⟩
theorem log_loop {b : List Int} (hb : CodeOk b) (n : Int) (hn : n ≤ 9) : ∀ d (i : Nat) (l : List S56) (o p : Int), 9 - i = d → l.length = i → i ≤ 9 → (∀ x ∈ l, BatS x.f5) → 0 ≤ p → p ≤ 400000000 + 2000 * (i : Int) →
    EndsIn (fun k => spec_l92Log.l0 k l n o (i : Int) b p) (fun r => DrL r.1 ∧ p ≤ r.2 ∧ r.2 ≤ p + 2000 * (9 - (i : Int)) + 10) := by
  have stop : ∀ (i : Nat) (l : List S56) (o p : Int), l.length = i → i ≤ 9 → (∀ x ∈ l, BatS x.f5) → 0 ≤ p → p ≤ 400000000 + 2000 * (i : Int) → ¬ (i : Int) < n →
      EndsIn (fun k => spec_l92Log.l0 k l n o (i : Int) b p) (fun r => DrL r.1 ∧ p ≤ r.2 ∧ r.2 ≤ p + 2000 * (9 - (i : Int)) + 10) := by
    intro i l o p hl hi hs p0 p1 h
    refine EndsIn.step (fun k => by rw [spec_l92Log.l0]) ?_
    simp only [if_neg h]
    by_cases h1 : n > 1
    · simp only [if_pos h1]
      refine EndsIn.bind (pick_ends hb p 30 p0 (by omega) (by omega)) fun q hq => ?_
      rw [hq.1]
      by_cases e0 : q.1 = 0
      · simp only [if_pos e0, if_pos (show (0 : Int) < (l.length : Int) by omega), if_pos (show (1 : Int) < (l.length : Int) by omega)]
        refine EndsIn.now _ ⟨⟨by rw [List.length_set]; omega, fun x hx => ?_⟩, by show p ≤ p + 1; omega, by show p + 1 ≤ _; omega⟩
        rcases List.mem_or_eq_of_mem_set hx with hx | rfl
        · exact hs x hx
        · have := hs _ (List.getElem_mem (show 0 < l.length by omega))
          rw [← rdB_nat l 0 (by omega)] at this
          exact this
      · simp only [if_neg e0]
        exact EndsIn.now _ ⟨⟨by show l.length ≤ 9; omega, hs⟩, by show p ≤ p + 1; omega, by show p + 1 ≤ _; omega⟩
    · simp only [if_neg h1]
      exact EndsIn.now _ ⟨⟨by show l.length ≤ 9; omega, hs⟩, by show p ≤ p; omega, by show p ≤ _; omega⟩
  intro d
  induction d with
  | zero =>
    intro i l o p hd hl hi hs p0 p1
    exact stop i l o p hl hi hs p0 p1 (by omega)
  | succ d ih =>
    intro i l o p hd hl hi hs p0 p1
    by_cases h : (i : Int) < n
    · refine EndsIn.step (fun k => by rw [spec_l92Log.l0]) ?_
      simp only [if_pos h]
      refine EndsIn.bind (bat_ends hb p o p0 (by omega)) fun x hx => ?_
      obtain ⟨x1, x2, x3⟩ := hx
      refine EndsIn.bind (pick_ends hb x.2.2.2.2.2.2 20 (by omega) (by omega) (by omega)) fun q hq => ?_
      have q2 := hq.1
      have nx : ∀ (y : S56) (o' v : Int), BatS y.f5 → p ≤ v → v ≤ p + 2000 → EndsIn (fun k => spec_l92Log.l0 k (l ++ [y]) n o' ((i : Int) + 1) b v) (fun r => DrL r.1 ∧ p ≤ r.2 ∧ r.2 ≤ p + 2000 * (9 - (i : Int)) + 10) := by
        intro y o' v hy v0 v1
        have := ih (i + 1) (l ++ [y]) o' v (by omega) (by rw [List.length_append, hl]; rfl) (by omega) (fun r hr => by
          rcases List.mem_append.1 hr with hr | hr
          · exact hs r hr
          · rw [List.mem_singleton] at hr
            rw [hr]
            exact hy) (by omega) (by omega)
        exact this.mono fun r hr => ⟨hr.1, by omega, by omega⟩
      have st : ∀ (c : Bool), EndsIn (fun k => spec_l92Log.j2 k l n o (i : Int) c b q.2 x.1 x.2.1 x.2.2.1 x.2.2.2.1 x.2.2.2.2.1 x.2.2.2.2.2.1) (fun r => DrL r.1 ∧ p ≤ r.2 ∧ r.2 ≤ p + 2000 * (9 - (i : Int)) + 10) := by
        intro c
        refine EndsIn.step (fun k => by rw [spec_l92Log.j2]) ?_
        cases c
        · obtain ⟨y1, y2, y3⟩ := x1
          simp only [Bool.false_eq_true, if_false, if_pos (show l.length < 2513169434916 by omega), w64 (a := (x.2.2.2.2.2.1.length : Int) - 1) (by omega) (by omega), if_pos (show (0 : Int) ≤ (x.2.2.2.2.2.1.length : Int) - 1 by omega), if_pos (show (x.2.2.2.2.2.1.length : Int) - 1 < (x.2.2.2.2.2.1.length : Int) by omega)]
          refine EndsIn.bind (pick_ends hb q.2 4 (by omega) (by omega) (by omega)) fun z hz => ?_
          rw [hz.1, w64 (a := (i : Int) + 1) (by omega) (by omega)]
          exact nx _ _ _ ⟨y1, y2, y3⟩ (by omega) (by omega)
        · simp only [if_true]
          refine EndsIn.bind (recs_ends hb q.2 o 2 (by omega) (by omega) (by omega) (by omega)) fun s hs => ?_
          obtain ⟨s1, s2, s3, s4, s5⟩ := hs
          simp only [if_pos (show l.length < 2513169434916 by omega), w64 (a := (s.1.length : Int) - 1) (by omega) (by omega), if_pos (show (0 : Int) ≤ (s.1.length : Int) - 1 by omega), if_pos (show (s.1.length : Int) - 1 < (s.1.length : Int) by omega)]
          refine EndsIn.bind (pick_ends hb s.2 4 (by omega) (by omega) (by omega)) fun z hz => ?_
          rw [hz.1, w64 (a := (i : Int) + 1) (by omega) (by omega)]
          exact nx _ _ _ ⟨s1, s2, by show s.1.length ≤ 7; omega⟩ (by omega) (by omega)
      by_cases e0 : q.1 > 0
      · simp only [if_pos e0]
        refine EndsIn.bind (P := fun _ => True) ⟨_, sBatchValid_ev ⟨x.1, x.2.1, x.2.2.1, x.2.2.2.1, x.2.2.2.2.1, x.2.2.2.2.2.1⟩ x1.rowR, trivial⟩ fun t _ => ?_
        exact st _
      · simp only [if_neg e0]
        exact st _
    · exact stop i l o p hl hi hs p0 p1 h
theorem drawLog_ends {b : List Int} (hb : CodeOk b) (p : Int) (h0 : 0 ≤ p) (h1 : p ≤ 300000000) : EndsIn (fun k => spec_l92Log.f k b p) (fun r => DrL r.1 ∧ p ≤ r.2 ∧ r.2 ≤ p + 20000) := by
  have st : ∀ (n q : Int), n ≤ 9 → p ≤ q → q ≤ p + 10 → EndsIn (fun k => spec_l92Log.j0 k [] n b q) (fun r => DrL r.1 ∧ p ≤ r.2 ∧ r.2 ≤ p + 20000) := by
    intro n q hn hq0 hq1
    refine EndsIn.step (fun k => by rw [spec_l92Log.j0]) ?_
    refine EndsIn.bind (pick_ends hb q 10 (by omega) (by omega) (by omega)) fun t ht => ?_
    rw [ht.1]
    have := log_loop hb n hn 9 0 [] t.1 (q + 1) (by omega) rfl (by omega) (by simp) (by omega) (by omega)
    exact this.mono fun r hr => ⟨hr.1, by omega, by omega⟩
  unfold spec_l92Log.f
  simp only [bindS]
  refine EndsIn.bind (pick_ends hb p 5 h0 (by omega) (by omega)) fun q hq => ?_
  obtain ⟨q2, q3, q4, _⟩ := hq
  have q5 := q4 (by omega)
  rw [q2]
  refine EndsIn.bind (pick_ends hb (p + 1) 16 (by omega) (by omega) (by omega)) fun s hs => ?_
  rw [hs.1]
  by_cases hz : s.1 = 0
  · simp only [if_pos hz]
    refine EndsIn.bind (pick_ends hb (p + 1 + 1) 3 (by omega) (by omega) (by omega)) fun u hu => ?_
    obtain ⟨u2, u3, u4, _⟩ := hu
    have u5 := u4 (by omega)
    simp only [if_pos u3, if_pos (show u.1 < (([0, 8, 9] : List Int).length : Int) by simpa using u5)]
    rw [u2]
    refine st _ _ ?_ (by omega) (by omega)
    have : u.1 = 0 ∨ u.1 = 1 ∨ u.1 = 2 := by omega
    rcases this with e | e | e <;> (rw [e]; decide)
  · simp only [if_neg hz, w64 (a := 1 + q.1) (by omega) (by omega)]
    exact st _ _ (by omega) (by omega) (by omega)
end Go.Proofs.Ytlkbjipndlmjgaa.Pu

namespace Go.Proofs.Ytlkbjipndlmjgaa.Pu
open Go.RowKit Go.Proofs.YtlkbjipndlmjgaaW.PrintWords Go.Proofs.YtlkbjipndlmjgaaW.PrintLast Go.Proofs.YtlkbjipndlmjgaaW.PrintMore Go.Proofs.Ytlkbjipndlmjgaa.G
set_option linter.unusedVariables false
theorem drawGL_ends (l0 : List Int) (hr : ∀ x ∈ l0, 0 ≤ x ∧ x ≤ 255) : EndsIn (fun k => spec_DrawGroupsLeft.f k l0) (fun r => DrG r.1 ∧ DrL r.2.2) := by
  obtain ⟨c, hc, hok⟩ := open_some l0 hr
  unfold spec_DrawGroupsLeft.f
  simp only [hc, bindS]
  refine EndsIn.bind (drawGroups_ends hok) fun r hr => EndsIn.bind (drawLog_ends hok r.2 (by omega) (by omega)) fun q hq => ?_
  have hl := hr.1.1
  by_cases h : (r.1.length : Int) > 0
  · simp only [if_pos h]
    refine EndsIn.bind (pick_ends hok q.2 6 (by omega) (by omega) (by omega)) fun s hs => ?_
    by_cases h2 : s.1 > 0
    · simp only [if_pos h2]
      refine EndsIn.bind (pick_ends hok s.2 (r.1.length : Int) (by omega) (by omega) (by omega)) fun u hu => ?_
      simp only [if_pos (show 0 ≤ u.1 by omega), if_pos (show u.1 < (r.1.length : Int) by omega)]
      exact EndsIn.now _ ⟨hr.1, hq.1⟩
    · simp only [if_neg h2]
      exact EndsIn.now _ ⟨hr.1, hq.1⟩
  · simp only [if_neg h]
    exact EndsIn.now _ ⟨hr.1, hq.1⟩
end Go.Proofs.Ytlkbjipndlmjgaa.Pu

namespace Go.Proofs.Ytlkbjipndlmjgaa.Pure
open Go.RowKit Go.Proofs.Ytlkbjipndlmjgaa.G Go.Proofs.YtlkbjipndlmjgaaW.PrintWords Go.Proofs.YtlkbjipndlmjgaaW.PrintLast Go.Proofs.YtlkbjipndlmjgaaW.PrintMore Go.Proofs.Ytlkbjipndlmjgaa.Pu
set_option linter.unusedSimpArgs false
theorem lleft_cnt (l0 : List S31) (X : Int) (R : List S34) (hR : R.length ≤ 1000) (i : Nat) (hi : i < l0.length) : ∀ d j (c : Nat), R.length - j = d → j ≤ R.length → c ≤ j →
    Ev (fun k => laws_FnGroupsLeft.l1 k l0 X R (i : Int) (c : Int) (j : Int)) ((((c + cntR l0[i].f1 (R.drop j) : Nat) : Int)) == X) := by
  intro d
  induction d with
  | zero =>
    intro j c hd hj hc
    refine Ev.step (fun k => by rw [laws_FnGroupsLeft.l1]) ?_
    simp only [if_neg (show ¬ (j : Int) < (R.length : Int) by omega)]
    rw [List.drop_of_length_le (by omega)]
    exact Ev.now _
  | succ d ih =>
    intro j c hd hj hc
    have hlt : j < R.length := by omega
    refine Ev.step (fun k => by rw [laws_FnGroupsLeft.l1]) ?_
    simp only [if_pos (show (j : Int) < (R.length : Int) by omega), if_pos (show (0 : Int) ≤ (j : Int) by omega), if_pos (show (0 : Int) ≤ (i : Int) by omega), if_pos (show (i : Int) < (l0.length : Int) by omega), rdR_nat R j hlt, rdG_nat' l0 i hi, w64 (a := (j : Int) + 1) (by omega) (by omega), w64 (a := (c : Int) + 1) (by omega) (by omega)]
    rw [List.drop_eq_getElem_cons hlt, cntR_cons]
    by_cases h : R[j].f0 ≥ l0[i].f1
    · simp only [if_pos h]
      have := ih (j + 1) (c + 1) (by omega) (by omega) (by omega)
      rw [show c + (1 + cntR l0[i].f1 (R.drop (j + 1))) = c + 1 + cntR l0[i].f1 (R.drop (j + 1)) by omega]
      exact_mod_cast this
    · simp only [if_neg h]
      have := ih (j + 1) c (by omega) (by omega) (by omega)
      rw [Nat.zero_add]
      exact_mod_cast this
theorem lleft_loop (l0 : List S31) (s : ByteArray) (X : Int) (hX : 0 ≤ X) (R : List S34) (hR : R.length ≤ 1000) (hl0 : l0.length ≤ 1000) : ∀ d i, l0.length - i = d → i ≤ l0.length → findV s R (l0.drop i) = X →
    Ev (fun k => laws_FnGroupsLeft.l0 k l0 s X R (i : Int)) true := by
  intro d
  induction d with
  | zero =>
    intro i hd hi hf
    rw [List.drop_of_length_le (by omega)] at hf
    unfold findV at hf
    simp at hf
    omega
  | succ d ih =>
    intro i hd hi hf
    have hlt : i < l0.length := by omega
    refine Ev.step (fun k => by rw [laws_FnGroupsLeft.l0]) ?_
    simp only [if_pos (show (i : Int) < (l0.length : Int) by omega), if_pos (show (0 : Int) ≤ (i : Int) by omega), rdG_nat' l0 i hlt, w64 (a := (i : Int) + 1) (by omega) (by omega)]
    rw [List.drop_eq_getElem_cons hlt] at hf
    unfold findV at hf
    by_cases h : l0[i].f0 = s
    · simp only [if_pos (show l0[i].f0.toList = s.toList by rw [h])]
      simp only [List.find?_cons, decide_eq_true h] at hf
      have := lleft_cnt l0 X R hR i hlt R.length 0 0 (by omega) (by omega) (by omega)
      rw [List.drop_zero, Nat.zero_add, hf] at this
      simpa using this
    · simp only [if_neg (show ¬ l0[i].f0.toList = s.toList from fun e => h (ba_ext e))]
      simp only [List.find?_cons, decide_eq_false h] at hf
      exact ih (i + 1) (by omega) (by omega) hf
theorem FnGroupsLeft : OFnGroupsLeft.Pure := by
  intro l0 hl0 ho0
  refine EndsIn.rounds ?_
  unfold laws_FnGroupsLeft.f
  by_cases h : (l0.length : Int) > 1048576
  · simp only [if_pos h]
    exact EndsIn.now _ rfl
  · simp only [if_neg h]
    refine EndsIn.bind (drawGL_ends l0 fun x hx => u8_range (ho0 x hx)) fun q hq => ?_
    obtain ⟨l, s, log⟩ := q
    have hb : RowB log := DrL.rowB hq.2
    have hl : l.length ≤ 9223372036854775807 := Nat.le_trans (show l.length ≤ 8 from hq.1.1) (by omega)
    refine ⟨true, ?_, rfl⟩
    refine Ev.bind (GroupsLeft_ev l s log hl hq.1.size hb) (Ev.bind (sGroupsLeft_ev l s log hl hq.1.size hb) ?_)
    simp only [if_true]
    refine Ev.step (fun k => by rw [laws_FnGroupsLeft.j0]) ?_
    by_cases hn : gleftV l s log < 0
    · simp only [decide_eq_true hn, if_true, beq_self_eq_true]
      exact Ev.now _
    · simp only [decide_eq_false hn, Bool.false_eq_true, if_false]
      have hv : (gsOk l && logOk log) = true := by
        cases hg : (gsOk l && logOk log)
        · exact absurd (by unfold gleftV; rw [hg]; simp) hn
        · rfl
      have hv2 := Bool.and_eq_true_iff.1 hv
      refine Ev.bind (allOf_ev log hv2.2) ?_
      have e : gleftV l s log = findV s (recsOf log) l := by unfold gleftV; rw [if_pos hv]
      rw [e] at hn ⊢
      have h1 := recsOf_all_len hv2.2
      have := gsOk_len hv2.1
      exact lleft_loop l s _ (by omega) (recsOf log) (by omega) (by omega) l.length 0 (by omega) (by omega) rfl
end Go.Proofs.Ytlkbjipndlmjgaa.Pure

namespace Go.Proofs.Ytlkbjipndlmjgaa.fnGroupsLeft
open Go.ChangeShapes Go.WideShapes Go.ChangeAt Go.RowKit Go.Proofs.Ytlkbjipndlmjgaa.OFnGroupsLeft Go.Proofs.Ytlkbjipndlmjgaa.G Go.Joins
open Go.ChangeMaps (open_string shut_string)
set_option linter.unusedVariables false
theorem own : ownKnob Try.prog.godebug = none := by kernel_rfl
theorem laidOut : laidOutB Try.prog = true := by kernel_rfl
set_option maxRecDepth 100000 in
theorem lifted (os : Os) (started : os.Started) (H : Type) (enc : TypeId × Value → H) :
    ReturnsInHanded {} Try.checked os 3 .any (Rows.fnGroupsLeftSpec.pre6 enc Try.prog Try.f3 Rows.fnGroupsLeftRow.domain false) (Rows.fnGroupsLeftSpec.post enc Try.prog Try.f3 false true false false) := by
  refine returnsInHanded_of_change_sized (C := Try.checked) own started (by kernel_rfl) Try.func3
    (ChangeSpec.witness6 (enc := enc) (C := Try.checked) false ⟨#[], #[.slice none 0 0], []⟩ 8 (by kernel_rfl) (by kernel_rfl) (by kernel_rfl) (by kernel_rfl)) ?_
  intro W base args ds gs before hval0 hW hcnd hsz0 _
  have hsz : (DataW.weightsEach Try.prog (Try.f3.params.toList ++ Rows.fnGroupsLeftSpec.plain.varTypes Try.prog) (ds ++ gs)).all (· ≤ reachBytes) = true := hsz0
  have hval : ∀ (j : Nat) t v, Try.f3.params[j]? = some t → args[j]? = some v → Value.okWide Try.prog W .any base t v := hval0
  have hW' := hW
  obtain ⟨p, q, hA0, hV, rfl, hfz, hnd⟩ := hW
  have hA : DataW.TrodAll enc Try.prog W 0 (fun _ => true) true Try.f3.params.toList args.toList ds p := hA0
  rw [Try.params3] at hA hval hsz
  obtain ⟨v0, vs0, d0, ds0, p0, q0, hargs, rfl, rfl, h0, r0⟩ := trodAll_cons hA
  obtain ⟨rfl, rfl, rfl⟩ := trodAll_nil r0
  obtain rfl : args = #[v0] := by cases args; simp_all
  obtain ⟨rfl, rfl⟩ := trodVars_none hV
  obtain ⟨a0, len0, cap0, rfl⟩ := okWide_slice Try.underlying22 (hval 0 22 v0 rfl rfl)
  have k0 := h0
  have lt0 : ∀ x ∈ p0, x.block < W.heap.size := by obtain ⟨m, hm⟩ := k0; exact DataW.trod_lt m _ _ _ hm
  obtain ⟨fuel0, hf0⟩ := h0
  obtain ⟨A0, c0, l0, hcs0, hlc0, hm0, hC0, ho0⟩ := Rd.opens_row Try.underlying22 (Rd.opens_int Try.underlying5 (by kernel_rfl)) hf0
  simp [Value.cells] at hcs0
  obtain ⟨rfl, rfl, rfl⟩ := hcs0
  clear hA0 hval0 hsz0 hsz
  obtain ⟨k, h⟩ := Pure.FnGroupsLeft l0 (Nat.le_trans hlc0 hm0) ho0
  refine (laws_FnGroupsLeft.calls k _ _ l0 true W hC0 hlc0 h).mono fun e W' ⟨he, bel0⟩ => ?_
  subst he
  have bel : Below W.heap.size W W' := bel0
  exact ⟨_, rfl, _, _, _, [], _, [], hW', trodAll_mk1 (shut_bool Try.underlying4 _), (trodAll_cons_mk (Below.trod laidOut (by kernel_rfl) (of_decide_eq_true (by kernel_rfl)) k0 bel lt0) trodAll_mk0), rfl, bel.frame _, fun h => by cases h⟩
theorem over : Rows.fnGroupsLeftRow.holds Try.pinned (OpenSpec.ofChange Rows.fnGroupsLeftSpec) :=
  OpenClaim.holds_of_wide 3 Try.f3 rfl rfl rfl rfl rfl rfl rfl ⟨rfl, rfl, rfl, rfl, rfl⟩ rfl rfl rfl rfl rfl (by kernel_rfl) Try.func3 (by kernel_rfl)
    (of_decide_eq_true (by kernel_rfl)) (by unfold Func.isWrapper; first | (rw [if_pos (by decide +kernel)]; kernel_rfl) | (rw [if_neg (by decide +kernel)]; exact ⟨rfl, rfl⟩))
    (fun os started H enc _ => lifted os started H enc)
theorem proved : Rows.FnGroupsLeftSaid := over
#print axioms proved
end Go.Proofs.Ytlkbjipndlmjgaa.fnGroupsLeft
namespace Go.Proofs.Ytlkbjipndlmjgaa
/-- The row, under a short name, for the claim. -/
theorem fnGroupsLeft_holds : Rows.FnGroupsLeftSaid := fnGroupsLeft.proved
end Go.Proofs.Ytlkbjipndlmjgaa

