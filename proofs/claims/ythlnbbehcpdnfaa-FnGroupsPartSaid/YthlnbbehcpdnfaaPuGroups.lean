/- Groups that are valid: what the program's and the reference's functions tell, as one plain test. -/
import Derived.Test.YthlnbbehcpdnfaaPuBase
import Derived.Test.YthlnbbehcpdnfaaGx1
import Derived.Test.YthlnbbehcpdnfaaGx2
import Derived.Test.YthlnbbehcpdnfaaGx3
import Derived.Test.YthlnbbehcpdnfaaGx4
namespace Go.Proofs.Ythlnbbehcpdnfaa.Pu
open Go.RowKit Go.Proofs.YthlnbbehcpdnfaaW.PrintWords Go.Proofs.YthlnbbehcpdnfaaW.PrintLast Go.Proofs.Ythlnbbehcpdnfaa.G
set_option linter.unusedVariables false
set_option linter.unusedSimpArgs false
def low (c : UInt8) : Bool := decide (97 ≤ c.toNat) && decide (c.toNat ≤ 122)
def word (s : ByteArray) (most : Int) : Bool := (decide (1 ≤ s.size) && decide ((s.size : Int) ≤ most)) && s.data.toList.all low
def gOk (g : S53) : Bool := word g.f0 6 && (decide (0 ≤ g.f1) && decide (g.f1 ≤ 100000))
theorem drop_cons_get {α : Type} (l : List α) (i : Nat) (h : i < l.length) : l.drop i = l[i] :: l.drop (i + 1) := by simp
theorem bt_low (s : ByteArray) (i : Nat) (h : i < s.size) : low (s.data.toList[i]'(by simpa using h)) = (decide (¬ bt s (i : Int) < 97) && decide (¬ bt s (i : Int) > 122)) := by
  rw [bt_get s i h]
  unfold low
  congr 1
  · simp only [decide_eq_decide]; omega
  · simp only [decide_eq_decide]; omega
theorem letters_loop (s : ByteArray) (hs : s.size ≤ 9223372036854775807) : ∀ d i, s.size - i = d → Ev (fun k => impl_letters.l0 k s (s.size : Int) (i : Int)) ((s.data.toList.drop i).all low) := by
  intro d
  induction d with
  | zero =>
    intro i hi
    refine Ev.step (fun k => by rw [impl_letters.l0]) ?_
    rw [List.drop_of_length_le (by rw [data_len]; omega)]
    simp only [if_neg (show ¬ ((i : Int) < (s.size : Int)) by omega)]
    exact Ev.now _
  | succ d ih =>
    intro i hi
    have hlt : i < s.size := by omega
    refine Ev.step (fun k => by rw [impl_letters.l0]) ?_
    simp only [if_pos (show ((i : Int) < (s.size : Int)) by omega), if_pos (show (0 : Int) ≤ (i : Int) by omega)]
    rw [drop_cons_get _ i (by rw [data_len]; exact hlt), List.all_cons, bt_low s i hlt]
    by_cases h1 : bt s (i : Int) < 97
    · simp only [if_pos h1, h1]
      exact Ev.now _
    · by_cases h2 : bt s (i : Int) > 122
      · simp only [if_neg h1, if_pos h2, h1, h2]
        exact Ev.now _
      · simp only [if_neg h1, if_neg h2, w64 (a := (i : Int) + 1) (by omega) (by omega)]
        have := ih (i + 1) (by omega)
        simpa [h1, h2] using this
theorem letters_ev (s : ByteArray) (most : Int) (hs : s.size ≤ 9223372036854775807) : Ev (fun k => impl_letters.f k s most) (word s most) := by
  unfold impl_letters.f word
  by_cases h0 : (s.size : Int) < 1
  · simp only [if_pos h0]
    refine Ev.step (fun k => by rw [impl_letters.j0]) ?_
    rw [show decide (1 ≤ s.size) = false from decide_eq_false (by omega)]
    exact Ev.now _
  · simp only [if_neg h0]
    refine Ev.step (fun k => by rw [impl_letters.j0]) ?_
    rw [show decide (1 ≤ s.size) = true from decide_eq_true (by omega)]
    by_cases h1 : (s.size : Int) > most
    · simp only [h1, decide_true, if_true]
      rw [show decide ((s.size : Int) ≤ most) = false from decide_eq_false (by omega)]
      exact Ev.now _
    · simp only [h1, decide_false]
      rw [show decide ((s.size : Int) ≤ most) = true from decide_eq_true (by omega)]
      have := letters_loop s hs s.size 0 (by omega)
      simpa using this
theorem groupValid_ev (g : S53) (hs : g.f0.size ≤ 9223372036854775807) : Ev (fun k => impl_groupValid.f k g.f0 g.f1) (gOk g) := by
  unfold impl_groupValid.f gOk
  refine Ev.bind (letters_ev _ _ hs) ?_
  cases word g.f0 6
  · exact Ev.now _
  · simp only [if_true]
    unfold impl_within.f
    by_cases h : g.f1 ≥ 0
    · simp only [if_pos h, Option.bind_some]
      rw [show decide (0 ≤ g.f1) = true from decide_eq_true h]
      exact Ev.now _
    · simp only [if_neg h, Option.bind_some]
      rw [show decide (0 ≤ g.f1) = false from decide_eq_false h]
      exact Ev.now _
theorem l6In_some (a b c : Int) : spec_l6In.f a b c = some (decide (b ≤ a) && decide (a ≤ c)) := by
  unfold spec_l6In.f
  by_cases h : a ≥ b
  · rw [if_pos h, show decide (b ≤ a) = true from decide_eq_true h]; rfl
  · rw [if_neg h, show decide (b ≤ a) = false from decide_eq_false h]; rfl
theorem within_some (a b c : Int) : impl_within.f a b c = some (decide (b ≤ a) && decide (a ≤ c)) := by
  unfold impl_within.f
  by_cases h : a ≥ b
  · rw [if_pos h, show decide (b ≤ a) = true from decide_eq_true h]; rfl
  · rw [if_neg h, show decide (b ≤ a) = false from decide_eq_false h]; rfl
theorem group_loop (g : S53) (hs : g.f0.size ≤ 9223372036854775807) : ∀ d i, g.f0.size - i = d → Ev (fun k => spec_l32Group.l0 k (i : Int) g.f0 g.f1) ((g.f0.data.toList.drop i).all low && ((decide (1 ≤ g.f0.size) && decide ((g.f0.size : Int) ≤ 6)) && (decide (0 ≤ g.f1) && decide (g.f1 ≤ 100000)))) := by
  intro d
  induction d with
  | zero =>
    intro i hi
    refine Ev.step (fun k => by rw [spec_l32Group.l0]) ?_
    rw [List.drop_of_length_le (by rw [data_len]; omega)]
    simp only [if_neg (show ¬ ((i : Int) < (g.f0.size : Int)) by omega), l6In_some, Option.bind_some]
    rw [show decide ((1 : Int) ≤ (g.f0.size : Int)) = decide (1 ≤ g.f0.size) from decide_eq_decide.2 (by omega)]
    cases (decide (1 ≤ g.f0.size) && decide ((g.f0.size : Int) ≤ 6))
    · exact Ev.now _
    · exact Ev.now _
  | succ d ih =>
    intro i hi
    have hlt : i < g.f0.size := by omega
    refine Ev.step (fun k => by rw [spec_l32Group.l0]) ?_
    simp only [if_pos (show ((i : Int) < (g.f0.size : Int)) by omega), if_pos (show (0 : Int) ≤ (i : Int) by omega)]
    rw [drop_cons_get _ i (by rw [data_len]; exact hlt), List.all_cons, bt_low g.f0 i hlt]
    by_cases h1 : bt g.f0 (i : Int) < 97
    · simp only [if_pos h1, h1]
      exact Ev.now _
    · by_cases h2 : bt g.f0 (i : Int) > 122
      · simp only [if_neg h1, if_pos h2, h1, h2]
        exact Ev.now _
      · simp only [if_neg h1, if_neg h2, w64 (a := (i : Int) + 1) (by omega) (by omega)]
        have := ih (i + 1) (by omega)
        simpa [h1, h2] using this
theorem l32Group_ev (g : S53) (hs : g.f0.size ≤ 9223372036854775807) : Ev (fun k => spec_l32Group.f k g.f0 g.f1) (gOk g) := by
  have := group_loop g hs g.f0.size 0 (by omega)
  unfold spec_l32Group.f gOk word
  rw [List.drop_zero] at this
  have e : ∀ a b c : Bool, (a && (b && c)) = ((b && a) && c) := by decide
  rw [e] at this
  exact this
/-- Valid from place i on, each behind the one ahead of it. -/
def gsFrom (prev : Option S53) : List S53 → Bool
  | [] => true
  | g :: l => gOk g && ((match prev with | none => true | some p => Op.bytesLess p.f0.toList g.f0.toList) && gsFrom (some g) l)
def gsOk (l : List S53) : Bool := gsFrom none l && decide (l.length ≤ 8)
theorem rd_nat (l : List S53) (i : Nat) (h : i < l.length) : rd_T53 l (i : Int) = l[i] := by
  unfold rd_T53
  simp [h]
def prevOf (l : List S53) (i : Nat) : Option S53 := if i = 0 then none else l[i - 1]?
theorem valid_loop (l : List S53) (hl : l.length ≤ 9223372036854775807) (hs : ∀ g ∈ l, g.f0.size ≤ 9223372036854775807) : ∀ d i, l.length - i = d → Ev (fun k => impl_GroupsValid.l0 k l l (l.length : Int) (i : Int)) (gsFrom (prevOf l i) (l.drop i)) := by
  intro d
  induction d with
  | zero =>
    intro i hi
    refine Ev.step (fun k => by rw [impl_GroupsValid.l0]) ?_
    rw [List.drop_of_length_le (by omega)]
    simp only [if_neg (show ¬ ((i : Int) < (l.length : Int)) by omega)]
    exact Ev.now _
  | succ d ih =>
    intro i hi
    have hlt : i < l.length := by omega
    refine Ev.step (fun k => by rw [impl_GroupsValid.l0]) ?_
    simp only [if_pos (show ((i : Int) < (l.length : Int)) by omega), if_pos (show (0 : Int) ≤ (i : Int) by omega)]
    rw [drop_cons_get _ i hlt, rd_nat l i hlt]
    refine Ev.bind (groupValid_ev _ (hs _ (List.getElem_mem _))) ?_
    unfold gsFrom
    have hn := ih (i + 1) (by omega)
    rw [show prevOf l (i + 1) = some l[i] by unfold prevOf; simp [hlt]] at hn
    cases gOk l[i]
    · exact Ev.now _
    · simp only [if_true, Bool.true_and, w64 (a := (i : Int) + 1) (by omega) (by omega)]
      rcases Nat.eq_zero_or_pos i with h0 | h0
      · subst h0
        simp only [if_neg (show ¬ (((0 : Nat) : Int) > 0) by omega)]
        unfold prevOf
        simpa using hn
      · have hp : prevOf l i = some l[i - 1] := by
          unfold prevOf
          rw [if_neg (by omega)]
          simp [show i - 1 < l.length by omega]
        rw [hp]
        simp only [if_pos (show ((i : Int) > 0) by omega), w64 (a := (i : Int) - 1) (by omega) (by omega), if_pos (show (0 : Int) ≤ (i : Int) - 1 by omega), if_pos (show ((i : Int) - 1) < (l.length : Int) by omega)]
        rw [show ((i : Int) - 1) = ((i - 1 : Nat) : Int) by omega, rd_nat l (i - 1) (by omega)]
        cases Op.bytesLess l[i - 1].f0.toList l[i].f0.toList
        · exact Ev.now _
        · simpa using hn
theorem valid_ev (l : List S53) (hl : l.length ≤ 9223372036854775807) (hs : ∀ g ∈ l, g.f0.size ≤ 9223372036854775807) : Ev (fun k => impl_GroupsValid.f k l) (gsOk l) := by
  unfold impl_GroupsValid.f gsOk
  by_cases h : (l.length : Int) > 8
  · simp only [if_pos h]
    rw [show decide (l.length ≤ 8) = false from decide_eq_false (by omega), Bool.and_false]
    exact Ev.now _
  · simp only [if_neg h]
    rw [show decide (l.length ≤ 8) = true from decide_eq_true (by omega), Bool.and_true]
    have := valid_loop l hl hs l.length 0 (by omega)
    simpa [prevOf] using this
theorem svalid_loop (l : List S53) (hl : l.length ≤ 9223372036854775807) (hs : ∀ g ∈ l, g.f0.size ≤ 9223372036854775807) : ∀ d i, l.length - i = d → Ev (fun k => spec_GroupsValid.l0 k l (i : Int)) (gsFrom (prevOf l i) (l.drop i) && decide (l.length ≤ 8)) := by
  intro d
  induction d with
  | zero =>
    intro i hi
    refine Ev.step (fun k => by rw [spec_GroupsValid.l0]) ?_
    rw [List.drop_of_length_le (by omega)]
    simp only [if_neg (show ¬ ((i : Int) < (l.length : Int)) by omega)]
    rw [show decide ((l.length : Int) ≤ 8) = decide (l.length ≤ 8) from decide_eq_decide.2 (by omega)]
    exact Ev.now _
  | succ d ih =>
    intro i hi
    have hlt : i < l.length := by omega
    refine Ev.step (fun k => by rw [spec_GroupsValid.l0]) ?_
    simp only [if_pos (show ((i : Int) < (l.length : Int)) by omega), if_pos (show (0 : Int) ≤ (i : Int) by omega)]
    rw [drop_cons_get _ i hlt, rd_nat l i hlt]
    refine Ev.bind (l32Group_ev _ (hs _ (List.getElem_mem _))) ?_
    unfold gsFrom
    have hn := ih (i + 1) (by omega)
    rw [show prevOf l (i + 1) = some l[i] by unfold prevOf; simp [hlt]] at hn
    cases gOk l[i]
    · exact Ev.now _
    · simp only [if_true, Bool.true_and, w64 (a := (i : Int) + 1) (by omega) (by omega)]
      rcases Nat.eq_zero_or_pos i with h0 | h0
      · subst h0
        simp only [if_neg (show ¬ (((0 : Nat) : Int) > 0) by omega)]
        unfold prevOf
        simpa using hn
      · have hp : prevOf l i = some l[i - 1] := by
          unfold prevOf
          rw [if_neg (by omega)]
          simp [show i - 1 < l.length by omega]
        rw [hp]
        simp only [if_pos (show ((i : Int) > 0) by omega), w64 (a := (i : Int) - 1) (by omega) (by omega), if_pos (show (0 : Int) ≤ (i : Int) - 1 by omega), if_pos (show ((i : Int) - 1) < (l.length : Int) by omega)]
        rw [show ((i : Int) - 1) = ((i - 1 : Nat) : Int) by omega, rd_nat l (i - 1) (by omega)]
        cases Op.bytesLess l[i - 1].f0.toList l[i].f0.toList
        · exact Ev.now _
        · simpa using hn
theorem svalid_ev (l : List S53) (hl : l.length ≤ 9223372036854775807) (hs : ∀ g ∈ l, g.f0.size ≤ 9223372036854775807) : Ev (fun k => spec_GroupsValid.f k l) (gsOk l) := by
  unfold spec_GroupsValid.f gsOk
  have := svalid_loop l hl hs l.length 0 (by omega)
  simpa [prevOf] using this
end Go.Proofs.Ythlnbbehcpdnfaa.Pu
