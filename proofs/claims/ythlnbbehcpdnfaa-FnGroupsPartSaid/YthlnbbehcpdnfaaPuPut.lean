/- The reference's GroupsPut as a plain function. -/
import Derived.Test.YthlnbbehcpdnfaaPuGroups
import Derived.Test.YthlnbbehcpdnfaaGx6
namespace Go.Proofs.Ythlnbbehcpdnfaa.Pu
open Go.RowKit Go.Proofs.YthlnbbehcpdnfaaW.PrintWords Go.Proofs.YthlnbbehcpdnfaaW.PrintLast Go.Proofs.Ythlnbbehcpdnfaa.G
set_option linter.unusedVariables false
set_option linter.unusedSimpArgs false
def putG (g : S53) : List S53 → List S53
  | [] => [g]
  | x :: xs => if Op.bytesLess x.f0.toList g.f0.toList = true then x :: putG g xs else g :: (x :: xs).filter (fun y => decide (y.f0.toList ≠ g.f0.toList))
def fin8 (l : List S53) : List S53 × Bool := if l.length > 8 then ([], false) else (l, true)
def gPut (l : List S53) (g : S53) : List S53 × Bool := if (gsOk l && gOk g) = true then fin8 (putG g l) else ([], false)
theorem fin8_if (l : List S53) : (if (l.length : Int) > 8 then (some ((([] : List S53)), false)) else (some (l, true))) = some (fin8 l) := by
  unfold fin8
  by_cases h : l.length > 8
  · rw [if_pos (show (l.length : Int) > 8 by omega), if_pos h]
  · rw [if_neg (show ¬ (l.length : Int) > 8 by omega), if_neg h]
theorem put_done (l : List S53) (g : S53) (hl : l.length ≤ 1048576) : ∀ d i (out : List S53), l.length - i = d → out.length ≤ i + 1 →
    Ev (fun k => spec_GroupsPut.l0 k l out true (i : Int) g.f0 g.f1) (fin8 (out ++ (l.drop i).filter (fun y => decide (y.f0.toList ≠ g.f0.toList)))) := by
  intro d
  induction d with
  | zero =>
    intro i out hi ho
    refine Ev.step (fun k => by rw [spec_GroupsPut.l0]) ?_
    simp only [if_neg (show ¬ ((i : Int) < (l.length : Int)) by omega), if_true]
    rw [List.drop_of_length_le (by omega)]
    simp only [List.filter_nil, List.append_nil, fin8_if]
    exact Ev.now _
  | succ d ih =>
    intro i out hi ho
    have hlt : i < l.length := by omega
    refine Ev.step (fun k => by rw [spec_GroupsPut.l0]) ?_
    simp only [if_pos (show ((i : Int) < (l.length : Int)) by omega), if_true]
    refine Ev.step (fun k => by rw [spec_GroupsPut.j2]) ?_
    simp only [Bool.false_eq_true, if_false, if_pos (show (0 : Int) ≤ (i : Int) by omega), if_pos (show ((i : Int) < (l.length : Int)) by omega), rd_nat l i hlt, w64 (a := (i : Int) + 1) (by omega) (by omega)]
    rw [drop_cons_get l i hlt, List.filter_cons]
    by_cases h : l[i].f0.toList = g.f0.toList
    · simp only [h, if_true, ne_eq, not_true_eq_false, decide_false, Bool.false_eq_true, if_false]
      exact ih (i + 1) out (by omega) (by omega)
    · simp only [if_neg h, ne_eq, h, not_false_eq_true, decide_true, if_true, if_pos (show out.length < 5864062014805 by omega)]
      have := ih (i + 1) (out ++ [l[i]]) (by omega) (by simp; omega)
      simp only [List.append_assoc, List.cons_append, List.nil_append] at this
      exact this
theorem put_not (l : List S53) (g : S53) (hl : l.length ≤ 1048576) : ∀ d i (out : List S53), l.length - i = d → i ≤ l.length → out.length ≤ i →
    Ev (fun k => spec_GroupsPut.l0 k l out false (i : Int) g.f0 g.f1) (fin8 (out ++ putG g (l.drop i))) := by
  intro d
  induction d with
  | zero =>
    intro i out hi hle ho
    refine Ev.step (fun k => by rw [spec_GroupsPut.l0]) ?_
    simp only [if_neg (show ¬ ((i : Int) < (l.length : Int)) by omega), Bool.false_eq_true, if_false]
    rw [List.drop_of_length_le (by omega)]
    have hlim : out.length < 5864062014805 := by omega
    simp only [if_pos hlim, Option.bind_some, fin8_if, putG]
    exact Ev.now _
  | succ d ih =>
    intro i out hi hle ho
    have hlt : i < l.length := by omega
    refine Ev.step (fun k => by rw [spec_GroupsPut.l0]) ?_
    simp only [if_pos (show ((i : Int) < (l.length : Int)) by omega), Bool.false_eq_true, if_false, if_pos (show (0 : Int) ≤ (i : Int) by omega), rd_nat l i hlt]
    refine Ev.step (fun k => by rw [spec_GroupsPut.j2]) ?_
    rw [drop_cons_get l i hlt]
    simp only [if_pos (show (0 : Int) ≤ (i : Int) by omega), if_pos (show ((i : Int) < (l.length : Int)) by omega), rd_nat l i hlt, w64 (a := (i : Int) + 1) (by omega) (by omega), putG]
    by_cases h : Op.bytesLess l[i].f0.toList g.f0.toList = true
    · have hne : ¬ l[i].f0.toList = g.f0.toList := by
        intro e
        rw [e, less_irrefl] at h
        exact absurd h (by simp)
      simp only [h, Bool.not_true, Bool.false_eq_true, if_false, if_neg hne, if_true, if_pos (show out.length < 5864062014805 by omega)]
      have := ih (i + 1) (out ++ [l[i]]) (by omega) (by omega) (by simp; omega)
      simp only [List.append_assoc, List.cons_append, List.nil_append] at this
      exact this
    · simp only [h, Bool.not_false, if_true, if_false, if_pos (show out.length < 5864062014805 by omega), Option.bind_some, Bool.false_eq_true]
      rw [List.filter_cons]
      by_cases he : l[i].f0.toList = g.f0.toList
      · simp only [he, if_true, ne_eq, not_true_eq_false, decide_false, Bool.false_eq_true, if_false]
        have := put_done l g hl (l.length - (i + 1)) (i + 1) (out ++ [g]) rfl (by simp; omega)
        simp only [List.append_assoc, List.cons_append, List.nil_append, ne_eq] at this
        exact this
      · simp only [ne_eq, he, if_false, not_false_eq_true, decide_true, if_true, if_pos (show (out ++ [g]).length < 5864062014805 by simp; omega)]
        have := put_done l g hl (l.length - (i + 1)) (i + 1) (out ++ [g] ++ [l[i]]) rfl (by simp; omega)
        have e : ∀ F : List S53, (out ++ [g] ++ [l[i]]) ++ F = out ++ (g :: l[i] :: F) := by intro F; simp
        rw [e] at this
        simp only [ne_eq] at this
        exact this
theorem gPut_ev (l : List S53) (g : S53) (hl : l.length ≤ 1048576) (hs : ∀ x ∈ l, x.f0.size ≤ 9223372036854775807) (hg : g.f0.size ≤ 9223372036854775807) :
    Ev (fun k => spec_GroupsPut.f k l g.f0 g.f1) (gPut l g) := by
  unfold spec_GroupsPut.f gPut
  refine Ev.bind (svalid_ev l (by omega) hs) ?_
  cases gsOk l
  · simp only [Bool.false_eq_true, if_false, Bool.false_and]
    refine Ev.step (fun k => by rw [spec_GroupsPut.j0]) ?_
    simp only [if_true]
    exact Ev.now _
  · simp only [if_true, Bool.true_and]
    refine Ev.bind (l32Group_ev g hg) ?_
    refine Ev.step (fun k => by rw [spec_GroupsPut.j0]) ?_
    cases gOk g
    · simp only [Bool.not_false, if_true, Bool.false_eq_true, if_false]
      exact Ev.now _
    · simp only [Bool.not_true, Bool.false_eq_true, if_false, if_true]
      have := put_not l g hl l.length 0 [] (by omega) (by omega) (by simp)
      simpa using this
theorem putG_mem (g : S53) : ∀ (l : List S53) x, x ∈ putG g l → x = g ∨ x ∈ l
  | [], x, h => by simp [putG] at h; exact .inl h
  | y :: ys, x, h => by
    unfold putG at h
    split at h
    · rcases List.mem_cons.1 h with rfl | h
      · exact .inr (by simp)
      · rcases putG_mem g ys x h with h | h
        · exact .inl h
        · exact .inr (by simp [h])
    · rcases List.mem_cons.1 h with rfl | h
      · exact .inl rfl
      · exact .inr ((List.mem_filter.1 h).1)
theorem gPut_mem {l : List S53} {g : S53} {x : S53} (h : x ∈ (gPut l g).1) : x = g ∨ x ∈ l := by
  unfold gPut at h
  split at h
  · unfold fin8 at h
    split at h
    · simp at h
    · exact putG_mem g l x h
  · simp at h
theorem gPut_len (l : List S53) (g : S53) : (gPut l g).1.length ≤ 8 := by
  unfold gPut
  split
  · unfold fin8
    split
    · simp
    · rename_i h
      simpa using h
  · simp
end Go.Proofs.Ythlnbbehcpdnfaa.Pu
