/- Valid groups without one stay valid; with one twice they are none. -/
import Derived.Test.YthlnbbehcpdnfaaPuGroups
namespace Go.Proofs.Ythlnbbehcpdnfaa.Pu
open Go.RowKit Go.Proofs.YthlnbbehcpdnfaaW.PrintWords Go.Proofs.YthlnbbehcpdnfaaW.PrintLast Go.Proofs.Ythlnbbehcpdnfaa.G
set_option linter.unusedVariables false
set_option linter.unusedSimpArgs false
def lastOr (p : Option S53) : List S53 → Option S53
  | [] => p
  | g :: l => lastOr (some g) l
theorem gsFrom_append : ∀ (a b : List S53) (p : Option S53), gsFrom p (a ++ b) = (gsFrom p a && gsFrom (lastOr p a) b)
  | [], b, p => by simp [gsFrom, lastOr]
  | g :: a, b, p => by
    simp only [List.cons_append, gsFrom, lastOr, gsFrom_append a b (some g)]
    simp only [Bool.and_assoc]
def ahead : Option S53 → S53 → Bool
  | none, _ => true
  | some q, g => Op.bytesLess q.f0.toList g.f0.toList
theorem gsFrom_cons (p : Option S53) (g : S53) (l : List S53) : gsFrom p (g :: l) = (gOk g && (ahead p g && gsFrom (some g) l)) := by
  cases p <;> rfl
theorem gsFrom_skip (p : Option S53) (g : S53) (l : List S53) (h : gsFrom p (g :: l) = true) : gsFrom p l = true := by
  rw [gsFrom_cons] at h
  simp only [Bool.and_eq_true] at h
  obtain ⟨_, h1, h2⟩ := h
  cases l with
  | nil => rfl
  | cons x l =>
    rw [gsFrom_cons] at h2 ⊢
    simp only [Bool.and_eq_true] at h2 ⊢
    refine ⟨h2.1, ?_, h2.2.2⟩
    cases p with
    | none => rfl
    | some q => exact less_trans _ _ _ h1 h2.2.1
theorem gsFrom_twice (p : Option S53) (g : S53) (l : List S53) : gsFrom p (g :: g :: l) = false := by
  rw [gsFrom_cons, gsFrom_cons]
  have : ahead (some g) g = false := less_irrefl _
  rw [this]
  simp
theorem split_at (l : List S53) (k : Nat) (h : k < l.length) : l = l.take k ++ (l[k] :: l.drop (k + 1)) := by
  rw [← drop_cons_get l k h, List.take_append_drop]
theorem part_less (l : List S53) (k : Nat) (h : k < l.length) (ho : gsOk l = true) : gsOk (l.take k ++ l.drop (k + 1)) = true := by
  unfold gsOk at ho ⊢
  simp only [Bool.and_eq_true, decide_eq_true_eq] at ho ⊢
  refine ⟨?_, by simp; omega⟩
  have h1 := ho.1
  rw [split_at l k h, gsFrom_append, Bool.and_eq_true] at h1
  rw [gsFrom_append, Bool.and_eq_true]
  exact ⟨h1.1, gsFrom_skip _ _ _ h1.2⟩
theorem part_more (l : List S53) (k : Nat) (h : k < l.length) : gsOk (l.take (k + 1) ++ l.drop k) = false := by
  unfold gsOk
  rw [List.take_succ_eq_append_getElem h, drop_cons_get l k h, List.append_assoc, gsFrom_append]
  rw [show [l[k]] ++ l[k] :: l.drop (k + 1) = l[k] :: l[k] :: l.drop (k + 1) from rfl, gsFrom_twice]
  simp
end Go.Proofs.Ythlnbbehcpdnfaa.Pu
