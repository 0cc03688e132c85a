/- A text of seat Ytkihdohphddjaaa: what the law FnExactGroupsPut needs of this repo's texts (by pack.py). Not trusted: Lean checks it. -/
import Derived.Test.YtkihdohphddjaaaKFnExactGroupsPut7
import Derived.Test.YtkihdohphddjaaaRows
import Derived.WalkKit
import Derived.ProofKit
import Derived.OpenShut
import Derived.ShutString
import Derived.ChangeOld
import Derived.Below
import Derived.SizedLaws
import Derived.Lib.SmallJoins
import Derived.ChangeSlices
namespace Go.Proofs.Ytkihdohphddjaaa.Pu
open Go.RowKit Go.Proofs.YtkihdohphddjaaaW.PrintWords Go.Proofs.YtkihdohphddjaaaW.PrintLast Go.Proofs.Ytkihdohphddjaaa.G
set_option linter.unusedVariables false
set_option linter.unusedSimpArgs false
def putG (g : S25) : List S25 → List S25
  | [] => [g]
  | x :: xs => if Op.bytesLess x.f0.toList g.f0.toList = true then x :: putG g xs else g :: (x :: xs).filter (fun y => decide (y.f0.toList ≠ g.f0.toList))
def fin8 (l : List S25) : List S25 × Bool := if l.length > 8 then ([], false) else (l, true)
def gPut (l : List S25) (g : S25) : List S25 × Bool := if (gsOk l && gOk g) = true then fin8 (putG g l) else ([], false)
theorem fin8_if (l : List S25) : (if (l.length : Int) > 8 then (some ((([] : List S25)), false)) else (some (l, true))) = some (fin8 l) := by
  unfold fin8
  by_cases h : l.length > 8
  · rw [if_pos (show (l.length : Int) > 8 by omega), if_pos h]
  · rw [if_neg (show ¬ (l.length : Int) > 8 by omega), if_neg h]
theorem put_done (l : List S25) (g : S25) (hl : l.length ≤ 1048576) : ∀ d i (out : List S25), l.length - i = d → out.length ≤ i + 1 →
    Ev (fun k => spec_GroupsPut.l0 k l out true (i : Int) g.f0 g.f1) (fin8 (out ++ (l.drop i).filter (fun y => decide (y.f0.toList ≠ g.f0.toList)))) := by
  intro d
  induction d with
  | zero =>
    intro i out hi ho
    refine Ev.step (fun k => by rw [spec_GroupsPut.l0]) ?_
    simp only [if_neg (show ¬ ((i : Int) < (l.length : Int)) by omega), if_true]
    rw [List.drop_of_length_le (by omega)]
    simp only [List.filter_nil, List.append_nil, fin8_if]
    exact Ev.now _
  | succ d ih =>
    intro i out hi ho
    have hlt : i < l.length := by omega
    refine Ev.step (fun k => by rw [spec_GroupsPut.l0]) ?_
    simp only [if_pos (show ((i : Int) < (l.length : Int)) by omega), if_true]
    refine Ev.step (fun k => by rw [spec_GroupsPut.j2]) ?_
    simp only [Bool.false_eq_true, if_false, if_pos (show (0 : Int) ≤ (i : Int) by omega), if_pos (show ((i : Int) < (l.length : Int)) by omega), rd_nat l i hlt, w64 (a := (i : Int) + 1) (by omega) (by omega)]
    rw [drop_cons_get l i hlt, List.filter_cons]
    by_cases h : l[i].f0.toList = g.f0.toList
    · simp only [h, if_true, ne_eq, not_true_eq_false, decide_false, Bool.false_eq_true, if_false]
      exact ih (i + 1) out (by omega) (by omega)
    · simp only [if_neg h, ne_eq, h, not_false_eq_true, decide_true, if_true, if_pos (show out.length < 5864062014805 by omega)]
      have := ih (i + 1) (out ++ [l[i]]) (by omega) (by simp; omega)
      simp only [List.append_assoc, List.cons_append, List.nil_append] at this
      exact this
theorem put_not (l : List S25) (g : S25) (hl : l.length ≤ 1048576) : ∀ d i (out : List S25), l.length - i = d → i ≤ l.length → out.length ≤ i →
    Ev (fun k => spec_GroupsPut.l0 k l out false (i : Int) g.f0 g.f1) (fin8 (out ++ putG g (l.drop i))) := by
  intro d
  induction d with
  | zero =>
    intro i out hi hle ho
    refine Ev.step (fun k => by rw [spec_GroupsPut.l0]) ?_
    simp only [if_neg (show ¬ ((i : Int) < (l.length : Int)) by omega), Bool.false_eq_true, if_false]
    rw [List.drop_of_length_le (by omega)]
    have hlim : out.length < 5864062014805 := by omega
    simp only [if_pos hlim, Option.bind_some, fin8_if, putG]
    exact Ev.now _
  | succ d ih =>
    intro i out hi hle ho
    have hlt : i < l.length := by omega
    refine Ev.step (fun k => by rw [spec_GroupsPut.l0]) ?_
    simp only [if_pos (show ((i : Int) < (l.length : Int)) by omega), Bool.false_eq_true, if_false, if_pos (show (0 : Int) ≤ (i : Int) by omega), rd_nat l i hlt]
    refine Ev.step (fun k => by rw [spec_GroupsPut.j2]) ?_
    rw [drop_cons_get l i hlt]
    simp only [if_pos (show (0 : Int) ≤ (i : Int) by omega), if_pos (show ((i : Int) < (l.length : Int)) by omega), rd_nat l i hlt, w64 (a := (i : Int) + 1) (by omega) (by omega), putG]
    by_cases h : Op.bytesLess l[i].f0.toList g.f0.toList = true
    · have hne : ¬ l[i].f0.toList = g.f0.toList := by
        intro e
        rw [e, less_irrefl] at h
        exact absurd h (by simp)
      simp only [h, Bool.not_true, Bool.false_eq_true, if_false, if_neg hne, if_true, if_pos (show out.length < 5864062014805 by omega)]
      have := ih (i + 1) (out ++ [l[i]]) (by omega) (by omega) (by simp; omega)
      simp only [List.append_assoc, List.cons_append, List.nil_append] at this
      exact this
    · simp only [h, Bool.not_false, if_true, if_false, if_pos (show out.length < 5864062014805 by omega), Option.bind_some, Bool.false_eq_true]
      rw [List.filter_cons]
      by_cases he : l[i].f0.toList = g.f0.toList
      · simp only [he, if_true, ne_eq, not_true_eq_false, decide_false, Bool.false_eq_true, if_false]
        have := put_done l g hl (l.length - (i + 1)) (i + 1) (out ++ [g]) rfl (by simp; omega)
        simp only [List.append_assoc, List.cons_append, List.nil_append, ne_eq] at this
        exact this
      · simp only [ne_eq, he, if_false, not_false_eq_true, decide_true, if_true, if_pos (show (out ++ [g]).length < 5864062014805 by simp; omega)]
        have := put_done l g hl (l.length - (i + 1)) (i + 1) (out ++ [g] ++ [l[i]]) rfl (by simp; omega)
        have e : ∀ F : List S25, (out ++ [g] ++ [l[i]]) ++ F = out ++ (g :: l[i] :: F) := by intro F; simp
        rw [e] at this
        simp only [ne_eq] at this
        exact this
theorem gPut_ev (l : List S25) (g : S25) (hl : l.length ≤ 1048576) (hs : ∀ x ∈ l, x.f0.size ≤ 9223372036854775807) (hg : g.f0.size ≤ 9223372036854775807) :
    Ev (fun k => spec_GroupsPut.f k l g.f0 g.f1) (gPut l g) := by
  unfold spec_GroupsPut.f gPut
  refine Ev.bind (svalid_ev l (by omega) hs) ?_
  cases gsOk l
  · simp only [Bool.false_eq_true, if_false, Bool.false_and]
    refine Ev.step (fun k => by rw [spec_GroupsPut.j0]) ?_
    simp only [if_true]
    exact Ev.now _
  · simp only [if_true, Bool.true_and]
    refine Ev.bind (l32Group_ev g hg) ?_
    refine Ev.step (fun k => by rw [spec_GroupsPut.j0]) ?_
    cases gOk g
    · simp only [Bool.not_false, if_true, Bool.false_eq_true, if_false]
      exact Ev.now _
    · simp only [Bool.not_true, Bool.false_eq_true, if_false, if_true]
      have := put_not l g hl l.length 0 [] (by omega) (by omega) (by simp)
      simpa using this
theorem gPut_len (l : List S25) (g : S25) : (gPut l g).1.length ≤ 8 := by
  unfold gPut
  split
  · unfold fin8
    split
    · simp
    · rename_i h
      simpa using h
  · simp
end Go.Proofs.Ytkihdohphddjaaa.Pu

namespace Go.Proofs.Ytkihdohphddjaaa.Pu
open Go.RowKit Go.Proofs.YtkihdohphddjaaaW.PrintWords Go.Proofs.YtkihdohphddjaaaW.PrintLast Go.Proofs.Ytkihdohphddjaaa.G
set_option linter.unusedVariables false
set_option linter.unusedSimpArgs false
theorem cmp_lt : ∀ x y : List UInt8, Lib.compareBytes x y < 0 ↔ Op.bytesLess x y = true
  | [], [] => by simp [Lib.compareBytes, Op.bytesLess]
  | [], _ :: _ => by simp [Lib.compareBytes, Op.bytesLess]
  | _ :: _, [] => by simp [Lib.compareBytes, Op.bytesLess]
  | a :: x, b :: y => by
    have ih := cmp_lt x y
    simp only [Lib.compareBytes, Op.bytesLess, Bool.or_eq_true, decide_eq_true_eq, Bool.and_eq_true, beq_iff_eq]
    by_cases h1 : a < b
    · simp [h1]
    · by_cases h2 : b < a
      · have : a ≠ b := fun e => by subst e; exact h1 h2
        simp [h1, h2, this]
      · have : a = b := UInt8.le_antisymm (UInt8.not_lt.1 h2) (UInt8.not_lt.1 h1)
        simp [h1, h2, this, ih]
theorem cmp_eq : ∀ x y : List UInt8, Lib.compareBytes x y = 0 ↔ x = y
  | [], [] => by simp [Lib.compareBytes]
  | [], _ :: _ => by simp [Lib.compareBytes]
  | _ :: _, [] => by simp [Lib.compareBytes]
  | a :: x, b :: y => by
    have ih := cmp_eq x y
    simp only [Lib.compareBytes, List.cons.injEq]
    by_cases h1 : a < b
    · have : a ≠ b := fun e => by subst e; exact absurd h1 (UInt8.lt_irrefl a)
      simp [h1, this]
    · by_cases h2 : b < a
      · have : a ≠ b := fun e => by subst e; exact h1 h2
        simp [h1, h2, this]
      · have : a = b := UInt8.le_antisymm (UInt8.not_lt.1 h2) (UInt8.not_lt.1 h1)
        simp [h1, h2, this, ih]
def nameLt (g x : S25) : Bool := Op.bytesLess x.f0.toList g.f0.toList
def cnt (g : S25) : List S25 → Nat
  | [] => 0
  | x :: l => if nameLt g x = true then cnt g l + 1 else 0
def hit (g : S25) : List S25 → Bool
  | [] => false
  | x :: l => if nameLt g x = true then hit g l else decide (x.f0.toList = g.f0.toList)
theorem cnt_le (g : S25) : ∀ l, cnt g l ≤ l.length
  | [] => Nat.le_refl _
  | x :: l => by
    have := cnt_le g l
    unfold cnt
    split <;> simp <;> omega
theorem cnt_lo (g : S25) : ∀ (l : List S25) (m : Nat) (h : m < l.length), m < cnt g l → nameLt g l[m] = true
  | [], m, h, _ => absurd h (by simp)
  | x :: l, m, h, hm => by
    unfold cnt at hm
    split at hm
    · rename_i hx
      cases m with
      | zero => exact hx
      | succ m => exact cnt_lo g l m (by simpa using h) (by omega)
    · omega
theorem gs_lt : ∀ (l : List S25) (x : S25), gsFrom (some x) l = true → ∀ y ∈ l, Op.bytesLess x.f0.toList y.f0.toList = true
  | [], _, _, y, hy => absurd hy (by simp)
  | z :: l, x, h, y, hy => by
    unfold gsFrom at h
    simp only [Bool.and_eq_true] at h
    rcases List.mem_cons.1 hy with rfl | hy
    · exact h.2.1
    · exact less_trans _ _ _ h.2.1 (gs_lt l z h.2.2 y hy)
theorem gs_tail {p : Option S25} {x : S25} {l : List S25} (h : gsFrom p (x :: l) = true) : gsFrom (some x) l = true := by
  unfold gsFrom at h
  simp only [Bool.and_eq_true] at h
  exact h.2.2
theorem cnt_hi (g : S25) : ∀ (l : List S25) (p : Option S25), gsFrom p l = true → ∀ (m : Nat) (h : m < l.length), cnt g l ≤ m → nameLt g l[m] = false
  | [], _, _, m, h, _ => absurd h (by simp)
  | x :: l, p, hs, m, h, hm => by
    unfold cnt at hm
    split at hm
    · cases m with
      | zero => omega
      | succ m => exact cnt_hi g l (some x) (gs_tail hs) m (by simpa using h) (by omega)
    · rename_i hx
      cases m with
      | zero => simpa using hx
      | succ m =>
        have h1 := gs_lt l x (gs_tail hs) (l[m]'(by simpa using h)) (List.getElem_mem _)
        show Op.bytesLess (l[m]'(by simpa using h)).f0.toList g.f0.toList = false
        cases hb : Op.bytesLess (l[m]'(by simpa using h)).f0.toList g.f0.toList with
        | false => rfl
        | true => exact absurd (less_trans _ _ _ h1 hb) hx
theorem hit_at (g : S25) : ∀ (l : List S25) (h : cnt g l < l.length), hit g l = decide ((l[cnt g l]'h).f0.toList = g.f0.toList)
  | [], h => absurd h (by simp)
  | x :: l, h => by
    by_cases hx : nameLt g x = true
    · have e : cnt g (x :: l) = cnt g l + 1 := by rw [cnt, if_pos hx]
      have h' : cnt g l < l.length := by rw [e] at h; simpa using h
      rw [hit, if_pos hx, hit_at g l h']
      simp only [e, List.getElem_cons_succ]
    · have e : cnt g (x :: l) = 0 := by rw [cnt, if_neg hx]
      rw [hit, if_neg hx]
      simp only [e, List.getElem_cons_zero]
theorem hit_end (g : S25) : ∀ (l : List S25), cnt g l = l.length → hit g l = false
  | [], _ => rfl
  | x :: l, h => by
    unfold cnt at h
    split at h
    · rename_i hx
      rw [hit, if_pos hx]
      exact hit_end g l (by simpa using h)
    · simp at h
theorem put1_some (a : ByteArray) (b : Int) (c : ByteArray) (d : Int) : impl_members_put_1.f a b c d = some (Lib.compareBytes a.toList c.toList) := by
  unfold impl_members_put_1.f strings_Compare.f
  rw [toList_data, toList_data]
  rfl
theorem bs_loop (l : List S25) (g : S25) (hl : l.length ≤ 1048576) (hs : gsFrom none l = true) : ∀ d i j, j - i = d → i ≤ cnt g l → cnt g l ≤ j → j ≤ l.length →
    Ev (fun k => impl_Group_46.l0 k l (l.length : Int) (i : Int) (j : Int) g.f0 g.f1) ((cnt g l : Nat), hit g l) := by
  intro d
  induction d using Nat.strongRecOn with
  | ind d ih =>
    intro i j hd hi hj hjl
    refine Ev.step (fun k => by rw [impl_Group_46.l0]) ?_
    rcases Nat.lt_or_ge i j with hij | hij
    · have hh : wrap64 ((IntKind.u64.wrap (wrap64 ((i : Int) + (j : Int)))) / 2) = (((i + j) / 2 : Nat) : Int) := by
        rw [w64 (a := (i : Int) + (j : Int)) (by omega) (by omega)]
        have e : IntKind.u64.wrap ((i : Int) + (j : Int)) = (i : Int) + (j : Int) := by
          simp only [IntKind.wrap, IntKind.bits, IntKind.signed]
          first | omega | (simp; omega)
        rw [e, w64 (by omega) (by omega)]
        omega
      obtain ⟨h, hhe⟩ : ∃ h, h = (i + j) / 2 := ⟨_, rfl⟩
      rw [← hhe] at hh
      have hlt : h < l.length := by omega
      simp only [if_pos (show (i : Int) < (j : Int) by omega), hh, if_pos (show (0 : Int) ≤ (h : Int) by omega), if_pos (show (h : Int) < (l.length : Int) by omega), rd_nat l h hlt, put1_some, Option.bind_some, w64 (a := (h : Int) + 1) (by omega) (by omega)]
      by_cases hc : Lib.compareBytes l[h].f0.toList g.f0.toList < 0
      · simp only [if_pos hc]
        have hn : nameLt g l[h] = true := (cmp_lt _ _).1 hc
        have hcl : h < cnt g l := by
          rcases Nat.lt_or_ge h (cnt g l) with h9 | h9
          · exact h9
          · rw [cnt_hi g l none hs h hlt h9] at hn
            exact absurd hn (by simp)
        exact ih (j - (h + 1)) (by omega) (h + 1) j rfl (by omega) hj hjl
      · simp only [if_neg hc]
        have hcl : cnt g l ≤ h := by
          rcases Nat.lt_or_ge h (cnt g l) with h9 | h9
          · exact absurd ((cmp_lt _ _).2 (cnt_lo g l h hlt h9)) hc
          · exact h9
        exact ih (h - i) (by omega) i h rfl hi hcl (by omega)
    · obtain rfl : i = cnt g l := by omega
      simp only [if_neg (show ¬ ((cnt g l : Nat) : Int) < (j : Int) by omega)]
      rcases Nat.lt_or_ge (cnt g l) l.length with hlt | hge
      · simp only [if_pos (show ((cnt g l : Nat) : Int) < (l.length : Int) by omega), if_pos (show (0 : Int) ≤ ((cnt g l : Nat) : Int) by omega), rd_nat l _ hlt, put1_some, Option.bind_some]
        have e : (Lib.compareBytes (l[cnt g l]'hlt).f0.toList g.f0.toList == 0) = hit g l := by
          rw [hit_at g l hlt, Bool.eq_iff_iff, beq_iff_eq, decide_eq_true_eq]
          exact cmp_eq _ _
        rw [e]
        exact Ev.now _
      · simp only [if_neg (show ¬ ((cnt g l : Nat) : Int) < (l.length : Int) by omega)]
        rw [hit_end g l (by have := cnt_le g l; omega)]
        exact Ev.now _
theorem bsG_ev (l : List S25) (g : S25) (hl : l.length ≤ 1048576) (hs : gsFrom none l = true) : Ev (fun k => bsG k l g) ((cnt g l : Nat), hit g l) := by
  unfold bsG impl_Group_46.f
  exact bs_loop l g hl hs l.length 0 l.length (by omega) (by omega) (cnt_le g l) (Nat.le_refl _)
theorem putL_eq (g : S25) : ∀ (l : List S25) (p : Option S25), gsFrom p l = true → putL l g ((cnt g l : Nat) : Int) (hit g l) = putG g l
  | [], _, _ => by simp [putL, hit, cnt, insL, putG]
  | x :: l, p, hs => by
    have ih := putL_eq g l (some x) (gs_tail hs)
    have hlt := gs_lt l x (gs_tail hs)
    by_cases hx : nameLt g x = true
    · rw [cnt, if_pos hx, hit, if_pos hx, putG, if_pos (show Op.bytesLess x.f0.toList g.f0.toList = true from hx), ← ih]
      unfold putL
      cases hit g l
      · simp [insL]
      · simp
    · rw [cnt, if_neg hx, hit, if_neg hx, putG, if_neg (show ¬ Op.bytesLess x.f0.toList g.f0.toList = true from hx)]
      have hne : ∀ y ∈ l, ¬ y.f0.toList = g.f0.toList := by
        intro y hy e
        have := hlt y hy
        rw [e] at this
        exact hx this
      have hf : l.filter (fun y => decide (y.f0.toList ≠ g.f0.toList)) = l := List.filter_eq_self.2 (fun y hy => by simpa using hne y hy)
      rw [List.filter_cons, hf]
      by_cases he : x.f0.toList = g.f0.toList
      · simp [he, putL]
      · simp [he, putL, insL]
theorem putR_fin (l : List S25) : putR l = fin8 l := by
  unfold putR fin8
  rfl
theorem gPutI_ev (l : List S25) (g : S25) (hl : l.length ≤ 1048576) (hs : ∀ x ∈ l, x.f0.size ≤ 9223372036854775807) (hg : g.f0.size ≤ 9223372036854775807) :
    Ev (fun k => impl_GroupsPut.f k l g.f0 g.f1) (gPut l g) := by
  unfold impl_GroupsPut.f gPut
  refine Ev.bind (valid_ev l (by omega) hs) ?_
  cases hv : gsOk l
  · simp only [Bool.false_eq_true, if_false, Bool.false_and]
    exact Ev.now _
  · simp only [if_true, Bool.true_and]
    refine Ev.bind (groupValid_ev g hg) ?_
    cases gOk g
    · simp only [Bool.false_eq_true, if_false]
      exact Ev.now _
    · simp only [if_true]
      have hs' : gsFrom none l = true := by unfold gsOk at hv; simp only [Bool.and_eq_true] at hv; exact hv.1
      refine Ev.bind (bsG_ev l g hl hs') ?_
      have hle := cnt_le g l
      have hh : (!hit g l || decide (((cnt g l : Nat) : Int) < (l.length : Int))) = true := by
        rcases Nat.lt_or_ge (cnt g l) l.length with h | h
        · simp [h]
        · rw [hit_end g l (by omega)]
          rfl
      unfold putAt
      rw [if_pos (by simp only [Bool.and_eq_true, decide_eq_true_eq]; exact ⟨⟨by omega, by omega⟩, hh⟩), putL_eq g l none hs', putR_fin]
      exact Ev.now _
end Go.Proofs.Ytkihdohphddjaaa.Pu

namespace Go.Proofs.Ytkihdohphddjaaa.Pu
open Go.RowKit Go.Proofs.YtkihdohphddjaaaW.PrintWords Go.Proofs.YtkihdohphddjaaaW.PrintLast Go.Proofs.Ytkihdohphddjaaa.G
set_option linter.unusedVariables false
set_option linter.unusedSimpArgs false
/-- What is drawn: at most so many groups, each with a short name and a small number. -/
def DrG (l : List S25) : Prop := l.length ≤ 8 ∧ ∀ g ∈ l, g.f0.size ≤ 7 ∧ 0 ≤ g.f1 ∧ g.f1 ≤ 100
theorem DrG.size {l : List S25} (h : DrG l) : ∀ g ∈ l, g.f0.size ≤ 9223372036854775807 := fun g hg => by have := (h.2 g hg).1; omega
end Go.Proofs.Ytkihdohphddjaaa.Pu

namespace Go.Proofs.Ytkihdohphddjaaa.G
open Go.RowKit Go.Proofs.YtkihdohphddjaaaW.PrintWords Go.Proofs.YtkihdohphddjaaaW.PrintLast Go.Proofs.YtkihdohphddjaaaW.PrintMore
attribute [local go_sem] max2_int min2_int max_two min_two max_three min_three max_four min_four   -- for this text's walks alone
set_option linter.unusedVariables false
set_option linter.unusedSimpArgs false

theorem eqA25 (d : Nat) (w : World) (x0 y0 : ByteArray) (x1 y1 : Int) :
  (Op.equalIn (d + 2) 25 (.agg #[.string x0, .int .i64 x1]) (.agg #[.string y0, .int .i64 y1])).run Try.prog w = .ok (x0.toList == y0.toList && (x1 == y1)) w := by
 refine eqA_of Try.underlying25 (by kernel_rfl) ?_
 refine eqf_cons (by rfl) (by go_simp; rfl) (by go_simp; rfl) (by go_simp) ?_
 exact eqf_last (by rfl) (by go_simp; rfl) (by go_simp; rfl) (by go_simp)
end Go.Proofs.Ytkihdohphddjaaa.G

namespace Go.Proofs.Ytkihdohphddjaaa.Pu
open Go.RowKit Go.Proofs.YtkihdohphddjaaaW.PrintWords Go.Proofs.YtkihdohphddjaaaW.PrintLast Go.Proofs.Ytkihdohphddjaaa.G
set_option linter.unusedVariables false
set_option linter.unusedSimpArgs false
def below (p : Option S25) (g : S25) : Bool := match p with | none => true | some q => Op.bytesLess q.f0.toList g.f0.toList
end Go.Proofs.Ytkihdohphddjaaa.Pu

namespace Go.Proofs.Ytkihdohphddjaaa.Pu
open Go.RowKit Go.Proofs.YtkihdohphddjaaaW.PrintWords Go.Proofs.YtkihdohphddjaaaW.PrintLast Go.Proofs.Ytkihdohphddjaaa.G
set_option linter.unusedVariables false
set_option linter.unusedSimpArgs false
theorem strOfNums_one (x : Int) : (strOfNums [x]).size = 1 := rfl
theorem markT_loop : ∀ (d : Nat) (a : Int) (s : ByteArray), a.toNat = d → 0 ≤ a → a ≤ 1000000000 → s.size + d ≤ 2000000000 → ∃ r, Ev (fun k => laws_markText.l0 k a s) r := by
  intro d
  induction d using Nat.strongRecOn with
  | ind d ih =>
    intro a s hd h0 h1 hs
    by_cases ha : a > 0
    · have ht : Int.tdiv a 10 = a / 10 := Int.tdiv_eq_ediv_of_nonneg h0
      have key : ∀ c : Int, ∃ r, Ev (fun k => laws_markText.l0 k (a / 10) (strOfNums [c] ++ s)) r := fun c => by
        refine ih (a / 10).toNat (by omega) (a / 10) _ rfl (by omega) (by omega) ?_
        rw [ByteArray.size_append, strOfNums_one]
        omega
      obtain ⟨r, hr⟩ := key (wrap64 (48 + Int.tmod a 10) % 256)
      refine ⟨r, Ev.step (fun k => by rw [laws_markText.l0]) ?_⟩
      have e : (strOfNums [wrap64 (48 + Int.tmod a 10) % 256]).size + s.size ≤ 9223372036854775807 := by rw [strOfNums_one]; omega
      simp only [if_pos ha, Option.bind_some, if_pos e, ht, w64 (a := a / 10) (by omega) (by omega)]
      exact hr
    · refine ⟨(⟨#[109]⟩ : ByteArray) ++ s, Ev.step (fun k => by rw [laws_markText.l0]) ?_⟩
      simp only [if_neg ha, if_pos (show 1 + s.size ≤ 9223372036854775807 by omega)]
      exact Ev.now _
theorem markT_ends (a : Int) (h0 : 0 ≤ a) (h1 : a ≤ 1000000000) : ∃ r, Ev (fun k => laws_markText.f k a) r := by
  unfold laws_markText.f
  by_cases h : a ≤ 0
  · simp only [if_pos h]
    exact ⟨_, Ev.now _⟩
  · simp only [if_neg h]
    exact markT_loop a.toNat a _ rfl h0 h1 (by have : (⟨#[]⟩ : ByteArray).size = 0 := rfl; omega)
noncomputable def mt (a : Int) : ByteArray := open Classical in if h : ∃ r, Ev (fun k => laws_markText.f k a) r then h.choose else ⟨#[]⟩
theorem mt_ev (a : Int) (h0 : 0 ≤ a) (h1 : a ≤ 1000000000) : Ev (fun k => laws_markText.f k a) (mt a) := by
  unfold mt
  rw [dif_pos (markT_ends a h0 h1)]
  exact (markT_ends a h0 h1).choose_spec
noncomputable def mkG (a : Int) (n : Nat) : List S25 := (List.range n).map fun (i : Nat) => ⟨mt (a + 2 * (i : Int)), a + 2 * (i : Int) + 1⟩
theorem mkG_len (a : Int) (n : Nat) : (mkG a n).length = n := by simp [mkG]
theorem mkG_succ (a : Int) (n : Nat) : mkG a (n + 1) = mkG a n ++ [⟨mt (a + 2 * (n : Int)), a + 2 * (n : Int) + 1⟩] := by
  unfold mkG
  rw [List.range_succ, List.map_append]
  rfl
theorem mkG_at (a : Int) (n i : Nat) (h : i < n) : rd_T25 (mkG a n) (i : Int) = ⟨mt (a + 2 * (i : Int)), a + 2 * (i : Int) + 1⟩ := by
  rw [rd_nat _ _ (by rw [mkG_len]; exact h)]
  simp [mkG]
theorem set_mid {α : Type} (A B : List α) (x y : α) (i : Nat) (h : A.length = i) : (A ++ y :: B).set i x = A ++ x :: B := by
  rw [List.set_append_right _ _ (by omega), show i - A.length = 0 by omega, List.set_cons_zero]
theorem rd_mid (A B : List S25) (y : S25) (i : Nat) (h : A.length = i) : rd_T25 (A ++ y :: B) (i : Int) = y := by
  rw [rd_nat _ _ (by rw [List.length_append, List.length_cons]; omega)]
  rw [List.getElem_append_right (by omega)]
  simp [h]
theorem markG_loop (l : List S25) (a : Int) (hl : l.length ≤ 2000000) (h0 : 0 ≤ a) (h1 : a ≤ 1000000) : ∀ d i, l.length - i = d → i ≤ l.length → Ev (fun k => laws_markGroupS.l0 k (mkG a i ++ l.drop i) (a + 2 * (i : Int)) (i : Int)) (a + 2 * (l.length : Int), mkG a l.length) := by
  intro d
  induction d with
  | zero =>
    intro i hd hi
    obtain rfl : i = l.length := by omega
    refine Ev.step (fun k => by rw [laws_markGroupS.l0]) ?_
    rw [List.drop_length, List.append_nil, mkG_len]
    simp only [if_neg (show ¬ ((l.length : Int) < (l.length : Int)) by omega)]
    exact Ev.now _
  | succ d ih =>
    intro i hd hi
    have hlt : i < l.length := by omega
    refine Ev.step (fun k => by rw [laws_markGroupS.l0]) ?_
    have hlen : (mkG a i ++ l.drop i).length = l.length := by rw [List.length_append, mkG_len, List.length_drop]; omega
    simp only [hlen, if_pos (show (i : Int) < (l.length : Int) by omega)]
    refine Ev.bind (mt_ev (a + 2 * (i : Int)) (by omega) (by omega)) ?_
    have := ih (i + 1) (by omega) (by omega)
    rw [List.drop_eq_getElem_cons hlt]
    simp only [if_pos (show (0 : Int) ≤ (i : Int) by omega), Option.bind_some, Int.toNat_natCast, set_mid _ _ _ _ i (mkG_len a i), rd_mid _ _ _ i (mkG_len a i), w64 (a := a + 2 * (i : Int) + 1) (by omega) (by omega), w64 (a := a + 2 * (i : Int) + 1 + 1) (by omega) (by omega), w64 (a := (i : Int) + 1) (by omega) (by omega)]
    rw [mkG_succ, List.append_assoc, show a + 2 * ((i + 1 : Nat) : Int) = a + 2 * (i : Int) + 1 + 1 by omega, show ((i + 1 : Nat) : Int) = (i : Int) + 1 by omega] at this
    exact this
theorem markG_ev (l : List S25) (hl : l.length ≤ 2000000) : Ev (fun k => laws_markGroupS.f k l 1) (1 + 2 * (l.length : Int), mkG 1 l.length) := by
  unfold laws_markGroupS.f
  have := markG_loop l 1 hl (by omega) (by omega) l.length 0 (by omega) (by omega)
  simpa [mkG] using this
theorem heldG_loop (a : Int) (n : Nat) (hl : n ≤ 2000000) (h0 : 0 ≤ a) (h1 : a ≤ 1000000) : ∀ d i, n - i = d → i ≤ n → Ev (fun k => laws_heldGroupS.l0 k (mkG a n) (a + 2 * (i : Int)) (i : Int)) (a + 2 * (n : Int)) := by
  intro d
  induction d with
  | zero =>
    intro i hd hi
    obtain rfl : i = n := by omega
    refine Ev.step (fun k => by rw [laws_heldGroupS.l0]) ?_
    rw [mkG_len]
    simp only [if_neg (show ¬ ((i : Int) < (i : Int)) by omega)]
    exact Ev.now _
  | succ d ih =>
    intro i hd hi
    have hlt : i < n := by omega
    refine Ev.step (fun k => by rw [laws_heldGroupS.l0]) ?_
    rw [mkG_len]
    simp only [if_pos (show (i : Int) < (n : Int) by omega), if_pos (show (0 : Int) ≤ (i : Int) by omega)]
    refine Ev.bind (mt_ev (a + 2 * (i : Int)) (by omega) (by omega)) ?_
    have := ih (i + 1) (by omega) (by omega)
    rw [mkG_at a n i hlt]
    simp only [if_true, w64 (a := a + 2 * (i : Int) + 1) (by omega) (by omega), w64 (a := a + 2 * (i : Int) + 1 + 1) (by omega) (by omega), w64 (a := (i : Int) + 1) (by omega) (by omega)]
    rw [show a + 2 * ((i + 1 : Nat) : Int) = a + 2 * (i : Int) + 1 + 1 by omega, show ((i + 1 : Nat) : Int) = (i : Int) + 1 by omega] at this
    exact this
theorem heldG_ev (n : Nat) (hl : n ≤ 2000000) : Ev (fun k => laws_heldGroupS.f k (mkG 1 n) 1) (1 + 2 * (n : Int)) := by
  unfold laws_heldGroupS.f
  have := heldG_loop 1 n hl (by omega) (by omega) n 0 (by omega) (by omega)
  simpa using this
end Go.Proofs.Ytkihdohphddjaaa.Pu

namespace Go.Proofs.Ytkihdohphddjaaa.Pu
open Go.RowKit Go.Proofs.YtkihdohphddjaaaW.PrintWords Go.Proofs.YtkihdohphddjaaaW.PrintLast Go.Proofs.Ytkihdohphddjaaa.G
set_option linter.unusedVariables false
set_option linter.unusedSimpArgs false
def cvG (g : S34) : S25 := ⟨g.f0, g.f1⟩
theorem rdL_nat (l : List S34) (i : Nat) (h : i < l.length) : rd_T34 l (i : Int) = l[i] := by
  unfold rd_T34
  simp [h]
theorem szGroup_some (s : ByteArray) (n a : Int) (hs : s.size ≤ 9223372036854775807) (ha : 0 ≤ a) (ha2 : a ≤ 1048576) :
    laws_szGroup.f s n a = some (if a - (s.size : Int) < 0 then -1 else a - (s.size : Int)) := by
  unfold laws_szGroup.f
  rw [w64 (a := a - (s.size : Int)) (by omega) (by omega)]
  split <;> rfl
theorem szGroupS_loop (l : List S34) (hl : l.length ≤ 9223372036854775807) (hs : ∀ g ∈ l, g.f0.size ≤ 9223372036854775807) : ∀ d i (a : Int), l.length - i = d → 0 ≤ a → a ≤ 1048576 →
    EndsIn (fun k => laws_szGroupS.l0 k l a (i : Int)) (fun r => r < 0 ∨ (0 ≤ r ∧ r ≤ a) ∧ ∀ g ∈ l.drop i, g.f0.size ≤ 1048576) := by
  intro d
  induction d with
  | zero =>
    intro i a hi h0 h1
    refine EndsIn.step (fun k => by rw [laws_szGroupS.l0]) ?_
    simp only [if_neg (show ¬ ((i : Int) < (l.length : Int)) by omega)]
    refine EndsIn.now _ (.inr ⟨⟨h0, Int.le_refl _⟩, ?_⟩)
    rw [List.drop_of_length_le (by omega)]
    simp
  | succ d ih =>
    intro i a hi h0 h1
    have hlt : i < l.length := by omega
    refine EndsIn.step (fun k => by rw [laws_szGroupS.l0]) ?_
    simp only [if_pos (show ((i : Int) < (l.length : Int)) by omega), if_pos (show (0 : Int) ≤ (i : Int) by omega), rdL_nat l i hlt, szGroup_some _ _ a (hs _ (List.getElem_mem hlt)) h0 h1, Option.bind_some, w64 (a := (i : Int) + 1) (by omega) (by omega)]
    by_cases h : a - (l[i].f0.size : Int) < 0
    · simp only [if_pos h, if_pos (show (-1 : Int) < 0 by omega)]
      exact EndsIn.now _ (.inl (by omega))
    · simp only [if_neg h]
      refine (ih (i + 1) (a - l[i].f0.size) (by omega) (by omega) (by omega)).mono fun r hr => ?_
      rcases hr with hr | ⟨hb, hr⟩
      · exact .inl hr
      · refine .inr ⟨by omega, ?_⟩
        rw [drop_cons_get l i hlt]
        intro g hg
        rcases List.mem_cons.1 hg with rfl | hg
        · omega
        · exact hr g hg
theorem szGroupS_ends2 (l : List S34) (hl : l.length ≤ 9223372036854775807) (hs : ∀ g ∈ l, g.f0.size ≤ 9223372036854775807) (a : Int) (h0 : 0 ≤ a) (h1 : a ≤ 1048576) :
    EndsIn (fun k => laws_szGroupS.f k l a) (fun r => r < 0 ∨ ((0 ≤ r ∧ r ≤ a) ∧ l.length ≤ 1048576 ∧ ∀ g ∈ l, g.f0.size ≤ 1048576)) := by
  unfold laws_szGroupS.f
  rw [w64 (a := a - (l.length : Int)) (by omega) (by omega)]
  by_cases h : a - (l.length : Int) < 0
  · simp only [if_pos h]
    exact EndsIn.now _ (.inl (by omega))
  · simp only [if_neg h]
    refine (szGroupS_loop l hl hs l.length 0 _ (by omega) (by omega) (by omega)).mono fun r hr => ?_
    rcases hr with hr | ⟨hb, hr⟩
    · exact .inl hr
    · exact .inr ⟨by omega, by omega, by simpa using hr⟩
theorem toGroupS_loop (l : List S34) (hl : l.length ≤ 1048576) : ∀ d i, l.length - i = d → i ≤ l.length →
    Ev (fun k => laws_toGroupS.l0 k l ((l.take i).map cvG ++ List.replicate (l.length - i) z25) (i : Int)) (l.map cvG) := by
  intro d
  induction d with
  | zero =>
    intro i hi hle
    obtain rfl : i = l.length := by omega
    refine Ev.step (fun k => by rw [laws_toGroupS.l0]) ?_
    simp only [if_neg (show ¬ ((l.length : Int) < (l.length : Int)) by omega), List.take_length, Nat.sub_self, List.replicate_zero, List.append_nil]
    exact Ev.now _
  | succ d ih =>
    intro i hi hle
    have hlt : i < l.length := by omega
    refine Ev.step (fun k => by rw [laws_toGroupS.l0]) ?_
    simp only [if_pos (show ((i : Int) < (l.length : Int)) by omega), if_pos (show (0 : Int) ≤ (i : Int) by omega), rdL_nat l i hlt, laws_toGroup.f, Option.bind_some, fill_len cvG z25 l i hle, w64 (a := (i : Int) + 1) (by omega) (by omega), Int.toNat_natCast]
    have := ih (i + 1) (by omega) (by omega)
    rw [← fill_set cvG z25 l i hlt] at this
    exact this
theorem toGroupS_ev (l : List S34) (hl : l.length ≤ 1048576) : Ev (fun k => laws_toGroupS.f k l) (l.map cvG) := by
  unfold laws_toGroupS.f
  simp only [if_pos (show (0 : Int) ≤ (l.length : Int) by omega), Int.toNat_natCast, if_pos (show l.length ≤ 11728124029610 by omega)]
  have := toGroupS_loop l hl l.length 0 (by omega) (by omega)
  simpa using this
theorem eqGroupS_loop (l : List S25) (hl : l.length ≤ 1048576) : ∀ d i, l.length - i = d → Ev (fun k => laws_eqGroupS.l0 k l l (i : Int)) true := by
  intro d
  induction d with
  | zero =>
    intro i hi
    refine Ev.step (fun k => by rw [laws_eqGroupS.l0]) ?_
    simp only [if_neg (show ¬ ((i : Int) < (l.length : Int)) by omega)]
    exact Ev.now _
  | succ d ih =>
    intro i hi
    have hlt : i < l.length := by omega
    refine Ev.step (fun k => by rw [laws_eqGroupS.l0]) ?_
    simp only [if_pos (show ((i : Int) < (l.length : Int)) by omega), if_pos (show (0 : Int) ≤ (i : Int) by omega), laws_eqGroup.f, if_true, Option.bind_some, w64 (a := (i : Int) + 1) (by omega) (by omega)]
    exact ih (i + 1) (by omega)
theorem eqGroupS_ev (l : List S25) (hl : l.length ≤ 1048576) : Ev (fun k => laws_eqGroupS.f k l l) true := by
  unfold laws_eqGroupS.f
  simp only [if_true]
  exact eqGroupS_loop l hl l.length 0 (by omega)
end Go.Proofs.Ytkihdohphddjaaa.Pu

namespace Go.Proofs.Ytkihdohphddjaaa.Pure
open Go.RowKit Go.Proofs.Ytkihdohphddjaaa.G Go.Proofs.YtkihdohphddjaaaW.PrintWords Go.Proofs.YtkihdohphddjaaaW.PrintLast Go.Proofs.Ytkihdohphddjaaa.Pu
set_option linter.unusedSimpArgs false
theorem FnExactGroupsPut : OFnExactGroupsPut.Pure := by
  intro l0 x1 hl0 ho0 ho1
  obtain ⟨s, n⟩ := x1
  have hs1 : s.size ≤ 9223372036854775807 := ho1.1
  refine EndsIn.rounds ?_
  simp only
  unfold laws_FnExactGroupsPut.f
  have hs0 : ∀ g ∈ l0, g.f0.size ≤ 9223372036854775807 := fun g hg => (ho0 g hg).1
  refine EndsIn.bind (szGroupS_ends2 l0 hl0 hs0 1048576 (by omega) (by omega)) fun t ht => ?_
  by_cases h : t < 0
  · simp only [if_pos h]
    exact EndsIn.now _ rfl
  simp only [if_neg h]
  obtain ⟨⟨t0, t1⟩, m0, y0⟩ := ht.resolve_left h
  rw [szGroup_some s n t hs1 t0 t1]
  simp only [Option.bind_some]
  by_cases h2 : t - (s.size : Int) < 0
  · simp only [if_pos h2, if_pos (show (-1 : Int) < 0 by omega)]
    exact EndsIn.now _ rfl
  simp only [if_neg h2]
  obtain ⟨l, hl⟩ : ∃ l, l = l0.map cvG := ⟨_, rfl⟩
  have hm : l.length ≤ 1048576 := by rw [hl, List.length_map]; omega
  have hgs : ∀ g ∈ l, g.f0.size ≤ 9223372036854775807 := fun g hg => by rw [hl] at hg; obtain ⟨x, hx, rfl⟩ := List.mem_map.1 hg; exact hs0 x hx
  have tg := toGroupS_ev l0 (by omega)
  rw [← hl] at tg
  have e1 := gPutI_ev l ⟨s, n⟩ hm hgs hs1
  have e2 := gPut_ev l ⟨s, n⟩ hm hgs hs1
  have hlen := gPut_len l ⟨s, n⟩
  have eo := eqGroupS_ev (gPut l ⟨s, n⟩).1 (by omega)
  refine ⟨true, ?_, rfl⟩
  refine Ev.bind tg ?_
  simp only [laws_toGroup.f, Option.bind_some]
  refine Ev.bind e2 (Ev.bind tg (Ev.bind e1 (Ev.bind eo ?_)))
  simp only [if_true, bne_self_eq_false]
  refine Ev.step (fun k => by rw [laws_FnExactGroupsPut.j0]) ?_
  simp only [Bool.false_eq_true, if_false]
  refine Ev.bind tg (Ev.bind (eqGroupS_ev l hm) ?_)
  simp only [if_true]
  refine Ev.bind (markG_ev l (by omega)) ?_
  simp only [if_neg (show ¬ (1 + 2 * (l.length : Int)) < 0 by omega)]
  refine Ev.bind eo ?_
  simp only [if_true, bne_self_eq_false]
  refine Ev.step (fun k => by rw [laws_FnExactGroupsPut.j1]) ?_
  simp only [Bool.false_eq_true, if_false]
  refine Ev.bind (markG_ev _ (by omega)) ?_
  refine Ev.bind (heldG_ev (gPut l ⟨s, n⟩).1.length (by omega)) ?_
  simp only [if_neg (show ¬ (1 + 2 * ((gPut l ⟨s, n⟩).1.length : Int)) < 0 by omega), if_true]
  refine Ev.bind tg ?_
  simp only [laws_toGroup.f, Option.bind_some]
  refine Ev.bind e1 (Ev.bind eo ?_)
  simp only [if_true, bne_self_eq_false]
  refine Ev.step (fun k => by rw [laws_FnExactGroupsPut.j2]) ?_
  simp only [Bool.false_eq_true, if_false]
  refine Ev.bind (heldG_ev (gPut l ⟨s, n⟩).1.length (by omega)) ?_
  simp only [if_neg (show ¬ (1 + 2 * ((gPut l ⟨s, n⟩).1.length : Int)) < 0 by omega), if_true]
  exact Ev.now _
end Go.Proofs.Ytkihdohphddjaaa.Pure

namespace Go.Proofs.Ytkihdohphddjaaa.fnExactGroupsPut
open Go.ChangeShapes Go.WideShapes Go.ChangeAt Go.RowKit Go.Proofs.Ytkihdohphddjaaa.OFnExactGroupsPut Go.Proofs.Ytkihdohphddjaaa.G Go.Joins
open Go.ChangeMaps (open_string shut_string)
set_option linter.unusedVariables false
theorem own : ownKnob Try.prog.godebug = none := by kernel_rfl
theorem laidOut : laidOutB Try.prog = true := by kernel_rfl
set_option maxRecDepth 100000 in
theorem lifted (os : Os) (started : os.Started) (H : Type) (enc : TypeId × Value → H) :
    ReturnsInHanded {} Try.checked os 5 .any (Rows.fnExactGroupsPutSpec.pre6 enc Try.prog Try.f5 Rows.fnExactGroupsPutRow.domain false) (Rows.fnExactGroupsPutSpec.post enc Try.prog Try.f5 false true false false) := by
  refine returnsInHanded_of_change_sized (C := Try.checked) own started (by kernel_rfl) Try.func5
    (ChangeSpec.witness6 (enc := enc) (C := Try.checked) false ⟨#[], #[.slice none 0 0, .agg #[.string ByteArray.empty, .int .i64 0]], []⟩ 8 (by kernel_rfl) (by kernel_rfl) (by kernel_rfl) (by kernel_rfl)) ?_
  intro W base args ds gs before hval0 hW hcnd hsz0 _
  have hsz : (DataW.weightsEach Try.prog (Try.f5.params.toList ++ Rows.fnExactGroupsPutSpec.plain.varTypes Try.prog) (ds ++ gs)).all (· ≤ reachBytes) = true := hsz0
  have hval : ∀ (j : Nat) t v, Try.f5.params[j]? = some t → args[j]? = some v → Value.okWide Try.prog W .any base t v := hval0
  have hW' := hW
  obtain ⟨p, q, hA0, hV, rfl, hfz, hnd⟩ := hW
  have hA : DataW.TrodAll enc Try.prog W 0 (fun _ => true) true Try.f5.params.toList args.toList ds p := hA0
  rw [Try.params5] at hA hval hsz
  obtain ⟨v0, vs0, d0, ds0, p0, q0, hargs, rfl, rfl, h0, r0⟩ := trodAll_cons hA
  obtain ⟨v1, vs1, d1, ds1, p1, q1, rfl, rfl, rfl, h1, r1⟩ := trodAll_cons r0
  obtain ⟨rfl, rfl, rfl⟩ := trodAll_nil r1
  obtain rfl : args = #[v0, v1] := by cases args; simp_all
  obtain ⟨rfl, rfl⟩ := trodVars_none hV
  obtain ⟨a0, len0, cap0, rfl⟩ := okWide_slice Try.underlying33 (hval 0 33 v0 rfl rfl)
  have k0 := h0
  have lt0 : ∀ x ∈ p0, x.block < W.heap.size := by obtain ⟨m, hm⟩ := k0; exact DataW.trod_lt m _ _ _ hm
  obtain ⟨fuel0, hf0⟩ := h0
  obtain ⟨A0, c0, l0, hcs0, hlc0, hm0, hC0, ho0⟩ := Rd.opens_row Try.underlying33 open34 hf0
  simp [Value.cells] at hcs0
  obtain ⟨rfl, rfl, rfl⟩ := hcs0
  obtain ⟨cs1, rfl, hsz1⟩ := okWide_struct Try.underlying34 (hval 1 34 v1 rfl rfl)
  have k1 := h1
  have lt1 : ∀ x ∈ p1, x.block < W.heap.size := by obtain ⟨m, hm⟩ := k1; exact DataW.trod_lt m _ _ _ hm
  obtain ⟨fuel1, hf1⟩ := h1
  obtain ⟨x1, hK1, ho1⟩ := (open34).2 _ _ _ hf1
  have hcs1 := k34_open hK1
  have hcs1' : cs1 = #[.string (x1.f0), .int .i64 (x1.f1)] := by
    cases cs1
    simpa [Value.cells] using hcs1
  subst hcs1'
  clear hA0 hval0 hsz0 hsz
  obtain ⟨k, h⟩ := Pure.FnExactGroupsPut l0 x1 (Nat.le_trans hlc0 hm0) ho0 ho1
  refine (laws_FnExactGroupsPut.calls k _ _ l0 (x1.f0) (x1.f1) true W hC0 hlc0 h).mono fun e W' ⟨he, bel0⟩ => ?_
  subst he
  have bel : Below W.heap.size W W' := bel0
  exact ⟨_, rfl, _, _, _, [], _, [], hW', trodAll_mk1 (shut_bool Try.underlying4 _), (trodAll_cons_mk (Below.trod laidOut (by kernel_rfl) (of_decide_eq_true (by kernel_rfl)) k0 bel lt0) (trodAll_cons_mk (Below.trod laidOut (by kernel_rfl) (of_decide_eq_true (by kernel_rfl)) k1 bel lt1) trodAll_mk0)), rfl, bel.frame _, fun h => by cases h⟩
theorem over : Rows.fnExactGroupsPutRow.holds Try.pinned (OpenSpec.ofChange Rows.fnExactGroupsPutSpec) :=
  OpenClaim.holds_of_wide 5 Try.f5 rfl rfl rfl rfl rfl rfl rfl ⟨rfl, rfl, rfl, rfl, rfl⟩ rfl rfl rfl rfl rfl (by kernel_rfl) Try.func5 (by kernel_rfl)
    (of_decide_eq_true (by kernel_rfl)) (by unfold Func.isWrapper; first | (rw [if_pos (by decide +kernel)]; kernel_rfl) | (rw [if_neg (by decide +kernel)]; exact ⟨rfl, rfl⟩))
    (fun os started H enc _ => lifted os started H enc)
theorem proved : Rows.FnExactGroupsPutSaid := over
#print axioms proved
end Go.Proofs.Ytkihdohphddjaaa.fnExactGroupsPut
namespace Go.Proofs.Ytkihdohphddjaaa
/-- The row, under a short name, for the claim. -/
theorem fnExactGroupsPut_holds : Rows.FnExactGroupsPutSaid := fnExactGroupsPut.proved
end Go.Proofs.Ytkihdohphddjaaa

