/- A text of seat YtahenocndacjeaaDoor: what the law FnJoinCut needs of this repo's texts (by pack.py). Not trusted: Lean checks it. -/
import Derived.Test.YtahenocndacjeaaDoorKFnJoinCut15
import Derived.Deep.Slices
import Derived.SizedLaws
import Derived.Laws.BitsLemmas
import Derived.Test.YtahenocndacjeaaDoorRows
import Derived.Test.YtahenocndacjeaaDoorCards
import Derived.Test.YtahenocndacjeaaDoorTie
import Derived.SevenTiedAt
import Derived.WalkSmall
import Derived.ChangeVars
import Derived.JoinedOf
import Derived.LaidLaws
import Derived.LaidHandle
import Derived.Stop.LaidErr
import Derived.Stop.LaidTwo
import Derived.Stop.Joined
import Derived.RowKitTokens
import Derived.WalkKit
import Derived.ProofKit
import Derived.OpenShut
import Derived.ShutString
import Derived.ChangeOld
import Derived.Below
import Derived.Lib.SmallJoins
import Derived.Laws.StructEq
import Derived.ChangeSlices
namespace Go.Proofs.YtahenocndacjeaaDoor.Rd
open Go.RowKit Go.Proofs.YtahenocndacjeaaDoorW.PrintWords
set_option linter.unusedVariables false
section
variable {H : Type} {enc : TypeId × Value → H} {P : Program} {w : World} {base : Nat} {spare : Nat → Bool} {held : Bool}
/-- What a reading of type t gives: a value of the kind, and what is known of it. -/
def Opens (enc : TypeId × Value → H) (P : Program) (w : World) (base : Nat) (spare : Nat → Bool) (held : Bool) {α : Type} (t : TypeId) (d : Kd α) (ok : α → Prop) : Prop :=
  P.cellsOf t = d.sz ∧ ∀ fuel cs x, DataW.trod enc P w base spare held fuel t cs = some x → ∃ v, d.K w v cs ∧ ok v
theorem Opens.imp_ {α : Type} {t : TypeId} {d : Kd α} {ok ok' : α → Prop} (h : Opens enc P w base spare held t d ok) (hi : ∀ v, ok v → ok' v) : Opens enc P w base spare held t d ok' :=
  ⟨h.1, fun fuel cs x hx => by
    obtain ⟨v, hk, ho⟩ := h.2 fuel cs x hx
    exact ⟨v, hk, hi v ho⟩⟩
theorem opens_int {t : TypeId} {k : IntKind} (ht : P.underlying t = some (.int k)) (hc : P.cellsOf t = 1) : Opens enc P w base spare held t (Kd.int k) (fun n => (Lit.int k n).wf = true) := by
  refine ⟨hc, fun fuel cs x h => ?_⟩
  obtain ⟨n, rfl, _, hw⟩ := DataW.trod_int ht h
  exact ⟨n, rfl, hw⟩
theorem cells_len {base : Nat} {a : Addr} {n : Nat} {cs : List Value} (h : w.cells? base a n = some cs) : cs.length = n ∧ ∀ i u, cs[i]? = some u → w.cell? (a.add i) = some u := by
  unfold World.cells? at h
  split at h
  · rename_i hb
    refine ⟨by simpa using mapM_some_length h, fun i u hu => ?_⟩
    have hi : i < n := by
      have := (List.getElem?_eq_some_iff.1 hu).1
      have h2 : cs.length = n := by simpa using mapM_some_length h
      omega
    have := mapM_some_get h i i (by simp [hi])
    rw [hu] at this
    exact this
  · simp at h
theorem opens_row {α : Type} {t e : TypeId} {d : Kd α} {ok : α → Prop} (ht : P.underlying t = some (.slice e)) (hd : Opens enc P w base spare held e d ok) {fuel : Nat} {cs : List Value} {x : DataW H × List MemPlace}
    (h : DataW.trod enc P w base spare held fuel t cs = some x) : ∃ (A : Option Addr) (c : Nat) (xs : List α), cs = [.slice A xs.length c] ∧ xs.length ≤ c ∧ c ≤ maxLen ∧ d.C w A xs.length xs ∧ ∀ y ∈ xs, ok y := by
  rcases Go.Deep.open_slice ht h with ⟨rfl, _⟩ | ⟨a, len, cap, m, n, D, Pl, rfl, hb, hl, hm, hmm, _, hel⟩
  · exact ⟨none, 0, [], rfl, Nat.le_refl _, by unfold maxLen; omega, ⟨rfl, by simp, fun h0 => absurd h0 (by simp)⟩, by simp⟩
  have hlm : len ≤ m := by rw [hmm]; split <;> omega
  have hx : ∀ i, i < len → ∃ y : α, ok y ∧ ∃ c, c.length = d.sz ∧ d.K w y c ∧ ∀ j u, c[j]? = some u → w.cell? (a.add (i * d.sz + j)) = some u := by
    intro i hi
    obtain ⟨cs', h1, h2⟩ := hel i (by omega)
    obtain ⟨y, hk, ho⟩ := hd.2 _ _ _ h2
    obtain ⟨hl', hc'⟩ := cells_len h1
    refine ⟨y, ho, cs', by rw [hl', hd.1], hk, fun j u hu => ?_⟩
    have := hc' j u hu
    rw [Go.Deep.add_add, hd.1] at this
    exact this
  rcases Nat.eq_zero_or_pos len with h0 | h0
  · subst h0
    exact ⟨some a, cap, [], rfl, Nat.zero_le _, hm, ⟨rfl, by simp, fun h1 => absurd h1 (by simp)⟩, by simp⟩
  obtain ⟨y0, _⟩ := hx 0 h0
  haveI : Inhabited α := ⟨y0⟩
  obtain ⟨g, hg⟩ := Go.Deep.choose_lt hx
  have hlen : ((List.range len).map g).length = len := by simp
  refine ⟨some a, cap, (List.range len).map g, by rw [hlen], by rw [hlen]; exact hl, hm, ⟨rfl, by rw [hlen]; unfold maxLen at hm; omega, fun _ => ⟨a, rfl, fun j p hj => ?_⟩⟩, fun y hy => ?_⟩
  · have hj' : j < len := by
      have := (List.getElem?_eq_some_iff.1 hj).1
      omega
    rw [List.getElem?_map, List.getElem?_range hj'] at hj
    simp at hj
    subst hj
    obtain ⟨_, c, hc1, hc2, hc3⟩ := hg j hj'
    exact ⟨c, hc1, hc2, hc3⟩
  · obtain ⟨i, hi, rfl⟩ := List.mem_map.1 hy
    exact (hg i (List.mem_range.1 hi)).1
end
end Go.Proofs.YtahenocndacjeaaDoor.Rd

namespace Go.Proofs.YtahenocndacjeaaDoor.OFnJoinCut
open Go.RowKit Go.Proofs.YtahenocndacjeaaDoorW.PrintWords Go.Proofs.YtahenocndacjeaaDoor.G
set_option linter.unusedVariables false
def Pure : Prop := ∀ (l0 : List Int), l0.length ≤ maxLen → (∀ y ∈ l0, (Lit.int .u8 y).wf = true) → ∃ k, laws_FnJoinCut.f k l0 = some true
end Go.Proofs.YtahenocndacjeaaDoor.OFnJoinCut

namespace Go.Proofs.YtahenocndacjeaaDoor.Pu
open Go.RowKit Go.Proofs.YtahenocndacjeaaDoorW.PrintWords Go.Proofs.YtahenocndacjeaaDoorW.PrintLast Go.Proofs.YtahenocndacjeaaDoorW.PrintMore Go.Proofs.YtahenocndacjeaaDoor.G
set_option linter.unusedVariables false
set_option linter.unusedSimpArgs false
abbrev RT := S41
abbrev BT := S25
def aheadL (l : List RT) (o : Int) : List RT := l.filter fun r => decide (r.f0 < o)
def behindL (l : List RT) (o : Int) : List RT := l.filter fun r => !decide (r.f0 < o)
theorem aheadL_cons (x : RT) (l : List RT) (o : Int) : aheadL (x :: l) o = if x.f0 < o then x :: aheadL l o else aheadL l o := by
  unfold aheadL
  rw [List.filter_cons]
  by_cases h : x.f0 < o <;> simp [h]
theorem behindL_cons (x : RT) (l : List RT) (o : Int) : behindL (x :: l) o = if x.f0 < o then behindL l o else x :: behindL l o := by
  unfold behindL
  rw [List.filter_cons]
  by_cases h : x.f0 < o <;> simp [h]
abbrev CutT := Bool × Bool × Int × Int × Int × List RT × Bool × Bool × Int × Int × Int × List RT × Option Int
def cutFin (p : Bool) (a b : List RT) : CutT := if a = [] ∨ b = [] then (false, false, 0, 0, 0, [], false, false, 0, 0, 0, [], some 1) else (p, false, 255, 0, 0, a, p, false, 255, 0, 0, b, none)
theorem copyOf_ev (x : RT) (h : x.f3.length ≤ 12 ∧ x.f5.length ≤ 12) : impl_Record_copyOf.f x.f0 x.f1 x.f2 x.f3 x.f4 x.f5 = some (x.f0, x.f1, x.f2, x.f3, x.f4, x.f5) := by
  simp only [impl_Record_copyOf.f, slices_Clone_int_int.f]
  rw [if_pos (by omega), if_pos (by omega)]
  rfl
theorem cut_loop (l : List RT) (o : Int) (p : Bool) (hl : l.length ≤ 6) (hr : ∀ r ∈ l, r.f3.length ≤ 12 ∧ r.f5.length ≤ 12) : ∀ d i (xs ys : List RT), l.length - i = d → i ≤ l.length → xs.length + ys.length = i →
    Ev (fun k => impl_Batch_cut.l0 k o l (l.length : Int) (i : Int) p false 255 0 0 xs p false 255 0 0 ys) (cutFin p (xs ++ aheadL (l.drop i) o) (ys ++ behindL (l.drop i) o)) := by
  intro d
  induction d with
  | zero =>
    intro i xs ys hd hi hx
    refine Ev.step (fun k => by rw [impl_Batch_cut.l0]) ?_
    rw [List.drop_of_length_le (by omega)]
    simp only [aheadL, behindL, List.filter_nil, List.append_nil, if_neg (show ¬ (i : Int) < (l.length : Int) by omega)]
    by_cases h1 : xs = []
    · have h0 : (xs.length : Int) = 0 := by rw [h1]; rfl
      rw [show cutFin p xs ys = (false, false, 0, 0, 0, [], false, false, 0, 0, 0, [], some 1) by unfold cutFin; rw [if_pos (.inl h1)]]
      simp only [if_pos h0]
      exact Ev.now _
    · have h1' : ¬ ((xs.length : Int) = 0) := by have := List.length_pos_iff.2 h1; omega
      simp only [if_neg h1']
      by_cases h2 : ys = []
      · have h0 : (ys.length : Int) = 0 := by rw [h2]; rfl
        rw [show cutFin p xs ys = (false, false, 0, 0, 0, [], false, false, 0, 0, 0, [], some 1) by unfold cutFin; rw [if_pos (.inr h2)]]
        simp only [if_pos h0]
        exact Ev.now _
      · have h2' : ¬ ((ys.length : Int) = 0) := by have := List.length_pos_iff.2 h2; omega
        rw [show cutFin p xs ys = (p, false, 255, 0, 0, xs, p, false, 255, 0, 0, ys, none) by unfold cutFin; rw [if_neg (by simp [h1, h2])]]
        simp only [if_neg h2']
        exact Ev.now _
  | succ d ih =>
    intro i xs ys hd hi hx
    have hlt : i < l.length := by omega
    refine Ev.step (fun k => by rw [impl_Batch_cut.l0]) ?_
    simp only [if_pos (show (i : Int) < (l.length : Int) by omega), if_pos (show (0 : Int) ≤ (i : Int) by omega), rdR_nat l i hlt, copyOf_ev _ (hr _ (List.getElem_mem hlt)), bindS, w64 (a := (i : Int) + 1) (by omega) (by omega)]
    rw [List.drop_eq_getElem_cons hlt]
    by_cases hc : l[i].f0 < o
    · simp only [if_pos hc, if_pos (show xs.length < 1759218604441 by omega)]
      have := ih (i + 1) (xs ++ [l[i]]) ys (by omega) (by omega) (by simp; omega)
      have e1 : xs ++ aheadL (l[i] :: l.drop (i + 1)) o = (xs ++ [l[i]]) ++ aheadL (l.drop (i + 1)) o := by rw [aheadL_cons, if_pos hc, List.append_assoc]; rfl
      have e2 : behindL (l[i] :: l.drop (i + 1)) o = behindL (l.drop (i + 1)) o := by rw [behindL_cons, if_pos hc]
      rw [e1, e2]
      exact this
    · simp only [if_neg hc, if_pos (show ys.length < 1759218604441 by omega)]
      have := ih (i + 1) xs (ys ++ [l[i]]) (by omega) (by omega) (by simp; omega)
      have e1 : ys ++ behindL (l[i] :: l.drop (i + 1)) o = (ys ++ [l[i]]) ++ behindL (l.drop (i + 1)) o := by rw [behindL_cons, if_neg hc, List.append_assoc]; rfl
      have e2 : aheadL (l[i] :: l.drop (i + 1)) o = aheadL (l.drop (i + 1)) o := by rw [aheadL_cons, if_neg hc]
      rw [e1, e2]
      exact this
def cutV (b : BT) (o : Int) : CutT := if (batOk b && decide (b.f2 = 255)) = true then cutFin b.f0 (aheadL b.f5 o) (behindL b.f5 o) else (false, false, 0, 0, 0, [], false, false, 0, 0, 0, [], some 1)
theorem cut_ev (b : BT) (o : Int) : Ev (fun k => impl_Batch_cut.f k b.f0 b.f1 b.f2 b.f3 b.f4 b.f5 o) (cutV b o) := by
  unfold impl_Batch_cut.f cutV
  simp only [impl_BatchValid.f, bindS]
  cases hv : batOk b
  · simp only [Bool.false_eq_true, if_false, Bool.false_and]
    refine Ev.step (fun k => by rw [impl_Batch_cut.j0]) ?_
    exact Ev.now _
  · simp only [if_true, Bool.true_and]
    refine Ev.step (fun k => by rw [impl_Batch_cut.j0]) ?_
    by_cases h : b.f2 = 255
    · simp only [h, bne_self_eq_false, Bool.false_eq_true, if_false, decide_true, if_true]
      have hlen := batOk_len hv
      have hrec : ∀ r ∈ b.f5, r.f3.length ≤ 12 ∧ r.f5.length ≤ 12 := fun r hr => by
        obtain ⟨i, hi, rfl⟩ := List.getElem_of_mem hr
        exact recOk_len (batOk_rec hv i hi)
      have := cut_loop b.f5 o b.f0 hlen.2 hrec _ 0 [] [] rfl (by omega) (by simp)
      simpa using this
    · simp only [show (b.f2 != 255) = true by simp [h], if_true, decide_eq_false h, Bool.false_eq_true, if_false]
      exact Ev.now _
abbrev BCutT := Bool × Bool × Int × Int × Int × List RT × Bool × Bool × Int × Int × Int × List RT × Bool
def cutGood (b : BT) (o : Int) : Bool := (batOk b && decide (b.f2 = 255)) && (!(aheadL b.f5 o).isEmpty && !(behindL b.f5 o).isEmpty)
def bcutV (b : BT) (o : Int) : BCutT := if cutGood b o = true then (b.f0, false, 255, 0, 0, aheadL b.f5 o, b.f0, false, 255, 0, 0, behindL b.f5 o, true) else (false, false, 0, 0, 0, [], false, false, 0, 0, 0, [], false)
theorem BatchCut_ev (b : BT) (o : Int) : Ev (fun k => impl_BatchCut.f k b.f0 b.f1 b.f2 b.f3 b.f4 b.f5 o) (bcutV b o) := by
  unfold impl_BatchCut.f
  refine Ev.bind (cut_ev b o) ?_
  unfold bcutV cutGood cutV
  cases hv : (batOk b && decide (b.f2 = 255))
  · simp only [Bool.false_eq_true, if_false, Bool.false_and, errors_Is.f, if_true, bindS]
    exact Ev.now _
  · simp only [if_true, Bool.true_and, cutFin]
    by_cases h : aheadL b.f5 o = [] ∨ behindL b.f5 o = []
    · have h' : (!(aheadL b.f5 o).isEmpty && !(behindL b.f5 o).isEmpty) = false := by
        rcases h with h | h <;> simp [h]
      simp only [if_pos h, h', errors_Is.f, if_true, bindS, Bool.false_eq_true, if_false]
      exact Ev.now _
    · have h' : (!(aheadL b.f5 o).isEmpty && !(behindL b.f5 o).isEmpty) = true := by
        rw [not_or] at h
        simp [h.1, h.2]
      simp only [if_neg h, h', errors_Is.f, bindS, Bool.false_eq_true, if_false, if_true]
      exact Ev.now _
end Go.Proofs.YtahenocndacjeaaDoor.Pu

namespace Go.Proofs.YtahenocndacjeaaDoor.Pu
open Go.RowKit Go.Proofs.YtahenocndacjeaaDoorW.PrintWords Go.Proofs.YtahenocndacjeaaDoorW.PrintLast Go.Proofs.YtahenocndacjeaaDoorW.PrintMore Go.Proofs.YtahenocndacjeaaDoor.G
set_option linter.unusedVariables false
set_option linter.unusedSimpArgs false
def ShortR (l : List RT) : Prop := l.length ≤ 6 ∧ ∀ r ∈ l, r.f3.length ≤ 12 ∧ r.f5.length ≤ 12
theorem short_of {b : BT} (h : batOk b = true) : ShortR b.f5 := ⟨(batOk_len h).2, fun r hr => by
  obtain ⟨i, hi, rfl⟩ := List.getElem_of_mem hr
  exact recOk_len (batOk_rec h i hi)⟩
theorem copyRecords_loop (l : List RT) (h : ShortR l) : ∀ d i, l.length - i = d → i ≤ l.length → Ev (fun k => impl_copyRecords.l0 k (l.take i) l (l.length : Int) (i : Int)) l := by
  intro d
  induction d with
  | zero =>
    intro i hd hi
    refine Ev.step (fun k => by rw [impl_copyRecords.l0]) ?_
    simp only [if_neg (show ¬ (i : Int) < (l.length : Int) by omega), List.take_of_length_le (show l.length ≤ i by omega)]
    exact Ev.now _
  | succ d ih =>
    intro i hd hi
    have hlt : i < l.length := by omega
    have hl := h.1
    refine Ev.step (fun k => by rw [impl_copyRecords.l0]) ?_
    simp only [if_pos (show (i : Int) < (l.length : Int) by omega), if_pos (show (0 : Int) ≤ (i : Int) by omega), rdR_nat l i hlt, copyOf_ev _ (h.2 _ (List.getElem_mem hlt)), bindS, w64 (a := (i : Int) + 1) (by omega) (by omega), if_pos (show (l.take i).length < 1759218604441 by rw [List.length_take]; omega)]
    have := ih (i + 1) (by omega) (by omega)
    rw [← List.take_append_getElem hlt] at this
    exact this
theorem copyRecords_ev (l : List RT) (h : ShortR l) : Ev (fun k => impl_copyRecords.f k l) l := by
  unfold impl_copyRecords.f
  have hl := h.1
  simp only [if_pos (show (0 : Int) ≤ (l.length : Int) by omega), if_pos (show ((l.length : Int)).toNat ≤ 3518437208883 by rw [Int.toNat_natCast]; omega)]
  have := copyRecords_loop l h _ 0 rfl (by omega)
  simpa using this
theorem copyBatch_ev (b : BT) (h : ShortR b.f5) : Ev (fun k => impl_Batch_copyOf.f k b.f0 b.f1 b.f2 b.f3 b.f4 b.f5) (b.f0, b.f1, b.f2, b.f3, b.f4, b.f5) := by
  unfold impl_Batch_copyOf.f
  exact Ev.bind (copyRecords_ev _ h) (Ev.now _)
theorem l12Copy_ev (x : RT) (h : x.f3.length ≤ 12 ∧ x.f5.length ≤ 12) : spec_l12Copy.f x.f0 x.f1 x.f2 x.f3 x.f4 x.f5 = some (x.f0, x.f1, x.f2, x.f3, x.f4, x.f5) := by
  unfold spec_l12Copy.f
  simp only [bindS, List.length_nil, List.nil_append]
  rw [if_pos (by omega), if_pos (by omega)]
theorem free_loop (p : Bool) (l : List RT) (h : l.length ≤ 12 ∧ ∀ r ∈ l, r.f3.length ≤ 12 ∧ r.f5.length ≤ 12) : ∀ d i, l.length - i = d → i ≤ l.length → Ev (fun k => spec_l31Free.l0 k l (i : Int) p false 255 0 0 (l.take i)) (p, false, 255, 0, 0, l) := by
  intro d
  induction d with
  | zero =>
    intro i hd hi
    refine Ev.step (fun k => by rw [spec_l31Free.l0]) ?_
    simp only [if_neg (show ¬ (i : Int) < (l.length : Int) by omega), List.take_of_length_le (show l.length ≤ i by omega)]
    exact Ev.now _
  | succ d ih =>
    intro i hd hi
    have hlt : i < l.length := by omega
    have hl := h.1
    refine Ev.step (fun k => by rw [spec_l31Free.l0]) ?_
    simp only [if_pos (show (i : Int) < (l.length : Int) by omega), if_pos (show (0 : Int) ≤ (i : Int) by omega), rdR_nat l i hlt, l12Copy_ev _ (h.2 _ (List.getElem_mem hlt)), bindS, w64 (a := (i : Int) + 1) (by omega) (by omega), if_pos (show (l.take i).length < 1759218604441 by rw [List.length_take]; omega)]
    have := ih (i + 1) (by omega) (by omega)
    rw [← List.take_append_getElem hlt] at this
    exact this
theorem free_ev12 (p : Bool) (l : List RT) (h : l.length ≤ 12 ∧ ∀ r ∈ l, r.f3.length ≤ 12 ∧ r.f5.length ≤ 12) : Ev (fun k => spec_l31Free.f k p l) (p, false, 255, 0, 0, l) := by
  unfold spec_l31Free.f
  have := free_loop p l h _ 0 rfl (by omega)
  simpa using this
theorem ShortR.take {l : List RT} (h : ShortR l) (n : Nat) : ShortR (l.take n) := ⟨by rw [List.length_take]; have := h.1; omega, fun r hr => h.2 r (List.mem_of_mem_take hr)⟩
theorem ShortR.drop {l : List RT} (h : ShortR l) (n : Nat) : ShortR (l.drop n) := ⟨by rw [List.length_drop]; have := h.1; omega, fun r hr => h.2 r (List.mem_of_mem_drop hr)⟩
end Go.Proofs.YtahenocndacjeaaDoor.Pu

namespace Go.Proofs.YtahenocndacjeaaDoor.Pu
open Go.RowKit Go.Proofs.YtahenocndacjeaaDoorW.PrintWords Go.Proofs.YtahenocndacjeaaDoorW.PrintLast Go.Proofs.YtahenocndacjeaaDoorW.PrintMore Go.Proofs.YtahenocndacjeaaDoor.G
set_option linter.unusedVariables false
set_option linter.unusedSimpArgs false
/-- Offsets that grow. -/
def Inc : List RT → Prop
  | [] => True
  | x :: l => (∀ y ∈ l, x.f0 < y.f0) ∧ Inc l
theorem inc_of : ∀ (l : List RT), (∀ i (h : i + 1 < l.length), l[i].f0 < l[i + 1].f0) → Inc l
  | [], _ => trivial
  | [x], _ => ⟨fun y hy => by simp at hy, trivial⟩
  | x :: z :: l, h => by
    have h1 := inc_of (z :: l) fun i hi => h (i + 1) (by simp only [List.length_cons] at hi ⊢; omega)
    have h0 : x.f0 < z.f0 := h 0 (by simp)
    refine ⟨fun y hy => ?_, h1⟩
    rcases List.mem_cons.1 hy with rfl | hy
    · exact h0
    · have := h1.1 y hy
      omega
theorem inc_bat {b : BT} (h : batOk b = true) : Inc b.f5 := by
  refine inc_of _ fun i hi => ?_
  unfold batOk at h
  simp only [Bool.and_eq_true] at h
  have := List.all_eq_true.1 h.2.2.2 (i + 1) (by simp [List.mem_range']; omega)
  unfold recStep at this
  rw [rdR_nat b.f5 (i + 1) hi, show ((i + 1 : Nat) : Int) - 1 = (i : Int) by omega, rdR_nat b.f5 i (by omega)] at this
  simpa using (Bool.and_eq_true_iff.1 this).2
end Go.Proofs.YtahenocndacjeaaDoor.Pu

namespace Go.Proofs.YtahenocndacjeaaDoor.Pu
open Go.RowKit Go.Proofs.YtahenocndacjeaaDoorW.PrintWords Go.Proofs.YtahenocndacjeaaDoorW.PrintLast Go.Proofs.YtahenocndacjeaaDoorW.PrintMore Go.Proofs.YtahenocndacjeaaDoor.G
set_option linter.unusedVariables false
set_option linter.unusedSimpArgs false
def freeB (p : Bool) (l : List RT) : BT := ⟨p, false, 255, 0, 0, l⟩
theorem short_row {l : List RT} (h : ShortR l) : RowR l := ⟨by have := h.1; omega, fun r hr => by have := h.2 r hr; exact ⟨by omega, by omega⟩⟩
/-- A valid batch without a producer is told by whether it is packed, and its records. -/
theorem free_of {b : BT} (h : batOk b = true) (h2 : b.f2 = 255) : b = freeB b.f0 b.f5 := by
  obtain ⟨b0, b1, b2, b3, b4, l⟩ := b
  simp only at h2
  subst h2
  unfold batOk headOk at h
  simp only [if_true, Bool.and_eq_true, decide_eq_true_eq, Bool.not_eq_true'] at h
  obtain ⟨⟨rfl, rfl, rfl⟩, -⟩ := h
  rfl
end Go.Proofs.YtahenocndacjeaaDoor.Pu

namespace Go.Proofs.YtahenocndacjeaaDoor.Pu
open Go.RowKit Go.Proofs.YtahenocndacjeaaDoorW.PrintWords Go.Proofs.YtahenocndacjeaaDoorW.PrintLast Go.Proofs.YtahenocndacjeaaDoorW.PrintMore Go.Proofs.YtahenocndacjeaaDoor.G
set_option linter.unusedVariables false
set_option linter.unusedSimpArgs false
theorem selfInts (l : List Int) (hl : l.length ≤ 9223372036854775807) : Ev (fun k => laws_sameInts.f k l l) true := by
  unfold laws_sameInts.f
  simp only [if_true]
  have := ev_all l hl (fun k i => laws_sameInts.l0 k l l i) (fun k i => some true) (fun _ => true) true
    (fun k => by simp only [laws_sameInts.l0]; rw [if_neg (by omega)])
    (fun k i h => by simp only [laws_sameInts.l0]; rw [if_pos (by omega), if_pos (by omega), if_pos (by omega), if_pos trivial]; rfl)
    (fun i h => Ev.now _) l.length 0 (by omega) (by omega)
  rw [show ((l.drop 0).all fun _ => true) = true from List.all_eq_true.2 (fun _ _ => rfl)] at this
  simpa using this
theorem selfRecord (x : S41) (h : Lens x) : Ev (fun k => laws_sameRecord.f k x.f0 x.f1 x.f2 x.f3 x.f4 x.f5 x.f0 x.f1 x.f2 x.f3 x.f4 x.f5) true := by
  unfold laws_sameRecord.f
  simp only [if_true, beq_self_eq_true]
  refine Ev.bind (selfInts _ h.1) ?_
  simp only [if_true]
  exact Ev.bind (selfInts _ h.2) (Ev.now _)
theorem selfRecords (l : List S41) (h : RowR l) : Ev (fun k => laws_sameRecords.f k l l) true := by
  unfold laws_sameRecords.f
  simp only [if_true]
  have := ev_all l h.1 (fun k i => laws_sameRecords.l0 k l l i) (fun k i => laws_sameRecord.f k (rd_T41 l i).f0 (rd_T41 l i).f1 (rd_T41 l i).f2 (rd_T41 l i).f3 (rd_T41 l i).f4 (rd_T41 l i).f5 (rd_T41 l i).f0 (rd_T41 l i).f1 (rd_T41 l i).f2 (rd_T41 l i).f3 (rd_T41 l i).f4 (rd_T41 l i).f5) (fun _ => true) true
    (fun k => by simp only [laws_sameRecords.l0]; rw [if_neg (by omega)])
    (fun k i h => by simp only [laws_sameRecords.l0]; rw [if_pos (by omega), if_pos (by omega), if_pos (by omega)])
    (fun i hi => by rw [rdR_nat l i hi]; exact selfRecord _ (h.2 _ (List.getElem_mem hi))) l.length 0 (by omega) (by omega)
  rw [show ((l.drop 0).all fun _ => true) = true from List.all_eq_true.2 (fun _ _ => rfl)] at this
  simpa using this
theorem selfBatch (b : S25) (h : RowR b.f5) : Ev (fun k => laws_sameBatch.f k b.f0 b.f1 b.f2 b.f3 b.f4 b.f5 b.f0 b.f1 b.f2 b.f3 b.f4 b.f5) true := by
  unfold laws_sameBatch.f
  simp only [if_true, beq_self_eq_true]
  exact Ev.bind (selfRecords _ h) (Ev.now _)
end Go.Proofs.YtahenocndacjeaaDoor.Pu

namespace Go.Proofs.YtahenocndacjeaaDoor.Pu
open Go.RowKit Go.Proofs.YtahenocndacjeaaDoorW.PrintWords Go.Proofs.YtahenocndacjeaaDoorW.PrintLast Go.Proofs.YtahenocndacjeaaDoorW.PrintMore Go.Proofs.YtahenocndacjeaaDoor.G
set_option linter.unusedVariables false
set_option linter.unusedSimpArgs false
abbrev JoinT := Bool × Bool × Int × Int × Int × List RT × Option Int
/-- Whether two batches can be joined. -/
def joinGood (a b : BT) : Bool := batOk a && (batOk b && (decide (a.f2 = 255) && (decide (b.f2 = 255) && (decide (a.f0 = b.f0) && batOk ⟨a.f0, a.f1, a.f2, a.f3, a.f4, a.f5 ++ b.f5⟩))))
def joinV (a b : BT) : JoinT := if joinGood a b = true then (a.f0, a.f1, a.f2, a.f3, a.f4, a.f5 ++ b.f5, none) else (false, false, 0, 0, 0, [], some 2)
theorem join_j (a b : BT) (x : Bool) (ha : batOk a = true) (hb : batOk b = true) : Ev (fun k => impl_Batch_join.j0 k x a.f0 a.f1 a.f2 a.f3 a.f4 a.f5 b.f0 b.f1 b.f2 b.f3 b.f4 b.f5) (if x = true ∨ ¬ batOk ⟨a.f0, a.f1, a.f2, a.f3, a.f4, a.f5 ++ b.f5⟩ = true then (false, false, 0, 0, 0, [], some 2) else (a.f0, a.f1, a.f2, a.f3, a.f4, a.f5 ++ b.f5, none)) := by
  refine Ev.step (fun k => by rw [impl_Batch_join.j0]) ?_
  cases x
  · simp only [Bool.false_eq_true, if_false, false_or]
    have h1 := short_of ha
    have h2 := short_of hb
    refine Ev.bind (copyBatch_ev a h1) ?_
    refine Ev.bind (copyRecords_ev b.f5 h2) ?_
    have := h1.1
    have := h2.1
    simp only [if_pos (show a.f5.length + b.f5.length < 1759218604441 by omega), bindS, impl_BatchValid.f]
    by_cases hv : batOk ⟨a.f0, a.f1, a.f2, a.f3, a.f4, a.f5 ++ b.f5⟩ = true
    · rw [if_neg (show ¬ ¬ batOk ⟨a.f0, a.f1, a.f2, a.f3, a.f4, a.f5 ++ b.f5⟩ = true from fun h => h hv)]
      simp only [hv, if_true]
      exact Ev.now _
    · rw [if_pos hv]
      simp only [if_neg hv]
      exact Ev.now _
  · simp only [if_true, true_or]
    exact Ev.now _
theorem join_ev (a b : BT) : Ev (fun k => impl_Batch_join.f k a.f0 a.f1 a.f2 a.f3 a.f4 a.f5 b.f0 b.f1 b.f2 b.f3 b.f4 b.f5) (joinV a b) := by
  have bad : ∀ k, impl_Batch_join.j0 (k + 1) true a.f0 a.f1 a.f2 a.f3 a.f4 a.f5 b.f0 b.f1 b.f2 b.f3 b.f4 b.f5 = some (false, false, 0, 0, 0, [], some 2) := fun k => by rw [impl_Batch_join.j0]; simp
  have badE : Ev (fun k => impl_Batch_join.j0 k true a.f0 a.f1 a.f2 a.f3 a.f4 a.f5 b.f0 b.f1 b.f2 b.f3 b.f4 b.f5) (false, false, 0, 0, 0, [], some 2) := Ev.step bad (Ev.now _)
  unfold impl_Batch_join.f joinV joinGood
  simp only [impl_BatchValid.f, bindS]
  cases ha : batOk a
  · simpa using badE
  · cases hb : batOk b
    · simpa using badE
    · simp only [if_true, Bool.true_and]
      by_cases h2 : a.f2 = 255
      · by_cases h3 : b.f2 = 255
        · simp only [if_pos h2, if_pos h3, decide_eq_true h2, decide_eq_true h3, Bool.true_and]
          have := join_j a b (a.f0 != b.f0) ha hb
          by_cases h4 : a.f0 = b.f0
          · have e : (a.f0 != b.f0) = false := by simp [h4]
            rw [e] at this ⊢
            simp only [Bool.false_eq_true, false_or] at this
            rw [decide_eq_true h4, Bool.true_and]
            by_cases hv : batOk ⟨a.f0, a.f1, a.f2, a.f3, a.f4, a.f5 ++ b.f5⟩ = true
            · rw [if_neg (by simp [hv])] at this
              rw [if_pos hv]
              exact this
            · rw [if_pos hv] at this
              rw [if_neg hv]
              exact this
          · have e : (a.f0 != b.f0) = true := by simp [h4]
            rw [e, decide_eq_false h4, Bool.false_and, if_neg (by simp)]
            exact badE
        · simp only [if_pos h2, if_neg h3, decide_eq_false h3, Bool.false_and, Bool.and_false, Bool.false_eq_true, if_false]
          exact badE
      · simp only [if_neg h2, decide_eq_false h2, Bool.false_and, Bool.and_false, Bool.false_eq_true, if_false]
        exact badE
abbrev BJoinT := Bool × Bool × Int × Int × Int × List RT × Bool
def bjoinV (a b : BT) : BJoinT := if joinGood a b = true then (a.f0, a.f1, a.f2, a.f3, a.f4, a.f5 ++ b.f5, true) else (false, false, 0, 0, 0, [], false)
theorem BatchJoin_ev (a b : BT) : Ev (fun k => impl_BatchJoin.f k a.f0 a.f1 a.f2 a.f3 a.f4 a.f5 b.f0 b.f1 b.f2 b.f3 b.f4 b.f5) (bjoinV a b) := by
  unfold impl_BatchJoin.f
  refine Ev.bind (join_ev a b) ?_
  unfold bjoinV joinV
  by_cases h : joinGood a b = true
  · simp only [if_pos h, errors_Is.f, bindS, Bool.false_eq_true, if_false]
    exact Ev.now _
  · simp only [if_neg h, errors_Is.f, if_true, bindS]
    exact Ev.now _
end Go.Proofs.YtahenocndacjeaaDoor.Pu

namespace Go.Proofs.YtahenocndacjeaaDoor.Pu
open Go.RowKit Go.Proofs.YtahenocndacjeaaDoorW.PrintWords Go.Proofs.YtahenocndacjeaaDoorW.PrintLast Go.Proofs.YtahenocndacjeaaDoorW.PrintMore Go.Proofs.YtahenocndacjeaaDoor.G
set_option linter.unusedVariables false
set_option linter.unusedSimpArgs false
theorem sjoin_j (a b : BT) (x : Bool) (ha : batOk a = true) (hb : batOk b = true) : Ev (fun k => spec_BatchJoin.j0 k x a.f0 a.f1 a.f2 a.f3 a.f4 a.f5 b.f0 b.f1 b.f2 b.f3 b.f4 b.f5) (if x = true ∨ ¬ batOk (freeB a.f0 (a.f5 ++ b.f5)) = true then (false, false, 0, 0, 0, [], false) else (a.f0, false, 255, 0, 0, a.f5 ++ b.f5, true)) := by
  refine Ev.step (fun k => by rw [spec_BatchJoin.j0]) ?_
  cases x
  · simp only [Bool.false_eq_true, if_false, false_or]
    have h1 := short_of ha
    have h2 := short_of hb
    have l1 := h1.1
    have l2 := h2.1
    simp only [bindS, List.length_nil, List.nil_append, if_pos (show 0 + a.f5.length < 1759218604441 by omega), if_pos (show a.f5.length + b.f5.length < 1759218604441 by omega)]
    refine Ev.bind (free_ev12 a.f0 (a.f5 ++ b.f5) ⟨by rw [List.length_append]; omega, fun r hr => by rcases List.mem_append.1 hr with hr | hr; exact h1.2 r hr; exact h2.2 r hr⟩) ?_
    have e : batOk ⟨a.f0, false, 255, 0, 0, a.f5 ++ b.f5⟩ = batOk (freeB a.f0 (a.f5 ++ b.f5)) := rfl
    simp only [spec_BatchValid.f, bindS, e]
    by_cases hv : batOk (freeB a.f0 (a.f5 ++ b.f5)) = true
    · rw [if_neg (show ¬ ¬ batOk (freeB a.f0 (a.f5 ++ b.f5)) = true from fun h => h hv)]
      simp only [hv, if_true]
      exact Ev.now _
    · rw [if_pos hv]
      simp only [if_neg hv]
      exact Ev.now _
  · simp only [if_true, true_or]
    exact Ev.now _
theorem sBatchJoin_ev (a b : BT) : Ev (fun k => spec_BatchJoin.f k a.f0 a.f1 a.f2 a.f3 a.f4 a.f5 b.f0 b.f1 b.f2 b.f3 b.f4 b.f5) (bjoinV a b) := by
  have bad : ∀ k, spec_BatchJoin.j0 (k + 1) true a.f0 a.f1 a.f2 a.f3 a.f4 a.f5 b.f0 b.f1 b.f2 b.f3 b.f4 b.f5 = some (false, false, 0, 0, 0, [], false) := fun k => by rw [spec_BatchJoin.j0]; simp
  have badE : Ev (fun k => spec_BatchJoin.j0 k true a.f0 a.f1 a.f2 a.f3 a.f4 a.f5 b.f0 b.f1 b.f2 b.f3 b.f4 b.f5) (false, false, 0, 0, 0, [], false) := Ev.step bad (Ev.now _)
  unfold spec_BatchJoin.f bjoinV joinGood
  simp only [spec_BatchValid.f, bindS]
  cases ha : batOk a
  · simpa using badE
  · cases hb : batOk b
    · simpa using badE
    · simp only [if_true, Bool.true_and]
      by_cases h2 : a.f2 = 255
      · by_cases h3 : b.f2 = 255
        · have ef := free_of ha h2
          have e5 : (⟨a.f0, a.f1, a.f2, a.f3, a.f4, a.f5 ++ b.f5⟩ : BT) = freeB a.f0 (a.f5 ++ b.f5) := by
            obtain ⟨a0, a1, a2, a3, a4, l⟩ := a
            simp only [freeB, S25.mk.injEq, true_and, and_true] at ef ⊢
            exact ef
          have e6 : ((a.f0, a.f1, a.f2, a.f3, a.f4, a.f5 ++ b.f5, true) : BJoinT) = (a.f0, false, 255, 0, 0, a.f5 ++ b.f5, true) := by
            have := e5
            simp only [freeB, S25.mk.injEq, true_and, and_true] at this
            obtain ⟨q1, q2, q3, q4⟩ := this
            rw [q1, q2, q3, q4]
          rw [e5, e6]
          simp only [if_pos h2, if_pos h3, decide_eq_true h2, decide_eq_true h3, Bool.true_and]
          have := sjoin_j a b (a.f0 != b.f0) ha hb
          by_cases h4 : a.f0 = b.f0
          · have e : (a.f0 != b.f0) = false := by simp [h4]
            rw [e] at this ⊢
            simp only [Bool.false_eq_true, false_or] at this
            rw [decide_eq_true h4, Bool.true_and]
            by_cases hv : batOk (freeB a.f0 (a.f5 ++ b.f5)) = true
            · rw [if_neg (by simp [hv])] at this
              rw [if_pos hv]
              exact this
            · rw [if_pos hv] at this
              rw [if_neg hv]
              exact this
          · have e : (a.f0 != b.f0) = true := by simp [h4]
            rw [e, decide_eq_false h4, Bool.false_and, if_neg (by simp)]
            exact badE
        · simp only [if_pos h2, if_neg h3, decide_eq_false h3, Bool.false_and, Bool.and_false, Bool.false_eq_true, if_false]
          exact badE
      · simp only [if_neg h2, decide_eq_false h2, Bool.false_and, Bool.and_false, Bool.false_eq_true, if_false]
        exact badE
end Go.Proofs.YtahenocndacjeaaDoor.Pu

namespace Go.Proofs.YtahenocndacjeaaDoor.Pu
open Go.RowKit Go.Proofs.YtahenocndacjeaaDoorW.PrintWords Go.Proofs.YtahenocndacjeaaDoorW.PrintLast Go.Proofs.YtahenocndacjeaaDoor.G
set_option linter.unusedVariables false
set_option linter.unusedSimpArgs false
theorem xor_i64 (a b : Int) (h0 : 0 ≤ a) (h1 : a < 4611686018427387904) (k0 : 0 ≤ b) (k1 : b < 4611686018427387904) : 0 ≤ bits .xor .i64 a b := by
  obtain ⟨a, rfl⟩ := Int.eq_ofNat_of_zero_le h0
  obtain ⟨b, rfl⟩ := Int.eq_ofNat_of_zero_le k0
  have ha : a < 2 ^ 62 := by omega
  have hb : b < 2 ^ 62 := by omega
  have hx := Nat.xor_lt_two_pow ha hb
  have ha' : a % 2 ^ 64 = a := Nat.mod_eq_of_lt (by omega)
  have hb' : b % 2 ^ 64 = b := Nat.mod_eq_of_lt (by omega)
  show 0 ≤ IntKind.i64.wrap ((BitVec.ofInt 64 (a : Int) ^^^ BitVec.ofInt 64 (b : Int)).toNat : Int)
  rw [BitVec.ofInt_natCast, BitVec.ofInt_natCast, BitVec.toNat_xor, BitVec.toNat_ofNat, BitVec.toNat_ofNat, ha', hb', IntKind.wrap_i64]
  omega
theorem rd_range {b : List Int} (hb : ∀ x ∈ b, 0 ≤ x ∧ x ≤ 255) (i : Int) : 0 ≤ rd b i ∧ rd b i ≤ 255 := by
  unfold rd
  rw [List.getD_eq_getElem?_getD]
  rcases h : b[i.toNat]? with _ | x
  · simp
  · exact hb x (List.mem_of_getElem? h)
theorem mod_range {x n : Int} (h0 : 0 ≤ x) (h1 : 1 ≤ n) : 0 ≤ Int.tmod x n ∧ Int.tmod x n < n := by
  rw [Int.tmod_eq_emod_of_nonneg h0]
  exact ⟨Int.emod_nonneg _ (by omega), Int.emod_lt_of_pos _ (by omega)⟩
/-- A code that is read: bytes, and a place that is no great number. -/
def CodeOk (b : List Int) : Prop := b.length ≤ 2000 ∧ ∀ x ∈ b, 0 ≤ x ∧ x ≤ 255
theorem pick_ends {b : List Int} (hb : CodeOk b) (p n : Int) (h0 : 0 ≤ p) (h1 : p ≤ 1000000000) (hn : n ≤ 4611686018427387904) :
    EndsIn (fun k => spec_l6Rd_pick.f k b p n) (fun r => r.2 = p + 1 ∧ 0 ≤ r.1 ∧ (1 ≤ n → r.1 < n) ∧ (n < 1 → r.1 = 0)) := by
  obtain ⟨hl, hr⟩ := hb
  unfold spec_l6Rd_pick.f
  rw [w64 (a := p + 1) (by omega) (by omega)]
  by_cases hn1 : n < 1
  · simp only [if_pos hn1]
    refine EndsIn.step (fun k => by rw [spec_l6Rd_pick.j0]) ?_
    simp only [if_true]
    exact EndsIn.now _ ⟨rfl, by omega, by omega, fun _ => rfl⟩
  · simp only [if_neg hn1]
    refine EndsIn.step (fun k => by rw [spec_l6Rd_pick.j0]) ?_
    rw [show p + 1 - 1 = p by omega, w64 (a := p) (by omega) (by omega)]
    by_cases hz : (b.length : Int) = 0
    · have : ((b.length : Int) == 0) = true := by simpa using hz
      simp only [this, if_true]
      exact EndsIn.now _ ⟨rfl, by omega, by omega, fun h => by omega⟩
    · have hz' : ((b.length : Int) == 0) = false := by simpa using hz
      simp only [hz', Bool.false_eq_true, if_false]
      by_cases hp : p < (b.length : Int)
      · have hx := rd_range hr p
        simp only [if_pos hp, if_pos h0, if_neg (show ¬ n = 0 by omega)]
        rw [w64 (a := rd b p) (by omega) (by omega)]
        have hm := mod_range (x := rd b p) (n := n) hx.1 (by omega)
        exact EndsIn.now _ ⟨rfl, hm.1, fun _ => hm.2, fun h => by omega⟩
      · have hm1 := mod_range (x := p) (n := (b.length : Int)) h0 (by omega)
        have h7 : wrap64 (wrap64 (p * 7) + 3) = p * 7 + 3 := by
          rw [w64 (a := p * 7) (by omega) (by omega), w64 (by omega) (by omega)]
        have hm2 := mod_range (x := p * 7 + 3) (n := (b.length : Int)) (by omega) (by omega)
        simp only [if_neg hp, if_neg hz, h7, if_pos hm1.1, if_pos hm1.2, if_pos hm2.1, if_pos hm2.2, if_neg (show ¬ n = 0 by omega)]
        have hx1 := rd_range hr (Int.tmod p b.length)
        have hx2 := rd_range hr (Int.tmod (p * 7 + 3) b.length)
        generalize rd b (Int.tmod p b.length) = x1 at hx1 ⊢
        generalize rd b (Int.tmod (p * 7 + 3) b.length) = x2 at hx2 ⊢
        have hd : 0 ≤ Int.tdiv p (b.length : Int) ∧ Int.tdiv p (b.length : Int) ≤ p := by
          rw [Int.tdiv_eq_ediv_of_nonneg h0]
          exact ⟨Int.ediv_nonneg h0 (by omega), Int.ediv_le_self _ h0⟩
        generalize Int.tdiv p (b.length : Int) = q at hd ⊢
        have e1 : wrap64 x1 = x1 := w64 (by omega) (by omega)
        have e2 : wrap64 x2 = x2 := w64 (by omega) (by omega)
        have e3 : wrap64 (x1 * 131) = x1 * 131 := w64 (by omega) (by omega)
        have e4 : wrap64 (x2 * 1117) = x2 * 1117 := w64 (by omega) (by omega)
        have e5 : wrap64 (x1 * 131 + x2 * 1117) = x1 * 131 + x2 * 1117 := w64 (by omega) (by omega)
        have e6 : wrap64 (p * 29) = p * 29 := w64 (by omega) (by omega)
        have e7 : wrap64 (x1 * 131 + x2 * 1117 + p * 29) = x1 * 131 + x2 * 1117 + p * 29 := w64 (by omega) (by omega)
        have e8 : wrap64 q = q := w64 (by omega) (by omega)
        have e9 : wrap64 (q * 53) = q * 53 := w64 (by omega) (by omega)
        have e10 : wrap64 (x1 * 131 + x2 * 1117 + p * 29 + q * 53) = x1 * 131 + x2 * 1117 + p * 29 + q * 53 := w64 (by omega) (by omega)
        simp only [e1, e2, e3, e4, e5, e6, e7, e8, e9, e10]
        have hX : 0 ≤ x1 * 131 + x2 * 1117 + p * 29 + q * 53 ∧ x1 * 131 + x2 * 1117 + p * 29 + q * 53 < 4611686018427387904 := ⟨by omega, by omega⟩
        generalize x1 * 131 + x2 * 1117 + p * 29 + q * 53 = X at hX ⊢
        have e11 : wrap64 (Int.tdiv X 64) = X / 64 := by
          rw [Int.tdiv_eq_ediv_of_nonneg hX.1]
          exact w64 (by omega) (by omega)
        rw [e11]
        have hxx := xor_i64 X (X / 64) hX.1 hX.2 (by omega) (by omega)
        have hm := mod_range (n := n) hxx (by omega)
        exact EndsIn.now _ ⟨rfl, hm.1, fun _ => hm.2, fun h => by omega⟩
end Go.Proofs.YtahenocndacjeaaDoor.Pu

namespace Go.Proofs.YtahenocndacjeaaDoor.Pu
open Go.RowKit Go.Proofs.YtahenocndacjeaaDoorW.PrintWords Go.Proofs.YtahenocndacjeaaDoorW.PrintLast Go.Proofs.YtahenocndacjeaaDoorW.PrintMore Go.Proofs.YtahenocndacjeaaDoor.G
set_option linter.unusedVariables false
set_option linter.unusedSimpArgs false
theorem part_loop {b : List Int} (hb : CodeOk b) (n : Int) (hn : n ≤ 12) : ∀ d (i : Nat) (l : List Int) (p : Int), 12 - i = d → l.length = i → i ≤ 12 → 0 ≤ p → p ≤ 900000000 + 2 * (i : Int) →
    EndsIn (fun k => spec_l91Part.l0 k l n (i : Int) b p) (fun r => r.2.1.length ≤ 12 ∧ p ≤ r.2.2 ∧ r.2.2 ≤ p + 2 * (12 - (i : Int))) := by
  intro d
  induction d with
  | zero =>
    intro i l p hd hl hi p0 p1
    refine EndsIn.step (fun k => by rw [spec_l91Part.l0]) ?_
    simp only [if_neg (show ¬ (i : Int) < n by omega)]
    exact EndsIn.now _ ⟨by show l.length ≤ 12; omega, by show p ≤ p; omega, by show p ≤ _; omega⟩
  | succ d ih =>
    intro i l p hd hl hi p0 p1
    refine EndsIn.step (fun k => by rw [spec_l91Part.l0]) ?_
    by_cases h : (i : Int) < n
    · simp only [if_pos h]
      refine EndsIn.bind (pick_ends hb p 256 p0 (by omega) (by omega)) fun q hq => ?_
      obtain ⟨q2, q3, q4, _⟩ := hq
      simp only [bindS]
      rw [q2]
      refine EndsIn.bind (pick_ends hb (p + 1) 4 (by omega) (by omega) (by omega)) fun s hs => ?_
      obtain ⟨s2, s3, s4, _⟩ := hs
      have s5 := s4 (by omega)
      rw [s2]
      simp only [if_pos s3, if_pos (show s.1 < (([1, 2, 3, q.1] : List Int).length : Int) by simpa using s5), if_pos (show l.length < 17592186044416 by omega), w64 (a := (i : Int) + 1) (by omega) (by omega)]
      have := ih (i + 1) (l ++ [rd [1, 2, 3, q.1] s.1]) (p + 1 + 1) (by omega) (by rw [List.length_append, hl]; rfl) (by omega) (by omega) (by omega)
      exact this.mono fun r hr => ⟨hr.1, by omega, by omega⟩
    · simp only [if_neg h]
      exact EndsIn.now _ ⟨by show l.length ≤ 12; omega, by show p ≤ p; omega, by show p ≤ _; omega⟩
theorem part_ends {b : List Int} (hb : CodeOk b) (p : Int) (h0 : 0 ≤ p) (h1 : p ≤ 800000000) : EndsIn (fun k => spec_l91Part.f k b p) (fun r => r.2.1.length ≤ 12 ∧ p ≤ r.2.2 ∧ r.2.2 ≤ p + 30) := by
  have st : ∀ (n q : Int), n ≤ 12 → p ≤ q → q ≤ p + 5 → EndsIn (fun k => spec_l91Part.j0 k [] n b q) (fun r => r.2.1.length ≤ 12 ∧ p ≤ r.2.2 ∧ r.2.2 ≤ p + 30) := by
    intro n q hn q0 q1
    refine EndsIn.step (fun k => by rw [spec_l91Part.j0]) ?_
    have := part_loop hb n hn 12 0 [] q (by omega) rfl (by omega) (by omega) (by omega)
    exact this.mono fun r hr => ⟨hr.1, by omega, by omega⟩
  unfold spec_l91Part.f
  refine EndsIn.bind (pick_ends hb p 4 h0 (by omega) (by omega)) fun q hq => ?_
  obtain ⟨q2, q3, q4, _⟩ := hq
  rw [q2]
  by_cases hz : q.1 = 0
  · simp only [if_pos hz]
    exact EndsIn.now _ ⟨by simp, by show p ≤ p + 1; omega, by show p + 1 ≤ p + 30; omega⟩
  · simp only [if_neg hz, bindS]
    refine EndsIn.bind (pick_ends hb (p + 1) 5 (by omega) (by omega) (by omega)) fun s hs => ?_
    obtain ⟨s2, s3, s4, _⟩ := hs
    have s5 := s4 (by omega)
    rw [s2]
    refine EndsIn.bind (pick_ends hb (p + 1 + 1) 12 (by omega) (by omega) (by omega)) fun u hu => ?_
    obtain ⟨u2, u3, u4, _⟩ := hu
    rw [u2]
    by_cases hu0 : u.1 = 0
    · simp only [if_pos hu0]
      exact st _ _ (by omega) (by omega) (by omega)
    · simp only [if_neg hu0]
      exact st _ _ (by omega) (by omega) (by omega)
def Small (r : S41) : Prop := r.f3.length ≤ 12 ∧ r.f5.length ≤ 12
theorem recs_loop {b : List Int} (hb : CodeOk b) (n : Int) (hn : n ≤ 6) : ∀ d (i : Nat) (l : List S41) (o t p : Int), 6 - i = d → l.length = i → i ≤ 6 → (∀ r ∈ l, Small r) → 0 ≤ p → p ≤ 700000000 + 100 * (i : Int) →
    EndsIn (fun k => spec_l91Records.l0 k o l n t (i : Int) b p) (fun r => (∀ x ∈ r.1, Small x) ∧ (n ≤ (r.1.length : Int)) ∧ r.1.length ≤ 6 ∧ p ≤ r.2 ∧ r.2 ≤ p + 100 * (6 - (i : Int))) := by
  have stop : ∀ (i : Nat) (l : List S41) (o t p : Int), l.length = i → i ≤ 6 → (∀ r ∈ l, Small r) → ¬ (i : Int) < n →
      EndsIn (fun k => spec_l91Records.l0 k o l n t (i : Int) b p) (fun r => (∀ x ∈ r.1, Small x) ∧ (n ≤ (r.1.length : Int)) ∧ r.1.length ≤ 6 ∧ p ≤ r.2 ∧ r.2 ≤ p + 100 * (6 - (i : Int))) := by
    intro i l o t p hl hi hs h
    refine EndsIn.step (fun k => by rw [spec_l91Records.l0]) ?_
    simp only [if_neg h]
    exact EndsIn.now _ ⟨hs, by show n ≤ (l.length : Int); omega, by show l.length ≤ 6; omega, by show p ≤ p; omega, by show p ≤ _; omega⟩
  intro d
  induction d with
  | zero =>
    intro i l o t p hd hl hi hs p0 p1
    exact stop i l o t p hl hi hs (by omega)
  | succ d ih =>
    intro i l o t p hd hl hi hs p0 p1
    by_cases h : (i : Int) < n
    · refine EndsIn.step (fun k => by rw [spec_l91Records.l0]) ?_
      simp only [if_pos h]
      refine EndsIn.bind (part_ends hb p p0 (by omega)) fun q hq => ?_
      obtain ⟨q1, q2, q3⟩ := hq
      refine EndsIn.bind (part_ends hb q.2.2 (by omega) (by omega)) fun s hs' => ?_
      obtain ⟨s1, s2, s3⟩ := hs'
      have st : ∀ (c : Bool) (u : Int), s.2.2 ≤ u → u ≤ s.2.2 + 2 → EndsIn (fun k => spec_l91Records.j1 k o l n t (i : Int) s.1 s.2.1 c b u o t q.1 q.2.1 false) (fun r => (∀ x ∈ r.1, Small x) ∧ (n ≤ (r.1.length : Int)) ∧ r.1.length ≤ 6 ∧ p ≤ r.2 ∧ r.2 ≤ p + 100 * (6 - (i : Int))) := by
        intro c u u0 u1
        refine EndsIn.step (fun k => by rw [spec_l91Records.j1]) ?_
        have nx : ∀ (x : S41) (o' t' v : Int), Small x → u ≤ v → v ≤ u + 5 → EndsIn (fun k => spec_l91Records.l0 k o' (l ++ [x]) n t' ((i : Int) + 1) b v) (fun r => (∀ x ∈ r.1, Small x) ∧ (n ≤ (r.1.length : Int)) ∧ r.1.length ≤ 6 ∧ p ≤ r.2 ∧ r.2 ≤ p + 100 * (6 - (i : Int))) := by
          intro x o' t' v hx v0 v1
          have := ih (i + 1) (l ++ [x]) o' t' v (by omega) (by rw [List.length_append, hl]; rfl) (by omega) (fun r hr => by
            rcases List.mem_append.1 hr with hr | hr
            · exact hs r hr
            · rw [List.mem_singleton] at hr
              rw [hr]
              exact hx) (by omega) (by omega)
          exact this.mono fun r hr => ⟨hr.1, hr.2.1, hr.2.2.1, by omega, by omega⟩
        cases c
        · simp only [Bool.false_eq_true, if_false, if_pos (show l.length < 1759218604441 by omega)]
          refine EndsIn.bind (pick_ends hb u 5 (by omega) (by omega) (by omega)) fun v hv => ?_
          rw [hv.1]
          refine EndsIn.bind (pick_ends hb (u + 1) 30 (by omega) (by omega) (by omega)) fun z hz => ?_
          rw [hz.1, w64 (a := (i : Int) + 1) (by omega) (by omega)]
          exact nx _ _ _ _ ⟨q1, s1⟩ (by omega) (by omega)
        · simp only [if_true, if_pos (show l.length < 1759218604441 by omega)]
          refine EndsIn.bind (pick_ends hb u 3 (by omega) (by omega) (by omega)) fun y hy => ?_
          rw [hy.1]
          refine EndsIn.bind (pick_ends hb (u + 1) 5 (by omega) (by omega) (by omega)) fun v hv => ?_
          rw [hv.1]
          refine EndsIn.bind (pick_ends hb (u + 1 + 1) 30 (by omega) (by omega) (by omega)) fun z hz => ?_
          rw [hz.1, w64 (a := (i : Int) + 1) (by omega) (by omega)]
          exact nx _ _ _ _ ⟨by show 1 ≤ 12; omega, s1⟩ (by omega) (by omega)
      cases hq1 : q.1
      · simp only [Bool.false_eq_true, if_false]
        have := st false s.2.2 (by omega) (by omega)
        rw [hq1] at this
        exact this
      · simp only [if_true]
        refine EndsIn.bind (pick_ends hb s.2.2 2 (by omega) (by omega) (by omega)) fun y hy => ?_
        rw [hy.1]
        have := st (y.1 == 0) (s.2.2 + 1) (by omega) (by omega)
        rw [hq1] at this
        exact this
    · exact stop i l o t p hl hi hs h
/-- Some records: one at least. -/
theorem recs_ends {b : List Int} (hb : CodeOk b) (p a n : Int) (h0 : 0 ≤ p) (h1 : p ≤ 600000000) (hn1 : 1 ≤ n) (hn : n ≤ 6) :
    EndsIn (fun k => spec_l91Records.f k b p a n) (fun r => (∀ x ∈ r.1, Small x) ∧ 1 ≤ r.1.length ∧ r.1.length ≤ 6 ∧ p ≤ r.2 ∧ r.2 ≤ p + 700) := by
  unfold spec_l91Records.f
  refine EndsIn.bind (pick_ends hb p n h0 (by omega) (by omega)) fun q hq => ?_
  obtain ⟨q2, q3, q4, _⟩ := hq
  have q5 := q4 (by omega)
  rw [q2]
  refine EndsIn.bind (pick_ends hb (p + 1) 200 (by omega) (by omega) (by omega)) fun s hs => ?_
  rw [hs.1, w64 (a := 1 + q.1) (by omega) (by omega)]
  have := recs_loop hb (1 + q.1) (by omega) 6 0 [] a s.1 (p + 1 + 1) (by omega) rfl (by omega) (by simp) (by omega) (by omega)
  exact this.mono fun r hr => ⟨hr.1, by omega, hr.2.2.1, by omega, by omega⟩
def BatS (l : List S41) : Prop := (∀ x ∈ l, Small x) ∧ 1 ≤ l.length ∧ l.length ≤ 7
theorem bat_j {b : List Int} (hb : CodeOk b) (p : Int) (h0 : 0 ≤ p) (h1 : p ≤ 600000000) (c0 c1 : Bool) (x y z : Int) (l : List S41) (hl : (∀ x ∈ l, Small x) ∧ 1 ≤ l.length ∧ l.length ≤ 6) :
    EndsIn (fun k => spec_l91Batch.j0 k b p c0 c1 x y z l) (fun r => BatS r.2.2.2.2.2.1 ∧ p ≤ r.2.2.2.2.2.2 ∧ r.2.2.2.2.2.2 ≤ p + 3) := by
  obtain ⟨l1, l2, l3⟩ := hl
  have hB : BatS l := ⟨l1, l2, by omega⟩
  refine EndsIn.step (fun k => by rw [spec_l91Batch.j0]) ?_
  refine EndsIn.bind (pick_ends hb p 40 h0 (by omega) (by omega)) fun q hq => ?_
  rw [hq.1]
  by_cases e0 : q.1 = 0
  · simp only [if_pos e0, bindS]
    refine EndsIn.bind (pick_ends hb (p + 1) 3 (by omega) (by omega) (by omega)) fun s hs => ?_
    obtain ⟨s2, s3, s4, _⟩ := hs
    have s5 := s4 (by omega)
    simp only [if_pos s3, if_pos (show s.1 < (([(-1), 1, 100] : List Int).length : Int) by simpa using s5)]
    exact EndsIn.now _ ⟨hB, by show p ≤ s.2; omega, by show s.2 ≤ p + 3; omega⟩
  · simp only [if_neg e0]
    by_cases e1 : q.1 = 1
    · simp only [if_pos e1, if_pos (show (0 : Int) < (l.length : Int) by omega), if_pos (show l.length < 1759218604441 by omega)]
      refine EndsIn.now _ ⟨⟨fun r hr => ?_, by show 1 ≤ (l ++ [_]).length; rw [List.length_append]; omega, by show (l ++ [_]).length ≤ 7; rw [List.length_append]; simp only [List.length_singleton]; omega⟩, by show p ≤ p + 1; omega, by show p + 1 ≤ p + 3; omega⟩
      rcases List.mem_append.1 hr with hr | hr
      · exact l1 r hr
      · rw [List.mem_singleton] at hr
        rw [hr]
        have := l1 _ (List.getElem_mem (show 0 < l.length by omega))
        rw [← rdR_nat l 0 (by omega)] at this
        exact this
    · simp only [if_neg e1]
      by_cases e2 : q.1 = 2
      · simp only [if_pos e2]
        exact EndsIn.now _ ⟨hB, by show p ≤ p + 1; omega, by show p + 1 ≤ p + 3; omega⟩
      · simp only [if_neg e2]
        exact EndsIn.now _ ⟨hB, by show p ≤ p + 1; omega, by show p + 1 ≤ p + 3; omega⟩
theorem bat_ends {b : List Int} (hb : CodeOk b) (p a : Int) (h0 : 0 ≤ p) (h1 : p ≤ 500000000) :
    EndsIn (fun k => spec_l91Batch.f k b p a) (fun r => BatS r.2.2.2.2.2.1 ∧ p ≤ r.2.2.2.2.2.2 ∧ r.2.2.2.2.2.2 ≤ p + 800) := by
  unfold spec_l91Batch.f
  refine EndsIn.bind (pick_ends hb p 2 h0 (by omega) (by omega)) fun q hq => ?_
  rw [hq.1]
  refine EndsIn.bind (recs_ends hb (p + 1) a 4 (by omega) (by omega) (by omega) (by omega)) fun s hs => ?_
  obtain ⟨s1, s2, s3, s4, s5⟩ := hs
  refine EndsIn.bind (pick_ends hb s.2 3 (by omega) (by omega) (by omega)) fun t ht => ?_
  rw [ht.1]
  by_cases e0 : t.1 = 0
  · simp only [if_pos e0]
    refine EndsIn.bind (pick_ends hb (s.2 + 1) 3 (by omega) (by omega) (by omega)) fun u hu => ?_
    rw [hu.1]
    refine EndsIn.bind (pick_ends hb (s.2 + 1 + 1) 3 (by omega) (by omega) (by omega)) fun v hv => ?_
    rw [hv.1]
    refine EndsIn.bind (pick_ends hb (s.2 + 1 + 1 + 1) 5 (by omega) (by omega) (by omega)) fun x hx => ?_
    rw [hx.1]
    refine EndsIn.bind (pick_ends hb (s.2 + 1 + 1 + 1 + 1) 3 (by omega) (by omega) (by omega)) fun y hy => ?_
    rw [hy.1]
    by_cases ey : y.1 = 0
    · simp only [if_pos ey]
      refine EndsIn.bind (pick_ends hb (s.2 + 1 + 1 + 1 + 1 + 1) 200 (by omega) (by omega) (by omega)) fun z hz => ?_
      rw [hz.1]
      refine EndsIn.bind (pick_ends hb (s.2 + 1 + 1 + 1 + 1 + 1 + 1) 2 (by omega) (by omega) (by omega)) fun m hm => ?_
      rw [hm.1]
      refine (bat_j hb (s.2 + 1 + 1 + 1 + 1 + 1 + 1 + 1) (by omega) (by omega) _ _ _ _ _ _ ⟨fun r hr => ?_, by simp, by simp⟩).mono fun r hr => ⟨hr.1, by omega, by omega⟩
      rw [List.mem_singleton] at hr
      rw [hr]
      exact ⟨by show 0 ≤ 12; omega, by show 1 ≤ 12; omega⟩
    · simp only [if_neg ey]
      exact (bat_j hb (s.2 + 1 + 1 + 1 + 1 + 1) (by omega) (by omega) _ _ _ _ _ _ ⟨s1, s2, s3⟩).mono fun r hr => ⟨hr.1, by omega, by omega⟩
  · simp only [if_neg e0]
    exact (bat_j hb (s.2 + 1) (by omega) (by omega) _ _ _ _ _ _ ⟨s1, s2, s3⟩).mono fun r hr => ⟨hr.1, by omega, by omega⟩
theorem BatS.rowR {l : List S41} (h : BatS l) : RowR l := ⟨by have := h.2.2; omega, fun r hr => by have := h.1 r hr; unfold Small at this; exact ⟨by omega, by omega⟩⟩
end Go.Proofs.YtahenocndacjeaaDoor.Pu

namespace Go.Proofs.YtahenocndacjeaaDoor.Pu
open Go.RowKit Go.Proofs.YtahenocndacjeaaDoorW.PrintWords Go.Proofs.YtahenocndacjeaaDoorW.PrintLast Go.Proofs.YtahenocndacjeaaDoor.G
set_option linter.unusedVariables false
set_option linter.unusedSimpArgs false
theorem open_some (l0 : List Int) (hr : ∀ x ∈ l0, 0 ≤ x ∧ x ≤ 255) : ∃ b, spec_l6Open.f l0 = some (b, 0) ∧ CodeOk b := by
  unfold spec_l6Open.f
  by_cases h : (l0.length : Int) > 2000
  · rw [if_pos h, if_pos (by omega)]
    exact ⟨_, rfl, by rw [List.length_take]; omega, fun x hx => hr x (List.mem_of_mem_take hx)⟩
  · rw [if_neg h]
    exact ⟨_, rfl, by omega, hr⟩
end Go.Proofs.YtahenocndacjeaaDoor.Pu

namespace Go.Proofs.YtahenocndacjeaaDoor.Pu
open Go.RowKit Go.Proofs.YtahenocndacjeaaDoorW.PrintWords Go.Proofs.YtahenocndacjeaaDoorW.PrintLast Go.Proofs.YtahenocndacjeaaDoorW.PrintMore Go.Proofs.YtahenocndacjeaaDoor.G
set_option linter.unusedVariables false
set_option linter.unusedSimpArgs false
theorem drawBJ_ends {c : List Int} (hok : CodeOk c) (l0 : List Int) (hc : spec_l6Open.f l0 = some (c, 0)) : EndsIn (fun k => spec_DrawBatchJoin.f k l0) (fun r => RowR r.2.2.2.2.2.1 ∧ RowR r.2.2.2.2.2.2.2.2.2.2.2) := by
  unfold spec_DrawBatchJoin.f
  simp only [hc, bindS]
  refine EndsIn.bind (pick_ends hok 0 20 (by omega) (by omega) (by omega)) fun q hq => ?_
  rw [hq.1]
  refine EndsIn.bind (bat_ends hok (0 + 1) q.1 (by omega) (by omega)) fun r hr => ?_
  obtain ⟨r1, r2, r3⟩ := hr
  have hl := r1.2
  have ew : wrap64 ((r.2.2.2.2.2.1.length : Int) - 1) = (r.2.2.2.2.2.1.length : Int) - 1 := w64 (by omega) (by omega)
  rw [ew]
  simp only [if_pos (show (0 : Int) ≤ (r.2.2.2.2.2.1.length : Int) - 1 by omega), if_pos (show (r.2.2.2.2.2.1.length : Int) - 1 < (r.2.2.2.2.2.1.length : Int) by omega)]
  refine EndsIn.bind (pick_ends hok r.2.2.2.2.2.2 3 (by omega) (by omega) (by omega)) fun s hs => ?_
  rw [hs.1]
  refine EndsIn.bind (pick_ends hok (r.2.2.2.2.2.2 + 1) 12 (by omega) (by omega) (by omega)) fun t ht => ?_
  rw [ht.1]
  refine EndsIn.bind (bat_ends hok (r.2.2.2.2.2.2 + 1 + 1) _ (by omega) (by omega)) fun u hu => ?_
  obtain ⟨u1, u2, u3⟩ := hu
  refine EndsIn.bind (pick_ends hok u.2.2.2.2.2.2 3 (by omega) (by omega) (by omega)) fun v hv => ?_
  by_cases e : v.1 > 0
  · simp only [if_pos e]
    exact EndsIn.now _ ⟨r1.rowR, u1.rowR⟩
  · simp only [if_neg e]
    exact EndsIn.now _ ⟨r1.rowR, u1.rowR⟩
end Go.Proofs.YtahenocndacjeaaDoor.Pu

namespace Go.Proofs.YtahenocndacjeaaDoor.Pure
open Go.RowKit Go.Proofs.YtahenocndacjeaaDoor.G Go.Proofs.YtahenocndacjeaaDoorW.PrintWords Go.Proofs.YtahenocndacjeaaDoorW.PrintLast Go.Proofs.YtahenocndacjeaaDoorW.PrintMore Go.Proofs.YtahenocndacjeaaDoor.Pu
set_option linter.unusedSimpArgs false
set_option linter.unusedVariables false
theorem inc_app : ∀ (a b : List RT), Inc (a ++ b) → ∀ x ∈ a, ∀ y ∈ b, x.f0 < y.f0
  | [], b, _, x, hx, _, _ => by simp at hx
  | z :: a, b, h, x, hx, y, hy => by
    rcases List.mem_cons.1 hx with rfl | hx
    · exact h.1 y (List.mem_append.2 (Or.inr hy))
    · exact inc_app a b h.2 x hx y hy
theorem inc_head {z : RT} {b : List RT} (h : Inc (z :: b)) : ∀ y ∈ z :: b, z.f0 ≤ y.f0 := fun y hy => by
  rcases List.mem_cons.1 hy with rfl | hy
  · omega
  · have := h.1 y hy
    omega
theorem inc_right : ∀ (a b : List RT), Inc (a ++ b) → Inc b
  | [], _, h => h
  | _ :: a, b, h => inc_right a b h.2
theorem split_at (a b : List RT) (o : Int) (hi : Inc (a ++ b)) (hb : 0 < b.length) (ho : o = b[0].f0) : aheadL (a ++ b) o = a ∧ behindL (a ++ b) o = b := by
  have hbo : ∀ y ∈ b, o ≤ y.f0 := by
    match b, hb, ho, inc_right a b hi with
    | z :: b, _, ho, h => exact fun y hy => by rw [ho]; exact inc_head h y hy
  have hao : ∀ x ∈ a, x.f0 < o := fun x hx => by rw [ho]; exact inc_app a b hi x hx _ (List.getElem_mem hb)
  unfold aheadL behindL
  rw [List.filter_append, List.filter_append]
  constructor
  · rw [List.filter_eq_self.2 (fun x hx => by simpa using hao x hx), List.filter_eq_nil_iff.2 (fun y hy => by have := hbo y hy; simp; omega), List.append_nil]
  · rw [List.filter_eq_nil_iff.2 (fun x hx => by have := hao x hx; simp; omega), List.filter_eq_self.2 (fun y hy => by have := hbo y hy; simp; omega), List.nil_append]
theorem FnJoinCut : OFnJoinCut.Pure := by
  intro l0 hl0 ho0
  refine EndsIn.rounds ?_
  unfold laws_FnJoinCut.f
  have hr := fun x hx => u8_range (ho0 x hx)
  by_cases h : (l0.length : Int) > 1048576
  · simp only [if_pos h]
    exact EndsIn.now _ rfl
  · simp only [if_neg h]
    obtain ⟨c, hc, hok⟩ := open_some l0 hr
    refine EndsIn.bind (drawBJ_ends hok l0 hc) fun q hq => ?_
    obtain ⟨a0, a1, a2, a3, a4, a5, b0, b1, b2, b3, b4, b5⟩ := q
    simp only at hq ⊢
    obtain ⟨ra, rb⟩ := hq
    refine EndsIn.bind (P := fun r => r = bjoinV ⟨a0, a1, a2, a3, a4, a5⟩ ⟨b0, b1, b2, b3, b4, b5⟩) ⟨_, BatchJoin_ev ⟨a0, a1, a2, a3, a4, a5⟩ ⟨b0, b1, b2, b3, b4, b5⟩, rfl⟩ fun r hr1 => ?_
    subst hr1
    refine EndsIn.bind (P := fun r => r = bjoinV ⟨a0, a1, a2, a3, a4, a5⟩ ⟨b0, b1, b2, b3, b4, b5⟩) ⟨_, sBatchJoin_ev ⟨a0, a1, a2, a3, a4, a5⟩ ⟨b0, b1, b2, b3, b4, b5⟩, rfl⟩ fun r hr2 => ?_
    subst hr2
    by_cases hg : joinGood ⟨a0, a1, a2, a3, a4, a5⟩ ⟨b0, b1, b2, b3, b4, b5⟩ = true
    · have e : bjoinV ⟨a0, a1, a2, a3, a4, a5⟩ ⟨b0, b1, b2, b3, b4, b5⟩ = (a0, a1, a2, a3, a4, a5 ++ b5, true) := by unfold bjoinV; rw [if_pos hg]
      rw [e]
      unfold joinGood at hg
      simp only [Bool.and_eq_true, decide_eq_true_eq] at hg
      obtain ⟨va, vb, h2a, h2b, h0, vw⟩ := hg
      subst h2a h2b h0
      have fa := free_of va rfl
      have fb := free_of vb rfl
      simp only [freeB, S25.mk.injEq, true_and, and_true] at fa fb
      obtain ⟨rfl, rfl, rfl⟩ := fa
      obtain ⟨rfl, rfl, rfl⟩ := fb
      have hla := (batOk_len va).1
      have hlb := (batOk_len vb).1
      simp only at hla hlb
      have rw_ : RowR (a5 ++ b5) := short_row (short_of vw)
      simp only [bne_self_eq_false, Bool.false_eq_true, if_false, Bool.not_true]
      refine EndsIn.bind (P := fun r => r = true) ⟨_, selfBatch ⟨a0, false, 255, 0, 0, a5 ++ b5⟩ rw_, rfl⟩ fun r hr3 => ?_
      subst hr3
      simp only [if_true]
      refine EndsIn.step (fun k => by rw [laws_FnJoinCut.j0]) ?_
      simp only [Bool.false_eq_true, if_false, if_pos (show (0 : Int) < (b5.length : Int) by omega)]
      obtain ⟨e1, e2⟩ := split_at a5 b5 b5[0].f0 (inc_bat vw) (by omega) rfl
      have hcg : cutGood ⟨a0, false, 255, 0, 0, a5 ++ b5⟩ b5[0].f0 = true := by
        unfold cutGood
        simp only [e1, e2, vw, decide_true, Bool.true_and, Bool.and_eq_true, Bool.not_eq_true', List.isEmpty_eq_false_iff]
        exact ⟨List.length_pos_iff.1 (by omega), List.length_pos_iff.1 (by omega)⟩
      have erd : (rd_T41 b5 0).f0 = b5[0].f0 := by rw [show (0 : Int) = ((0 : Nat) : Int) from rfl, rdR_nat b5 0 (by omega)]
      rw [erd]
      refine EndsIn.bind (P := fun r => r = (a0, false, 255, 0, 0, a5, a0, false, 255, 0, 0, b5, true)) ⟨_, BatchCut_ev ⟨a0, false, 255, 0, 0, a5 ++ b5⟩ b5[0].f0, by unfold bcutV; rw [if_pos hcg]; simp only [e1, e2]⟩ fun r hr5 => ?_
      subst hr5
      simp only [if_true]
      refine EndsIn.bind (P := fun r => r = true) ⟨_, selfBatch ⟨a0, false, 255, 0, 0, a5⟩ ra, rfl⟩ fun r hr6 => ?_
      subst hr6
      simp only [if_true]
      refine EndsIn.bind (P := fun r => r = true) ⟨_, selfBatch ⟨a0, false, 255, 0, 0, b5⟩ rb, rfl⟩ fun r hr7 => ?_
      subst hr7
      exact EndsIn.now _ rfl
    · have e : bjoinV ⟨a0, a1, a2, a3, a4, a5⟩ ⟨b0, b1, b2, b3, b4, b5⟩ = (false, false, 0, 0, 0, [], false) := by unfold bjoinV; rw [if_neg hg]
      rw [e]
      have r0 : RowR ([] : List RT) := ⟨by simp, fun r hr => by simp at hr⟩
      simp only [bne_self_eq_false, Bool.false_eq_true, if_false, Bool.not_false]
      refine EndsIn.bind (P := fun r => r = true) ⟨_, selfBatch ⟨false, false, 0, 0, 0, []⟩ r0, rfl⟩ fun r hr3 => ?_
      subst hr3
      simp only [if_true]
      refine EndsIn.step (fun k => by rw [laws_FnJoinCut.j0]) ?_
      simp only [if_true, beq_self_eq_true]
      refine EndsIn.bind (P := fun r => r = true) ⟨_, selfBatch ⟨false, false, 0, 0, 0, []⟩ r0, rfl⟩ fun r hr5 => ?_
      subst hr5
      exact EndsIn.now _ rfl
end Go.Proofs.YtahenocndacjeaaDoor.Pure

namespace Go.Proofs.YtahenocndacjeaaDoor.fnJoinCut
open Go.ChangeShapes Go.WideShapes Go.ChangeAt Go.RowKit Go.Proofs.YtahenocndacjeaaDoor.OFnJoinCut Go.Proofs.YtahenocndacjeaaDoor.G Go.Joins
open Go.ChangeMaps (open_string shut_string)
set_option linter.unusedVariables false
theorem own : ownKnob Tryd.prog.godebug = none := by kernel_rfl
theorem laidOut : laidOutB Tryd.prog = true := by kernel_rfl
theorem star : "*" ++ "errors.errorString" = "*errors.errorString" := by decide
theorem cellsE : Tryd.prog.cellsOf 131 = 1 := by kernel_rfl
theorem cellsS : Tryd.prog.cellsOf 9 = 1 := by kernel_rfl
theorem g0 : Tryd.prog.globalNamed "loop.example/recordbatches/impl.errNoCut" = some 0 := by kernel_rfl
theorem gT0 : (Tryd.prog.globals[0]?).map (·.type) = some 56 := by kernel_rfl
abbrev text0 : ByteArray := { data := #[110, 111, 32, 99, 117, 116] }
theorem g1 : Tryd.prog.globalNamed "loop.example/recordbatches/impl.errNoJoin" = some 1 := by kernel_rfl
theorem gT1 : (Tryd.prog.globals[1]?).map (·.type) = some 56 := by kernel_rfl
abbrev text1 : ByteArray := { data := #[110, 111, 32, 106, 111, 105, 110] }
theorem rowE (u : TypeId) (h : Tryd.prog.typeName? 3 u = some "*errors.errorString") : u = 106 :=
  typeName_ptr_named (nm := "errors.errorString") (by rw [star]; kernel_rfl) (by kernel_rfl) (by decide) u (by rw [star]; exact h)
noncomputable def low : Nat := (World.holding Tryd.prog default ⟨#[], #[], []⟩).heap.size
noncomputable def laidWorld (os : Os) : World :=
  let w0 := World.holding Tryd.prog os ⟨#[.cells #[.string text0] 131, .cells #[.string text1] 131], #[], []⟩
  { w0 with heap := ((w0.heap.modify 0 fun | .cells _ t frozen => .cells #[.iface 106 (.pointer (some ⟨low + 0, 0, none⟩))] t frozen | o => o).modify 1 fun | .cells _ t frozen => .cells #[.iface 106 (.pointer (some ⟨low + 1, 0, none⟩))] t frozen | o => o) }
theorem laid_met (os : Os) (args : Array Value) : laidMetH Tryd.prog Rows.fnJoinCutRow.laid ((laidWorld os).forCall (fun _ _ => 0) ⟨#[], args, []⟩).memory :=
  laidMetH_of_parts (laidMet_of_run (ps := [.cell 0 0, .cell (low + 0) 0, .cell 1 0, .cell (low + 1) 0]) 8 (by kernel_rfl) (by kernel_rfl) (by kernel_rfl)) (by kernel_rfl)
set_option maxRecDepth 100000 in
theorem lifted (os : Os) (started : os.Started) (H : Type) (enc : TypeId × Value → H) :
    ReturnsInHanded {} Tryd.checked os 5 .any (fun w args => (Rows.fnJoinCutSpec.pre enc Tryd.prog Tryd.f5 Rows.fnJoinCutRow.domain false w args ∧ laidMetH Tryd.prog Rows.fnJoinCutRow.laid w) ∧ sizedMet enc Tryd.prog Tryd.f5 (OpenSpec.ofChange Rows.fnJoinCutSpec) false w args) (Rows.fnJoinCutSpec.post enc Tryd.prog Tryd.f5 false true false false) := by
  refine returnsInHanded_of_change_and (C := Tryd.checked) (X := fun w _ => laidMetH Tryd.prog Rows.fnJoinCutRow.laid w) (fun _ _ _ hh h => h.of_heap hh) own started (by kernel_rfl) Tryd.func5
    (ChangeSpec.witness_at (enc := enc) (C := Tryd.checked) (os := os) (X := fun w _ => laidMetH Tryd.prog Rows.fnJoinCutRow.laid w) false (laidWorld os) #[.slice none 0 0] 8 rfl (by kernel_rfl) (by kernel_rfl) (by kernel_rfl) (by kernel_rfl) (by kernel_rfl) (laid_met os _)) ?_
  intro W base args ds gs before hval0 hW hcnd hsz0 hLL _
  have hsz : (DataW.weightsEach Tryd.prog (Tryd.f5.params.toList ++ Rows.fnJoinCutSpec.plain.varTypes Tryd.prog) (ds ++ gs)).all (· ≤ reachBytes) = true := hsz0
  have hval : ∀ (j : Nat) t v, Tryd.f5.params[j]? = some t → args[j]? = some v → Value.okWide Tryd.prog W .any base t v := hval0
  have hW' := hW
  obtain ⟨p, q, hA0, hV, rfl, hfz, hnd⟩ := hW
  have hA : DataW.TrodAll enc Tryd.prog W 0 (fun _ => true) true Tryd.f5.params.toList args.toList ds p := hA0
  rw [Tryd.params5] at hA hval hsz
  obtain ⟨v0, vs0, d0, ds0, p0, q0, hargs, rfl, rfl, h0, r0⟩ := trodAll_cons hA
  obtain ⟨rfl, rfl, rfl⟩ := trodAll_nil r0
  obtain rfl : args = #[v0] := by cases args; simp_all
  have hL : laidMet Tryd.prog Rows.fnJoinCutRow.laid W := hLL
  obtain ⟨b0, b1, s0, s1, _, _, _, _, hv0, hv1, _⟩ := laid_sentinels2 hL g0 gT0 g1 gT1 Tryd.underlying56 rowE Tryd.underlying106 Tryd.underlying131 rfl rfl Tryd.underlying9 cellsE cellsS
  obtain ⟨rfl, rfl⟩ := hV.unique (vars_read2 enc g1 gT1 Tryd.underlying56 hv1 trivial g0 gT0 Tryd.underlying56 hv0 trivial _)
  have hg0 : W.cell? ⟨0, 0, none⟩ = some (.iface 106 (.pointer (some b0))) := by simpa using World.var?_cell g0 hv0 0
  have hg1 : W.cell? ⟨1, 0, none⟩ = some (.iface 106 (.pointer (some b1))) := by simpa using World.var?_cell g1 hv1 0
  obtain ⟨a0, len0, cap0, rfl⟩ := okWide_slice Tryd.underlying22 (hval 0 22 v0 rfl rfl)
  have k0 := h0
  have lt0 : ∀ x ∈ p0, x.block < W.heap.size := by obtain ⟨m, hm⟩ := k0; exact DataW.trod_lt m _ _ _ hm
  obtain ⟨fuel0, hf0⟩ := h0
  obtain ⟨A0, c0, l0, hcs0, hlc0, hm0, hC0, ho0⟩ := Rd.opens_row Tryd.underlying22 (Rd.opens_int Tryd.underlying5 (by kernel_rfl)) hf0
  simp [Value.cells] at hcs0
  obtain ⟨rfl, rfl, rfl⟩ := hcs0
  clear hA0 hval0 hsz0 hsz
  obtain ⟨k, h⟩ := Pure.FnJoinCut l0 (Nat.le_trans hlc0 hm0) ho0
  letI : ErrA := ⟨fun n => if n = 1 then b0 else b1⟩
  have hE : ErrOk [0, 1] W := fun g hg => by
    have hg' : g = 0 ∨ g = 1 := by simpa using hg
    rcases hg' with rfl | rfl
    · exact hg0
    · exact hg1
  refine (laws_FnJoinCut.calls k _ _ l0 true W hE hC0 hlc0 h).mono fun e W' ⟨he, bel0⟩ => ?_
  subst he
  have bel : Below W.heap.size W W' := bel0
  have hw0 : W'.var? Tryd.prog "loop.example/recordbatches/impl.errNoCut" = some #[.iface 106 (.pointer (some b0))] := var?_below bel g0 (World.block_lt_of_cell? W _ hg0) hv0
  have hw1 : W'.var? Tryd.prog "loop.example/recordbatches/impl.errNoJoin" = some #[.iface 106 (.pointer (some b1))] := var?_below bel g1 (World.block_lt_of_cell? W _ hg1) hv1
  exact ⟨_, rfl, _, _, _, [], _, _, hW', trodAll_mk1 (shut_bool Tryd.underlying4 _), (trodAll_cons_mk (Below.trod laidOut (by kernel_rfl) (of_decide_eq_true (by kernel_rfl)) k0 bel lt0) trodAll_mk0), vars_read2 enc g1 gT1 Tryd.underlying56 hw1 trivial g0 gT0 Tryd.underlying56 hw0 trivial _, bel.frame _, fun h => by cases h⟩
theorem over : Rows.fnJoinCutRow.holds Tryd.pinned (OpenSpec.ofChange Rows.fnJoinCutSpec) :=
  OpenClaim.holds_of_wide 5 Tryd.f5 rfl rfl rfl rfl rfl rfl rfl ⟨rfl, rfl, rfl, rfl, rfl⟩ rfl rfl rfl rfl rfl (by kernel_rfl) Tryd.func5 (by kernel_rfl)
    (of_decide_eq_true (by kernel_rfl)) (by unfold Func.isWrapper; first | (rw [if_pos (by decide +kernel)]; kernel_rfl) | (rw [if_neg (by decide +kernel)]; exact ⟨rfl, rfl⟩))
    (fun os started H enc _ => lifted os started H enc)
theorem proved : Rows.FnJoinCutSaid := over
#print axioms proved
end Go.Proofs.YtahenocndacjeaaDoor.fnJoinCut
namespace Go.Proofs.YtahenocndacjeaaDoor
/-- The row, under a short name, for the claim. -/
theorem fnJoinCut_holds : Rows.FnJoinCutSaid := fnJoinCut.proved
theorem fnJoinCut_card : Rows.FnJoinCutCardSaid :=
  Claim7.holds_tied_plain_at .later [] [.sentinel, .sentinel] true (true, "dba9739cc882f5d8879bb2c64de6007db1b45042d3c3631de14440e6cc2a767b") true
    fnJoinCut_holds (fun _ h => by cases h) (by kernel_rfl) (fun _ h => by cases h) fnJoinCut_row_tie rfl ⟨rfl, rfl⟩ (by kernel_rfl) rfl
    (fun f fn hf hfn => by
      obtain rfl : f = 5 := Option.some.inj ((show Tryd.prog.funcNamed "loop.example/recordbatches/laws.FnJoinCut" = some 5 by kernel_rfl).symm.trans hf) |>.symm
      obtain rfl : fn = Tryd.f5 := (Option.some.inj (Tryd.func5.symm.trans hfn)).symm
      exact ⟨by kernel_rfl, fun j t ht => by
        rw [Tryd.params5] at ht
        have h3 : t = 22 := by
          rcases j with _ | j
          · have h_ := ht.symm; simp at h_; simp [h_]
          · simp at ht
        rcases h3 with rfl
        · exact (show Tryd.prog.wantsStandIn 22 = false by kernel_rfl)⟩)
    (by kernel_rfl)
#print axioms fnJoinCut_card
end Go.Proofs.YtahenocndacjeaaDoor

