/- A text of seat Ythoioccmnphfgaa: what the law FnExactKeepSize needs of this repo's texts (by pack.py). Not trusted: Lean checks it. -/
import Derived.Test.YthoioccmnphfgaaKFnExactKeepSize1
import Derived.Test.YthoioccmnphfgaaProg
import Derived.Below
import Derived.WalkKit
import Derived.KernelRfl
import Derived.OwnWalk
import Derived.Deep.OwnRows
import Derived.Laws.OwnMore
namespace Go.Proofs.Ythoioccmnphfgaa.G
open Go.RowKit Go.Proofs.YthoioccmnphfgaaW.PrintWords Go.Proofs.YthoioccmnphfgaaW.PrintLast Go.Proofs.YthoioccmnphfgaaW.PrintMore
set_option linter.unusedVariables false
/-- One proposition out of what is known together. -/
class Pr (P Q : Prop) : Prop where out : P → Q
instance Pr.l {P Q R : Prop} [h : Pr P Q] : Pr (P ∧ R) Q := ⟨fun k => h.out k.1⟩
instance Pr.r {P Q R : Prop} [h : Pr R Q] : Pr (P ∧ R) Q := ⟨fun k => h.out k.2⟩
instance Pr.i {P Q R : Prop} [h : Pr P Q] [h' : Pr P R] : Pr P (Q ∧ R) := ⟨fun k => ⟨h.out k, h'.out k⟩⟩
instance Pr.no {P Q R : Prop} [h : Pr P (¬ Q)] [h' : Pr P (¬ R)] : Pr P (¬ (Q ∨ R)) := ⟨fun k q => q.elim (h.out k) (h'.out k)⟩
instance Pr.tt {P : Prop} : Pr P True := ⟨fun _ => trivial⟩
instance Pr.id {P : Prop} : Pr P P := ⟨fun k => k⟩
variable {α β : Type} {d : Kd α} {e e' : Nat} {w w0 W w1 : World} {base base' g g' : Nat} {ok ok' : Nat → Prop} {u v : Value} {xs : List α} {o o' : Obj}
theorem tbe {x : Option α} {f : α → Option β} {r : β} (h : x.bind f = some r) : ∃ a, Aside0 (x = some a) ∧ f a = some r := by
  obtain ⟨a, h1, h2⟩ := Option.bind_eq_some_iff.mp h
  exact ⟨a, ⟨h1⟩, h2⟩
theorem td {p : Prop} [i : Decidable p] (h : decide p = true := by first | (with_reducible assumption) | assumption) : p := of_decide_eq_true h
theorem tr {p : Prop} (h : p := by first | rfl | (simp; done) | (simp [*]; done)) : p := h
theorem tq {p : Prop} (h : p := by (try simp only [List.map_toArray, List.map_cons, List.map_nil]); first | done | rfl | (simp only [List.length_drop, List.length_take]; rfl)) : p := h
theorem cells6 {a0 a1 a2 a3 a4 a5 : Value} {t : TypeId} (h : w.heap[g]? = some (.cells #[a0, a1, a2, a3, a4, a5] t (0, 0))) : w.cell? ⟨g, 0, none⟩ = some a0 ∧ w.cell? ⟨g, 1, none⟩ = some a1 ∧ w.cell? ⟨g, 2, none⟩ = some a2 ∧ w.cell? ⟨g, 3, none⟩ = some a3 ∧ w.cell? ⟨g, 4, none⟩ = some a4 ∧ w.cell? ⟨g, 5, none⟩ = some a5 ∧ w.frozen? ⟨g, 0, none⟩ = false ∧ w.frozen? ⟨g, 1, none⟩ = false ∧ w.frozen? ⟨g, 2, none⟩ = false ∧ w.frozen? ⟨g, 3, none⟩ = false ∧ w.frozen? ⟨g, 4, none⟩ = false ∧ w.frozen? ⟨g, 5, none⟩ = false :=
  ⟨(blk_cell h 0).trans rfl, (blk_cell h 1).trans rfl, (blk_cell h 2).trans rfl, (blk_cell h 3).trans rfl, (blk_cell h 4).trans rfl, (blk_cell h 5).trans rfl, blk_frozen h 0, blk_frozen h 1, blk_frozen h 2, blk_frozen h 3, blk_frozen h 4, blk_frozen h 5⟩
theorem sz_alloc {n : Nat} (h : n ≤ w.heap.size) (o : Obj) : n ≤ (w.alloc o).heap.size := Nat.le_trans h (below_alloc (Below.refl _ _) o).size
theorem sz_drew {n : Nat} (h : n ≤ w.heap.size) : n ≤ w.drew.heap.size := h
theorem sz_drewN {n : Nat} (h : n ≤ w.heap.size) (m : Nat) : n ≤ (w.drewN m).heap.size := h
theorem sz_set {n : Nat} (h : n ≤ w.heap.size) (p : Addr) (x : Value) : n ≤ (w.setCell p x).heap.size := by simpa using h
/-- The searches by themselves. -/
theorem zb {p : Prop} (h : p := by repeat (first | (with_reducible first | exact HB.out | apply below_alloc | apply pw_below_drewN | apply below_drew1 | refine below_set ?_ (IsS65.ge HI0.out) | refine below_set ?_ (Aside0.out (by with_reducible assumption))) | exact HB.out)) : p := h
theorem tH (h : w.heap[g]? = some o) (k : w.heap[g]? = some o → W.heap[g]? = some o := by intro h_; (repeat (with_reducible first | exact h_ | apply blk_drewN | apply blk_drew | apply blk_alloc | apply blk_put | (apply blk_far; (case hp => exact Aside0.out (by with_reducible assumption))))); (try exact h_); all_goals first | (simp only [List.setIfInBounds_toArray, List.set_cons_zero, List.set_cons_succ]; done) | (simp only [List.setIfInBounds_toArray, List.set_cons_zero, List.set_cons_succ]; exact rfl) | exact rfl) : W.heap[g]? = some o := k h
theorem tP (h : w.heap[g]? = some o) (k : w.heap[g]? = some o → W.heap[g]? = some o' := by intro h_; (repeat (with_reducible first | exact h_ | apply blk_drewN | apply blk_drew | apply blk_alloc | apply blk_put | (apply blk_far; (case hp => exact Aside0.out (by with_reducible assumption))))); (try exact h_); all_goals first | (simp only [List.setIfInBounds_toArray, List.set_cons_zero, List.set_cons_succ]; done) | (simp only [List.setIfInBounds_toArray, List.set_cons_zero, List.set_cons_succ]; exact rfl) | exact rfl) : W.heap[g]? = some o' := k h
theorem tBb (h : Aside0 (w.heap[g]? = some o)) (hb : Below W.heap.size W w1) (k : w.heap[g]? = some o → W.heap[g]? = some o := by intro h_; (repeat (with_reducible first | exact h_ | apply blk_drewN | apply blk_drew | apply blk_alloc | apply blk_put | (apply blk_far; (case hp => exact Aside0.out (by with_reducible assumption))))); (try exact h_); all_goals first | (simp only [List.setIfInBounds_toArray, List.set_cons_zero, List.set_cons_succ]; done) | (simp only [List.setIfInBounds_toArray, List.set_cons_zero, List.set_cons_succ]; exact rfl) | exact rfl) : Aside0 (w1.heap[g]? = some o) := ⟨blk_below (k h.out) hb⟩
theorem tBp (h : Aside0 (w.heap[g]? = some o)) (hb : Below W.heap.size W w1) (k : w.heap[g]? = some o → W.heap[g]? = some o' := by intro h_; (repeat (with_reducible first | exact h_ | apply blk_drewN | apply blk_drew | apply blk_alloc | apply blk_put | (apply blk_far; (case hp => exact Aside0.out (by with_reducible assumption))))); (try exact h_); all_goals first | (simp only [List.setIfInBounds_toArray, List.set_cons_zero, List.set_cons_succ]; done) | (simp only [List.setIfInBounds_toArray, List.set_cons_zero, List.set_cons_succ]; exact rfl) | exact rfl) : Aside0 (w1.heap[g]? = some o') := ⟨blk_below (k h.out) hb⟩
theorem tlt (h : Aside0 (w.heap[g]? = some o)) (hg : g' = W.heap.size) (k : w.heap.size ≤ W.heap.size := by repeat (with_reducible first | exact Nat.le_refl _ | refine sz_alloc ?_ _ | refine sz_drewN ?_ _ | refine sz_drew ?_ | refine sz_set ?_ _ _)) : Aside0 (g ≠ g') := ⟨by rw [hg]; exact Nat.ne_of_lt (Nat.lt_of_lt_of_le (blk_lt h.out) k)⟩
theorem tgt (h : Aside0 (w.heap[g]? = some o)) (hg : g' = W.heap.size) (k : w.heap.size ≤ W.heap.size := by repeat (with_reducible first | exact Nat.le_refl _ | refine sz_alloc ?_ _ | refine sz_drewN ?_ _ | refine sz_drew ?_ | refine sz_set ?_ _ _)) : Aside0 (g' ≠ g) := ⟨by rw [hg]; exact Nat.ne_of_gt (Nat.lt_of_lt_of_le (blk_lt h.out) k)⟩
theorem tge (h : Aside0 (Below w.heap.size w w0)) (hg : g = W.heap.size) (k : Below w.heap.size w w0 → Below w.heap.size w W := by intro h_; repeat (first | (with_reducible first | exact h_ | apply below_alloc | apply pw_below_drewN | apply below_drew1 | refine below_set ?_ (IsS65.ge HI0.out) | refine below_set ?_ (Aside0.out (by with_reducible assumption))) | exact h_)) : Aside0 (w.heap.size ≤ g) := ⟨by rw [hg]; exact (k h.out).size⟩
theorem tBs (h : Aside0 (Below w.heap.size w w0)) (hb : Below W.heap.size W w1) (k : Below w.heap.size w w0 → Below w.heap.size w W := by intro h_; repeat (first | (with_reducible first | exact h_ | apply below_alloc | apply pw_below_drewN | apply below_drew1 | refine below_set ?_ (IsS65.ge HI0.out) | refine below_set ?_ (Aside0.out (by with_reducible assumption))) | exact h_)) : Aside0 (Below w.heap.size w w1) := ⟨below_step (k h.out) hb⟩
theorem tfB (h : Aside0 (w.heap[g]? = some o)) (k : Nat) (hk : W.heap.size ≤ k) (hs : w.heap.size ≤ W.heap.size := by repeat (with_reducible first | exact Nat.le_refl _ | refine sz_alloc ?_ _ | refine sz_drewN ?_ _ | refine sz_drew ?_ | refine sz_set ?_ _ _)) : k ≠ g := Kd.freshB h.out k (Nat.le_trans hs hk)
theorem tC {A : Option Addr} {n : Nat} (h : d.C w A n xs) (k : d.C w A n xs → d.C W A n xs := by intro h_; repeat (first | (with_reducible exact h_) | (with_reducible refine Kd.C_alloc ?_ _) | (with_reducible refine Kd.C_drewN ?_ _) | (with_reducible refine Kd.C_drew ?_) | exact h_)) : d.C W A n xs := k h
theorem tcl {a : Addr} (hb : Aside0 (Below w.heap.size w W)) (h : w.cell? a = some v) : W.cell? a = some v := (hb.out.cell (World.block_lt_of_cell? w _ h)).trans h
theorem tsv {p : Prop} (P : Program) (v : Value) (h : p) (k : p → ∃ (A : Option Addr) (n c : Nat), v = .slice A n c := by intro h_; first | (obtain ⟨_, _, e_⟩ := Kd.R_slice h_; exact ⟨_, _, _, e_⟩) | (obtain ⟨_, _, e_⟩ := Kd.S_slice h_; exact ⟨_, _, _, e_⟩) | (obtain ⟨_, _, e_, _⟩ := Kd.Q_slice h_; exact ⟨_, _, _, e_⟩) | (obtain ⟨_, _, e_⟩ := Kd.N_slice h_; exact ⟨_, _, _, e_⟩) | (obtain ⟨_, _, e_⟩ := Kd.V_slice h_; exact ⟨_, _, _, e_⟩)) : ∀ (a_ : Addr) (m_ : Mode) (W_ : World), (store a_ v m_).run P W_ = stored P W_ a_ v m_ := fun a_ m_ W_ => run_store _ W_ a_ _ m_ (by obtain ⟨_, _, _, e_⟩ := k h; rw [e_]; rfl)
theorem tR (h : Kd.R d e w base ok v xs) (k : Kd.R d e w base ok v xs → Kd.R d e W base ok v xs := by intro h_; (with_reducible repeat (first | apply Kd.R_alloc | apply Kd.R_drewN | apply Kd.R_drew | refine Kd.R_far ?_ (fun _ hk_ => Pr.out hk_) _)); exact h_) : Kd.R d e W base ok v xs := k h
theorem tRm (h : Kd.R d e w base ok v xs) (k : Kd.R d e w base ok v xs → Kd.R d e W base ok v xs := by intro h_; (with_reducible repeat (first | apply Kd.R_alloc | apply Kd.R_drewN | apply Kd.R_drew | refine Kd.R_far ?_ (fun _ hk_ => Pr.out hk_) _)); exact h_) (p : ∀ k, ok k → ok' k := by exact fun _ h_ => Pr.out h_) : Kd.R d e W base ok' v xs := Kd.R_mono (k h) p
theorem tRb (h : Aside0 (Kd.R d e w base ok v xs)) (hb : Below W.heap.size W w1) (k : Kd.R d e w base ok v xs → Kd.R d e W base ok v xs := by intro h_; (with_reducible repeat (first | apply Kd.R_alloc | apply Kd.R_drewN | apply Kd.R_drew | refine Kd.R_far ?_ (fun _ hk_ => Pr.out hk_) _)); exact h_) : Aside0 (Kd.R d e w1 base ok v xs) := ⟨Kd.R_below (k h.out) hb⟩
theorem tRt {t : Nat} {cs : Array Value} (h : Kd.R d e w base ok v xs) (hb : w.heap[g]? = some (.cells cs t (0, 0))) (ht : ∀ q, q ∈ e :: d.E → q ≠ t := by decide) (k : Kd.R d e w base (fun k => ok k ∧ k ≠ g) v xs → Kd.R d e W base (fun k => ok k ∧ k ≠ g) v xs := by intro h_; (with_reducible repeat (first | apply Kd.R_alloc | apply Kd.R_drewN | apply Kd.R_drew | refine Kd.R_far ?_ (fun _ hk_ => Pr.out hk_) _)); exact h_) : Kd.R d e W base ok v xs := Kd.R_mono (k (Kd.R_types h hb ht)) (fun _ h => h.1)
theorem tRl (ho : Kd.R d e w1 W.heap.size ok v xs) (h : Aside0 (Below w.heap.size w w0)) (k : Below w.heap.size w w0 → Below w.heap.size w W := by intro h_; repeat (first | (with_reducible first | exact h_ | apply below_alloc | apply pw_below_drewN | apply below_drew1 | refine below_set ?_ (IsS65.ge HI0.out) | refine below_set ?_ (Aside0.out (by with_reducible assumption))) | exact h_)) : Aside0 (Kd.R d e w1 w.heap.size ok v xs) := ⟨Kd.R_lower ho (k h.out).size⟩
theorem tS (h : Kd.S d e w base ok v xs) (k : Kd.S d e w base ok v xs → Kd.S d e W base ok v xs := by intro h_; (with_reducible repeat (first | apply Kd.S_alloc | apply Kd.S_drewN | apply Kd.S_drew | refine Kd.S_far ?_ (fun _ hk_ => Pr.out hk_) _)); exact h_) : Kd.S d e W base ok v xs := k h
theorem tSm (h : Kd.S d e w base ok v xs) (k : Kd.S d e w base ok v xs → Kd.S d e W base ok v xs := by intro h_; (with_reducible repeat (first | apply Kd.S_alloc | apply Kd.S_drewN | apply Kd.S_drew | refine Kd.S_far ?_ (fun _ hk_ => Pr.out hk_) _)); exact h_) (p : ∀ k, ok k → ok' k := by exact fun _ h_ => Pr.out h_) : Kd.S d e W base ok' v xs := Kd.S_mono (k h) p
theorem tSl (ho : Kd.S d e w1 W.heap.size ok v xs) (h : Aside0 (Below w.heap.size w w0)) (k : Below w.heap.size w w0 → Below w.heap.size w W := by intro h_; repeat (first | (with_reducible first | exact h_ | apply below_alloc | apply pw_below_drewN | apply below_drew1 | refine below_set ?_ (IsS65.ge HI0.out) | refine below_set ?_ (Aside0.out (by with_reducible assumption))) | exact h_)) : Aside0 (Kd.S d e w1 w.heap.size ok v xs) := ⟨Kd.S_lower ho (k h.out).size⟩
theorem tN (h : Kd.N d e w base ok v xs) (k : Kd.N d e w base ok v xs → Kd.N d e W base ok v xs := by intro h_; (with_reducible repeat (first | apply Kd.N_alloc | apply Kd.N_drewN | apply Kd.N_drew | refine Kd.N_far ?_ (fun _ hk_ => Pr.out hk_) _)); exact h_) : Kd.N d e W base ok v xs := k h
theorem tNl (ho : Kd.N d e w1 W.heap.size ok v xs) (h : Aside0 (Below w.heap.size w w0)) (k : Below w.heap.size w w0 → Below w.heap.size w W := by intro h_; repeat (first | (with_reducible first | exact h_ | apply below_alloc | apply pw_below_drewN | apply below_drew1 | refine below_set ?_ (IsS65.ge HI0.out) | refine below_set ?_ (Aside0.out (by with_reducible assumption))) | exact h_)) : Aside0 (Kd.N d e w1 w.heap.size ok v xs) := ⟨Kd.N_lower ho (k h.out).size⟩
end Go.Proofs.Ythoioccmnphfgaa.G

namespace Go.Proofs.Ythoioccmnphfgaa.G
open Go.RowKit Go.Proofs.YthoioccmnphfgaaW.PrintWords Go.Proofs.YthoioccmnphfgaaW.PrintLast Go.Proofs.YthoioccmnphfgaaW.PrintMore
variable {P : Program} {ops : Array Oper} {Q : Exit → Act → World → Prop}
theorem gate_val {rest : List Oper} {o : Oper} {a : Act} {W : World} {x : Tmp} {as1 : Array Operand} {ts : Array TypeId} (_ho : o.op = .call { callee := .value (.tmp x), args := as1, argTypes := ts }) (h : wpList P ops Q (o :: rest) a W) : wpList P ops Q (o :: rest) a W := h
theorem goesC_ {rest : List Oper} {oi : Oper} {a : Act} {w : World} (N : Option Tmp) (hd : oi.dst = N) (hg : oi.guard = none) (x : Tmp) {f : FuncId} {bound : Array Value} (hx : a.eval (.tmp x) = .func (.func f) bound #[]) {fn : Func} {as1 : Array Operand} {ts : Array TypeId} (hf : P.funcs[f]? = some fn) (hname : (fn.name == "runtime.NumGoroutine") = false) (hb : fn.body.isSome = true) (args : Array Value)
    (hop : oi.op = .call { callee := .value (.tmp x), args := as1, argTypes := ts }) (hargs : bound ++ as1.map a.eval = args)
    (h : Calls P f args w fun e w' => ∃ v, e = .returned v ∧ wpList P ops Q rest (a.put N v) w') : wpList P ops Q (oi :: rest) a w := by
  refine wpList_plain hg fun K hK => ?_
  have hrun : (execOp a.eval oi).run P w = .ok (.enter f args) w := by
    unfold execOp
    simp only [Act.eval] at hx
    simp [hop, resolve, Deferred.ofValue, invoke, Act.eval, hx]
    simpa [Act.eval] using (by rw [← hargs]; simpa [Act.eval] using enters_ hf hname hb (bound ++ as1.map a.eval) w)
  unfold Oper.wp
  rw [hrun, Oper.upon_enter]
  refine h.mono fun e w'' hh => ?_
  obtain ⟨v, rfl, hk⟩ := hh
  subst hd
  exact hK _ _ hk
end Go.Proofs.Ythoioccmnphfgaa.G

