/- A text of seat Ytkihdohphddjaaa: what the law FnExactGroupsPut needs of this repo's texts (by pack.py). Not trusted: Lean checks it. -/
import Derived.Test.YtkihdohphddjaaaKFnExactGroupsPut0
import Derived.Test.YtkihdohphddjaaaProg
import Derived.Below
import Derived.WalkKit
import Derived.KernelRfl
import Derived.OwnWalk
import Derived.Deep.OwnRows
import Derived.Laws.OwnMore
namespace Go.Proofs.Ytkihdohphddjaaa.G
open Go.RowKit Go.Proofs.YtkihdohphddjaaaW.PrintWords Go.Proofs.YtkihdohphddjaaaW.PrintLast Go.Proofs.YtkihdohphddjaaaW.PrintMore
variable {P : Program} {ops : Array Oper} {Q : Exit → Act → World → Prop}
/-- The same in a region whose order is drawn. -/
theorem goesM_ {oi : Oper} {N : Option Tmp} {a : Act} {w : World} {K : Act → World → Prop} (x : Tmp) {f : FuncId} {bound : Array Value} (hx : a.eval (.tmp x) = .func (.func f) bound #[]) {fn : Func} {as1 : Array Operand} {ts : Array TypeId} (hf : P.funcs[f]? = some fn) (hname : (fn.name == "runtime.NumGoroutine") = false) (hb : fn.body.isSome = true) (args : Array Value)
    (hw : Region.wanted oi (yielded ops a.tmps) = true) (hN : oi.dst = N) (hop : oi.op = .call { callee := .value (.tmp x), args := as1, argTypes := ts }) (hargs : bound ++ as1.map a.eval = args)
    (h : Calls P f args w fun e w' => ∃ v, e = .returned v ∧ K (a.put N v) w') : if Region.wanted oi (yielded ops a.tmps) = true then Oper.wp P oi a w K Q else K (a.put N undef) w := by
  refine call_ f args hw hN ?_ h
  unfold execOp
  simp only [Act.eval] at hx
  simp [hop, resolve, Deferred.ofValue, invoke, Act.eval, hx]
  simpa [Act.eval] using (by rw [← hargs]; simpa [Act.eval] using enters_ hf hname hb (bound ++ as1.map a.eval) w)
end Go.Proofs.Ytkihdohphddjaaa.G

namespace Go.Proofs.Ytkihdohphddjaaa.G
open Go.RowKit Go.Proofs.YtkihdohphddjaaaW.PrintWords Go.Proofs.YtkihdohphddjaaaW.PrintLast Go.Proofs.YtkihdohphddjaaaW.PrintMore
set_option linter.unusedVariables false
/-- One proposition out of what is known together. -/
class Pr (P Q : Prop) : Prop where out : P → Q
instance Pr.l {P Q R : Prop} [h : Pr P Q] : Pr (P ∧ R) Q := ⟨fun k => h.out k.1⟩
instance Pr.r {P Q R : Prop} [h : Pr R Q] : Pr (P ∧ R) Q := ⟨fun k => h.out k.2⟩
instance Pr.i {P Q R : Prop} [h : Pr P Q] [h' : Pr P R] : Pr P (Q ∧ R) := ⟨fun k => ⟨h.out k, h'.out k⟩⟩
instance Pr.no {P Q R : Prop} [h : Pr P (¬ Q)] [h' : Pr P (¬ R)] : Pr P (¬ (Q ∨ R)) := ⟨fun k q => q.elim (h.out k) (h'.out k)⟩
instance Pr.tt {P : Prop} : Pr P True := ⟨fun _ => trivial⟩
instance Pr.id {P : Prop} : Pr P P := ⟨fun k => k⟩
variable {α β : Type} {d : Kd α} {e e' : Nat} {w w0 W w1 : World} {base base' g g' : Nat} {ok ok' : Nat → Prop} {u v : Value} {xs : List α} {o o' : Obj}
theorem tbe {x : Option α} {f : α → Option β} {r : β} (h : x.bind f = some r) : ∃ a, Aside0 (x = some a) ∧ f a = some r := by
  obtain ⟨a, h1, h2⟩ := Option.bind_eq_some_iff.mp h
  exact ⟨a, ⟨h1⟩, h2⟩
theorem td {p : Prop} [i : Decidable p] (h : decide p = true := by first | (with_reducible assumption) | assumption) : p := of_decide_eq_true h
theorem tr {p : Prop} (h : p := by first | rfl | (simp; done) | (simp [*]; done)) : p := h
theorem tq {p : Prop} (h : p := by (try simp only [List.map_toArray, List.map_cons, List.map_nil]); first | done | rfl | (simp only [List.length_drop, List.length_take]; rfl)) : p := h
theorem cells2 {a b : Value} {t : TypeId} (h : w.heap[g]? = some (.cells #[a, b] t (0, 0))) : w.cell? ⟨g, 0, none⟩ = some a ∧ w.cell? ⟨g, 1, none⟩ = some b ∧ w.frozen? ⟨g, 0, none⟩ = false ∧ w.frozen? ⟨g, 1, none⟩ = false :=
  ⟨(blk_cell h 0).trans rfl, (blk_cell h 1).trans rfl, blk_frozen h 0, blk_frozen h 1⟩
theorem sz_alloc {n : Nat} (h : n ≤ w.heap.size) (o : Obj) : n ≤ (w.alloc o).heap.size := Nat.le_trans h (below_alloc (Below.refl _ _) o).size
theorem sz_drew {n : Nat} (h : n ≤ w.heap.size) : n ≤ w.drew.heap.size := h
theorem sz_drewN {n : Nat} (h : n ≤ w.heap.size) (m : Nat) : n ≤ (w.drewN m).heap.size := h
theorem sz_set {n : Nat} (h : n ≤ w.heap.size) (p : Addr) (x : Value) : n ≤ (w.setCell p x).heap.size := by simpa using h
/-- The searches by themselves. -/
theorem zb {p : Prop} (h : p := by repeat (first | (with_reducible first | exact HB.out | apply below_alloc | apply pw_below_drewN | apply below_drew1 | refine below_set ?_ (IsS81.ge HI0.out) | refine below_set ?_ (Aside0.out (by with_reducible assumption))) | exact HB.out)) : p := h
theorem tH (h : w.heap[g]? = some o) (k : w.heap[g]? = some o → W.heap[g]? = some o := by intro h_; (repeat (with_reducible first | exact h_ | apply blk_drewN | apply blk_drew | apply blk_alloc | apply blk_put | (apply blk_far; (case hp => exact Aside0.out (by with_reducible assumption))))); (try exact h_); all_goals first | (simp only [List.setIfInBounds_toArray, List.set_cons_zero, List.set_cons_succ]; done) | (simp only [List.setIfInBounds_toArray, List.set_cons_zero, List.set_cons_succ]; exact rfl) | exact rfl) : W.heap[g]? = some o := k h
theorem tP (h : w.heap[g]? = some o) (k : w.heap[g]? = some o → W.heap[g]? = some o' := by intro h_; (repeat (with_reducible first | exact h_ | apply blk_drewN | apply blk_drew | apply blk_alloc | apply blk_put | (apply blk_far; (case hp => exact Aside0.out (by with_reducible assumption))))); (try exact h_); all_goals first | (simp only [List.setIfInBounds_toArray, List.set_cons_zero, List.set_cons_succ]; done) | (simp only [List.setIfInBounds_toArray, List.set_cons_zero, List.set_cons_succ]; exact rfl) | exact rfl) : W.heap[g]? = some o' := k h
theorem tBb (h : Aside0 (w.heap[g]? = some o)) (hb : Below W.heap.size W w1) (k : w.heap[g]? = some o → W.heap[g]? = some o := by intro h_; (repeat (with_reducible first | exact h_ | apply blk_drewN | apply blk_drew | apply blk_alloc | apply blk_put | (apply blk_far; (case hp => exact Aside0.out (by with_reducible assumption))))); (try exact h_); all_goals first | (simp only [List.setIfInBounds_toArray, List.set_cons_zero, List.set_cons_succ]; done) | (simp only [List.setIfInBounds_toArray, List.set_cons_zero, List.set_cons_succ]; exact rfl) | exact rfl) : Aside0 (w1.heap[g]? = some o) := ⟨blk_below (k h.out) hb⟩
theorem tlt (h : Aside0 (w.heap[g]? = some o)) (hg : g' = W.heap.size) (k : w.heap.size ≤ W.heap.size := by repeat (with_reducible first | exact Nat.le_refl _ | refine sz_alloc ?_ _ | refine sz_drewN ?_ _ | refine sz_drew ?_ | refine sz_set ?_ _ _)) : Aside0 (g ≠ g') := ⟨by rw [hg]; exact Nat.ne_of_lt (Nat.lt_of_lt_of_le (blk_lt h.out) k)⟩
theorem tgt (h : Aside0 (w.heap[g]? = some o)) (hg : g' = W.heap.size) (k : w.heap.size ≤ W.heap.size := by repeat (with_reducible first | exact Nat.le_refl _ | refine sz_alloc ?_ _ | refine sz_drewN ?_ _ | refine sz_drew ?_ | refine sz_set ?_ _ _)) : Aside0 (g' ≠ g) := ⟨by rw [hg]; exact Nat.ne_of_gt (Nat.lt_of_lt_of_le (blk_lt h.out) k)⟩
theorem tge (h : Aside0 (Below w.heap.size w w0)) (hg : g = W.heap.size) (k : Below w.heap.size w w0 → Below w.heap.size w W := by intro h_; repeat (first | (with_reducible first | exact h_ | apply below_alloc | apply pw_below_drewN | apply below_drew1 | refine below_set ?_ (IsS81.ge HI0.out) | refine below_set ?_ (Aside0.out (by with_reducible assumption))) | exact h_)) : Aside0 (w.heap.size ≤ g) := ⟨by rw [hg]; exact (k h.out).size⟩
theorem tBs (h : Aside0 (Below w.heap.size w w0)) (hb : Below W.heap.size W w1) (k : Below w.heap.size w w0 → Below w.heap.size w W := by intro h_; repeat (first | (with_reducible first | exact h_ | apply below_alloc | apply pw_below_drewN | apply below_drew1 | refine below_set ?_ (IsS81.ge HI0.out) | refine below_set ?_ (Aside0.out (by with_reducible assumption))) | exact h_)) : Aside0 (Below w.heap.size w w1) := ⟨below_step (k h.out) hb⟩
theorem tfB (h : Aside0 (w.heap[g]? = some o)) (k : Nat) (hk : W.heap.size ≤ k) (hs : w.heap.size ≤ W.heap.size := by repeat (with_reducible first | exact Nat.le_refl _ | refine sz_alloc ?_ _ | refine sz_drewN ?_ _ | refine sz_drew ?_ | refine sz_set ?_ _ _)) : k ≠ g := Kd.freshB h.out k (Nat.le_trans hs hk)
theorem tC {A : Option Addr} {n : Nat} (h : d.C w A n xs) (k : d.C w A n xs → d.C W A n xs := by intro h_; repeat (first | (with_reducible exact h_) | (with_reducible refine Kd.C_alloc ?_ _) | (with_reducible refine Kd.C_drewN ?_ _) | (with_reducible refine Kd.C_drew ?_) | exact h_)) : d.C W A n xs := k h
theorem tcl {a : Addr} (hb : Aside0 (Below w.heap.size w W)) (h : w.cell? a = some v) : W.cell? a = some v := (hb.out.cell (World.block_lt_of_cell? w _ h)).trans h
theorem tR (h : Kd.R d e w base ok v xs) (k : Kd.R d e w base ok v xs → Kd.R d e W base ok v xs := by intro h_; (with_reducible repeat (first | apply Kd.R_alloc | apply Kd.R_drewN | apply Kd.R_drew | refine Kd.R_far ?_ (fun _ hk_ => Pr.out hk_) _)); exact h_) : Kd.R d e W base ok v xs := k h
theorem tRm (h : Kd.R d e w base ok v xs) (k : Kd.R d e w base ok v xs → Kd.R d e W base ok v xs := by intro h_; (with_reducible repeat (first | apply Kd.R_alloc | apply Kd.R_drewN | apply Kd.R_drew | refine Kd.R_far ?_ (fun _ hk_ => Pr.out hk_) _)); exact h_) (p : ∀ k, ok k → ok' k := by exact fun _ h_ => Pr.out h_) : Kd.R d e W base ok' v xs := Kd.R_mono (k h) p
theorem tRb (h : Aside0 (Kd.R d e w base ok v xs)) (hb : Below W.heap.size W w1) (k : Kd.R d e w base ok v xs → Kd.R d e W base ok v xs := by intro h_; (with_reducible repeat (first | apply Kd.R_alloc | apply Kd.R_drewN | apply Kd.R_drew | refine Kd.R_far ?_ (fun _ hk_ => Pr.out hk_) _)); exact h_) : Aside0 (Kd.R d e w1 base ok v xs) := ⟨Kd.R_below (k h.out) hb⟩
theorem tRl (ho : Kd.R d e w1 W.heap.size ok v xs) (h : Aside0 (Below w.heap.size w w0)) (k : Below w.heap.size w w0 → Below w.heap.size w W := by intro h_; repeat (first | (with_reducible first | exact h_ | apply below_alloc | apply pw_below_drewN | apply below_drew1 | refine below_set ?_ (IsS81.ge HI0.out) | refine below_set ?_ (Aside0.out (by with_reducible assumption))) | exact h_)) : Aside0 (Kd.R d e w1 w.heap.size ok v xs) := ⟨Kd.R_lower ho (k h.out).size⟩
end Go.Proofs.Ytkihdohphddjaaa.G

