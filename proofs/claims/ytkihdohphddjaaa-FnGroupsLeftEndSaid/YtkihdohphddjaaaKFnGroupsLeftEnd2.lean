/- A text of seat Ytkihdohphddjaaa: what the law FnGroupsLeftEnd needs of this repo's texts (by pack.py). Not trusted: Lean checks it. -/
import Derived.Test.YtkihdohphddjaaaKFnGroupsLeftEnd1
import Derived.Test.YtkihdohphddjaaaProg
import Derived.Below
import Derived.WalkKit
import Derived.KernelRfl
import Derived.OwnWalk
import Derived.Deep.OwnRows
import Derived.Laws.OwnMore
namespace Go.Proofs.Ytkihdohphddjaaa.G
open Go.RowKit Go.Proofs.YtkihdohphddjaaaW.PrintWords Go.Proofs.YtkihdohphddjaaaW.PrintLast Go.Proofs.YtkihdohphddjaaaW.PrintMore
set_option linter.unusedVariables false
/-- One proposition out of what is known together. -/
class Pr (P Q : Prop) : Prop where out : P → Q
instance Pr.l {P Q R : Prop} [h : Pr P Q] : Pr (P ∧ R) Q := ⟨fun k => h.out k.1⟩
instance Pr.r {P Q R : Prop} [h : Pr R Q] : Pr (P ∧ R) Q := ⟨fun k => h.out k.2⟩
instance Pr.i {P Q R : Prop} [h : Pr P Q] [h' : Pr P R] : Pr P (Q ∧ R) := ⟨fun k => ⟨h.out k, h'.out k⟩⟩
instance Pr.no {P Q R : Prop} [h : Pr P (¬ Q)] [h' : Pr P (¬ R)] : Pr P (¬ (Q ∨ R)) := ⟨fun k q => q.elim (h.out k) (h'.out k)⟩
instance Pr.tt {P : Prop} : Pr P True := ⟨fun _ => trivial⟩
instance Pr.id {P : Prop} : Pr P P := ⟨fun k => k⟩
variable {α β : Type} {d : Kd α} {e e' : Nat} {w w0 W w1 : World} {base base' g g' : Nat} {ok ok' : Nat → Prop} {u v : Value} {xs : List α} {o o' : Obj}
theorem tbe {x : Option α} {f : α → Option β} {r : β} (h : x.bind f = some r) : ∃ a, Aside0 (x = some a) ∧ f a = some r := by
  obtain ⟨a, h1, h2⟩ := Option.bind_eq_some_iff.mp h
  exact ⟨a, ⟨h1⟩, h2⟩
theorem td {p : Prop} [i : Decidable p] (h : decide p = true := by first | (with_reducible assumption) | assumption) : p := of_decide_eq_true h
theorem tr {p : Prop} (h : p := by first | rfl | (simp; done) | (simp [*]; done)) : p := h
theorem tq {p : Prop} (h : p := by (try simp only [List.map_toArray, List.map_cons, List.map_nil]); first | done | rfl | (simp only [List.length_drop, List.length_take]; rfl)) : p := h
theorem cells2 {a b : Value} {t : TypeId} (h : w.heap[g]? = some (.cells #[a, b] t (0, 0))) : w.cell? ⟨g, 0, none⟩ = some a ∧ w.cell? ⟨g, 1, none⟩ = some b ∧ w.frozen? ⟨g, 0, none⟩ = false ∧ w.frozen? ⟨g, 1, none⟩ = false :=
  ⟨(blk_cell h 0).trans rfl, (blk_cell h 1).trans rfl, blk_frozen h 0, blk_frozen h 1⟩
theorem cells6 {a0 a1 a2 a3 a4 a5 : Value} {t : TypeId} (h : w.heap[g]? = some (.cells #[a0, a1, a2, a3, a4, a5] t (0, 0))) : w.cell? ⟨g, 0, none⟩ = some a0 ∧ w.cell? ⟨g, 1, none⟩ = some a1 ∧ w.cell? ⟨g, 2, none⟩ = some a2 ∧ w.cell? ⟨g, 3, none⟩ = some a3 ∧ w.cell? ⟨g, 4, none⟩ = some a4 ∧ w.cell? ⟨g, 5, none⟩ = some a5 ∧ w.frozen? ⟨g, 0, none⟩ = false ∧ w.frozen? ⟨g, 1, none⟩ = false ∧ w.frozen? ⟨g, 2, none⟩ = false ∧ w.frozen? ⟨g, 3, none⟩ = false ∧ w.frozen? ⟨g, 4, none⟩ = false ∧ w.frozen? ⟨g, 5, none⟩ = false :=
  ⟨(blk_cell h 0).trans rfl, (blk_cell h 1).trans rfl, (blk_cell h 2).trans rfl, (blk_cell h 3).trans rfl, (blk_cell h 4).trans rfl, (blk_cell h 5).trans rfl, blk_frozen h 0, blk_frozen h 1, blk_frozen h 2, blk_frozen h 3, blk_frozen h 4, blk_frozen h 5⟩
theorem sz_alloc {n : Nat} (h : n ≤ w.heap.size) (o : Obj) : n ≤ (w.alloc o).heap.size := Nat.le_trans h (below_alloc (Below.refl _ _) o).size
theorem sz_drew {n : Nat} (h : n ≤ w.heap.size) : n ≤ w.drew.heap.size := h
theorem sz_drewN {n : Nat} (h : n ≤ w.heap.size) (m : Nat) : n ≤ (w.drewN m).heap.size := h
theorem sz_set {n : Nat} (h : n ≤ w.heap.size) (p : Addr) (x : Value) : n ≤ (w.setCell p x).heap.size := by simpa using h
/-- The searches by themselves. -/
theorem zb {p : Prop} (h : p := by repeat (first | (with_reducible first | exact HB.out | apply below_alloc | apply pw_below_drewN | apply below_drew1 | refine below_set ?_ (IsS81.ge HI0.out) | refine below_set ?_ (Aside0.out (by with_reducible assumption))) | exact HB.out)) : p := h
theorem zk {p : Prop} (h : p := by repeat (first | (with_reducible first | exact HK.out | apply KeepBut.set_ | apply keep_drewN | apply keep_drew | apply keep_alloc | refine keep_far ?_ (Aside0.out (by with_reducible assumption)) _) | exact HK.out)) : p := h
theorem tH (h : w.heap[g]? = some o) (k : w.heap[g]? = some o → W.heap[g]? = some o := by intro h_; (repeat (with_reducible first | exact h_ | apply blk_drewN | apply blk_drew | apply blk_alloc | apply blk_put | (apply blk_far; (case hp => exact Aside0.out (by with_reducible assumption))))); (try exact h_); all_goals first | (simp only [List.setIfInBounds_toArray, List.set_cons_zero, List.set_cons_succ]; done) | (simp only [List.setIfInBounds_toArray, List.set_cons_zero, List.set_cons_succ]; exact rfl) | exact rfl) : W.heap[g]? = some o := k h
theorem tP (h : w.heap[g]? = some o) (k : w.heap[g]? = some o → W.heap[g]? = some o' := by intro h_; (repeat (with_reducible first | exact h_ | apply blk_drewN | apply blk_drew | apply blk_alloc | apply blk_put | (apply blk_far; (case hp => exact Aside0.out (by with_reducible assumption))))); (try exact h_); all_goals first | (simp only [List.setIfInBounds_toArray, List.set_cons_zero, List.set_cons_succ]; done) | (simp only [List.setIfInBounds_toArray, List.set_cons_zero, List.set_cons_succ]; exact rfl) | exact rfl) : W.heap[g]? = some o' := k h
theorem tBb (h : Aside0 (w.heap[g]? = some o)) (hb : Below W.heap.size W w1) (k : w.heap[g]? = some o → W.heap[g]? = some o := by intro h_; (repeat (with_reducible first | exact h_ | apply blk_drewN | apply blk_drew | apply blk_alloc | apply blk_put | (apply blk_far; (case hp => exact Aside0.out (by with_reducible assumption))))); (try exact h_); all_goals first | (simp only [List.setIfInBounds_toArray, List.set_cons_zero, List.set_cons_succ]; done) | (simp only [List.setIfInBounds_toArray, List.set_cons_zero, List.set_cons_succ]; exact rfl) | exact rfl) : Aside0 (w1.heap[g]? = some o) := ⟨blk_below (k h.out) hb⟩
theorem tBk (h : Aside0 (w.heap[g]? = some o)) (hk : KeepBut W w1 g' none) (hn : Aside0 (g ≠ g')) (k : w.heap[g]? = some o → W.heap[g]? = some o := by intro h_; (repeat (with_reducible first | exact h_ | apply blk_drewN | apply blk_drew | apply blk_alloc | apply blk_put | (apply blk_far; (case hp => exact Aside0.out (by with_reducible assumption))))); (try exact h_); all_goals first | (simp only [List.setIfInBounds_toArray, List.set_cons_zero, List.set_cons_succ]; done) | (simp only [List.setIfInBounds_toArray, List.set_cons_zero, List.set_cons_succ]; exact rfl) | exact rfl) : Aside0 (w1.heap[g]? = some o) := ⟨KeepBut.blk hk (k h.out) hn.out (by simp)⟩
theorem tBq (h : Aside0 (w.heap[g]? = some o)) (hk : KeepBut W w1 g' none) (hn : Aside0 (g ≠ g')) (k : w.heap[g]? = some o → W.heap[g]? = some o' := by intro h_; (repeat (with_reducible first | exact h_ | apply blk_drewN | apply blk_drew | apply blk_alloc | apply blk_put | (apply blk_far; (case hp => exact Aside0.out (by with_reducible assumption))))); (try exact h_); all_goals first | (simp only [List.setIfInBounds_toArray, List.set_cons_zero, List.set_cons_succ]; done) | (simp only [List.setIfInBounds_toArray, List.set_cons_zero, List.set_cons_succ]; exact rfl) | exact rfl) : Aside0 (w1.heap[g]? = some o') := ⟨KeepBut.blk hk (k h.out) hn.out (by simp)⟩
theorem tlt (h : Aside0 (w.heap[g]? = some o)) (hg : g' = W.heap.size) (k : w.heap.size ≤ W.heap.size := by repeat (with_reducible first | exact Nat.le_refl _ | refine sz_alloc ?_ _ | refine sz_drewN ?_ _ | refine sz_drew ?_ | refine sz_set ?_ _ _)) : Aside0 (g ≠ g') := ⟨by rw [hg]; exact Nat.ne_of_lt (Nat.lt_of_lt_of_le (blk_lt h.out) k)⟩
theorem tgt (h : Aside0 (w.heap[g]? = some o)) (hg : g' = W.heap.size) (k : w.heap.size ≤ W.heap.size := by repeat (with_reducible first | exact Nat.le_refl _ | refine sz_alloc ?_ _ | refine sz_drewN ?_ _ | refine sz_drew ?_ | refine sz_set ?_ _ _)) : Aside0 (g' ≠ g) := ⟨by rw [hg]; exact Nat.ne_of_gt (Nat.lt_of_lt_of_le (blk_lt h.out) k)⟩
theorem tge (h : Aside0 (Below w.heap.size w w0)) (hg : g = W.heap.size) (k : Below w.heap.size w w0 → Below w.heap.size w W := by intro h_; repeat (first | (with_reducible first | exact h_ | apply below_alloc | apply pw_below_drewN | apply below_drew1 | refine below_set ?_ (IsS81.ge HI0.out) | refine below_set ?_ (Aside0.out (by with_reducible assumption))) | exact h_)) : Aside0 (w.heap.size ≤ g) := ⟨by rw [hg]; exact (k h.out).size⟩
theorem tBs (h : Aside0 (Below w.heap.size w w0)) (hb : Below W.heap.size W w1) (k : Below w.heap.size w w0 → Below w.heap.size w W := by intro h_; repeat (first | (with_reducible first | exact h_ | apply below_alloc | apply pw_below_drewN | apply below_drew1 | refine below_set ?_ (IsS81.ge HI0.out) | refine below_set ?_ (Aside0.out (by with_reducible assumption))) | exact h_)) : Aside0 (Below w.heap.size w w1) := ⟨below_step (k h.out) hb⟩
theorem tKt (h : Aside0 (KeepBut w w0 g none)) (hk : KeepBut W w1 g none) (k : KeepBut w w0 g none → KeepBut w W g none := by intro h_; repeat (first | (with_reducible first | exact h_ | apply KeepBut.set_ | apply keep_drewN | apply keep_drew | apply keep_alloc | refine keep_far ?_ (Aside0.out (by with_reducible assumption)) _) | exact h_)) : Aside0 (KeepBut w w1 g none) := ⟨KeepBut.trans (k h.out) hk (.inl rfl)⟩
theorem tKb (h : Aside0 (KeepBut w w0 g none)) (hb : Below W.heap.size W w1) (k : KeepBut w w0 g none → KeepBut w W g none := by intro h_; repeat (first | (with_reducible first | exact h_ | apply KeepBut.set_ | apply keep_drewN | apply keep_drew | apply keep_alloc | refine keep_far ?_ (Aside0.out (by with_reducible assumption)) _) | exact h_)) : Aside0 (KeepBut w w1 g none) := ⟨KeepBut.trans (k h.out) (KeepBut.of_below hb g none) (.inl rfl)⟩
theorem tb {p q : Prop} (h : p) (k : p → q := by intro h_; first | exact Kd.N_base h_ | exact Kd.N_base (Kd.S_N h_) | exact Kd.N_base (Kd.R_N h_)) : q := k h
theorem tfB (h : Aside0 (w.heap[g]? = some o)) (k : Nat) (hk : W.heap.size ≤ k) (hs : w.heap.size ≤ W.heap.size := by repeat (with_reducible first | exact Nat.le_refl _ | refine sz_alloc ?_ _ | refine sz_drewN ?_ _ | refine sz_drew ?_ | refine sz_set ?_ _ _)) : k ≠ g := Kd.freshB h.out k (Nat.le_trans hs hk)
theorem tfr {d : Kd α} (h : Aside0 (Kd.N d e w base ok v xs)) (k : Nat) (hk : W.heap.size ≤ k) (hs : w.heap.size ≤ W.heap.size := by repeat (with_reducible first | exact Nat.le_refl _ | refine sz_alloc ?_ _ | refine sz_drewN ?_ _ | refine sz_drew ?_ | refine sz_set ?_ _ _)) : some k ≠ v.ownBlock := Kd.fresh' (Kd.N_lt h.out) k (Nat.le_trans hs hk)
theorem tC {A : Option Addr} {n : Nat} (h : d.C w A n xs) (k : d.C w A n xs → d.C W A n xs := by intro h_; repeat (first | (with_reducible exact h_) | (with_reducible refine Kd.C_alloc ?_ _) | (with_reducible refine Kd.C_drewN ?_ _) | (with_reducible refine Kd.C_drew ?_) | exact h_)) : d.C W A n xs := k h
theorem tow {p q : Prop} (h : p) (k : p → q := by intro h_; first | exact h_ | (rw [add_block]; exact h_) | (show (Addr.add _ _).block ≠ _; rw [add_block]; exact h_) | (dsimp only; exact h_)) : q := k h
theorem tcl {a : Addr} (hb : Aside0 (Below w.heap.size w W)) (h : w.cell? a = some v) : W.cell? a = some v := (hb.out.cell (World.block_lt_of_cell? w _ h)).trans h
theorem tsv {p : Prop} (P : Program) (v : Value) (h : p) (k : p → ∃ (A : Option Addr) (n c : Nat), v = .slice A n c := by intro h_; first | (obtain ⟨_, _, e_⟩ := Kd.R_slice h_; exact ⟨_, _, _, e_⟩) | (obtain ⟨_, _, e_⟩ := Kd.S_slice h_; exact ⟨_, _, _, e_⟩) | (obtain ⟨_, _, e_, _⟩ := Kd.Q_slice h_; exact ⟨_, _, _, e_⟩) | (obtain ⟨_, _, e_⟩ := Kd.N_slice h_; exact ⟨_, _, _, e_⟩) | (obtain ⟨_, _, e_⟩ := Kd.V_slice h_; exact ⟨_, _, _, e_⟩)) : ∀ (a_ : Addr) (m_ : Mode) (W_ : World), (store a_ v m_).run P W_ = stored P W_ a_ v m_ := fun a_ m_ W_ => run_store _ W_ a_ _ m_ (by obtain ⟨_, _, _, e_⟩ := k h; rw [e_]; rfl)
theorem tR (h : Kd.R d e w base ok v xs) (k : Kd.R d e w base ok v xs → Kd.R d e W base ok v xs := by intro h_; (with_reducible repeat (first | apply Kd.R_alloc | apply Kd.R_drewN | apply Kd.R_drew | refine Kd.R_far ?_ (fun _ hk_ => Pr.out hk_) _)); exact h_) : Kd.R d e W base ok v xs := k h
theorem tRm (h : Kd.R d e w base ok v xs) (k : Kd.R d e w base ok v xs → Kd.R d e W base ok v xs := by intro h_; (with_reducible repeat (first | apply Kd.R_alloc | apply Kd.R_drewN | apply Kd.R_drew | refine Kd.R_far ?_ (fun _ hk_ => Pr.out hk_) _)); exact h_) (p : ∀ k, ok k → ok' k := by exact fun _ h_ => Pr.out h_) : Kd.R d e W base ok' v xs := Kd.R_mono (k h) p
theorem tRb (h : Aside0 (Kd.R d e w base ok v xs)) (hb : Below W.heap.size W w1) (k : Kd.R d e w base ok v xs → Kd.R d e W base ok v xs := by intro h_; (with_reducible repeat (first | apply Kd.R_alloc | apply Kd.R_drewN | apply Kd.R_drew | refine Kd.R_far ?_ (fun _ hk_ => Pr.out hk_) _)); exact h_) : Aside0 (Kd.R d e w1 base ok v xs) := ⟨Kd.R_below (k h.out) hb⟩
theorem tRt {t : Nat} {cs : Array Value} (h : Kd.R d e w base ok v xs) (hb : w.heap[g]? = some (.cells cs t (0, 0))) (ht : ∀ q, q ∈ e :: d.E → q ≠ t := by decide) (k : Kd.R d e w base (fun k => ok k ∧ k ≠ g) v xs → Kd.R d e W base (fun k => ok k ∧ k ≠ g) v xs := by intro h_; (with_reducible repeat (first | apply Kd.R_alloc | apply Kd.R_drewN | apply Kd.R_drew | refine Kd.R_far ?_ (fun _ hk_ => Pr.out hk_) _)); exact h_) : Kd.R d e W base ok v xs := Kd.R_mono (k (Kd.R_types h hb ht)) (fun _ h => h.1)
theorem tS (h : Kd.S d e w base ok v xs) (k : Kd.S d e w base ok v xs → Kd.S d e W base ok v xs := by intro h_; (with_reducible repeat (first | apply Kd.S_alloc | apply Kd.S_drewN | apply Kd.S_drew | refine Kd.S_far ?_ (fun _ hk_ => Pr.out hk_) _)); exact h_) : Kd.S d e W base ok v xs := k h
theorem tSm (h : Kd.S d e w base ok v xs) (k : Kd.S d e w base ok v xs → Kd.S d e W base ok v xs := by intro h_; (with_reducible repeat (first | apply Kd.S_alloc | apply Kd.S_drewN | apply Kd.S_drew | refine Kd.S_far ?_ (fun _ hk_ => Pr.out hk_) _)); exact h_) (p : ∀ k, ok k → ok' k := by exact fun _ h_ => Pr.out h_) : Kd.S d e W base ok' v xs := Kd.S_mono (k h) p
theorem tSB (h : Aside0 (Kd.S d e w base ok v xs)) (hg : g = W.heap.size) (hb : Below W.heap.size W w1) (k : Kd.S d e w base ok v xs → Kd.S d e W base ok v xs := by intro h_; (with_reducible repeat (first | apply Kd.S_alloc | apply Kd.S_drewN | apply Kd.S_drew | refine Kd.S_far ?_ (fun _ hk_ => Pr.out hk_) _)); exact h_) : Aside0 (Kd.S d e w1 base (fun k => ok k ∧ k ≠ g) v xs) := ⟨Kd.S_below (Kd.S_elderB (k h.out) g (Nat.le_of_eq hg.symm)) hb⟩
theorem tN (h : Kd.N d e w base ok v xs) (k : Kd.N d e w base ok v xs → Kd.N d e W base ok v xs := by intro h_; (with_reducible repeat (first | apply Kd.N_alloc | apply Kd.N_drewN | apply Kd.N_drew | refine Kd.N_far ?_ (fun _ hk_ => Pr.out hk_) _)); exact h_) : Kd.N d e W base ok v xs := k h
theorem tNm (h : Kd.N d e w base ok v xs) (k : Kd.N d e w base ok v xs → Kd.N d e W base ok v xs := by intro h_; (with_reducible repeat (first | apply Kd.N_alloc | apply Kd.N_drewN | apply Kd.N_drew | refine Kd.N_far ?_ (fun _ hk_ => Pr.out hk_) _)); exact h_) (p : ∀ k, ok k → ok' k := by exact fun _ h_ => Pr.out h_) : Kd.N d e W base ok' v xs := Kd.N_mono (k h) p
theorem tNb (h : Aside0 (Kd.N d e w base ok v xs)) (hb : Below W.heap.size W w1) (k : Kd.N d e w base ok v xs → Kd.N d e W base ok v xs := by intro h_; (with_reducible repeat (first | apply Kd.N_alloc | apply Kd.N_drewN | apply Kd.N_drew | refine Kd.N_far ?_ (fun _ hk_ => Pr.out hk_) _)); exact h_) : Aside0 (Kd.N d e w1 base ok v xs) := ⟨Kd.N_below (k h.out) hb⟩
theorem tNk (h : Aside0 (Kd.N d e w base ok v xs)) (hk : KeepBut W w1 g none) (k : Kd.N d e w base ok v xs → Kd.N d e W base ok v xs := by intro h_; (with_reducible repeat (first | apply Kd.N_alloc | apply Kd.N_drewN | apply Kd.N_drew | refine Kd.N_far ?_ (fun _ hk_ => Pr.out hk_) _)); exact h_) (p : ∀ k, ok k → k ≠ g := by exact fun _ h_ => Pr.out h_) : Aside0 (Kd.N d e w1 base ok v xs) := ⟨Kd.N_keep (k h.out) hk p⟩
theorem tNB (h : Aside0 (Kd.N d e w base ok v xs)) (hg : g = W.heap.size) (hb : Below W.heap.size W w1) (k : Kd.N d e w base ok v xs → Kd.N d e W base ok v xs := by intro h_; (with_reducible repeat (first | apply Kd.N_alloc | apply Kd.N_drewN | apply Kd.N_drew | refine Kd.N_far ?_ (fun _ hk_ => Pr.out hk_) _)); exact h_) : Aside0 (Kd.N d e w1 base (fun k => ok k ∧ k ≠ g) v xs) := ⟨Kd.N_below (Kd.N_elderB (k h.out) g (Nat.le_of_eq hg.symm)) hb⟩
theorem tNe {p : Prop} (h : Aside0 (Kd.N d e w base ok v xs)) (ho : p) (hb : Below W.heap.size W w1) (k : Kd.N d e w base ok v xs → Kd.N d e W base ok v xs := by intro h_; (with_reducible repeat (first | apply Kd.N_alloc | apply Kd.N_drewN | apply Kd.N_drew | refine Kd.N_far ?_ (fun _ hk_ => Pr.out hk_) _)); exact h_) (kb : p → ∀ k, u.ownBlock = some k → W.heap.size ≤ k := by intro h_; first | exact Kd.N_base h_ | exact Kd.N_base (Kd.S_N h_) | exact Kd.N_base (Kd.R_N h_)) : Aside0 (Kd.N d e w1 base (fun k => ok k ∧ some k ≠ u.ownBlock) v xs) := ⟨Kd.N_elder' (k h.out) (kb ho) hb⟩
theorem tNl (ho : Kd.N d e w1 W.heap.size ok v xs) (h : Aside0 (Below w.heap.size w w0)) (k : Below w.heap.size w w0 → Below w.heap.size w W := by intro h_; repeat (first | (with_reducible first | exact h_ | apply below_alloc | apply pw_below_drewN | apply below_drew1 | refine below_set ?_ (IsS81.ge HI0.out) | refine below_set ?_ (Aside0.out (by with_reducible assumption))) | exact h_)) : Aside0 (Kd.N d e w1 w.heap.size ok v xs) := ⟨Kd.N_lower ho (k h.out).size⟩
theorem tV (h : Kd.V d e w base ok v xs) (k : Kd.V d e w base ok v xs → Kd.V d e W base ok v xs := by intro h_; (with_reducible repeat (first | apply Kd.V_alloc | apply Kd.V_drewN | apply Kd.V_drew | refine Kd.V_far ?_ (fun _ hk_ => Pr.out hk_) _)); exact h_) : Kd.V d e W base ok v xs := k h
theorem tVb (h : Aside0 (Kd.V d e w base ok v xs)) (hb : Below W.heap.size W w1) (k : Kd.V d e w base ok v xs → Kd.V d e W base ok v xs := by intro h_; (with_reducible repeat (first | apply Kd.V_alloc | apply Kd.V_drewN | apply Kd.V_drew | refine Kd.V_far ?_ (fun _ hk_ => Pr.out hk_) _)); exact h_) : Aside0 (Kd.V d e w1 base ok v xs) := ⟨Kd.V_below (k h.out) hb⟩
theorem tVe {p : Prop} (h : Aside0 (Kd.V d e w base ok v xs)) (ho : p) (hb : Below W.heap.size W w1) (k : Kd.V d e w base ok v xs → Kd.V d e W base ok v xs := by intro h_; (with_reducible repeat (first | apply Kd.V_alloc | apply Kd.V_drewN | apply Kd.V_drew | refine Kd.V_far ?_ (fun _ hk_ => Pr.out hk_) _)); exact h_) (kb : p → ∀ k, u.ownBlock = some k → W.heap.size ≤ k := by intro h_; first | exact Kd.N_base h_ | exact Kd.N_base (Kd.S_N h_) | exact Kd.N_base (Kd.R_N h_)) : Aside0 (Kd.V d e w1 base (fun k => ok k ∧ some k ≠ u.ownBlock) v xs) := ⟨Kd.V_elder' (k h.out) (kb ho) hb⟩
end Go.Proofs.Ytkihdohphddjaaa.G

namespace Go.Proofs.Ytkihdohphddjaaa.Pu
open Go.RowKit Go.Proofs.YtkihdohphddjaaaW.PrintWords Go.Proofs.YtkihdohphddjaaaW.PrintLast
set_option linter.unusedVariables false
set_option linter.unusedSimpArgs false
theorem w64 {a : Int} (h0 : -9223372036854775808 ≤ a) (h1 : a ≤ 9223372036854775807) : wrap64 a = a := by unfold wrap64; omega
/-- (Not by 'rfl': a large number in a test behind it would be counted up by the kernel.) -/
theorem bindS {α β : Type} (x : α) (f : α → Option β) : (some x).bind f = f x := Eq.trans (Option.bind_some x f) (Eq.refl _)
/-- It ends, in something of which P holds. -/
def EndsIn {α : Type} (g : Nat → Option α) (P : α → Prop) : Prop := ∃ r, Ev g r ∧ P r
theorem EndsIn.bind {α β : Type} {g : Nat → Option α} {f : Nat → α → Option β} {P : α → Prop} {Q : β → Prop} (h : EndsIn g P) (k : ∀ a, P a → EndsIn (fun n => f n a) Q) : EndsIn (fun n => (g n).bind (f n)) Q := by
  obtain ⟨a, ha, hp⟩ := h
  obtain ⟨b, hb, hq⟩ := k a hp
  exact ⟨b, Ev.bind ha hb, hq⟩
theorem EndsIn.step {α : Type} {g f : Nat → Option α} {P : α → Prop} (h : ∀ k, g (k + 1) = f k) (k : EndsIn f P) : EndsIn g P := by
  obtain ⟨a, ha, hp⟩ := k
  exact ⟨a, Ev.step h ha, hp⟩
theorem EndsIn.now {α : Type} {P : α → Prop} (r : α) (hp : P r) : EndsIn (fun _ => some r) P := ⟨r, Ev.now r, hp⟩
theorem EndsIn.mono {α : Type} {g : Nat → Option α} {P Q : α → Prop} (h : EndsIn g P) (k : ∀ a, P a → Q a) : EndsIn g Q := by
  obtain ⟨a, ha, hp⟩ := h
  exact ⟨a, ha, k a hp⟩
theorem EndsIn.ev {α : Type} {g : Nat → Option α} {r : α} (h : EndsIn g (fun x => x = r)) : Ev g r := by
  obtain ⟨a, ha, rfl⟩ := h
  exact ha
theorem EndsIn.rounds {α : Type} {g : Nat → Option α} {r : α} (h : EndsIn g (fun x => x = r)) : ∃ k, g k = some r := h.ev.rounds
/-! bytes -/
theorem bt_get (s : ByteArray) (i : Nat) (h : i < s.size) : bt s (i : Int) = ((s.data.toList[i]'(by simpa using h)).toNat : Int) := by
  unfold bt
  rw [dif_pos (by simpa using h)]
  simp only [Int.toNat_natCast]
  rfl
theorem data_len (s : ByteArray) : s.data.toList.length = s.size := by simp
theorem toList_data (s : ByteArray) : s.toList = s.data.toList := ByteArray.toList_eq s
theorem ba_ext {s t : ByteArray} (h : s.toList = t.toList) : s = t := by
  rw [toList_data, toList_data] at h
  cases s; cases t
  simp only at h
  congr
  exact Array.toList_inj.1 h
/-! the order of strings -/
theorem less_irrefl : ∀ (x : List UInt8), Op.bytesLess x x = false
  | [] => rfl
  | a :: x => by
    simp only [Op.bytesLess, beq_self_eq_true, Bool.true_and, less_irrefl x, Bool.or_false, decide_eq_false_iff_not]
    exact UInt8.lt_irrefl a
theorem less_trans : ∀ (x y z : List UInt8), Op.bytesLess x y = true → Op.bytesLess y z = true → Op.bytesLess x z = true
  | [], [], _, h, _ => by simp [Op.bytesLess] at h
  | [], _ :: _, [], _, h => by simp [Op.bytesLess] at h
  | [], _ :: _, _ :: _, _, _ => rfl
  | _ :: _, [], _, h, _ => by simp [Op.bytesLess] at h
  | _ :: _, _ :: _, [], _, h => by simp [Op.bytesLess] at h
  | a :: x, b :: y, c :: z, h, k => by
    simp only [Op.bytesLess, Bool.or_eq_true, decide_eq_true_eq, Bool.and_eq_true, beq_iff_eq] at h k ⊢
    rcases h with h | ⟨rfl, h⟩
    · rcases k with k | ⟨rfl, k⟩
      · exact .inl (UInt8.lt_trans h k)
      · exact .inl h
    · rcases k with k | ⟨rfl, k⟩
      · exact .inl k
      · exact .inr ⟨rfl, less_trans x y z h k⟩
theorem less_total : ∀ (x y : List UInt8), Op.bytesLess x y = true ∨ x = y ∨ Op.bytesLess y x = true
  | [], [] => .inr (.inl rfl)
  | [], _ :: _ => .inl rfl
  | _ :: _, [] => .inr (.inr rfl)
  | a :: x, b :: y => by
    simp only [Op.bytesLess, Bool.or_eq_true, decide_eq_true_eq, Bool.and_eq_true, beq_iff_eq]
    rcases Nat.lt_trichotomy a.toNat b.toNat with h | h | h
    · exact .inl (.inl (UInt8.lt_iff_toNat_lt.2 h))
    · obtain rfl : a = b := UInt8.toNat_inj.1 h
      rcases less_total x y with h | h | h
      · exact .inl (.inr ⟨rfl, h⟩)
      · exact .inr (.inl (by rw [h]))
      · exact .inr (.inr (.inr ⟨rfl, h⟩))
    · exact .inr (.inr (.inl (UInt8.lt_iff_toNat_lt.2 h)))
theorem u8_range {x : Int} (h : (Lit.int .u8 x).wf = true) : 0 ≤ x ∧ x ≤ 255 := by
  simp only [Lit.wf, Bool.and_eq_true, decide_eq_true_eq] at h
  exact ⟨h.1, h.2⟩
end Go.Proofs.Ytkihdohphddjaaa.Pu

namespace Go.Proofs.Ytkihdohphddjaaa.G
open Go.RowKit Go.Proofs.YtkihdohphddjaaaW.PrintWords Go.Proofs.YtkihdohphddjaaaW.PrintLast Go.Proofs.YtkihdohphddjaaaW.PrintMore
variable {P : Program} {ops : Array Oper} {Q : Exit → Act → World → Prop}
/-- The same in a region whose order is drawn. -/
theorem goesM_ {oi : Oper} {N : Option Tmp} {a : Act} {w : World} {K : Act → World → Prop} (x : Tmp) {f : FuncId} {bound : Array Value} (hx : a.eval (.tmp x) = .func (.func f) bound #[]) {fn : Func} {as1 : Array Operand} {ts : Array TypeId} (hf : P.funcs[f]? = some fn) (hname : (fn.name == "runtime.NumGoroutine") = false) (hb : fn.body.isSome = true) (args : Array Value)
    (hw : Region.wanted oi (yielded ops a.tmps) = true) (hN : oi.dst = N) (hop : oi.op = .call { callee := .value (.tmp x), args := as1, argTypes := ts }) (hargs : bound ++ as1.map a.eval = args)
    (h : Calls P f args w fun e w' => ∃ v, e = .returned v ∧ K (a.put N v) w') : if Region.wanted oi (yielded ops a.tmps) = true then Oper.wp P oi a w K Q else K (a.put N undef) w := by
  refine call_ f args hw hN ?_ h
  unfold execOp
  simp only [Act.eval] at hx
  simp [hop, resolve, Deferred.ofValue, invoke, Act.eval, hx]
  simpa [Act.eval] using (by rw [← hargs]; simpa [Act.eval] using enters_ hf hname hb (bound ++ as1.map a.eval) w)
end Go.Proofs.Ytkihdohphddjaaa.G

