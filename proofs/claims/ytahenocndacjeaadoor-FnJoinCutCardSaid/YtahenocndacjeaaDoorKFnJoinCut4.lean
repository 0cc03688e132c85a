/- A text of seat YtahenocndacjeaaDoor: what the law FnJoinCut needs of this repo's texts (by pack.py). Not trusted: Lean checks it. -/
import Derived.Test.YtahenocndacjeaaDoorKFnJoinCut3
import Derived.Laws.BitsLemmas
import Derived.OrdersHeld
import Derived.Tactics
import Derived.Test.YtahenocndacjeaaDoorProg
namespace Go.Proofs.YtahenocndacjeaaDoor.G
open Go.RowKit Go.Proofs.YtahenocndacjeaaDoorW.PrintWords Go.Proofs.YtahenocndacjeaaDoorW.PrintLast Go.Proofs.YtahenocndacjeaaDoorW.PrintMore
set_option linter.unusedVariables false
variable {P : Program} {ops : Array Oper} {Q : Exit → Act → World → Prop} {md : Region.Mode} {S : World → Prop} {ds : List Nat} {oi : Oper} {v : Value} {fuel : Nat} {l : Array Bool} {a a' : Act} {w w1 : World} {K : Act → World → Prop}
theorem tpu (i : Nat) (N : Option Tmp) (l' : Array Bool) (h : wpAnyLast P md ops Q S ds fuel l' a' w) (hi : ops[i]? = some oi := by exact rfl) (hN : oi.dst = N := by exact rfl) (hc : anyB md ops l l' i = true := by exact any_of HT_.out (by kernel_rfl)) (hQ : ∀ c a w, Q (.panic c) (a.put oi.dst v) w → Q (.panic c) a w := by exact fun _ _ _ h => h) (hw : Region.wanted oi (yielded ops a.tmps) = true := by rfl) (hy : ∀ w, (execOp a.eval oi).run P w = .ok (.value v) w := by intro w'; go_simp; with_reducible rfl) (ha : a.put N v = a' := by simp only [Act.put, List.setIfInBounds_toArray, List.set_cons_zero, List.set_cons_succ, i64_w, i32_w]; rfl) : wpAnyLast P md ops Q S ds (fuel + 1) l a w := pure_ l' hi hN hc hQ (.inl ⟨hw, hy⟩) ha h
theorem tta (i : Nat) (N : Option Tmp) (l' : Array Bool) (hS : S w) (h : wpAnyLast P md ops Q S ds fuel l' a' w) (hi : ops[i]? = some oi := by exact rfl) (hN : oi.dst = N := by exact rfl) (hc : takeB md ops ds l l' i = true := by exact take_ofW HT_.out HW_.out (by kernel_rfl)) (hQ : ∀ c a w, Q (.panic c) (a.put oi.dst v) w → Q (.panic c) a w := by exact fun _ _ _ h => h) (hw : Region.wanted oi (yielded ops a.tmps) = true := by rfl) (hy : ∀ w, S w → (execOp a.eval oi).run P w = .ok (.value v) w) (ha : a.put N v = a' := by simp only [Act.put, List.setIfInBounds_toArray, List.set_cons_zero, List.set_cons_succ, i64_w, i32_w]; rfl) : wpAnyLast P md ops Q S ds (fuel + 1) l a w := take_ l' hi hN hc hQ (.inl ⟨hw, hy⟩) hS ha h
theorem tnm {N' : Option Tmp} {b : Act} (N : Option Tmp) (h : wpAnyLast P md ops Q S ds fuel l a' w) (hN : N' = N := by exact rfl) (ha : b.put N v = a' := by simp only [Act.put, List.setIfInBounds_toArray, List.set_cons_zero, List.set_cons_succ, i64_w, i32_w]; rfl) : wpAnyLast P md ops Q S ds fuel l (b.put N' v) w := norm_ (by rw [hN]; exact ha) h
theorem tnp (h : wpAnyLast P md ops Q S ds fuel l a' w) (ha : a = a' := by simp only [putAll, Act.put, List.setIfInBounds_toArray, List.set_cons_zero, List.set_cons_succ]; rfl) : wpAnyLast P md ops Q S ds fuel l a w := norm_ ha h
theorem tnx (h : wpAnyLast P md ops Q S ds fuel l a' w) (ha : a = a' := by first | (simp only [putAll, Act.put, List.setIfInBounds_toArray, List.set_cons_zero, List.set_cons_succ]; done) | (simp only [putAll, Act.put, List.setIfInBounds_toArray, List.set_cons_zero, List.set_cons_succ]; rfl)) : wpAnyLast P md ops Q S ds fuel l a w := norm_ ha h
theorem tsk (h : K a w1) (hw : Region.wanted oi (yielded ops a.tmps) = true := by rfl) (hN : oi.dst = none := by exact rfl) (hrun : (execOp a.eval oi).run P w = .ok .skip w1 := by go_simp; rfl) : if Region.wanted oi (yielded ops a.tmps) = true then Oper.wp P oi a w K Q else K (a.put none undef) w := skip_ hw hN hrun h
end Go.Proofs.YtahenocndacjeaaDoor.G

namespace Go.Proofs.YtahenocndacjeaaDoor.G
open Go.RowKit Go.Proofs.YtahenocndacjeaaDoorW.PrintWords
/-- Where the sentinels lie: by their numbers (1: the first variable). -/
class ErrA where
  errA : Int → Addr
def errW [ErrA] : Option Int → Value
  | none => .nilIface
  | some c => .iface 106 (.pointer (some (ErrA.errA c)))
theorem errW_none [ErrA] : errW none = .nilIface := rfl
theorem errW_some [ErrA] (c : Int) : errW (some c) = .iface 106 (.pointer (some (ErrA.errA c))) := rfl
/-- These package variables hold them. -/
def ErrOk [ErrA] (gs : List Nat) (w : World) : Prop := ∀ g : Nat, g ∈ gs → w.cell? ⟨g, 0, none⟩ = some (.iface 106 (.pointer (some (ErrA.errA ((g : Int) + 1)))))
theorem ErrOk.below [ErrA] {gs : List Nat} {w w' : World} (h : ErrOk gs w) (hb : Below w.heap.size w w') : ErrOk gs w' := fun g hg => pw_cell_below hb (h g hg)
theorem ErrOk.sub [ErrA] {gs gs' : List Nat} {w : World} (h : ErrOk gs w) (hs : ∀ g ∈ gs', g ∈ gs) : ErrOk gs' w := fun g hg => h g (hs g hg)
theorem ErrOk.g0 [ErrA] {gs : List Nat} {w : World} (h : ErrOk gs w) (hm : 0 ∈ gs) : w.cell? ⟨0, 0, none⟩ = some (.iface 106 (.pointer (some (ErrA.errA 1)))) := h 0 hm
theorem ErrOk.g1 [ErrA] {gs : List Nat} {w : World} (h : ErrOk gs w) (hm : 1 ∈ gs) : w.cell? ⟨1, 0, none⟩ = some (.iface 106 (.pointer (some (ErrA.errA 2)))) := h 1 hm
theorem glob_ {P : Program} {ops : Array Oper} {rest : List Oper} {o : Oper} {a : Act} {W : World} {Q : Exit → Act → World → Prop} (hgd : o.guard = none) {v : Value} {g : Nat} (hr : ∀ W' : World, W'.cell? ⟨g, 0, none⟩ = some v → (execOp a.eval o).run P W' = .ok (.value v) W')
    (hc : W.cell? ⟨g, 0, none⟩ = some v) (h : wpList P ops Q rest (a.put o.dst v) W) : wpList P ops Q (o :: rest) a W := Kd.event_run hgd (hr W hc) h
theorem ErrOk.set [ErrA] {gs : List Nat} {w0 W : World} (h0 : ErrOk gs w0) (h : ErrOk gs W) {b : Nat} (hb : w0.heap.size ≤ b) (j : Nat) (v : Value) : ErrOk gs (W.setCell ⟨b, j, none⟩ v) := fun g hg => by
  have h1 : g < w0.heap.size := World.block_lt_of_cell? w0 _ (h0 g hg)
  have h2 : (W.setCell ⟨b, j, none⟩ v).heap[g]? = W.heap[g]? := Below.heap_setCell W ⟨b, j, none⟩ v g (by show g ≠ b; omega)
  have h3 := h g hg
  simp only [World.cell?] at h3 ⊢
  rw [h2]
  exact h3
end Go.Proofs.YtahenocndacjeaaDoor.G

