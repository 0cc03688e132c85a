/- A text of seat YtfjkpdhldeopaaaDoor: what the law FnExactLogEven needs of this repo's texts (by pack.py). Not trusted: Lean checks it. -/
import Derived.Test.YtfjkpdhldeopaaaDoorKFnExactLogEven3
import Derived.Laws.BitsLemmas
import Derived.OrdersHeld
import Derived.Tactics
import Derived.Test.YtfjkpdhldeopaaaDoorProg
namespace Go.Proofs.YtfjkpdhldeopaaaDoor.G
open Go.RowKit Go.Proofs.YtfjkpdhldeopaaaDoorW.PrintWords Go.Proofs.YtfjkpdhldeopaaaDoorW.PrintLast Go.Proofs.YtfjkpdhldeopaaaDoorW.PrintMore
set_option linter.unusedVariables false
variable {P : Program} {ops : Array Oper} {Q : Exit → Act → World → Prop} {md : Region.Mode} {S : World → Prop} {ds : List Nat} {oi : Oper} {v : Value} {fuel : Nat} {l : Array Bool} {a a' : Act} {w w1 : World} {K : Act → World → Prop}
theorem tpu (i : Nat) (N : Option Tmp) (l' : Array Bool) (h : wpAnyLast P md ops Q S ds fuel l' a' w) (hi : ops[i]? = some oi := by exact rfl) (hN : oi.dst = N := by exact rfl) (hc : anyB md ops l l' i = true := by exact any_of HT_.out (by kernel_rfl)) (hQ : ∀ c a w, Q (.panic c) (a.put oi.dst v) w → Q (.panic c) a w := by exact fun _ _ _ h => h) (hw : Region.wanted oi (yielded ops a.tmps) = true := by rfl) (hy : ∀ w, (execOp a.eval oi).run P w = .ok (.value v) w := by intro w'; go_simp; with_reducible rfl) (ha : a.put N v = a' := by simp only [Act.put, List.setIfInBounds_toArray, List.set_cons_zero, List.set_cons_succ, i64_w, i32_w]; rfl) : wpAnyLast P md ops Q S ds (fuel + 1) l a w := pure_ l' hi hN hc hQ (.inl ⟨hw, hy⟩) ha h
theorem tta (i : Nat) (N : Option Tmp) (l' : Array Bool) (hS : S w) (h : wpAnyLast P md ops Q S ds fuel l' a' w) (hi : ops[i]? = some oi := by exact rfl) (hN : oi.dst = N := by exact rfl) (hc : takeB md ops ds l l' i = true := by exact take_ofW HT_.out HW_.out (by kernel_rfl)) (hQ : ∀ c a w, Q (.panic c) (a.put oi.dst v) w → Q (.panic c) a w := by exact fun _ _ _ h => h) (hw : Region.wanted oi (yielded ops a.tmps) = true := by rfl) (hy : ∀ w, S w → (execOp a.eval oi).run P w = .ok (.value v) w) (ha : a.put N v = a' := by simp only [Act.put, List.setIfInBounds_toArray, List.set_cons_zero, List.set_cons_succ, i64_w, i32_w]; rfl) : wpAnyLast P md ops Q S ds (fuel + 1) l a w := take_ l' hi hN hc hQ (.inl ⟨hw, hy⟩) hS ha h
theorem tnm {N' : Option Tmp} {b : Act} (N : Option Tmp) (h : wpAnyLast P md ops Q S ds fuel l a' w) (hN : N' = N := by exact rfl) (ha : b.put N v = a' := by simp only [Act.put, List.setIfInBounds_toArray, List.set_cons_zero, List.set_cons_succ, i64_w, i32_w]; rfl) : wpAnyLast P md ops Q S ds fuel l (b.put N' v) w := norm_ (by rw [hN]; exact ha) h
theorem tnp (h : wpAnyLast P md ops Q S ds fuel l a' w) (ha : a = a' := by simp only [putAll, Act.put, List.setIfInBounds_toArray, List.set_cons_zero, List.set_cons_succ]; rfl) : wpAnyLast P md ops Q S ds fuel l a w := norm_ ha h
theorem tnx (h : wpAnyLast P md ops Q S ds fuel l a' w) (ha : a = a' := by first | (simp only [putAll, Act.put, List.setIfInBounds_toArray, List.set_cons_zero, List.set_cons_succ]; done) | (simp only [putAll, Act.put, List.setIfInBounds_toArray, List.set_cons_zero, List.set_cons_succ]; rfl)) : wpAnyLast P md ops Q S ds fuel l a w := norm_ ha h
theorem tsk (h : K a w1) (hw : Region.wanted oi (yielded ops a.tmps) = true := by rfl) (hN : oi.dst = none := by exact rfl) (hrun : (execOp a.eval oi).run P w = .ok .skip w1 := by go_simp; rfl) : if Region.wanted oi (yielded ops a.tmps) = true then Oper.wp P oi a w K Q else K (a.put none undef) w := skip_ hw hN hrun h
end Go.Proofs.YtfjkpdhldeopaaaDoor.G

namespace Go.Proofs.YtfjkpdhldeopaaaDoorW.PrintWords
open Go.RowKit
/-- Two values that lead to no common block. -/
def KV (u v : Value) : Prop := ∀ k, u.ownBlock = some k → v.ownBlock ≠ some k
theorem KV.nil (n c : Nat) (v : Value) : KV (.slice none n c) v := fun k hk => by simp [Value.ownBlock] at hk
theorem KV.nil' (u : Value) (n c : Nat) : KV u (.slice none n c) := fun k _ => by simp [Value.ownBlock]
theorem KV.symm {u v : Value} (h : KV u v) : KV v u := fun k hk he => h k he hk
theorem KV.ofR {α : Type} {d : Kd α} {e : Nat} {W : World} {base : Nat} {ok : Nat → Prop} {u v : Value} {xs : List α} (h : d.R e W base ok u xs) (p : ∀ k, ok k → some k ≠ v.ownBlock) : KV u v := fun k hk he => p k (h.1 k hk) he.symm
/-- A kind of whose elements two cells lead to different blocks. -/
def kvK {α : Type} (d : Kd α) (i j : Nat) : Kd α where
  sz := d.sz
  E := d.E
  K := d.K
  M := fun w base ok x cs => d.M w base ok x cs ∧ KV (cs.getD i undef) (cs.getD j undef)
  K_len := fun h => d.K_len h
  K_one := fun h => d.K_one h
  K_below := fun hb h => d.K_below hb h
  K_of_M := fun h => d.K_of_M h.1
  M_mono := fun hok h => ⟨d.M_mono hok h.1, h.2⟩
  M_bound := fun h => ⟨d.M_bound h.1, h.2⟩
  M_move := fun hm h => ⟨d.M_move hm h.1, h.2⟩
  M_lower := fun hb h => ⟨d.M_lower hb h.1, h.2⟩
end Go.Proofs.YtfjkpdhldeopaaaDoorW.PrintWords

namespace Go.Proofs.YtfjkpdhldeopaaaDoor.Pu
open Go.RowKit Go.Proofs.YtfjkpdhldeopaaaDoorW.PrintWords Go.Proofs.YtfjkpdhldeopaaaDoorW.PrintLast
set_option linter.unusedVariables false
set_option linter.unusedSimpArgs false
theorem w64 {a : Int} (h0 : -9223372036854775808 ≤ a) (h1 : a ≤ 9223372036854775807) : wrap64 a = a := by unfold wrap64; omega
/-- (Not by 'rfl': a large number in a test behind it would be counted up by the kernel.) -/
theorem bindS {α β : Type} (x : α) (f : α → Option β) : (some x).bind f = f x := Eq.trans (Option.bind_some x f) (Eq.refl _)
/-- It ends, in something of which P holds. -/
def EndsIn {α : Type} (g : Nat → Option α) (P : α → Prop) : Prop := ∃ r, Ev g r ∧ P r
theorem EndsIn.bind {α β : Type} {g : Nat → Option α} {f : Nat → α → Option β} {P : α → Prop} {Q : β → Prop} (h : EndsIn g P) (k : ∀ a, P a → EndsIn (fun n => f n a) Q) : EndsIn (fun n => (g n).bind (f n)) Q := by
  obtain ⟨a, ha, hp⟩ := h
  obtain ⟨b, hb, hq⟩ := k a hp
  exact ⟨b, Ev.bind ha hb, hq⟩
theorem EndsIn.step {α : Type} {g f : Nat → Option α} {P : α → Prop} (h : ∀ k, g (k + 1) = f k) (k : EndsIn f P) : EndsIn g P := by
  obtain ⟨a, ha, hp⟩ := k
  exact ⟨a, Ev.step h ha, hp⟩
theorem EndsIn.now {α : Type} {P : α → Prop} (r : α) (hp : P r) : EndsIn (fun _ => some r) P := ⟨r, Ev.now r, hp⟩
theorem EndsIn.mono {α : Type} {g : Nat → Option α} {P Q : α → Prop} (h : EndsIn g P) (k : ∀ a, P a → Q a) : EndsIn g Q := by
  obtain ⟨a, ha, hp⟩ := h
  exact ⟨a, ha, k a hp⟩
theorem EndsIn.ev {α : Type} {g : Nat → Option α} {r : α} (h : EndsIn g (fun x => x = r)) : Ev g r := by
  obtain ⟨a, ha, rfl⟩ := h
  exact ha
theorem EndsIn.rounds {α : Type} {g : Nat → Option α} {r : α} (h : EndsIn g (fun x => x = r)) : ∃ k, g k = some r := h.ev.rounds
/-! lists that are filled place by place -/
theorem fill_set {α β : Type} (f : α → β) (z : β) (l : List α) (i : Nat) (h : i < l.length) :
    ((l.take i).map f ++ List.replicate (l.length - i) z).set i (f l[i]) = (l.take (i + 1)).map f ++ List.replicate (l.length - (i + 1)) z := by
  have hlen : ((l.take i).map f).length = i := by simp; omega
  rw [List.set_append_right _ _ (by omega), hlen, Nat.sub_self]
  obtain ⟨m, hm⟩ : ∃ m, l.length - i = m + 1 := ⟨l.length - i - 1, by omega⟩
  rw [hm, List.replicate_succ, List.set_cons_zero, List.take_succ_eq_append_getElem h, List.map_append, show l.length - (i + 1) = m by omega]
  simp
theorem fill_len {α β : Type} (f : α → β) (z : β) (l : List α) (i : Nat) (h : i ≤ l.length) : ((l.take i).map f ++ List.replicate (l.length - i) z).length = l.length := by
  simp; omega
end Go.Proofs.YtfjkpdhldeopaaaDoor.Pu

namespace Go.Proofs.YtfjkpdhldeopaaaDoor.G
open Go.RowKit Go.Proofs.YtfjkpdhldeopaaaDoorW.PrintWords
/-- Where the sentinels lie: by their numbers (1: the first variable). -/
class ErrA where
  errA : Int → Addr
def errW [ErrA] : Option Int → Value
  | none => .nilIface
  | some c => .iface 103 (.pointer (some (ErrA.errA c)))
theorem errW_none [ErrA] : errW none = .nilIface := rfl
theorem errW_some [ErrA] (c : Int) : errW (some c) = .iface 103 (.pointer (some (ErrA.errA c))) := rfl
/-- These package variables hold them. -/
def ErrOk [ErrA] (gs : List Nat) (w : World) : Prop := ∀ g : Nat, g ∈ gs → w.cell? ⟨g, 0, none⟩ = some (.iface 103 (.pointer (some (ErrA.errA ((g : Int) + 1)))))
theorem ErrOk.below [ErrA] {gs : List Nat} {w w' : World} (h : ErrOk gs w) (hb : Below w.heap.size w w') : ErrOk gs w' := fun g hg => pw_cell_below hb (h g hg)
theorem ErrOk.sub [ErrA] {gs gs' : List Nat} {w : World} (h : ErrOk gs w) (hs : ∀ g ∈ gs', g ∈ gs) : ErrOk gs' w := fun g hg => h g (hs g hg)
theorem ErrOk.g0 [ErrA] {gs : List Nat} {w : World} (h : ErrOk gs w) (hm : 0 ∈ gs) : w.cell? ⟨0, 0, none⟩ = some (.iface 103 (.pointer (some (ErrA.errA 1)))) := h 0 hm
theorem glob_ {P : Program} {ops : Array Oper} {rest : List Oper} {o : Oper} {a : Act} {W : World} {Q : Exit → Act → World → Prop} (hgd : o.guard = none) {v : Value} {g : Nat} (hr : ∀ W' : World, W'.cell? ⟨g, 0, none⟩ = some v → (execOp a.eval o).run P W' = .ok (.value v) W')
    (hc : W.cell? ⟨g, 0, none⟩ = some v) (h : wpList P ops Q rest (a.put o.dst v) W) : wpList P ops Q (o :: rest) a W := Kd.event_run hgd (hr W hc) h
theorem ErrOk.set [ErrA] {gs : List Nat} {w0 W : World} (h0 : ErrOk gs w0) (h : ErrOk gs W) {b : Nat} (hb : w0.heap.size ≤ b) (j : Nat) (v : Value) : ErrOk gs (W.setCell ⟨b, j, none⟩ v) := fun g hg => by
  have h1 : g < w0.heap.size := World.block_lt_of_cell? w0 _ (h0 g hg)
  have h2 : (W.setCell ⟨b, j, none⟩ v).heap[g]? = W.heap[g]? := Below.heap_setCell W ⟨b, j, none⟩ v g (by show g ≠ b; omega)
  have h3 := h g hg
  simp only [World.cell?] at h3 ⊢
  rw [h2]
  exact h3
end Go.Proofs.YtfjkpdhldeopaaaDoor.G

