/- A text of seat YtfjkpdhldeopaaaDoor: what the law FnExactBatchCut needs of this repo's texts (by pack.py). Not trusted: Lean checks it. -/
import Derived.Test.YtfjkpdhldeopaaaDoorKFnExactBatchCut2
import Derived.Test.YtfjkpdhldeopaaaDoorProg
import Derived.Below
import Derived.WalkKit
import Derived.KernelRfl
import Derived.OwnWalk
import Derived.Deep.OwnRows
import Derived.Laws.OwnMore
namespace Go.Proofs.YtfjkpdhldeopaaaDoorW.PrintWords
open Go.RowKit
/-- Two values that lead to no common block. -/
def KV (u v : Value) : Prop := ∀ k, u.ownBlock = some k → v.ownBlock ≠ some k
theorem KV.nil (n c : Nat) (v : Value) : KV (.slice none n c) v := fun k hk => by simp [Value.ownBlock] at hk
theorem KV.nil' (u : Value) (n c : Nat) : KV u (.slice none n c) := fun k _ => by simp [Value.ownBlock]
theorem KV.symm {u v : Value} (h : KV u v) : KV v u := fun k hk he => h k he hk
theorem KV.ofR {α : Type} {d : Kd α} {e : Nat} {W : World} {base : Nat} {ok : Nat → Prop} {u v : Value} {xs : List α} (h : d.R e W base ok u xs) (p : ∀ k, ok k → some k ≠ v.ownBlock) : KV u v := fun k hk he => p k (h.1 k hk) he.symm
/-- A kind of whose elements two cells lead to different blocks. -/
def kvK {α : Type} (d : Kd α) (i j : Nat) : Kd α where
  sz := d.sz
  E := d.E
  K := d.K
  M := fun w base ok x cs => d.M w base ok x cs ∧ KV (cs.getD i undef) (cs.getD j undef)
  K_len := fun h => d.K_len h
  K_one := fun h => d.K_one h
  K_below := fun hb h => d.K_below hb h
  K_of_M := fun h => d.K_of_M h.1
  M_mono := fun hok h => ⟨d.M_mono hok h.1, h.2⟩
  M_bound := fun h => ⟨d.M_bound h.1, h.2⟩
  M_move := fun hm h => ⟨d.M_move hm h.1, h.2⟩
  M_lower := fun hb h => ⟨d.M_lower hb h.1, h.2⟩
end Go.Proofs.YtfjkpdhldeopaaaDoorW.PrintWords

namespace Go.Proofs.YtfjkpdhldeopaaaDoor.G
open Go.RowKit Go.Proofs.YtfjkpdhldeopaaaDoorW.PrintWords Go.Proofs.YtfjkpdhldeopaaaDoorW.PrintLast Go.Proofs.YtfjkpdhldeopaaaDoorW.PrintMore
set_option linter.unusedVariables false
/-- A fact of the world and the blocks on which it rests: a variable, or a row. -/
inductive En where
  | box (b : Nat) (cs : Array Value) (t : Nat)
  | row (Q : World → Prop) (P : Nat → Prop)
def En.Q : En → World → Prop
  | .box b cs t, W => W.heap[b]? = some (.cells cs t (0, 0))
  | .row Q _, W => Q W
def En.P : En → Nat → Prop
  | .box b _ _, k => k = b
  | .row _ P, k => P k
def St (w W : World) (es : List En) : Prop := Below w.heap.size w W ∧ (∀ e ∈ es, Foot e.Q W e.P ∧ ∀ k, e.P k → w.heap.size ≤ k ∧ k < W.heap.size) ∧ (es.map En.P).Pairwise (fun p q => ∀ k, p k → q k → False)
section
variable {w W W' : World} {es es' : List En} {e : En} {i : Nat}
theorem St.nil (w : World) : St w w [] := ⟨Below.refl _ _, fun _ h => by simp at h, List.Pairwise.nil⟩
theorem St.below (h : St w W es) : Below w.heap.size w W := h.1
theorem St.get (h : St w W es) (i : Nat) {e : En} (he : es[i]? = some e) : e.Q W := Foot.now (h.2.1 e (List.mem_of_getElem? he)).1
theorem St.call (h : St w W es) (hb : Below W.heap.size W W') : St w W' es :=
  ⟨below_step h.1 hb, fun e he => ⟨(h.2.1 e he).1.step (fun k _ hlt => hb.block k hlt), fun k hk => ⟨((h.2.1 e he).2 k hk).1, Nat.lt_of_lt_of_le ((h.2.1 e he).2 k hk).2 hb.size⟩⟩, h.2.2⟩
theorem St.push (h : St w W es) (hb : Below W.heap.size W W') (e : En) (hf : Foot e.Q W' e.P) (hP : ∀ k, e.P k → W.heap.size ≤ k ∧ k < W'.heap.size) : St w W' (e :: es) := by
  obtain ⟨h1, h2, h3⟩ := h.call hb
  refine ⟨h1, fun f hf' => ?_, ?_⟩
  · rcases List.mem_cons.1 hf' with rfl | hf'
    · exact ⟨hf, fun k hk => ⟨Nat.le_trans h.1.size (hP k hk).1, (hP k hk).2⟩⟩
    · exact h2 f hf'
  · rw [List.map_cons, List.pairwise_cons]
    refine ⟨fun q hq k hk hqk => ?_, h3⟩
    obtain ⟨f, hf', rfl⟩ := List.mem_map.1 hq
    have := ((h.2.1 f hf').2 k hqk).2
    have := (hP k hk).1
    omega
theorem St.sub (h : St w W es) (hs : es'.Sublist es) : St w W es' := ⟨h.1, fun e he => h.2.1 e (hs.subset he), h.2.2.sublist (hs.map _)⟩
theorem St.mark (h : St w W es) (i : Nat) (he : es[i]? = some e) (e' : En) (hP : e'.P = e.P) (hb : Below w.heap.size w W') (hk : Kept W W' e.P) (hf : Foot e'.Q W' e'.P) : St w W' (es.set i e') := by
  obtain ⟨h1, h2, h3⟩ := h
  obtain ⟨hil, hie⟩ := List.getElem?_eq_some_iff.1 he
  refine ⟨hb, fun f hf' => ?_, ?_⟩
  · obtain ⟨j, hj⟩ := List.getElem?_of_mem hf'
    by_cases hij : j = i
    · subst hij
      rw [List.getElem?_set_self hil] at hj
      injection hj with hj
      subst hj
      exact ⟨hf, fun k hk2 => by rw [hP] at hk2; exact ⟨((h2 e (List.mem_of_getElem? he)).2 k hk2).1, Nat.lt_of_lt_of_le ((h2 e (List.mem_of_getElem? he)).2 k hk2).2 hk.1⟩⟩
    · rw [List.getElem?_set_ne (Ne.symm hij)] at hj
      obtain ⟨p1, p2⟩ := h2 f (List.mem_of_getElem? hj)
      refine ⟨p1.step (fun k hk2 hlt => hk.2 k hlt (fun hk3 => ?_)), fun k hk2 => ⟨(p2 k hk2).1, Nat.lt_of_lt_of_le (p2 k hk2).2 hk.1⟩⟩
      obtain ⟨hjl, hje⟩ := List.getElem?_eq_some_iff.1 hj
      rw [List.pairwise_iff_getElem] at h3
      rcases Nat.lt_or_gt_of_ne hij with hlt2 | hlt2
      · have := h3 j i (by rw [List.length_map]; exact hjl) (by rw [List.length_map]; exact hil) hlt2 k
        rw [List.getElem_map, List.getElem_map, hje, hie] at this
        exact this hk2 hk3
      · have := h3 i j (by rw [List.length_map]; exact hil) (by rw [List.length_map]; exact hjl) hlt2 k
        rw [List.getElem_map, List.getElem_map, hje, hie] at this
        exact this hk3 hk2
  · have : (es.set i e').map En.P = es.map En.P := by
      rw [List.map_set]
      rw [hP]
      apply List.ext_getElem?
      intro j
      by_cases hij : i = j
      · subst hij
        rw [List.getElem?_set_self (by rw [List.length_map]; exact hil), List.getElem?_map, he]
        rfl
      · rw [List.getElem?_set_ne hij]
    rw [this]
    exact h3
end
/-- A row of one's own, whose elements lie apart; a row that is read. -/
def rowS {α : Type} (d : Kd α) (e b : Nat) (v : Value) (xs : List α) (P : Nat → Prop) : En := .row (fun W => Kd.S d e W b P v xs) P
section
variable {α : Type} {d : Kd α} {e b n c i : Nat} {w W W' : World} {es : List En} {v : Value} {A : Option Addr} {xs ys : List α} {P ok : Nat → Prop}
theorem foot_S (h : Kd.S d e W b P v xs) : Foot (fun W => Kd.S d e W b P v xs) W P := fun W' hW => Kd.S_step h hW
theorem St.pushS (h : St w W es) (hs : Kd.S d e W' W.heap.size ok v xs) (hb : Below W.heap.size W W') : St w W' (rowS d e w.heap.size v xs (fun k => W.heap.size ≤ k ∧ k < W'.heap.size) :: es) := by
  refine h.push hb (rowS d e w.heap.size v xs _) (foot_S ?_) (fun k hk => hk)
  exact Kd.S_lower (Kd.S_mono (Kd.S_bound hs) (fun k hk => ⟨hk.2.1, hk.2.2.1⟩)) h.1.size
theorem St.getS (h : St w W es) (i : Nat) (he : es[i]? = some (rowS d e b v xs P)) : Kd.S d e W b P v xs := h.get i he
theorem St.getC (h : St w W es) (i : Nat) (he : es[i]? = some (rowS d e b (.slice A xs.length c) xs P)) : d.C W A xs.length xs := (Kd.S_reads' (h.getS i he)).2.2
theorem St.getL (h : St w W es) (i : Nat) (he : es[i]? = some (rowS d e b (.slice A xs.length c) xs P)) : xs.length ≤ c := (Kd.S_reads' (h.getS i he)).2.1
theorem St.markS (h : St w W es) (i : Nat) (he : es[i]? = some (rowS d e w.heap.size v xs P)) (hs : Kd.S d e W' w.heap.size P v ys) (hb : Below w.heap.size w W') (hk : Kept W W' P) : St w W' (es.set i (rowS d e w.heap.size v ys P)) := h.mark i he _ rfl hb hk (foot_S hs)
end
end Go.Proofs.YtfjkpdhldeopaaaDoor.G

namespace Go.Proofs.YtfjkpdhldeopaaaDoor.G
open Go.RowKit Go.Proofs.YtfjkpdhldeopaaaDoorW.PrintWords Go.Proofs.YtfjkpdhldeopaaaDoorW.PrintLast Go.Proofs.YtfjkpdhldeopaaaDoorW.PrintMore
set_option linter.unusedVariables false
/-- A variable in memory. -/
abbrev boxE (b : Nat) (cs : Array Value) (t : TypeId) : En := .box b cs t
section
variable {b i t : Nat} {cs : Array Value} {w W W' : World} {es : List En}
theorem St.getB (h : St w W es) (i : Nat) (he : es[i]? = some (boxE b cs t)) : W.heap[b]? = some (.cells cs t (0, 0)) := h.get i he
theorem St.pushB (h : St w W es) (hg : b = W.heap.size) (hbox : W'.heap[b]? = some (.cells cs t (0, 0))) (hb : Below W.heap.size W W') : St w W' (boxE b cs t :: es) := by
  subst hg
  refine h.push hb (boxE W.heap.size cs t) ?_ (fun k hk => ?_)
  · intro W2 h2
    exact (h2 _ rfl (blk_lt hbox)).trans hbox
  · obtain rfl : k = W.heap.size := hk
    exact ⟨Nat.le_refl _, blk_lt hbox⟩
end
end Go.Proofs.YtfjkpdhldeopaaaDoor.G

namespace Go.Proofs.YtfjkpdhldeopaaaDoor.G
open Go.RowKit Go.Proofs.YtfjkpdhldeopaaaDoorW.PrintWords Go.Proofs.YtfjkpdhldeopaaaDoorW.PrintLast Go.Proofs.YtfjkpdhldeopaaaDoorW.PrintMore
set_option linter.unusedVariables false
section
variable {P : Program} {Q : Exit → Act → World → Prop} {S : World → Prop} {ds : List Nat}
/-- What is left of the region from operation i on. -/
def Fl (P : Program) (l0 : List Oper) (Q : Exit → Act → World → Prop) (S : World → Prop) (ds : List Nat) (n i : Nat) (l : List Oper) (a : Act) (w : World) : Prop :=
  l0.drop i = l → wpAnyLast P .any l0.toArray Q S ds l.length (fN n i) a w
variable {l0 rest : List Oper}
theorem q_begin {id : Nat} {a : Act} {w : World} (S : World → Prop) (ds : List Nat) (n : Nat) (hm : P.follows .mixedOrders = true) (hn : l0.length = n) (hS : S w.drew) (h : S w.drew → Fl P l0 Q S ds n 0 l0 a w.drew) : (Code.region id l0.toArray true).wp P Q a w := by
  refine start_ (S := S) (ds := ds) (n := n) (fN n 0) hm (by rw [List.size_toArray]; exact hn) (fN_zero n) hS (fun hS => ?_)
  have := h hS rfl
  rw [hn] at this
  exact this
def takeQ (l0 : List Oper) (ds : List Nat) (n i : Nat) : Bool := takeB .any l0.toArray ds (fN n i) (fN n (i + 1)) i
theorem q_take {n i : Nat} {oi : Oper} {v : Value} {a : Act} {w : World} (hc : takeQ l0 ds n i = true)
    (hQ : ∀ c a w, Q (.panic c) (a.put oi.dst v) w → Q (.panic c) a w) (hy : YieldsIf P l0.toArray S oi v a) (hS : S w) (h : Fl P l0 Q S ds n (i + 1) rest (a.put oi.dst v) w) : Fl P l0 Q S ds n i (oi :: rest) a w := by
  intro hd
  obtain ⟨hi, hr⟩ := fr_at hd
  exact take_ (fN n (i + 1)) hi rfl hc hQ hy hS rfl (h hr)
theorem q_go {n i : Nat} {oi : Oper} {v : Value} {a : Act} {w : World} (hc : takeQ l0 ds n i = true) (hw : Region.wanted oi (yielded l0.toArray a.tmps) = true)
    (hQ : ∀ c a w, Q (.panic c) (a.put oi.dst v) w → Q (.panic c) a w) (hS : S w) (hy : ∀ w, S w → (execOp a.eval oi).run P w = .ok (.value v) w) (h : Fl P l0 Q S ds n (i + 1) rest (a.put oi.dst v) w) : Fl P l0 Q S ds n i (oi :: rest) a w :=
  q_take hc hQ (.inl ⟨hw, hy⟩) hS h
def oneQ (l0 : List Oper) (n i : Nat) : Bool := readyB .any l0.toArray (fN n i) (fN n (i + 1)) i
theorem q_done {n i : Nat} {a : Act} {w : World} (hc : (Region.ready .any l0.toArray (fN n i) == []) = true) (h : Q .normal a w) : Fl P l0 Q S ds n i [] a w := fun _ => done_ hc h
/-- A call of a function. -/
theorem q_call {n i : Nat} {oi : Oper} {a : Act} {w : World} {f : FuncId} {fn : Func} {as1 : Array Operand} {ts : Array TypeId} (hc : oneQ l0 n i = true) (hd : i ∉ ds) (hw : Region.wanted oi (yielded l0.toArray a.tmps) = true)
    (hf : P.funcs[f]? = some fn) (hname : (fn.name == "runtime.NumGoroutine") = false) (hb : fn.body.isSome = true) (args : Array Value) (hop : oi.op = .call { callee := .value (.func f), args := as1, argTypes := ts }) (hargs : as1.map a.eval = args)
    (h : Calls P f args w fun e w' => ∃ v, e = .returned v ∧ S w' ∧ (S w' → Fl P l0 Q S ds n (i + 1) rest (a.put oi.dst v) w')) : Fl P l0 Q S ds n i (oi :: rest) a w := by
  intro hdr
  obtain ⟨hi, hr⟩ := fr_at hdr
  refine one_ (fN n (i + 1)) hi rfl hc hd (fun K hK => ?_)
  exact goes_ hf hname hb args hw rfl hop hargs (h.mono fun e w' ⟨v, he, hs, hf⟩ => ⟨v, he, hK _ _ hs (fun hs => hf hs hr)⟩)
/-- What makes memory and yields a value. -/
theorem q_new {n i : Nat} {oi : Oper} {a : Act} {w w1 : World} {v : Value} (hc : oneQ l0 n i = true) (hd : i ∉ ds) (hw : Region.wanted oi (yielded l0.toArray a.tmps) = true)
    (hrun : (execOp a.eval oi).run P w = .ok (.value v) w1) (hs : S w1) (h : S w1 → Fl P l0 Q S ds n (i + 1) rest (a.put oi.dst v) w1) : Fl P l0 Q S ds n i (oi :: rest) a w := by
  intro hdr
  obtain ⟨hi, hr⟩ := fr_at hdr
  refine one_ (fN n (i + 1)) hi rfl hc hd (fun K hK => ?_)
  exact value_ hw rfl hrun (hK _ _ hs (fun hs => h hs hr))
/-- One that comes up alone, by a step's law. -/
theorem q_stp {n i : Nat} {oi : Oper} {a : Act} {w : World} (hc : oneQ l0 n i = true) (hd : i ∉ ds)
    (h : ∀ K : Act → World → Prop, Shut (∀ a w, S w → (S w → Fl P l0 Q S ds n (i + 1) rest a w) → K a w) → if Region.wanted oi (yielded l0.toArray a.tmps) = true then Oper.wp P oi a w K Q else K (a.put oi.dst undef) w) :
    Fl P l0 Q S ds n i (oi :: rest) a w := by
  intro hdr
  obtain ⟨hi, hr⟩ := fr_at hdr
  exact one_ (fN n (i + 1)) hi rfl hc hd (fun K hK => h K (fun a w hs hf => hK a w hs (fun hs => hf hs hr)))
/-- A store that keeps what is held. -/
theorem q_put {n i : Nat} {oi : Oper} {a : Act} {w w1 : World} (hc : oneQ l0 n i = true) (hd : i ∉ ds) (hw : Region.wanted oi (yielded l0.toArray a.tmps) = true) (hN : oi.dst = none)
    (hrun : (execOp a.eval oi).run P w = .ok .skip w1) (hs : S w1) (h : S w1 → Fl P l0 Q S ds n (i + 1) rest a w1) : Fl P l0 Q S ds n i (oi :: rest) a w := by
  intro hdr
  obtain ⟨hi, hr⟩ := fr_at hdr
  refine one_ (fN n (i + 1)) hi hN hc hd (fun K hK => ?_)
  exact skip_ hw hN hrun (hK _ _ hs (fun hs => h hs hr))
/-- A store, one of the last. -/
theorem q_store {n i : Nat} {oi : Oper} {a : Act} {w w1 : World} (hc : oneQ l0 n i = true) (hd : i ∈ ds) (hw : Region.wanted oi (yielded l0.toArray a.tmps) = true) (hN : oi.dst = none)
    (hrun : (execOp a.eval oi).run P w = .ok .skip w1) (h : Fl P l0 Q S ds n (i + 1) rest a w1) : Fl P l0 Q S ds n i (oi :: rest) a w := by
  intro hdr
  obtain ⟨hi, hr⟩ := fr_at hdr
  refine last_ (fN n (i + 1)) hi hN hc hd (fun K hK => ?_)
  exact skip_ hw hN hrun (hK _ _ (h hr))
end
theorem front_perm {α : Type} : ∀ (l : List α) (i : Nat) (e : α), l[i]? = some e → l.Perm (e :: l.eraseIdx i)
  | [], i, e, h => by simp at h
  | x :: l, 0, e, h => by
    simp only [List.getElem?_cons_zero, Option.some.injEq] at h
    subst h
    exact List.Perm.refl _
  | x :: l, i + 1, e, h => by
    simp only [List.getElem?_cons_succ] at h
    exact ((front_perm l i e h).cons x).trans (List.Perm.swap e x _)
section
variable {w W W' : World} {es : List En} {b i t : Nat} {cs : Array Value}
theorem St.drew (h : St w W es) : St w W.drew es := h.call (below_drew (Below.refl _ _))
theorem St.drewN (h : St w W es) (m : Nat) : St w (W.drewN m) es := h.call (pw_below_drewN (Below.refl _ _) m)
theorem St.del (h : St w W es) (i : Nat) : St w W (es.eraseIdx i) := h.sub (List.eraseIdx_sublist es i)
theorem St.cells (h : St w W es) (i : Nat) (he : es[i]? = some (boxE b cs t)) : (∀ j, W.cell? ⟨b, j, none⟩ = cs[j]?) ∧ ∀ j, W.frozen? ⟨b, j, none⟩ = false := ⟨fun j => blk_cell (h.getB i he) j, fun j => blk_frozen (h.getB i he) j⟩
theorem St.ge (h : St w W es) (i : Nat) {e : En} (he : es[i]? = some e) (k : Nat) (hk : e.P k) : w.heap.size ≤ k := ((h.2.1 e (List.mem_of_getElem? he)).2 k hk).1
theorem foot_box {W : World} (h : W.heap[b]? = some (.cells cs t (0, 0))) : Foot (fun W => W.heap[b]? = some (.cells cs t (0, 0))) W (fun k => k = b) := fun W2 h2 => (h2 _ rfl (blk_lt h)).trans h
theorem kept_set (W : World) (b j : Nat) (v : Value) : Kept W (W.setCell ⟨b, j, none⟩ v) (fun k => k = b) := ⟨by simp [World.setCell], fun i _ hn => Below.heap_setCell W ⟨b, j, none⟩ v i hn⟩
/-- A cell of a variable is written. -/
theorem St.set1 (h : St w W es) (i : Nat) (he : es[i]? = some (boxE b cs t)) (j : Nat) (v : Value) : St w (W.setCell ⟨b, j, none⟩ v) (es.set i (boxE b (cs.setIfInBounds j v) t)) :=
  h.mark i he _ rfl (below_set h.below (h.ge i he b rfl)) (kept_set W b j v) (foot_box (blk_set (h.getB i he) j v))
theorem St.set6 {a0 a1 a2 a3 a4 a5 : Value} (h : St w W es) (i : Nat) (he : es[i]? = some (boxE b #[a0, a1, a2, a3, a4, a5] t)) (v0 v1 v2 v3 v4 v5 : Value) :
    St w ((((((W.setCell ⟨b, 0, none⟩ v0).setCell ⟨b, 1, none⟩ v1).setCell ⟨b, 2, none⟩ v2).setCell ⟨b, 3, none⟩ v3).setCell ⟨b, 4, none⟩ v4).setCell ⟨b, 5, none⟩ v5) (es.set i (boxE b #[v0, v1, v2, v3, v4, v5] t)) := by
  have hl := (List.getElem?_eq_some_iff.1 he).1
  have hh : ∀ {es' : List En} (e : En), (es'.length = es.length) → (es'.set i e)[i]? = some e := fun e hl' => List.getElem?_set_self (by rw [hl']; exact hl)
  have s0 := h.set1 i he 0 v0
  have s1 := s0.set1 i (hh _ rfl) 1 v1
  have s2 := s1.set1 i (hh _ (by simp)) 2 v2
  have s3 := s2.set1 i (hh _ (by simp)) 3 v3
  have s4 := s3.set1 i (hh _ (by simp)) 4 v4
  have s5 := s4.set1 i (hh _ (by simp)) 5 v5
  simp only [List.set_set] at s5
  exact s5
theorem St.perm (h : St w W es) {es' : List En} (p : es.Perm es') : St w W es' :=
  ⟨h.1, fun e he => h.2.1 e (p.mem_iff.2 he), (p.map En.P).pairwise h.2.2 (fun h k a b => h k b a)⟩
/-- One that is held, ahead of all. -/
theorem St.front (h : St w W es) (i : Nat) {e : En} (he : es[i]? = some e) : St w W (e :: es.eraseIdx i) := h.perm (front_perm es i e he)
theorem St.drop1 {e : En} (h : St w W (e :: es)) : St w W es := h.sub (List.sublist_cons_self e es)
theorem St.apart (h : St w W es) (i j : Nat) {e e' : En} (he : es[i]? = some e) (hj : es[j]? = some e') (hij : i < j) (k : Nat) (h1 : e.P k) (h2 : e'.P k) : False := by
  obtain ⟨hl, h3⟩ := List.getElem?_eq_some_iff.1 he
  obtain ⟨hl', h3'⟩ := List.getElem?_eq_some_iff.1 hj
  have := (List.pairwise_iff_getElem.1 h.2.2) i j (by rw [List.length_map]; exact hl) (by rw [List.length_map]; exact hl') hij k
  rw [List.getElem_map, List.getElem_map, h3, h3'] at this
  exact this h1 h2
/-- Two that are held become one. -/
theorem St.merge2 {e1 e2 : En} (h : St w W (e1 :: e2 :: es)) (hk : Kept W W' (fun k => e1.P k ∨ e2.P k)) (e : En) (hf : Foot e.Q W' e.P) (hP : ∀ k, e.P k → (e1.P k ∨ e2.P k ∨ W.heap.size ≤ k) ∧ k < W'.heap.size) (hb : Below w.heap.size w W') : St w W' (e :: es) := by
  have hlt : ∀ e ∈ es, ∀ k, e.P k → k < W.heap.size ∧ ¬ (e1.P k ∨ e2.P k) := fun f hf k hk => by
    obtain ⟨j, hj⟩ := List.getElem?_of_mem hf
    refine ⟨((h.2.1 f (by simp [hf])).2 k hk).2, fun h2 => h2.elim (fun h3 => ?_) (fun h3 => ?_)⟩
    · exact h.apart 0 (j + 2) (e := e1) (e' := f) rfl (by simpa using hj) (by omega) k h3 hk
    · exact h.apart 1 (j + 2) (e := e2) (e' := f) rfl (by simpa using hj) (by omega) k h3 hk
  refine ⟨hb, fun f hfm => ?_, ?_⟩
  · rcases List.mem_cons.1 hfm with rfl | hfm
    · refine ⟨hf, fun k hk2 => ⟨?_, (hP k hk2).2⟩⟩
      rcases (hP k hk2).1 with h3 | h3 | h3
      · exact h.ge 0 rfl k h3
      · exact h.ge 1 rfl k h3
      · exact Nat.le_trans h.1.size h3
    · obtain ⟨p1, p2⟩ := h.2.1 f (by simp [hfm])
      exact ⟨p1.step (fun k hk2 hl => hk.2 k hl (hlt f hfm k hk2).2), fun k hk2 => ⟨(p2 k hk2).1, Nat.lt_of_lt_of_le (p2 k hk2).2 hk.1⟩⟩
  · rw [List.map_cons, List.pairwise_cons]
    refine ⟨fun q hq k hk2 hqk => ?_, (List.pairwise_cons.1 (List.pairwise_cons.1 h.2.2).2).2⟩
    obtain ⟨f, hfm, rfl⟩ := List.mem_map.1 hq
    obtain ⟨h4, h5⟩ := hlt f hfm k hqk
    rcases (hP k hk2).1 with h3 | h3 | h3
    · exact h5 (.inl h3)
    · exact h5 (.inr h3)
    · omega
section
variable {P : Program} {ops : Array Oper} {rest : List Oper} {o : Oper} {a : Act} {Q : Exit → Act → World → Prop}
/-- A store. -/
theorem w_put {W1 : World} {es' : List En} (hgd : o.guard = none) (hN : o.dst = none) (hrun : (execOp a.eval o).run P W = .ok .skip W1) (hs : St w W1 es') (k : ∀ W1, Aside0 (St w W1 es') → wpList P ops Q rest a W1) : wpList P ops Q (o :: rest) a W := by
  refine wpList_plain hgd fun K hK => ?_
  unfold Oper.wp
  rw [hrun]
  show K (a.put o.dst undef) W1
  rw [hN]
  exact hK _ _ (k _ ⟨hs⟩)
/-- A variable is made. -/
theorem w_box (h : Aside0 (St w W es)) {N : Tmp} (hgd : o.guard = none) (hd : o.dst = some N) {cs : Array Value} {t : TypeId}
    (hrun : (execOp a.eval o).run P W = .ok (.value (.pointer (some ⟨W.heap.size, 0, none⟩))) (W.alloc (.cells cs t (0, 0))))
    (k : ∀ g W1, Aside0 (St w W1 (boxE g cs t :: es)) → wpList P ops Q rest (a.put o.dst (.pointer (some ⟨g, 0, none⟩))) W1) : wpList P ops Q (o :: rest) a W :=
  box_event hgd hd hrun (fun g hg w1 hbox hb => k g w1 ⟨h.out.pushB hg hbox hb⟩)
end
end
end Go.Proofs.YtfjkpdhldeopaaaDoor.G

namespace Go.Proofs.YtfjkpdhldeopaaaDoor.G
open Go.RowKit Go.Proofs.YtfjkpdhldeopaaaDoorW.PrintWords Go.Proofs.YtfjkpdhldeopaaaDoorW.PrintLast Go.Proofs.YtfjkpdhldeopaaaDoorW.PrintMore
set_option linter.unusedVariables false
/-- One proposition out of what is known together. -/
class Pr (P Q : Prop) : Prop where out : P → Q
instance Pr.l {P Q R : Prop} [h : Pr P Q] : Pr (P ∧ R) Q := ⟨fun k => h.out k.1⟩
instance Pr.r {P Q R : Prop} [h : Pr R Q] : Pr (P ∧ R) Q := ⟨fun k => h.out k.2⟩
instance Pr.i {P Q R : Prop} [h : Pr P Q] [h' : Pr P R] : Pr P (Q ∧ R) := ⟨fun k => ⟨h.out k, h'.out k⟩⟩
instance Pr.no {P Q R : Prop} [h : Pr P (¬ Q)] [h' : Pr P (¬ R)] : Pr P (¬ (Q ∨ R)) := ⟨fun k q => q.elim (h.out k) (h'.out k)⟩
instance Pr.tt {P : Prop} : Pr P True := ⟨fun _ => trivial⟩
instance Pr.id {P : Prop} : Pr P P := ⟨fun k => k⟩
variable {α β : Type} {d : Kd α} {e e' : Nat} {w w0 W w1 : World} {base base' g g' : Nat} {ok ok' : Nat → Prop} {u v : Value} {xs : List α} {o o' : Obj}
theorem tbe {x : Option α} {f : α → Option β} {r : β} (h : x.bind f = some r) : ∃ a, Aside0 (x = some a) ∧ f a = some r := by
  obtain ⟨a, h1, h2⟩ := Option.bind_eq_some_iff.mp h
  exact ⟨a, ⟨h1⟩, h2⟩
theorem td {p : Prop} [i : Decidable p] (h : decide p = true := by first | (with_reducible assumption) | assumption) : p := of_decide_eq_true h
theorem tr {p : Prop} (h : p := by first | rfl | (simp; done) | (simp [*]; done)) : p := h
theorem tq {p : Prop} (h : p := by (try simp only [List.map_toArray, List.map_cons, List.map_nil]); first | done | rfl | (simp only [List.length_drop, List.length_take]; rfl)) : p := h
theorem cells6 {a0 a1 a2 a3 a4 a5 : Value} {t : TypeId} (h : w.heap[g]? = some (.cells #[a0, a1, a2, a3, a4, a5] t (0, 0))) : w.cell? ⟨g, 0, none⟩ = some a0 ∧ w.cell? ⟨g, 1, none⟩ = some a1 ∧ w.cell? ⟨g, 2, none⟩ = some a2 ∧ w.cell? ⟨g, 3, none⟩ = some a3 ∧ w.cell? ⟨g, 4, none⟩ = some a4 ∧ w.cell? ⟨g, 5, none⟩ = some a5 ∧ w.frozen? ⟨g, 0, none⟩ = false ∧ w.frozen? ⟨g, 1, none⟩ = false ∧ w.frozen? ⟨g, 2, none⟩ = false ∧ w.frozen? ⟨g, 3, none⟩ = false ∧ w.frozen? ⟨g, 4, none⟩ = false ∧ w.frozen? ⟨g, 5, none⟩ = false :=
  ⟨(blk_cell h 0).trans rfl, (blk_cell h 1).trans rfl, (blk_cell h 2).trans rfl, (blk_cell h 3).trans rfl, (blk_cell h 4).trans rfl, (blk_cell h 5).trans rfl, blk_frozen h 0, blk_frozen h 1, blk_frozen h 2, blk_frozen h 3, blk_frozen h 4, blk_frozen h 5⟩
theorem sz_alloc {n : Nat} (h : n ≤ w.heap.size) (o : Obj) : n ≤ (w.alloc o).heap.size := Nat.le_trans h (below_alloc (Below.refl _ _) o).size
theorem sz_drew {n : Nat} (h : n ≤ w.heap.size) : n ≤ w.drew.heap.size := h
theorem sz_drewN {n : Nat} (h : n ≤ w.heap.size) (m : Nat) : n ≤ (w.drewN m).heap.size := h
theorem sz_set {n : Nat} (h : n ≤ w.heap.size) (p : Addr) (x : Value) : n ≤ (w.setCell p x).heap.size := by simpa using h
/-- The searches by themselves. -/
theorem zb {p : Prop} (h : p := by repeat (first | (with_reducible first | exact HB.out | apply below_alloc | apply pw_below_drewN | apply below_drew1 | refine below_set ?_ (IsS0.ge HI0.out) | refine below_set ?_ (Aside0.out (by with_reducible assumption))) | exact HB.out)) : p := h
theorem tH (h : w.heap[g]? = some o) (k : w.heap[g]? = some o → W.heap[g]? = some o := by intro h_; (repeat (with_reducible first | exact h_ | apply blk_drewN | apply blk_drew | apply blk_alloc | apply blk_put | (apply blk_far; (case hp => exact Aside0.out (by with_reducible assumption))))); (try exact h_); all_goals first | (simp only [List.setIfInBounds_toArray, List.set_cons_zero, List.set_cons_succ]; done) | (simp only [List.setIfInBounds_toArray, List.set_cons_zero, List.set_cons_succ]; exact rfl) | exact rfl) : W.heap[g]? = some o := k h
theorem tP (h : w.heap[g]? = some o) (k : w.heap[g]? = some o → W.heap[g]? = some o' := by intro h_; (repeat (with_reducible first | exact h_ | apply blk_drewN | apply blk_drew | apply blk_alloc | apply blk_put | (apply blk_far; (case hp => exact Aside0.out (by with_reducible assumption))))); (try exact h_); all_goals first | (simp only [List.setIfInBounds_toArray, List.set_cons_zero, List.set_cons_succ]; done) | (simp only [List.setIfInBounds_toArray, List.set_cons_zero, List.set_cons_succ]; exact rfl) | exact rfl) : W.heap[g]? = some o' := k h
theorem tBb (h : Aside0 (w.heap[g]? = some o)) (hb : Below W.heap.size W w1) (k : w.heap[g]? = some o → W.heap[g]? = some o := by intro h_; (repeat (with_reducible first | exact h_ | apply blk_drewN | apply blk_drew | apply blk_alloc | apply blk_put | (apply blk_far; (case hp => exact Aside0.out (by with_reducible assumption))))); (try exact h_); all_goals first | (simp only [List.setIfInBounds_toArray, List.set_cons_zero, List.set_cons_succ]; done) | (simp only [List.setIfInBounds_toArray, List.set_cons_zero, List.set_cons_succ]; exact rfl) | exact rfl) : Aside0 (w1.heap[g]? = some o) := ⟨blk_below (k h.out) hb⟩
theorem tBp (h : Aside0 (w.heap[g]? = some o)) (hb : Below W.heap.size W w1) (k : w.heap[g]? = some o → W.heap[g]? = some o' := by intro h_; (repeat (with_reducible first | exact h_ | apply blk_drewN | apply blk_drew | apply blk_alloc | apply blk_put | (apply blk_far; (case hp => exact Aside0.out (by with_reducible assumption))))); (try exact h_); all_goals first | (simp only [List.setIfInBounds_toArray, List.set_cons_zero, List.set_cons_succ]; done) | (simp only [List.setIfInBounds_toArray, List.set_cons_zero, List.set_cons_succ]; exact rfl) | exact rfl) : Aside0 (w1.heap[g]? = some o') := ⟨blk_below (k h.out) hb⟩
theorem tlt (h : Aside0 (w.heap[g]? = some o)) (hg : g' = W.heap.size) (k : w.heap.size ≤ W.heap.size := by repeat (with_reducible first | exact Nat.le_refl _ | refine sz_alloc ?_ _ | refine sz_drewN ?_ _ | refine sz_drew ?_ | refine sz_set ?_ _ _)) : Aside0 (g ≠ g') := ⟨by rw [hg]; exact Nat.ne_of_lt (Nat.lt_of_lt_of_le (blk_lt h.out) k)⟩
theorem tgt (h : Aside0 (w.heap[g]? = some o)) (hg : g' = W.heap.size) (k : w.heap.size ≤ W.heap.size := by repeat (with_reducible first | exact Nat.le_refl _ | refine sz_alloc ?_ _ | refine sz_drewN ?_ _ | refine sz_drew ?_ | refine sz_set ?_ _ _)) : Aside0 (g' ≠ g) := ⟨by rw [hg]; exact Nat.ne_of_gt (Nat.lt_of_lt_of_le (blk_lt h.out) k)⟩
theorem tge (h : Aside0 (Below w.heap.size w w0)) (hg : g = W.heap.size) (k : Below w.heap.size w w0 → Below w.heap.size w W := by intro h_; repeat (first | (with_reducible first | exact h_ | apply below_alloc | apply pw_below_drewN | apply below_drew1 | refine below_set ?_ (IsS0.ge HI0.out) | refine below_set ?_ (Aside0.out (by with_reducible assumption))) | exact h_)) : Aside0 (w.heap.size ≤ g) := ⟨by rw [hg]; exact (k h.out).size⟩
theorem tBs (h : Aside0 (Below w.heap.size w w0)) (hb : Below W.heap.size W w1) (k : Below w.heap.size w w0 → Below w.heap.size w W := by intro h_; repeat (first | (with_reducible first | exact h_ | apply below_alloc | apply pw_below_drewN | apply below_drew1 | refine below_set ?_ (IsS0.ge HI0.out) | refine below_set ?_ (Aside0.out (by with_reducible assumption))) | exact h_)) : Aside0 (Below w.heap.size w w1) := ⟨below_step (k h.out) hb⟩
theorem tC {A : Option Addr} {n : Nat} (h : d.C w A n xs) (k : d.C w A n xs → d.C W A n xs := by intro h_; repeat (first | (with_reducible exact h_) | (with_reducible refine Kd.C_alloc ?_ _) | (with_reducible refine Kd.C_drewN ?_ _) | (with_reducible refine Kd.C_drew ?_) | exact h_)) : d.C W A n xs := k h
theorem tow {p q : Prop} (h : p) (k : p → q := by intro h_; first | exact h_ | (rw [add_block]; exact h_) | (show (Addr.add _ _).block ≠ _; rw [add_block]; exact h_) | (dsimp only; exact h_)) : q := k h
theorem tcg {p : Prop} {a : Addr} (hx : p) (h : w.cell? a = some v) (k : p → w.cell? a = some v → W.cell? a = some v := by intro hx_ h_; repeat (first | (with_reducible exact h_) | refine (cell_far (tow hx_) _).trans ?_)) : W.cell? a = some v := k hx h
theorem tcl {a : Addr} (hb : Aside0 (Below w.heap.size w W)) (h : w.cell? a = some v) : W.cell? a = some v := (hb.out.cell (World.block_lt_of_cell? w _ h)).trans h
theorem tsv {p : Prop} (P : Program) (v : Value) (h : p) (k : p → ∃ (A : Option Addr) (n c : Nat), v = .slice A n c := by intro h_; first | (obtain ⟨_, _, e_⟩ := Kd.R_slice h_; exact ⟨_, _, _, e_⟩) | (obtain ⟨_, _, e_⟩ := Kd.S_slice h_; exact ⟨_, _, _, e_⟩) | (obtain ⟨_, _, e_, _⟩ := Kd.Q_slice h_; exact ⟨_, _, _, e_⟩) | (obtain ⟨_, _, e_⟩ := Kd.N_slice h_; exact ⟨_, _, _, e_⟩) | (obtain ⟨_, _, e_⟩ := Kd.V_slice h_; exact ⟨_, _, _, e_⟩)) : ∀ (a_ : Addr) (m_ : Mode) (W_ : World), (store a_ v m_).run P W_ = stored P W_ a_ v m_ := fun a_ m_ W_ => run_store _ W_ a_ _ m_ (by obtain ⟨_, _, _, e_⟩ := k h; rw [e_]; rfl)
theorem tR (h : Kd.R d e w base ok v xs) (k : Kd.R d e w base ok v xs → Kd.R d e W base ok v xs := by intro h_; (with_reducible repeat (first | apply Kd.R_alloc | apply Kd.R_drewN | apply Kd.R_drew | refine Kd.R_far ?_ (fun _ hk_ => Pr.out hk_) _)); exact h_) : Kd.R d e W base ok v xs := k h
theorem tRm (h : Kd.R d e w base ok v xs) (k : Kd.R d e w base ok v xs → Kd.R d e W base ok v xs := by intro h_; (with_reducible repeat (first | apply Kd.R_alloc | apply Kd.R_drewN | apply Kd.R_drew | refine Kd.R_far ?_ (fun _ hk_ => Pr.out hk_) _)); exact h_) (p : ∀ k, ok k → ok' k := by exact fun _ h_ => Pr.out h_) : Kd.R d e W base ok' v xs := Kd.R_mono (k h) p
theorem tRt {t : Nat} {cs : Array Value} (h : Kd.R d e w base ok v xs) (hb : w.heap[g]? = some (.cells cs t (0, 0))) (ht : ∀ q, q ∈ e :: d.E → q ≠ t := by decide) (k : Kd.R d e w base (fun k => ok k ∧ k ≠ g) v xs → Kd.R d e W base (fun k => ok k ∧ k ≠ g) v xs := by intro h_; (with_reducible repeat (first | apply Kd.R_alloc | apply Kd.R_drewN | apply Kd.R_drew | refine Kd.R_far ?_ (fun _ hk_ => Pr.out hk_) _)); exact h_) : Kd.R d e W base ok v xs := Kd.R_mono (k (Kd.R_types h hb ht)) (fun _ h => h.1)
theorem tRl (ho : Kd.R d e w1 W.heap.size ok v xs) (h : Aside0 (Below w.heap.size w w0)) (k : Below w.heap.size w w0 → Below w.heap.size w W := by intro h_; repeat (first | (with_reducible first | exact h_ | apply below_alloc | apply pw_below_drewN | apply below_drew1 | refine below_set ?_ (IsS0.ge HI0.out) | refine below_set ?_ (Aside0.out (by with_reducible assumption))) | exact h_)) : Aside0 (Kd.R d e w1 w.heap.size ok v xs) := ⟨Kd.R_lower ho (k h.out).size⟩
theorem tS (h : Kd.S d e w base ok v xs) (k : Kd.S d e w base ok v xs → Kd.S d e W base ok v xs := by intro h_; (with_reducible repeat (first | apply Kd.S_alloc | apply Kd.S_drewN | apply Kd.S_drew | refine Kd.S_far ?_ (fun _ hk_ => Pr.out hk_) _)); exact h_) : Kd.S d e W base ok v xs := k h
theorem tSm (h : Kd.S d e w base ok v xs) (k : Kd.S d e w base ok v xs → Kd.S d e W base ok v xs := by intro h_; (with_reducible repeat (first | apply Kd.S_alloc | apply Kd.S_drewN | apply Kd.S_drew | refine Kd.S_far ?_ (fun _ hk_ => Pr.out hk_) _)); exact h_) (p : ∀ k, ok k → ok' k := by exact fun _ h_ => Pr.out h_) : Kd.S d e W base ok' v xs := Kd.S_mono (k h) p
theorem tSb (h : Aside0 (Kd.S d e w base ok v xs)) (hb : Below W.heap.size W w1) (k : Kd.S d e w base ok v xs → Kd.S d e W base ok v xs := by intro h_; (with_reducible repeat (first | apply Kd.S_alloc | apply Kd.S_drewN | apply Kd.S_drew | refine Kd.S_far ?_ (fun _ hk_ => Pr.out hk_) _)); exact h_) : Aside0 (Kd.S d e w1 base ok v xs) := ⟨Kd.S_below (k h.out) hb⟩
theorem tSl (ho : Kd.S d e w1 W.heap.size ok v xs) (h : Aside0 (Below w.heap.size w w0)) (k : Below w.heap.size w w0 → Below w.heap.size w W := by intro h_; repeat (first | (with_reducible first | exact h_ | apply below_alloc | apply pw_below_drewN | apply below_drew1 | refine below_set ?_ (IsS0.ge HI0.out) | refine below_set ?_ (Aside0.out (by with_reducible assumption))) | exact h_)) : Aside0 (Kd.S d e w1 w.heap.size ok v xs) := ⟨Kd.S_lower ho (k h.out).size⟩
end Go.Proofs.YtfjkpdhldeopaaaDoor.G

namespace Go.Proofs.YtfjkpdhldeopaaaDoor.G
open Go.RowKit Go.Proofs.YtfjkpdhldeopaaaDoorW.PrintWords Go.Proofs.YtfjkpdhldeopaaaDoorW.PrintLast Go.Proofs.YtfjkpdhldeopaaaDoorW.PrintMore
set_option linter.unusedVariables false
set_option linter.unusedSimpArgs false
def slices_Clone_int_int.f (l0 : List Int) : Option (List Int) := if l0.length < 17592186044416 then some l0 else none
set_option maxRecDepth 100000 in
set_option maxHeartbeats 4000000 in
theorem slices_Clone_int_int.calls (A0 : Option Addr) (c0 : Nat) (l0 r : List Int) (w : World) (hr0 : Kd.C (Kd.int .i64) w A0 l0.length l0) (hc0 : l0.length ≤ c0) (h : slices_Clone_int_int.f l0 = some r) :
    Calls Tryd.prog 62 #[.slice A0 l0.length c0] w fun e w' => ∃ v0_ : Value, e = .returned v0_ ∧ Kd.R (Kd.int .i64) 3 w' w.heap.size (fun _ => True) v0_ r ∧ Below w.heap.size w w' := by
  unfold slices_Clone_int_int.f at h
  by_cases hl : l0.length < 17592186044416
  case neg => rw [if_neg hl] at h; exact absurd h (by simp)
  rw [if_pos hl] at h
  obtain rfl := Option.some.inj h
  have HR := Aside0.mk hr0
  clear h hr0
  cases A0 with
  | none =>
    have hl0 : l0 = [] := by
      cases l0 with
      | nil => rfl
      | cons x l => exact absurd (HR.out.2.2 (by simp)) (by simp)
    subst hl0
    have he : ∀ w : World, (binOp .eql 60 (.slice none 0 c0) (.slice none 0 0)).run Tryd.prog w = .ok (.bool true) w := fun _ => rfl
    go_enter Tryd.func62, Tryd.ntmps62
    go_wp2
    go_ret
    exact ⟨_, rfl, Kd.R_nil _ _ _ _ _, Below.refl _ _⟩
  | some ad =>
    have he : ∀ w : World, (binOp .eql 60 (.slice (some ad) l0.length c0) (.slice none 0 0)).run Tryd.prog w = .ok (.bool false) w := fun _ => rfl
    go_enter Tryd.func62, Tryd.ntmps62
    go_wp2_with (first | ((with_reducible refine gate_dst (N := 5) rfl ?_); refine Kd.R_lit (Kd.int .i64) _ 3 ?hg (N := 5) ?hd (xs := ([] : List Int)) (inner := []) (ok := fun _ => True) (okp := fun _ => True) ?hr ?hp (fun _ hk => hk) trivial (Below.refl _ _) (Nat.le_refl _) (by simp) ?_; (case hd => rfl); (case hg => rfl); (case hr => first | (go_simp; done) | (go_simp; rfl)); (case hp => exact (Reps.none _ _)); intro v1 w1 ho1 hb1 hg1 hnew1; have HO := Aside0.mk ho1; have HB := Aside0.mk hb1; clear ho1 hb1 hg1 hnew1) | ((with_reducible refine gate_builtin (b := .append) (xs := #[.tmp 5, .tmp 6]) rfl ?_); at_builtin; refine Kd.R_append_rows (Kd.int .i64) (w0 := w) w.heap.size rfl (.tmp 5) (.tmp 6) 60 3 (.int .i64 0) 8 rfl Tryd.underlying60 (by kernel_rfl) rfl (by decide) (by omega) v1 [] l0 _ _ _ (fun _ => True) (fun _ => False) rfl rfl (Kd.R_lower HO.out (Nat.le_refl _)) (Kd.C_below HR.out HB.out) (fun _ _ h => h) (fun _ h => h.elim) (fun _ _ => trivial) HB.out (below_size HB.out) (by simp; omega) ?_; intro v2 w2 ho2 hb2 hg2 hat2; rw [List.nil_append] at ho2; have HO2 := Aside0.mk ho2; have HB2 := Aside0.mk hb2; clear ho2 hb2 hg2 hat2))
    go_ret
    exact ⟨_, rfl, HO2.out, HB2.out⟩
end Go.Proofs.YtfjkpdhldeopaaaDoor.G

namespace Go.Proofs.YtfjkpdhldeopaaaDoor.G
open Go.RowKit Go.Proofs.YtfjkpdhldeopaaaDoorW.PrintWords
/-- Where the sentinels lie: by their numbers (1: the first variable). -/
class ErrA where
  errA : Int → Addr
def errW [ErrA] : Option Int → Value
  | none => .nilIface
  | some c => .iface 103 (.pointer (some (ErrA.errA c)))
theorem errW_none [ErrA] : errW none = .nilIface := rfl
theorem errW_some [ErrA] (c : Int) : errW (some c) = .iface 103 (.pointer (some (ErrA.errA c))) := rfl
/-- These package variables hold them. -/
def ErrOk [ErrA] (gs : List Nat) (w : World) : Prop := ∀ g : Nat, g ∈ gs → w.cell? ⟨g, 0, none⟩ = some (.iface 103 (.pointer (some (ErrA.errA ((g : Int) + 1)))))
theorem ErrOk.below [ErrA] {gs : List Nat} {w w' : World} (h : ErrOk gs w) (hb : Below w.heap.size w w') : ErrOk gs w' := fun g hg => pw_cell_below hb (h g hg)
theorem ErrOk.sub [ErrA] {gs gs' : List Nat} {w : World} (h : ErrOk gs w) (hs : ∀ g ∈ gs', g ∈ gs) : ErrOk gs' w := fun g hg => h g (hs g hg)
theorem ErrOk.g0 [ErrA] {gs : List Nat} {w : World} (h : ErrOk gs w) (hm : 0 ∈ gs) : w.cell? ⟨0, 0, none⟩ = some (.iface 103 (.pointer (some (ErrA.errA 1)))) := h 0 hm
theorem ErrOk.g1 [ErrA] {gs : List Nat} {w : World} (h : ErrOk gs w) (hm : 1 ∈ gs) : w.cell? ⟨1, 0, none⟩ = some (.iface 103 (.pointer (some (ErrA.errA 2)))) := h 1 hm
theorem glob_ {P : Program} {ops : Array Oper} {rest : List Oper} {o : Oper} {a : Act} {W : World} {Q : Exit → Act → World → Prop} (hgd : o.guard = none) {v : Value} {g : Nat} (hr : ∀ W' : World, W'.cell? ⟨g, 0, none⟩ = some v → (execOp a.eval o).run P W' = .ok (.value v) W')
    (hc : W.cell? ⟨g, 0, none⟩ = some v) (h : wpList P ops Q rest (a.put o.dst v) W) : wpList P ops Q (o :: rest) a W := Kd.event_run hgd (hr W hc) h
theorem ErrOk.set [ErrA] {gs : List Nat} {w0 W : World} (h0 : ErrOk gs w0) (h : ErrOk gs W) {b : Nat} (hb : w0.heap.size ≤ b) (j : Nat) (v : Value) : ErrOk gs (W.setCell ⟨b, j, none⟩ v) := fun g hg => by
  have h1 : g < w0.heap.size := World.block_lt_of_cell? w0 _ (h0 g hg)
  have h2 : (W.setCell ⟨b, j, none⟩ v).heap[g]? = W.heap[g]? := Below.heap_setCell W ⟨b, j, none⟩ v g (by show g ≠ b; omega)
  have h3 := h g hg
  simp only [World.cell?] at h3 ⊢
  rw [h2]
  exact h3
end Go.Proofs.YtfjkpdhldeopaaaDoor.G

