/- A text of seat YtfjkpdhldeopaaaDoor: what the law FnExactBatchCut needs of this repo's texts (by pack.py). Not trusted: Lean checks it. -/
import Derived.Deep.RegionHeld3
import Derived.WalkKit
namespace Go.Proofs.YtfjkpdhldeopaaaDoor.G
open Go.RowKit
section
variable {P : Program} {ops : Array Oper} {Q : Exit → Act → World → Prop} {md : Region.Mode} {S : World → Prop}
/-- The first i of n are listed. -/
def fN (n i : Nat) : Array Bool := (Array.range n).map fun j => decide (j < i)
theorem fN_zero (n : Nat) : Array.replicate n false = fN n 0 := by
  apply Array.ext
  · simp [fN]
  · intro j h1 h2
    simp [fN]
theorem fN_set {n i : Nat} : (fN n i).setIfInBounds i true = fN n (i + 1) := by
  apply Array.ext
  · simp [fN]
  · intro j h1 h2
    rw [Array.getElem_setIfInBounds (by simpa using h1)]
    simp only [fN, Array.getElem_map, Array.getElem_range]
    split
    · rename_i h
      rw [← h]
      simp
    · rename_i h
      exact decide_eq_decide.2 (by omega)
/-- What is left of the region from operation i on. -/
def Fr (P : Program) (l0 : List Oper) (Q : Exit → Act → World → Prop) (S : World → Prop) (n i : Nat) (l : List Oper) (a : Act) (w : World) : Prop :=
  l0.drop i = l → wpAnyH P .any l0.toArray Q S l.length (fN n i) a w
variable {l0 rest : List Oper}
theorem r_begin {id : Nat} {a : Act} {w : World} (S : World → Prop) (n : Nat) (hm : P.follows .mixedOrders = true) (hn : l0.length = n) (hS : S w.drew) (h : S w.drew → Fr P l0 Q S n 0 l0 a w.drew) : (Code.region id l0.toArray true).wp P Q a w := by
  refine wp_region_held (S := S) hm ?_
  have := h hS rfl
  rw [hn] at this
  rw [List.size_toArray, hn, fN_zero]
  exact this
theorem fr_at {i : Nat} {oi : Oper} (hd : l0.drop i = oi :: rest) : l0.toArray[i]? = some oi ∧ l0.drop (i + 1) = rest := by
  constructor
  · rw [List.getElem?_toArray]
    have := congrArg (fun l => l[0]?) hd
    simpa using this
  · rw [← List.drop_drop, hd]
    rfl
def tkB (l0 : List Oper) (n i : Nat) : Bool := Region.noSelect l0.toArray && Region.free .any l0.toArray (fN n i) i && (Region.ready .any l0.toArray (fN n i)).contains i
theorem r_take {n i : Nat} {oi : Oper} {v : Value} {a : Act} {w : World} (hc : tkB l0 n i = true)
    (hQ : ∀ c a w, Q (.panic c) (a.put oi.dst v) w → Q (.panic c) a w) (hy : YieldsIf P l0.toArray S oi v a) (hS : S w) (h : Fr P l0 Q S n (i + 1) rest (a.put oi.dst v) w) : Fr P l0 Q S n i (oi :: rest) a w := by
  intro hd
  obtain ⟨hi, hr⟩ := fr_at hd
  simp only [tkB, Bool.and_eq_true] at hc
  refine wpAnyH_take hi hc.1.1 hc.1.2 hc.2 hQ hy hS ?_
  rw [fN_set]
  exact h hr
/-- One that is not wanted. -/
theorem r_skip {n i : Nat} {oi : Oper} {a : Act} {w : World} (hc : tkB l0 n i = true) (hw : Region.wanted oi (yielded l0.toArray a.tmps) = false)
    (hQ : ∀ c a w, Q (.panic c) (a.put oi.dst undef) w → Q (.panic c) a w) (hS : S w) (h : Fr P l0 Q S n (i + 1) rest (a.put oi.dst undef) w) : Fr P l0 Q S n i (oi :: rest) a w :=
  r_take hc hQ (.inr ⟨hw, rfl⟩) hS h
/-- One that is. -/
theorem r_go {n i : Nat} {oi : Oper} {v : Value} {a : Act} {w : World} (hc : tkB l0 n i = true) (hw : Region.wanted oi (yielded l0.toArray a.tmps) = true)
    (hQ : ∀ c a w, Q (.panic c) (a.put oi.dst v) w → Q (.panic c) a w) (hS : S w) (hy : ∀ w, S w → (execOp a.eval oi).run P w = .ok (.value v) w) (h : Fr P l0 Q S n (i + 1) rest (a.put oi.dst v) w) : Fr P l0 Q S n i (oi :: rest) a w :=
  r_take hc hQ (.inl ⟨hw, hy⟩) hS h
def oneB (l0 : List Oper) (n i : Nat) : Bool := Region.ready .any l0.toArray (fN n i) == [i]
/-- One that comes up alone, and is wanted: a call. -/
theorem r_one {n i : Nat} {oi : Oper} {a : Act} {w : World} (hc : oneB l0 n i = true) (hw : Region.wanted oi (yielded l0.toArray a.tmps) = true)
    (h : ∀ K : Act → World → Prop, Shut (∀ a w, S w → (S w → Fr P l0 Q S n (i + 1) rest a w) → K a w) → Oper.wp P oi a w K Q) :
    Fr P l0 Q S n i (oi :: rest) a w := by
  intro hd
  obtain ⟨hi, hr⟩ := fr_at hd
  simp only [oneB, beq_iff_eq] at hc
  refine wpAnyH_ready hc (by simp) (AllReadyH.cons hi (fun K hK => ?_) AllReadyH.nil)
  rw [fN_set] at hK
  rw [if_pos hw]
  exact h K (fun a w hs hf => hK a w hs (fun hs => hf hs hr))
theorem r_done {n i : Nat} {a : Act} {w : World} (hc : Region.ready .any l0.toArray (fN n i) = []) (h : Q .normal a w) : Fr P l0 Q S n i [] a w := fun _ => wpAnyH_done hc h _
end
end Go.Proofs.YtfjkpdhldeopaaaDoor.G

