/- A text of seat Ythoioccmnphfgaa: what the law FnExactLogSize needs of this repo's texts (by pack.py). Not trusted: Lean checks it. -/
import Derived.Test.YthoioccmnphfgaaKFnExactLogSize4
import Derived.WideKeyEntry
import Derived.WideKeyArr
import Derived.Shelf.RegionOpenPlain
import Derived.Test.YthoioccmnphfgaaProg
import Derived.Lib.AppendZerosOnto
import Derived.Laws.BitsLemmas
import Derived.OrdersHeld
import Derived.Tactics
namespace Go.Proofs.Ythoioccmnphfgaa.G
open Go.RowKit Go.Shelf Go.Proofs.YthoioccmnphfgaaW.PrintWords Go.Proofs.YthoioccmnphfgaaW.PrintLast Go.Proofs.YthoioccmnphfgaaW.PrintMore
attribute [local go_sem] Oper.semAt_some
set_option linter.unusedVariables false
set_option linter.unusedSimpArgs false
def pI (ps : List Nat) : List Int := ps.map fun (p : Nat) => (p : Int)
theorem pI_len (ps : List Nat) : (pI ps).length = ps.length := by simp [pI]
def pv (ps : List Nat) (x : Fin (pI ps).length) : Nat := ps.getD x.val 0
theorem pI_get (ps : List Nat) (x : Fin (pI ps).length) : (pI ps)[x] = ((pv ps x : Nat) : Int) := by
  have h : x.val < ps.length := by have h1 := x.isLt; have h2 := pI_len ps; omega
  unfold pv
  rw [List.getD_eq_getElem?_getD, List.getElem?_eq_getElem h]
  have h2 : (pI ps)[x.val]'(x.isLt) = ((ps[x.val] : Nat) : Int) := by unfold pI; rw [List.getElem_map]
  exact h2
theorem pv_mem (ps : List Nat) (x : Fin (pI ps).length) : pv ps x ∈ ps := by
  have h : x.val < ps.length := by have h1 := x.isLt; have h2 := pI_len ps; omega
  unfold pv
  rw [List.getD_eq_getElem?_getD, List.getElem?_eq_getElem h]
  exact List.getElem_mem h
def mtS (l : List Int) (z : Nat) (ps : List Nat) (pre : List (Fin (pI ps).length)) : Nat × Nat := Pu.near (Pu.nAt l z) z (pre.map (pv ps)) (0, 0)
def mtOk (z : Nat) (ps : List Nat) (pre : List (Fin (pI ps).length)) : Prop := ∀ x ∈ pre, ¬ 200 < z - pv ps x
theorem downTo_pI (ps : List Nat) : (downTo (pI ps).length).map (fun i => ps.getD i 0) = ps.reverse := by
  rw [pI_len, downTo_get]
theorem mt_end {l : List Int} {z : Nat} {ps : List Nat} {ys : List (Fin (pI ps).length)} (h : ys.map Fin.val = downTo (pI ps).length) : mtS l z ps ys = Pu.near (Pu.nAt l z) z ps.reverse (0, 0) := by
  unfold mtS
  congr 1
  have := congrArg (List.map fun i => ps.getD i 0) h
  rw [List.map_map, downTo_pI] at this
  rw [← this]
  rfl
theorem mt_stop {l : List Int} {z : Nat} {ps : List Nat} {pre : List (Fin (pI ps).length)} {x : Fin (pI ps).length} (h : (pre ++ [x]).map Fin.val <+: downTo (pI ps).length) (hok : mtOk z ps pre) (hx : 200 < z - pv ps x) : mtS l z ps pre = Pu.near (Pu.nAt l z) z ps.reverse (0, 0) := by
  obtain ⟨t, ht⟩ := h
  have := congrArg (List.map fun i => ps.getD i 0) ht
  rw [downTo_pI, List.map_append, List.map_append, List.map_append] at this
  rw [← this, List.append_assoc]
  unfold mtS
  have e : pre.map (pv ps) = (pre.map Fin.val).map (fun i => ps.getD i 0) := by rw [List.map_map]; rfl
  rw [e, near_app _ _ _ _ _ (by
    rw [← e]
    intro p hp
    obtain ⟨y, hy, rfl⟩ := List.mem_map.1 hp
    exact hok y hy)]
  exact (near_stop _ _ (ps.getD x.val 0) _ _ hx).symm
theorem mt_snoc {l : List Int} {z : Nat} {ps : List Nat} {pre : List (Fin (pI ps).length)} {x : Fin (pI ps).length} (hok : mtOk z ps pre) (hx : ¬ 200 < z - pv ps x) : mtOk z ps (pre ++ [x]) ∧ mtS l z ps (pre ++ [x]) = if (mtS l z ps pre).1 < Pu.nAt l z (z - pv ps x) then (Pu.nAt l z (z - pv ps x), z - pv ps x) else mtS l z ps pre := by
  refine ⟨fun y hy => ?_, ?_⟩
  · rcases List.mem_append.1 hy with hy | hy
    · exact hok y hy
    · obtain rfl : y = x := by simpa using hy
      exact hx
  · unfold mtS
    rw [List.map_append, near_app _ _ _ _ _ (by
      intro p hp
      obtain ⟨y, hy, rfl⟩ := List.mem_map.1 hp
      exact hok y hy)]
    show Pu.near _ _ [pv ps x] _ = _
    rw [Pu.near, if_neg hx, Pu.near]
theorem alike_le_m : ∀ (m : Nat) (a b : List Int), Pu.alike m a b ≤ m
  | 0, _, _ => by simp [Pu.alike]
  | m + 1, [], _ => by simp [Pu.alike]
  | m + 1, _ :: _, [] => by simp [Pu.alike]
  | m + 1, x :: a, y :: b => by
    have := alike_le_m m a b
    unfold Pu.alike
    split <;> omega
theorem wr_add (a b : Nat) (h : a + b < 1000000) : IntKind.i64.wrap ((a : Int) + (b : Int)) = ((a + b : Nat) : Int) := by rw [IntKind.wrap_i64]; omega
theorem wr_sub (a b : Nat) (h : b ≤ a) (h2 : a < 1000000) : IntKind.i64.wrap ((a : Int) - (b : Int)) = ((a - b : Nat) : Int) := by rw [IntKind.wrap_i64]; omega
theorem getD_lt (l : List Int) (i : Nat) (h : i < l.length) : l.getD i 0 = l[i] := by rw [List.getD_eq_getElem?_getD, List.getElem?_eq_getElem h]; rfl
/-- One more number. -/
theorem alike_at (l : List Int) (p z n : Nat) (hn : n ≤ 66) : (n < 66 ∧ z + n < l.length ∧ l.getD (p + n) 0 = l.getD (z + n) 0 ∧ p ≤ z → Pu.alike (66 - n) (l.drop (p + n)) (l.drop (z + n)) = Pu.alike (66 - (n + 1)) (l.drop (p + (n + 1))) (l.drop (z + (n + 1))) + 1) ∧
    (¬ (n < 66 ∧ z + n < l.length ∧ l.getD (p + n) 0 = l.getD (z + n) 0) → p ≤ z → Pu.alike (66 - n) (l.drop (p + n)) (l.drop (z + n)) = 0) := by
  constructor
  · rintro ⟨h1, h2, h3, h4⟩
    obtain ⟨m, hm⟩ : ∃ m, 66 - n = m + 1 := ⟨66 - n - 1, by omega⟩
    rw [hm, show 66 - (n + 1) = m by omega]
    have hp : p + n < l.length := by omega
    rw [List.drop_eq_getElem_cons h2, List.drop_eq_getElem_cons hp]
    rw [getD_lt l _ h2, getD_lt l _ hp] at h3
    rw [Pu.alike, if_pos h3]
    rfl
  · intro h hp
    rcases Nat.lt_or_ge n 66 with h1 | h1
    · obtain ⟨m, hm⟩ : ∃ m, 66 - n = m + 1 := ⟨66 - n - 1, by omega⟩
      rw [hm]
      rcases Nat.lt_or_ge (z + n) l.length with h2 | h2
      · have hp' : p + n < l.length := by omega
        rw [List.drop_eq_getElem_cons h2, List.drop_eq_getElem_cons hp']
        rw [getD_lt l _ h2, getD_lt l _ hp'] at h
        rw [Pu.alike, if_neg (fun e => h ⟨h1, h2, e⟩)]
      · rw [List.drop_eq_nil_of_le h2]
        cases l.drop (p + n) <;> rfl
    · rw [show 66 - n = 0 by omega]
      cases l.drop (p + n) <;> rfl
theorem cell_int {w : World} {A : Option Addr} {l : List Int} (h : Kd.C (Kd.int .i64) w A l.length l) (i : Nat) (hi : i < l.length) : ∃ ad, A = some ad ∧ w.cell? (ad.add i) = some (.int .i64 (l.getD i 0)) := by
  obtain ⟨ad, c, e, _, hK, hc0⟩ := Kd.C_get h (0 : Int) (i : Int) (by omega) (by omega)
  obtain rfl : c = [Value.int .i64 (l.getD (i : Int).toNat 0)] := hK
  refine ⟨ad, e, ?_⟩
  have := hc0 0 _ rfl
  simpa [show (Kd.int .i64).sz = 1 from rfl] using this
def MtI (l : List Int) (z : Nat) (ps : List Nat) (A0 : Option Addr) (c0 b : Nat) (W2 : World) (pre : List (Fin (pI ps).length)) (W : World) : Prop :=
  mtOk z ps pre ∧ Boxed W b 26 (.slice A0 l.length c0) ∧ Boxed W (b + 1) 3 (.int .i64 z) ∧ Boxed W (b + 2) 3 (.int .i64 ((mtS l z ps pre).1 : Nat)) ∧ Boxed W (b + 3) 3 (.int .i64 ((mtS l z ps pre).2 : Nat)) ∧ Below b W2 W
theorem mtI_own (l : List Int) (z : Nat) (ps : List Nat) (A0 : Option Addr) (c0 b : Nat) (W2 : World) (hb : b ≤ W2.heap.size) : OwnFrom W2.heap.size (MtI l z ps A0 c0 b W2) :=
  OwnFrom.and (ownFrom_pure _ _) (OwnFrom.and ((boxed_own _ _ (fun _ => _)).from _) (OwnFrom.and ((boxed_own _ _ (fun _ => _)).from _) (OwnFrom.and ((boxed_own _ _ (fun pre => .int .i64 ((mtS l z ps pre).1 : Nat))).from _) (OwnFrom.and ((boxed_own _ _ (fun pre => .int .i64 ((mtS l z ps pre).2 : Nat))).from _) (ownFrom_below hb hb)))))
section
variable {l : List Int} {z : Nat} {ps : List Nat} {A0 : Option Addr} {c0 b : Nat} {W2 w : World} {pre : List (Fin (pI ps).length)} {x : Fin (pI ps).length} {W : World} {s1 n q : Nat}
theorem mt_put (hI : MtI l z ps A0 c0 b W2 pre W) (hb : b + 4 < W2.heap.size) (hw : w.heap.size = b) (hs : s1 = (mtS l z ps pre).1) (hn : Pu.nAt l z q = n) (hg : s1 < n)
    (h : mtOk z ps (pre ++ [x]) ∧ mtS l z ps (pre ++ [x]) = if (mtS l z ps pre).1 < Pu.nAt l z q then (Pu.nAt l z q, q) else mtS l z ps pre) (m : Nat) :
    KeepsFrom W2.heap.size W (((W.drewN m).setCell ⟨b + 2, 0, none⟩ (.int .i64 (n : Nat))).setCell ⟨b + 3, 0, none⟩ (.int .i64 (q : Nat))) ∧ KpC w.heap.size (fun k => k = b + 4) W (((W.drewN m).setCell ⟨b + 2, 0, none⟩ (.int .i64 (n : Nat))).setCell ⟨b + 3, 0, none⟩ (.int .i64 (q : Nat))) ∧ MtI l z ps A0 c0 b W2 (pre ++ [x]) (((W.drewN m).setCell ⟨b + 2, 0, none⟩ (.int .i64 (n : Nat))).setCell ⟨b + 3, 0, none⟩ (.int .i64 (q : Nat))) := by
  obtain ⟨h1, h2⟩ := h
  rw [← hs, hn, if_pos hg] at h2
  obtain ⟨hok, bB, bZ, bL, bK, hB6⟩ := hI
  have hz := hB6.size
  have hB : Below b W (((W.drewN m).setCell ⟨b + 2, 0, none⟩ (.int .i64 (n : Nat))).setCell ⟨b + 3, 0, none⟩ (.int .i64 (q : Nat))) := ((pw_below_drewN (Below.refl b W) m).setCell (p := ⟨b + 2, 0, none⟩) (by show b ≤ b + 2; omega) _).setCell (p := ⟨b + 3, 0, none⟩) (by show b ≤ b + 3; omega) _
  have hk : ∀ k, k ≠ b + 2 → k ≠ b + 3 → (((W.drewN m).setCell ⟨b + 2, 0, none⟩ (.int .i64 (n : Nat))).setCell ⟨b + 3, 0, none⟩ (.int .i64 (q : Nat))).heap[k]? = W.heap[k]? := fun k h1 h2 => (Below.heap_setCell _ ⟨b + 3, 0, none⟩ _ k h2).trans (Below.heap_setCell (W.drewN m) ⟨b + 2, 0, none⟩ _ k h1)
  refine ⟨⟨hB.size, fun k o hk1 ho _ => (hk k (by omega) (by omega)).trans ho⟩, ⟨by rw [hw]; exact hB, fun k o hk1 ho _ => (hk k (by omega) (by omega)).trans ho⟩, h1, (hk _ (by omega) (by omega)).trans bB, (hk _ (by omega) (by omega)).trans bZ, ?_, ?_, hB6.trans hB⟩
  · rw [h2]
    exact (Boxed.set _ (show Boxed (W.drewN m) (b + 2) _ _ from bL)).other (by omega) _
  · rw [h2]
    exact Boxed.set _ ((show Boxed (W.drewN m) (b + 3) _ _ from bK).other (by omega) _)
theorem mt_same (hI : MtI l z ps A0 c0 b W2 pre W) (hw : w.heap.size = b) (hs : s1 = (mtS l z ps pre).1) (hn : Pu.nAt l z q = n) (hg : ¬ s1 < n)
    (h : mtOk z ps (pre ++ [x]) ∧ mtS l z ps (pre ++ [x]) = if (mtS l z ps pre).1 < Pu.nAt l z q then (Pu.nAt l z q, q) else mtS l z ps pre) (m : Nat) :
    KeepsFrom W2.heap.size W (W.drewN m) ∧ KpC w.heap.size (fun k => k = b + 4) W (W.drewN m) ∧ MtI l z ps A0 c0 b W2 (pre ++ [x]) (W.drewN m) := by
  obtain ⟨h1, h2⟩ := h
  rw [← hs, hn, if_neg hg] at h2
  obtain ⟨hok, bB, bZ, bL, bK, hB6⟩ := hI
  refine ⟨⟨Nat.le_refl _, fun k o hk1 ho _ => ho⟩, ⟨pw_below_drewN (Below.refl _ W) m, fun k o hk1 ho _ => ho⟩, h1, bB, bZ, by rw [h2]; exact bL, by rw [h2]; exact bK, pw_below_drewN hB6 m⟩
end
set_option maxRecDepth 100000 in
set_option maxHeartbeats 4000000 in
theorem match_calls (A0 : Option Addr) (c0 : Nat) (l : List Int) (z : Nat) (A2 : Option Addr) (c2 : Nat) (ps : List Nat) (w : World) (hr0 : Kd.C (Kd.int .i64) w A0 l.length l) (hl : l.length ≤ 1000) (hz : z < l.length) (hr2 : Kd.C (Kd.int .i64) w A2 (pI ps).length (pI ps)) (hp : ∀ p ∈ ps, p < z) (hpl : ps.length ≤ 1000) :
    Calls Try.prog 63 #[.slice A0 l.length c0, .int .i64 z, .slice A2 (pI ps).length c2] w fun e w' =>
      e = .returned (.tuple #[.int .i64 ((Pu.near (Pu.nAt l z) z ps.reverse (0, 0)).1 : Nat), .int .i64 ((Pu.near (Pu.nAt l z) z ps.reverse (0, 0)).2 : Nat)]) ∧ Below w.heap.size w w' := by
  refine (callsIn_wide (n := 5)).1 ?_
  have hro : Fence.wide.round = none := rfl
  refine callsIn_of_wp_marks Try.func63 rfl trivial ?_ hro
  simp only [Try.ntmps63, List.size_toArray, List.length_cons, List.length_nil, Nat.reduceAdd, Nat.reduceSub, Array.replicate_succ, Array.replicate_zero, List.push_toArray, List.append_toArray, List.nil_append, List.cons_append]
  gi_wp2_with (refine ⟨trivial, ?_⟩; gi_at_call 77; refine (back_in Fence.wide 4 trivial hro A2 (pI ps).length c2 _).mono ?_; rintro e w3 ⟨rfl, rfl⟩)
  obtain ⟨b, hbk⟩ : ∃ b, w.heap.size = b := ⟨_, rfl⟩
  have bB := Boxed.new w 26 (.slice A0 l.length c0)
  have bZ := Boxed.new (w.alloc (.cells #[.slice A0 l.length c0] 26)) 3 (.int .i64 z)
  have bL := Boxed.new ((w.alloc (.cells #[.slice A0 l.length c0] 26)).alloc (.cells #[.int .i64 z] 3)) 3 (.int .i64 0)
  have bK := Boxed.new (((w.alloc (.cells #[.slice A0 l.length c0] 26)).alloc (.cells #[.int .i64 z] 3)).alloc (.cells #[.int .i64 0] 3)) 3 (.int .i64 0)
  have bS := Boxed.new ((((w.alloc (.cells #[.slice A0 l.length c0] 26)).alloc (.cells #[.int .i64 z] 3)).alloc (.cells #[.int .i64 0] 3)).alloc (.cells #[.int .i64 0] 3)) 26 (.slice A2 (pI ps).length c2)
  have hB2 : Below w.heap.size w (((((w.alloc (.cells #[.slice A0 l.length c0] 26)).alloc (.cells #[.int .i64 z] 3)).alloc (.cells #[.int .i64 0] 3)).alloc (.cells #[.int .i64 0] 3)).alloc (.cells #[.slice A2 (pI ps).length c2] 26)) := below_alloc (below_alloc (below_alloc (below_alloc (below_alloc (Below.refl _ _) _) _) _) _) _
  replace bB := (((bB.alloc (.cells #[.int .i64 z] 3)).alloc (.cells #[.int .i64 0] 3)).alloc (.cells #[.int .i64 0] 3)).alloc (.cells #[.slice A2 (pI ps).length c2] 26)
  replace bZ := ((bZ.alloc (.cells #[.int .i64 0] 3)).alloc (.cells #[.int .i64 0] 3)).alloc (.cells #[.slice A2 (pI ps).length c2] 26)
  replace bL := (bL.alloc (.cells #[.int .i64 0] 3)).alloc (.cells #[.slice A2 (pI ps).length c2] 26)
  replace bK := bK.alloc (.cells #[.slice A2 (pI ps).length c2] 26)
  simp only [World.size_alloc, hbk, Nat.add_assoc, Nat.reduceAdd] at bB bZ bL bK bS hB2 ⊢
  generalize ((((w.alloc (.cells #[.slice A0 l.length c0] 26)).alloc (.cells #[.int .i64 z] 3)).alloc (.cells #[.int .i64 0] 3)).alloc (.cells #[.int .i64 0] 3)).alloc (.cells #[.slice A2 (pI ps).length c2] 26) = W2 at bB bZ bL bK bS hB2 ⊢
  have hB2w : Below w.heap.size w W2 := by rw [hbk]; exact hB2
  have hbW := bS.lt
  refine wpIn_rangeFunc_ownH hro (by decide) (gf := 86) (lb := #[.pointer (some ⟨b + 4, 0, none⟩)]) rfl trivial (enters_of Try.func86 (by kernel_rfl) rfl)
    (back_stops Fence.wide 4 trivial hro (by decide) w A2 c2 (pI ps) hr2 (by rw [pI_len]; omega) (b + 4) W2 hB2w bS) kpC_t (kpC_b hB2w.size) (Below.refl _ _) (fun _ => rfl)
    (MtI l z ps A0 c0 b W2)
    (fun c pre W => c = .exit 0 ∧ ∃ pre' x, pre = pre' ++ [x] ∧ 200 < z - pv ps x ∧ MtI l z ps A0 c0 b W2 pre' W)
    (mtI_own l z ps A0 c0 b W2 (by omega))
    (fun c => by
      intro pre W W' row hs hg hr
      obtain ⟨h1, pre', x, h2, h3, h4⟩ := hs
      exact ⟨h1, pre', x, h2, h3, mtI_own l z ps A0 c0 b W2 (by omega) pre' W W' row h4 hg hr⟩)
    ⟨fun x hx => by simp at hx, bB, bZ, bL, bK, Below.refl _ _⟩
    (fun x a' W => a' = { tmps := #[.slice A0 l.length c0, .int .i64 z, .slice A2 (pI ps).length c2, .pointer (some ⟨b, 0, none⟩), .pointer (some ⟨b + 1, 0, none⟩), undef, .int .i64 0, .int .i64 0, .pointer (some ⟨b + 2, 0, none⟩), .pointer (some ⟨b + 3, 0, none⟩), undef, .int .i64 (pv ps x : Nat), undef, .slice A2 (pI ps).length c2, .func (.func 86) #[] #[.pointer (some ⟨b + 4, 0, none⟩)], .int .i64 x.val, .int .i64 (pv ps x : Nat), undef, undef, undef, undef, undef, undef, undef, undef, undef, undef, undef, undef, undef, undef, undef, undef, undef, undef, undef, undef, undef, undef, undef, undef, undef, undef, undef, undef, undef, undef, undef, undef, undef, undef, undef, undef, undef, undef, undef, undef], defers := [] })
    (fun x a' => fun _ _ _ _ hs _ _ => hs)
    ?assign ?body ?done ?stop
  case assign =>
    rintro lp pre x W K hI hK
    simp only [bEnc, pI_get] at hK ⊢
    gi_wp2
    exact hK _ _ (KeepsFrom.refl _ _) ⟨Below.refl _ _, fun _ _ _ h _ => h⟩ hI rfl
  case body =>
    rintro lp pre x a' W hl ⟨r, hr⟩ ⟨hok, bB, bZ, bL, bK, hB6⟩ rfl hlt2
    have hpx := hp _ (pv_mem ps x)
    have HI := Aside0.mk (show MtI l z ps A0 c0 b W2 pre W from ⟨hok, bB, bZ, bL, bK, hB6⟩)
    have HC := Aside0.mk (Kd.C_below hr0 (by rw [hbk]; exact (hB2.trans hB6)))
    have HU := Aside0.mk (And.intro hB2 hbW)
    have HW := Aside0.mk hbk
    clear hr hp
    obtain ⟨p, hpv⟩ : ∃ p, p = pv ps x := ⟨_, rfl⟩
    rw [← hpv] at hpx ⊢
    have cZ := bZ.cell
    have cB := bB.cell
    have cL := bL.cell
    have fL := bL.frozen
    have cK := bK.cell
    have fK := bK.frozen
    obtain ⟨s2, hs2⟩ : ∃ s2, s2 = (mtS l z ps pre).2 := ⟨_, rfl⟩
    rw [← hs2] at cK
    have hS2 := Aside0.mk hs2
    clear hs2
    obtain ⟨s1, hs1⟩ : ∃ s1, s1 = (mtS l z ps pre).1 := ⟨_, rfl⟩
    rw [← hs1] at cL
    have hS1 := Aside0.mk hs1
    clear hs1
    have hw1 := wr_sub z p (by omega) (by omega)
    have hsn0 := mt_snoc (l := l) (x := x) hok
    rw [← hpv] at hsn0
    clear hok bB bZ bL bK hB6 hB2 hB2w hbW hr0 hr2 bS hlt2
    obtain ⟨q, hq⟩ : ∃ q, q = z - p := ⟨_, rfl⟩
    rw [← hq] at hw1 hsn0
    have HP := Aside0.mk (And.intro hpv hq)
    have hqz : q ≤ z := by omega
    have hpq : z - q = p := by omega
    have hPQ := Aside0.mk (And.intro hqz hpq)
    clear hqz hpq
    by_cases hfar : 200 < q
    · have hf1 : (q : Int) > 200 := by omega
      have HF := Aside0.mk (show 200 < z - pv ps x by rw [← hpv, ← hq]; exact hfar)
      clear hsn0 hfar hpv hq
      gi_wp2
      exact ⟨KeepsFrom.refl _ _, rfl, pre, x, rfl, HF.out, HI.out⟩
    · have hf1 : ¬ ((q : Int) > 200) := by omega
      have hsn := Aside0.mk (hsn0 hfar)
      clear hpv hq hsn0 hfar
      gi_wp2
      gi_loopw [12] (fun v12 wr => ∃ n : Nat, v12 = .int .i64 n ∧ n ≤ 66 ∧ n ≤ l.length ∧ Aside0 (Pu.alike 66 (l.drop p) (l.drop z) = n + Pu.alike (66 - n) (l.drop (p + n)) (l.drop (z + n))) ∧ Drawn0 W wr) (fun v12 _ => 66 - (intOf v12).toNat)
      case atStart => exact ⟨0, rfl, Nat.zero_le _, Nat.zero_le _, ⟨by simp⟩, Drawn0.refl _⟩
      case round =>
        obtain ⟨n, rfl, hn, hnl, hal, ⟨m1, rfl⟩⟩ := hrel
        obtain ⟨hst, hno⟩ := alike_at l p z n hn
        have hz1 := wr_add z n (by omega)
        have hp1 := wr_add p n (by omega)
        have hno2 : ¬ (n < 66 ∧ z + n < l.length ∧ l.getD (p + n) 0 = l.getD (z + n) 0) → Pu.nAt l z q = n := fun h => by
          have h1 := hno h (by omega)
          have h2 := hal.out
          rw [h1] at h2
          unfold Pu.nAt
          rw [hPQ.out.2]
          exact h2
        obtain ⟨zn, hzn⟩ : ∃ zn, zn = z + n := ⟨_, rfl⟩
        obtain ⟨pn, hpn⟩ : ∃ pn, pn = p + n := ⟨_, rfl⟩
        rw [← hzn] at hz1 hno2 hst
        rw [← hpn] at hp1 hno2 hst
        have HP1 := Aside0.mk hp1
        have HST := Aside0.mk hst
        have HNO := Aside0.mk hno2
        have HZ := Aside0.mk (And.intro hzn hpn)
        have HN := Aside0.mk (And.intro hn hnl)
        have HL := Aside0.mk (And.intro hpx (And.intro hz hl))
        clear hst hno hno2 hzn hpn hn hnl hp1
        by_cases h66 : n < 66
        · by_cases hzl : zn < l.length
          · obtain ⟨ad, rfl, hx1⟩ := cell_int HC.out zn hzl
            obtain ⟨ad2, e2, hx2⟩ := cell_int HC.out pn (by have := HZ.out; omega)
            cases e2
            obtain ⟨x1, hx1e⟩ : ∃ x1, x1 = l.getD zn 0 := ⟨_, rfl⟩
            obtain ⟨x2, hx2e⟩ : ∃ x2, x2 = l.getD pn 0 := ⟨_, rfl⟩
            rw [← hx1e] at hx1
            rw [← hx2e] at hx2
            have HX := Aside0.mk (And.intro hx1e hx2e)
            clear hx1e hx2e
            have h66i : decide ((n : Int) < 66) = true := decide_eq_true (by omega)
            have hzli : (zn : Int) < (l.length : Int) := by omega
            have H66 := Aside0.mk (And.intro h66 hzl)
            have hp1 := HP1.out
            clear h66 hzl
            have hpli : (pn : Int) < (l.length : Int) := by have := HZ.out; omega
            by_cases hxe : x2 = x1
            · have hxb : (x2 == x1) = true := beq_iff_eq.2 hxe
              gi_wp2
              refine wpInR_quiet (by kernel_rfl) (by kernel_rfl) (by kernel_rfl) ?_
              repeat (first | go_big_quiet_step (fail) | quiet_step (fail))
              refine wpQuiet_nil ?_
              intro _ hw'
              obtain ⟨nq, hw''⟩ := hw'
              subst hw''
              have hnn := HN.out
              have h66 := H66.out.1
              have hzl := H66.out.2
              have hLL := HL.out
              have hZZ := HZ.out
              have hn1 : IntKind.i64.wrap ((n : Int) + 1) = (n : Int) + 1 := wr_add n 1 (by omega)
              gi_wp2
              refine ⟨⟨n + 1, by simp, by omega, by omega, ⟨?_⟩, ⟨_, rfl⟩⟩, by simp [intOf]; omega⟩
              have h3 := HX.out
              have h2 := hal.out
              obtain ⟨h4, h5⟩ := HZ.out
              have h1 := HST.out ⟨h66, hzl, by rw [← h3.1, ← h3.2]; exact hxe, by omega⟩
              rw [h4, h5] at h1
              rw [h2, h1]
              omega
            · have hxb : (x2 == x1) = false := beq_eq_false_iff_ne.2 hxe
              have HE := Aside0.mk (HNO.out (fun h => hxe (by have h3 := HX.out; rw [h3.1, h3.2]; exact h.2.2)))
              by_cases hgt : s1 < n
              · have hgti : (n : Int) > (s1 : Int) := by omega
                gi_wp2
                refine wpInR_quiet (by kernel_rfl) (by kernel_rfl) (by kernel_rfl) ?_
                repeat (first | go_big_quiet_step (fail) | quiet_step (fail))
                refine wpQuiet_nil ?_
                intro _ hw'
                obtain ⟨nq, hw''⟩ := hw'
                subst hw''
                gi_wp2
                gi_region
                all_goals exact mt_put HI.out HU.out.2 HW.out hS1.out HE.out hgt hsn.out _
              · have hgti : ¬ ((n : Int) > (s1 : Int)) := by omega
                gi_wp2
                refine wpInR_quiet (by kernel_rfl) (by kernel_rfl) (by kernel_rfl) ?_
                repeat (first | go_big_quiet_step (fail) | quiet_step (fail))
                refine wpQuiet_nil ?_
                intro _ hw'
                obtain ⟨nq, hw''⟩ := hw'
                subst hw''
                gi_wp2
                exact mt_same HI.out HW.out hS1.out HE.out hgt hsn.out _
          · have h66i : (n : Int) < 66 := by omega
            have hzli : decide ((zn : Int) < (l.length : Int)) = false := decide_eq_false (by omega)
            have hzln : decide (zn < l.length) = false := decide_eq_false hzl
            have HE := Aside0.mk (HNO.out (fun h => hzl h.2.1))
            clear hzl h66
            by_cases hgt : s1 < n
            · have hgti : (n : Int) > (s1 : Int) := by omega
              gi_wp2
              refine wpInR_quiet (by kernel_rfl) (by kernel_rfl) (by kernel_rfl) ?_
              repeat (first | go_big_quiet_step (fail) | quiet_step (fail))
              refine wpQuiet_nil ?_
              intro _ hw'
              obtain ⟨nq, hw''⟩ := hw'
              subst hw''
              gi_wp2
              gi_region
              all_goals exact mt_put HI.out HU.out.2 HW.out hS1.out HE.out hgt hsn.out _
            · have hgti : ¬ ((n : Int) > (s1 : Int)) := by omega
              gi_wp2
              refine wpInR_quiet (by kernel_rfl) (by kernel_rfl) (by kernel_rfl) ?_
              repeat (first | go_big_quiet_step (fail) | quiet_step (fail))
              refine wpQuiet_nil ?_
              intro _ hw'
              obtain ⟨nq, hw''⟩ := hw'
              subst hw''
              gi_wp2
              exact mt_same HI.out HW.out hS1.out HE.out hgt hsn.out _
        · have h66i : decide ((n : Int) < 66) = false := decide_eq_false (by omega)
          have HE := Aside0.mk (HNO.out (fun h => h66 h.1))
          clear h66
          by_cases hgt : s1 < n
          · have hgti : (n : Int) > (s1 : Int) := by omega
            gi_wp2
            refine wpInR_quiet (by kernel_rfl) (by kernel_rfl) (by kernel_rfl) ?_
            repeat (first | go_big_quiet_step (fail) | quiet_step (fail))
            refine wpQuiet_nil ?_
            intro _ hw'
            obtain ⟨nq, hw''⟩ := hw'
            subst hw''
            gi_wp2
            gi_region
            all_goals exact mt_put HI.out HU.out.2 HW.out hS1.out HE.out hgt hsn.out _
          · have hgti : ¬ ((n : Int) > (s1 : Int)) := by omega
            gi_wp2
            refine wpInR_quiet (by kernel_rfl) (by kernel_rfl) (by kernel_rfl) ?_
            repeat (first | go_big_quiet_step (fail) | quiet_step (fail))
            refine wpQuiet_nil ?_
            intro _ hw'
            obtain ⟨nq, hw''⟩ := hw'
            subst hw''
            gi_wp2
            exact mt_same HI.out HW.out hS1.out HE.out hgt hsn.out _
  case done =>
    rintro D ys W hD hys ⟨hok, bB, bZ, bL, bK, hB6⟩ hK
    rw [mt_end hys] at bL bK
    have cL := bL.cell
    have cK := bK.cell
    have HX := Aside0.mk (And.intro hB2 (And.intro hB6 (And.intro hK (And.intro hD hbk))))
    clear hr0 hr2 hp hok bB bZ bL bK hB6 hys hB2w bS hbW hB2 hK hD hbk
    gi_wp2
    refine wpIn_wide.2 ?_
    go_quiet (fail)
    gi_wp2
    obtain ⟨hB2, hB6, hK, hD, hbk⟩ := HX.out
    refine ⟨by simp, .inl ⟨_, _, rfl, run_takeDeferred (w := W.drewN nq) hK, ?_⟩⟩
    refine ⟨_, results_tmp2 rfl _ _ _, rfl, ?_⟩
    subst hbk
    exact (hB2.trans (pw_below_drewN hB6 nq)).trans (belowK_b (w := W2) hB2.size (W.drewN nq) D _ _ hD hK rfl rfl)
  case stop =>
    rintro D c pre W hD hpre ⟨rfl, pre', x, rfl, hx, hok, bB, bZ, bL, bK, hB6⟩ hK
    rw [mt_stop hpre hok hx] at bL bK
    have cL := bL.cell
    have cK := bK.cell
    have HX := Aside0.mk (And.intro hB2 (And.intro hB6 (And.intro hK (And.intro hD hbk))))
    clear hr0 hr2 hp hok bB bZ bL bK hB6 hpre hx hB2w bS hbW hB2 hK hD hbk
    gi_wp2
    refine wpIn_wide.2 ?_
    go_quiet (fail)
    gi_wp2
    obtain ⟨hB2, hB6, hK, hD, hbk⟩ := HX.out
    refine ⟨by simp, .inl ⟨_, _, rfl, run_takeDeferred (w := W.drewN nq) hK, ?_⟩⟩
    refine ⟨_, results_tmp2 rfl _ _ _, rfl, ?_⟩
    subst hbk
    exact (hB2.trans (pw_below_drewN hB6 nq)).trans (belowK_b (w := W2) hB2.size (W.drewN nq) D _ _ hD hK rfl rfl)
end Go.Proofs.Ythoioccmnphfgaa.G

namespace Go.Proofs.Ythoioccmnphfgaa.G
open Go.RowKit Go.Shelf Go.Proofs.YthoioccmnphfgaaW.PrintWords Go.Proofs.YthoioccmnphfgaaW.PrintLast Go.Proofs.YthoioccmnphfgaaW.PrintMore
attribute [local go_sem] Oper.semAt_some
set_option linter.unusedVariables false
set_option linter.unusedSimpArgs false
/-- How many pieces n numbers have. -/
def chN (n : Nat) : Nat := (n + 63) / 64
def cEnc (ad : Option Addr) (n : Nat) (x : Fin (chN n)) : Array Value := #[.slice (ad.map (·.add (64 * x.val))) (min 64 (n - 64 * x.val)) (min 64 (n - 64 * x.val))]
set_option maxRecDepth 100000 in
set_option maxHeartbeats 4000000 in
theorem chunk1_in (F : Fence) (n : Nat) (hf : F.fn 76) (hro : F.round = none) (hn : 1 ≤ n) (n₀ : Nat) (ad : Option Addr) (c0 len : Nat) (hnil : ad = none → len = 0) (hc : len ≤ c0) (hcm : c0 ≤ 9223372036854775807) (hlen : len ≤ 100000) (S : Nat → Prop) (lp Bs Bn : Nat) (hS1 : S Bs) (hS2 : S Bn) (J Jx : List (Fin (chN len)) → World → Prop)
    (hY : ∀ pre x W, J pre W → pre.length < chN len → YieldAt F (n - 1) Try.prog lp (cEnc ad len x) W fun e W' =>
      (e = .returned (.bool true) ∧ J (pre ++ [x]) W' ∧ KpC n₀ S W W') ∨ (e = .returned (.bool false) ∧ Jx (pre ++ [x]) W'))
    (W : World) (hJ' : AbidesFrom W.heap.size J) (hBs : Boxed W Bs 26 (.slice ad len c0)) (hBn : Boxed W Bn 3 (.int .i64 64)) (h0 : J [] W) :
    CallsIn F n Try.prog 76 #[.func (.yield lp) #[] #[], .pointer (some ⟨Bs, 0, none⟩), .pointer (some ⟨Bn, 0, none⟩)] W fun e W' => (∃ v, e = .returned v) ∧
      ((∃ ys, ys.map Fin.val = List.range (chN len) ∧ J ys W') ∨ (∃ pre, pre.map Fin.val <+: List.range (chN len) ∧ Jx pre W')) := by
  refine callsIn_of_wp Try.func76 rfl hf ?_ hro
  simp only [Try.ntmps76, List.size_toArray, List.length_cons, List.length_nil, Nat.reduceAdd, Nat.reduceSub, Array.replicate_succ, Array.replicate_zero, List.push_toArray, List.append_toArray, List.nil_append, List.cons_append]
  gi_wp2
  gi_loopw [4] (fun p wr => ∃ (m : Nat) (pre : List (Fin (chN len))), p = .int .i64 ((64 * m : Nat) : Int) ∧ m ≤ chN len ∧ pre.map Fin.val = List.range m ∧ Aside0 (J pre wr) ∧ Boxed wr Bs 26 (.slice ad len c0) ∧ Boxed wr Bn 3 (.int .i64 64)) (fun p _ => 200000 - (intOf p).toNat)
  case atStart => exact ⟨0, [], rfl, Nat.zero_le _, rfl, ⟨h0⟩, hBs, hBn⟩
  case round =>
    obtain ⟨m, pre, rfl, hm, hpre, hJs, bS, bN⟩ := hrel
    have cS := bS.cell
    have cN := bN.cell
    have HB := Aside0.mk (And.intro bS bN)
    clear hBs hBn bS bN
    obtain ⟨i, hi⟩ : ∃ i, i = 64 * m := ⟨_, rfl⟩
    rw [← hi]
    by_cases hlt : i < len
    · have hmN : m < chN len := by unfold chN; omega
      cases ad with
      | none => have := hnil rfl; omega
      | some ad =>
        obtain ⟨e, he⟩ : ∃ e, e = min 64 (len - i) := ⟨_, rfl⟩
        have hmn : (if ((len - i : Nat) : Int) < 64 then ((len - i : Nat) : Int) else 64) = (e : Int) := by
          split <;> omega
        have hJ4 := hY pre ⟨m, hmN⟩ wr.drew (hJ' pre wr wr.drew none hJs.out ⟨rfl, rfl, rfl, Nat.le_refl _, fun _ _ _ => rfl⟩ (fun r e => by cases e)) (by
          have := congrArg List.length hpre
          simp at this
          omega)
        obtain ⟨fn, tmps, assign, body, hy, hR⟩ := hJ4
        simp only [cEnc, Option.map_some, ← hi, ← he] at hy
        have HE := Aside0.mk (And.intro he hi)
        have hie : i + e ≤ len := by omega
        have he0 : 0 < e := by omega
        obtain ⟨ie, hie2⟩ : ∃ ie, ie = i + e := ⟨_, rfl⟩
        have hw1 : IntKind.i64.wrap ((i : Int) + (e : Int)) = (ie : Int) := by rw [hie2]; exact wr_add i e (by omega)
        have hsub : ie - i = e := by omega
        have h1 : (i : Int) < (len : Int) := by omega
        have h2 : (i : Int) ≤ (len : Int) := by omega
        have h3 : ¬ c0 = i := by omega
        have h4 : (len : Int) ≤ (c0 : Int) := by omega
        have h5 : (0 : Int) ≤ (i : Int) := by omega
        have h6 : (i : Int) ≤ (ie : Int) := by omega
        have h7 : (ie : Int) ≤ (c0 : Int) := by omega
        have h8 : ¬ ie = i := by omega
        have hw2 : IntKind.i64.wrap ((i : Int) + 64) = (i : Int) + 64 := wr_add i 64 (by omega)
        have hpre2 : (pre ++ [(⟨m, hmN⟩ : Fin (chN len))]).map Fin.val = List.range (m + 1) := by rw [List.map_append, hpre, List.range_succ]; rfl
        have hmeas : i + 64 < 200000 := by omega
        have H9 := Aside0.mk (And.intro hmN (And.intro hpre2 hmeas))
        have HR := Aside0.mk hR
        clear hY he hi hJ' h0 hm hlt hpre2 hmeas hie he0 hie2 hnil hc hcm hlen hR hpre
        gi_wp2
        gi_region
        all_goals
          gi_wp2
          refine HR.out.mono ?_
          rintro e' W3 (⟨rfl, hJ3', hk3⟩ | ⟨rfl, hJx3⟩)
          · have bS3 := kpC_box hk3 hS1 (show Boxed wr.drew Bs _ _ from HB.out.1)
            have bN3 := kpC_box hk3 hS2 (show Boxed wr.drew Bn _ _ from HB.out.2)
            have cN3 := bN3.cell
            have H10 := Aside0.mk hJ3'
            clear hJ3'
            gi_wp2
            go_roundw
            case rel =>
              refine ⟨m + 1, pre ++ [⟨m, hmN⟩], ?_, hmN, H9.out.2.1, H10, bS3, bN3⟩
              have := HE.out.2
              rw [this, Nat.mul_succ]
              simp
            case measure =>
              have := H9.out.2.2
              simp [intOf]
              omega
          · gi_wp2
            refine bodyPost_ret (results_none rfl _ _ _) rfl ?_
            refine ⟨⟨_, rfl⟩, .inr ⟨_, ?_, hJx3⟩⟩
            rw [H9.out.2.1]
            have : List.range (m + 1) = (List.range (chN len)).take (m + 1) := by
              rw [List.take_range, Nat.min_eq_left H9.out.1]
            rw [this]
            exact List.take_prefix _ _
    · obtain rfl : m = chN len := by unfold chN at hm ⊢; omega
      have hlti : ¬ ((i : Int) < (len : Int)) := by omega
      gi_wp2
      go_end0
      exact ⟨⟨_, rfl⟩, .inl ⟨pre, hpre, hJs.out⟩⟩
set_option maxHeartbeats 1000000 in
theorem chunk_in (F : Fence) (n : Nat) (hf : F.fn 61) (hro : F.round = none) (a : Option Addr) (len cap : Nat) (w : World) :
    CallsIn F n Try.prog 61 #[.slice a len cap, .int .i64 64] w fun e w' => e = .returned (.func (.func 76) #[] #[.pointer (some ⟨w.heap.size, 0, none⟩), .pointer (some ⟨w.heap.size + 1, 0, none⟩)]) ∧ w' = (w.alloc (.cells #[.slice a len cap] 26)).alloc (.cells #[.int .i64 64] 3) := by
  refine callsIn_of_wp Try.func61 rfl hf ?_ hro
  simp only [Try.ntmps61, List.size_toArray, List.length_cons, List.length_nil, Nat.reduceAdd, Nat.reduceSub, Array.replicate_succ, Array.replicate_zero, List.push_toArray, List.append_toArray, List.nil_append, List.cons_append]
  gi_wp2
  go_ret
  exact ⟨rfl, rfl⟩
theorem chunk_stops (F : Fence) (n : Nat) (hf : F.fn 76) (hro : F.round = none) (hn : 1 ≤ n) (n₀ : Nat) (ad : Option Addr) (c0 len : Nat) (hnil : ad = none → len = 0) (hc : len ≤ c0) (hcm : c0 ≤ 9223372036854775807) (hlen : len ≤ 100000) (S : Nat → Prop) (Bs Bn : Nat) (hS1 : S Bs) (hS2 : S Bn)
    (w0 : World) (hBs : Boxed w0 Bs 26 (.slice ad len c0)) (hBn : Boxed w0 Bn 3 (.int .i64 64)) :
    SeqStopsK F n Try.prog 76 #[.pointer (some ⟨Bs, 0, none⟩), .pointer (some ⟨Bn, 0, none⟩)] (cEnc ad len) (KpC n₀ S) (fun ys => ys.map Fin.val = List.range (chN len)) (fun pre => pre.map Fin.val <+: List.range (chN len)) (chN len) w0 := fun lp J Jx W hW hJ hJx hY h0 =>
  chunk1_in F n hf hro hn n₀ ad c0 len hnil hc hcm hlen S lp Bs Bn hS1 hS2 J Jx hY W hJ ((hW.block Bs hBs.lt).trans hBs) ((hW.block Bn hBn.lt).trans hBn) h0
end Go.Proofs.Ythoioccmnphfgaa.G

namespace Go.Proofs.Ythoioccmnphfgaa.G
open Go.RowKit Go.Shelf Go.Proofs.YthoioccmnphfgaaW.PrintWords Go.Proofs.YthoioccmnphfgaaW.PrintLast Go.Proofs.YthoioccmnphfgaaW.PrintMore
attribute [local go_sem] Oper.semAt_some
set_option linter.unusedVariables false
set_option linter.unusedSimpArgs false
/-- A row of one's own of whole numbers. -/
def IR (W : World) (base : Nat) (v : Value) (l : List Int) : Prop := Kd.R (Kd.int .i64) 3 W base (fun _ => True) v l
section
variable {W W' : World} {base b : Nat} {v u u' : Value} {l : List Int}
theorem IR.moved (h : IR W base v l) (hm : ∀ k, v.ownBlock = some k → W'.heap[k]? = W.heap[k]?) : IR W' base v l := Kd.R_mono (Kd.R_move (Kd.R_tight rfl h) fun k hk => hm k hk.symm) fun _ _ => trivial
theorem IR.grown (h : IR W base v l) {row : Option Nat} (hg : W.grownBy W' row) (hne : ∀ k, row = some k → some k ≠ v.ownBlock) : IR W' base v l := Kd.R_grown2 h rfl hg hne
theorem IR.kept {S : Nat → Prop} (h : IR W base v l) (hk : Kept W W' S) (hne : ∀ k, v.ownBlock = some k → ¬ S k) : IR W' base v l := h.moved fun k hk1 => hk.2 k (Kd.R_lt h k hk1) (hne k hk1)
theorem IR.box (h : IR W base v l) {t : TypeId} (ht : 3 ≠ t) (hb : Boxed W b t u) : some b ≠ v.ownBlock := Kd.R_ne h hb ht
theorem IR.setBox (h : IR W base v l) {t : TypeId} (ht : 3 ≠ t) (hb : Boxed W b t u) (x : Value) : IR (W.setCell ⟨b, 0, none⟩ x) base v l := Kd.R_set h hb (fun q hq => by
  have : q = 3 := by simpa [Kd.int, Kd.scalar] using hq
  rw [this]; exact ht) 0 x
theorem IR.lt (h : IR W base v l) : ∀ k, v.ownBlock = some k → k < W.heap.size := Kd.R_lt h
end
/-- What a piece says. -/
def pcOf (l : List Int) (j : Nat) : List Int := ((((l.drop (64 * j)).take 64).length : Int) - 1) :: (l.drop (64 * j)).take 64
theorem chN_succ (n : Nat) (h : 0 < n) : chN n = chN (n - 64) + 1 := by unfold chN; omega
theorem plainF_eq : ∀ (k : Nat) (l : List Int), l.length ≤ k → Pu.plainF k l = (List.range (chN l.length)).flatMap (pcOf l)
  | 0, l, h => by
    obtain rfl : l = [] := List.eq_nil_of_length_eq_zero (by omega)
    rfl
  | k + 1, l, h => by
    unfold Pu.plainF
    by_cases hl : l = []
    · subst hl
      rfl
    · have hp : 0 < l.length := List.length_pos_iff.2 hl
      rw [if_neg hl, chN_succ _ hp, List.range_succ_eq_map, List.flatMap_cons, plainF_eq k (l.drop 64) (by rw [List.length_drop]; omega), List.length_drop, List.flatMap_map]
      have e1 : pcOf l 0 = (((l.take 64).length : Int) - 1) :: l.take 64 := by unfold pcOf; simp
      have e2 : (fun a => pcOf l a.succ) = pcOf (l.drop 64) := by
        funext j
        unfold pcOf
        rw [List.drop_drop, show 64 + 64 * j = 64 * j.succ by rw [Nat.mul_succ]; omega]
      rw [e1, e2]
      rfl
theorem plainV_eq (l : List Int) : Pu.plainV l = (List.range (chN l.length)).flatMap (pcOf l) := plainF_eq _ l (Nat.le_refl _)
def flS (l : List Int) (pre : List (Fin (chN l.length))) : List Int := (pre.map Fin.val).flatMap (pcOf l)
theorem flS_snoc (l : List Int) (pre : List (Fin (chN l.length))) (x : Fin (chN l.length)) : flS l (pre ++ [x]) = flS l pre ++ pcOf l x.val := by unfold flS; rw [List.map_append, List.flatMap_append]; simp
theorem flS_len (l : List Int) : ∀ pre : List (Fin (chN l.length)), (flS l pre).length ≤ 65 * pre.length
  | [] => by simp [flS]
  | x :: pre => by
    have := flS_len l pre
    unfold flS at this ⊢
    rw [List.map_cons, List.flatMap_cons, List.length_append, List.length_cons]
    have h2 : (pcOf l x.val).length ≤ 65 := by unfold pcOf; rw [List.length_cons, List.length_take]; omega
    omega
def FlI (l out : List Int) (n0 bo : Nat) (vo vp : Value) (W0 : World) (N0 : Nat) (pre : List (Fin (chN l.length))) (W : World) : Prop :=
  ∃ v1, Boxed W bo 26 v1 ∧ IR W n0 v1 (out ++ flS l pre) ∧ (v1.ownBlock = vo.ownBlock ∨ ∃ k, v1.ownBlock = some k ∧ N0 ≤ k) ∧ Below n0 W0 W ∧ Kept W0 W (fun k => k = bo ∨ some k = vo.ownBlock) ∧ pre.length ≤ 100 ∧ N0 ≤ W.heap.size
theorem flI_own (l out : List Int) (n0 bo : Nat) (vo vp : Value) (W0 : World) (N0 B : Nat) (hB : W0.heap.size ≤ B) (hn : n0 ≤ W0.heap.size) : OwnFrom B (FlI l out n0 bo vo vp W0 N0) := by
  intro pre W W' row hs hg hr
  obtain ⟨v1, h1, h2, h3, h4, h5, h6, h7⟩ := hs
  have hne : ∀ k cs t fz, W.heap[k]? = some (.cells cs t fz) → some k ≠ row := by
    intro k cs t fz hk e
    obtain ⟨_, o, ho, hc⟩ := hr k e.symm
    rw [hk] at ho
    cases ho
    exact Bool.noConfusion hc
  refine ⟨v1, h1.kept hg (hne _ _ _ _ h1), h2.grown hg (fun k hk e => ?_), h3, h4.grown hg (Nat.le_trans hn h4.size) (fun k e => Nat.le_trans (Nat.le_trans hn hB) (hr k e).1), h5.of_grown hg (fun k e => .inr (Nat.le_trans hB (hr k e).1)), h6, Nat.le_trans h7 hg.size⟩
  obtain ⟨cs, hc⟩ := Kd.R_typed h2 k e.symm
  exact hne _ _ _ _ hc hk.symm
set_option maxRecDepth 100000 in
set_option maxHeartbeats 4000000 in
theorem flush_calls (l out : List Int) (n0 bp bo : Nat) (vo vp : Value) (W0 : World) (hbp : Boxed W0 bp 26 vp) (hbo : Boxed W0 bo 26 vo) (hP : IR W0 n0 vp l) (hO : IR W0 n0 vo out) (hne : bp ≠ bo) (hsep : ∀ k, vp.ownBlock = some k → vo.ownBlock ≠ some k)
    (hl : l.length ≤ 1000) (ho : out.length ≤ 100000) (h0p : n0 ≤ bp) (h0o : n0 ≤ bo) :
    Calls Try.prog 60 #[.pointer (some ⟨bp, 0, none⟩), .pointer (some ⟨bo, 0, none⟩)] W0 fun e W' => (∃ v, e = .returned v) ∧ ∃ v1 v2, Boxed W' bo 26 v1 ∧ IR W' n0 v1 (out ++ Pu.plainV l) ∧ (v1.ownBlock = vo.ownBlock ∨ ∃ k, v1.ownBlock = some k ∧ W0.heap.size ≤ k) ∧
      Boxed W' bp 26 v2 ∧ IR W' n0 v2 [] ∧ (∀ k, v2.ownBlock = some k → vp.ownBlock = some k) ∧ Below n0 W0 W' ∧ Kept W0 W' (fun k => k = bp ∨ k = bo ∨ some k = vo.ownBlock) := by
  refine (callsIn_wide (n := 5)).1 ?_
  have hro : Fence.wide.round = none := rfl
  obtain ⟨A, c, rfl⟩ := Kd.R_slice hP
  have hrd := Kd.R_reads' hP
  have hlc := hrd.2.1
  have hn0 : n0 ≤ W0.heap.size := Nat.le_trans h0p (Nat.le_of_lt hbp.lt)
  have hAn : A = none → l.length = 0 := fun e => by
    rcases Nat.eq_zero_or_pos l.length with h | h
    · exact h
    · obtain ⟨g, cap, h1, _⟩ := Kd.R_form hP h
      cases h1
      cases e
  have hcm : c ≤ 9223372036854775807 := by
    obtain ⟨inner, _, h2⟩ := Kd.R_own hP
    rcases h2 with ⟨h2, _⟩ | ⟨g, cap, cur, h2, _, _, _, h3, _⟩
    · injection h2 with _ _ e
      omega
    · injection h2 with _ _ e
      unfold maxLen at h3
      omega
  refine callsIn_of_wp_marks Try.func60 rfl trivial ?_ hro
  simp only [Try.ntmps60, List.size_toArray, List.length_cons, List.length_nil, Nat.reduceAdd, Nat.reduceSub, Array.replicate_succ, Array.replicate_zero, List.push_toArray, List.append_toArray, List.nil_append, List.cons_append]
  have cP := hbp.cell
  gi_wp2_with (refine ⟨trivial, ?_⟩; gi_at_call 61; refine (chunk_in Fence.wide 4 trivial hro A l.length c _).mono ?_; rintro e w3 ⟨rfl, rfl⟩)
  have bS := Boxed.new W0 26 (.slice A l.length c)
  have bN := Boxed.new (W0.alloc (.cells #[.slice A l.length c] 26)) 3 (.int .i64 64)
  replace bS := bS.alloc (.cells #[.int .i64 64] 3)
  have hB2 : Below W0.heap.size W0 ((W0.alloc (.cells #[.slice A l.length c] 26)).alloc (.cells #[.int .i64 64] 3)) := below_alloc (below_alloc (Below.refl _ _) _) _
  simp only [World.size_alloc, Nat.add_assoc, Nat.reduceAdd] at bS bN hB2 ⊢
  generalize (W0.alloc (.cells #[.slice A l.length c] 26)).alloc (.cells #[.int .i64 64] 3) = W2 at bS bN hB2 ⊢
  have hW2 := bN.lt
  have hP2 := hP.moved (W' := W2) fun k hk => hB2.block k (hP.lt k hk)
  have hO2 := hO.moved (W' := W2) fun k hk => hB2.block k (hO.lt k hk)
  have bP2 : Boxed W2 bp 26 (.slice A l.length c) := (hB2.block bp hbp.lt).trans hbp
  have bO2 : Boxed W2 bo 26 vo := (hB2.block bo hbo.lt).trans hbo
  have hI0 : FlI l out n0 bo vo (.slice A l.length c) W0 W2.heap.size [] W2 := ⟨vo, bO2, by unfold flS; simpa using hO2, .inl rfl, hB2.mono hn0, Kept.of_below hB2 _, Nat.zero_le _, Nat.le_refl _⟩
  refine wpIn_rangeFunc_ownH hro (by decide) (gf := 76) (lb := #[.pointer (some ⟨W0.heap.size, 0, none⟩), .pointer (some ⟨W0.heap.size + 1, 0, none⟩)]) rfl trivial (enters_of Try.func76 (by kernel_rfl) rfl)
    (chunk_stops Fence.wide 4 trivial hro (by decide) n0 A c l.length hAn hlc hcm (by omega) (fun k => k = W0.heap.size ∨ k = W0.heap.size + 1) W0.heap.size (W0.heap.size + 1) (.inl rfl) (.inr rfl) W2 bS bN) kpC_t (kpC_b (Nat.le_trans hn0 hB2.size)) (Below.refl _ _) (fun _ => rfl)
    (FlI l out n0 bo vo (.slice A l.length c) W0 W2.heap.size)
    (fun _ _ _ => False)
    (flI_own l out n0 bo vo _ W0 _ _ (by omega) hn0)
    (fun _ _ _ _ _ hs _ _ => hs)
    hI0
    (fun x a' W => a' = { tmps := #[.pointer (some ⟨bp, 0, none⟩), .pointer (some ⟨bo, 0, none⟩), .slice (A.map (·.add (64 * x.val))) (min 64 (l.length - 64 * x.val)) (min 64 (l.length - 64 * x.val)), .slice A l.length c, .func (.func 76) #[] #[.pointer (some ⟨W0.heap.size, 0, none⟩), .pointer (some ⟨W0.heap.size + 1, 0, none⟩)], .slice (A.map (·.add (64 * x.val))) (min 64 (l.length - 64 * x.val)) (min 64 (l.length - 64 * x.val)), undef, undef, undef, undef, undef, undef, undef, undef, undef, undef], defers := [] })
    (fun x a' => fun _ _ _ _ hs _ _ => hs)
    ?assign ?body ?done ?stop
  case assign =>
    rintro lp pre x W K hI hK
    simp only [cEnc] at hK ⊢
    gi_wp2
    exact hK _ _ (KeepsFrom.refl _ _) ⟨Below.refl _ _, fun _ _ _ h _ => h⟩ hI rfl
  case body =>
    rintro lp pre x a' W hlw ⟨r, hr⟩ ⟨v1, b1, i1, h3, h4, h5, h6, h10⟩ rfl hlt2
    have hx : 64 * x.val < l.length := by have := x.isLt; unfold chN at this; omega
    have i2 : IR W n0 (.slice A l.length c) l := hP.kept h5 (fun k hk e => by
      rcases e with rfl | e
      · exact hP.box (by decide) hbo hk.symm
      · exact hsep k hk e.symm)
    obtain ⟨i, hi⟩ : ∃ i, i = 64 * x.val := ⟨_, rfl⟩
    obtain ⟨m, hm⟩ : ∃ m, m = min 64 (l.length - i) := ⟨_, rfl⟩
    obtain ⟨A', hA'⟩ : ∃ A', A' = A.map (·.add i) := ⟨_, rfl⟩
    obtain ⟨pc, hpc⟩ : ∃ pc, pc = (l.drop i).take 64 := ⟨_, rfl⟩
    have hpl : pc.length = m := by rw [hpc, List.length_take, List.length_drop, hm]
    have hfl : flS l (pre ++ [x]) = flS l pre ++ (((m : Int) - 1) :: pc) := by rw [flS_snoc, pcOf, ← hi, ← hpc, hpl]
    have hlen := flS_len l pre
    have hCp : ∀ W', IR W' n0 (.slice A l.length c) l → Kd.C (Kd.int .i64) W' A' m pc := fun W' h => by
      have h1 := (Kd.R_reads' h).2.2
      have h2 := Kd.C_mid (c := c) (lo := i) (hi := i + m) h1 (by omega) (by omega) hlc
      rw [if_neg (by omega : ¬ c = i)] at h2
      have e1 : (l.take (i + m)).drop i = pc := by
        rw [hpc, List.drop_take, show i + m - i = m by omega]
        rcases Nat.lt_or_ge 64 (l.length - i) with h | h
        · rw [show m = 64 by omega]
        · rw [List.take_of_length_le (by rw [List.length_drop]; omega), List.take_of_length_le (by rw [List.length_drop]; omega)]
      rw [e1, hpl] at h2
      rw [hA']
      have e3 : (Kd.int .i64).sz = 1 := rfl
      rw [e3, Nat.mul_one] at h2
      exact h2
    simp only [← hi, ← hm, ← hA']
    have hm0 : 0 < m := by omega
    have hw1 : IntKind.i64.wrap ((m : Int) - 1) = (m : Int) - 1 := by rw [IntKind.wrap_i64]; omega
    have c1 := b1.cell
    have hbW : W0.heap.size ≤ W.heap.size := h4.size
    have HX := Aside0.mk (And.intro b1 (And.intro i1 (And.intro h3 (And.intro h4 (And.intro h5 (And.intro h6 (And.intro i2 (And.intro hCp (And.intro hfl (And.intro hlen (And.intro hpl (And.intro hx (And.intro hi (And.intro hm (And.intro hA' (And.intro hpc (And.intro hm0 h10)))))))))))))))))
    have HY := Aside0.mk (And.intro hbp (And.intro hbo (And.intro hP (And.intro hO (And.intro hne (And.intro hsep (And.intro hl (And.intro ho (And.intro h0p (And.intro h0o (And.intro hn0 (And.intro hB2 (And.intro hW2 (And.intro hlt2 hO.lt))))))))))))))
    have HB := Aside0.mk (And.intro hn0 (And.intro h4.size (And.intro ho (And.intro hlen h6))))
    have HI := Aside0.mk i1
    have H2 := Aside0.mk i2
    have HC := Aside0.mk hCp
    have hml : m ≤ 64 := by omega
    have hlt3 : (out ++ flS l pre).length ≤ 110000 := by rw [List.length_append]; omega
    have HL := Aside0.mk (And.intro hlt3 hml)
    have hsv : ∀ k, v1.ownBlock = some k → (Value.slice A l.length c).ownBlock ≠ some k := by
      intro k hk e
      have := hP.lt k e
      rcases h3 with h3 | ⟨k', h3, h7⟩
      · rw [h3] at hk
        exact hsep k e hk
      · rw [h3] at hk
        cases hk
        omega
    have HS := Aside0.mk hsv
    clear b1 i1 h3 h4 h5 h6 h10 i2 hCp hfl hlen hpl hx hi hm hA' hpc hm0 hbp hbo hP hO hne hsep hl ho h0p h0o hn0 hB2 hW2 hlt2 hr hrd hlc hAn hcm cP bS bN hP2 hO2 bP2 bO2 hI0 hbW hlw hml hlt3 hsv
    refine wpIn_block ?_
    refine wpInR_list (by kernel_rfl) (fun a' W' => ∃ v3 w1 w2 v2, W' = w2.setCell ⟨bo, 0, none⟩ v3 ∧ IR w1 n0 v2 ((out ++ flS l pre) ++ [(m : Int) - 1]) ∧ W.grownBy w1 v1.ownBlock ∧ (v2.ownBlock = v1.ownBlock ∨ ∃ b, v2.ownBlock = some b ∧ W.heap.size ≤ b) ∧ IR w2 n0 v3 (((out ++ flS l pre) ++ [(m : Int) - 1]) ++ pc) ∧ w1.grownBy w2 v2.ownBlock ∧ (v3.ownBlock = v2.ownBlock ∨ ∃ b, v3.ownBlock = some b ∧ w1.heap.size ≤ b)) ?_ ?_
    · go_wp2_with (first
        | ((with_reducible refine gate_builtin (b := .append) (xs := #[.tmp 6, .tmp 10]) rfl ?_); at_builtin; refine Kd.R_append (Kd.int .i64) (w0 := W) n0 rfl (.tmp 6) (.tmp 10) 26 3 (.int .i64 0) 8 rfl Try.underlying26 info3 rfl (by decide) (by omega) v1 (out ++ flS l pre) ((m : Int) - 1) [.int .i64 ((m : Int) - 1)] (fun _ => True) (fun _ => False) rfl rfl rfl (fun _ h => h.elim) (fun _ _ => trivial) HI.out (Below.refl _ _) (Nat.le_trans HB.out.1 HB.out.2.1) (by have := HL.out.1; omega) ?_; intro v2 w1 ho2 hb2 hg2 hat2; have HO2 := Aside0.mk (And.intro ho2 (And.intro hb2 (And.intro hg2 hat2))); have u2 := tsv Try.prog v2 ho2; have B1 := Aside0.mk (HX.out.1.kept hg2 (HI.out.box (by decide) HX.out.1)); clear ho2 hb2 hg2 hat2)
        | ((with_reducible refine gate_builtin (b := .append) (xs := #[.tmp 11, .tmp 12]) rfl ?_); at_builtin; refine Kd.R_append_rows (Kd.int .i64) (w0 := W) n0 rfl (.tmp 11) (.tmp 12) 26 3 (.int .i64 0) 8 rfl Try.underlying26 info3 rfl (by decide) (by omega) v2 ((out ++ flS l pre) ++ [(m : Int) - 1]) pc A' m m (fun _ => True) (fun _ => False) rfl rfl HO2.out.1 (HC.out _ (H2.out.grown HO2.out.2.2.1 (fun k hk e => HS.out k hk e.symm))) (fun _ _ h => h) (fun _ h => h.elim) (fun _ _ => trivial) HO2.out.2.1 (Nat.le_trans (Nat.le_trans HB.out.1 HB.out.2.1) HO2.out.2.2.1.size) (by have := HL.out; simp only [List.length_append, List.length_singleton] at this ⊢; omega) ?_; intro v3 w2 ho3 hb3 hg3 hat3; obtain ⟨A3, c3', e3⟩ := Kd.R_slice ho3; obtain ⟨n3, hn3⟩ : ∃ n3, n3 = (((out ++ flS l pre) ++ [(m : Int) - 1]) ++ pc).length := ⟨_, rfl⟩; rw [← hn3] at e3; subst e3; clear hn3; have HO3 := Aside0.mk (And.intro ho3 (And.intro hb3 (And.intro hg3 hat3))); have B2 := B1.out.kept hg3 (IR.box (HO2.out.1) (by decide) B1.out); have c3 := B2.cell; have f3 := B2.frozen; clear B2 ho3 hb3 hg3 hat3))
      have q1 : IR w1 n0 v2 ((out ++ flS l pre) ++ [(m : Int) - 1]) := HO2.out.1
      have q2 : IR w2 n0 (.slice A3 n3 c3') (((out ++ flS l pre) ++ [(m : Int) - 1]) ++ pc) := HO3.out.1
      simp only [List.append_assoc, List.singleton_append, List.cons_append, List.nil_append] at q1 q2
      exact ⟨_, w1, w2, rfl, v2, q1, HO2.out.2.2.1, HO2.out.2.2.2, q2, HO3.out.2.2.1, HO3.out.2.2.2⟩
    · rintro a' W' ⟨v3, w1, w2, v2, rfl, hi1, hg1, ha1, hi3, hg3, ha3⟩
      obtain ⟨b1, i1, h3, h4, h5, h6, i2, hCp, hfl, hlen, hpl, hx, hi, hm, hA', hpc, hm0, h10⟩ := HX.out
      obtain ⟨hbp, hbo, hP, hO, hne, hsep, hl, ho, h0p, h0o, hn0, hB2, hW2, hlt2, hOl⟩ := HY.out
      have hz := h4.size
      have nb1 := i1.box (by decide) b1
      have bb1 : Boxed w1 bo 26 v1 := b1.kept hg1 nb1
      have nb2 := hi1.box (by decide) bb1
      have bb2 : Boxed w2 bo 26 v1 := bb1.kept hg3 nb2
      have hboW := hbo.lt
      have hv1 : ∀ k, some k = v1.ownBlock → some k = vo.ownBlock ∨ W2.heap.size ≤ k := fun k e => by
        rcases h3 with h3 | ⟨k', h3, h7⟩
        · exact .inl (e.trans h3)
        · rw [h3] at e
          cases e
          exact .inr h7
      have hv2 : ∀ k, some k = v2.ownBlock → some k = vo.ownBlock ∨ W2.heap.size ≤ k := fun k e => by
        rcases ha1 with h | ⟨k', h, h7⟩
        · exact hv1 k (e.trans h)
        · rw [h] at e
          cases e
          exact .inr (Nat.le_trans h10 h7)
      have hv3 : v3.ownBlock = vo.ownBlock ∨ ∃ k, v3.ownBlock = some k ∧ W2.heap.size ≤ k := by
        rcases ha3 with h | ⟨k', h, h7⟩
        · rcases h8 : v2.ownBlock with _ | k
          · rcases ha1 with h9 | ⟨k', h9, _⟩
            · rcases h3 with h3 | ⟨k'', h3, _⟩
              · exact .inl (h.trans (h9.trans h3))
              · rw [h9, h3] at h8
                cases h8
            · rw [h9] at h8
              cases h8
          · rcases hv2 k h8.symm with h9 | h9
            · exact .inl (h.trans (h8.trans h9))
            · exact .inr ⟨k, h.trans h8, h9⟩
        · exact .inr ⟨k', h, Nat.le_trans h10 (Nat.le_trans hg1.size h7)⟩
      have hn1 : ∀ k, v1.ownBlock = some k → n0 ≤ k := Kd.R_base i1
      have hn2 : ∀ k, v2.ownBlock = some k → n0 ≤ k := Kd.R_base hi1
      have hBw : Below n0 W w2 := ((Below.refl n0 W).grown hg1 (Nat.le_trans hn0 hz) hn1).grown hg3 (Nat.le_trans (Nat.le_trans hn0 hz) hg1.size) hn2
      have hB3 : Below n0 W (w2.setCell ⟨bo, 0, none⟩ v3) := hBw.setCell (p := ⟨bo, 0, none⟩) h0o _
      have hKp : ∀ k o, W.heap[k]? = some o → k ≠ bo → some k ≠ v1.ownBlock → some k ≠ v2.ownBlock → (w2.setCell ⟨bo, 0, none⟩ v3).heap[k]? = some o := fun k o hk e1 e2 e3 => by
        have hkl := (Array.getElem?_eq_some_iff.1 hk).1
        rw [Below.heap_setCell w2 ⟨bo, 0, none⟩ v3 k e1, hg3.block k (Nat.lt_of_lt_of_le hkl hg1.size) e3, hg1.block k hkl e2]
        exact hk
      have hty : ∀ k, (v1.ownBlock = some k → ∃ cs, W.heap[k]? = some (.cells cs 3 (0, 0))) ∧ (v2.ownBlock = some k → k < W.heap.size → ∃ cs, W.heap[k]? = some (.cells cs 3 (0, 0))) := fun k => by
        refine ⟨Kd.R_typed i1 k, fun e hk => ?_⟩
        rcases ha1 with h | ⟨k', h, h7⟩
        · exact Kd.R_typed i1 k (h.symm.trans e)
        · rw [h] at e
          cases e
          omega
      have hW2W : W2.heap.size ≤ W.heap.size ∨ True := .inr trivial
      refine ⟨⟨hB3.size, fun k o hk ho' hc => ?_⟩, ⟨hB3, fun k o hk ho' hc => ?_⟩, v3, ?_, ?_, hv3, h4.trans hB3, ?_, ?_⟩
      · refine hKp k o ho' (by omega) (fun e => ?_) (fun e => ?_)
        · obtain ⟨cs, h⟩ := (hty k).1 e.symm
          rw [ho'] at h
          cases h
          cases hc
        · obtain ⟨cs, h⟩ := (hty k).2 e.symm (Array.getElem?_eq_some_iff.1 ho').1
          rw [ho'] at h
          cases h
          cases hc
      · refine hKp k o ho' (by omega) (fun e => ?_) (fun e => ?_)
        · rcases hv1 k e with h | h
          · have := hOl k h.symm
            omega
          · omega
        · rcases hv2 k e with h | h
          · have := hOl k h.symm
            omega
          · omega
      · exact Boxed.set _ bb2
      · rw [hfl, ← List.append_assoc]
        have : IR w2 n0 v3 (out ++ flS l pre ++ (((m : Int) - 1) :: pc)) := by simpa [List.append_assoc] using hi3
        exact this.setBox (by decide) bb2 v3
      · refine ((h5.of_grown hg1 (fun k e => ?_)).of_grown hg3 (fun k e => ?_)).setCell (.inl (.inl rfl)) _
        · rcases hv1 k e.symm with h | h
          · exact .inl (.inr h)
          · exact .inr (by omega)
        · rcases hv2 k e.symm with h | h
          · exact .inl (.inr h)
          · exact .inr (by omega)
      · refine ⟨?_, Nat.le_trans h10 hB3.size⟩
        rw [List.length_append]
        have : chN l.length ≤ 20 := by unfold chN; omega
        simp
        omega
  case done =>
    rintro D ys W hD hys ⟨v1, b1, i1, h3, h4, h5, h6, h10⟩ hK
    have bP : Boxed W bp 26 (.slice A l.length c) := (h5.2 bp hbp.lt (fun e => by
      rcases e with e | e
      · exact hne e
      · exact hO.box (by decide) hbp e)).trans hbp
    have iP : IR W n0 (.slice A l.length c) l := hP.kept h5 (fun k hk e => by
      rcases e with rfl | e
      · exact hP.box (by decide) hbo hk.symm
      · exact hsep k hk e.symm)
    have cP := bP.cell
    have fP := bP.frozen
    have hys2 : out ++ flS l ys = out ++ Pu.plainV l := by
      unfold flS
      rw [hys, plainV_eq]
    rw [hys2] at i1
    have HX := Aside0.mk (And.intro b1 (And.intro i1 (And.intro h3 (And.intro h4 (And.intro h5 (And.intro h10 (And.intro bP (And.intro iP (And.intro hK (And.intro hD (And.intro hB2 (And.intro hn0 (And.intro hne (And.intro h0p (And.intro hbo (And.intro hbp hO))))))))))))))))
    clear b1 i1 h3 h4 h5 h6 h10 bP iP hK hD hB2 hn0 hne h0p hys hys2 hbp hbo hP hO hsep hl ho h0o hW2 hrd hlc hAn bS bN hP2 hO2 bP2 bO2 hI0
    gi_wp2
    obtain ⟨b1, i1, h3, h4, h5, h10, bP, iP, hK, hD, hB2, hn0, hne, h0p, hbo, hbp, hO⟩ := HX.out
    have hz := hB2.size
    have hbpl := hbp.lt
    have hbol := hbo.lt
    have hK' : (W.setCell ⟨bp, 0, none⟩ (.slice A 0 c)).heap[D]? = some (.deferred (some [])) := (Below.heap_setCell W ⟨bp, 0, none⟩ _ D (show D ≠ bp by omega)).trans hK
    refine ⟨by simp, .inl ⟨_, _, rfl, run_takeDeferred hK', ?_⟩⟩
    have hmv : ∀ k, k ≠ D → ((W.setCell ⟨bp, 0, none⟩ (.slice A 0 c)).putObj D (.deferred none)).heap[k]? = (W.setCell ⟨bp, 0, none⟩ (.slice A 0 c)).heap[k]? := fun k hk => World.putObj_heap_other hk
    have i1' := i1.setBox (by decide) bP (.slice A 0 c)
    have iP' : IR (W.setCell ⟨bp, 0, none⟩ (.slice A 0 c)) n0 (.slice A 0 c) [] := by
      have := Kd.R_take (m := 0) (iP.setBox (by decide) bP (.slice A 0 c)) (Nat.zero_le _)
      rw [List.take_zero] at this
      exact this
    have hnD : ∀ v l', IR (W.setCell ⟨bp, 0, none⟩ (.slice A 0 c)) n0 v l' → ∀ k, v.ownBlock = some k → k ≠ D := fun v l' h k hk e => by
      obtain ⟨cs, hc⟩ := Kd.R_typed h k hk
      rw [e, hK'] at hc
      cases hc
    refine ⟨_, results_none rfl _ _ _, ⟨_, rfl⟩, v1, .slice A 0 c, (hmv bo (by omega)).trans (b1.other (fun e => hne e.symm) _), i1'.moved (fun k hk => hmv k (hnD _ _ i1' k hk)), ?_, (hmv bp (by omega)).trans (Boxed.set _ bP), iP'.moved (fun k hk => hmv k (hnD _ _ iP' k hk)), ?_, ?_, ?_⟩
    · rcases h3 with h3 | ⟨k, h3, h7⟩
      · exact .inl h3
      · exact .inr ⟨k, h3, by omega⟩
    · intro k hk
      cases A with
      | none => cases hk
      | some a => exact hk
    · exact (h4.setCell (p := ⟨bp, 0, none⟩) h0p _).trans (belowK_b (w := W2) (by omega) _ D _ _ hD hK' rfl rfl)
    · refine ⟨?_, fun k hk hS => ?_⟩
      · have := h4.size
        have h8 := (h4.setCell (p := ⟨bp, 0, none⟩) h0p (.slice A 0 c)).size
        have h9 : ((W.setCell ⟨bp, 0, none⟩ (.slice A 0 c)).putObj D (.deferred none)).heap.size = (W.setCell ⟨bp, 0, none⟩ (.slice A 0 c)).heap.size := by simp [World.putObj]
        omega
      · rw [hmv k (by omega), Below.heap_setCell W ⟨bp, 0, none⟩ _ k (fun e => hS (.inl e))]
        exact h5.2 k hk (fun e => hS (.inr e))
  case stop =>
    rintro D c pre W _ _ h _
    exact h.elim
end Go.Proofs.Ythoioccmnphfgaa.G

namespace Go.Proofs.Ythoioccmnphfgaa.G
open Go.RowKit Go.Shelf Go.Proofs.YthoioccmnphfgaaW.PrintWords Go.Proofs.YthoioccmnphfgaaW.PrintLast Go.Proofs.YthoioccmnphfgaaW.PrintMore
open Go.WideMaps Go.MapKept Go.ChangeMaps
set_option linter.unusedVariables false
set_option linter.unusedSimpArgs false
def inI (x : Int) : Bool := decide (-1000000000000000000 ≤ x) && decide (x ≤ 1000000000000000000)
theorem law3 : KeyLaw Try.prog 91 := ArrKey.law (e := 3) (n := 3) ⟨by kernel_rfl, by kernel_rfl, by kernel_rfl, by kernel_rfl⟩
def keyV (l : List Int) (p : Nat) : Value := .agg #[.int .i64 (l.getD p 0), .int .i64 (l.getD (p + 1) 0), .int .i64 (l.getD (p + 2) 0)]
theorem key3 (x y z : Int) (hx : inI x = true) (hy : inI y = true) (hz : inI z = true) : ∃ k, keyOf Try.prog 91 (.agg #[.int .i64 x, .int .i64 y, .int .i64 z]) = some k := by
  simp only [inI, Bool.and_eq_true, decide_eq_true_eq] at hx hy hz
  have hu : Try.prog.underlying 91 = some (.array 3 3) := by kernel_rfl
  have hi : Try.prog.underlying 3 = some (.int .i64) := Try.underlying3
  have hk : Try.prog.keyType 91 = true := by kernel_rfl
  have hc : Try.prog.cellsOf 91 = 3 := by kernel_rfl
  have hc1 : Try.prog.cellsOf 3 = 1 := by kernel_rfl
  have hs : ∃ m, Try.prog.types.size = m + 1 := ⟨Try.prog.types.size - 1, by kernel_rfl⟩
  obtain ⟨m, hm⟩ := hs
  have hmin : IntKind.i64.min = -9223372036854775808 := by rfl
  have hmax : IntKind.i64.max = 9223372036854775807 := by rfl
  have wx : (Lit.int .i64 x).wf = true := by simp [Lit.wf, hmin, hmax]; omega
  have wy : (Lit.int .i64 y).wf = true := by simp [Lit.wf, hmin, hmax]; omega
  have wz : (Lit.int .i64 z).wf = true := by simp [Lit.wf, hmin, hmax]; omega
  unfold keyOf
  rw [hu]
  simp only [hk, Value.formed, hu, hc, Bool.true_and]
  simp [Program.keyLits, hu, hc, hc1, hi, hm, wx, wy, wz, List.range_succ, Value.cells]
theorem keyV_key (l : List Int) (hl : l.all inI = true) (p : Nat) (hp : p + 3 ≤ l.length) : ∃ k, keyOf Try.prog 91 (keyV l p) = some k := by
  have h : ∀ i, i < l.length → inI (l.getD i 0) = true := fun i hi => by
    rw [getD_lt l i hi]
    exact List.all_eq_true.1 hl _ (List.getElem_mem hi)
  exact key3 _ _ _ (h _ (by omega)) (h _ (by omega)) (h _ (by omega))
theorem keyV_iff (l : List Int) (p q : Nat) (hp : p + 3 ≤ l.length) (hq : q + 3 ≤ l.length) : keyV l p = keyV l q ↔ (l.drop p).take 3 = (l.drop q).take 3 := by
  have e : ∀ p, p + 3 ≤ l.length → (l.drop p).take 3 = [l.getD p 0, l.getD (p + 1) 0, l.getD (p + 2) 0] := fun p hp => by
    rw [List.drop_eq_getElem_cons (by omega : p < l.length), List.drop_eq_getElem_cons (by omega : p + 1 < l.length), List.drop_eq_getElem_cons (by omega : p + 1 + 1 < l.length), getD_lt l p (by omega), getD_lt l (p + 1) (by omega), getD_lt l (p + 2) (by omega)]
    rfl
  rw [e p hp, e q hq]
  unfold keyV
  simp
/-- The places with these three numbers, up to z. -/
def posS (l : List Int) (z q : Nat) : List Nat := (List.range z).filter (Pu.keyed l q)
theorem posS_succ (l : List Int) (z q : Nat) : posS l (z + 1) q = posS l z q ++ if Pu.keyed l q z = true then [z] else [] := by
  unfold posS
  rw [List.range_succ, List.filter_append]
  congr 1
  by_cases h : Pu.keyed l q z = true
  · rw [if_pos h, List.filter_cons_of_pos h, List.filter_nil]
  · rw [if_neg h, List.filter_cons_of_neg h, List.filter_nil]
theorem posS_lt {l : List Int} {z q p : Nat} (h : p ∈ posS l z q) : p < z := by
  unfold posS at h
  have := (List.mem_filter.1 h).1
  simpa using this
theorem posS_len (l : List Int) (z q : Nat) : (posS l z q).length ≤ z := by
  have := List.length_filter_le (Pu.keyed l q) (List.range z)
  unfold posS
  simpa using this
theorem keyed_iff {l : List Int} {q p : Nat} (hq : q + 3 ≤ l.length) : Pu.keyed l q p = true ↔ p + 3 ≤ l.length ∧ keyV l p = keyV l q := by
  unfold Pu.keyed
  rw [Bool.and_eq_true, decide_eq_true_eq, decide_eq_true_eq]
  constructor
  · rintro ⟨h1, h2⟩
    exact ⟨h1, (keyV_iff l p q h1 hq).2 h2⟩
  · rintro ⟨h1, h2⟩
    exact ⟨h1, (keyV_iff l p q h1 hq).1 h2⟩
theorem posS_same {l : List Int} {z p q : Nat} (hp : p + 3 ≤ l.length) (hq : q + 3 ≤ l.length) (h : keyV l p = keyV l q) : posS l z p = posS l z q := by
  unfold posS
  refine List.filter_congr fun r _ => ?_
  rw [Bool.eq_iff_iff, keyed_iff hp, keyed_iff hq, h]
/-- A row's block among the entries. -/
def eRow (es : Array MapEntry) (k : Nat) : Prop := ∃ e ∈ es.toList, e.val.ownBlock = some k
/-- The map holds, by their three numbers, the places ahead of z. -/
structure MapI (W : World) (n0 m : Nat) (l : List Int) (z : Nat) (es : Array MapEntry) (clock : Nat) : Prop where
  at_ : W.heap[m]? = some (.map es clock)
  st : Stamped es clock
  ent : ∀ e ∈ es.toList, ∃ p, p + 3 ≤ l.length ∧ e.key = keyV l p ∧ IR W n0 e.val (pI (posS l z p))
  all : ∀ p, p < z → p + 3 ≤ l.length → ∃ e ∈ es.toList, e.key = keyV l p
  apart : es.toList.Pairwise fun e f => ∀ k, e.val.ownBlock = some k → f.val.ownBlock ≠ some k
  size : es.size ≤ z
theorem MapI.fit {W : World} {n0 m : Nat} {l : List Int} {z : Nat} {es : Array MapEntry} {clock : Nat} (h : MapI W n0 m l z es clock) (hl : l.all inI = true) (hz : z ≤ 1000) : WideElems.Fit (H := Unit) Try.prog 91 (fun _ => some (.nil, [])) es clock := by
  refine ⟨by have := h.size; unfold maxLen; omega, h.st, fun x hx => ?_⟩
  obtain ⟨p, h1, h2, _⟩ := h.ent x hx
  obtain ⟨k, hk⟩ := keyV_key l hl p h1
  rw [← h2] at hk
  exact ⟨_, WideElems.rd_mk hk rfl⟩
theorem MapI.keys {W : World} {n0 m : Nat} {l : List Int} {z : Nat} {es : Array MapEntry} {clock : Nat} (h : MapI W n0 m l z es clock) (hl : l.all inI = true) : ∀ e ∈ es.toList, ∃ k, keyOf Try.prog 91 e.key = some k := by
  intro x hx
  obtain ⟨p, h1, h2, _⟩ := h.ent x hx
  rw [h2]
  exact keyV_key l hl p h1
theorem MapI.uniq {es : Array MapEntry} {clock : Nat} (h : Stamped es clock) {e f : MapEntry} (he : e ∈ es.toList) (hf : f ∈ es.toList) (hk : e.key = f.key) : e = f := by
  have hst := ((stamped_iff es clock).1 h).2.2
  obtain ⟨i, hi⟩ := List.getElem?_of_mem he
  obtain ⟨j, hj⟩ := List.getElem?_of_mem hf
  obtain ⟨a1, a2⟩ := List.getElem?_eq_some_iff.1 hi
  obtain ⟨b1, b2⟩ := List.getElem?_eq_some_iff.1 hj
  by_cases hij : i = j
  · subst hij
    exact a2.symm.trans b2
  · exfalso
    rcases Nat.lt_or_gt_of_ne hij with h | h
    · exact List.pairwise_iff_getElem.1 hst i j a1 b1 h (by rw [a2, b2]; exact hk)
    · exact List.pairwise_iff_getElem.1 hst j i b1 a1 h (by rw [a2, b2]; exact hk.symm)
/-- What is looked up. -/
theorem MapI.look {W : World} {n0 m : Nat} {l : List Int} {z : Nat} {es : Array MapEntry} {clock : Nat} (h : MapI W n0 m l z es clock) (hl : l.all inI = true) (q : Nat) (hq : q + 3 ≤ l.length) :
    ∃ v, (∀ W2 : World, W2.heap[m]? = some (.map es clock) → (Instr.lookup 89 (.map (some m)) (keyV l q) false).run Try.prog W2 = .ok v W2) ∧ IR W n0 v (pI (posS l z q)) ∧ ((v = .slice none 0 0) ∨ ∃ e ∈ es.toList, e.val = v) := by
  obtain ⟨kl, hk⟩ := keyV_key l hl q hq
  have ht : Try.prog.underlying 89 = some (.map 91 26) := by kernel_rfl
  have hz : ∀ W2 : World, (zeroValue 26).run Try.prog W2 = .ok (.slice none 0 0) W2 := fun W2 => by
    obtain ⟨i0, hi0, hz0, _, _⟩ := info_parts info26
    simp [zeroValue, typeInfo, hi0, hz0]
  rcases Classical.em (∃ e ∈ es.toList, e.key = keyV l q) with ⟨e0, hm0, hk0⟩ | hno
  · refine ⟨e0.val, fun W2 h2 => ?_, ?_, .inr ⟨e0, hm0, rfl⟩⟩
    · rcases law3.find W2 hk es.toList (h.keys hl) with ⟨h1, h3⟩ | ⟨j, e, h1, h3, h4⟩
      · exact absurd hk0 (h3 e0 hm0)
      · rw [MapI.uniq h.st hm0 (List.mem_of_getElem? h3) (hk0.trans h4.symm)]
        simp [Instr.lookup, run_underlying ht, MapKept.run_getObj_map h2, law3.check W2 _ hk, h1, Result.andThen]
    · obtain ⟨p, h5, h6, h7⟩ := h.ent e0 hm0
      rw [posS_same hq h5 (hk0.symm.trans h6)]
      exact h7
  · refine ⟨.slice none 0 0, fun W2 h2 => ?_, ?_, .inl rfl⟩
    · rcases law3.find W2 hk es.toList (h.keys hl) with ⟨h1, h3⟩ | ⟨j, e, h1, h3, h4⟩
      · simp [Instr.lookup, run_underlying ht, MapKept.run_getObj_map h2, law3.check W2 _ hk, h1, hz W2, Result.andThen]
      · exact absurd ⟨e, List.mem_of_getElem? h3, h4⟩ hno
    · have : posS l z q = [] := by
        unfold posS
        refine List.filter_eq_nil_iff.2 fun p hp hkd => ?_
        obtain ⟨h5, h6⟩ := (keyed_iff hq).1 hkd
        obtain ⟨e, he, hek⟩ := h.all p (by simpa using hp) h5
        exact hno ⟨e, he, hek.trans h6⟩
      rw [this]
      exact Kd.R_nil _ _ _ _ _
/-- An entry is there, or is made; then a value is stored in it. -/
theorem MapI.entry {W : World} {n0 m : Nat} {l : List Int} {z : Nat} {es : Array MapEntry} {clock : Nat} (h : MapI W n0 m l z es clock) (hl : l.all inI = true) (hz : z + 3 ≤ l.length) (hzl : z ≤ 1000) (W2 : World) (h2 : W2.heap[m]? = some (.map es clock)) :
    ∃ v0 st es1 clock1, (Instr.mapEntry 89 (.map (some m)) (keyV l z)).run Try.prog W2 = .ok (.tuple #[v0, goInt st]) (setBlock W2 m (.map es1 clock1)) ∧ IR W n0 v0 (pI (posS l z z)) ∧ (v0 = .slice none 0 0 ∨ ∃ e ∈ es.toList, e.val = v0) ∧
      ∀ (w3 : World) (val : Value), w3.heap[m]? = some (.map es1 clock1) → ∃ es' clock', (Instr.entryStore 89 (.map (some m)) (goInt st) val).run Try.prog w3 = .ok () (setBlock w3 m (.map es' clock')) ∧
        (((∀ x ∈ es.toList, x.key ≠ keyV l z) ∧ v0 = .slice none 0 0 ∧ es' = es.push ⟨keyV l z, val, clock⟩ ∧ clock' = clock + 1) ∨
          ∃ j e0, es.toList[j]? = some e0 ∧ e0.key = keyV l z ∧ v0 = e0.val ∧ es' = es.modify j (fun e' => { e' with key := keyV l z, val := val }) ∧ clock' = clock) := by
  obtain ⟨kl, hk⟩ := keyV_key l hl z hz
  have ht : Try.prog.underlying 89 = some (.map 91 26) := by kernel_rfl
  have hzv : ∀ u : World, (zeroValue 26).run Try.prog u = .ok (.slice none 0 0) u := fun u => by
    obtain ⟨i0, hi0, hz0, _, _⟩ := info_parts info26
    simp [zeroValue, typeInfo, hi0, hz0]
  obtain ⟨v0, st, es1, clock1, hE, hv0, hS⟩ := WideElems.entry_then_store (H := Unit) law3 ht hzv h2 (h.fit hl hzl) hk
  have hinj : ∀ {a b : Array MapEntry} {c d : Nat}, (Result.ok () (setBlock W2 m (.map a c)) : Result Unit) = .ok () (setBlock W2 m (.map b d)) → a = b ∧ c = d := fun {a b c d} e => by
    injection e with _ e
    have h3 := heap_setBlock_same h2 (.map a c)
    rw [e, heap_setBlock_same h2 (.map b d)] at h3
    injection h3 with h3
    injection h3 with h4 h5
    exact ⟨h4.symm, h5.symm⟩
  rcases law3.find W2 hk es.toList (h.keys hl) with ⟨h1, h3⟩ | ⟨j, e0, h1, h3, h4⟩
  · have hv : v0 = .slice none 0 0 := by
      rcases hv0 with ⟨e, he, hek, _⟩ | ⟨_, hv⟩
      · exact absurd hek (h3 e he)
      · exact hv
    refine ⟨v0, st, es1, clock1, hE, ?_, .inl hv, fun w3 val hw => ?_⟩
    · have : posS l z z = [] := by
        unfold posS
        refine List.filter_eq_nil_iff.2 fun p hp hkd => ?_
        obtain ⟨h5, h6⟩ := (keyed_iff hz).1 hkd
        obtain ⟨e, he, hek⟩ := h.all p (by simpa using hp) h5
        exact h3 e he (hek.trans h6)
      rw [this, hv]
      exact Kd.R_nil _ _ _ _ _
    · obtain ⟨es', clock', hst, hup⟩ := hS w3 val hw
      have hup2 : (Instr.mapUpdate 89 (.map (some m)) (keyV l z) val).run Try.prog W2 = .ok () (setBlock W2 m (.map (es.push ⟨keyV l z, val, clock⟩) (clock + 1))) := by
        simp [Instr.mapUpdate, run_underlying ht, MapKept.run_getObj_map h2, law3.check W2 false hk, h1, MapKept.run_setObj_map _ h2, Result.andThen, setBlock]
      obtain ⟨h5, h6⟩ := hinj (hup.symm.trans hup2)
      exact ⟨es', clock', hst, .inl ⟨h3, hv, h5, h6⟩⟩
  · have hm0 : e0 ∈ es.toList := List.mem_of_getElem? h3
    have hj : es[j]? = some e0 := by simpa using h3
    have hv : v0 = e0.val := by
      rcases hv0 with ⟨e, he, hek, hv⟩ | ⟨hno, _⟩
      · have hst := ((stamped_iff es clock).1 h.st).2.2
        obtain ⟨i, hi⟩ := List.getElem?_of_mem he
        by_cases hij : i = j
        · subst hij
          rw [h3] at hi
          cases hi
          exact hv
        · obtain ⟨a1, a2⟩ := List.getElem?_eq_some_iff.1 hi
          obtain ⟨b1, b2⟩ := List.getElem?_eq_some_iff.1 h3
          have hne : e.key ≠ e0.key := by
            rw [← a2, ← b2]
            rcases Nat.lt_or_gt_of_ne hij with h | h
            · exact List.pairwise_iff_getElem.1 hst i j a1 b1 h
            · exact fun e1 => List.pairwise_iff_getElem.1 hst j i b1 a1 h e1.symm
          exact absurd (hek.trans h4.symm) hne
      · exact absurd h4 (hno e0 hm0)
    refine ⟨v0, st, es1, clock1, hE, ?_, .inr ⟨e0, hm0, hv.symm⟩, fun w3 val hw => ?_⟩
    · obtain ⟨p, h5, h6, h7⟩ := h.ent e0 hm0
      rw [posS_same hz h5 (h4.symm.trans h6), hv]
      exact h7
    · obtain ⟨es', clock', hst, hup⟩ := hS w3 val hw
      have hup2 : (Instr.mapUpdate 89 (.map (some m)) (keyV l z) val).run Try.prog W2 = .ok () (setBlock W2 m (.map (es.modify j (fun e' => { e' with key := keyV l z, val := val })) clock)) := by
        simp [Instr.mapUpdate, run_underlying ht, MapKept.run_getObj_map h2, law3.check W2 false hk, h1, hj, h4, law3.stays W2 hk, MapKept.run_setObj_map _ h2, Result.andThen, setBlock]
      obtain ⟨h5, h6⟩ := hinj (hup.symm.trans hup2)
      exact ⟨es', clock', hst, .inr ⟨j, e0, h3, h4, hv, h5, h6⟩⟩
theorem MapI.row {W : World} {n0 m : Nat} {l : List Int} {z : Nat} {es : Array MapEntry} {clock : Nat} (h : MapI W n0 m l z es clock) {k : Nat} (hk : eRow es k) : k < W.heap.size ∧ n0 ≤ k ∧ ∃ cs, W.heap[k]? = some (.cells cs 3 (0, 0)) := by
  obtain ⟨e, he, hek⟩ := hk
  obtain ⟨p, _, _, hi⟩ := h.ent e he
  exact ⟨hi.lt k hek, Kd.R_base hi k hek, Kd.R_typed hi k hek⟩
theorem posS_other {l : List Int} {z p : Nat} (hp : p + 3 ≤ l.length) (hne : keyV l p ≠ keyV l z) : posS l (z + 1) p = posS l z p := by
  rw [posS_succ, if_neg (fun h => hne ((keyed_iff hp).1 h).2.symm), List.append_nil]
theorem posS_self {l : List Int} {z : Nat} (hz : z + 3 ≤ l.length) : posS l (z + 1) z = posS l z z ++ [z] := by
  rw [posS_succ, if_pos ((keyed_iff hz).2 ⟨hz, rfl⟩)]
theorem MapI.next {W W' : World} {n0 m : Nat} {l : List Int} {z : Nat} {es es' : Array MapEntry} {clock clock' : Nat} {val v0 : Value} (h : MapI W n0 m l z es clock) (hz : z + 3 ≤ l.length) (hat : W'.heap[m]? = some (.map es' clock'))
    (hes : ((∀ x ∈ es.toList, x.key ≠ keyV l z) ∧ v0 = .slice none 0 0 ∧ es' = es.push ⟨keyV l z, val, clock⟩ ∧ clock' = clock + 1) ∨ ∃ j e0, es.toList[j]? = some e0 ∧ e0.key = keyV l z ∧ v0 = e0.val ∧ es' = es.modify j (fun e' => { e' with key := keyV l z, val := val }) ∧ clock' = clock)
    (hv : IR W' n0 val (pI (posS l z z ++ [z]))) (hown : val.ownBlock = v0.ownBlock ∨ ∃ k, val.ownBlock = some k ∧ W.heap.size ≤ k) (hrest : ∀ k, k < W.heap.size → eRow es k → v0.ownBlock ≠ some k → W'.heap[k]? = W.heap[k]?) :
    MapI W' n0 m l (z + 1) es' clock' ∧ ∀ k, eRow es' k → eRow es k ∨ W.heap.size ≤ k := by
  rcases hes with ⟨hno, rfl, rfl, rfl⟩ | ⟨j, e0, hj, hk0, rfl, rfl, rfl⟩
  · have hval : ∀ k, val.ownBlock = some k → W.heap.size ≤ k := fun k hk => by
      rcases hown with h1 | ⟨k', h1, h2⟩
      · rw [h1] at hk
        cases hk
      · rw [h1] at hk
        cases hk
        exact h2
    refine ⟨⟨hat, stamped_push h.st hno, fun e he => ?_, fun p hp h3 => ?_, ?_, by have := h.size; simp; omega⟩, fun k hk => ?_⟩
    · rw [Array.toList_push] at he
      rcases List.mem_append.1 he with he | he
      · obtain ⟨p, h1, h2, h3⟩ := h.ent e he
        refine ⟨p, h1, h2, ?_⟩
        rw [posS_other h1 (fun e1 => hno e he (h2.trans e1))]
        exact h3.moved fun k hk => hrest k (h3.lt k hk) ⟨e, he, hk⟩ (by simp [Value.ownBlock])
      · obtain rfl : e = _ := by simpa using he
        exact ⟨z, hz, rfl, by rw [posS_self hz]; exact hv⟩
    · rw [Array.toList_push]
      by_cases hpz : p = z
      · subst hpz
        exact ⟨_, List.mem_append_right _ (List.mem_singleton.2 rfl), rfl⟩
      · obtain ⟨e, he, hek⟩ := h.all p (by omega) h3
        exact ⟨e, List.mem_append_left _ he, hek⟩
    · rw [Array.toList_push]
      refine List.pairwise_append.2 ⟨h.apart, List.pairwise_singleton _ _, fun e he f hf k hk hf2 => ?_⟩
      obtain rfl : f = _ := by simpa using hf
      have := hval k hf2
      have := (h.row ⟨e, he, hk⟩).1
      omega
    · obtain ⟨e, he, hek⟩ := hk
      rw [Array.toList_push] at he
      rcases List.mem_append.1 he with he | he
      · exact .inl ⟨e, he, hek⟩
      · obtain rfl : e = _ := by simpa using he
        exact .inr (hval k hek)
  · have hm0 : e0 ∈ es.toList := List.mem_of_getElem? hj
    have hset : (es.modify j (fun e' => { e' with key := keyV l z, val := val })).toList = es.toList.set j { e0 with key := keyV l z, val := val } := by
      rw [Array.toList_modify, modify_eq_set _ _ _ _ hj]
    obtain ⟨hjl, hje⟩ := List.getElem?_eq_some_iff.1 hj
    have hkeys := ((stamped_iff _ _).1 h.st).2.2
    have hother : ∀ i x, es.toList[i]? = some x → i ≠ j → x.key ≠ keyV l z := fun i x hi hne => by
      obtain ⟨a1, a2⟩ := List.getElem?_eq_some_iff.1 hi
      rw [← a2, ← hk0, ← hje]
      rcases Nat.lt_or_gt_of_ne hne with h | h
      · exact List.pairwise_iff_getElem.1 hkeys i j a1 hjl h
      · exact fun e1 => List.pairwise_iff_getElem.1 hkeys j i hjl a1 h e1.symm
    have hap : ∀ i x, es.toList[i]? = some x → i ≠ j → ∀ k, x.val.ownBlock = some k → e0.val.ownBlock ≠ some k := fun i x hi hne k hk hk2 => by
      obtain ⟨a1, a2⟩ := List.getElem?_eq_some_iff.1 hi
      rcases Nat.lt_or_gt_of_ne hne with h1 | h1
      · exact List.pairwise_iff_getElem.1 h.apart i j a1 hjl h1 k (by rw [a2]; exact hk) (by rw [hje]; exact hk2)
      · exact List.pairwise_iff_getElem.1 h.apart j i hjl a1 h1 k (by rw [hje]; exact hk2) (by rw [a2]; exact hk)
    have hmem : ∀ x, x ∈ (es.modify j (fun e' => { e' with key := keyV l z, val := val })).toList → (∃ i, i ≠ j ∧ es.toList[i]? = some x) ∨ x = { e0 with key := keyV l z, val := val } := fun x hx => by
      rw [hset] at hx
      obtain ⟨i, hi⟩ := List.getElem?_of_mem hx
      by_cases hij : i = j
      · subst hij
        rw [List.getElem?_set_self hjl] at hi
        exact .inr (Option.some.inj hi).symm
      · rw [List.getElem?_set_ne (fun e => hij e.symm)] at hi
        exact .inl ⟨i, hij, hi⟩
    have hvx : ∀ k, val.ownBlock = some k → e0.val.ownBlock = some k ∨ W.heap.size ≤ k := fun k hk => by
      rcases hown with h1 | ⟨k', h1, h2⟩
      · exact .inl (h1.symm.trans hk)
      · rw [h1] at hk
        cases hk
        exact .inr h2
    have hfar : ∀ i x, es.toList[i]? = some x → i ≠ j → ∀ k, x.val.ownBlock = some k → val.ownBlock ≠ some k := fun i x hi hne k hk hk2 => by
      rcases hvx k hk2 with h1 | h1
      · exact hap i x hi hne k hk h1
      · have := (h.row ⟨x, List.mem_of_getElem? hi, hk⟩).1
        omega
    refine ⟨⟨hat, ?_, fun e he => ?_, fun p hp h3 => ?_, ?_, by have := h.size; simp; omega⟩, fun k hk => ?_⟩
    · exact stamped_modify h.st _ _ (fun _ _ => rfl) (fun e' _ he' => by
        have hj' : es[j]? = some e0 := by simpa using hj
        rw [hj'] at he'
        cases he'
        exact hk0.symm)
    · rcases hmem e he with ⟨i, hij, hi⟩ | rfl
      · obtain ⟨p, h1, h2, h3⟩ := h.ent e (List.mem_of_getElem? hi)
        refine ⟨p, h1, h2, ?_⟩
        rw [posS_other h1 (fun e1 => hother i e hi hij (h2.trans e1))]
        exact h3.moved fun k hk => hrest k (h3.lt k hk) ⟨e, List.mem_of_getElem? hi, hk⟩ (hap i e hi hij k hk)
      · exact ⟨z, hz, rfl, by rw [posS_self hz]; exact hv⟩
    · rw [hset]
      have hnew : ({ e0 with key := keyV l z, val := val } : MapEntry) ∈ es.toList.set j { e0 with key := keyV l z, val := val } := List.mem_of_getElem? (List.getElem?_set_self hjl)
      by_cases hpz : p = z
      · subst hpz
        exact ⟨_, hnew, rfl⟩
      · obtain ⟨e, he, hek⟩ := h.all p (by omega) h3
        obtain ⟨i, hi⟩ := List.getElem?_of_mem he
        by_cases hij : i = j
        · subst hij
          rw [hj] at hi
          cases hi
          exact ⟨_, hnew, hk0.symm.trans hek⟩
        · exact ⟨e, List.mem_of_getElem? (by rw [List.getElem?_set_ne (fun e => hij e.symm)]; exact hi), hek⟩
    · rw [hset]
      refine List.pairwise_iff_getElem.2 fun i i' hi hi' hlt k hk hk2 => ?_
      have e1 : (es.toList.set j { e0 with key := keyV l z, val := val })[i]? = some (es.toList.set j { e0 with key := keyV l z, val := val })[i] := List.getElem?_eq_getElem hi
      have e2 : (es.toList.set j { e0 with key := keyV l z, val := val })[i']? = some (es.toList.set j { e0 with key := keyV l z, val := val })[i'] := List.getElem?_eq_getElem hi'
      generalize (es.toList.set j { e0 with key := keyV l z, val := val })[i] = x at e1 hk
      generalize (es.toList.set j { e0 with key := keyV l z, val := val })[i'] = x' at e2 hk2
      by_cases hij : i = j
      · have hij' : i' ≠ j := by omega
        subst hij
        rw [List.getElem?_set_self hjl] at e1
        rw [List.getElem?_set_ne (fun e => hij' e.symm)] at e2
        obtain rfl := Option.some.inj e1
        exact hfar i' x' e2 hij' k hk2 hk
      · rw [List.getElem?_set_ne (fun e => hij e.symm)] at e1
        by_cases hij' : i' = j
        · subst hij'
          rw [List.getElem?_set_self hjl] at e2
          obtain rfl := Option.some.inj e2
          exact hfar i x e1 hij k hk hk2
        · rw [List.getElem?_set_ne (fun e => hij' e.symm)] at e2
          obtain ⟨a1, a2⟩ := List.getElem?_eq_some_iff.1 e1
          obtain ⟨b1, b2⟩ := List.getElem?_eq_some_iff.1 e2
          exact List.pairwise_iff_getElem.1 h.apart i i' a1 b1 hlt k (by rw [a2]; exact hk) (by rw [b2]; exact hk2)
    · obtain ⟨e, he, hek⟩ := hk
      rcases hmem e he with ⟨i, hij, hi⟩ | rfl
      · exact .inl ⟨e, List.mem_of_getElem? hi, hek⟩
      · rcases hvx k hek with h1 | h1
        · exact .inl ⟨e0, hm0, h1⟩
        · exact .inr h1
end Go.Proofs.Ythoioccmnphfgaa.G

namespace Go.Proofs.Ythoioccmnphfgaa.G
open Go.RowKit Go.Shelf Go.Proofs.YthoioccmnphfgaaW.PrintWords Go.Proofs.YthoioccmnphfgaaW.PrintLast Go.Proofs.YthoioccmnphfgaaW.PrintMore
open Go.WideMaps Go.MapKept Go.ChangeMaps
set_option linter.unusedVariables false
set_option linter.unusedSimpArgs false
theorem MapI.skip {W W' : World} {n0 m : Nat} {l : List Int} {z : Nat} {es : Array MapEntry} {clock : Nat} (h : MapI W n0 m l z es clock) (hz : ¬ z + 3 ≤ l.length) : MapI W n0 m l (z + 1) es clock := by
  refine ⟨h.at_, h.st, fun e he => ?_, fun p hp h3 => h.all p (by omega) h3, h.apart, by have := h.size; omega⟩
  obtain ⟨p, h1, h2, h3⟩ := h.ent e he
  refine ⟨p, h1, h2, ?_⟩
  rw [posS_succ, if_neg (fun hk => hz ((keyed_iff h1).1 hk).1), List.append_nil]
  exact h3
def SeeP (W : World) (n0 m : Nat) (l : List Int) (z : Nat) (es : Array MapEntry) (W' : World) : Prop := ∃ es' clock', MapI W' n0 m l (z + 1) es' clock' ∧ (∀ k, eRow es' k → eRow es k ∨ W.heap.size ≤ k) ∧ Below n0 W W' ∧ Kept W W' (fun k => k = m ∨ eRow es k)
theorem arr_at (A : Option Addr) (c : Nat) (W : World) : (Instr.arrayAt 91 (.slice A 3 c)).run Try.prog W = .ok (.pointer A) W := by
  have hu : Try.prog.underlying 91 = some (.array 3 3) := by kernel_rfl
  simp [Instr.arrayAt, run_underlying hu]
set_option maxRecDepth 100000 in
set_option maxHeartbeats 4000000 in
theorem see_calls (l : List Int) (A0 : Option Addr) (c0 b bm m z n0 : Nat) (W : World) (es : Array MapEntry) (clock : Nat) (hb : Boxed W b 26 (.slice A0 l.length c0)) (hr : Kd.C (Kd.int .i64) W A0 l.length l) (hc : l.length ≤ c0) (hbm : Boxed W bm 89 (.map (some m))) (hM : MapI W n0 m l z es clock) (hl : l.all inI = true) (hlen : l.length ≤ 1000) (hz : z < l.length) (hn0 : n0 ≤ W.heap.size) (hm0 : n0 ≤ m) :
    Calls Try.prog 62 #[.int .i64 z, .pointer (some ⟨b, 0, none⟩), .pointer (some ⟨bm, 0, none⟩)] W fun e W' => (∃ v, e = .returned v) ∧ SeeP W n0 m l z es W' := by
  have cB := hb.cell
  have cM := hbm.cell
  have hw1 := wr_add z 3 (by omega)
  obtain ⟨z3, hz3⟩ : ∃ z3, z3 = z + 3 := ⟨_, rfl⟩
  rw [← hz3] at hw1
  replace hw1 : IntKind.i64.wrap ((z : Int) + 3) = (z3 : Int) := hw1
  by_cases h3 : z3 ≤ l.length
  · have h3i : (z3 : Int) ≤ (l.length : Int) := by omega
    obtain ⟨ad, rfl, hx0⟩ := cell_int hr z hz
    obtain ⟨ad', e1, hx1⟩ := cell_int hr (z + 1) (by omega)
    cases e1
    obtain ⟨ad', e2, hx2⟩ := cell_int hr (z + 2) (by omega)
    cases e2
    have y1 : W.cell? ⟨(ad.add z).block, (ad.add z).off + 1, none⟩ = some (.int .i64 (l.getD (z + 1) 0)) := by rw [← add_field _ _ 1 (by omega)]; exact hx1
    have y2 : W.cell? ⟨(ad.add z).block, (ad.add z).off + 2, none⟩ = some (.int .i64 (l.getD (z + 2) 0)) := by rw [← add_field _ _ 2 (by omega)]; exact hx2
    clear hx1 hx2
    obtain ⟨x0, hx0e⟩ : ∃ x, x = l.getD z 0 := ⟨_, rfl⟩
    obtain ⟨x1, hx1e⟩ : ∃ x, x = l.getD (z + 1) 0 := ⟨_, rfl⟩
    obtain ⟨x2, hx2e⟩ : ∃ x, x = l.getD (z + 2) 0 := ⟨_, rfl⟩
    rw [← hx0e] at hx0
    rw [← hx1e] at y1
    rw [← hx2e] at y2
    have hkv : keyV l z = .agg #[.int .i64 x0, .int .i64 x1, .int .i64 x2] := by unfold keyV; rw [hx0e, hx1e, hx2e]
    have HK := Aside0.mk hkv
    clear hx0e hx1e hx2e hkv
    have a1 : (z : Int) ≤ (z3 : Int) := by omega
    have a2 : (z3 : Int) ≤ (c0 : Int) := by omega
    have a3 : z3 - z = 3 := by omega
    have a4 : ¬ c0 = z := by omega
    have a5 := arr_at (some (ad.add z)) (c0 - z)
    obtain ⟨W2, hW2⟩ : ∃ W2, W2 = (W.alloc (.cells #[.int .i64 x0, .int .i64 x1, .int .i64 x2] 91)).alloc (.cells #[.int .i64 z] 3) := ⟨_, rfl⟩
    have hB2 : Below W.heap.size W W2 := by rw [hW2]; exact below_alloc (below_alloc (Below.refl _ _) _) _
    have cM1 : (W.alloc (.cells #[.int .i64 x0, .int .i64 x1, .int .i64 x2] 91)).cell? ⟨bm, 0, none⟩ = some (.map (some m)) := (hbm.alloc _).cell
    have h2 : W2.heap[m]? = some (.map es clock) := (hB2.block m (Array.getElem?_eq_some_iff.1 hM.at_).1).trans hM.at_
    obtain ⟨v0, st, es1, clock1, hE, i0, hv0, hS⟩ := hM.entry hl (by omega) (by omega) W2 h2
    rw [HK.out] at hE
    obtain ⟨A9, c9, e9⟩ := Kd.R_slice i0
    obtain ⟨n9, hn9⟩ : ∃ n9, n9 = (pI (posS l z z)).length := ⟨_, rfl⟩
    rw [← hn9] at e9
    subst e9
    rw [hW2] at hE
    have HM := Aside0.mk (And.intro hM (And.intro hb (And.intro hbm (And.intro hr (And.intro hl (And.intro hz3 hlen))))))
    have HE := Aside0.mk (And.intro hW2 (And.intro hB2 (And.intro h2 (And.intro i0 (And.intro hv0 (And.intro hS hn9))))))
    have hmW : m < W.heap.size := (Array.getElem?_eq_some_iff.1 hM.at_).1
    have hnm : ∀ k, (Value.slice A9 n9 c9).ownBlock = some k → k ≠ m := fun k hk e => by
      obtain ⟨cs, hcs⟩ := Kd.R_typed i0 k hk
      rw [e, hM.at_] at hcs
      cases hcs
    have i3 : IR (setBlock W2 m (.map es1 clock1)) n0 (.slice A9 n9 c9) (pI (posS l z z)) := i0.moved fun k hk => by
      rw [heap_setBlock_other h2 _ (hnm k hk)]
      exact hB2.block k (i0.lt k hk)
    have hs2 : W2.heap.size = W.heap.size + 2 := by rw [hW2]; simp
    have hlit : (setBlock W2 m (.map es1 clock1)).heap[W.heap.size + 1]? = some (.cells #[.int .i64 z] 3 (0, 0)) := by
      rw [heap_setBlock_other h2 _ (by omega), hW2]
      have := World.alloc_heap_new (W.alloc (.cells #[.int .i64 x0, .int .i64 x1, .int .i64 x2] 91)) (.cells #[.int .i64 z] 3)
      rwa [World.size_alloc] at this
    have c3 : Kd.C (Kd.int .i64) (setBlock W2 m (.map es1 clock1)) (some ⟨W.heap.size + 1, 0, none⟩) 1 [(z : Int)] := ⟨rfl, by omega, fun _ => ⟨_, rfl, fun j p hj => by
      obtain ⟨rfl, rfl⟩ : j = 0 ∧ p = (z : Int) := by
        cases j with
        | zero => simp at hj; exact ⟨rfl, hj.symm⟩
        | succ j => simp at hj
      refine ⟨[.int .i64 (z : Int)], rfl, rfl, fun q u hq => ?_⟩
      rw [Addr.add_lit, cell_of_row _ (W.heap.size + 1) _ _ _ (0, 0) hlit, ← hq]
      simp⟩⟩
    have h3s : (setBlock W2 m (.map es1 clock1)).heap.size = W2.heap.size := by simp [setBlock]
    have hpl := posS_len l z z
    have H3 := Aside0.mk (And.intro i3 (And.intro c3 (And.intro (show n0 ≤ (setBlock W2 m (.map es1 clock1)).heap.size by omega) (And.intro (show ((pI (posS l z z)).length + 1) * 8 ≤ 140737488355328 by rw [pI_len]; omega) (show ∀ (w4 : World) (v1 : Value), (setBlock W2 m (.map es1 clock1)).grownBy w4 (Value.slice A9 n9 c9).ownBlock → ∃ es' clock', (Instr.entryStore 89 (.map (some m)) (goInt st) v1).run Try.prog w4 = .ok () (setBlock w4 m (.map es' clock')) ∧ _ from fun w4 v1 hg => hS w4 v1 ((hg.block m (by omega) (fun e => hnm m e.symm rfl)).trans (heap_setBlock_same h2 _)))))))
    rw [hW2] at H3
    clear hM hb hbm hr hl hz3 hlen hmW hnm i3 hs2 hlit c3 h3s hpl hW2 hB2 h2 i0 hv0 hS hn9
    go_enter Try.func62, Try.ntmps62
    go_wp2_with ((with_reducible refine gate_builtin (b := .append) (xs := #[.tmp 19, .tmp 21]) rfl ?_); at_builtin; refine Kd.R_append_rows (Kd.int .i64) (w0 := setBlock ((W.alloc (.cells #[.int .i64 x0, .int .i64 x1, .int .i64 x2] 91)).alloc (.cells #[.int .i64 z] 3)) m (.map es1 clock1)) n0 rfl (.tmp 19) (.tmp 21) 26 3 (.int .i64 0) 8 rfl Try.underlying26 info3 rfl (by decide) (by omega) (.slice A9 n9 c9) (pI (posS l z z)) [(z : Int)] (some ⟨W.heap.size + 1, 0, none⟩) 1 1 (fun _ => True) (fun _ => False) rfl rfl H3.out.1 H3.out.2.1 (fun _ _ h => h) (fun _ h => h.elim) (fun _ _ => trivial) (Below.refl _ _) H3.out.2.2.1 H3.out.2.2.2.1 ?_; intro v1 w4 ho1 hb1 hg1 hat1; obtain ⟨es', clock', hst, hd⟩ := H3.out.2.2.2.2 w4 v1 hg1; obtain ⟨A8, c8, e8⟩ := Kd.R_slice ho1; obtain ⟨n8, hn8⟩ : ∃ n8, n8 = (pI (posS l z z) ++ [(z : Int)]).length := ⟨_, rfl⟩; rw [← hn8] at e8; subst e8; have hst' : (Instr.entryStore 89 (.map (some m)) (.int .i64 st) (.slice A8 n8 c8)).run Try.prog w4 = .ok () (setBlock w4 m (.map es' clock')) := hst; clear hst; have HO := Aside0.mk (And.intro ho1 (And.intro hg1 (And.intro hat1 hd))); clear ho1 hb1 hg1 hat1 hd hn8)
    go_end0
    obtain ⟨ho1, hg1, hat1, hd⟩ := HO.out
    obtain ⟨hM, hb, hbm, hr, hl, hz3, hlen⟩ := HM.out
    obtain ⟨hW2, hB2, h2, i0, hv0, hS, hn9⟩ := HE.out
    rw [← hW2] at hg1 hat1
    have hnm : ∀ k, (Value.slice A9 n9 c9).ownBlock = some k → k ≠ m := fun k hk e => by
      obtain ⟨cs, hcs⟩ := Kd.R_typed i0 k hk
      rw [e, hM.at_] at hcs
      cases hcs
    have hmW : m < W.heap.size := (Array.getElem?_eq_some_iff.1 hM.at_).1
    have h3s : (setBlock W2 m (.map es1 clock1)).heap.size = W2.heap.size := by simp [setBlock]
    have hz2 := hB2.size
    have hw4 : w4.heap[m]? = some (.map es1 clock1) := (hg1.block m (by omega) (fun e => hnm m e.symm rfl)).trans (heap_setBlock_same h2 _)
    have hkeep : ∀ k, k < W.heap.size → k ≠ m → (Value.slice A9 n9 c9).ownBlock ≠ some k → (setBlock w4 m (.map es' clock')).heap[k]? = W.heap[k]? := fun k hk e1 e2 => by
      rw [heap_setBlock_other hw4 _ e1, hg1.block k (by omega) (fun e => e2 e.symm), heap_setBlock_other h2 _ e1]
      exact hB2.block k hk
    have hown : ∀ k, (Value.slice A8 n8 c8).ownBlock = some k → k ≠ m := fun k hk e => by
      obtain ⟨cs, hcs⟩ := Kd.R_typed ho1 k hk
      rw [e, hw4] at hcs
      cases hcs
    have hiv : IR (setBlock w4 m (.map es' clock')) n0 (.slice A8 n8 c8) (pI (posS l z z ++ [z])) := by
      have e : pI (posS l z z ++ [z]) = pI (posS l z z) ++ [(z : Int)] := by simp [pI]
      rw [e]
      exact IR.moved (show IR w4 n0 _ _ from ho1) fun k hk => heap_setBlock_other hw4 _ (hown k hk)
    have hn := hM.next (by omega) (heap_setBlock_same hw4 (.map es' clock')) hd hiv (by
      rcases hat1 with h | ⟨k, h, h5⟩
      · exact .inl h
      · exact .inr ⟨k, h, by omega⟩) (fun k hk he h5 => hkeep k hk (fun e => by
        obtain ⟨_, _, cs, hcs⟩ := hM.row he
        rw [e, hM.at_] at hcs
        cases hcs) h5)
    have hrow0 : ∀ k, (Value.slice A9 n9 c9).ownBlock = some k → eRow es k := fun k hk => by
      rcases hv0 with e | ⟨e, he, hev⟩
      · rw [e] at hk
        cases hk
      · exact ⟨e, he, by rw [hev]; exact hk⟩
    refine ⟨⟨_, rfl⟩, es', clock', hn.1, hn.2, ?_, ?_⟩
    · have b1 : Below n0 W (setBlock W2 m (.map es1 clock1)) := by
        refine (hB2.mono hn0).trans ⟨rfl, rfl, rfl, by simp [setBlock], fun k hk => heap_setBlock_other h2 _ (by omega)⟩
      have b2 : Below n0 W w4 := b1.grown hg1 (by omega) (fun k hk => (hM.row (hrow0 k hk)).2.1)
      exact b2.trans ⟨rfl, rfl, rfl, by simp [setBlock], fun k hk => heap_setBlock_other hw4 _ (by omega)⟩
    · refine ⟨?_, fun k hk hS => hkeep k hk (fun e => hS (.inl e)) (fun e => hS (.inr (hrow0 k e)))⟩
      have := hg1.size
      have : (setBlock w4 m (.map es' clock')).heap.size = w4.heap.size := by simp [setBlock]
      omega
  · have h3i : ¬ ((z3 : Int) ≤ (l.length : Int)) := by omega
    have HM := Aside0.mk hM
    have HZ := Aside0.mk hz3
    clear hM hz3
    go_enter Try.func62, Try.ntmps62
    go_wp2
    go_end0
    exact ⟨⟨_, rfl⟩, es, clock, HM.out.skip (W' := W) (by have := HZ.out; omega), fun k hk => .inl hk, Below.refl _ _, Kept.refl _ _⟩
end Go.Proofs.Ythoioccmnphfgaa.G

namespace Go.Proofs.Ythoioccmnphfgaa.G
open Go.RowKit Go.Shelf Go.Proofs.YthoioccmnphfgaaW.PrintWords Go.Proofs.YthoioccmnphfgaaW.PrintLast Go.Proofs.YthoioccmnphfgaaW.PrintMore
open Go.WideMaps Go.MapKept Go.ChangeMaps
set_option linter.unusedVariables false
set_option linter.unusedSimpArgs false
def impl_pack.f (k : Nat) (l : List Int) : Option (List Int) := if l.length ≤ 1000 ∧ l.all inI = true then some (Pu.packW (Pu.implM l) l (l.length + 1) 0 [] []) else none
theorem near_le (n : Nat → Nat) (m : Nat) (hn : ∀ b, n b ≤ m) (z : Nat) : ∀ (ps : List Nat) (s : Nat × Nat), s.1 ≤ m → (Pu.near n z ps s).1 ≤ m
  | [], s, h => h
  | p :: ps, s, h => by
    unfold Pu.near
    split
    · exact h
    · refine near_le n m hn z ps _ ?_
      split
      · exact hn _
      · exact h
theorem implM_le (l : List Int) (z : Nat) (hz : z ≤ l.length) : (Pu.implM l z).1 ≤ l.length - z ∧ (Pu.implM l z).1 ≤ 66 := by
  unfold Pu.implM
  split
  · refine ⟨near_le _ _ (fun b => ?_) _ _ _ (Nat.zero_le _), near_le _ _ (fun b => ?_) _ _ _ (Nat.zero_le _)⟩
    · have := Pu.alike_le 66 (l.drop (z - b)) (l.drop z)
      rwa [List.length_drop] at this
    · exact alike_le_m 66 _ _
  · exact ⟨Nat.zero_le _, Nat.zero_le _⟩
theorem plainV_len (l : List Int) : (Pu.plainV l).length ≤ 2 * l.length := by
  rw [plainV_eq, List.length_flatMap]
  have h1 : ∀ j ∈ List.range (chN l.length), (pcOf l j).length = min 64 (l.length - 64 * j) + 1 := fun j hj => by
    unfold pcOf
    rw [List.length_cons, List.length_take, List.length_drop]
  have h2 : ∀ n, ((List.range n).map fun j => (pcOf l j).length).sum ≤ min (64 * n) l.length + n := fun n => by
    induction n with
    | zero => simp
    | succ n ih =>
      rw [List.range_succ, List.map_append, List.sum_append]
      have : (pcOf l n).length = min 64 (l.length - 64 * n) + 1 := by unfold pcOf; rw [List.length_cons, List.length_take, List.length_drop]
      simp only [List.map_cons, List.map_nil, List.sum_cons, List.sum_nil, this]
      omega
  have h3 := h2 (chN l.length)
  have : chN l.length ≤ l.length := by unfold chN; omega
  omega
theorem MapI.keep {W W' : World} {n0 m : Nat} {l : List Int} {z : Nat} {es : Array MapEntry} {clock : Nat} (h : MapI W n0 m l z es clock) (hk : ∀ k, k = m ∨ eRow es k → W'.heap[k]? = W.heap[k]?) : MapI W' n0 m l z es clock := by
  refine ⟨(hk m (.inl rfl)).trans h.at_, h.st, fun e he => ?_, h.all, h.apart, h.size⟩
  obtain ⟨p, h1, h2, h3⟩ := h.ent e he
  exact ⟨p, h1, h2, h3.moved fun k hk1 => hk k (.inr ⟨e, he, hk1⟩)⟩
/-- The memory of a call of pack. -/
structure PkS (w : World) (A0 : Option Addr) (c0 : Nat) (l : List Int) (b bo bp bm m z : Nat) (out plain : List Int) (vo vp : Value) (es : Array MapEntry) (clock : Nat) (W : World) : Prop where
  bB : Boxed W b 26 (.slice A0 l.length c0)
  bO : Boxed W bo 26 vo
  bP : Boxed W bp 26 vp
  bM : Boxed W bm 89 (.map (some m))
  iO : IR W w.heap.size vo out
  iP : IR W w.heap.size vp plain
  sep : ∀ k, vp.ownBlock = some k → vo.ownBlock ≠ some k
  mp : MapI W w.heap.size m l z es clock
  row : ∀ k, eRow es k → vo.ownBlock ≠ some k ∧ vp.ownBlock ≠ some k
  bel : Below w.heap.size w W
section
variable {w : World} {A0 : Option Addr} {c0 : Nat} {l : List Int} {b bo bp bm m z : Nat} {out plain out' plain' : List Int} {vo vp vo' vp' : Value} {es : Array MapEntry} {clock : Nat} {W W' : World}
theorem PkS.mlt (h : PkS w A0 c0 l b bo bp bm m z out plain vo vp es clock W) : m < W.heap.size := (Array.getElem?_eq_some_iff.1 h.mp.at_).1
theorem PkS.no_m {t : TypeId} {v : Value} {x : Nat} (h : PkS w A0 c0 l b bo bp bm m z out plain vo vp es clock W) (hx : Boxed W x t v) : x ≠ m := fun e => by
  have h1 := h.mp.at_
  rw [← e, show W.heap[x]? = _ from hx] at h1
  cases h1
theorem PkS.ir_m {v : Value} {xs : List Int} (h : PkS w A0 c0 l b bo bp bm m z out plain vo vp es clock W) (hi : IR W w.heap.size v xs) : ∀ k, v.ownBlock = some k → k ≠ m := fun k hk e => by
  obtain ⟨cs, hc⟩ := Kd.R_typed hi k hk
  rw [e, h.mp.at_] at hc
  cases hc
theorem PkS.no_row {t : TypeId} {v : Value} {x : Nat} (h : PkS w A0 c0 l b bo bp bm m z out plain vo vp es clock W) (hx : Boxed W x t v) (ht : t ≠ 3) : ¬ eRow es x := fun e => by
  obtain ⟨_, _, cs, hc⟩ := h.mp.row e
  rw [show W.heap[x]? = _ from hx] at hc
  cases hc
  exact ht rfl
/-- The rows of what is out and what is plain have been written. -/
theorem PkS.upd (h : PkS w A0 c0 l b bo bp bm m z out plain vo vp es clock W) (hbo : b ≠ bo) (hbp : b ≠ bp) (hmo : bm ≠ bo) (hmp : bm ≠ bp) (hk : Kept W W' (fun k => k = bo ∨ k = bp ∨ some k = vo.ownBlock ∨ some k = vp.ownBlock)) (hB : Below w.heap.size W W')
    (bO : Boxed W' bo 26 vo') (bP : Boxed W' bp 26 vp') (iO : IR W' w.heap.size vo' out') (iP : IR W' w.heap.size vp' plain') (hs : ∀ k, vp'.ownBlock = some k → vo'.ownBlock ≠ some k)
    (ho : ∀ k, vo'.ownBlock = some k → vo.ownBlock = some k ∨ W.heap.size ≤ k) (hp : ∀ k, vp'.ownBlock = some k → vp.ownBlock = some k ∨ W.heap.size ≤ k) : PkS w A0 c0 l b bo bp bm m z out' plain' vo' vp' es clock W' := by
  have hx : ∀ {x t v}, Boxed W x t v → 3 ≠ t → x ≠ bo → x ≠ bp → Boxed W' x t v := fun {x t v} hx ht e1 e2 => (hk.2 x hx.lt (fun e => by
    rcases e with e | e | e | e
    · exact e1 e
    · exact e2 e
    · exact h.iO.box ht hx e
    · exact h.iP.box ht hx e)).trans hx
  refine ⟨hx h.bB (by decide) hbo hbp, bO, bP, hx h.bM (by decide) hmo hmp, iO, iP, hs, h.mp.keep fun k hk1 => hk.2 k ?_ ?_, fun k hr => ⟨fun e => ?_, fun e => ?_⟩, h.bel.trans hB⟩
  · rcases hk1 with rfl | hk1
    · exact h.mlt
    · exact (h.mp.row hk1).1
  · intro e
    rcases hk1 with rfl | hk1
    · rcases e with e | e | e | e
      · exact h.no_m h.bO e.symm
      · exact h.no_m h.bP e.symm
      · exact h.ir_m h.iO _ e.symm rfl
      · exact h.ir_m h.iP _ e.symm rfl
    · rcases e with rfl | rfl | e | e
      · exact h.no_row h.bO (by decide) hk1
      · exact h.no_row h.bP (by decide) hk1
      · exact (h.row k hk1).1 e.symm
      · exact (h.row k hk1).2 e.symm
  · rcases ho k e with h1 | h1
    · exact (h.row k hr).1 h1
    · have := (h.mp.row hr).1
      omega
  · rcases hp k e with h1 | h1
    · exact (h.row k hr).2 h1
    · have := (h.mp.row hr).1
      omega
theorem PkS.below (h : PkS w A0 c0 l b bo bp bm m z out plain vo vp es clock W) (hB : Below W.heap.size W W') : PkS w A0 c0 l b bo bp bm m z out plain vo vp es clock W' := by
  have hx : ∀ {x t v}, Boxed W x t v → Boxed W' x t v := fun {x t v} hx => (hB.block x hx.lt).trans hx
  refine ⟨hx h.bB, hx h.bO, hx h.bP, hx h.bM, h.iO.moved fun k hk => hB.block k (h.iO.lt k hk), h.iP.moved fun k hk => hB.block k (h.iP.lt k hk), h.sep, h.mp.keep fun k hk => hB.block k ?_, h.row, h.bel.trans (hB.mono h.bel.size)⟩
  rcases hk with rfl | hk
  · exact h.mlt
  · exact (h.mp.row hk).1
theorem PkS.seen (h : PkS w A0 c0 l b bo bp bm m z out plain vo vp es clock W) (hs : SeeP W w.heap.size m l z es W') : ∃ es' clock', PkS w A0 c0 l b bo bp bm m (z + 1) out plain vo vp es' clock' W' := by
  obtain ⟨es', clock', h1, h2, h3, h4⟩ := hs
  have hx : ∀ {x t v}, Boxed W x t v → t ≠ 3 → Boxed W' x t v := fun {x t v} hx ht => (h4.2 x hx.lt (fun e => by
    rcases e with e | e
    · exact h.no_m hx e
    · exact h.no_row hx ht e)).trans hx
  refine ⟨es', clock', hx h.bB (by decide), hx h.bO (by decide), hx h.bP (by decide), hx h.bM (by decide), h.iO.kept h4 (fun k hk e => ?_), h.iP.kept h4 (fun k hk e => ?_), h.sep, h1, fun k hk => ?_, h.bel.trans h3⟩
  · rcases e with e | e
    · exact h.ir_m h.iO k hk e
    · exact (h.row k e).1 hk
  · rcases e with e | e
    · exact h.ir_m h.iP k hk e
    · exact (h.row k e).2 hk
  · rcases h2 k hk with h5 | h5
    · exact h.row k h5
    · exact ⟨fun e => by have := h.iO.lt k e; omega, fun e => by have := h.iP.lt k e; omega⟩
theorem PkS.boxP (h : PkS w A0 c0 l b bo bp bm m z out plain vo vp es clock W) {w3 : World} (hg : W.grownBy w3 vp.ownBlock) : Boxed w3 bp 26 vp := h.bP.kept hg (h.iP.box (by decide) h.bP)
theorem PkS.boxO (h : PkS w A0 c0 l b bo bp bm m z out plain vo vp es clock W) {w3 : World} (hg : W.grownBy w3 vo.ownBlock) : Boxed w3 bo 26 vo := h.bO.kept hg (h.iO.box (by decide) h.bO)
theorem PkS.put_plain (h : PkS w A0 c0 l b bo bp bm m z out plain vo vp es clock W) (hbo : b ≠ bo) (hbp : b ≠ bp) (hmo : bm ≠ bo) (hmp : bm ≠ bp) (hop : bo ≠ bp) (h0 : w.heap.size ≤ bp) {w3 : World} {v1 : Value} (hg : W.grownBy w3 vp.ownBlock) (hi : IR w3 w.heap.size v1 plain') (hat : v1.ownBlock = vp.ownBlock ∨ ∃ k, v1.ownBlock = some k ∧ W.heap.size ≤ k) :
    PkS w A0 c0 l b bo bp bm m z out plain' vo v1 es clock (w3.setCell ⟨bp, 0, none⟩ v1) := by
  have hb3 := h.boxP hg
  have hv : ∀ k, v1.ownBlock = some k → vp.ownBlock = some k ∨ W.heap.size ≤ k := fun k hk => by
    rcases hat with e | ⟨k', e, e2⟩
    · exact .inl (e.symm.trans hk)
    · rw [e] at hk
      cases hk
      exact .inr e2
  have hbO3 : Boxed w3 bo 26 vo := h.bO.kept hg (h.iP.box (by decide) h.bO)
  have hiO3 : IR w3 w.heap.size vo out := h.iO.grown hg (fun k hk e => h.sep k hk e.symm)
  refine h.upd hbo hbp hmo hmp (((Kept.refl W _).of_grown hg (fun k hk => .inl (.inr (.inr (.inr hk.symm))))).setCell (.inl (.inr (.inl rfl))) _) (((Below.refl _ W).grown hg h.bel.size (Kd.R_base h.iP)).setCell (p := ⟨bp, 0, none⟩) h0 _) (hbO3.other hop _) (Boxed.set _ hb3) (hiO3.setBox (by decide) hb3 _) (hi.setBox (by decide) hb3 _) (fun k hk e => ?_) (fun k hk => .inl hk) hv
  rcases hv k hk with h1 | h1
  · exact h.sep k h1 e
  · have := h.iO.lt k e
    omega
theorem PkS.put_out (h : PkS w A0 c0 l b bo bp bm m z out plain vo vp es clock W) (hbo : b ≠ bo) (hbp : b ≠ bp) (hmo : bm ≠ bo) (hmp : bm ≠ bp) (hop : bo ≠ bp) (h0 : w.heap.size ≤ bo) {w3 : World} {v1 : Value} (hg : W.grownBy w3 vo.ownBlock) (hi : IR w3 w.heap.size v1 out') (hat : v1.ownBlock = vo.ownBlock ∨ ∃ k, v1.ownBlock = some k ∧ W.heap.size ≤ k) :
    PkS w A0 c0 l b bo bp bm m z out' plain v1 vp es clock (w3.setCell ⟨bo, 0, none⟩ v1) := by
  have hb3 := h.boxO hg
  have hv : ∀ k, v1.ownBlock = some k → vo.ownBlock = some k ∨ W.heap.size ≤ k := fun k hk => by
    rcases hat with e | ⟨k', e, e2⟩
    · exact .inl (e.symm.trans hk)
    · rw [e] at hk
      cases hk
      exact .inr e2
  have hbP3 : Boxed w3 bp 26 vp := h.bP.kept hg (h.iO.box (by decide) h.bP)
  have hiP3 : IR w3 w.heap.size vp plain := h.iP.grown hg (fun k hk e => h.sep k e.symm hk)
  refine h.upd hbo hbp hmo hmp (((Kept.refl W _).of_grown hg (fun k hk => .inl (.inr (.inr (.inl hk.symm))))).setCell (.inl (.inl rfl)) _) (((Below.refl _ W).grown hg h.bel.size (Kd.R_base h.iO)).setCell (p := ⟨bo, 0, none⟩) h0 _) (Boxed.set _ hb3) (hbP3.other (fun e => hop e.symm) _) (hi.setBox (by decide) hb3 _) (hiP3.setBox (by decide) hb3 _) (fun k hk e => ?_) hv (fun k hk => .inl hk)
  rcases hv k e with h1 | h1
  · exact h.sep k hk h1
  · have := h.iP.lt k hk
    omega
end
theorem lit2_C (W : World) (x y : Int) : Kd.C (Kd.int .i64) (W.alloc (.cells #[.int .i64 x, .int .i64 y] 3)) (some ⟨W.heap.size, 0, none⟩) 2 [x, y] := ⟨rfl, by omega, fun _ => ⟨_, rfl, fun j p hj => by
  have hlit := World.alloc_heap_new W (.cells #[.int .i64 x, .int .i64 y] 3)
  match j, hj with
  | 0, hj =>
    obtain rfl : x = p := by simpa using hj
    refine ⟨[.int .i64 x], rfl, rfl, fun q u hq => ?_⟩
    match q, hq with
    | 0, hq =>
      rw [Addr.add_lit, cell_of_row _ W.heap.size _ _ _ (0, 0) hlit, ← hq]
      rfl
  | 1, hj =>
    obtain rfl : y = p := by simpa using hj
    refine ⟨[.int .i64 y], rfl, rfl, fun q u hq => ?_⟩
    match q, hq with
    | 0, hq =>
      rw [Addr.add_lit, cell_of_row _ W.heap.size _ _ _ (0, 0) hlit, ← hq]
      rfl⟩⟩
/-- What holds at the head of a round. -/
def PkI (w : World) (A0 : Option Addr) (c0 : Nat) (l : List Int) (b bo bp bm m z : Nat) (W : World) : Prop :=
  ∃ out plain vo vp es clock, PkS w A0 c0 l b bo bp bm m z out plain vo vp es clock W ∧
    (∃ k, l.length + 1 ≤ k + z ∧ Pu.packW (Pu.implM l) l k z out plain = Pu.packW (Pu.implM l) l (l.length + 1) 0 [] []) ∧ out.length + 2 * plain.length ≤ 2 * z ∧ z ≤ l.length
theorem packW_lt (M : Nat → Nat × Nat) (l : List Int) (k z : Nat) (out plain : List Int) (h : z < l.length) (hm : (M z).1 < 3) : Pu.packW M l (k + 1) z out plain = Pu.packW M l k (z + 1) out (plain ++ [l.getD z 0]) := by rw [Pu.packW, if_pos h, if_pos hm]
theorem packW_ge (M : Nat → Nat × Nat) (l : List Int) (k z : Nat) (out plain : List Int) (h : z < l.length) (hm : ¬ (M z).1 < 3) : Pu.packW M l (k + 1) z out plain = Pu.packW M l k (z + (M z).1) (out ++ Pu.plainV plain ++ [((M z).1 : Int) + 61, ((M z).2 : Int)]) [] := by rw [Pu.packW, if_pos h, if_neg hm]
def pk0 (w : World) (A0 : Option Addr) (c0 n : Nat) : World := ((((((w.alloc (.cells #[.slice A0 n c0] 26)).alloc (.cells #[] 3)).alloc (.cells #[] 3)).alloc (.cells #[.slice (some ⟨w.heap.size + 1, 0, none⟩) 0 0] 26)).alloc (.cells #[.slice (some ⟨w.heap.size + 1 + 1, 0, none⟩) 0 0] 26)).alloc (.map #[] 0)).alloc (.cells #[.map (some (w.heap.size + 1 + 1 + 1 + 1 + 1))] 89)
theorem pk_start (w : World) (A0 : Option Addr) (c0 : Nat) (l : List Int) : PkI w A0 c0 l w.heap.size (w.heap.size + 1 + 1 + 1) (w.heap.size + 1 + 1 + 1 + 1) (w.heap.size + 1 + 1 + 1 + 1 + 1 + 1) (w.heap.size + 1 + 1 + 1 + 1 + 1) 0 (pk0 w A0 c0 l.length) := by
  have hB : Below w.heap.size w (pk0 w A0 c0 l.length) := below_alloc (below_alloc (below_alloc (below_alloc (below_alloc (below_alloc (below_alloc (Below.refl _ _) _) _) _) _) _) _) _
  have g : ∀ (W : World) (o : Obj) (k : Nat), k < W.heap.size → (W.alloc o).heap[k]? = W.heap[k]? := fun W o k h => Below.heap_alloc W o k h
  have i1 : IR (pk0 w A0 c0 l.length) w.heap.size (.slice (some ⟨w.heap.size + 1, 0, none⟩) 0 0) [] := by
    have h0 : IR ((w.alloc (.cells #[.slice A0 l.length c0] 26)).alloc (.cells #[] 3)) w.heap.size (.slice (some ⟨w.heap.size + 1, 0, none⟩) 0 0) [] := by
      have := World.ownsRow_made (base := w.heap.size) (e := 3) (size := 1) (w.alloc (.cells #[.slice A0 l.length c0] 26)) #[] 0 (by simp) (by simp [maxLen]) (by simp)
      rw [World.size_alloc] at this
      exact Kd.R_of_own (xs := []) this (fun _ _ => trivial)
    refine h0.moved fun k hk => ?_
    obtain rfl : w.heap.size + 1 = k := by simpa [Value.ownBlock] using hk
    unfold pk0
    repeat rw [g _ _ _ (by simp only [World.size_alloc]; omega)]
  have i2 : IR (pk0 w A0 c0 l.length) w.heap.size (.slice (some ⟨w.heap.size + 1 + 1, 0, none⟩) 0 0) [] := by
    have h0 : IR (((w.alloc (.cells #[.slice A0 l.length c0] 26)).alloc (.cells #[] 3)).alloc (.cells #[] 3)) w.heap.size (.slice (some ⟨w.heap.size + 1 + 1, 0, none⟩) 0 0) [] := by
      have := World.ownsRow_made (base := w.heap.size) (e := 3) (size := 1) ((w.alloc (.cells #[.slice A0 l.length c0] 26)).alloc (.cells #[] 3)) #[] 0 (by simp only [World.size_alloc]; omega) (by simp [maxLen]) (by simp)
      rw [World.size_alloc, World.size_alloc] at this
      exact Kd.R_of_own (xs := []) this (fun _ _ => trivial)
    refine h0.moved fun k hk => ?_
    obtain rfl : w.heap.size + 1 + 1 = k := by simpa [Value.ownBlock] using hk
    unfold pk0
    repeat rw [g _ _ _ (by simp only [World.size_alloc]; omega)]
  refine ⟨[], [], _, _, #[], 0, ⟨?_, ?_, ?_, ?_, i1, i2, ?_, ⟨?_, stamped_empty 0, fun e he => by simp at he, fun p hp => by omega, by simp, by simp⟩, fun k ⟨e, he, _⟩ => by simp at he, hB⟩, ⟨l.length + 1, by omega, rfl⟩, by simp, Nat.zero_le _⟩
  · exact ((((((Boxed.new w _ _).alloc _).alloc _).alloc _).alloc _).alloc _).alloc _
  · have := Boxed.new (((w.alloc (.cells #[.slice A0 l.length c0] 26)).alloc (.cells #[] 3)).alloc (.cells #[] 3)) 26 (.slice (some ⟨w.heap.size + 1, 0, none⟩) 0 0)
    simp only [World.size_alloc] at this
    exact ((this.alloc _).alloc _).alloc _
  · have := Boxed.new ((((w.alloc (.cells #[.slice A0 l.length c0] 26)).alloc (.cells #[] 3)).alloc (.cells #[] 3)).alloc (.cells #[.slice (some ⟨w.heap.size + 1, 0, none⟩) 0 0] 26)) 26 (.slice (some ⟨w.heap.size + 1 + 1, 0, none⟩) 0 0)
    simp only [World.size_alloc] at this
    exact (this.alloc _).alloc _
  · have := Boxed.new ((((((w.alloc (.cells #[.slice A0 l.length c0] 26)).alloc (.cells #[] 3)).alloc (.cells #[] 3)).alloc (.cells #[.slice (some ⟨w.heap.size + 1, 0, none⟩) 0 0] 26)).alloc (.cells #[.slice (some ⟨w.heap.size + 1 + 1, 0, none⟩) 0 0] 26)).alloc (.map #[] 0)) 89 (.map (some (w.heap.size + 1 + 1 + 1 + 1 + 1)))
    simp only [World.size_alloc] at this
    exact this
  · intro k hk hk2
    have e1 : w.heap.size + 1 + 1 = k := by simpa [Value.ownBlock] using hk
    have e2 : w.heap.size + 1 = k := by simpa [Value.ownBlock] using hk2
    omega
  · have := World.alloc_heap_new (((((w.alloc (.cells #[.slice A0 l.length c0] 26)).alloc (.cells #[] 3)).alloc (.cells #[] 3)).alloc (.cells #[.slice (some ⟨w.heap.size + 1, 0, none⟩) 0 0] 26)).alloc (.cells #[.slice (some ⟨w.heap.size + 1 + 1, 0, none⟩) 0 0] 26)) (.map #[] 0)
    simp only [World.size_alloc] at this
    unfold pk0
    rw [g _ _ _ (by simp only [World.size_alloc]; omega)]
    exact this
set_option maxRecDepth 100000 in
set_option maxHeartbeats 8000000 in
theorem impl_pack.calls (k : Nat) (A0 : Option Addr) (c0 : Nat) (l0 r : List Int) (w : World) (hr0 : Kd.C (Kd.int .i64) w A0 l0.length l0) (hc0 : l0.length ≤ c0) (h : impl_pack.f k l0 = some r) :
    Calls Try.prog 43 #[.slice A0 l0.length c0] w fun e w' => ∃ v0_ : Value, e = .returned v0_ ∧ Kd.R (Kd.int .i64) 3 w' w.heap.size (fun _ => True) v0_ r ∧ Below w.heap.size w w' := by
  unfold impl_pack.f at h
  split at h
  case isFalse => cases h
  rename_i hg
  obtain ⟨hl, hin⟩ := hg
  have HR := Aside0.mk (Option.some.inj h)
  clear h
  have HC := Aside0.mk (And.intro hr0 (And.intro hc0 (And.intro hl hin)))
  clear hr0 hc0 hl hin
  have mixed : Try.prog.follows .mixedOrders = true := by kernel_rfl
  go_enter Try.func43, Try.ntmps43
  have hmk : ∀ W : World, (Instr.makeMap 89 none).run Try.prog W = .ok (.map (some W.heap.size)) (W.alloc (.map #[] 0)) := fun _ => rfl
  go_wp2
  have HP0 := Aside0.mk (pk_start w A0 c0 l0)
  have hW0 : pk0 w A0 c0 l0.length = ((((((w.alloc (.cells #[.slice A0 l0.length c0] 26)).alloc (.cells #[] 3)).alloc (.cells #[] 3)).alloc (.cells #[.slice (some ⟨w.heap.size + 1, 0, none⟩) 0 0] 26)).alloc (.cells #[.slice (some ⟨w.heap.size + 1 + 1, 0, none⟩) 0 0] 26)).alloc (.map #[] 0)).alloc (.cells #[.map (some (w.heap.size + 1 + 1 + 1 + 1 + 1))] 89) := rfl
  rw [← hW0]
  clear hW0
  generalize pk0 w A0 c0 l0.length = W0 at HP0 ⊢
  obtain ⟨bm, hbm⟩ : ∃ x, w.heap.size + 1 + 1 + 1 + 1 + 1 + 1 = x := ⟨_, rfl⟩
  obtain ⟨m, hm⟩ : ∃ x, w.heap.size + 1 + 1 + 1 + 1 + 1 = x := ⟨_, rfl⟩
  obtain ⟨bp, hbp⟩ : ∃ x, w.heap.size + 1 + 1 + 1 + 1 = x := ⟨_, rfl⟩
  obtain ⟨bo, hbo⟩ : ∃ x, w.heap.size + 1 + 1 + 1 = x := ⟨_, rfl⟩
  obtain ⟨b, hb⟩ : ∃ x, w.heap.size = x := ⟨_, rfl⟩
  have HN := Aside0.mk (show b = w.heap.size ∧ bo = w.heap.size + 3 ∧ bp = w.heap.size + 4 ∧ m = w.heap.size + 5 ∧ bm = w.heap.size + 6 by omega)
  have HP : Aside0 (PkI w A0 c0 l0 b bo bp bm m 0 W0) := by
    have := HP0.out
    rw [hbm, hm, hbp, hbo] at this
    exact ⟨by rw [← hb]; exact this⟩
  clear HP0
  rw [hbm, hm, hbp, hbo, hb]
  clear hbm hm hbp hbo hb hmk
  go_loopw [8] (fun v8 wr => ∃ z : Nat, v8 = .int .i64 z ∧ Aside0 (PkI w A0 c0 l0 b bo bp bm m z wr)) (fun v8 _ => l0.length - (intOf v8).toNat)
  case atStart => exact ⟨0, rfl, HP⟩
  case round =>
    obtain ⟨z, rfl, HI⟩ := hrel
    clear HP
    obtain ⟨out, plain, vo, vp, es, clock, hS, ⟨kf, hkf, hpk⟩, hln, hzl⟩ := HI.out
    have cB := hS.bB.cell
    have hwB := hS.bel.size
    by_cases hlt : z < l0.length
    · have hw1 : IntKind.i64.wrap ((z : Int) + 3) = ((z + 3 : Nat) : Int) := wr_add z 3 (by have := HC.out.2.2.1; omega)
      obtain ⟨z3, hz3⟩ : ∃ z3, z3 = z + 3 := ⟨_, rfl⟩
      rw [← hz3] at hw1
      have hlti : (z : Int) < (l0.length : Int) := by omega
      have hM9 : (Pu.implM l0 z).1 ≤ l0.length - z ∧ (Pu.implM l0 z).1 ≤ 66 := implM_le l0 z hzl
      by_cases h3 : z3 ≤ l0.length
      · have h3i : (z3 : Int) ≤ (l0.length : Int) := by omega
        have hr1 := Kd.C_below HC.out.1 hS.bel
        obtain ⟨ad, rfl, hx0⟩ := cell_int hr1 z (by omega)
        obtain ⟨ad', e1, hx1⟩ := cell_int hr1 (z + 1) (by omega)
        cases e1
        obtain ⟨ad', e2, hx2⟩ := cell_int hr1 (z + 2) (by omega)
        cases e2
        have hl1 := HC.out.2.2.1
        have hcc := HC.out.2.1
        have hq3 : z + 3 ≤ l0.length := by omega
        have hfacts : ∀ w', Below wr.heap.size wr w' → w'.cell? ⟨b, 0, none⟩ = some (.slice (some ad) l0.length c0) ∧ w'.cell? ⟨bm, 0, none⟩ = some (.map (some m)) ∧ w'.cell? (ad.add z) = some (.int .i64 (l0.getD z 0)) ∧ w'.cell? ⟨(ad.add z).block, (ad.add z).off + 1, none⟩ = some (.int .i64 (l0.getD (z + 1) 0)) ∧ w'.cell? ⟨(ad.add z).block, (ad.add z).off + 2, none⟩ = some (.int .i64 (l0.getD (z + 2) 0)) := fun w' hw' => by
          have h := hS.below hw'
          have hq : ∀ {a : Addr} {v}, wr.cell? a = some v → w'.cell? a = some v := fun {a v} hv => (hw'.cell (World.block_lt_of_cell? wr a hv)).trans hv
          refine ⟨h.bB.cell, h.bM.cell, hq hx0, ?_, ?_⟩
          · rw [← add_field _ _ 1 (by omega)]; exact hq hx1
          · rw [← add_field _ _ 2 (by omega)]; exact hq hx2
        obtain ⟨x0, hx0e⟩ : ∃ x, x = l0.getD z 0 := ⟨_, rfl⟩
        obtain ⟨x1, hx1e⟩ : ∃ x, x = l0.getD (z + 1) 0 := ⟨_, rfl⟩
        obtain ⟨x2, hx2e⟩ : ∃ x, x = l0.getD (z + 2) 0 := ⟨_, rfl⟩
        rw [← hx0e, ← hx1e, ← hx2e] at hfacts
        have hkv : keyV l0 z = .agg #[.int .i64 x0, .int .i64 x1, .int .i64 x2] := by unfold keyV; rw [hx0e, hx1e, hx2e]
        obtain ⟨vl, hlk, il, hvl⟩ := hS.mp.look HC.out.2.2.2 z hq3
        rw [hkv] at hlk
        obtain ⟨A7, c7, e7⟩ := Kd.R_slice il
        obtain ⟨n7, hn7⟩ : ∃ n, n = (pI (posS l0 z z)).length := ⟨_, rfl⟩
        rw [← hn7] at e7
        subst e7
        have HF := Aside0.mk (And.intro hfacts (fun w' (hw' : Below wr.heap.size wr w') => hlk w' (hS.below hw').mp.at_))
        have hmt : ∀ w', Below wr.heap.size wr w' → Calls Try.prog 63 #[.slice (some ad) l0.length c0, .int .i64 z, .slice A7 n7 c7] w' fun e w'' => e = .returned (.tuple #[.int .i64 ((Pu.implM l0 z).1 : Nat), .int .i64 ((Pu.implM l0 z).2 : Nat)]) ∧ Below w'.heap.size w' w'' := fun w' hw' => by
          have h1 : IR w' w.heap.size (.slice A7 n7 c7) (pI (posS l0 z z)) := il.moved fun k hk => hw'.block k (il.lt k hk)
          have h2 := (Kd.R_reads' h1).2.2
          have := match_calls (some ad) c0 l0 z A7 c7 (posS l0 z z) w' (Kd.C_below HC.out.1 (hS.below hw').bel) (by omega) (by omega) h2 (fun p hp => posS_lt hp) (by have := posS_len l0 z z; omega)
          rw [← hn7] at this
          have hm : Pu.implM l0 z = Pu.near (Pu.nAt l0 z) z (posS l0 z z).reverse (0, 0) := by unfold Pu.implM posS; rw [if_pos hq3]
          rw [hm]
          exact this
        obtain ⟨M1, hM1⟩ : ∃ x, x = (Pu.implM l0 z).1 := ⟨_, rfl⟩
        obtain ⟨M2, hM2⟩ : ∃ x, x = (Pu.implM l0 z).2 := ⟨_, rfl⟩
        rw [← hM1] at hM9
        rw [← hM1, ← hM2] at hmt
        have HMt := Aside0.mk hmt
        have HM := Aside0.mk (And.intro hM1 hM2)
        have HS := Aside0.mk hS
        have HX := Aside0.mk (And.intro (show ∃ k, l0.length + 1 ≤ k + z ∧ Pu.packW (Pu.implM l0) l0 k z out plain = Pu.packW (Pu.implM l0) l0 (l0.length + 1) 0 [] [] from ⟨kf, hkf, hpk⟩) (And.intro hln (And.intro hzl (And.intro hz3 (And.intro hlt (And.intro h3 hM9))))))
        have a1 : (z : Int) ≤ (z3 : Int) := by omega
        have a2 : (z3 : Int) ≤ (c0 : Int) := by omega
        have a3 : z3 - z = 3 := by omega
        have a4 : ¬ c0 = z := by omega
        have a5 := arr_at (some (ad.add z)) (c0 - z)
        clear hr1 hx0 hx1 hx2 hl1 hcc hq3 hfacts hx0e hx1e hx2e hkv hlk il hvl hn7 hmt hM1 hM2 hS hpk hkf hln hzl hz3 hlt h3 hwB hM9
        go_wp2
        refine r_begin (fun w' => Below wr.heap.size wr w') 17 (by kernel_rfl) rfl (below_drew (Below.refl _ _)) (fun hH => ?_)
        repeat (first | (refine r_go (v := ?_) (by kernel_rfl) (by rfl) (fun _ _ _ h => h) hH ?_ ?_; rotate_left; (focus (intro w hS; obtain ⟨⟨e0, e1, e2, e3, e4⟩, e5⟩ := And.intro (HF.out.1 w hS) (HF.out.2 w hS); go_simp; first | done | with_reducible rfl)); simp only [Act.put, List.setIfInBounds_toArray, List.set_cons_zero, List.set_cons_succ, Nat.reduceAdd]))
        refine r_one (by kernel_rfl) (by rfl) (fun K hK => ?_)
        go_simp
        go_at_call 63
        refine (HMt.out _ (below_drew (Below.refl _ wr))).mono ?_
        rintro e w2 ⟨rfl, hb⟩
        go_wp2_with fail
        have hB2 : Below wr.heap.size wr w2 := (below_drew (Below.refl _ wr)).trans hb
        refine hK.out _ _ hB2 (fun hH => ?_)
        clear hK K hb
        simp only [Act.put, List.setIfInBounds_toArray, List.set_cons_zero, List.set_cons_succ, Nat.reduceAdd]
        repeat (first | (refine r_go (v := ?_) (by kernel_rfl) (by rfl) (fun _ _ _ h => h) hH ?_ ?_; rotate_left; (focus (intro w hS; go_simp; first | done | with_reducible rfl)); simp only [Act.put, List.setIfInBounds_toArray, List.set_cons_zero, List.set_cons_succ, Nat.reduceAdd]))
        refine r_done (by kernel_rfl) ?_
        have HS2 := Aside0.mk (HS.out.below hB2)
        have c2 := HS2.out.bB.cell
        clear hH hB2 HS HMt HF a1 a2 a3 a4 a5
        by_cases hM3 : M1 < 3
        · have hM3i : (M1 : Int) < 3 := by omega
          have HM3 := Aside0.mk (show (Pu.implM l0 z).1 < 3 by rw [← HM.out.1]; exact hM3)
          have hnn := HN.out
          have hcx := HC.out
          have hxx := HX.out
          obtain ⟨Ap, cp, ep⟩ := Kd.R_slice HS2.out.iP
          obtain ⟨np, hnp⟩ : ∃ n, n = plain.length := ⟨_, rfl⟩
          rw [← hnp] at ep
          subst ep
          have cP := HS2.out.bP.cell
          obtain ⟨ad9, e9, cX⟩ := cell_int (Kd.C_below hcx.1 HS2.out.bel) z hxx.2.2.2.2.1
          obtain ⟨xz, hxz⟩ : ∃ x, x = l0.getD z 0 := ⟨_, rfl⟩
          rw [← hxz] at cX
          first | (injection e9 with e9; subst e9) | subst e9
          have hpu : ∃ k, l0.length + 1 ≤ k + (z + 1) ∧ Pu.packW (Pu.implM l0) l0 k (z + 1) out (plain ++ [xz]) = Pu.packW (Pu.implM l0) l0 (l0.length + 1) 0 [] [] := by
            obtain ⟨kf, hkf, hpk⟩ := hxx.1
            cases kf with
            | zero => omega
            | succ k =>
              refine ⟨k, by omega, ?_⟩
              rw [← hpk, packW_lt _ _ _ _ _ _ hxx.2.2.2.2.1 HM3.out, ← hxz]
          have IP := Aside0.mk (show IR w2.drew w.heap.size (.slice Ap np cp) plain from HS2.out.iP)
          have hsz : w.heap.size ≤ w2.heap.size := HS2.out.bel.size
          have hzi : (z : Int) < (l0.length : Int) := by have := hxx.2.2.2.2.1; omega
          have hz1 : IntKind.i64.wrap ((z : Int) + 1) = (z : Int) + 1 := by have := wr_add z 1 (by omega); exact this
          have HZ := Aside0.mk (And.intro hsz (show plain.length ≤ 2000 by omega))
          have HP := Aside0.mk (And.intro hpu (show out.length + 2 * (plain ++ [xz]).length ≤ 2 * (z + 1) ∧ z + 1 ≤ l0.length by rw [List.length_append, List.length_singleton]; omega))
          have hput := fun (w3 : World) (v1 : Value) (hg : w2.drew.grownBy w3 (Value.slice Ap np cp).ownBlock) (hi : IR w3 w.heap.size v1 (plain ++ [xz])) hat => PkS.put_plain (w3 := w3) (v1 := v1) (plain' := plain ++ [xz]) (HS2.out.below (W' := w2.drew) (below_drew (Below.refl _ _))) (by omega) (by omega) (by omega) (by omega) (by omega) (by omega) hg hi hat
          have HPut := Aside0.mk hput
          have HSee := Aside0.mk (fun (w4 : World) (v1 : Value) (h4 : PkS w _ c0 l0 b bo bp bm m z out (plain ++ [xz]) vo v1 es clock w4) => see_calls l0 _ c0 b bm m z w.heap.size w4 es clock h4.bB (Kd.C_below hcx.1 h4.bel) hcx.2.1 h4.bM h4.mp hcx.2.2.2 hcx.2.2.1 hxx.2.2.2.2.1 h4.bel.size (by omega))
          have hB2 : Boxed w2.drew bp 26 (.slice Ap np cp) := HS2.out.bP
          have cP2 := (HS2.out.bP.alloc (.cells #[.int .i64 xz] 3)).cell
          have HB2 := Aside0.mk hB2
          clear hnn hcx hxx hnp hpu hsz hput hB2 hxz
          go_wp2
          go_region_law_o (refine Kd.R_append_step (Kd.int .i64) (w0 := w2.drew) w.heap.size ?hw (.tmp 42) (.tmp 47) 26 3 (.int .i64 0) 8 ?ho Try.underlying26 info3 rfl (by decide) (by omega) (.slice Ap np cp) plain xz [.int .i64 xz] (fun _ => True) (fun _ => False) ?hs ?hx ?hp (fun _ h => h.elim) (fun _ _ => trivial) IP.out (Below.refl _ _) HZ.out.1 (by have := HZ.out.2; omega) ?_; (case hw => rfl); (case ho => rfl); (case hs => simp [Act.eval, Act.put]); (case hx => simp [Act.eval, Act.put]); (case hp => rfl); intro v1 w3 ho hb hg hat; have hB3 := HB2.out.kept hg (IP.out.box (by decide) HB2.out); have cB3 := hB3.cell; have fB3 := hB3.frozen; obtain ⟨A1, c1, e1⟩ := Kd.R_slice ho; obtain ⟨n1, hn1⟩ : ∃ n, n = (plain ++ [xz]).length := ⟨_, rfl⟩; rw [← hn1] at e1; subst e1; have HS4 := Aside0.mk (HPut.out w3 (.slice A1 n1 c1) hg ho hat); clear hB3 ho hb hg hat hn1)
          all_goals go_wp2_with (go_at_call 62; refine (HSee.out _ _ HS4.out).mono ?_; rintro e W5 ⟨⟨ve, rfl⟩, hs5⟩; have HS5 := Aside0.mk hs5; clear hs5)
          all_goals
            obtain ⟨es', clock', hs6⟩ := HS4.out.seen HS5.out
            have hpp := HP.out
            refine ⟨⟨z + 1, by simp, ⟨out, plain ++ [xz], vo, _, es', clock', hs6, hpp.1, hpp.2.1, hpp.2.2⟩⟩, ?_⟩
            simp [intOf]
            omega
        · have hM3i : ¬ ((M1 : Int) < 3) := by omega
          have hnn := HN.out
          have hcx := HC.out
          have hxx := HX.out
          have hfl := flush_calls plain out w.heap.size bp bo vo vp w2 HS2.out.bP HS2.out.bO HS2.out.iP HS2.out.iO (by omega) HS2.out.sep (by omega) (by omega) (by omega) (by omega)
          have HFl := Aside0.mk hfl
          clear hfl
          have hM61 : IntKind.i64.wrap ((M1 : Int) + 61) = (M1 : Int) + 61 := by have := wr_add M1 61 (by omega); exact this
          have hupd := fun (W3 : World) (v1 v2 : Value) h1 h2 (h3 : v1.ownBlock = vo.ownBlock ∨ ∃ k, v1.ownBlock = some k ∧ w2.heap.size ≤ k) h4 h5 (h6 : ∀ k, v2.ownBlock = some k → vp.ownBlock = some k) h7 (h8 : Kept w2 W3 (fun k => k = bp ∨ k = bo ∨ some k = vo.ownBlock)) => HS2.out.upd (W' := W3) (vo' := v1) (vp' := v2) (out' := out ++ Pu.plainV plain) (plain' := []) (by omega) (by omega) (by omega) (by omega) (h8.mono fun k e => by
            rcases e with e | e | e
            · exact .inr (.inl e)
            · exact .inl e
            · exact .inr (.inr (.inl e))) h7 h1 h4 h2 h5 (fun k hk e => by
            have h9 := h6 k hk
            rcases h3 with h3 | ⟨k', h3, h10⟩
            · rw [h3] at e
              exact HS2.out.sep k h9 e
            · rw [h3] at e
              cases e
              have := HS2.out.iP.lt k h9
              omega) (fun k hk => by
            rcases h3 with h3 | ⟨k', h3, h10⟩
            · exact .inl (h3.symm.trans hk)
            · rw [h3] at hk
              cases hk
              exact .inr h10) (fun k hk => .inl (h6 k hk))
          have HU := Aside0.mk hupd
          clear hupd
          have hpl := plainV_len plain
          have hol : (out ++ Pu.plainV plain).length ≤ 4000 := by rw [List.length_append]; omega
          have hHN := Aside0.mk (And.intro hol hpl)
          have hput := fun (Wx : World) (va vb : Value) (hs : PkS w (some ad) c0 l0 b bo bp bm m z (out ++ Pu.plainV plain) [] va vb es clock Wx) (w3 : World) (v1 : Value) (hg : Wx.grownBy w3 va.ownBlock) (hi : IR w3 w.heap.size v1 ((out ++ Pu.plainV plain) ++ [(M1 : Int) + 61, (M2 : Int)])) hat => PkS.put_out (w3 := w3) (v1 := v1) (out' := (out ++ Pu.plainV plain) ++ [(M1 : Int) + 61, (M2 : Int)]) hs (by omega) (by omega) (by omega) (by omega) (by omega) (by omega) hg hi hat
          have HPut := Aside0.mk hput
          have hSee := fun (j : Nat) (hj : z + j < l0.length) (outx : List Int) (w4 : World) (va vb : Value) (es4 : Array MapEntry) (clock4 : Nat) (h4 : PkS w (some ad) c0 l0 b bo bp bm m (z + j) outx [] va vb es4 clock4 w4) => see_calls l0 (some ad) c0 b bm m (z + j) w.heap.size w4 es4 clock4 h4.bB (Kd.C_below hcx.1 h4.bel) hcx.2.1 h4.bM h4.mp hcx.2.2.2 hcx.2.2.1 hj h4.bel.size (by omega)
          have HSee := Aside0.mk hSee
          have hpu : ∃ k, l0.length + 1 ≤ k + (z + M1) ∧ Pu.packW (Pu.implM l0) l0 k (z + M1) ((out ++ Pu.plainV plain) ++ [(M1 : Int) + 61, (M2 : Int)]) [] = Pu.packW (Pu.implM l0) l0 (l0.length + 1) 0 [] [] := by
            obtain ⟨kf, hkf, hpk⟩ := hxx.1
            cases kf with
            | zero => omega
            | succ k =>
              refine ⟨k, by omega, ?_⟩
              rw [← hpk, packW_ge _ _ _ _ _ _ hxx.2.2.2.2.1 (by rw [← HM.out.1]; exact hM3), ← HM.out.1, ← HM.out.2]
          have HP := Aside0.mk (And.intro hpu (And.intro (show ((out ++ Pu.plainV plain) ++ [(M1 : Int) + 61, (M2 : Int)]).length + 2 * ([] : List Int).length ≤ 2 * (z + M1) by rw [List.length_append, List.length_append]; simp; omega) (And.intro (show z + M1 ≤ l0.length by omega) (show 3 ≤ M1 by omega))))
          have hsz := Aside0.mk HS2.out.bel.size
          have hZB := Aside0.mk (show z ≤ 1000 ∧ M1 ≤ 66 by omega)
          clear hnn hcx hxx hput hSee hpl hol hpu hM3
          go_wp2_with (first
            | (go_at_call 60; refine HFl.out.mono ?_; rintro e W3 ⟨⟨ve, rfl⟩, v1, v2, bO3, iO3, h3, bP3, iP3, h4, hB3, hk3⟩; have HS3 := Aside0.mk (HU.out W3 v1 v2 bO3 iO3 h3 bP3 iP3 h4 hB3 hk3); clear bO3 iO3 h3 bP3 iP3 h4 hB3 hk3; obtain ⟨A3, c3, e3⟩ := Kd.R_slice HS3.out.iO; obtain ⟨n3, hn3⟩ : ∃ n, n = (out ++ Pu.plainV plain).length := ⟨_, rfl⟩; rw [← hn3] at e3; subst e3; clear hn3; have cO3 := HS3.out.bO.cell)
            | ((with_reducible refine gate_builtin (b := .append) (xs := #[.tmp 56, .tmp 60]) rfl ?_); at_builtin; refine Kd.R_append_rows (Kd.int .i64) (w0 := W3.alloc (.cells #[.int .i64 ((M1 : Int) + 61), .int .i64 (M2 : Int)] 3)) w.heap.size rfl (.tmp 56) (.tmp 60) 26 3 (.int .i64 0) 8 rfl Try.underlying26 info3 rfl (by decide) (by omega) (.slice A3 n3 c3) (out ++ Pu.plainV plain) [(M1 : Int) + 61, (M2 : Int)] (some ⟨W3.heap.size, 0, none⟩) 2 2 (fun _ => True) (fun _ => False) rfl rfl (HS3.out.below (below_alloc (Below.refl _ _) _)).iO (lit2_C W3 _ _) (fun _ _ h => h) (fun _ h => h.elim) (fun _ _ => trivial) (Below.refl _ _) (HS3.out.below (below_alloc (Below.refl _ _) _)).bel.size (by have := hHN.out.1; omega) ?_; intro v4 w4 ho hb hg hat; have hS4 := HPut.out _ _ _ (HS3.out.below (below_alloc (Below.refl _ _) _)) w4 v4 hg ho hat; have hbx := (HS3.out.below (below_alloc (Below.refl _ _) (.cells #[.int .i64 ((M1 : Int) + 61), .int .i64 (M2 : Int)] 3))).boxO hg; have c4 := hbx.cell; have f4 := hbx.frozen; obtain ⟨A4, c4', e4⟩ := Kd.R_slice ho; obtain ⟨n4, hn4⟩ : ∃ n, n = ((out ++ Pu.plainV plain) ++ [(M1 : Int) + 61, (M2 : Int)]).length := ⟨_, rfl⟩; rw [← hn4] at e4; subst e4; have HS4 := Aside0.mk hS4; clear hS4 hbx ho hb hg hat hn4))
          generalize hwx : w4.setCell ⟨bo, 0, none⟩ (.slice A4 n4 c4') = w5 at HS4 ⊢
          clear hwx c4 f4
          go_loopw [8, 63] (fun v8 v63 wr => ∃ j : Nat, v63 = .int .i64 j ∧ v8 = .int .i64 ((z + j : Nat) : Int) ∧ j ≤ M1 ∧ Aside0 (∃ es4 clock4, PkS w (some ad) c0 l0 b bo bp bm m (z + j) ((out ++ Pu.plainV plain) ++ [(M1 : Int) + 61, (M2 : Int)]) [] (.slice A4 n4 c4') v2 es4 clock4 wr)) (fun _ v63 _ => M1 - (intOf v63).toNat)
          case atStart => exact ⟨0, rfl, rfl, Nat.zero_le _, ⟨es, clock, HS4.out⟩⟩
          case round =>
            obtain ⟨j, rfl, rfl, hj, HS5⟩ := hrel
            obtain ⟨es4, clock4, hs5⟩ := HS5.out
            by_cases hjl : j < M1
            · have hji : (j : Int) < (M1 : Int) := by omega
              have hzb := hZB.out
              have hzj : z + j < l0.length := by have := HP.out.2.2.1; omega
              have hw2 : IntKind.i64.wrap (((z + j : Nat) : Int) + 1) = ((z + j : Nat) : Int) + 1 := by have := wr_add (z + j) 1 (by omega); exact this
              have hw3 : IntKind.i64.wrap ((j : Int) + 1) = (j : Int) + 1 := by have := wr_add j 1 (by omega); exact this
              have hse := HSee.out j hzj _ _ _ _ es4 clock4 hs5
              obtain ⟨zj, hzje⟩ : ∃ x, x = z + j := ⟨_, rfl⟩
              rw [← hzje] at hse hw2 ⊢
              have HSE := Aside0.mk hse
              have HJ := Aside0.mk (And.intro hzje (And.intro hjl hzj))
              clear hse hzje hzj hzb
              go_wp2_with (go_at_call 62; refine HSE.out.mono ?_; rintro e W6 ⟨⟨ve, rfl⟩, hs6⟩; have HS6 := Aside0.mk hs6; clear hs6)
              obtain ⟨h1, h2, h3⟩ := HJ.out
              subst h1
              obtain ⟨es', clock', hs7⟩ := hs5.seen HS6.out
              refine ⟨⟨j + 1, by simp, by simp; omega, by omega, ⟨es', clock', hs7⟩⟩, ?_⟩
              simp [intOf]
              omega
            · obtain rfl : j = M1 := by omega
              have hpp := HP.out
              have HS7 := Aside0.mk hs5
              clear hs5 hjl
              go_wp2
              refine ⟨⟨z + j, by simp, ⟨_, [], _, _, es4, clock4, HS7.out, hpp.1, hpp.2.1, hpp.2.2.1⟩⟩, ?_⟩
              simp [intOf]
              omega
      · have hm0 : Pu.implM l0 z = (0, 0) := by unfold Pu.implM; rw [if_neg (by omega)]
        have h3i : decide ((z3 : Int) ≤ (l0.length : Int)) = false := decide_eq_false (by omega)
        have h3n : decide (z3 ≤ l0.length) = false := decide_eq_false h3
        have HM3 := Aside0.mk (show (Pu.implM l0 z).1 < 3 by rw [hm0]; exact (by omega : (0 : Nat) < 3))
        have HX := Aside0.mk (And.intro (show ∃ k, l0.length + 1 ≤ k + z ∧ Pu.packW (Pu.implM l0) l0 k z out plain = Pu.packW (Pu.implM l0) l0 (l0.length + 1) 0 [] [] from ⟨kf, hkf, hpk⟩) (And.intro hln (And.intro hzl (And.intro hz3 (And.intro hlt h3)))))
        obtain ⟨w2, hw2⟩ : ∃ w2, w2 = wr := ⟨_, rfl⟩
        have HS2 := Aside0.mk (show PkS w A0 c0 l0 b bo bp bm m z out plain vo vp es clock w2 by rw [hw2]; exact hS)
        subst hw2
        clear hpk hkf hln hzl hz3 hlt h3 hwB hM9 hm0 hS HI
        have hnn := HN.out
        have hcx := HC.out
        have hxx := HX.out
        obtain ⟨Ap, cp, ep⟩ := Kd.R_slice HS2.out.iP
        obtain ⟨np, hnp⟩ : ∃ n, n = plain.length := ⟨_, rfl⟩
        rw [← hnp] at ep
        subst ep
        have cP := HS2.out.bP.cell
        obtain ⟨ad9, e9, cX⟩ := cell_int (Kd.C_below hcx.1 HS2.out.bel) z hxx.2.2.2.2.1
        obtain ⟨xz, hxz⟩ : ∃ x, x = l0.getD z 0 := ⟨_, rfl⟩
        rw [← hxz] at cX
        first | (injection e9 with e9; subst e9) | subst e9
        have hpu : ∃ k, l0.length + 1 ≤ k + (z + 1) ∧ Pu.packW (Pu.implM l0) l0 k (z + 1) out (plain ++ [xz]) = Pu.packW (Pu.implM l0) l0 (l0.length + 1) 0 [] [] := by
          obtain ⟨kf, hkf, hpk⟩ := hxx.1
          cases kf with
          | zero => omega
          | succ k =>
            refine ⟨k, by omega, ?_⟩
            rw [← hpk, packW_lt _ _ _ _ _ _ hxx.2.2.2.2.1 HM3.out, ← hxz]
        have IP := Aside0.mk (show IR w2.drew w.heap.size (.slice Ap np cp) plain from HS2.out.iP)
        have hsz : w.heap.size ≤ w2.heap.size := HS2.out.bel.size
        have hzi : (z : Int) < (l0.length : Int) := by have := hxx.2.2.2.2.1; omega
        have hz1 : IntKind.i64.wrap ((z : Int) + 1) = (z : Int) + 1 := by have := wr_add z 1 (by omega); exact this
        have HZ := Aside0.mk (And.intro hsz (show plain.length ≤ 2000 by omega))
        have HP := Aside0.mk (And.intro hpu (show out.length + 2 * (plain ++ [xz]).length ≤ 2 * (z + 1) ∧ z + 1 ≤ l0.length by rw [List.length_append, List.length_singleton]; omega))
        have hput := fun (w3 : World) (v1 : Value) (hg : w2.drew.grownBy w3 (Value.slice Ap np cp).ownBlock) (hi : IR w3 w.heap.size v1 (plain ++ [xz])) hat => PkS.put_plain (w3 := w3) (v1 := v1) (plain' := plain ++ [xz]) (HS2.out.below (W' := w2.drew) (below_drew (Below.refl _ _))) (by omega) (by omega) (by omega) (by omega) (by omega) (by omega) hg hi hat
        have HPut := Aside0.mk hput
        have HSee := Aside0.mk (fun (w4 : World) (v1 : Value) (h4 : PkS w _ c0 l0 b bo bp bm m z out (plain ++ [xz]) vo v1 es clock w4) => see_calls l0 _ c0 b bm m z w.heap.size w4 es clock h4.bB (Kd.C_below hcx.1 h4.bel) hcx.2.1 h4.bM h4.mp hcx.2.2.2 hcx.2.2.1 hxx.2.2.2.2.1 h4.bel.size (by omega))
        have hB2 : Boxed w2.drew bp 26 (.slice Ap np cp) := HS2.out.bP
        have cP2 := (HS2.out.bP.alloc (.cells #[.int .i64 xz] 3)).cell
        have HB2 := Aside0.mk hB2
        clear hnn hcx hxx hnp hpu hsz hput hB2 hxz
        go_wp2
        go_region_law_o (refine Kd.R_append_step (Kd.int .i64) (w0 := w2.drew) w.heap.size ?hw (.tmp 42) (.tmp 47) 26 3 (.int .i64 0) 8 ?ho Try.underlying26 info3 rfl (by decide) (by omega) (.slice Ap np cp) plain xz [.int .i64 xz] (fun _ => True) (fun _ => False) ?hs ?hx ?hp (fun _ h => h.elim) (fun _ _ => trivial) IP.out (Below.refl _ _) HZ.out.1 (by have := HZ.out.2; omega) ?_; (case hw => rfl); (case ho => rfl); (case hs => simp [Act.eval, Act.put]); (case hx => simp [Act.eval, Act.put]); (case hp => rfl); intro v1 w3 ho hb hg hat; have hB3 := HB2.out.kept hg (IP.out.box (by decide) HB2.out); have cB3 := hB3.cell; have fB3 := hB3.frozen; obtain ⟨A1, c1, e1⟩ := Kd.R_slice ho; obtain ⟨n1, hn1⟩ : ∃ n, n = (plain ++ [xz]).length := ⟨_, rfl⟩; rw [← hn1] at e1; subst e1; have HS4 := Aside0.mk (HPut.out w3 (.slice A1 n1 c1) hg ho hat); clear hB3 ho hb hg hat hn1)
        all_goals go_wp2_with (go_at_call 62; refine (HSee.out _ _ HS4.out).mono ?_; rintro e W5 ⟨⟨ve, rfl⟩, hs5⟩; have HS5 := Aside0.mk hs5; clear hs5)
        all_goals
          obtain ⟨es', clock', hs6⟩ := HS4.out.seen HS5.out
          have hpp := HP.out
          refine ⟨⟨z + 1, by simp, ⟨out, plain ++ [xz], vo, _, es', clock', hs6, hpp.1, hpp.2.1, hpp.2.2⟩⟩, ?_⟩
          simp [intOf]
          omega
    · obtain rfl : z = l0.length := by omega
      have hpe : out ++ Pu.plainV plain = r := by
        rw [← HR.out, ← hpk]
        cases kf with
        | zero => rfl
        | succ k => unfold Pu.packW; rw [if_neg (Nat.lt_irrefl _)]
      have hnn := HN.out
      have hfl := fun W' (hW : W' = wr) => flush_calls plain out w.heap.size bp bo vo vp W' (hW ▸ hS.bP) (hW ▸ hS.bO) (hW ▸ hS.iP) (hW ▸ hS.iO) (by omega) hS.sep (by have := HC.out.2.2.1; omega) (by have := HC.out.2.2.1; omega) (by omega) (by omega)
      have HF := Aside0.mk hfl
      have HS := Aside0.mk hS
      have HX := Aside0.mk hpe
      clear hfl hS hpe hpk hkf hln hzl hnn hwB hlt
      go_wp2_with (go_at_call 60; refine (HF.out _ rfl).mono ?_; rintro e W3 ⟨⟨ve, rfl⟩, v1, v2, bO3, iO3, h3, bP3, iP3, h4, hB3, hk3⟩; have cO3 := bO3.cell; obtain ⟨A3, c3, e3⟩ := Kd.R_slice iO3; rw [HX.out] at e3; subst e3; have HI3 := Aside0.mk (And.intro iO3 (And.intro hB3 hk3)); clear bO3 iO3 h3 bP3 iP3 h4 hB3 hk3)
      go_ret
      refine ⟨_, rfl, ?_, HS.out.bel.trans HI3.out.2.1⟩
      have := HI3.out.1
      rw [HX.out] at this
      exact this
end Go.Proofs.Ythoioccmnphfgaa.G

namespace Go.Proofs.Ythoioccmnphfgaa.G
open Go.RowKit Go.Lib Go.Proofs.YthoioccmnphfgaaW.PrintWords Go.Proofs.YthoioccmnphfgaaW.PrintLast Go.Proofs.YthoioccmnphfgaaW.PrintMore
set_option linter.unusedVariables false
set_option linter.unusedSimpArgs false
def slices_Concat_int_int.f (l : List (List Int)) : Option (List Int) := if l.length < 1000000 ∧ l.flatten.length < 17592186044416 then some l.flatten else none
set_option maxRecDepth 100000 in
set_option maxHeartbeats 4000000 in
/-- slices.Grow of the nil row. -/
theorem grow0_calls (n : Nat) (hn : n < 17592186044416) (w : World) :
    Calls Try.prog 64 #[.slice none 0 0, .int .i64 n] w fun e w' => ∃ v, e = .returned v ∧ Kd.R (Kd.int .i64) 3 w' w.heap.size (fun _ => True) v [] ∧ Below w.heap.size w w' := by
  have h1 : ¬ ((n : Int) < 0) := by omega
  have h3 : wrap64 ((n : Int) - 0) = (n : Int) := by unfold wrap64; omega
  rcases Nat.eq_zero_or_pos n with rfl | hp
  · go_enter Try.func64, Try.ntmps64
    go_wp2
    go_ret
    exact ⟨_, rfl, Kd.R_nil _ _ _ _ _, Below.refl _ _⟩
  · obtain ⟨i0, hi0, hz0, hzs, hzb⟩ := info_parts info3
    have h4 : (n : Int) > 0 := by omega
    have h4' : 0 < n := hp
    have hold : (Builtin.firstCells i0.size 0 (.slice none 0 0)).run Try.prog w.drew = .ok ([] : List Value).toArray w.drew := run_firstCells_none w.drew i0.size 0 0 0
    obtain ⟨Z, hZ⟩ : ∃ Z : Value, Z = .int .i64 0 := ⟨_, rfl⟩
    have hrz : ∀ ty, (Builtin.append_ #[26, 3] ty #[.slice none 0 0, .int .i64 (n : Int)]).run Try.prog w =
        .ok (.slice (some ⟨w.heap.size, 0, none⟩) n (grownCap w n 0 3)) (w.drew.alloc (.cells (([] : List Value).toArray ++ Builtin.zeroCells Z.cells n ++ Builtin.zeroCells Z.cells (grownCap w n 0 3 - n)) 3)) := fun ty => by
      have h := Lib.run_append_grow_zeros w 26 3 ty 3 i0 Z .i64 .i64 Try.underlying26 Try.underlying3 hi0 (hz0.trans (by rw [hZ])) none 0 0 [] hold n (by omega) (by omega) (by omega) (by omega) (by rw [hzb]; omega) (by rw [hzb, Nat.zero_add]; exact growslice_fits hp (by omega))
      rw [Nat.zero_add] at h
      exact h
    obtain ⟨G, hG⟩ : ∃ G, G = grownCap w n 0 3 := ⟨_, rfl⟩
    have hGn : n ≤ G := by rw [hG]; exact grownCap_ge w _ _ _
    have hGm : G ≤ maxLen := by rw [hG]; exact grownCap_le_maxLen w n 0 3 (by unfold maxLen; omega)
    have hG63 : G ≤ 9223372036854775807 := by unfold maxLen at hGm; omega
    obtain ⟨ROW, hROW⟩ : ∃ ROW : Array Value, ROW = ([] : List Value).toArray ++ Builtin.zeroCells Z.cells n ++ Builtin.zeroCells Z.cells (G - n) := ⟨_, rfl⟩
    rw [← hG] at hrz
    rw [← hROW] at hrz
    have hZc : Z.cells.size = 1 := by rw [hZ]; rfl
    have hRs : ROW.size = G * 1 := by
      rw [hROW, Array.size_append, Array.size_append, size_zeroCells, size_zeroCells, hZc, List.size_toArray]
      simp
      omega
    clear hold hROW hG
    go_enter Try.func64, Try.ntmps64
    go_wp2_with (at_builtin; refine Lib.wpList_append_run _ rfl _ _ _ _ rfl _ _ rfl rfl _ _ (hrz _) ?_)
    go_ret
    refine ⟨_, rfl, Kd.R_of_own (xs := []) (World.ownsRow_made w.drew ROW G (by exact Nat.le_refl _) hGm hRs) (fun _ _ => trivial), ?_⟩
    exact below_alloc (below_drew (Below.refl _ _)) _
theorem flat_le (l : List (List Int)) (i : Nat) : (l.take i).flatten.length ≤ l.flatten.length := by
  conv => rhs; rw [← List.take_append_drop i l, List.flatten_append, List.length_append]
  exact Nat.le_add_right _ _
theorem flat_succ (l : List (List Int)) (i : Nat) (h : i < l.length) : (l.take (i + 1)).flatten = (l.take i).flatten ++ rd_L3 l (i : Int) := by
  rw [List.take_succ_eq_append_getElem h, List.flatten_append]
  simp [rd_L3, h]
set_option maxRecDepth 100000 in
set_option maxHeartbeats 4000000 in
theorem slices_Concat_int_int.calls (A0 : Option Addr) (c0 : Nat) (l0 : List (List Int)) (r : List Int) (w : World) (hr0 : Kd.C (Kd.slice 3 (Kd.int .i64)) w A0 l0.length l0) (hc0 : l0.length ≤ c0) (h : slices_Concat_int_int.f l0 = some r) :
    Calls Try.prog 45 #[.slice A0 l0.length c0] w fun e w' => ∃ v0_ : Value, e = .returned v0_ ∧ Kd.R (Kd.int .i64) 3 w' w.heap.size (fun _ => True) v0_ r ∧ Below w.heap.size w w' := by
  unfold slices_Concat_int_int.f at h
  split at h
  case isFalse => simp at h
  rename_i hb
  obtain ⟨hb1, hb2⟩ := hb
  obtain rfl := Option.some.inj h
  have HR := Aside0.mk hr0
  have hfl := flat_le l0
  have hsu := flat_succ l0
  clear h hr0 hc0
  obtain ⟨N, hN⟩ : ∃ N, N = l0.flatten.length := ⟨_, rfl⟩
  rw [← hN] at hb2 hfl
  go_enter Try.func45, Try.ntmps45
  go_wp2
  go_loopw [3, 11] (fun v3 v11 wr => ∃ (i : Nat), v11 = .int .i64 i ∧ i ≤ l0.length ∧ v3 = .int .i64 ((l0.take i).flatten.length : Nat) ∧ w = wr) (fun _ v11 _ => l0.length - (intOf v11).toNat)
  case atStart => exact ⟨0, rfl, Nat.zero_le _, rfl, rfl⟩
  case round =>
    obtain ⟨i, rfl, hi, rfl, rfl⟩ := hrel
    by_cases hlt : i < l0.length
    · obtain ⟨ad, A1, c1, rfl, hx, hl1, hi1⟩ := at_L3 HR.out (i : Int) (by omega) (by omega)
      rw [show ((i : Int)).toNat = i from rfl] at hx
      have hs1 := hsu i hlt
      have hf1 := hfl (i + 1)
      rw [hs1, List.length_append] at hf1
      have hlen : (l0.take (i + 1)).flatten.length = (l0.take i).flatten.length + (rd_L3 l0 (i : Int)).length := by rw [hs1, List.length_append]
      obtain ⟨n1, hn1⟩ : ∃ n1, n1 = (l0.take i).flatten.length := ⟨_, rfl⟩
      obtain ⟨n2, hn2⟩ : ∃ n2, n2 = (rd_L3 l0 (i : Int)).length := ⟨_, rfl⟩
      rw [← hn1] at hf1 hlen ⊢
      rw [← hn2] at hf1 hlen hl1 hi1 hx
      have h0 : ¬ ((n1 : Int) + (n2 : Int) < 0) := by omega
      clear hn1 hn2 hs1
      go_wp2
      go_roundw
      case rel => exact ⟨i + 1, by simp, by omega, by rw [hlen]; simp, trivial⟩
      case measure => simp [intOf]; omega
    · obtain rfl : i = l0.length := by omega
      rw [List.take_length, ← hN]
      have HR := HR
      have HN := Aside0.mk hN
      have HF := Aside0.mk (And.intro hfl hsu)
      clear hN hfl hsu
      go_wp2_with ((with_reducible refine gate_callee (f := 64) rfl ?_); refine goesL_ (some 24) rfl rfl Try.func64 (by kernel_rfl) rfl #[.slice none 0 0, .int .i64 N] rfl tq ?_; (with_reducible refine (grow0_calls N hb2 _).mono ?_); rintro e w1 ⟨v1, rfl, ho1, hbw1⟩; have u_v1 := tsv Try.prog v1 ho1; refine ⟨_, rfl, ?_⟩; have HO := Aside0.mk ho1; have HB := Aside0.mk hbw1; clear ho1 hbw1)
      go_loopw [6, 27] (fun v6 v27 wr => ∃ (i : Nat), v27 = .int .i64 i ∧ i ≤ l0.length ∧ Aside0 (Kd.R (Kd.int .i64) 3 wr w.heap.size (fun _ => True) v6 (l0.take i).flatten) ∧ Aside0 (Below w.heap.size w wr)) (fun _ v27 _ => l0.length - (intOf v27).toNat)
      case atStart => exact ⟨0, rfl, Nat.zero_le _, HO, HB⟩
      case round =>
        obtain ⟨i, rfl, hi, HO, HB⟩ := hrel
        obtain ⟨A6, c6, rfl⟩ := Kd.R_slice HO.out
        by_cases hlt : i < l0.length
        · obtain ⟨ad, A1, c1, rfl, hx, hl1, hi1⟩ := at_L3 (Kd.C_below HR.out HB.out) (i : Int) (by omega) (by omega)
          rw [show ((i : Int)).toNat = i from rfl] at hx
          have hs1 := HF.out.2 i hlt
          have hf1 := HF.out.1 (i + 1)
          rw [hs1, List.length_append] at hf1
          have HC := Aside0.mk hi1
          have HS := Aside0.mk hs1
          obtain ⟨n1, hn1⟩ : ∃ n1, n1 = (l0.take i).flatten.length := ⟨_, rfl⟩
          obtain ⟨n2, hn2⟩ : ∃ n2, n2 = (rd_L3 l0 (i : Int)).length := ⟨_, rfl⟩
          rw [← hn1] at hf1
          rw [← hn2] at hf1 hl1 hx
          have HN1 := Aside0.mk (And.intro hn1 hn2)
          clear hi1 hs1 hn1 hn2
          go_wp2_with ((with_reducible refine gate_builtin (b := .append) (xs := #[.tmp 31, .tmp 32]) rfl ?_); at_builtin; refine Kd.R_append_rows (Kd.int .i64) (w0 := w) w.heap.size rfl (.tmp 31) (.tmp 32) 26 3 (.int .i64 0) 8 rfl Try.underlying26 info3 rfl (by decide) (by omega) _ (l0.take i).flatten (rd_L3 l0 (i : Int)) A1 n2 c1 (fun _ => True) (fun _ => False) rfl rfl HO.out (by rw [HN1.out.2]; exact HC.out) (fun _ _ h => h) (fun _ h => h.elim) (fun _ _ => trivial) HB.out (below_size HB.out) (by rw [← HN1.out.1]; omega) ?_; intro v2 w2 ho2 hb2 hg2 hat2; rw [← HS.out] at ho2; have HO2 := Aside0.mk ho2; have HB2 := Aside0.mk hb2; clear ho2 hb2 hg2 hat2)
          go_roundw
          case rel => exact ⟨i + 1, by simp, by omega, HO2, HB2⟩
          case measure => simp [intOf]; omega
        · obtain rfl : i = l0.length := by omega
          go_wp2
          go_ret
          refine ⟨_, rfl, ?_, HB.out⟩
          have HO := HO.out
          rw [List.take_length] at HO
          simpa using HO
end Go.Proofs.Ythoioccmnphfgaa.G

namespace Go.Proofs.Ythoioccmnphfgaa.G
open Go.RowKit Go.Proofs.YthoioccmnphfgaaW.PrintWords Go.Proofs.YthoioccmnphfgaaW.PrintLast Go.Proofs.YthoioccmnphfgaaW.PrintMore
set_option linter.unusedVariables false
variable {P : Program} {ops : Array Oper} {Q : Exit → Act → World → Prop} {md : Region.Mode} {S : World → Prop} {ds : List Nat} {oi : Oper} {v : Value} {fuel : Nat} {l : Array Bool} {a a' : Act} {w w1 : World} {K : Act → World → Prop}
theorem tpu (i : Nat) (N : Option Tmp) (l' : Array Bool) (h : wpAnyLast P md ops Q S ds fuel l' a' w) (hi : ops[i]? = some oi := by exact rfl) (hN : oi.dst = N := by exact rfl) (hc : anyB md ops l l' i = true := by exact any_of HT_.out (by kernel_rfl)) (hQ : ∀ c a w, Q (.panic c) (a.put oi.dst v) w → Q (.panic c) a w := by exact fun _ _ _ h => h) (hw : Region.wanted oi (yielded ops a.tmps) = true := by rfl) (hy : ∀ w, (execOp a.eval oi).run P w = .ok (.value v) w := by intro w'; go_simp; with_reducible rfl) (ha : a.put N v = a' := by simp only [Act.put, List.setIfInBounds_toArray, List.set_cons_zero, List.set_cons_succ, i64_w, i32_w]; rfl) : wpAnyLast P md ops Q S ds (fuel + 1) l a w := pure_ l' hi hN hc hQ (.inl ⟨hw, hy⟩) ha h
theorem tta (i : Nat) (N : Option Tmp) (l' : Array Bool) (hS : S w) (h : wpAnyLast P md ops Q S ds fuel l' a' w) (hi : ops[i]? = some oi := by exact rfl) (hN : oi.dst = N := by exact rfl) (hc : takeB md ops ds l l' i = true := by exact take_ofW HT_.out HW_.out (by kernel_rfl)) (hQ : ∀ c a w, Q (.panic c) (a.put oi.dst v) w → Q (.panic c) a w := by exact fun _ _ _ h => h) (hw : Region.wanted oi (yielded ops a.tmps) = true := by rfl) (hy : ∀ w, S w → (execOp a.eval oi).run P w = .ok (.value v) w) (ha : a.put N v = a' := by simp only [Act.put, List.setIfInBounds_toArray, List.set_cons_zero, List.set_cons_succ, i64_w, i32_w]; rfl) : wpAnyLast P md ops Q S ds (fuel + 1) l a w := take_ l' hi hN hc hQ (.inl ⟨hw, hy⟩) hS ha h
theorem tnm {N' : Option Tmp} {b : Act} (N : Option Tmp) (h : wpAnyLast P md ops Q S ds fuel l a' w) (hN : N' = N := by exact rfl) (ha : b.put N v = a' := by simp only [Act.put, List.setIfInBounds_toArray, List.set_cons_zero, List.set_cons_succ, i64_w, i32_w]; rfl) : wpAnyLast P md ops Q S ds fuel l (b.put N' v) w := norm_ (by rw [hN]; exact ha) h
theorem tnp (h : wpAnyLast P md ops Q S ds fuel l a' w) (ha : a = a' := by simp only [putAll, Act.put, List.setIfInBounds_toArray, List.set_cons_zero, List.set_cons_succ]; rfl) : wpAnyLast P md ops Q S ds fuel l a w := norm_ ha h
theorem tnx (h : wpAnyLast P md ops Q S ds fuel l a' w) (ha : a = a' := by first | (simp only [putAll, Act.put, List.setIfInBounds_toArray, List.set_cons_zero, List.set_cons_succ]; done) | (simp only [putAll, Act.put, List.setIfInBounds_toArray, List.set_cons_zero, List.set_cons_succ]; rfl)) : wpAnyLast P md ops Q S ds fuel l a w := norm_ ha h
end Go.Proofs.Ythoioccmnphfgaa.G

