/- A text of seat Ythoioccmnphfgaa: what the law FnSize needs of this repo's texts (by pack.py). Not trusted: Lean checks it. -/
import Derived.Test.YthoioccmnphfgaaKFnSize7
import Derived.OwnWalkIn
import Derived.RangeFuncNested
import Derived.RangeFuncBound
import Derived.RangeFuncCalls
import Derived.RangeFuncLeaves
import Derived.Shelf.Abstract
import Derived.Shelf.RegionOpen
import Derived.WalkKit
import Derived.TacticsInMore
import Derived.LoopNIn
import Derived.LoopIn
import Derived.OrdersIn
import Derived.Deep.Quiet
import Derived.Deep.QuietTactic
import Derived.TacticsIn
import Derived.ControlIn
namespace Go.Proofs.Ythoioccmnphfgaa.G
open Go.RowKit Go.Proofs.YthoioccmnphfgaaW.PrintWords Go.Proofs.YthoioccmnphfgaaW.PrintLast Go.Proofs.YthoioccmnphfgaaW.PrintMore
attribute [local go_sem] max2_int min2_int max_two min_two max_three min_three max_four min_four   -- for this text's walks alone
set_option linter.unusedVariables false
set_option linter.unusedSimpArgs false

def spec_l6Open.f (l0 : List Int) : Option (List Int × Int) := if (l0.length : Int) > 2000 then (if 2000 ≤ (l0.length : Int) then (some (l0.take 2000, 0)) else (none)) else (some (l0, 0))
set_option maxHeartbeats 8000000 in
set_option maxRecDepth 100000 in
theorem spec_l6Open.calls (A0 : Option Addr) (c0 : Nat) (l0 : List Int) (r1 : List Int) (r2 : Int) (w0 w : World) (hB : Below w0.heap.size w0 w) (hr0 : Kd.C (Kd.int .u8) w0 A0 l0.length l0) (hc0 : l0.length ≤ c0) (h : spec_l6Open.f l0 = some (r1, r2)) :
  Calls Try.prog 20 #[.slice A0 l0.length c0] w fun e w' => ∃ g_ : Nat, e = .returned (.pointer (some ⟨g_, 0, none⟩)) ∧ IsS65 w0 w' g_ r1 r2 ∧ Below w0.heap.size w0 w' ∧ Below w.heap.size w w' := by
 have hu65 := Try.underlying65
 have HR0 := Aside0.mk hr0
 have HC0 := Aside0.mk hc0
 clear hr0 hc0
 have HBW := Aside0.mk (Below.refl w.heap.size w)
 have HW0 := Aside0.mk hB.size
 have HB := Aside0.mk hB
 clear hB
 have H : (if (l0.length : Int) > 2000 then (if 2000 ≤ (l0.length : Int) then (some (l0.take 2000, 0)) else (none)) else (some (l0, 0))) = some (r1, r2) := h
 clear h
 by_cases c2 : (l0.length : Int) > 2000
 ·rw [if_pos c2] at H
  have c2b0 : decide (2000 < (l0.length : Int)) = true := decide_eq_true c2
  have c2b1 : decide (2000 < l0.length) = true := decide_eq_true (by omega)
  clear c2
  by_cases c3 : 2000 ≤ (l0.length : Int)
  ·rw [if_pos c3] at H
   have c3b0 := eq_true c3
   have c3b1 : decide (2000 ≤ (l0.length : Int)) = true := decide_eq_true c3
   clear c3
   simp only [Option.some.injEq, Prod.mk.injEq] at H
   obtain ⟨rfl, rfl⟩ := H
   obtain ⟨i04, hi04, _, hsz4, _⟩ := info_parts info5
   obtain ⟨hcut4, hA4, hC4⟩ := print_take_of (P := Try.prog) (Value.int .u8) 0 22 5 .i64 Try.underlying22 hi04 hsz4 A0 c0 l0 2000 (by omega) (td) HC0.out
   have HR266 := Aside0.mk (Kd.C_of_reads (h1 := fun _ => rfl) (hA4 _ (Kd.reads_of_C HR0.out)))
   have HC266 := Aside0.mk hC4
   clear hA4 hC4 hi04 hsz4
   go_enter Try.func20, Try.ntmps20
   go_wp2_with (first | ((with_reducible refine gate_dst (N := 10) rfl ?_); refine box_event ?hg (N := 10) ?hd (cs := #[.slice A0 (l0.take 2000).length c0, .int .i64 0]) (t := 65) ?hr ?_; (case hd => rfl); (case hg => rfl); (case hr => first | (go_simp; done) | (go_simp; rfl)); intro gb267 hg w5 hbox hb; replace HB := tBs HB hb; have BK267 := Aside0.mk (hbox); have GW267 := Aside0.mk ((by rw [hg]; exact (below_size (by repeat (first | (with_reducible first | exact HBW.out | apply below_alloc | apply pw_below_drewN | apply below_drew1) | exact HBW.out))) : w.heap.size ≤ gb267)); have GE267 := Aside0.mk ((Nat.le_trans HW0.out (by rw [hg]; exact (below_size (by repeat (first | (with_reducible first | exact HBW.out | apply below_alloc | apply pw_below_drewN | apply below_drew1) | exact HBW.out))) : w.heap.size ≤ gb267) : w0.heap.size ≤ gb267)); replace HBW := Aside0.mk (below_step HBW.out hb); clear hb hbox hg))
   go_ret
   exact ⟨_, rfl, (show IsS65 w0 _ gb267 (l0.take 2000) 0 from ⟨_, _, tH BK267.out, GE267.out, HR266.out⟩), zb, by repeat (first | (with_reducible first | exact HBW.out | apply below_alloc | apply pw_below_drewN | apply below_drew1 | refine below_set ?_ GW267.out) | exact HBW.out)⟩
  ·rw [if_neg c3] at H
   exact absurd H (by simp)
 ·rw [if_neg c2] at H
  have c2b0 : decide (2000 < (l0.length : Int)) = false := decide_eq_false c2
  have c2b1 : decide (2000 < l0.length) = false := decide_eq_false (by omega)
  clear c2
  simp only [Option.some.injEq, Prod.mk.injEq] at H
  obtain ⟨rfl, rfl⟩ := H
  go_enter Try.func20, Try.ntmps20
  go_wp2_with (first | ((with_reducible refine gate_dst (N := 10) rfl ?_); refine box_event ?hg (N := 10) ?hd (cs := #[.slice A0 l0.length c0, .int .i64 0]) (t := 65) ?hr ?_; (case hd => rfl); (case hg => rfl); (case hr => first | (go_simp; done) | (go_simp; rfl)); intro gb268 hg w6 hbox hb; replace HB := tBs HB hb; have BK268 := Aside0.mk (hbox); have GW268 := Aside0.mk ((by rw [hg]; exact (below_size (by repeat (first | (with_reducible first | exact HBW.out | apply below_alloc | apply pw_below_drewN | apply below_drew1) | exact HBW.out))) : w.heap.size ≤ gb268)); have GE268 := Aside0.mk ((Nat.le_trans HW0.out (by rw [hg]; exact (below_size (by repeat (first | (with_reducible first | exact HBW.out | apply below_alloc | apply pw_below_drewN | apply below_drew1) | exact HBW.out))) : w.heap.size ≤ gb268) : w0.heap.size ≤ gb268)); replace HBW := Aside0.mk (below_step HBW.out hb); clear hb hbox hg))
  go_ret
  exact ⟨_, rfl, (show IsS65 w0 _ gb268 l0 0 from ⟨_, _, tH BK268.out, GE268.out, HR0.out⟩), zb, by repeat (first | (with_reducible first | exact HBW.out | apply below_alloc | apply pw_below_drewN | apply below_drew1 | refine below_set ?_ GW268.out) | exact HBW.out)⟩

def spec_DrawLogSize.f (k : Nat) (l0 : List Int) : Option ((List (S46))) := (spec_l6Open.f l0).bind fun bt269 => ((spec_l92Log.f k bt269.1 bt269.2).bind fun bt272 => (some bt272.1))
set_option maxHeartbeats 8000000 in
set_option maxRecDepth 100000 in
theorem spec_DrawLogSize.calls (k : Nat) (A0 : Option Addr) (c0 : Nat) (l0 : List Int) (r : List (S46)) (w : World) (hr0 : Kd.C (Kd.int .u8) w A0 l0.length l0) (hc0 : l0.length ≤ c0) (h : spec_DrawLogSize.f k l0 = some r) :
  Calls Try.prog 9 #[.slice A0 l0.length c0] w fun e w' => ∃ v0_ : Value, e = .returned (v0_) ∧ Kd.N k46 46 w' w.heap.size (fun k_ => (w.heap.size ≤ k_)) v0_ r ∧ Below w.heap.size w w' := by
 have HR0 := Aside0.mk hr0
 have HC0 := Aside0.mk hc0
 clear hr0 hc0
 have HB := Aside0.mk (Below.refl w.heap.size w)
 have H : ((spec_l6Open.f l0).bind fun bt269 => ((spec_l92Log.f k bt269.1 bt269.2).bind fun bt272 => (some bt272.1))) = some r := h
 clear h
 replace H := tbe H
 obtain ⟨⟨t269, t270⟩, A2, H⟩ := H
 dsimp only at H
 replace H := tbe H
 obtain ⟨⟨t272, t275⟩, A3, H⟩ := H
 dsimp only at H
 obtain rfl := Option.some.inj H
 go_enter Try.func9, Try.ntmps9
 go_wp2_with (first | ((with_reducible refine gate_callee (f := 20) rfl ?_); refine goesL_ (some 4) rfl rfl Try.func20 (by kernel_rfl) rfl #[.slice A0 l0.length c0] rfl tq ?_; (with_reducible refine (spec_l6Open.calls _ _ l0 t269 t270 w _ ?side1 ?side2 ?side3 A2.out).mono ?_); (case side1 => exact zb); (case side2 => exact HR0.out); (case side3 => exact HC0.out); rintro e w4 ⟨g271, rfl, hi, hb, hb2⟩; refine ⟨_, rfl, ?_⟩; replace HB := Aside0.mk (hb); have HI271 := Aside0.mk (hi); (try clear hb); (try clear hb2); (try clear hk); (try clear hi)) | ((with_reducible refine gate_callee (f := 19) rfl ?_); refine goesL_ (some 5) rfl rfl Try.func19 (by kernel_rfl) rfl #[.pointer (some ⟨g271, 0, none⟩)] rfl tq ?_; (with_reducible refine (spec_l92Log.calls k g271 t269 t270 t272 t275 w _ ?side1 ?side2 A3.out).mono ?_); (case side1 => repeat (first | (with_reducible first | exact HI271.out | apply IsS65.alloc | apply IsS65.drewN | apply IsS65.drew | apply IsS65.set_1) | exact HI271.out)); (case side2 => repeat (first | (with_reducible first | exact HB.out | apply below_alloc | apply pw_below_drewN | apply below_drew1 | refine below_set ?_ (IsS65.ge HI271.out)) | exact HB.out)); rintro e w5 ⟨v273, rfl, ho0, hi, hb, hk⟩; have u_v273 := tsv Try.prog v273 ho0; refine ⟨_, rfl, ?_⟩; have HO274 := Aside0.mk (Kd.N_lower (Kd.N_mono (ok' := fun k_ => (w.heap.size ≤ k_) ∧ k_ ≠ g271) ho0 (fun k_ hk_ => ⟨(Nat.le_trans (below_size (by repeat (first | (with_reducible first | exact HB.out | apply below_alloc | apply pw_below_drewN | apply below_drew1 | refine below_set ?_ (IsS65.ge HI271.out)) | exact HB.out))) hk_), (IsS65.fresh (by repeat (first | (with_reducible first | exact HI271.out | apply IsS65.alloc | apply IsS65.drewN | apply IsS65.drew | apply IsS65.set_1) | exact HI271.out)) k_ hk_)⟩)) (below_size (by repeat (first | (with_reducible first | exact HB.out | apply below_alloc | apply pw_below_drewN | apply below_drew1 | refine below_set ?_ (IsS65.ge HI271.out)) | exact HB.out)))); replace HB := Aside0.mk (hb); replace HI271 := Aside0.mk (hi); (try clear hb); (try clear hb2); (try clear hk); (try clear hi); (try clear ho0)))
 go_ret
 exact ⟨_, by first | rfl | (simp [errW_none, errW_some] <;> rfl) | (simp [*, errW_none, errW_some] <;> rfl), tNm HO274.out, by repeat (first | (with_reducible first | exact HB.out | apply below_alloc | apply pw_below_drewN | apply below_drew1 | refine below_set ?_ (IsS65.ge HI271.out)) | exact HB.out)⟩

end Go.Proofs.Ythoioccmnphfgaa.G

namespace Go.Proofs.Ythoioccmnphfgaa.G
open Go.RowKit Go.Proofs.YthoioccmnphfgaaW.PrintWords Go.Proofs.YthoioccmnphfgaaW.PrintLast Go.Proofs.YthoioccmnphfgaaW.PrintMore Go.Proofs.Ythoioccmnphfgaa.Pu
set_option linter.unusedVariables false
set_option linter.unusedSimpArgs false
theorem head_no {b1 : Bool} {b2 b3 b4 : Int} (h : ((b2 == 255) = true ∧ (¬ b3 = 0 ∨ ¬ b4 = 0 ∨ b1 = true)) ∨ ((b2 == 255) = false ∧ (¬ (0 ≤ b2 ∧ b2 ≤ 254) ∨ ¬ (0 ≤ b3 ∧ b3 ≤ 99) ∨ ((!decide (0 ≤ b4)) = true ∨ (!decide (b4 ≤ 9999)) = true)))) : headOk b1 b2 b3 b4 = false := by
  unfold headOk
  grind
theorem head_y1 {b1 : Bool} {b2 b3 b4 : Int} (h : (b2 == 255) = true) (h3 : b3 = 0) (h4 : b4 = 0) (h1 : b1 = false) : headOk b1 b2 b3 b4 = true := by
  unfold headOk
  grind
theorem head_y2 {b1 : Bool} {b2 b3 b4 : Int} (h : (b2 == 255) = false) (h2 : 0 ≤ b2 ∧ b2 ≤ 254) (h3 : 0 ≤ b3 ∧ b3 ≤ 99) (h4 : (!decide (0 ≤ b4)) = false ∧ (!decide (b4 ≤ 9999)) = false) : headOk b1 b2 b3 b4 = true := by
  unfold headOk
  grind
theorem no_ {x y : Bool} (h : x = false) : Ending.returned (.bool false) = .returned (.bool (x && y)) := by rw [h]; rfl
theorem len_a {l : List S63} {x : Bool} (h : ¬(1 ≤ (l.length : Int) ∧ (l.length : Int) ≤ 6)) : Value.bool true = .bool (!(lenOk l && x)) := by
  have : lenOk l = false := by unfold lenOk; grind
  rw [this]
  rfl
theorem len_b {l : List S63} {x : Bool} (h : 1 ≤ (l.length : Int) ∧ (l.length : Int) ≤ 6) : Value.bool false = .bool (!(lenOk l && (!false || x))) := by
  have : lenOk l = true := by unfold lenOk; grind
  rw [this]
  rfl
theorem len_c {l : List S63} (h : 1 ≤ (l.length : Int) ∧ (l.length : Int) ≤ 6) : Value.bool ((l.length : Int) != 1) = .bool (!(lenOk l && (!true || decide ((l.length : Int) = 1)))) := by
  have : lenOk l = true := by unfold lenOk; grind
  rw [this]
  by_cases h1 : (l.length : Int) = 1 <;> simp [h1]
/-- A box that holds a record, in a world that grew. -/
def HeldR (W1 : World) (B : Nat) (r : S63) (A3 : Option Addr) (c3 : Nat) (A5 : Option Addr) (c5 : Nat) (W : World) : Prop :=
  W.cell? ⟨B, 0, none⟩ = some (.int .i64 r.f0) ∧ W.cell? ⟨B, 1, none⟩ = some (.int .i64 r.f1) ∧ W.cell? ⟨B, 2, none⟩ = some (.bool r.f2) ∧ W.cell? ⟨B, 3, none⟩ = some (.slice A3 r.f3.length c3) ∧ W.cell? ⟨B, 4, none⟩ = some (.bool r.f4) ∧ W.cell? ⟨B, 5, none⟩ = some (.slice A5 r.f5.length c5) ∧ Below W1.heap.size W1 W
theorem within_q (a b c : Int) (w : World) : Calls Try.prog 27 #[.int .i64 a, .int .i64 b, .int .i64 c] w fun e w' => e = .returned (.bool (decide (b ≤ a) && decide (a ≤ c))) ∧ ∃ n, w' = w.drewN n :=
  (impl_within.calls a b c _ w (within_ev a b c)).mono fun e w' h => ⟨h.1, h.2.out⟩
theorem idValid_q (a : Int) (w : World) : Calls Try.prog 52 #[.int .i64 a] w fun e w' => e = .returned (.bool (decide (0 ≤ a) && decide (a ≤ 254))) ∧ ∃ n, w' = w.drewN n :=
  (impl_idValid.calls a _ w (by unfold impl_idValid.f; rw [within_ev]; rfl)).mono fun e w' h => ⟨h.1, h.2.out⟩
set_option maxRecDepth 100000 in
set_option maxHeartbeats 4000000 in
theorem implbat_q (b : S46) (A : Option Addr) (c : Nat) (w : World) (hr : Kd.C k63 w A b.f5.length b.f5) (hc : b.f5.length ≤ c) :
    Calls Try.prog 37 #[.agg #[.bool b.f0, .bool b.f1, .int .i64 b.f2, .int .i64 b.f3, .int .i64 b.f4, .slice A b.f5.length c]] w fun e w' => e = .returned (.bool (batOk b)) ∧ Below w.heap.size w w' := by
  obtain ⟨b0, b1, b2, b3, b4, l⟩ := b
  simp only at hr hc ⊢
  have hl := hr.2.1
  unfold batOk
  simp only
  have HR := Aside0.mk hr
  clear hr
  go_enter Try.func37, Try.ntmps37
  go_upto_if 7 with fail
  go_cut [0] (fun v0 wc => headOk b1 b2 b3 b4 = true ∧ wc.heap[w.heap.size]? = some (.cells #[.bool b0, .bool b1, .int .i64 b2, .int .i64 b3, .int .i64 b4, .slice A l.length c] 46) ∧ Below w.heap.size w wc)
  case first =>
    go_wp2_with (first | (go_at_call 52; refine (idValid_q _ _).mono ?_; rintro e w' ⟨rfl, ⟨n, rfl⟩⟩) | (go_at_call 27; refine (within_q _ _ _ _).mono ?_; rintro e w' ⟨rfl, ⟨n, rfl⟩⟩))
    all_goals first | (go_ret; exact ⟨no_ (head_no (by first | exact .inl ⟨‹_›, .inl ‹_›⟩ | exact .inl ⟨‹_›, .inr (.inl ‹_›)⟩ | exact .inl ⟨‹_›, .inr (.inr ‹_›)⟩ | exact .inr ⟨‹_›, .inl ‹_›⟩ | exact .inr ⟨‹_›, .inr (.inl ‹_›)⟩ | exact .inr ⟨‹_›, .inr (.inr ‹_›)⟩)), by first | exact below_alloc (Below.refl _ _) _ | exact pw_below_drewN (below_alloc (Below.refl _ _) _) _⟩) | (go_meet; case rel => exact ⟨by first | exact head_y1 ‹_› ‹_› ‹_› ‹_› | exact head_y2 ‹_› ‹_› ‹_› ‹_›, by first | exact heap_alloc_new _ _ | (subst_vars; exact heap_alloc_new _ _), by first | exact below_alloc (Below.refl _ _) _ | exact pw_below_drewN (below_alloc (Below.refl _ _) _) _⟩)
  obtain ⟨hh, hw, hB⟩ := hcut
  go_upto_region 6 with (fail)
  go_cut [50] (fun v50 wc => v50 = .bool (!(lenOk l && (!b1 || decide ((l.length : Int) = 1)))) ∧ wc.heap[w.heap.size]? = some (.cells #[.bool b0, .bool b1, .int .i64 b2, .int .i64 b3, .int .i64 b4, .slice A l.length c] 46) ∧ Below w.heap.size w wc)
  case first =>
    have hc1 := blk_cell hw 1
    have hc5 := blk_cell hw 5
    cases b1
    all_goals go_wp2_with (go_at_call 27; refine (within_q _ _ _ _).mono ?_; rintro e w' ⟨rfl, ⟨n, rfl⟩⟩)
    all_goals (go_meet; case rel => exact ⟨by first | exact len_a ‹_› | exact len_b ‹_› | exact len_c ‹_›, hw, pw_below_drewN hB _⟩)
  obtain ⟨rfl, hw, hB⟩ := hcut
  have hc5 := blk_cell hw 5
  cases hk : (lenOk l && (!b1 || decide ((l.length : Int) = 1)))
  · go_wp2
    go_ret
    exact ⟨by rw [hh, Bool.true_and, ← Bool.and_assoc, hk]; rfl, hB⟩
  · go_wp2
    go_loopw [54] (fun v54 wr => ∃ i : Nat, v54 = .int .i64 i ∧ i ≤ l.length ∧ (∀ j, j < i → recStep l j = true) ∧ wr.heap[w.heap.size]? = some (.cells #[.bool b0, .bool b1, .int .i64 b2, .int .i64 b3, .int .i64 b4, .slice A l.length c] 46) ∧ Below w.heap.size w wr) (fun v54 _ => l.length - (intOf v54).toNat)
    case atStart => exact ⟨0, rfl, Nat.zero_le _, fun j hj => absurd hj (Nat.not_lt_zero j), hw, hB⟩
    case round =>
      obtain ⟨i, rfl, hi, hall, hw1, hB1⟩ := hrel
      by_cases hlt : i < l.length
      · obtain ⟨ad, A3, c3, A5, c5, rfl, e0, e1, e2, e3, e4, e5, l3, g3, l5, g5⟩ := at_T63 (Kd.C_below HR.out hB1) (i : Int) (by omega) (by omega)
        rw [show ((i : Int)).toNat = i from rfl] at e0 e1 e2 e3 e4 e5
        have hc5 := blk_cell hw1 5
        have hrec : recStep l i = (recOk (rd_T63 l (i : Int)) && (decide (i = 0) || decide ((rd_T63 l ((i : Int) - 1)).f0 < (rd_T63 l (i : Int)).f0))) := rfl
        generalize rd_T63 l (i : Int) = ri at *
        go_wp2
        have bR := heap_alloc_new wr (.cells #[.int .i64 ri.f0, .int .i64 ri.f1, .bool ri.f2, .slice A3 ri.f3.length c3, .bool ri.f4, .slice A5 ri.f5.length c5] 63)
        have hw2 := (Below.heap_alloc wr (.cells #[.int .i64 ri.f0, .int .i64 ri.f1, .bool ri.f2, .slice A3 ri.f3.length c3, .bool ri.f4, .slice A5 ri.f5.length c5] 63) _ (blk_lt hw1)).trans hw1
        have hB2 := below_alloc hB1 (.cells #[.int .i64 ri.f0, .int .i64 ri.f1, .bool ri.f2, .slice A3 ri.f3.length c3, .bool ri.f4, .slice A5 ri.f5.length c5] 63)
        have hBr := below_alloc (Below.refl wr.heap.size wr) (.cells #[.int .i64 ri.f0, .int .i64 ri.f1, .bool ri.f2, .slice A3 ri.f3.length c3, .bool ri.f4, .slice A5 ri.f5.length c5] 63)
        generalize wr.alloc _ = W1 at bR hw2 hB2 hBr ⊢
        obtain ⟨kR, hkR⟩ := (RecordValid_ev ri ⟨g3.2.1, g5.2.1⟩).rounds
        have hrc : ∀ (W2 : World), Below wr.heap.size wr W2 → Calls Try.prog 53 #[.agg #[.int .i64 ri.f0, .int .i64 ri.f1, .bool ri.f2, .slice A3 ri.f3.length c3, .bool ri.f4, .slice A5 ri.f5.length c5]] W2 fun e w' => e = .returned (.bool (recOk ri)) ∧ Below W2.heap.size W2 w' := fun (W2 : World) (hb : Below wr.heap.size wr W2) => impl_RecordValid.calls kR ri.f0 ri.f1 ri.f2 A3 c3 ri.f3 ri.f4 A5 c5 ri.f5 _ W2 (Kd.C_below g3 hb) l3 (Kd.C_below g5 hb) l5 hkR
        have HRC := Aside0.mk hrc
        clear hrc
        have kS : ∀ w' : World, Below W1.drew.heap.size W1.drew w' → HeldR W1 wr.heap.size ri A3 c3 A5 c5 w' := fun w' h => ⟨pw_cell_below h (blk_cell bR 0), pw_cell_below h (blk_cell bR 1), pw_cell_below h (blk_cell bR 2), pw_cell_below h (blk_cell bR 3), pw_cell_below h (blk_cell bR 4), pw_cell_below h (blk_cell bR 5), below_step (below_drew (Below.refl _ W1)) h⟩
        rcases hok : recOk ri with _ | _ <;> rw [hok] at hkR HRC
        · refine r_begin (HeldR W1 wr.heap.size ri A3 c3 A5 c5) 19 (by kernel_rfl) rfl (kS _ (Below.refl _ _)) (fun hH => ?_)
          repeat (first | (refine r_skip (by kernel_rfl) (by rfl) (fun _ _ _ h => h) hH ?_; simp only [Act.put, List.setIfInBounds_toArray, List.set_cons_zero, List.set_cons_succ, Nat.reduceAdd]) | (refine r_go (v := ?_) (by kernel_rfl) (by rfl) (fun _ _ _ h => h) hH ?_ ?_; rotate_left; (focus (intro w hS; obtain ⟨e0, e1, e2, e3, e4, e5, e6⟩ := hS; go_simp; first | done | with_reducible rfl)); simp only [Act.put, List.setIfInBounds_toArray, List.set_cons_zero, List.set_cons_succ, Nat.reduceAdd]) | (fail "x"))
          refine r_one (by kernel_rfl) (by rfl) (fun K hK => ?_)
          go_simp
          go_at_call 53
          refine (HRC.out _ (below_step hBr (below_drew (Below.refl _ W1)))).mono ?_
          rintro e w2 ⟨rfl, hb⟩
          go_wp2_with fail
          refine hK.out _ _ (kS _ hb) (fun hH => ?_)
          clear hK K
          simp only [Act.put, List.setIfInBounds_toArray, List.set_cons_zero, List.set_cons_succ, Nat.reduceAdd]
          repeat (first | (refine r_skip (by kernel_rfl) (by rfl) (fun _ _ _ h => h) hH ?_; simp only [Act.put, List.setIfInBounds_toArray, List.set_cons_zero, List.set_cons_succ, Nat.reduceAdd]) | (refine r_go (v := ?_) (by kernel_rfl) (by rfl) (fun _ _ _ h => h) hH ?_ ?_; rotate_left; (focus (intro w hS; obtain ⟨e0, e1, e2, e3, e4, e5, e6⟩ := hS; go_simp; first | done | with_reducible rfl)); simp only [Act.put, List.setIfInBounds_toArray, List.set_cons_zero, List.set_cons_succ, Nat.reduceAdd]) | (fail "x"))
          refine r_done (by kernel_rfl) ?_
          go_wp2
          go_ret
          exact ⟨by rw [hh, Bool.true_and, ← Bool.and_assoc, hk, incs_no hlt (hrec.trans (by rw [hok]; rfl))]; rfl, below_step hB2 hH.2.2.2.2.2.2⟩
        rcases i with _ | j
        · refine r_begin (HeldR W1 wr.heap.size ri A3 c3 A5 c5) 19 (by kernel_rfl) rfl (kS _ (Below.refl _ _)) (fun hH => ?_)
          repeat (first | (refine r_skip (by kernel_rfl) (by rfl) (fun _ _ _ h => h) hH ?_; simp only [Act.put, List.setIfInBounds_toArray, List.set_cons_zero, List.set_cons_succ, Nat.reduceAdd]) | (refine r_go (v := ?_) (by kernel_rfl) (by rfl) (fun _ _ _ h => h) hH ?_ ?_; rotate_left; (focus (intro w hS; obtain ⟨e0, e1, e2, e3, e4, e5, e6⟩ := hS; go_simp; first | done | with_reducible rfl)); simp only [Act.put, List.setIfInBounds_toArray, List.set_cons_zero, List.set_cons_succ, Nat.reduceAdd]) | (fail "x"))
          refine r_one (by kernel_rfl) (by rfl) (fun K hK => ?_)
          go_simp
          go_at_call 53
          refine (HRC.out _ (below_step hBr (below_drew (Below.refl _ W1)))).mono ?_
          rintro e w2 ⟨rfl, hb⟩
          go_wp2_with fail
          refine hK.out _ _ (kS _ hb) (fun hH => ?_)
          clear hK K
          simp only [Act.put, List.setIfInBounds_toArray, List.set_cons_zero, List.set_cons_succ, Nat.reduceAdd]
          repeat (first | (refine r_skip (by kernel_rfl) (by rfl) (fun _ _ _ h => h) hH ?_; simp only [Act.put, List.setIfInBounds_toArray, List.set_cons_zero, List.set_cons_succ, Nat.reduceAdd]) | (refine r_go (v := ?_) (by kernel_rfl) (by rfl) (fun _ _ _ h => h) hH ?_ ?_; rotate_left; (focus (intro w hS; obtain ⟨e0, e1, e2, e3, e4, e5, e6⟩ := hS; go_simp; first | done | with_reducible rfl)); simp only [Act.put, List.setIfInBounds_toArray, List.set_cons_zero, List.set_cons_succ, Nat.reduceAdd]) | (fail "x"))
          refine r_done (by kernel_rfl) ?_
          go_wp2
          go_roundw
          case rel =>
            repeat apply Exists.intro
            have hst : ∀ j, j < 0 + 1 → recStep l j = true := by
              intro j hj
              obtain rfl : j = 0 := by omega
              exact hrec.trans (by rw [hok]; rfl)
            exact ⟨⟨0 + 1, by simp, hlt, hst, (hb.block _ (blk_lt hw2)).trans hw2, below_step hB2 hH.2.2.2.2.2.2⟩, rfl⟩
          case measure => simp [intOf]; omega
        · obtain ⟨ad2, _, _, _, _, hq, f0, _⟩ := at_T63 (Kd.C_below HR.out hB1) (j : Int) (by omega) (by omega)
          cases hq
          rw [show ((j : Int)).toNat = j from rfl] at f0
          have hrec2 : recStep l (j + 1) = (recOk ri && (decide (j + 1 = 0) || decide ((rd_T63 l (j : Int)).f0 < ri.f0))) := by
            rw [hrec, show ((j + 1 : Nat) : Int) - 1 = (j : Int) by omega]
          generalize (rd_T63 l (j : Int)).f0 = pj at f0 hrec2
          have f1 := pw_cell_below hBr f0
          have hwj : IntKind.i64.wrap (j : Int) = (j : Int) := by rw [i64_w]; unfold wrap64; omega
          have hjl : (j : Int) < (l.length : Int) := by omega
          have kS2 : ∀ w' : World, Below W1.drew.heap.size W1.drew w' → HeldR W1 wr.heap.size ri A3 c3 A5 c5 w' ∧ w'.cell? (ad.add (j * 6)) = some (.int .i64 pj) ∧ w'.cell? ⟨w.heap.size, 5, none⟩ = some (.slice (some ad) l.length c) := fun w' h => ⟨kS w' h, pw_cell_below h f1, pw_cell_below h (blk_cell hw2 5)⟩
          refine r_begin (fun w' => HeldR W1 wr.heap.size ri A3 c3 A5 c5 w' ∧ w'.cell? (ad.add (j * 6)) = some (.int .i64 pj) ∧ w'.cell? ⟨w.heap.size, 5, none⟩ = some (.slice (some ad) l.length c)) 19 (by kernel_rfl) rfl (kS2 _ (Below.refl _ _)) (fun hH => ?_)
          repeat (first | (refine r_skip (by kernel_rfl) (by rfl) (fun _ _ _ h => h) hH ?_; simp only [Act.put, List.setIfInBounds_toArray, List.set_cons_zero, List.set_cons_succ, Nat.reduceAdd]) | (refine r_go (v := ?_) (by kernel_rfl) (by rfl) (fun _ _ _ h => h) hH ?_ ?_; rotate_left; (focus (intro w hS; obtain ⟨⟨e0, e1, e2, e3, e4, e5, e6⟩, e7, e8⟩ := hS; go_simp; first | done | with_reducible rfl)); simp only [Act.put, List.setIfInBounds_toArray, List.set_cons_zero, List.set_cons_succ, Nat.reduceAdd]) | (fail "x"))
          refine r_one (by kernel_rfl) (by rfl) (fun K hK => ?_)
          go_simp
          go_at_call 53
          refine (HRC.out _ (below_step hBr (below_drew (Below.refl _ W1)))).mono ?_
          rintro e w2 ⟨rfl, hb⟩
          go_wp2_with fail
          refine hK.out _ _ (kS2 _ hb) (fun hH => ?_)
          clear hK K
          simp only [Act.put, List.setIfInBounds_toArray, List.set_cons_zero, List.set_cons_succ, Nat.reduceAdd]
          repeat (first | (refine r_skip (by kernel_rfl) (by rfl) (fun _ _ _ h => h) hH ?_; simp only [Act.put, List.setIfInBounds_toArray, List.set_cons_zero, List.set_cons_succ, Nat.reduceAdd]) | (refine r_go (v := ?_) (by kernel_rfl) (by rfl) (fun _ _ _ h => h) hH ?_ ?_; rotate_left; (focus (intro w hS; obtain ⟨⟨e0, e1, e2, e3, e4, e5, e6⟩, e7, e8⟩ := hS; go_simp; first | done | with_reducible rfl)); simp only [Act.put, List.setIfInBounds_toArray, List.set_cons_zero, List.set_cons_succ, Nat.reduceAdd]) | (fail "x"))
          refine r_done (by kernel_rfl) ?_
          by_cases hlt2 : pj < ri.f0
          · have hng : ¬ ri.f0 ≤ pj := by omega
            go_wp2
            go_roundw
            case rel =>
              repeat apply Exists.intro
              have hst : ∀ j', j' < j + 1 + 1 → recStep l j' = true := by
                intro j' hj
                by_cases h' : j' < j + 1
                · exact hall j' h'
                · obtain rfl : j' = j + 1 := by omega
                  rw [hrec2, hok, decide_eq_true hlt2, Bool.or_true]; rfl
              refine ⟨⟨j + 1 + 1, ?_, hlt, hst, (hb.block _ (blk_lt hw2)).trans hw2, below_step hB2 hH.1.2.2.2.2.2.2⟩, by first | rfl | (repeat' apply And.intro) <;> rfl⟩
              simp
            case measure => simp [intOf]; omega
          · have hng : ri.f0 ≤ pj := by omega
            have hno := Aside0.mk (incs_no hlt (hrec2.trans (by rw [hok, decide_eq_false hlt2, decide_eq_false (show ¬ j + 1 = 0 by omega)]; rfl)))
            go_wp2
            go_ret
            exact ⟨by simp only [hh, Bool.true_and, ← Bool.and_assoc, hk, hno.out]; rfl, below_step hB2 hH.1.2.2.2.2.2.2⟩
      · obtain rfl : i = l.length := by omega
        go_wp2
        go_ret
        exact ⟨by rw [hh, Bool.true_and, ← Bool.and_assoc, hk, incs_of hall]; rfl, hB1⟩
end Go.Proofs.Ythoioccmnphfgaa.G

namespace Go.Proofs.Ythoioccmnphfgaa.G
open Go.RowKit Go.Proofs.YthoioccmnphfgaaW.PrintWords Go.Proofs.YthoioccmnphfgaaW.PrintLast Go.Proofs.YthoioccmnphfgaaW.PrintMore
attribute [local go_sem] max2_int min2_int max_two min_two max_three min_three max_four min_four   -- for this text's walks alone
set_option linter.unusedVariables false
set_option linter.unusedSimpArgs false

def impl_Batch_last.f (a0_0 : Bool) (a0_1 : Bool) (a0_2 : Int) (a0_3 : Int) (a0_4 : Int) (l0_5 : List (S63)) : Option (Int) := if 0 ≤ (wrap64 ((l0_5.length : Int) - 1)) then (if (wrap64 ((l0_5.length : Int) - 1)) < (l0_5.length : Int) then (some ((rd_T63 l0_5 (wrap64 ((l0_5.length : Int) - 1))).f0)) else (none)) else (none)
set_option maxHeartbeats 8000000 in
set_option maxRecDepth 100000 in
theorem impl_Batch_last.calls (a0_0 : Bool) (a0_1 : Bool) (a0_2 : Int) (a0_3 : Int) (a0_4 : Int) (A0_5 : Option Addr) (c0_5 : Nat) (l0_5 : List (S63)) (r : Int) (w : World) (hr0_5 : Kd.C k63 w A0_5 l0_5.length l0_5) (hc0_5 : l0_5.length ≤ c0_5) (h : impl_Batch_last.f a0_0 a0_1 a0_2 a0_3 a0_4 l0_5 = some r) :
  Calls Try.prog 38 #[.agg #[.bool a0_0, .bool a0_1, .int .i64 a0_2, .int .i64 a0_3, .int .i64 a0_4, .slice A0_5 l0_5.length c0_5]] w fun e w' => e = .returned (.int .i64 r) ∧ Below w.heap.size w w' := by
 have hu46 := Try.underlying46
 have HR0_5 := Aside0.mk hr0_5
 have HC0_5 := Aside0.mk hc0_5
 clear hr0_5 hc0_5
 have HB := Aside0.mk (Below.refl w.heap.size w)
 have H : (if 0 ≤ (wrap64 ((l0_5.length : Int) - 1)) then (if (wrap64 ((l0_5.length : Int) - 1)) < (l0_5.length : Int) then (some ((rd_T63 l0_5 (wrap64 ((l0_5.length : Int) - 1))).f0)) else (none)) else (none)) = some r := h
 clear h
 obtain ⟨ji2, hji2⟩ : ∃ j_ : Int, (wrap64 ((l0_5.length : Int) - 1)) = j_ := ⟨_, rfl⟩
 replace H : (if 0 ≤ (ji2) then (if (ji2) < (l0_5.length : Int) then (some ((rd_T63 l0_5 (ji2)).f0)) else (none)) else (none)) = some r := by first | (rw [hji2] at H; exact H) | (simp only [hji2] at H ⊢; exact H)
 have hji2w : (IntKind.i64.wrap ((l0_5.length : Int) - 1)) = ji2 := (i64_w _).trans hji2
 by_cases c3 : 0 ≤ (ji2)
 ·rw [if_pos c3] at H
  have c3b0 : decide (0 ≤ (ji2)) = true := decide_eq_true c3
  clear c3
  by_cases c4 : (ji2) < (l0_5.length : Int)
  ·rw [if_pos c4] at H
   have c4b0 : decide ((ji2) < (l0_5.length : Int)) = true := decide_eq_true c4
   clear c4
   obtain rfl := Option.some.inj H
   go_enter Try.func38, Try.ntmps38
   go_wp2_with (first | ((with_reducible refine gate_dst (N := 1) rfl ?_); refine box_event ?hg (N := 1) ?hd (cs := #[.bool a0_0, .bool a0_1, .int .i64 a0_2, .int .i64 a0_3, .int .i64 a0_4, .slice A0_5 l0_5.length c0_5]) (t := 46) ?hr ?_; (case hd => rfl); (case hg => rfl); (case hr => first | (go_simp; done) | (go_simp; rfl)); intro gb286 hg w5 hbox hb; have BK286 := Aside0.mk (hbox); have GW286 := tge HB hg; have GE286 := tge HB hg; replace HB := tBs HB hb; clear hb hbox hg; obtain ⟨hcz6_0, hcz6_1, hcz6_2, hcz6_3, hcz6_4, hcz6_5, hfz6_0, hfz6_1, hfz6_2, hfz6_3, hfz6_4, hfz6_5⟩ := cells6 BK286.out; have p287 : 0 ≤ ((ji2) : Int) := td; have q287 : (ji2) < (l0_5.length : Int) := td; obtain ⟨ad287, A287_3, c287_3, A287_5, c287_5, e287, hx287_0, hx287_1, hx287_2, hx287_3, hx287_4, hx287_5, hl287_3, hi287_3, hl287_5, hi287_5⟩ := at_T63 HR0_5.out (ji2) p287 q287; cases e287; replace hx287_0 := tcl HB hx287_0; replace hx287_1 := tcl HB hx287_1; replace hx287_2 := tcl HB hx287_2; replace hx287_3 := tcl HB hx287_3; replace hx287_4 := tcl HB hx287_4; replace hx287_5 := tcl HB hx287_5; have HR287_3 := Aside0.mk hi287_3; have HC287_3 := Aside0.mk hl287_3; clear hi287_3 hl287_3; have HR287_5 := Aside0.mk hi287_5; have HC287_5 := Aside0.mk hl287_5; clear hi287_5 hl287_5; replace p287 := eq_true p287; replace q287 := eq_true q287))
   go_ret
   exact ⟨by first | rfl | (simp [errW_none, errW_some] <;> rfl) | (simp only [← hji2]; first | rfl | (simp [errW_none, errW_some] <;> rfl)) | (simp [*, errW_none, errW_some] <;> rfl), zb⟩
  ·rw [if_neg c4] at H
   exact absurd H (by simp)
 ·rw [if_neg c3] at H
  exact absurd H (by simp)

def impl_Batch_first.f (a0_0 : Bool) (a0_1 : Bool) (a0_2 : Int) (a0_3 : Int) (a0_4 : Int) (l0_5 : List (S63)) : Option (Int) := if 0 < (l0_5.length : Int) then (some ((rd_T63 l0_5 0).f0)) else (none)
set_option maxHeartbeats 8000000 in
set_option maxRecDepth 100000 in
theorem impl_Batch_first.calls (a0_0 : Bool) (a0_1 : Bool) (a0_2 : Int) (a0_3 : Int) (a0_4 : Int) (A0_5 : Option Addr) (c0_5 : Nat) (l0_5 : List (S63)) (r : Int) (w : World) (hr0_5 : Kd.C k63 w A0_5 l0_5.length l0_5) (hc0_5 : l0_5.length ≤ c0_5) (h : impl_Batch_first.f a0_0 a0_1 a0_2 a0_3 a0_4 l0_5 = some r) :
  Calls Try.prog 39 #[.agg #[.bool a0_0, .bool a0_1, .int .i64 a0_2, .int .i64 a0_3, .int .i64 a0_4, .slice A0_5 l0_5.length c0_5]] w fun e w' => e = .returned (.int .i64 r) ∧ Below w.heap.size w w' := by
 have hu46 := Try.underlying46
 have HR0_5 := Aside0.mk hr0_5
 have HC0_5 := Aside0.mk hc0_5
 clear hr0_5 hc0_5
 have HB := Aside0.mk (Below.refl w.heap.size w)
 have H : (if 0 < (l0_5.length : Int) then (some ((rd_T63 l0_5 0).f0)) else (none)) = some r := h
 clear h
 by_cases c2 : 0 < (l0_5.length : Int)
 ·rw [if_pos c2] at H
  have c2b0 : decide (0 < (l0_5.length : Int)) = true := decide_eq_true c2
  have c2b1 : decide (0 < l0_5.length) = true := decide_eq_true (by omega)
  clear c2
  obtain rfl := Option.some.inj H
  go_enter Try.func39, Try.ntmps39
  go_wp2_with (first | ((with_reducible refine gate_dst (N := 1) rfl ?_); refine box_event ?hg (N := 1) ?hd (cs := #[.bool a0_0, .bool a0_1, .int .i64 a0_2, .int .i64 a0_3, .int .i64 a0_4, .slice A0_5 l0_5.length c0_5]) (t := 46) ?hr ?_; (case hd => rfl); (case hg => rfl); (case hr => first | (go_simp; done) | (go_simp; rfl)); intro gb288 hg w3 hbox hb; have BK288 := Aside0.mk (hbox); have GW288 := tge HB hg; have GE288 := tge HB hg; replace HB := tBs HB hb; clear hb hbox hg; obtain ⟨hcz4_0, hcz4_1, hcz4_2, hcz4_3, hcz4_4, hcz4_5, hfz4_0, hfz4_1, hfz4_2, hfz4_3, hfz4_4, hfz4_5⟩ := cells6 BK288.out; have p289 : 0 ≤ (0 : Int) := (by omega); have q289 : 0 < (l0_5.length : Int) := td; obtain ⟨ad289, A289_3, c289_3, A289_5, c289_5, e289, hx289_0, hx289_1, hx289_2, hx289_3, hx289_4, hx289_5, hl289_3, hi289_3, hl289_5, hi289_5⟩ := at_T63 HR0_5.out 0 p289 q289; cases e289; have qi289 : (0 < l0_5.length) = True := eq_true (by omega); (try rw [show ((0 : Int)).toNat = 0 from rfl] at hx289_0); (try rw [show 0 * 6 = 0 from rfl] at hx289_0); (try rw [Addr.add_zero'] at hx289_0); (try rw [show ((0 : Int)).toNat = 0 from rfl] at hx289_1); (try rw [show 0 * 6 = 0 from rfl] at hx289_1); (try rw [Addr.add_zero'] at hx289_1); (try rw [show ((0 : Int)).toNat = 0 from rfl] at hx289_2); (try rw [show 0 * 6 = 0 from rfl] at hx289_2); (try rw [Addr.add_zero'] at hx289_2); (try rw [show ((0 : Int)).toNat = 0 from rfl] at hx289_3); (try rw [show 0 * 6 = 0 from rfl] at hx289_3); (try rw [Addr.add_zero'] at hx289_3); (try rw [show ((0 : Int)).toNat = 0 from rfl] at hx289_4); (try rw [show 0 * 6 = 0 from rfl] at hx289_4); (try rw [Addr.add_zero'] at hx289_4); (try rw [show ((0 : Int)).toNat = 0 from rfl] at hx289_5); (try rw [show 0 * 6 = 0 from rfl] at hx289_5); (try rw [Addr.add_zero'] at hx289_5); replace hx289_0 := tcl HB hx289_0; replace hx289_1 := tcl HB hx289_1; replace hx289_2 := tcl HB hx289_2; replace hx289_3 := tcl HB hx289_3; replace hx289_4 := tcl HB hx289_4; replace hx289_5 := tcl HB hx289_5; have HR289_3 := Aside0.mk hi289_3; have HC289_3 := Aside0.mk hl289_3; clear hi289_3 hl289_3; have HR289_5 := Aside0.mk hi289_5; have HC289_5 := Aside0.mk hl289_5; clear hi289_5 hl289_5; replace p289 := eq_true p289; replace q289 := eq_true q289))
  go_ret
  exact ⟨by first | rfl | (simp [errW_none, errW_some] <;> rfl) | (simp [*, errW_none, errW_some] <;> rfl), zb⟩
 ·rw [if_neg c2] at H
  exact absurd H (by simp)

end Go.Proofs.Ythoioccmnphfgaa.G

namespace Go.Proofs.Ythoioccmnphfgaa.G
open Go.RowKit Go.Proofs.YthoioccmnphfgaaW.PrintWords Go.Proofs.YthoioccmnphfgaaW.PrintLast Go.Proofs.YthoioccmnphfgaaW.PrintMore Go.Proofs.Ythoioccmnphfgaa.Pu
set_option linter.unusedVariables false
set_option linter.unusedSimpArgs false
theorem last_q (b : S46) (A : Option Addr) (c : Nat) (w : World) (hr : Kd.C k63 w A b.f5.length b.f5) (hc : b.f5.length ≤ c) (hn : 1 ≤ b.f5.length ∧ b.f5.length ≤ 6) : Calls Try.prog 38 #[.agg #[.bool b.f0, .bool b.f1, .int .i64 b.f2, .int .i64 b.f3, .int .i64 b.f4, .slice A b.f5.length c]] w fun e w' => e = .returned (.int .i64 (lastOf b)) ∧ Below w.heap.size w w' :=
  impl_Batch_last.calls _ _ _ _ _ A c b.f5 _ w hr hc (by
    unfold impl_Batch_last.f lastOf
    simp only [w64 (a := (b.f5.length : Int) - 1) (by omega) (by omega), if_pos (show (0 : Int) ≤ (b.f5.length : Int) - 1 by omega), if_pos (show (b.f5.length : Int) - 1 < (b.f5.length : Int) by omega), if_pos (show (0 : Int) < (b.f5.length : Int) by omega)])
theorem first_q (b : S46) (A : Option Addr) (c : Nat) (w : World) (hr : Kd.C k63 w A b.f5.length b.f5) (hc : b.f5.length ≤ c) (hn : 1 ≤ b.f5.length ∧ b.f5.length ≤ 6) : Calls Try.prog 39 #[.agg #[.bool b.f0, .bool b.f1, .int .i64 b.f2, .int .i64 b.f3, .int .i64 b.f4, .slice A b.f5.length c]] w fun e w' => e = .returned (.int .i64 (firstOf b)) ∧ Below w.heap.size w w' :=
  impl_Batch_first.calls _ _ _ _ _ A c b.f5 _ w hr hc (by
    unfold impl_Batch_first.f firstOf
    simp only [w64 (a := (b.f5.length : Int) - 1) (by omega) (by omega), if_pos (show (0 : Int) ≤ (b.f5.length : Int) - 1 by omega), if_pos (show (b.f5.length : Int) - 1 < (b.f5.length : Int) by omega), if_pos (show (0 : Int) < (b.f5.length : Int) by omega)])
set_option maxRecDepth 100000 in
set_option maxHeartbeats 4000000 in
theorem impllog_q (l : List S46) (A : Option Addr) (c : Nat) (w : World) (hr : Kd.C k46 w A l.length l) (hc : l.length ≤ c) :
    Calls Try.prog 21 #[.slice A l.length c] w fun e w' => e = .returned (.bool (logOk l)) ∧ Below w.heap.size w w' := by
  have hl := hr.2.1
  unfold logOk
  have HR := Aside0.mk hr
  clear hr
  by_cases h8 : (l.length : Int) ≤ 8
  · rw [decide_eq_true h8, Bool.and_true]
    go_enter Try.func21, Try.ntmps21
    go_wp2
    go_loopw [10] (fun v10 wr => ∃ i : Nat, v10 = .int .i64 i ∧ i ≤ l.length ∧ (∀ j, j < i → batStep l j = true) ∧ Below w.heap.size w wr) (fun v10 _ => l.length - (intOf v10).toNat)
    case atStart => exact ⟨0, rfl, Nat.zero_le _, fun j hj => absurd hj (Nat.not_lt_zero j), Below.refl _ _⟩
    case round =>
      obtain ⟨i, rfl, hi, hall, hB1⟩ := hrel
      by_cases hlt : i < l.length
      · obtain ⟨ad, A5, c5, rfl, e0, e1, e2, e3, e4, e5, l5, g5⟩ := at_T46 (Kd.C_below HR.out hB1) (i : Int) (by omega) (by omega)
        rw [show ((i : Int)).toNat = i from rfl] at e0 e1 e2 e3 e4 e5
        have hrec : batStep l i = (batOk (rd_T46 l (i : Int)) && (decide (i = 0) || decide (lastOf (rd_T46 l ((i : Int) - 1)) < firstOf (rd_T46 l (i : Int))))) := rfl
        generalize rd_T46 l (i : Int) = bi at *
        go_wp2
        have bR := heap_alloc_new wr (.cells #[.bool bi.f0, .bool bi.f1, .int .i64 bi.f2, .int .i64 bi.f3, .int .i64 bi.f4, .slice A5 bi.f5.length c5] 46)
        have hB2 := below_alloc hB1 (.cells #[.bool bi.f0, .bool bi.f1, .int .i64 bi.f2, .int .i64 bi.f3, .int .i64 bi.f4, .slice A5 bi.f5.length c5] 46)
        have hBr := below_alloc (Below.refl wr.heap.size wr) (.cells #[.bool bi.f0, .bool bi.f1, .int .i64 bi.f2, .int .i64 bi.f3, .int .i64 bi.f4, .slice A5 bi.f5.length c5] 46)
        generalize wr.alloc _ = W1 at bR hB2 hBr ⊢
        have HRC := Aside0.mk (fun (W2 : World) (hb : Below wr.heap.size wr W2) => implbat_q bi A5 c5 W2 (Kd.C_below g5 hb) l5)
        have HF := Aside0.mk (fun (W2 : World) (hb : Below wr.heap.size wr W2) (hn : 1 ≤ bi.f5.length ∧ bi.f5.length ≤ 6) => first_q bi A5 c5 W2 (Kd.C_below g5 hb) l5 hn)
        have kS : ∀ w' : World, Below W1.drew.heap.size W1.drew w' → CellsB w' ⟨wr.heap.size, 0, none⟩ bi A5 c5 ∧ Below W1.heap.size W1 w' := fun w' h => ⟨⟨pw_cell_below h (blk_cell bR 0), pw_cell_below h (blk_cell bR 1), pw_cell_below h (blk_cell bR 2), pw_cell_below h (blk_cell bR 3), pw_cell_below h (blk_cell bR 4), pw_cell_below h (blk_cell bR 5)⟩, below_step (below_drew (Below.refl _ W1)) h⟩
        rcases hok : batOk bi with _ | _ <;> rw [hok] at HRC
        · have hno := Aside0.mk (logs_no hlt (hrec.trans (by rw [hok]; rfl)))
          refine r_begin (fun w' => CellsB w' ⟨wr.heap.size, 0, none⟩ bi A5 c5 ∧ Below W1.heap.size W1 w') 18 (by kernel_rfl) rfl (kS _ (Below.refl _ _)) (fun hH => ?_)
          repeat (first | (refine r_skip (by kernel_rfl) (by rfl) (fun _ _ _ h => h) hH ?_; simp only [Act.put, List.setIfInBounds_toArray, List.set_cons_zero, List.set_cons_succ, Nat.reduceAdd]) | (refine r_go (v := ?_) (by kernel_rfl) (by rfl) (fun _ _ _ h => h) hH ?_ ?_; rotate_left; (focus (intro w hS; obtain ⟨⟨e0, e1, e2, e3, e4, e5⟩, e6⟩ := hS; go_simp; first | done | with_reducible rfl)); simp only [Act.put, List.setIfInBounds_toArray, List.set_cons_zero, List.set_cons_succ, Nat.reduceAdd]) | (fail "x"))
          refine r_one (by kernel_rfl) (by rfl) (fun K hK => ?_)
          go_simp
          go_at_call 37
          refine (HRC.out _ (below_step hBr hH.2)).mono ?_
          rintro e w2 ⟨rfl, hb⟩
          go_wp2_with fail
          refine hK.out _ _ (kS _ hb) (fun hH => ?_)
          clear hK K
          simp only [Act.put, List.setIfInBounds_toArray, List.set_cons_zero, List.set_cons_succ, Nat.reduceAdd]
          repeat (first | (refine r_skip (by kernel_rfl) (by rfl) (fun _ _ _ h => h) hH ?_; simp only [Act.put, List.setIfInBounds_toArray, List.set_cons_zero, List.set_cons_succ, Nat.reduceAdd]) | (refine r_go (v := ?_) (by kernel_rfl) (by rfl) (fun _ _ _ h => h) hH ?_ ?_; rotate_left; (focus (intro w hS; obtain ⟨⟨e0, e1, e2, e3, e4, e5⟩, e6⟩ := hS; go_simp; first | done | with_reducible rfl)); simp only [Act.put, List.setIfInBounds_toArray, List.set_cons_zero, List.set_cons_succ, Nat.reduceAdd]) | (fail "x"))
          refine r_done (by kernel_rfl) ?_
          go_wp2
          go_ret
          exact ⟨by rw [hno.out]; rfl, below_step hB2 hH.2⟩
        · rcases i with _ | j
          · refine r_begin (fun w' => CellsB w' ⟨wr.heap.size, 0, none⟩ bi A5 c5 ∧ Below W1.heap.size W1 w') 18 (by kernel_rfl) rfl (kS _ (Below.refl _ _)) (fun hH => ?_)
            repeat (first | (refine r_skip (by kernel_rfl) (by rfl) (fun _ _ _ h => h) hH ?_; simp only [Act.put, List.setIfInBounds_toArray, List.set_cons_zero, List.set_cons_succ, Nat.reduceAdd]) | (refine r_go (v := ?_) (by kernel_rfl) (by rfl) (fun _ _ _ h => h) hH ?_ ?_; rotate_left; (focus (intro w hS; obtain ⟨⟨e0, e1, e2, e3, e4, e5⟩, e6⟩ := hS; go_simp; first | done | with_reducible rfl)); simp only [Act.put, List.setIfInBounds_toArray, List.set_cons_zero, List.set_cons_succ, Nat.reduceAdd]) | (fail "x"))
            refine r_one (by kernel_rfl) (by rfl) (fun K hK => ?_)
            go_simp
            go_at_call 37
            refine (HRC.out _ (below_step hBr hH.2)).mono ?_
            rintro e w2 ⟨rfl, hb⟩
            go_wp2_with fail
            refine hK.out _ _ (kS _ hb) (fun hH => ?_)
            clear hK K
            simp only [Act.put, List.setIfInBounds_toArray, List.set_cons_zero, List.set_cons_succ, Nat.reduceAdd]
            repeat (first | (refine r_skip (by kernel_rfl) (by rfl) (fun _ _ _ h => h) hH ?_; simp only [Act.put, List.setIfInBounds_toArray, List.set_cons_zero, List.set_cons_succ, Nat.reduceAdd]) | (refine r_go (v := ?_) (by kernel_rfl) (by rfl) (fun _ _ _ h => h) hH ?_ ?_; rotate_left; (focus (intro w hS; obtain ⟨⟨e0, e1, e2, e3, e4, e5⟩, e6⟩ := hS; go_simp; first | done | with_reducible rfl)); simp only [Act.put, List.setIfInBounds_toArray, List.set_cons_zero, List.set_cons_succ, Nat.reduceAdd]) | (fail "x"))
            refine r_done (by kernel_rfl) ?_
            go_wp2
            go_roundw
            case rel =>
              have hst : ∀ j, j < 0 + 1 → batStep l j = true := by
                intro j hj
                obtain rfl : j = 0 := by omega
                exact hrec.trans (by rw [hok]; rfl)
              first | exact ⟨0 + 1, by simp, hlt, hst, below_step hB2 hH.2⟩ | ((repeat apply Exists.intro); refine ⟨⟨0 + 1, ?_, hlt, hst, below_step hB2 hH.2⟩, by first | rfl | (repeat' apply And.intro) <;> rfl⟩; simp)
            case measure => simp [intOf]; omega
          · obtain ⟨ad2, A4, c4, hq, f0, f1, f2, f3, f4, f5, l4, g4⟩ := at_T46 (Kd.C_below HR.out hB1) (j : Int) (by omega) (by omega)
            cases hq
            rw [show ((j : Int)).toNat = j from rfl] at f0 f1 f2 f3 f4 f5
            have hjs := hall j (by omega)
            have hrec2 : batStep l (j + 1) = (batOk bi && (decide (j + 1 = 0) || decide (lastOf (rd_T46 l (j : Int)) < firstOf bi))) := by
              rw [hrec, show ((j + 1 : Nat) : Int) - 1 = (j : Int) by omega]
            unfold batStep at hjs
            have hbj := (Bool.and_eq_true_iff.1 hjs).1
            clear hjs
            generalize rd_T46 l (j : Int) = bj at *
            have hnj := batOk_len hbj
            have hni := batOk_len hok
            have cj : CellsB wr (ad.add (j * 6)) bj A4 c4 := ⟨f0, f1, f2, f3, f4, f5⟩
            have cj1 := cj.below hBr
            have hwj : IntKind.i64.wrap (j : Int) = (j : Int) := by rw [i64_w]; unfold wrap64; omega
            have hjl : (j : Int) < (l.length : Int) := by omega
            have HL := Aside0.mk (fun (W2 : World) (hb : Below wr.heap.size wr W2) => last_q bj A4 c4 W2 (Kd.C_below g4 hb) l4 hnj)
            have kS2 : ∀ w' : World, Below W1.heap.size W1 w' → CellsB w' ⟨wr.heap.size, 0, none⟩ bi A5 c5 ∧ CellsB w' (ad.add (j * 6)) bj A4 c4 ∧ Below W1.heap.size W1 w' := fun w' h => ⟨⟨pw_cell_below h (blk_cell bR 0), pw_cell_below h (blk_cell bR 1), pw_cell_below h (blk_cell bR 2), pw_cell_below h (blk_cell bR 3), pw_cell_below h (blk_cell bR 4), pw_cell_below h (blk_cell bR 5)⟩, cj1.below h, h⟩
            have hno := Aside0.mk hrec2
            clear hrec hrec2
            clear cj cj1 f0 f1 f2 f3 f4 f5 e0 e1 e2 e3 e4 e5
            go_region_held3 (fun w' => (w'.cell? ⟨wr.heap.size, 0, none⟩ = some (.bool bi.f0) ∧ w'.cell? ⟨wr.heap.size, 0 + 1, none⟩ = some (.bool bi.f1) ∧ w'.cell? ⟨wr.heap.size, 0 + 2, none⟩ = some (.int .i64 bi.f2) ∧ w'.cell? ⟨wr.heap.size, 0 + 3, none⟩ = some (.int .i64 bi.f3) ∧ w'.cell? ⟨wr.heap.size, 0 + 4, none⟩ = some (.int .i64 bi.f4) ∧ w'.cell? ⟨wr.heap.size, 0 + 5, none⟩ = some (.slice A5 bi.f5.length c5)) ∧ (w'.cell? (ad.add (j * 6)) = some (.bool bj.f0) ∧ w'.cell? ⟨(ad.add (j * 6)).block, (ad.add (j * 6)).off + 1, none⟩ = some (.bool bj.f1) ∧ w'.cell? ⟨(ad.add (j * 6)).block, (ad.add (j * 6)).off + 2, none⟩ = some (.int .i64 bj.f2) ∧ w'.cell? ⟨(ad.add (j * 6)).block, (ad.add (j * 6)).off + 3, none⟩ = some (.int .i64 bj.f3) ∧ w'.cell? ⟨(ad.add (j * 6)).block, (ad.add (j * 6)).off + 4, none⟩ = some (.int .i64 bj.f4) ∧ w'.cell? ⟨(ad.add (j * 6)).block, (ad.add (j * 6)).off + 5, none⟩ = some (.slice A4 bj.f5.length c4)) ∧ Below W1.heap.size W1 w') (first | exact kS2 _ (below_drew (Below.refl _ _)) | exact kS2 _ (below_step (below_drew (Below.refl _ _)) ‹_›) | exact kS2 _ (below_step (‹_ ∧ _ ∧ Below W1.heap.size W1 _›).2.2 ‹_›))
              (first | (go_at_call 37; refine (HRC.out _ (below_step hBr (by first | exact below_drew (Below.refl _ _) | exact (‹_ ∧ _ ∧ Below W1.heap.size W1 _›).2.2))).mono ?_; rintro e w' ⟨rfl, hb⟩) | (go_at_call 38; refine (HL.out _ (below_step hBr (by first | exact below_drew (Below.refl _ _) | exact (‹_ ∧ _ ∧ Below W1.heap.size W1 _›).2.2))).mono ?_; rintro e w' ⟨rfl, hb⟩) | (go_at_call 39; refine (HF.out _ (below_step hBr (by first | exact below_drew (Below.refl _ _) | exact (‹_ ∧ _ ∧ Below W1.heap.size W1 _›).2.2)) hni).mono ?_; rintro e w' ⟨rfl, hb⟩))
            all_goals
              have hBw := below_step hB2 (‹_ ∧ _ ∧ Below W1.heap.size W1 _›).2.2
              by_cases hc : lastOf bj < firstOf bi
              · have hst : ∀ j', j' < j + 1 + 1 → batStep l j' = true := by
                  intro j' hj
                  by_cases h' : j' < j + 1
                  · exact hall j' h'
                  · obtain rfl : j' = j + 1 := by omega
                    rw [hno.out, hok, decide_eq_true hc, Bool.or_true]; rfl
                have hng : ¬ firstOf bi ≤ lastOf bj := by omega
                go_wp2
                go_roundw
                case rel => first | exact ⟨j + 1 + 1, by simp, hlt, hst, hBw⟩ | ((repeat apply Exists.intro); refine ⟨⟨j + 1 + 1, ?_, hlt, hst, hBw⟩, by first | rfl | (repeat' apply And.intro) <;> rfl⟩; simp)
                case measure => simp [intOf]; omega
              · have hn2 := Aside0.mk (logs_no hlt (hno.out.trans (by rw [hok, decide_eq_false hc, decide_eq_false (show ¬ j + 1 = 0 by omega)]; rfl)))
                have hng : firstOf bi ≤ lastOf bj := by omega
                go_wp2
                go_ret
                exact ⟨by rw [hn2.out]; rfl, hBw⟩
      · obtain rfl : i = l.length := by omega
        go_wp2
        go_ret
        exact ⟨by rw [logs_of hall]; rfl, hB1⟩
  · rw [decide_eq_false h8, Bool.and_false]
    have hg : (8 : Int) < (l.length : Int) := by omega
    go_enter Try.func21, Try.ntmps21
    go_wp2
    go_ret
    exact ⟨rfl, Below.refl _ _⟩
def impl_LogValid.f (k : Nat) (a0 : List S46) : Option Bool := some (logOk a0)
theorem impl_LogValid.calls (k : Nat) (A0 : Option Addr) (c0 : Nat) (l0 : List (S46)) (r : Bool) (w : World) (hr0 : Kd.C k46 w A0 l0.length l0) (hc0 : l0.length ≤ c0) (h : impl_LogValid.f k l0 = some r) :
    Calls Try.prog 21 #[.slice A0 l0.length c0] w fun e w' => e = .returned (.bool r) ∧ Below w.heap.size w w' := by
  obtain rfl := Option.some.inj h
  exact impllog_q l0 A0 c0 w hr0 hc0
end Go.Proofs.Ythoioccmnphfgaa.G

namespace Go.Proofs.Ythoioccmnphfgaa.Pu
/-- Of several places back the first one that has most. -/
def best (n : Nat → Nat) : List Nat → Nat × Nat → Nat × Nat
  | [], s => s
  | b :: l, s => best n l (if s.1 < n b then (n b, b) else s)
/-- As soon as1 one place has 3 or more, those with fewer do not count. -/
theorem best_filter (n : Nat → Nat) : ∀ (l : List Nat) (s t : Nat × Nat), (s.1 < 3 ∧ t = (0, 0)) ∨ (s = t ∧ 3 ≤ s.1) →
    ((best n l s).1 < 3 ∧ best n (l.filter fun b => decide (3 ≤ n b)) t = (0, 0)) ∨ (best n l s = best n (l.filter fun b => decide (3 ≤ n b)) t ∧ 3 ≤ (best n l s).1)
  | [], s, t, h => h
  | b :: l, s, t, h => by
    rw [List.filter_cons]
    by_cases hb : 3 ≤ n b
    · rw [if_pos (by simpa using hb)]
      simp only [best]
      refine best_filter n l _ _ (Or.inr ?_)
      rcases h with ⟨h1, rfl⟩ | ⟨rfl, h2⟩
      · rw [if_pos (show s.1 < n b by omega), if_pos (show (0, 0).1 < n b by show 0 < n b; omega)]
        exact ⟨rfl, hb⟩
      · refine ⟨rfl, ?_⟩
        split
        · exact hb
        · exact h2
    · rw [if_neg (by simpa using hb)]
      simp only [best]
      refine best_filter n l _ _ ?_
      rcases h with ⟨h1, rfl⟩ | ⟨rfl, h2⟩
      · refine Or.inl ⟨?_, rfl⟩
        split
        · show n b < 3; omega
        · exact h1
      · rw [if_neg (show ¬ s.1 < n b by omega)]
        exact Or.inr ⟨rfl, h2⟩
/-- Whoever has 3 and more is found by both; else the second finds nothing. -/
theorem best_both (n : Nat → Nat) (l : List Nat) : ((best n l (0, 0)).1 < 3 ∧ best n (l.filter fun b => decide (3 ≤ n b)) (0, 0) = (0, 0)) ∨ (best n l (0, 0) = best n (l.filter fun b => decide (3 ≤ n b)) (0, 0) ∧ 3 ≤ (best n l (0, 0)).1) :=
  best_filter n l _ _ (Or.inl ⟨by show 0 < 3; omega, rfl⟩)
/-- How many numbers two lists have in common at first, at most m. -/
def alike : Nat → List Int → List Int → Nat
  | m + 1, x :: a, y :: b => if x = y then alike m a b + 1 else 0
  | _, _, _ => 0
/-- Three and more are alike exactly if the first three are. -/
theorem alike3 (m : Nat) (hm : 3 ≤ m) (a b : List Int) (ha : 3 ≤ a.length) (hb : 3 ≤ b.length) : 3 ≤ alike m a b ↔ a.take 3 = b.take 3 := by
  match m, a, b, hm, ha, hb with
  | m + 3, x :: y :: z :: a, u :: v :: w :: b, _, _, _ =>
    simp only [alike, List.take_succ_cons, List.take_zero, List.cons.injEq, and_true]
    by_cases h1 : x = u
    · by_cases h2 : y = v
      · by_cases h3 : z = w
        · simp only [h1, h2, h3, and_self, iff_true, if_true]
          omega
        · simp only [h1, h2, h3, and_false, iff_false, if_true, if_false]
          omega
      · simp only [h1, h2, and_false, false_and, iff_false, if_true, if_false]
        omega
    · simp only [h1, false_and, iff_false, if_false]
      omega
/-- The places, nearest first, until one is too far back. -/
def near (n : Nat → Nat) (z : Nat) : List Nat → Nat × Nat → Nat × Nat
  | [], s => s
  | p :: l, s => if 200 < z - p then s else near n z l (if s.1 < n (z - p) then (n (z - p), z - p) else s)
theorem near_eq (n : Nat → Nat) (z : Nat) : ∀ (l : List Nat) (s : Nat × Nat), l.Pairwise (fun p q => q < p) → near n z l s = best n ((l.map fun p => z - p).filter fun b => decide (b ≤ 200)) s
  | [], s, _ => rfl
  | p :: l, s, h => by
    obtain ⟨h1, h2⟩ := List.pairwise_cons.1 h
    rw [List.map_cons, List.filter_cons]
    by_cases hp : 200 < z - p
    · rw [near, if_pos hp, if_neg (by simp; omega), List.filter_eq_nil_iff.2 (fun b hb => by
        obtain ⟨q, hq, rfl⟩ := List.mem_map.1 hb
        have := h1 q hq
        simp
        omega)]
      rfl
    · rw [near, if_neg hp, if_pos (decide_eq_true (by omega : z - p ≤ 200)), near_eq n z l _ h2]
      rfl
theorem backs (z : Nat) : ((List.range z).reverse.map fun p => z - p) = List.range' 1 z := by
  refine List.ext_getElem (by simp) fun i h1 h2 => ?_
  simp only [List.length_map, List.length_reverse, List.length_range] at h1
  simp only [List.getElem_map, List.getElem_reverse, List.getElem_range, List.length_range, List.getElem_range']
  omega
theorem range_desc (z : Nat) : (List.range z).reverse.Pairwise (fun p q => q < p) := by
  rw [List.pairwise_reverse]
  exact List.pairwise_lt_range
/-- The nearest of the longest among the places of P is that among all backs of P. -/
theorem near_backs (n : Nat → Nat) (z : Nat) (P : Nat → Bool) (s : Nat × Nat) :
    near n z ((List.range z).filter P).reverse s = best n ((List.range' 1 (min z 200)).filter fun b => P (z - b)) s := by
  rw [← List.filter_reverse, near_eq n z _ s (List.Pairwise.filter _ (range_desc z))]
  congr 1
  have e : (((List.range z).reverse.filter P).map fun p => z - p) = (List.range' 1 z).filter fun b => P (z - b) := by
    rw [← backs z, List.filter_map]
    congr 1
    refine List.filter_congr fun p hp => ?_
    have : p < z := by simpa using hp
    show P p = P (z - (z - p))
    rw [show z - (z - p) = p by omega]
  rw [e, List.filter_filter]
  have e2 : List.range' 1 z = List.range' 1 (min z 200) ++ List.range' (1 + min z 200) (z - min z 200) := by
    rw [List.range'_append_1, show min z 200 + (z - min z 200) = z by omega]
  rw [e2, List.filter_append]
  have e3 : (List.range' (1 + min z 200) (z - min z 200)).filter (fun b => decide (b ≤ 200) && P (z - b)) = [] := by
    refine List.filter_eq_nil_iff.2 fun b hb => ?_
    have := List.mem_range'_1.1 hb
    simp only [Bool.and_eq_true, decide_eq_true_eq, not_and]
    omega
  rw [e3, List.append_nil]
  refine List.filter_congr fun b hb => ?_
  have := List.mem_range'_1.1 hb
  rw [decide_eq_true (by omega), Bool.true_and]
end Go.Proofs.Ythoioccmnphfgaa.Pu

namespace Go.Proofs.Ythoioccmnphfgaa.Pu
/-- How many numbers at place z are as1 those b back. -/
def nAt (l : List Int) (z b : Nat) : Nat := alike 66 (l.drop (z - b)) (l.drop z)
def specM (l : List Int) (z : Nat) : Nat × Nat := best (nAt l z) (List.range' 1 (min z 200)) (0, 0)
def keyed (l : List Int) (z p : Nat) : Bool := decide (p + 3 ≤ l.length) && decide ((l.drop p).take 3 = (l.drop z).take 3)
def implM (l : List Int) (z : Nat) : Nat × Nat := if z + 3 ≤ l.length then near (nAt l z) z ((List.range z).filter (keyed l z)).reverse (0, 0) else (0, 0)
theorem alike_le : ∀ (m : Nat) (a b : List Int), alike m a b ≤ b.length
  | 0, _, _ => by simp [alike]
  | m + 1, [], _ => by simp [alike]
  | m + 1, _ :: _, [] => by simp [alike]
  | m + 1, x :: a, y :: b => by
    have := alike_le m a b
    unfold alike
    split <;> simp <;> omega
theorem best_small (n : Nat → Nat) (hn : ∀ b, n b < 3) : ∀ (l : List Nat) (s : Nat × Nat), s.1 < 3 → (best n l s).1 < 3
  | [], _, h => h
  | b :: l, s, h => by
    unfold best
    split
    · exact best_small n hn l _ (hn b)
    · exact best_small n hn l s h
theorem m_both (l : List Int) (z : Nat) : ((specM l z).1 < 3 ∧ (implM l z).1 < 3) ∨ (specM l z = implM l z ∧ 3 ≤ (specM l z).1) := by
  by_cases h : z + 3 ≤ l.length
  · have e : implM l z = best (nAt l z) ((List.range' 1 (min z 200)).filter fun b => decide (3 ≤ nAt l z b)) (0, 0) := by
      unfold implM
      rw [if_pos h, near_backs]
      congr 1
      refine List.filter_congr fun b hb => ?_
      have hb2 := List.mem_range'_1.1 hb
      unfold keyed nAt
      rw [decide_eq_true (show z - b + 3 ≤ l.length by omega), Bool.true_and, decide_eq_decide]
      exact (alike3 66 (by omega) _ _ (by rw [List.length_drop]; omega) (by rw [List.length_drop]; omega)).symm
    rcases best_both (nAt l z) (List.range' 1 (min z 200)) with ⟨h1, h2⟩ | ⟨h1, h2⟩
    · refine .inl ⟨h1, ?_⟩
      rw [e, h2]
      simp
    · exact .inr ⟨h1.trans e.symm, h2⟩
  · refine .inl ⟨best_small _ (fun b => ?_) _ _ (by simp), ?_⟩
    · have := alike_le 66 (l.drop (z - b)) (l.drop z)
      unfold nAt
      rw [List.length_drop] at this
      omega
    · unfold implM
      rw [if_neg h]
      simp
/-- Numbers that are told as1 they are: their number less 1, and they, at most 64 at once. -/
def plainF : Nat → List Int → List Int
  | 0, _ => []
  | k + 1, l => if l = [] then [] else (((l.take 64).length : Int) - 1) :: (l.take 64 ++ plainF k (l.drop 64))
def plainV (l : List Int) : List Int := plainF l.length l
def packW (M : Nat → Nat × Nat) (l : List Int) : Nat → Nat → List Int → List Int → List Int
  | 0, _, out, plain => out ++ plainV plain
  | k + 1, z, out, plain => if z < l.length then (if (M z).1 < 3 then packW M l k (z + 1) out (plain ++ [l.getD z 0]) else packW M l k (z + (M z).1) (out ++ plainV plain ++ [((M z).1 : Int) + 61, ((M z).2 : Int)]) []) else out ++ plainV plain
theorem pack_same (l : List Int) : ∀ (k z : Nat) (out plain : List Int), packW (specM l) l k z out plain = packW (implM l) l k z out plain
  | 0, _, _, _ => rfl
  | k + 1, z, out, plain => by
    unfold packW
    rcases m_both l z with ⟨h1, h2⟩ | ⟨h1, h2⟩
    · rw [if_pos h1, if_pos h2, pack_same l k]
    · have h3 : ¬ (specM l z).1 < 3 := by omega
      simp only [← h1, if_neg h3, pack_same l k]
end Go.Proofs.Ythoioccmnphfgaa.Pu

namespace Go.Proofs.Ythoioccmnphfgaa.G
open Go.RowKit Go.Proofs.YthoioccmnphfgaaW.PrintWords Go.Proofs.YthoioccmnphfgaaW.PrintLast Go.Proofs.YthoioccmnphfgaaW.PrintMore
attribute [local go_sem] max2_int min2_int max_two min_two max_three min_three max_four min_four   -- for this text's walks alone
set_option linter.unusedVariables false
set_option linter.unusedSimpArgs false

def impl_intOf.l0 : Nat → Int → Int → List Int → Int → Int → Option (List Int)
 | 0, _, _, _, _, _ => none
 | k + 1, x0, x1, x5, x10, x11 => if x11 < x10 then (if 0 ≤ (wrap64 (8 * x11)) then (if 0 ≤ (wrap64 ((wrap64 (x1 - 1)) - x11)) then (if (wrap64 ((wrap64 (x1 - 1)) - x11)) < (x5.length : Int) then (impl_intOf.l0 k x0 x1 (x5.set ((wrap64 ((wrap64 (x1 - 1)) - x11)) : Int).toNat (Go.bits .and .i64 (shr .i64 x0 (wrap64 (8 * x11))) 255)) x10 (wrap64 (x11 + 1))) else (none)) else (none)) else (none)) else (some x5)
def impl_intOf.f (k : Nat) (a0 : Int) (a1 : Int) : Option (List Int) := if 0 ≤ a1 then (if (a1 : Int).toNat ≤ 35184372088832 then ((some (List.replicate (a1 : Int).toNat 0 : List Int)).bind fun y337 => (impl_intOf.l0 k a0 a1 y337 (y337.length : Int) 0)) else (none)) else (none)
set_option maxHeartbeats 8000000 in
set_option maxRecDepth 100000 in
theorem impl_intOf.calls (k : Nat) (a0 : Int) (a1 : Int) (r : List Int) (w : World) (h : impl_intOf.f k a0 a1 = some r) :
  Calls Try.prog 44 #[.int .i64 a0, .int .i64 a1] w fun e w' => ∃ v0_ : Value, e = .returned (v0_) ∧ Kd.R (Kd.int .i64) 3 w' w.heap.size (fun _ => True) v0_ r ∧ Below w.heap.size w w' := by
 have HB := Aside0.mk (Below.refl w.heap.size w)
 have H : (if 0 ≤ a1 then (if (a1 : Int).toNat ≤ 35184372088832 then ((some (List.replicate (a1 : Int).toNat 0 : List Int)).bind fun y337 => (impl_intOf.l0 k a0 a1 y337 (y337.length : Int) 0)) else (none)) else (none)) = some r := h
 clear h
 by_cases c3 : 0 ≤ a1
 ·rw [if_pos c3] at H
  have c3b0 := eq_true c3
  have c3b1 : decide (0 ≤ a1) = true := decide_eq_true c3
  clear c3
  by_cases c4 : (a1 : Int).toNat ≤ 35184372088832
  ·rw [if_pos c4] at H
   have c4b0 := eq_true c4
   have c4b1 : decide ((a1 : Int).toNat ≤ 35184372088832) = true := decide_eq_true c4
   clear c4
   obtain ⟨y337, hy337⟩ : ∃ y_ : List Int, y_ = (List.replicate (a1 : Int).toNat 0) := ⟨_, rfl⟩
   replace H : (impl_intOf.l0 k a0 a1 y337 (y337.length : Int) 0) = some r := by first | (rw [hy337]; with_reducible exact H) | (have H2_ := (Option.bind_some _ _).symm.trans H; rw [hy337]; with_reducible exact H2_) | (have H2_ := (Option.bind_some _ _).symm.trans H; with_reducible exact H2_) | with_reducible exact H | (rw [hy337]; exact H) | exact H
   have Ny337 := Aside0.mk hy337
   clear hy337
   have H' := Aside0.mk H
   clear H
   go_enter Try.func44, Try.ntmps44
   go_wp2_with (first | ((with_reducible refine gate_dst (N := 8) rfl ?_); refine Kd.R_make (Kd.int .i64) _ 3 rfl (N := 8) rfl 26 _ _ rfl a1 rfl rfl Try.underlying26 (.int .i64 0) 8 info3 rfl (by decide) (by omega) 0 (ok := fun _ => True) (okp := fun _ => True) rfl (fun _ hk => hk) trivial (td) (Nat.le_trans (Nat.mul_le_mul_right _ (td : a1.toNat ≤ 35184372088832)) (by omega)) (Below.refl _ _) (Nat.le_refl _) ?_; intro v338 w5 ho6 hb hg_ hnew_; clear hg_ hnew_; (first | rw [← Ny337.out] at ho6 | (simp only [Int.reduceToNat] at ho6; rw [← Ny337.out] at ho6)); have HO339 := tRl ho6 HB; replace HB := tBs HB hb; clear hb ho6; obtain ⟨Ao7, co7, eo7⟩ := Kd.R_slice HO339.out; subst eo7))
   go_loopg [11] k (fun kq v11 w' => ∃ (x5_1 : List Int) (x11_1 : Int), v11 = .int .i64 x11_1 ∧ Aside0 (impl_intOf.l0 kq a0 a1 x5_1 (y337.length : Int) x11_1 = some r) ∧ Aside0 (kq ≤ k) ∧ Aside0 (Kd.R (Kd.int .i64) 3 w' w.heap.size (fun _ => True) (.slice Ao7 y337.length co7) x5_1) ∧ Aside0 (Below w.heap.size w w'))
   case atStart => exact ⟨(y337), (0), tr, H', ⟨Nat.le_refl _⟩, ⟨tR HO339.out⟩, ⟨zb⟩⟩
   case round =>
    clear H'
    try clear c3; try clear c3b0; try clear c3b1; try clear c4; try clear c4b0; try clear c4b1
    obtain ⟨x5_1, x11_1, rfl, HA, HK1, HO_5, HB⟩ := hrel
    have hl5_1 := (Kd.R_reads' HO_5.out).1
    rw [hl5_1] at HO_5
    (try simp only [hl5_1])
    cases gk with
    | zero => exact absurd HA.out (by simp [impl_intOf.l0])
    | succ k1 =>
     have H := HA.out
     clear HA
     simp only [impl_intOf.l0] at H
     by_cases c8 : x11_1 < (y337.length : Int)
     ·rw [if_pos c8] at H
      have c8b0 : decide (x11_1 < (y337.length : Int)) = true := decide_eq_true c8
      have c8b0_ : decide (x11_1 < (x5_1.length : Int)) = true := by rw [← hl5_1]; exact c8b0
      clear c8
      obtain ⟨ji9, hji9⟩ : ∃ j_ : Int, (wrap64 (8 * x11_1)) = j_ := ⟨_, rfl⟩
      replace H : (if 0 ≤ (ji9) then (if 0 ≤ (wrap64 ((wrap64 (a1 - 1)) - x11_1)) then (if (wrap64 ((wrap64 (a1 - 1)) - x11_1)) < (x5_1.length : Int) then (impl_intOf.l0 k1 a0 a1 (x5_1.set ((wrap64 ((wrap64 (a1 - 1)) - x11_1)) : Int).toNat (Go.bits .and .i64 (shr .i64 a0 (ji9)) 255)) (y337.length : Int) (wrap64 (x11_1 + 1))) else (none)) else (none)) else (none)) = some r := by first | (rw [hji9] at H; exact H) | (simp only [hji9] at H ⊢; exact H)
      have hji9w : (IntKind.i64.wrap (8 * x11_1)) = ji9 := (i64_w _).trans hji9
      by_cases c10 : 0 ≤ (ji9)
      ·rw [if_pos c10] at H
       have c10b0 := eq_true c10
       have c10b1 : decide (0 ≤ (ji9)) = true := decide_eq_true c10
       clear c10
       obtain ⟨ji11, hji11⟩ : ∃ j_ : Int, (shr .i64 a0 (ji9)) = j_ := ⟨_, rfl⟩
       replace H : (if 0 ≤ (wrap64 ((wrap64 (a1 - 1)) - x11_1)) then (if (wrap64 ((wrap64 (a1 - 1)) - x11_1)) < (x5_1.length : Int) then (impl_intOf.l0 k1 a0 a1 (x5_1.set ((wrap64 ((wrap64 (a1 - 1)) - x11_1)) : Int).toNat (Go.bits .and .i64 (ji11) 255)) (y337.length : Int) (wrap64 (x11_1 + 1))) else (none)) else (none)) = some r := by first | (rw [hji11] at H; exact H) | (simp only [hji11] at H ⊢; exact H)
       have hji11_ : (a0 / 2 ^ min (ji9).toNat 64) = ji11 := hji11
       have hji11z : (ji9) ≤ 64 → (a0 / 2 ^ (ji9).toNat) = ji11 := shr_small hji11
       obtain ⟨ji12, hji12⟩ : ∃ j_ : Int, (wrap64 ((wrap64 (a1 - 1)) - x11_1)) = j_ := ⟨_, rfl⟩
       replace H : (if 0 ≤ (ji12) then (if (ji12) < (x5_1.length : Int) then (impl_intOf.l0 k1 a0 a1 (x5_1.set ((ji12) : Int).toNat (Go.bits .and .i64 (ji11) 255)) (y337.length : Int) (wrap64 (x11_1 + 1))) else (none)) else (none)) = some r := by first | (rw [hji12] at H; exact H) | (simp only [hji12] at H ⊢; exact H)
       have hji12w : (IntKind.i64.wrap ((wrap64 (a1 - 1)) - x11_1)) = ji12 := (i64_w _).trans hji12
       by_cases c13 : 0 ≤ (ji12)
       ·rw [if_pos c13] at H
        have c13b0 : decide (0 ≤ (ji12)) = true := decide_eq_true c13
        clear c13
        by_cases c14 : (ji12) < (x5_1.length : Int)
        ·rw [if_pos c14] at H
         have c14b0 : decide ((ji12) < (x5_1.length : Int)) = true := decide_eq_true c14
         clear c14
         obtain ⟨y340, hy340⟩ : ∃ y_ : List Int, y_ = (x5_1.set ((ji12) : Int).toNat (Go.bits .and .i64 (ji11) 255)) := ⟨_, rfl⟩
         replace H : (impl_intOf.l0 k1 a0 a1 y340 (y337.length : Int) (wrap64 (x11_1 + 1))) = some r := by first | (rw [hy340]; with_reducible exact H) | (have H2_ := (Option.bind_some _ _).symm.trans H; rw [hy340]; with_reducible exact H2_) | (have H2_ := (Option.bind_some _ _).symm.trans H; with_reducible exact H2_) | with_reducible exact H | (rw [hy340]; exact H) | exact H
         have Ny340 := Aside0.mk hy340
         clear hy340
         have H' := Aside0.mk H
         clear H
         have p15 : 0 ≤ ((ji12) : Int) := td
         have q15 : ((ji12) : Int) < ((x5_1.length : Int) : Int) := td
         obtain ⟨go15, co15, eo15, gb15, gl15, cl15, HG15⟩ := Kd.R_form HO_5.out (by omega)
         (first | cases eo15 | (injection eo15 with ea_ en_ ec_; (first | subst ea_ | (injection ea_ with ea_; subst ea_)); subst ec_; clear en_))
         have GB15 := Aside0.mk gb15
         have GG15 := Aside0.mk HG15
         clear gb15 gl15 HG15
         obtain ⟨hx15_0, hf15_0⟩ := Kd.R_celln 0 HO_5.out ((ji12) : Int) p15 q15
         replace p15 := eq_true p15
         replace q15 := eq_true q15
         have HP16 := Kd.R_putg HO_5.out ((ji12) : Int) (Go.bits .and .i64 (ji11) 255)
         go_wp2_with (first | ((with_reducible refine gate_store (t := 3) (p := 24) rfl ?_); refine store_event (t := 3) (p := 24) (v := ?vo_w17) (w1 := (wr.setCell ⟨go15, ((ji12) : Int).toNat, none⟩ (.int .i64 (Go.bits .and .i64 (ji11) 255)))) ?hg ?ho ?hn ?hr ?_; (case ho => rfl); (case hg => rfl); (case hn => rfl); (case hr => first | (go_simp; done) | (go_simp; rfl)); intro w17 hw; have hg : wr.grownBy w17 (some go15) := (by rw [hw]; exact HP16.2); have hp_ : Kd.R (Kd.int .i64) 3 w17 w.heap.size (fun _ => True) (.slice (some ⟨go15, 0, none⟩) x5_1.length co7) y340 := (by rw [hw, Ny340.out]; exact HP16.1); clear HP16; replace HO_5 := Aside0.mk (hp_); replace HB := Aside0.mk ((by rw [hw]; exact below_set (HB.out) GB15.out : Below w.heap.size w w17)); clear hg hw hp_))
         (try simp only [← hl5_1])
         go_roundg k1
         case measure => have := HK1.out; omega
         case rel => exact ⟨(y340), (wrap64 (x11_1 + 1)), tr, H', ⟨by have := HK1.out; omega⟩, ⟨by (try simp only [hl5_1]); (with_reducible repeat (first | apply Kd.R_alloc | apply Kd.R_drewN | apply Kd.R_drew)); exact HO_5.out⟩, ⟨zb⟩⟩
        ·rw [if_neg c14] at H
         exact absurd H (by simp)
       ·rw [if_neg c13] at H
        exact absurd H (by simp)
      ·rw [if_neg c10] at H
       exact absurd H (by simp)
     ·rw [if_neg c8] at H
      have c8b0 : decide (x11_1 < (y337.length : Int)) = false := decide_eq_false c8
      have c8b0_ : decide (x11_1 < (x5_1.length : Int)) = false := by rw [← hl5_1]; exact c8b0
      clear c8
      obtain rfl := Option.some.inj H
      go_wp2
      go_ret
      exact ⟨_, by first | rfl | (simp [errW_none, errW_some] <;> rfl) | (simp [*, errW_none, errW_some] <;> rfl), tR HO_5.out, zb⟩
  ·rw [if_neg c4] at H
   exact absurd H (by simp)
 ·rw [if_neg c3] at H
  exact absurd H (by simp)

end Go.Proofs.Ythoioccmnphfgaa.G

namespace Go.Proofs.Ythoioccmnphfgaa.G
open Go.RowKit Go.Shelf Go.Proofs.YthoioccmnphfgaaW.PrintWords Go.Proofs.YthoioccmnphfgaaW.PrintLast Go.Proofs.YthoioccmnphfgaaW.PrintMore
attribute [local go_sem] Oper.semAt_some
set_option linter.unusedVariables false
set_option linter.unusedSimpArgs false
/-- What a round that goes on keeps: what lay ahead of the call, and the cells of some blocks. -/
def KpC (n₀ : Nat) (S : Nat → Prop) (W W' : World) : Prop := Below n₀ W W' ∧ ∀ k o, S k → W.heap[k]? = some o → o.isCells = true → W'.heap[k]? = some o
theorem kpC_t {n₀ : Nat} {S : Nat → Prop} {A B C : World} (h : KpC n₀ S A B) (k : KpC n₀ S B C) : KpC n₀ S A C := ⟨h.1.trans k.1, fun i o hi ho hc => k.2 i o hi (h.2 i o hi ho hc) hc⟩
theorem kpC_b {n₀ : Nat} {S : Nat → Prop} {w : World} (hn : n₀ ≤ w.heap.size) (W : World) (l : Nat) (o o' : Obj) (hl : w.heap.size ≤ l) (h : W.heap[l]? = some o) (hc : o.isCells = false) (hw : o.isWalk = false) : KpC n₀ S W (W.putObj l o') :=
  ⟨belowK_b hn W l o o' hl h hc hw, fun k x hk hx hxc => by
    have hne : k ≠ l := by
      rintro rfl
      rw [h] at hx
      cases hx
      rw [hxc] at hc
      exact Bool.noConfusion hc
    rw [World.putObj_heap_other hne]
    exact hx⟩
theorem kpC_box {n₀ : Nat} {S : Nat → Prop} {W W' : World} {B : Nat} {t : TypeId} {v : Value} (h : KpC n₀ S W W') (hB : S B) (hb : Boxed W B t v) : Boxed W' B t v := h.2 B _ hB hb rfl
def bEnc (l : List Int) (x : Fin l.length) : Array Value := #[.int .i64 (x.val : Int), .int .i64 l[x]]
def downTo (n : Nat) : List Nat := (List.range n).reverse
set_option maxRecDepth 100000 in
set_option maxHeartbeats 4000000 in
theorem back1_in (F : Fence) (n : Nat) (hf : F.fn 86) (hro : F.round = none) (hn : 1 ≤ n) (w : World) (A0 : Option Addr) (c0 : Nat) (l : List Int) (hr : Kd.C (Kd.int .i64) w A0 l.length l) (hlen : l.length ≤ 100000) (lp Bs : Nat) (J Jx : List (Fin l.length) → World → Prop)
    (hY : ∀ pre x W, J pre W → pre.length < l.length → YieldAt F (n - 1) Try.prog lp (bEnc l x) W fun e W' =>
      (e = .returned (.bool true) ∧ J (pre ++ [x]) W' ∧ KpC w.heap.size (· = Bs) W W') ∨ (e = .returned (.bool false) ∧ Jx (pre ++ [x]) W'))
    (W : World) (hB : Below w.heap.size w W) (hBs : Boxed W Bs 26 (.slice A0 l.length c0)) (h0 : J [] W) :
    CallsIn F n Try.prog 86 #[.func (.yield lp) #[] #[], .pointer (some ⟨Bs, 0, none⟩)] W fun e W' => (∃ v, e = .returned v) ∧
      ((∃ ys, ys.map Fin.val = downTo l.length ∧ J ys W') ∨ (∃ pre, pre.map Fin.val <+: downTo l.length ∧ Jx pre W')) := by
  refine callsIn_of_wp Try.func86 rfl hf ?_ hro
  simp only [Try.ntmps86, List.size_toArray, List.length_cons, List.length_nil, Nat.reduceAdd, Nat.reduceSub, Array.replicate_succ, Array.replicate_zero, List.push_toArray, List.append_toArray, List.nil_append, List.cons_append]
  have hBc := hBs.cell
  gi_wp2
  gi_loopw [3] (fun p wr => ∃ (m : Nat) (pre : List (Fin l.length)), p = .int .i64 ((m : Int) - 1) ∧ m ≤ l.length ∧ pre.map Fin.val ++ downTo m = downTo l.length ∧ J pre wr ∧ Below w.heap.size w wr ∧ Boxed wr Bs 26 (.slice A0 l.length c0)) (fun p _ => (intOf p + 1).toNat)
  case atStart => exact ⟨l.length, [], by simp, Nat.le_refl _, rfl, h0, hB, hBs⟩
  case round =>
    obtain ⟨m, pre, rfl, hm, hpre, hJs, hbw, hbox⟩ := hrel
    have hBc := hbox.cell
    cases m with
    | zero =>
      gi_wp2
      go_end0
      refine ⟨⟨_, rfl⟩, .inl ⟨pre, ?_, hJs⟩⟩
      simpa [downTo] using hpre
    | succ i =>
      have hlt : i < l.length := by omega
      have hC := Kd.C_below hr hbw
      obtain ⟨ad, hA, hx⟩ : ∃ ad, A0 = some ad ∧ wr.cell? (ad.add i) = some (.int .i64 l[i]) := by
        obtain ⟨ad, c, e, _, hK, hc0⟩ := Kd.C_get hC (0 : Int) (i : Int) (by omega) (by omega)
        obtain rfl : c = [Value.int .i64 (l.getD (i : Int).toNat 0)] := hK
        refine ⟨ad, e, ?_⟩
        have := hc0 0 _ rfl
        simpa [List.getElem?_eq_getElem hlt, show (Kd.int .i64).sz = 1 from rfl] using this
      subst hA
      have hJ3 := hY pre ⟨i, hlt⟩ wr hJs (by
        have := congrArg List.length hpre
        simp [downTo] at this
        omega)
      obtain ⟨fn, tmps, assign, body, hy, hR⟩ := hJ3
      simp only [bEnc, Fin.getElem_fin] at hy
      have hi1 : ((i + 1 : Nat) : Int) - 1 = (i : Int) := by omega
      rw [hi1]
      have hnext : downTo (i + 1) = i :: downTo i := by unfold downTo; rw [List.range_succ]; simp
      gi_wp2
      refine hR.mono ?_
      rintro e W3 (⟨rfl, hJ3', hk3⟩ | ⟨rfl, hJx3⟩)
      · gi_wp2
        go_roundw
        case rel =>
          refine ⟨i, pre ++ [⟨i, hlt⟩], rfl, by omega, ?_, hJ3', hbw.trans hk3.1, kpC_box hk3 rfl hbox⟩
          rw [List.map_append, List.append_assoc]
          show pre.map Fin.val ++ ([i] ++ downTo i) = _
          rw [← hpre, hnext]
          rfl
        case measure => simp [intOf]
      · gi_wp2
        refine bodyPost_ret (results_none rfl _ _ _) rfl ?_
        refine ⟨⟨_, rfl⟩, .inr ⟨_, ?_, hJx3⟩⟩
        rw [← hpre, hnext, List.map_append]
        exact List.prefix_append_right_inj _ |>.2 ⟨downTo i, rfl⟩
set_option maxHeartbeats 1000000 in
theorem back_in (F : Fence) (n : Nat) (hf : F.fn 77) (hro : F.round = none) (a : Option Addr) (len cap : Nat) (w : World) :
    CallsIn F n Try.prog 77 #[.slice a len cap] w fun e w' => e = .returned (.func (.func 86) #[] #[.pointer (some ⟨w.heap.size, 0, none⟩)]) ∧ w' = w.alloc (.cells #[.slice a len cap] 26) := by
  refine callsIn_of_wp Try.func77 rfl hf ?_ hro
  simp only [Try.ntmps77, List.size_toArray, List.length_cons, List.length_nil, Nat.reduceAdd, Nat.reduceSub, Array.replicate_succ, Array.replicate_zero, List.push_toArray, List.append_toArray, List.nil_append, List.cons_append]
  gi_wp2
  go_ret
  exact ⟨rfl, rfl⟩
theorem back_stops (F : Fence) (n : Nat) (hf : F.fn 86) (hro : F.round = none) (hn : 1 ≤ n) (w : World) (A0 : Option Addr) (c0 : Nat) (l : List Int) (hr : Kd.C (Kd.int .i64) w A0 l.length l) (hlen : l.length ≤ 100000) (Bs : Nat) (w0 : World) (hB : Below w.heap.size w w0) (hc : Boxed w0 Bs 26 (.slice A0 l.length c0)) :
    SeqStopsK F n Try.prog 86 #[.pointer (some ⟨Bs, 0, none⟩)] (bEnc l) (KpC w.heap.size (· = Bs)) (fun ys => ys.map Fin.val = downTo l.length) (fun pre => pre.map Fin.val <+: downTo l.length) l.length w0 := fun lp J Jx W hW hJ hJx hY h0 =>
  back1_in F n hf hro hn w A0 c0 l hr hlen lp Bs J Jx hY W (hB.trans (hW.mono hB.size)) (by
    have := hW.block Bs hc.lt
    exact this.trans hc) h0
theorem near_app (n : Nat → Nat) (z : Nat) : ∀ (ps qs : List Nat) (s : Nat × Nat), (∀ p ∈ ps, ¬ 200 < z - p) → Pu.near n z (ps ++ qs) s = Pu.near n z qs (Pu.near n z ps s)
  | [], _, _, _ => rfl
  | p :: ps, qs, s, h => by
    rw [List.cons_append, Pu.near, if_neg (h p (List.mem_cons_self ..)), Pu.near, if_neg (h p (List.mem_cons_self ..))]
    exact near_app n z ps qs _ fun q hq => h q (List.mem_cons_of_mem _ hq)
theorem near_stop (n : Nat → Nat) (z : Nat) (p : Nat) (qs : List Nat) (s : Nat × Nat) (h : 200 < z - p) : Pu.near n z (p :: qs) s = s := by rw [Pu.near, if_pos h]
theorem downTo_get (ps : List Nat) : (downTo ps.length).map (fun i => ps.getD i 0) = ps.reverse := by
  unfold downTo
  rw [List.map_reverse]
  congr 1
  refine List.ext_getElem (by simp) fun i h1 h2 => ?_
  simp [List.getElem?_eq_getElem h2]
end Go.Proofs.Ythoioccmnphfgaa.G

namespace Go.Proofs.Ythoioccmnphfgaa.G
open Go.RowKit
section
variable {P : Program} {ops : Array Oper} {md : Region.Mode} {C : World → Prop} {lp n : Nat}
def noDefer (ops : List Oper) : Bool := ops.all fun o => match o.op with | .defer _ => false | _ => true
theorem noDefer_at {ops : Array Oper} (h : noDefer ops.toList = true) {i : Nat} {o : Oper} (ho : ops[i]? = some o) : ∀ c, o.op ≠ .defer c := by
  intro c e
  unfold noDefer at h
  have h1 : o ∈ ops.toList := by
    have := Array.mem_of_getElem? ho
    exact Array.mem_toList_iff.2 this
  have := List.all_eq_true.1 h o h1
  rw [e] at this
  cases this
theorem wpOpInR_of_qOp {i : Nat} {a : Act} {K : Act → Prop} {K' : Act → World → Prop} {Q' : Exit → Act → World → Prop} {w : World} (hd : noDefer ops.toList = true) (hC : C w) (h : ∀ a w', C w' → K a → K' a w') (hh : qOp P ops C i K a) : wpOpIn (Fence.wide.inRound lp) n P ops Q' i K' a w := by
  unfold qOp at hh
  unfold wpOpIn
  split
  · rename_i hn
    simp only [hn] at hh
    exact h _ _ hC hh
  · rename_i o ho
    simp only [ho] at hh
    split
    · rename_i hw
      simp only [hw, if_true] at hh
      obtain ⟨v, h1, h2⟩ := hh
      refine ⟨fun _ _ => trivial, ?_⟩
      have h1 := h1 w hC
      unfold Oper.quietAt at h1
      rw [show (Fence.wide.inRound lp).round = some lp from rfl, Oper.semAt_some lp _ _ (noDefer_at hd ho)]
      generalize (execOp a.eval o).run P w = r at *
      cases r with
      | ok x w' =>
        cases x <;> simp only [Oper.quietUpon] at h1
        case value u =>
          obtain ⟨rfl, rfl⟩ := h1
          exact h _ _ hC h2
        case skip =>
          obtain ⟨rfl, rfl⟩ := h1
          exact h _ _ hC h2
        case enter f args =>
          obtain ⟨rfl, h1⟩ := h1
          refine ⟨fun h => (by cases h), CallsIn.inRound lp (callsIn_wide.2 (h1.mono ?_))⟩
          rintro e w2 ⟨rfl, hc2⟩
          exact h _ _ hc2 h2
      | halt x w' => exact h1.elim
    · rename_i hw
      simp only [hw] at hh
      exact ⟨fun _ _ => trivial, h _ _ hC hh⟩
theorem wpAnyInR_of_quiet {Q : Act → Prop} {Q' : Exit → Act → World → Prop} (hd : noDefer ops.toList = true) (hQ : ∀ a w, C w → Q a → Q' .normal a w) : ∀ (fuel : Nat) (listed : Array Bool) (a : Act) (w : World), C w → wpAnyQ P md ops C Q fuel listed a → wpAnyIn (Fence.wide.inRound lp) n P md ops Q' fuel listed a w
  | 0, _, _, _, hC, h => ⟨h.1, hQ _ _ hC h.2⟩
  | fuel + 1, _, _, _, hC, h => ⟨fun e => hQ _ _ hC (h.1 e), fun i hi => wpOpInR_of_qOp hd hC (fun a w' hC' h' => wpAnyInR_of_quiet hd hQ fuel _ a w' hC' h') (h.2 i hi)⟩
theorem wpInR_quiet {id : Nat} {Q : Exit → Act → World → Prop} {a : Act} {w : World} {l : List Oper} (hd : noDefer l = true) (hm : P.follows .mixedOrders = true) (hB : Region.lexB .any l.toArray = true)
    (h : wpQuiet P l.toArray (fun w' => ∃ n, w' = w.drewN n) (fun a' => ∀ w', (∃ n, w' = w.drewN n) → Q .normal a' w') l a) : (Code.region id l.toArray true).wpIn (Fence.wide.inRound lp) n P Q a w := by
  simp only [Region.lexB, Bool.and_eq_true] at hB
  refine wpIn_region_any hm (wpAnyInR_of_quiet (C := fun w' => ∃ n, w' = w.drewN n) (Q := fun a' => ∀ w', (∃ n, w' = w.drewN n) → Q .normal a' w') (by simpa using hd) (fun _ w' hw' h => h w' hw') _ _ _ _ ⟨1, rfl⟩ ?_)
  have := wpAnyQ_lex (P := P) (C := fun w' => ∃ n, w' = w.drewN n) (md := .any) hB.1 l 0 (Array.replicate l.toArray.size false) a (by simp) (by simpa using hB.2) h
  simpa using this
theorem rowsInR {row : String} {args : Array Value} {w : World} {R : Value → World → Prop} (h : Rows P row args w R) : RowsIn (Fence.wide.inRound lp) n P row args w R :=
  fun c cs _ => let ⟨v, w', r, s⟩ := h c cs; ⟨v, w', r, stepsIn_wide.2 s⟩
theorem uponInR {o : Oper} {a : Act} {next : Act → World → Prop} {Q : Exit → Act → World → Prop} : ∀ {r : Result Next}, o.upon P a next Q r → o.uponIn (Fence.wide.inRound lp) n P a next Q r
  | .ok (.value _) _, h => h
  | .ok .skip _, h => h
  | .ok (.defer _) _, h => h
  | .ok (.enter _ _) _, h => ⟨fun h => (by cases h), CallsIn.inRound lp (callsIn_wide.2 h)⟩
  | .ok (.row _ _) _, h => ⟨fun h => (by cases h), rowsInR h⟩
  | .halt (.panic _) _, h => h
theorem wpListInR {Q : Exit → Act → World → Prop} (hq : ¬ LetsOut Q) : ∀ (l : List Oper) (a : Act) (w : World), noDefer l = true → wpList P ops Q l a w → wpListIn (Fence.wide.inRound lp) n P ops Q l a w
  | [], _, _, _, h => h
  | o :: rest, a, w, hd, h => by
    have hd1 : ∀ c, o.op ≠ .defer c := noDefer_at (ops := (o :: rest).toArray) (by simpa using hd) (i := 0) (by simp)
    have hd2 : noDefer rest = true := by
      unfold noDefer at hd ⊢
      rw [List.all_cons, Bool.and_eq_true] at hd
      exact hd.2
    unfold wpList at h
    unfold wpListIn
    by_cases hw : Region.wanted o (yielded ops a.tmps) = true
    · rw [if_pos hw] at h ⊢
      rcases h with h | h
      · have h2 : o.wp P a w (wpListIn (Fence.wide.inRound lp) n P ops Q rest) Q := Oper.wp_mono (fun a w => wpListInR hq rest a w hd2) h
        refine ⟨fun _ _ => trivial, ?_⟩
        rw [show (Fence.wide.inRound lp).round = some lp from rfl, Oper.semAt_some lp _ _ hd1]
        exact uponInR h2
      · exact absurd h.2 hq
    · rw [if_neg hw] at h ⊢
      exact ⟨fun _ _ => trivial, wpListInR hq rest _ _ hd2 h⟩
theorem wpInR_list {id : Nat} {Q : Exit → Act → World → Prop} {a : Act} {w : World} {l : List Oper} (hd : noDefer l = true) (R : Act → World → Prop)
    (h : wpList P l.toArray (fun e a w => e = .normal ∧ R a w) l a w) (k : ∀ a w, R a w → Q .normal a w) : (Code.region id l.toArray false).wpIn (Fence.wide.inRound lp) n P Q a w :=
  wpIn_mono (wpIn_region_lit (wpListInR (by rintro ⟨a, w, h, _⟩; cases h) l a w hd h)) (by rintro e a w ⟨rfl, h⟩; exact k a w h)
end
end Go.Proofs.Ythoioccmnphfgaa.G

namespace Go.Proofs.Ythoioccmnphfgaa.G
open Go.RowKit Go.Shelf Go.Proofs.YthoioccmnphfgaaW.PrintWords Go.Proofs.YthoioccmnphfgaaW.PrintLast Go.Proofs.YthoioccmnphfgaaW.PrintMore
attribute [local go_sem] Oper.semAt_some
set_option linter.unusedVariables false
set_option linter.unusedSimpArgs false
def pI (ps : List Nat) : List Int := ps.map fun (p : Nat) => (p : Int)
theorem pI_len (ps : List Nat) : (pI ps).length = ps.length := by simp [pI]
def pv (ps : List Nat) (x : Fin (pI ps).length) : Nat := ps.getD x.val 0
theorem pI_get (ps : List Nat) (x : Fin (pI ps).length) : (pI ps)[x] = ((pv ps x : Nat) : Int) := by
  have h : x.val < ps.length := by have h1 := x.isLt; have h2 := pI_len ps; omega
  unfold pv
  rw [List.getD_eq_getElem?_getD, List.getElem?_eq_getElem h]
  have h2 : (pI ps)[x.val]'(x.isLt) = ((ps[x.val] : Nat) : Int) := by unfold pI; rw [List.getElem_map]
  exact h2
theorem pv_mem (ps : List Nat) (x : Fin (pI ps).length) : pv ps x ∈ ps := by
  have h : x.val < ps.length := by have h1 := x.isLt; have h2 := pI_len ps; omega
  unfold pv
  rw [List.getD_eq_getElem?_getD, List.getElem?_eq_getElem h]
  exact List.getElem_mem h
def mtS (l : List Int) (z : Nat) (ps : List Nat) (pre : List (Fin (pI ps).length)) : Nat × Nat := Pu.near (Pu.nAt l z) z (pre.map (pv ps)) (0, 0)
def mtOk (z : Nat) (ps : List Nat) (pre : List (Fin (pI ps).length)) : Prop := ∀ x ∈ pre, ¬ 200 < z - pv ps x
theorem downTo_pI (ps : List Nat) : (downTo (pI ps).length).map (fun i => ps.getD i 0) = ps.reverse := by
  rw [pI_len, downTo_get]
theorem mt_end {l : List Int} {z : Nat} {ps : List Nat} {ys : List (Fin (pI ps).length)} (h : ys.map Fin.val = downTo (pI ps).length) : mtS l z ps ys = Pu.near (Pu.nAt l z) z ps.reverse (0, 0) := by
  unfold mtS
  congr 1
  have := congrArg (List.map fun i => ps.getD i 0) h
  rw [List.map_map, downTo_pI] at this
  rw [← this]
  rfl
theorem mt_stop {l : List Int} {z : Nat} {ps : List Nat} {pre : List (Fin (pI ps).length)} {x : Fin (pI ps).length} (h : (pre ++ [x]).map Fin.val <+: downTo (pI ps).length) (hok : mtOk z ps pre) (hx : 200 < z - pv ps x) : mtS l z ps pre = Pu.near (Pu.nAt l z) z ps.reverse (0, 0) := by
  obtain ⟨t, ht⟩ := h
  have := congrArg (List.map fun i => ps.getD i 0) ht
  rw [downTo_pI, List.map_append, List.map_append, List.map_append] at this
  rw [← this, List.append_assoc]
  unfold mtS
  have e : pre.map (pv ps) = (pre.map Fin.val).map (fun i => ps.getD i 0) := by rw [List.map_map]; rfl
  rw [e, near_app _ _ _ _ _ (by
    rw [← e]
    intro p hp
    obtain ⟨y, hy, rfl⟩ := List.mem_map.1 hp
    exact hok y hy)]
  exact (near_stop _ _ (ps.getD x.val 0) _ _ hx).symm
theorem mt_snoc {l : List Int} {z : Nat} {ps : List Nat} {pre : List (Fin (pI ps).length)} {x : Fin (pI ps).length} (hok : mtOk z ps pre) (hx : ¬ 200 < z - pv ps x) : mtOk z ps (pre ++ [x]) ∧ mtS l z ps (pre ++ [x]) = if (mtS l z ps pre).1 < Pu.nAt l z (z - pv ps x) then (Pu.nAt l z (z - pv ps x), z - pv ps x) else mtS l z ps pre := by
  refine ⟨fun y hy => ?_, ?_⟩
  · rcases List.mem_append.1 hy with hy | hy
    · exact hok y hy
    · obtain rfl : y = x := by simpa using hy
      exact hx
  · unfold mtS
    rw [List.map_append, near_app _ _ _ _ _ (by
      intro p hp
      obtain ⟨y, hy, rfl⟩ := List.mem_map.1 hp
      exact hok y hy)]
    show Pu.near _ _ [pv ps x] _ = _
    rw [Pu.near, if_neg hx, Pu.near]
theorem alike_le_m : ∀ (m : Nat) (a b : List Int), Pu.alike m a b ≤ m
  | 0, _, _ => by simp [Pu.alike]
  | m + 1, [], _ => by simp [Pu.alike]
  | m + 1, _ :: _, [] => by simp [Pu.alike]
  | m + 1, x :: a, y :: b => by
    have := alike_le_m m a b
    unfold Pu.alike
    split <;> omega
theorem wr_add (a b : Nat) (h : a + b < 1000000) : IntKind.i64.wrap ((a : Int) + (b : Int)) = ((a + b : Nat) : Int) := by rw [IntKind.wrap_i64]; omega
theorem wr_sub (a b : Nat) (h : b ≤ a) (h2 : a < 1000000) : IntKind.i64.wrap ((a : Int) - (b : Int)) = ((a - b : Nat) : Int) := by rw [IntKind.wrap_i64]; omega
theorem getD_lt (l : List Int) (i : Nat) (h : i < l.length) : l.getD i 0 = l[i] := by rw [List.getD_eq_getElem?_getD, List.getElem?_eq_getElem h]; rfl
/-- One more number. -/
theorem alike_at (l : List Int) (p z n : Nat) (hn : n ≤ 66) : (n < 66 ∧ z + n < l.length ∧ l.getD (p + n) 0 = l.getD (z + n) 0 ∧ p ≤ z → Pu.alike (66 - n) (l.drop (p + n)) (l.drop (z + n)) = Pu.alike (66 - (n + 1)) (l.drop (p + (n + 1))) (l.drop (z + (n + 1))) + 1) ∧
    (¬ (n < 66 ∧ z + n < l.length ∧ l.getD (p + n) 0 = l.getD (z + n) 0) → p ≤ z → Pu.alike (66 - n) (l.drop (p + n)) (l.drop (z + n)) = 0) := by
  constructor
  · rintro ⟨h1, h2, h3, h4⟩
    obtain ⟨m, hm⟩ : ∃ m, 66 - n = m + 1 := ⟨66 - n - 1, by omega⟩
    rw [hm, show 66 - (n + 1) = m by omega]
    have hp : p + n < l.length := by omega
    rw [List.drop_eq_getElem_cons h2, List.drop_eq_getElem_cons hp]
    rw [getD_lt l _ h2, getD_lt l _ hp] at h3
    rw [Pu.alike, if_pos h3]
    rfl
  · intro h hp
    rcases Nat.lt_or_ge n 66 with h1 | h1
    · obtain ⟨m, hm⟩ : ∃ m, 66 - n = m + 1 := ⟨66 - n - 1, by omega⟩
      rw [hm]
      rcases Nat.lt_or_ge (z + n) l.length with h2 | h2
      · have hp' : p + n < l.length := by omega
        rw [List.drop_eq_getElem_cons h2, List.drop_eq_getElem_cons hp']
        rw [getD_lt l _ h2, getD_lt l _ hp'] at h
        rw [Pu.alike, if_neg (fun e => h ⟨h1, h2, e⟩)]
      · rw [List.drop_eq_nil_of_le h2]
        cases l.drop (p + n) <;> rfl
    · rw [show 66 - n = 0 by omega]
      cases l.drop (p + n) <;> rfl
theorem cell_int {w : World} {A : Option Addr} {l : List Int} (h : Kd.C (Kd.int .i64) w A l.length l) (i : Nat) (hi : i < l.length) : ∃ ad, A = some ad ∧ w.cell? (ad.add i) = some (.int .i64 (l.getD i 0)) := by
  obtain ⟨ad, c, e, _, hK, hc0⟩ := Kd.C_get h (0 : Int) (i : Int) (by omega) (by omega)
  obtain rfl : c = [Value.int .i64 (l.getD (i : Int).toNat 0)] := hK
  refine ⟨ad, e, ?_⟩
  have := hc0 0 _ rfl
  simpa [show (Kd.int .i64).sz = 1 from rfl] using this
def MtI (l : List Int) (z : Nat) (ps : List Nat) (A0 : Option Addr) (c0 b : Nat) (W2 : World) (pre : List (Fin (pI ps).length)) (W : World) : Prop :=
  mtOk z ps pre ∧ Boxed W b 26 (.slice A0 l.length c0) ∧ Boxed W (b + 1) 3 (.int .i64 z) ∧ Boxed W (b + 2) 3 (.int .i64 ((mtS l z ps pre).1 : Nat)) ∧ Boxed W (b + 3) 3 (.int .i64 ((mtS l z ps pre).2 : Nat)) ∧ Below b W2 W
theorem mtI_own (l : List Int) (z : Nat) (ps : List Nat) (A0 : Option Addr) (c0 b : Nat) (W2 : World) (hb : b ≤ W2.heap.size) : OwnFrom W2.heap.size (MtI l z ps A0 c0 b W2) :=
  OwnFrom.and (ownFrom_pure _ _) (OwnFrom.and ((boxed_own _ _ (fun _ => _)).from _) (OwnFrom.and ((boxed_own _ _ (fun _ => _)).from _) (OwnFrom.and ((boxed_own _ _ (fun pre => .int .i64 ((mtS l z ps pre).1 : Nat))).from _) (OwnFrom.and ((boxed_own _ _ (fun pre => .int .i64 ((mtS l z ps pre).2 : Nat))).from _) (ownFrom_below hb hb)))))
section
variable {l : List Int} {z : Nat} {ps : List Nat} {A0 : Option Addr} {c0 b : Nat} {W2 w : World} {pre : List (Fin (pI ps).length)} {x : Fin (pI ps).length} {W : World} {s1 n q : Nat}
theorem mt_put (hI : MtI l z ps A0 c0 b W2 pre W) (hb : b + 4 < W2.heap.size) (hw : w.heap.size = b) (hs : s1 = (mtS l z ps pre).1) (hn : Pu.nAt l z q = n) (hg : s1 < n)
    (h : mtOk z ps (pre ++ [x]) ∧ mtS l z ps (pre ++ [x]) = if (mtS l z ps pre).1 < Pu.nAt l z q then (Pu.nAt l z q, q) else mtS l z ps pre) (m : Nat) :
    KeepsFrom W2.heap.size W (((W.drewN m).setCell ⟨b + 2, 0, none⟩ (.int .i64 (n : Nat))).setCell ⟨b + 3, 0, none⟩ (.int .i64 (q : Nat))) ∧ KpC w.heap.size (fun k => k = b + 4) W (((W.drewN m).setCell ⟨b + 2, 0, none⟩ (.int .i64 (n : Nat))).setCell ⟨b + 3, 0, none⟩ (.int .i64 (q : Nat))) ∧ MtI l z ps A0 c0 b W2 (pre ++ [x]) (((W.drewN m).setCell ⟨b + 2, 0, none⟩ (.int .i64 (n : Nat))).setCell ⟨b + 3, 0, none⟩ (.int .i64 (q : Nat))) := by
  obtain ⟨h1, h2⟩ := h
  rw [← hs, hn, if_pos hg] at h2
  obtain ⟨hok, bB, bZ, bL, bK, hB6⟩ := hI
  have hz := hB6.size
  have hB : Below b W (((W.drewN m).setCell ⟨b + 2, 0, none⟩ (.int .i64 (n : Nat))).setCell ⟨b + 3, 0, none⟩ (.int .i64 (q : Nat))) := ((pw_below_drewN (Below.refl b W) m).setCell (p := ⟨b + 2, 0, none⟩) (by show b ≤ b + 2; omega) _).setCell (p := ⟨b + 3, 0, none⟩) (by show b ≤ b + 3; omega) _
  have hk : ∀ k, k ≠ b + 2 → k ≠ b + 3 → (((W.drewN m).setCell ⟨b + 2, 0, none⟩ (.int .i64 (n : Nat))).setCell ⟨b + 3, 0, none⟩ (.int .i64 (q : Nat))).heap[k]? = W.heap[k]? := fun k h1 h2 => (Below.heap_setCell _ ⟨b + 3, 0, none⟩ _ k h2).trans (Below.heap_setCell (W.drewN m) ⟨b + 2, 0, none⟩ _ k h1)
  refine ⟨⟨hB.size, fun k o hk1 ho _ => (hk k (by omega) (by omega)).trans ho⟩, ⟨by rw [hw]; exact hB, fun k o hk1 ho _ => (hk k (by omega) (by omega)).trans ho⟩, h1, (hk _ (by omega) (by omega)).trans bB, (hk _ (by omega) (by omega)).trans bZ, ?_, ?_, hB6.trans hB⟩
  · rw [h2]
    exact (Boxed.set _ (show Boxed (W.drewN m) (b + 2) _ _ from bL)).other (by omega) _
  · rw [h2]
    exact Boxed.set _ ((show Boxed (W.drewN m) (b + 3) _ _ from bK).other (by omega) _)
theorem mt_same (hI : MtI l z ps A0 c0 b W2 pre W) (hw : w.heap.size = b) (hs : s1 = (mtS l z ps pre).1) (hn : Pu.nAt l z q = n) (hg : ¬ s1 < n)
    (h : mtOk z ps (pre ++ [x]) ∧ mtS l z ps (pre ++ [x]) = if (mtS l z ps pre).1 < Pu.nAt l z q then (Pu.nAt l z q, q) else mtS l z ps pre) (m : Nat) :
    KeepsFrom W2.heap.size W (W.drewN m) ∧ KpC w.heap.size (fun k => k = b + 4) W (W.drewN m) ∧ MtI l z ps A0 c0 b W2 (pre ++ [x]) (W.drewN m) := by
  obtain ⟨h1, h2⟩ := h
  rw [← hs, hn, if_neg hg] at h2
  obtain ⟨hok, bB, bZ, bL, bK, hB6⟩ := hI
  refine ⟨⟨Nat.le_refl _, fun k o hk1 ho _ => ho⟩, ⟨pw_below_drewN (Below.refl _ W) m, fun k o hk1 ho _ => ho⟩, h1, bB, bZ, by rw [h2]; exact bL, by rw [h2]; exact bK, pw_below_drewN hB6 m⟩
end
set_option maxRecDepth 100000 in
set_option maxHeartbeats 4000000 in
theorem match_calls (A0 : Option Addr) (c0 : Nat) (l : List Int) (z : Nat) (A2 : Option Addr) (c2 : Nat) (ps : List Nat) (w : World) (hr0 : Kd.C (Kd.int .i64) w A0 l.length l) (hl : l.length ≤ 1000) (hz : z < l.length) (hr2 : Kd.C (Kd.int .i64) w A2 (pI ps).length (pI ps)) (hp : ∀ p ∈ ps, p < z) (hpl : ps.length ≤ 1000) :
    Calls Try.prog 63 #[.slice A0 l.length c0, .int .i64 z, .slice A2 (pI ps).length c2] w fun e w' =>
      e = .returned (.tuple #[.int .i64 ((Pu.near (Pu.nAt l z) z ps.reverse (0, 0)).1 : Nat), .int .i64 ((Pu.near (Pu.nAt l z) z ps.reverse (0, 0)).2 : Nat)]) ∧ Below w.heap.size w w' := by
  refine (callsIn_wide (n := 5)).1 ?_
  have hro : Fence.wide.round = none := rfl
  refine callsIn_of_wp_marks Try.func63 rfl trivial ?_ hro
  simp only [Try.ntmps63, List.size_toArray, List.length_cons, List.length_nil, Nat.reduceAdd, Nat.reduceSub, Array.replicate_succ, Array.replicate_zero, List.push_toArray, List.append_toArray, List.nil_append, List.cons_append]
  gi_wp2_with (refine ⟨trivial, ?_⟩; gi_at_call 77; refine (back_in Fence.wide 4 trivial hro A2 (pI ps).length c2 _).mono ?_; rintro e w3 ⟨rfl, rfl⟩)
  obtain ⟨b, hbk⟩ : ∃ b, w.heap.size = b := ⟨_, rfl⟩
  have bB := Boxed.new w 26 (.slice A0 l.length c0)
  have bZ := Boxed.new (w.alloc (.cells #[.slice A0 l.length c0] 26)) 3 (.int .i64 z)
  have bL := Boxed.new ((w.alloc (.cells #[.slice A0 l.length c0] 26)).alloc (.cells #[.int .i64 z] 3)) 3 (.int .i64 0)
  have bK := Boxed.new (((w.alloc (.cells #[.slice A0 l.length c0] 26)).alloc (.cells #[.int .i64 z] 3)).alloc (.cells #[.int .i64 0] 3)) 3 (.int .i64 0)
  have bS := Boxed.new ((((w.alloc (.cells #[.slice A0 l.length c0] 26)).alloc (.cells #[.int .i64 z] 3)).alloc (.cells #[.int .i64 0] 3)).alloc (.cells #[.int .i64 0] 3)) 26 (.slice A2 (pI ps).length c2)
  have hB2 : Below w.heap.size w (((((w.alloc (.cells #[.slice A0 l.length c0] 26)).alloc (.cells #[.int .i64 z] 3)).alloc (.cells #[.int .i64 0] 3)).alloc (.cells #[.int .i64 0] 3)).alloc (.cells #[.slice A2 (pI ps).length c2] 26)) := below_alloc (below_alloc (below_alloc (below_alloc (below_alloc (Below.refl _ _) _) _) _) _) _
  replace bB := (((bB.alloc (.cells #[.int .i64 z] 3)).alloc (.cells #[.int .i64 0] 3)).alloc (.cells #[.int .i64 0] 3)).alloc (.cells #[.slice A2 (pI ps).length c2] 26)
  replace bZ := ((bZ.alloc (.cells #[.int .i64 0] 3)).alloc (.cells #[.int .i64 0] 3)).alloc (.cells #[.slice A2 (pI ps).length c2] 26)
  replace bL := (bL.alloc (.cells #[.int .i64 0] 3)).alloc (.cells #[.slice A2 (pI ps).length c2] 26)
  replace bK := bK.alloc (.cells #[.slice A2 (pI ps).length c2] 26)
  simp only [World.size_alloc, hbk, Nat.add_assoc, Nat.reduceAdd] at bB bZ bL bK bS hB2 ⊢
  generalize ((((w.alloc (.cells #[.slice A0 l.length c0] 26)).alloc (.cells #[.int .i64 z] 3)).alloc (.cells #[.int .i64 0] 3)).alloc (.cells #[.int .i64 0] 3)).alloc (.cells #[.slice A2 (pI ps).length c2] 26) = W2 at bB bZ bL bK bS hB2 ⊢
  have hB2w : Below w.heap.size w W2 := by rw [hbk]; exact hB2
  have hbW := bS.lt
  refine wpIn_rangeFunc_ownH hro (by decide) (gf := 86) (lb := #[.pointer (some ⟨b + 4, 0, none⟩)]) rfl trivial (enters_of Try.func86 (by kernel_rfl) rfl)
    (back_stops Fence.wide 4 trivial hro (by decide) w A2 c2 (pI ps) hr2 (by rw [pI_len]; omega) (b + 4) W2 hB2w bS) kpC_t (kpC_b hB2w.size) (Below.refl _ _) (fun _ => rfl)
    (MtI l z ps A0 c0 b W2)
    (fun c pre W => c = .exit 0 ∧ ∃ pre' x, pre = pre' ++ [x] ∧ 200 < z - pv ps x ∧ MtI l z ps A0 c0 b W2 pre' W)
    (mtI_own l z ps A0 c0 b W2 (by omega))
    (fun c => by
      intro pre W W' row hs hg hr
      obtain ⟨h1, pre', x, h2, h3, h4⟩ := hs
      exact ⟨h1, pre', x, h2, h3, mtI_own l z ps A0 c0 b W2 (by omega) pre' W W' row h4 hg hr⟩)
    ⟨fun x hx => by simp at hx, bB, bZ, bL, bK, Below.refl _ _⟩
    (fun x a' W => a' = { tmps := #[.slice A0 l.length c0, .int .i64 z, .slice A2 (pI ps).length c2, .pointer (some ⟨b, 0, none⟩), .pointer (some ⟨b + 1, 0, none⟩), undef, .int .i64 0, .int .i64 0, .pointer (some ⟨b + 2, 0, none⟩), .pointer (some ⟨b + 3, 0, none⟩), undef, .int .i64 (pv ps x : Nat), undef, .slice A2 (pI ps).length c2, .func (.func 86) #[] #[.pointer (some ⟨b + 4, 0, none⟩)], .int .i64 x.val, .int .i64 (pv ps x : Nat), undef, undef, undef, undef, undef, undef, undef, undef, undef, undef, undef, undef, undef, undef, undef, undef, undef, undef, undef, undef, undef, undef, undef, undef, undef, undef, undef, undef, undef, undef, undef, undef, undef, undef, undef, undef, undef, undef, undef, undef], defers := [] })
    (fun x a' => fun _ _ _ _ hs _ _ => hs)
    ?assign ?body ?done ?stop
  case assign =>
    rintro lp pre x W K hI hK
    simp only [bEnc, pI_get] at hK ⊢
    gi_wp2
    exact hK _ _ (KeepsFrom.refl _ _) ⟨Below.refl _ _, fun _ _ _ h _ => h⟩ hI rfl
  case body =>
    rintro lp pre x a' W hl ⟨r, hr⟩ ⟨hok, bB, bZ, bL, bK, hB6⟩ rfl hlt2
    have hpx := hp _ (pv_mem ps x)
    have HI := Aside0.mk (show MtI l z ps A0 c0 b W2 pre W from ⟨hok, bB, bZ, bL, bK, hB6⟩)
    have HC := Aside0.mk (Kd.C_below hr0 (by rw [hbk]; exact (hB2.trans hB6)))
    have HU := Aside0.mk (And.intro hB2 hbW)
    have HW := Aside0.mk hbk
    clear hr hp
    obtain ⟨p, hpv⟩ : ∃ p, p = pv ps x := ⟨_, rfl⟩
    rw [← hpv] at hpx ⊢
    have cZ := bZ.cell
    have cB := bB.cell
    have cL := bL.cell
    have fL := bL.frozen
    have cK := bK.cell
    have fK := bK.frozen
    obtain ⟨s2, hs2⟩ : ∃ s2, s2 = (mtS l z ps pre).2 := ⟨_, rfl⟩
    rw [← hs2] at cK
    have hS2 := Aside0.mk hs2
    clear hs2
    obtain ⟨s1, hs1⟩ : ∃ s1, s1 = (mtS l z ps pre).1 := ⟨_, rfl⟩
    rw [← hs1] at cL
    have hS1 := Aside0.mk hs1
    clear hs1
    have hw1 := wr_sub z p (by omega) (by omega)
    have hsn0 := mt_snoc (l := l) (x := x) hok
    rw [← hpv] at hsn0
    clear hok bB bZ bL bK hB6 hB2 hB2w hbW hr0 hr2 bS hlt2
    obtain ⟨q, hq⟩ : ∃ q, q = z - p := ⟨_, rfl⟩
    rw [← hq] at hw1 hsn0
    have HP := Aside0.mk (And.intro hpv hq)
    have hqz : q ≤ z := by omega
    have hpq : z - q = p := by omega
    have hPQ := Aside0.mk (And.intro hqz hpq)
    clear hqz hpq
    by_cases hfar : 200 < q
    · have hf1 : (q : Int) > 200 := by omega
      have HF := Aside0.mk (show 200 < z - pv ps x by rw [← hpv, ← hq]; exact hfar)
      clear hsn0 hfar hpv hq
      gi_wp2
      exact ⟨KeepsFrom.refl _ _, rfl, pre, x, rfl, HF.out, HI.out⟩
    · have hf1 : ¬ ((q : Int) > 200) := by omega
      have hsn := Aside0.mk (hsn0 hfar)
      clear hpv hq hsn0 hfar
      gi_wp2
      gi_loopw [12] (fun v12 wr => ∃ n : Nat, v12 = .int .i64 n ∧ n ≤ 66 ∧ n ≤ l.length ∧ Aside0 (Pu.alike 66 (l.drop p) (l.drop z) = n + Pu.alike (66 - n) (l.drop (p + n)) (l.drop (z + n))) ∧ Drawn0 W wr) (fun v12 _ => 66 - (intOf v12).toNat)
      case atStart => exact ⟨0, rfl, Nat.zero_le _, Nat.zero_le _, ⟨by simp⟩, Drawn0.refl _⟩
      case round =>
        obtain ⟨n, rfl, hn, hnl, hal, ⟨m1, rfl⟩⟩ := hrel
        obtain ⟨hst, hno⟩ := alike_at l p z n hn
        have hz1 := wr_add z n (by omega)
        have hp1 := wr_add p n (by omega)
        have hno2 : ¬ (n < 66 ∧ z + n < l.length ∧ l.getD (p + n) 0 = l.getD (z + n) 0) → Pu.nAt l z q = n := fun h => by
          have h1 := hno h (by omega)
          have h2 := hal.out
          rw [h1] at h2
          unfold Pu.nAt
          rw [hPQ.out.2]
          exact h2
        obtain ⟨zn, hzn⟩ : ∃ zn, zn = z + n := ⟨_, rfl⟩
        obtain ⟨pn, hpn⟩ : ∃ pn, pn = p + n := ⟨_, rfl⟩
        rw [← hzn] at hz1 hno2 hst
        rw [← hpn] at hp1 hno2 hst
        have HP1 := Aside0.mk hp1
        have HST := Aside0.mk hst
        have HNO := Aside0.mk hno2
        have HZ := Aside0.mk (And.intro hzn hpn)
        have HN := Aside0.mk (And.intro hn hnl)
        have HL := Aside0.mk (And.intro hpx (And.intro hz hl))
        clear hst hno hno2 hzn hpn hn hnl hp1
        by_cases h66 : n < 66
        · by_cases hzl : zn < l.length
          · obtain ⟨ad, rfl, hx1⟩ := cell_int HC.out zn hzl
            obtain ⟨ad2, e2, hx2⟩ := cell_int HC.out pn (by have := HZ.out; omega)
            cases e2
            obtain ⟨x1, hx1e⟩ : ∃ x1, x1 = l.getD zn 0 := ⟨_, rfl⟩
            obtain ⟨x2, hx2e⟩ : ∃ x2, x2 = l.getD pn 0 := ⟨_, rfl⟩
            rw [← hx1e] at hx1
            rw [← hx2e] at hx2
            have HX := Aside0.mk (And.intro hx1e hx2e)
            clear hx1e hx2e
            have h66i : decide ((n : Int) < 66) = true := decide_eq_true (by omega)
            have hzli : (zn : Int) < (l.length : Int) := by omega
            have H66 := Aside0.mk (And.intro h66 hzl)
            have hp1 := HP1.out
            clear h66 hzl
            have hpli : (pn : Int) < (l.length : Int) := by have := HZ.out; omega
            by_cases hxe : x2 = x1
            · have hxb : (x2 == x1) = true := beq_iff_eq.2 hxe
              gi_wp2
              refine wpInR_quiet (by kernel_rfl) (by kernel_rfl) (by kernel_rfl) ?_
              repeat (first | go_big_quiet_step (fail) | quiet_step (fail))
              refine wpQuiet_nil ?_
              intro _ hw'
              obtain ⟨nq, hw''⟩ := hw'
              subst hw''
              have hnn := HN.out
              have h66 := H66.out.1
              have hzl := H66.out.2
              have hLL := HL.out
              have hZZ := HZ.out
              have hn1 : IntKind.i64.wrap ((n : Int) + 1) = (n : Int) + 1 := wr_add n 1 (by omega)
              gi_wp2
              refine ⟨⟨n + 1, by simp, by omega, by omega, ⟨?_⟩, ⟨_, rfl⟩⟩, by simp [intOf]; omega⟩
              have h3 := HX.out
              have h2 := hal.out
              obtain ⟨h4, h5⟩ := HZ.out
              have h1 := HST.out ⟨h66, hzl, by rw [← h3.1, ← h3.2]; exact hxe, by omega⟩
              rw [h4, h5] at h1
              rw [h2, h1]
              omega
            · have hxb : (x2 == x1) = false := beq_eq_false_iff_ne.2 hxe
              have HE := Aside0.mk (HNO.out (fun h => hxe (by have h3 := HX.out; rw [h3.1, h3.2]; exact h.2.2)))
              by_cases hgt : s1 < n
              · have hgti : (n : Int) > (s1 : Int) := by omega
                gi_wp2
                refine wpInR_quiet (by kernel_rfl) (by kernel_rfl) (by kernel_rfl) ?_
                repeat (first | go_big_quiet_step (fail) | quiet_step (fail))
                refine wpQuiet_nil ?_
                intro _ hw'
                obtain ⟨nq, hw''⟩ := hw'
                subst hw''
                gi_wp2
                gi_region
                all_goals exact mt_put HI.out HU.out.2 HW.out hS1.out HE.out hgt hsn.out _
              · have hgti : ¬ ((n : Int) > (s1 : Int)) := by omega
                gi_wp2
                refine wpInR_quiet (by kernel_rfl) (by kernel_rfl) (by kernel_rfl) ?_
                repeat (first | go_big_quiet_step (fail) | quiet_step (fail))
                refine wpQuiet_nil ?_
                intro _ hw'
                obtain ⟨nq, hw''⟩ := hw'
                subst hw''
                gi_wp2
                exact mt_same HI.out HW.out hS1.out HE.out hgt hsn.out _
          · have h66i : (n : Int) < 66 := by omega
            have hzli : decide ((zn : Int) < (l.length : Int)) = false := decide_eq_false (by omega)
            have hzln : decide (zn < l.length) = false := decide_eq_false hzl
            have HE := Aside0.mk (HNO.out (fun h => hzl h.2.1))
            clear hzl h66
            by_cases hgt : s1 < n
            · have hgti : (n : Int) > (s1 : Int) := by omega
              gi_wp2
              refine wpInR_quiet (by kernel_rfl) (by kernel_rfl) (by kernel_rfl) ?_
              repeat (first | go_big_quiet_step (fail) | quiet_step (fail))
              refine wpQuiet_nil ?_
              intro _ hw'
              obtain ⟨nq, hw''⟩ := hw'
              subst hw''
              gi_wp2
              gi_region
              all_goals exact mt_put HI.out HU.out.2 HW.out hS1.out HE.out hgt hsn.out _
            · have hgti : ¬ ((n : Int) > (s1 : Int)) := by omega
              gi_wp2
              refine wpInR_quiet (by kernel_rfl) (by kernel_rfl) (by kernel_rfl) ?_
              repeat (first | go_big_quiet_step (fail) | quiet_step (fail))
              refine wpQuiet_nil ?_
              intro _ hw'
              obtain ⟨nq, hw''⟩ := hw'
              subst hw''
              gi_wp2
              exact mt_same HI.out HW.out hS1.out HE.out hgt hsn.out _
        · have h66i : decide ((n : Int) < 66) = false := decide_eq_false (by omega)
          have HE := Aside0.mk (HNO.out (fun h => h66 h.1))
          clear h66
          by_cases hgt : s1 < n
          · have hgti : (n : Int) > (s1 : Int) := by omega
            gi_wp2
            refine wpInR_quiet (by kernel_rfl) (by kernel_rfl) (by kernel_rfl) ?_
            repeat (first | go_big_quiet_step (fail) | quiet_step (fail))
            refine wpQuiet_nil ?_
            intro _ hw'
            obtain ⟨nq, hw''⟩ := hw'
            subst hw''
            gi_wp2
            gi_region
            all_goals exact mt_put HI.out HU.out.2 HW.out hS1.out HE.out hgt hsn.out _
          · have hgti : ¬ ((n : Int) > (s1 : Int)) := by omega
            gi_wp2
            refine wpInR_quiet (by kernel_rfl) (by kernel_rfl) (by kernel_rfl) ?_
            repeat (first | go_big_quiet_step (fail) | quiet_step (fail))
            refine wpQuiet_nil ?_
            intro _ hw'
            obtain ⟨nq, hw''⟩ := hw'
            subst hw''
            gi_wp2
            exact mt_same HI.out HW.out hS1.out HE.out hgt hsn.out _
  case done =>
    rintro D ys W hD hys ⟨hok, bB, bZ, bL, bK, hB6⟩ hK
    rw [mt_end hys] at bL bK
    have cL := bL.cell
    have cK := bK.cell
    have HX := Aside0.mk (And.intro hB2 (And.intro hB6 (And.intro hK (And.intro hD hbk))))
    clear hr0 hr2 hp hok bB bZ bL bK hB6 hys hB2w bS hbW hB2 hK hD hbk
    gi_wp2
    refine wpIn_wide.2 ?_
    go_quiet (fail)
    gi_wp2
    obtain ⟨hB2, hB6, hK, hD, hbk⟩ := HX.out
    refine ⟨by simp, .inl ⟨_, _, rfl, run_takeDeferred (w := W.drewN nq) hK, ?_⟩⟩
    refine ⟨_, results_tmp2 rfl _ _ _, rfl, ?_⟩
    subst hbk
    exact (hB2.trans (pw_below_drewN hB6 nq)).trans (belowK_b (w := W2) hB2.size (W.drewN nq) D _ _ hD hK rfl rfl)
  case stop =>
    rintro D c pre W hD hpre ⟨rfl, pre', x, rfl, hx, hok, bB, bZ, bL, bK, hB6⟩ hK
    rw [mt_stop hpre hok hx] at bL bK
    have cL := bL.cell
    have cK := bK.cell
    have HX := Aside0.mk (And.intro hB2 (And.intro hB6 (And.intro hK (And.intro hD hbk))))
    clear hr0 hr2 hp hok bB bZ bL bK hB6 hpre hx hB2w bS hbW hB2 hK hD hbk
    gi_wp2
    refine wpIn_wide.2 ?_
    go_quiet (fail)
    gi_wp2
    obtain ⟨hB2, hB6, hK, hD, hbk⟩ := HX.out
    refine ⟨by simp, .inl ⟨_, _, rfl, run_takeDeferred (w := W.drewN nq) hK, ?_⟩⟩
    refine ⟨_, results_tmp2 rfl _ _ _, rfl, ?_⟩
    subst hbk
    exact (hB2.trans (pw_below_drewN hB6 nq)).trans (belowK_b (w := W2) hB2.size (W.drewN nq) D _ _ hD hK rfl rfl)
end Go.Proofs.Ythoioccmnphfgaa.G

namespace Go.Proofs.Ythoioccmnphfgaa.G
open Go.RowKit Go.Shelf Go.Proofs.YthoioccmnphfgaaW.PrintWords Go.Proofs.YthoioccmnphfgaaW.PrintLast Go.Proofs.YthoioccmnphfgaaW.PrintMore
attribute [local go_sem] Oper.semAt_some
set_option linter.unusedVariables false
set_option linter.unusedSimpArgs false
/-- How many pieces n numbers have. -/
def chN (n : Nat) : Nat := (n + 63) / 64
def cEnc (ad : Option Addr) (n : Nat) (x : Fin (chN n)) : Array Value := #[.slice (ad.map (·.add (64 * x.val))) (min 64 (n - 64 * x.val)) (min 64 (n - 64 * x.val))]
set_option maxRecDepth 100000 in
set_option maxHeartbeats 4000000 in
theorem chunk1_in (F : Fence) (n : Nat) (hf : F.fn 76) (hro : F.round = none) (hn : 1 ≤ n) (n₀ : Nat) (ad : Option Addr) (c0 len : Nat) (hnil : ad = none → len = 0) (hc : len ≤ c0) (hcm : c0 ≤ 9223372036854775807) (hlen : len ≤ 100000) (S : Nat → Prop) (lp Bs Bn : Nat) (hS1 : S Bs) (hS2 : S Bn) (J Jx : List (Fin (chN len)) → World → Prop)
    (hY : ∀ pre x W, J pre W → pre.length < chN len → YieldAt F (n - 1) Try.prog lp (cEnc ad len x) W fun e W' =>
      (e = .returned (.bool true) ∧ J (pre ++ [x]) W' ∧ KpC n₀ S W W') ∨ (e = .returned (.bool false) ∧ Jx (pre ++ [x]) W'))
    (W : World) (hJ' : AbidesFrom W.heap.size J) (hBs : Boxed W Bs 26 (.slice ad len c0)) (hBn : Boxed W Bn 3 (.int .i64 64)) (h0 : J [] W) :
    CallsIn F n Try.prog 76 #[.func (.yield lp) #[] #[], .pointer (some ⟨Bs, 0, none⟩), .pointer (some ⟨Bn, 0, none⟩)] W fun e W' => (∃ v, e = .returned v) ∧
      ((∃ ys, ys.map Fin.val = List.range (chN len) ∧ J ys W') ∨ (∃ pre, pre.map Fin.val <+: List.range (chN len) ∧ Jx pre W')) := by
  refine callsIn_of_wp Try.func76 rfl hf ?_ hro
  simp only [Try.ntmps76, List.size_toArray, List.length_cons, List.length_nil, Nat.reduceAdd, Nat.reduceSub, Array.replicate_succ, Array.replicate_zero, List.push_toArray, List.append_toArray, List.nil_append, List.cons_append]
  gi_wp2
  gi_loopw [4] (fun p wr => ∃ (m : Nat) (pre : List (Fin (chN len))), p = .int .i64 ((64 * m : Nat) : Int) ∧ m ≤ chN len ∧ pre.map Fin.val = List.range m ∧ Aside0 (J pre wr) ∧ Boxed wr Bs 26 (.slice ad len c0) ∧ Boxed wr Bn 3 (.int .i64 64)) (fun p _ => 200000 - (intOf p).toNat)
  case atStart => exact ⟨0, [], rfl, Nat.zero_le _, rfl, ⟨h0⟩, hBs, hBn⟩
  case round =>
    obtain ⟨m, pre, rfl, hm, hpre, hJs, bS, bN⟩ := hrel
    have cS := bS.cell
    have cN := bN.cell
    have HB := Aside0.mk (And.intro bS bN)
    clear hBs hBn bS bN
    obtain ⟨i, hi⟩ : ∃ i, i = 64 * m := ⟨_, rfl⟩
    rw [← hi]
    by_cases hlt : i < len
    · have hmN : m < chN len := by unfold chN; omega
      cases ad with
      | none => have := hnil rfl; omega
      | some ad =>
        obtain ⟨e, he⟩ : ∃ e, e = min 64 (len - i) := ⟨_, rfl⟩
        have hmn : (if ((len - i : Nat) : Int) < 64 then ((len - i : Nat) : Int) else 64) = (e : Int) := by
          split <;> omega
        have hJ4 := hY pre ⟨m, hmN⟩ wr.drew (hJ' pre wr wr.drew none hJs.out ⟨rfl, rfl, rfl, Nat.le_refl _, fun _ _ _ => rfl⟩ (fun r e => by cases e)) (by
          have := congrArg List.length hpre
          simp at this
          omega)
        obtain ⟨fn, tmps, assign, body, hy, hR⟩ := hJ4
        simp only [cEnc, Option.map_some, ← hi, ← he] at hy
        have HE := Aside0.mk (And.intro he hi)
        have hie : i + e ≤ len := by omega
        have he0 : 0 < e := by omega
        obtain ⟨ie, hie2⟩ : ∃ ie, ie = i + e := ⟨_, rfl⟩
        have hw1 : IntKind.i64.wrap ((i : Int) + (e : Int)) = (ie : Int) := by rw [hie2]; exact wr_add i e (by omega)
        have hsub : ie - i = e := by omega
        have h1 : (i : Int) < (len : Int) := by omega
        have h2 : (i : Int) ≤ (len : Int) := by omega
        have h3 : ¬ c0 = i := by omega
        have h4 : (len : Int) ≤ (c0 : Int) := by omega
        have h5 : (0 : Int) ≤ (i : Int) := by omega
        have h6 : (i : Int) ≤ (ie : Int) := by omega
        have h7 : (ie : Int) ≤ (c0 : Int) := by omega
        have h8 : ¬ ie = i := by omega
        have hw2 : IntKind.i64.wrap ((i : Int) + 64) = (i : Int) + 64 := wr_add i 64 (by omega)
        have hpre2 : (pre ++ [(⟨m, hmN⟩ : Fin (chN len))]).map Fin.val = List.range (m + 1) := by rw [List.map_append, hpre, List.range_succ]; rfl
        have hmeas : i + 64 < 200000 := by omega
        have H9 := Aside0.mk (And.intro hmN (And.intro hpre2 hmeas))
        have HR := Aside0.mk hR
        clear hY he hi hJ' h0 hm hlt hpre2 hmeas hie he0 hie2 hnil hc hcm hlen hR hpre
        gi_wp2
        gi_region
        all_goals
          gi_wp2
          refine HR.out.mono ?_
          rintro e' W3 (⟨rfl, hJ3', hk3⟩ | ⟨rfl, hJx3⟩)
          · have bS3 := kpC_box hk3 hS1 (show Boxed wr.drew Bs _ _ from HB.out.1)
            have bN3 := kpC_box hk3 hS2 (show Boxed wr.drew Bn _ _ from HB.out.2)
            have cN3 := bN3.cell
            have H10 := Aside0.mk hJ3'
            clear hJ3'
            gi_wp2
            go_roundw
            case rel =>
              refine ⟨m + 1, pre ++ [⟨m, hmN⟩], ?_, hmN, H9.out.2.1, H10, bS3, bN3⟩
              have := HE.out.2
              rw [this, Nat.mul_succ]
              simp
            case measure =>
              have := H9.out.2.2
              simp [intOf]
              omega
          · gi_wp2
            refine bodyPost_ret (results_none rfl _ _ _) rfl ?_
            refine ⟨⟨_, rfl⟩, .inr ⟨_, ?_, hJx3⟩⟩
            rw [H9.out.2.1]
            have : List.range (m + 1) = (List.range (chN len)).take (m + 1) := by
              rw [List.take_range, Nat.min_eq_left H9.out.1]
            rw [this]
            exact List.take_prefix _ _
    · obtain rfl : m = chN len := by unfold chN at hm ⊢; omega
      have hlti : ¬ ((i : Int) < (len : Int)) := by omega
      gi_wp2
      go_end0
      exact ⟨⟨_, rfl⟩, .inl ⟨pre, hpre, hJs.out⟩⟩
set_option maxHeartbeats 1000000 in
theorem chunk_in (F : Fence) (n : Nat) (hf : F.fn 61) (hro : F.round = none) (a : Option Addr) (len cap : Nat) (w : World) :
    CallsIn F n Try.prog 61 #[.slice a len cap, .int .i64 64] w fun e w' => e = .returned (.func (.func 76) #[] #[.pointer (some ⟨w.heap.size, 0, none⟩), .pointer (some ⟨w.heap.size + 1, 0, none⟩)]) ∧ w' = (w.alloc (.cells #[.slice a len cap] 26)).alloc (.cells #[.int .i64 64] 3) := by
  refine callsIn_of_wp Try.func61 rfl hf ?_ hro
  simp only [Try.ntmps61, List.size_toArray, List.length_cons, List.length_nil, Nat.reduceAdd, Nat.reduceSub, Array.replicate_succ, Array.replicate_zero, List.push_toArray, List.append_toArray, List.nil_append, List.cons_append]
  gi_wp2
  go_ret
  exact ⟨rfl, rfl⟩
theorem chunk_stops (F : Fence) (n : Nat) (hf : F.fn 76) (hro : F.round = none) (hn : 1 ≤ n) (n₀ : Nat) (ad : Option Addr) (c0 len : Nat) (hnil : ad = none → len = 0) (hc : len ≤ c0) (hcm : c0 ≤ 9223372036854775807) (hlen : len ≤ 100000) (S : Nat → Prop) (Bs Bn : Nat) (hS1 : S Bs) (hS2 : S Bn)
    (w0 : World) (hBs : Boxed w0 Bs 26 (.slice ad len c0)) (hBn : Boxed w0 Bn 3 (.int .i64 64)) :
    SeqStopsK F n Try.prog 76 #[.pointer (some ⟨Bs, 0, none⟩), .pointer (some ⟨Bn, 0, none⟩)] (cEnc ad len) (KpC n₀ S) (fun ys => ys.map Fin.val = List.range (chN len)) (fun pre => pre.map Fin.val <+: List.range (chN len)) (chN len) w0 := fun lp J Jx W hW hJ hJx hY h0 =>
  chunk1_in F n hf hro hn n₀ ad c0 len hnil hc hcm hlen S lp Bs Bn hS1 hS2 J Jx hY W hJ ((hW.block Bs hBs.lt).trans hBs) ((hW.block Bn hBn.lt).trans hBn) h0
end Go.Proofs.Ythoioccmnphfgaa.G

namespace Go.Proofs.Ythoioccmnphfgaa.G
open Go.RowKit Go.Shelf Go.Proofs.YthoioccmnphfgaaW.PrintWords Go.Proofs.YthoioccmnphfgaaW.PrintLast Go.Proofs.YthoioccmnphfgaaW.PrintMore
attribute [local go_sem] Oper.semAt_some
set_option linter.unusedVariables false
set_option linter.unusedSimpArgs false
/-- A row of one's own of whole numbers. -/
def IR (W : World) (base : Nat) (v : Value) (l : List Int) : Prop := Kd.R (Kd.int .i64) 3 W base (fun _ => True) v l
section
variable {W W' : World} {base b : Nat} {v u u' : Value} {l : List Int}
theorem IR.moved (h : IR W base v l) (hm : ∀ k, v.ownBlock = some k → W'.heap[k]? = W.heap[k]?) : IR W' base v l := Kd.R_mono (Kd.R_move (Kd.R_tight rfl h) fun k hk => hm k hk.symm) fun _ _ => trivial
theorem IR.grown (h : IR W base v l) {row : Option Nat} (hg : W.grownBy W' row) (hne : ∀ k, row = some k → some k ≠ v.ownBlock) : IR W' base v l := Kd.R_grown2 h rfl hg hne
theorem IR.kept {S : Nat → Prop} (h : IR W base v l) (hk : Kept W W' S) (hne : ∀ k, v.ownBlock = some k → ¬ S k) : IR W' base v l := h.moved fun k hk1 => hk.2 k (Kd.R_lt h k hk1) (hne k hk1)
theorem IR.box (h : IR W base v l) {t : TypeId} (ht : 3 ≠ t) (hb : Boxed W b t u) : some b ≠ v.ownBlock := Kd.R_ne h hb ht
theorem IR.setBox (h : IR W base v l) {t : TypeId} (ht : 3 ≠ t) (hb : Boxed W b t u) (x : Value) : IR (W.setCell ⟨b, 0, none⟩ x) base v l := Kd.R_set h hb (fun q hq => by
  have : q = 3 := by simpa [Kd.int, Kd.scalar] using hq
  rw [this]; exact ht) 0 x
theorem IR.lt (h : IR W base v l) : ∀ k, v.ownBlock = some k → k < W.heap.size := Kd.R_lt h
end
/-- What a piece says. -/
def pcOf (l : List Int) (j : Nat) : List Int := ((((l.drop (64 * j)).take 64).length : Int) - 1) :: (l.drop (64 * j)).take 64
theorem chN_succ (n : Nat) (h : 0 < n) : chN n = chN (n - 64) + 1 := by unfold chN; omega
theorem plainF_eq : ∀ (k : Nat) (l : List Int), l.length ≤ k → Pu.plainF k l = (List.range (chN l.length)).flatMap (pcOf l)
  | 0, l, h => by
    obtain rfl : l = [] := List.eq_nil_of_length_eq_zero (by omega)
    rfl
  | k + 1, l, h => by
    unfold Pu.plainF
    by_cases hl : l = []
    · subst hl
      rfl
    · have hp : 0 < l.length := List.length_pos_iff.2 hl
      rw [if_neg hl, chN_succ _ hp, List.range_succ_eq_map, List.flatMap_cons, plainF_eq k (l.drop 64) (by rw [List.length_drop]; omega), List.length_drop, List.flatMap_map]
      have e1 : pcOf l 0 = (((l.take 64).length : Int) - 1) :: l.take 64 := by unfold pcOf; simp
      have e2 : (fun a => pcOf l a.succ) = pcOf (l.drop 64) := by
        funext j
        unfold pcOf
        rw [List.drop_drop, show 64 + 64 * j = 64 * j.succ by rw [Nat.mul_succ]; omega]
      rw [e1, e2]
      rfl
theorem plainV_eq (l : List Int) : Pu.plainV l = (List.range (chN l.length)).flatMap (pcOf l) := plainF_eq _ l (Nat.le_refl _)
def flS (l : List Int) (pre : List (Fin (chN l.length))) : List Int := (pre.map Fin.val).flatMap (pcOf l)
theorem flS_snoc (l : List Int) (pre : List (Fin (chN l.length))) (x : Fin (chN l.length)) : flS l (pre ++ [x]) = flS l pre ++ pcOf l x.val := by unfold flS; rw [List.map_append, List.flatMap_append]; simp
theorem flS_len (l : List Int) : ∀ pre : List (Fin (chN l.length)), (flS l pre).length ≤ 65 * pre.length
  | [] => by simp [flS]
  | x :: pre => by
    have := flS_len l pre
    unfold flS at this ⊢
    rw [List.map_cons, List.flatMap_cons, List.length_append, List.length_cons]
    have h2 : (pcOf l x.val).length ≤ 65 := by unfold pcOf; rw [List.length_cons, List.length_take]; omega
    omega
def FlI (l out : List Int) (n0 bo : Nat) (vo vp : Value) (W0 : World) (N0 : Nat) (pre : List (Fin (chN l.length))) (W : World) : Prop :=
  ∃ v1, Boxed W bo 26 v1 ∧ IR W n0 v1 (out ++ flS l pre) ∧ (v1.ownBlock = vo.ownBlock ∨ ∃ k, v1.ownBlock = some k ∧ N0 ≤ k) ∧ Below n0 W0 W ∧ Kept W0 W (fun k => k = bo ∨ some k = vo.ownBlock) ∧ pre.length ≤ 100 ∧ N0 ≤ W.heap.size
theorem flI_own (l out : List Int) (n0 bo : Nat) (vo vp : Value) (W0 : World) (N0 B : Nat) (hB : W0.heap.size ≤ B) (hn : n0 ≤ W0.heap.size) : OwnFrom B (FlI l out n0 bo vo vp W0 N0) := by
  intro pre W W' row hs hg hr
  obtain ⟨v1, h1, h2, h3, h4, h5, h6, h7⟩ := hs
  have hne : ∀ k cs t fz, W.heap[k]? = some (.cells cs t fz) → some k ≠ row := by
    intro k cs t fz hk e
    obtain ⟨_, o, ho, hc⟩ := hr k e.symm
    rw [hk] at ho
    cases ho
    exact Bool.noConfusion hc
  refine ⟨v1, h1.kept hg (hne _ _ _ _ h1), h2.grown hg (fun k hk e => ?_), h3, h4.grown hg (Nat.le_trans hn h4.size) (fun k e => Nat.le_trans (Nat.le_trans hn hB) (hr k e).1), h5.of_grown hg (fun k e => .inr (Nat.le_trans hB (hr k e).1)), h6, Nat.le_trans h7 hg.size⟩
  obtain ⟨cs, hc⟩ := Kd.R_typed h2 k e.symm
  exact hne _ _ _ _ hc hk.symm
set_option maxRecDepth 100000 in
set_option maxHeartbeats 4000000 in
theorem flush_calls (l out : List Int) (n0 bp bo : Nat) (vo vp : Value) (W0 : World) (hbp : Boxed W0 bp 26 vp) (hbo : Boxed W0 bo 26 vo) (hP : IR W0 n0 vp l) (hO : IR W0 n0 vo out) (hne : bp ≠ bo) (hsep : ∀ k, vp.ownBlock = some k → vo.ownBlock ≠ some k)
    (hl : l.length ≤ 1000) (ho : out.length ≤ 100000) (h0p : n0 ≤ bp) (h0o : n0 ≤ bo) :
    Calls Try.prog 60 #[.pointer (some ⟨bp, 0, none⟩), .pointer (some ⟨bo, 0, none⟩)] W0 fun e W' => (∃ v, e = .returned v) ∧ ∃ v1 v2, Boxed W' bo 26 v1 ∧ IR W' n0 v1 (out ++ Pu.plainV l) ∧ (v1.ownBlock = vo.ownBlock ∨ ∃ k, v1.ownBlock = some k ∧ W0.heap.size ≤ k) ∧
      Boxed W' bp 26 v2 ∧ IR W' n0 v2 [] ∧ (∀ k, v2.ownBlock = some k → vp.ownBlock = some k) ∧ Below n0 W0 W' ∧ Kept W0 W' (fun k => k = bp ∨ k = bo ∨ some k = vo.ownBlock) := by
  refine (callsIn_wide (n := 5)).1 ?_
  have hro : Fence.wide.round = none := rfl
  obtain ⟨A, c, rfl⟩ := Kd.R_slice hP
  have hrd := Kd.R_reads' hP
  have hlc := hrd.2.1
  have hn0 : n0 ≤ W0.heap.size := Nat.le_trans h0p (Nat.le_of_lt hbp.lt)
  have hAn : A = none → l.length = 0 := fun e => by
    rcases Nat.eq_zero_or_pos l.length with h | h
    · exact h
    · obtain ⟨g, cap, h1, _⟩ := Kd.R_form hP h
      cases h1
      cases e
  have hcm : c ≤ 9223372036854775807 := by
    obtain ⟨inner, _, h2⟩ := Kd.R_own hP
    rcases h2 with ⟨h2, _⟩ | ⟨g, cap, cur, h2, _, _, _, h3, _⟩
    · injection h2 with _ _ e
      omega
    · injection h2 with _ _ e
      unfold maxLen at h3
      omega
  refine callsIn_of_wp_marks Try.func60 rfl trivial ?_ hro
  simp only [Try.ntmps60, List.size_toArray, List.length_cons, List.length_nil, Nat.reduceAdd, Nat.reduceSub, Array.replicate_succ, Array.replicate_zero, List.push_toArray, List.append_toArray, List.nil_append, List.cons_append]
  have cP := hbp.cell
  gi_wp2_with (refine ⟨trivial, ?_⟩; gi_at_call 61; refine (chunk_in Fence.wide 4 trivial hro A l.length c _).mono ?_; rintro e w3 ⟨rfl, rfl⟩)
  have bS := Boxed.new W0 26 (.slice A l.length c)
  have bN := Boxed.new (W0.alloc (.cells #[.slice A l.length c] 26)) 3 (.int .i64 64)
  replace bS := bS.alloc (.cells #[.int .i64 64] 3)
  have hB2 : Below W0.heap.size W0 ((W0.alloc (.cells #[.slice A l.length c] 26)).alloc (.cells #[.int .i64 64] 3)) := below_alloc (below_alloc (Below.refl _ _) _) _
  simp only [World.size_alloc, Nat.add_assoc, Nat.reduceAdd] at bS bN hB2 ⊢
  generalize (W0.alloc (.cells #[.slice A l.length c] 26)).alloc (.cells #[.int .i64 64] 3) = W2 at bS bN hB2 ⊢
  have hW2 := bN.lt
  have hP2 := hP.moved (W' := W2) fun k hk => hB2.block k (hP.lt k hk)
  have hO2 := hO.moved (W' := W2) fun k hk => hB2.block k (hO.lt k hk)
  have bP2 : Boxed W2 bp 26 (.slice A l.length c) := (hB2.block bp hbp.lt).trans hbp
  have bO2 : Boxed W2 bo 26 vo := (hB2.block bo hbo.lt).trans hbo
  have hI0 : FlI l out n0 bo vo (.slice A l.length c) W0 W2.heap.size [] W2 := ⟨vo, bO2, by unfold flS; simpa using hO2, .inl rfl, hB2.mono hn0, Kept.of_below hB2 _, Nat.zero_le _, Nat.le_refl _⟩
  refine wpIn_rangeFunc_ownH hro (by decide) (gf := 76) (lb := #[.pointer (some ⟨W0.heap.size, 0, none⟩), .pointer (some ⟨W0.heap.size + 1, 0, none⟩)]) rfl trivial (enters_of Try.func76 (by kernel_rfl) rfl)
    (chunk_stops Fence.wide 4 trivial hro (by decide) n0 A c l.length hAn hlc hcm (by omega) (fun k => k = W0.heap.size ∨ k = W0.heap.size + 1) W0.heap.size (W0.heap.size + 1) (.inl rfl) (.inr rfl) W2 bS bN) kpC_t (kpC_b (Nat.le_trans hn0 hB2.size)) (Below.refl _ _) (fun _ => rfl)
    (FlI l out n0 bo vo (.slice A l.length c) W0 W2.heap.size)
    (fun _ _ _ => False)
    (flI_own l out n0 bo vo _ W0 _ _ (by omega) hn0)
    (fun _ _ _ _ _ hs _ _ => hs)
    hI0
    (fun x a' W => a' = { tmps := #[.pointer (some ⟨bp, 0, none⟩), .pointer (some ⟨bo, 0, none⟩), .slice (A.map (·.add (64 * x.val))) (min 64 (l.length - 64 * x.val)) (min 64 (l.length - 64 * x.val)), .slice A l.length c, .func (.func 76) #[] #[.pointer (some ⟨W0.heap.size, 0, none⟩), .pointer (some ⟨W0.heap.size + 1, 0, none⟩)], .slice (A.map (·.add (64 * x.val))) (min 64 (l.length - 64 * x.val)) (min 64 (l.length - 64 * x.val)), undef, undef, undef, undef, undef, undef, undef, undef, undef, undef], defers := [] })
    (fun x a' => fun _ _ _ _ hs _ _ => hs)
    ?assign ?body ?done ?stop
  case assign =>
    rintro lp pre x W K hI hK
    simp only [cEnc] at hK ⊢
    gi_wp2
    exact hK _ _ (KeepsFrom.refl _ _) ⟨Below.refl _ _, fun _ _ _ h _ => h⟩ hI rfl
  case body =>
    rintro lp pre x a' W hlw ⟨r, hr⟩ ⟨v1, b1, i1, h3, h4, h5, h6, h10⟩ rfl hlt2
    have hx : 64 * x.val < l.length := by have := x.isLt; unfold chN at this; omega
    have i2 : IR W n0 (.slice A l.length c) l := hP.kept h5 (fun k hk e => by
      rcases e with rfl | e
      · exact hP.box (by decide) hbo hk.symm
      · exact hsep k hk e.symm)
    obtain ⟨i, hi⟩ : ∃ i, i = 64 * x.val := ⟨_, rfl⟩
    obtain ⟨m, hm⟩ : ∃ m, m = min 64 (l.length - i) := ⟨_, rfl⟩
    obtain ⟨A', hA'⟩ : ∃ A', A' = A.map (·.add i) := ⟨_, rfl⟩
    obtain ⟨pc, hpc⟩ : ∃ pc, pc = (l.drop i).take 64 := ⟨_, rfl⟩
    have hpl : pc.length = m := by rw [hpc, List.length_take, List.length_drop, hm]
    have hfl : flS l (pre ++ [x]) = flS l pre ++ (((m : Int) - 1) :: pc) := by rw [flS_snoc, pcOf, ← hi, ← hpc, hpl]
    have hlen := flS_len l pre
    have hCp : ∀ W', IR W' n0 (.slice A l.length c) l → Kd.C (Kd.int .i64) W' A' m pc := fun W' h => by
      have h1 := (Kd.R_reads' h).2.2
      have h2 := Kd.C_mid (c := c) (lo := i) (hi := i + m) h1 (by omega) (by omega) hlc
      rw [if_neg (by omega : ¬ c = i)] at h2
      have e1 : (l.take (i + m)).drop i = pc := by
        rw [hpc, List.drop_take, show i + m - i = m by omega]
        rcases Nat.lt_or_ge 64 (l.length - i) with h | h
        · rw [show m = 64 by omega]
        · rw [List.take_of_length_le (by rw [List.length_drop]; omega), List.take_of_length_le (by rw [List.length_drop]; omega)]
      rw [e1, hpl] at h2
      rw [hA']
      have e3 : (Kd.int .i64).sz = 1 := rfl
      rw [e3, Nat.mul_one] at h2
      exact h2
    simp only [← hi, ← hm, ← hA']
    have hm0 : 0 < m := by omega
    have hw1 : IntKind.i64.wrap ((m : Int) - 1) = (m : Int) - 1 := by rw [IntKind.wrap_i64]; omega
    have c1 := b1.cell
    have hbW : W0.heap.size ≤ W.heap.size := h4.size
    have HX := Aside0.mk (And.intro b1 (And.intro i1 (And.intro h3 (And.intro h4 (And.intro h5 (And.intro h6 (And.intro i2 (And.intro hCp (And.intro hfl (And.intro hlen (And.intro hpl (And.intro hx (And.intro hi (And.intro hm (And.intro hA' (And.intro hpc (And.intro hm0 h10)))))))))))))))))
    have HY := Aside0.mk (And.intro hbp (And.intro hbo (And.intro hP (And.intro hO (And.intro hne (And.intro hsep (And.intro hl (And.intro ho (And.intro h0p (And.intro h0o (And.intro hn0 (And.intro hB2 (And.intro hW2 (And.intro hlt2 hO.lt))))))))))))))
    have HB := Aside0.mk (And.intro hn0 (And.intro h4.size (And.intro ho (And.intro hlen h6))))
    have HI := Aside0.mk i1
    have H2 := Aside0.mk i2
    have HC := Aside0.mk hCp
    have hml : m ≤ 64 := by omega
    have hlt3 : (out ++ flS l pre).length ≤ 110000 := by rw [List.length_append]; omega
    have HL := Aside0.mk (And.intro hlt3 hml)
    have hsv : ∀ k, v1.ownBlock = some k → (Value.slice A l.length c).ownBlock ≠ some k := by
      intro k hk e
      have := hP.lt k e
      rcases h3 with h3 | ⟨k', h3, h7⟩
      · rw [h3] at hk
        exact hsep k e hk
      · rw [h3] at hk
        cases hk
        omega
    have HS := Aside0.mk hsv
    clear b1 i1 h3 h4 h5 h6 h10 i2 hCp hfl hlen hpl hx hi hm hA' hpc hm0 hbp hbo hP hO hne hsep hl ho h0p h0o hn0 hB2 hW2 hlt2 hr hrd hlc hAn hcm cP bS bN hP2 hO2 bP2 bO2 hI0 hbW hlw hml hlt3 hsv
    refine wpIn_block ?_
    refine wpInR_list (by kernel_rfl) (fun a' W' => ∃ v3 w1 w2 v2, W' = w2.setCell ⟨bo, 0, none⟩ v3 ∧ IR w1 n0 v2 ((out ++ flS l pre) ++ [(m : Int) - 1]) ∧ W.grownBy w1 v1.ownBlock ∧ (v2.ownBlock = v1.ownBlock ∨ ∃ b, v2.ownBlock = some b ∧ W.heap.size ≤ b) ∧ IR w2 n0 v3 (((out ++ flS l pre) ++ [(m : Int) - 1]) ++ pc) ∧ w1.grownBy w2 v2.ownBlock ∧ (v3.ownBlock = v2.ownBlock ∨ ∃ b, v3.ownBlock = some b ∧ w1.heap.size ≤ b)) ?_ ?_
    · go_wp2_with (first
        | ((with_reducible refine gate_builtin (b := .append) (xs := #[.tmp 6, .tmp 10]) rfl ?_); at_builtin; refine Kd.R_append (Kd.int .i64) (w0 := W) n0 rfl (.tmp 6) (.tmp 10) 26 3 (.int .i64 0) 8 rfl Try.underlying26 info3 rfl (by decide) (by omega) v1 (out ++ flS l pre) ((m : Int) - 1) [.int .i64 ((m : Int) - 1)] (fun _ => True) (fun _ => False) rfl rfl rfl (fun _ h => h.elim) (fun _ _ => trivial) HI.out (Below.refl _ _) (Nat.le_trans HB.out.1 HB.out.2.1) (by have := HL.out.1; omega) ?_; intro v2 w1 ho2 hb2 hg2 hat2; have HO2 := Aside0.mk (And.intro ho2 (And.intro hb2 (And.intro hg2 hat2))); have u2 := tsv Try.prog v2 ho2; have B1 := Aside0.mk (HX.out.1.kept hg2 (HI.out.box (by decide) HX.out.1)); clear ho2 hb2 hg2 hat2)
        | ((with_reducible refine gate_builtin (b := .append) (xs := #[.tmp 11, .tmp 12]) rfl ?_); at_builtin; refine Kd.R_append_rows (Kd.int .i64) (w0 := W) n0 rfl (.tmp 11) (.tmp 12) 26 3 (.int .i64 0) 8 rfl Try.underlying26 info3 rfl (by decide) (by omega) v2 ((out ++ flS l pre) ++ [(m : Int) - 1]) pc A' m m (fun _ => True) (fun _ => False) rfl rfl HO2.out.1 (HC.out _ (H2.out.grown HO2.out.2.2.1 (fun k hk e => HS.out k hk e.symm))) (fun _ _ h => h) (fun _ h => h.elim) (fun _ _ => trivial) HO2.out.2.1 (Nat.le_trans (Nat.le_trans HB.out.1 HB.out.2.1) HO2.out.2.2.1.size) (by have := HL.out; simp only [List.length_append, List.length_singleton] at this ⊢; omega) ?_; intro v3 w2 ho3 hb3 hg3 hat3; obtain ⟨A3, c3', e3⟩ := Kd.R_slice ho3; obtain ⟨n3, hn3⟩ : ∃ n3, n3 = (((out ++ flS l pre) ++ [(m : Int) - 1]) ++ pc).length := ⟨_, rfl⟩; rw [← hn3] at e3; subst e3; clear hn3; have HO3 := Aside0.mk (And.intro ho3 (And.intro hb3 (And.intro hg3 hat3))); have B2 := B1.out.kept hg3 (IR.box (HO2.out.1) (by decide) B1.out); have c3 := B2.cell; have f3 := B2.frozen; clear B2 ho3 hb3 hg3 hat3))
      have q1 : IR w1 n0 v2 ((out ++ flS l pre) ++ [(m : Int) - 1]) := HO2.out.1
      have q2 : IR w2 n0 (.slice A3 n3 c3') (((out ++ flS l pre) ++ [(m : Int) - 1]) ++ pc) := HO3.out.1
      simp only [List.append_assoc, List.singleton_append, List.cons_append, List.nil_append] at q1 q2
      exact ⟨_, w1, w2, rfl, v2, q1, HO2.out.2.2.1, HO2.out.2.2.2, q2, HO3.out.2.2.1, HO3.out.2.2.2⟩
    · rintro a' W' ⟨v3, w1, w2, v2, rfl, hi1, hg1, ha1, hi3, hg3, ha3⟩
      obtain ⟨b1, i1, h3, h4, h5, h6, i2, hCp, hfl, hlen, hpl, hx, hi, hm, hA', hpc, hm0, h10⟩ := HX.out
      obtain ⟨hbp, hbo, hP, hO, hne, hsep, hl, ho, h0p, h0o, hn0, hB2, hW2, hlt2, hOl⟩ := HY.out
      have hz := h4.size
      have nb1 := i1.box (by decide) b1
      have bb1 : Boxed w1 bo 26 v1 := b1.kept hg1 nb1
      have nb2 := hi1.box (by decide) bb1
      have bb2 : Boxed w2 bo 26 v1 := bb1.kept hg3 nb2
      have hboW := hbo.lt
      have hv1 : ∀ k, some k = v1.ownBlock → some k = vo.ownBlock ∨ W2.heap.size ≤ k := fun k e => by
        rcases h3 with h3 | ⟨k', h3, h7⟩
        · exact .inl (e.trans h3)
        · rw [h3] at e
          cases e
          exact .inr h7
      have hv2 : ∀ k, some k = v2.ownBlock → some k = vo.ownBlock ∨ W2.heap.size ≤ k := fun k e => by
        rcases ha1 with h | ⟨k', h, h7⟩
        · exact hv1 k (e.trans h)
        · rw [h] at e
          cases e
          exact .inr (Nat.le_trans h10 h7)
      have hv3 : v3.ownBlock = vo.ownBlock ∨ ∃ k, v3.ownBlock = some k ∧ W2.heap.size ≤ k := by
        rcases ha3 with h | ⟨k', h, h7⟩
        · rcases h8 : v2.ownBlock with _ | k
          · rcases ha1 with h9 | ⟨k', h9, _⟩
            · rcases h3 with h3 | ⟨k'', h3, _⟩
              · exact .inl (h.trans (h9.trans h3))
              · rw [h9, h3] at h8
                cases h8
            · rw [h9] at h8
              cases h8
          · rcases hv2 k h8.symm with h9 | h9
            · exact .inl (h.trans (h8.trans h9))
            · exact .inr ⟨k, h.trans h8, h9⟩
        · exact .inr ⟨k', h, Nat.le_trans h10 (Nat.le_trans hg1.size h7)⟩
      have hn1 : ∀ k, v1.ownBlock = some k → n0 ≤ k := Kd.R_base i1
      have hn2 : ∀ k, v2.ownBlock = some k → n0 ≤ k := Kd.R_base hi1
      have hBw : Below n0 W w2 := ((Below.refl n0 W).grown hg1 (Nat.le_trans hn0 hz) hn1).grown hg3 (Nat.le_trans (Nat.le_trans hn0 hz) hg1.size) hn2
      have hB3 : Below n0 W (w2.setCell ⟨bo, 0, none⟩ v3) := hBw.setCell (p := ⟨bo, 0, none⟩) h0o _
      have hKp : ∀ k o, W.heap[k]? = some o → k ≠ bo → some k ≠ v1.ownBlock → some k ≠ v2.ownBlock → (w2.setCell ⟨bo, 0, none⟩ v3).heap[k]? = some o := fun k o hk e1 e2 e3 => by
        have hkl := (Array.getElem?_eq_some_iff.1 hk).1
        rw [Below.heap_setCell w2 ⟨bo, 0, none⟩ v3 k e1, hg3.block k (Nat.lt_of_lt_of_le hkl hg1.size) e3, hg1.block k hkl e2]
        exact hk
      have hty : ∀ k, (v1.ownBlock = some k → ∃ cs, W.heap[k]? = some (.cells cs 3 (0, 0))) ∧ (v2.ownBlock = some k → k < W.heap.size → ∃ cs, W.heap[k]? = some (.cells cs 3 (0, 0))) := fun k => by
        refine ⟨Kd.R_typed i1 k, fun e hk => ?_⟩
        rcases ha1 with h | ⟨k', h, h7⟩
        · exact Kd.R_typed i1 k (h.symm.trans e)
        · rw [h] at e
          cases e
          omega
      have hW2W : W2.heap.size ≤ W.heap.size ∨ True := .inr trivial
      refine ⟨⟨hB3.size, fun k o hk ho' hc => ?_⟩, ⟨hB3, fun k o hk ho' hc => ?_⟩, v3, ?_, ?_, hv3, h4.trans hB3, ?_, ?_⟩
      · refine hKp k o ho' (by omega) (fun e => ?_) (fun e => ?_)
        · obtain ⟨cs, h⟩ := (hty k).1 e.symm
          rw [ho'] at h
          cases h
          cases hc
        · obtain ⟨cs, h⟩ := (hty k).2 e.symm (Array.getElem?_eq_some_iff.1 ho').1
          rw [ho'] at h
          cases h
          cases hc
      · refine hKp k o ho' (by omega) (fun e => ?_) (fun e => ?_)
        · rcases hv1 k e with h | h
          · have := hOl k h.symm
            omega
          · omega
        · rcases hv2 k e with h | h
          · have := hOl k h.symm
            omega
          · omega
      · exact Boxed.set _ bb2
      · rw [hfl, ← List.append_assoc]
        have : IR w2 n0 v3 (out ++ flS l pre ++ (((m : Int) - 1) :: pc)) := by simpa [List.append_assoc] using hi3
        exact this.setBox (by decide) bb2 v3
      · refine ((h5.of_grown hg1 (fun k e => ?_)).of_grown hg3 (fun k e => ?_)).setCell (.inl (.inl rfl)) _
        · rcases hv1 k e.symm with h | h
          · exact .inl (.inr h)
          · exact .inr (by omega)
        · rcases hv2 k e.symm with h | h
          · exact .inl (.inr h)
          · exact .inr (by omega)
      · refine ⟨?_, Nat.le_trans h10 hB3.size⟩
        rw [List.length_append]
        have : chN l.length ≤ 20 := by unfold chN; omega
        simp
        omega
  case done =>
    rintro D ys W hD hys ⟨v1, b1, i1, h3, h4, h5, h6, h10⟩ hK
    have bP : Boxed W bp 26 (.slice A l.length c) := (h5.2 bp hbp.lt (fun e => by
      rcases e with e | e
      · exact hne e
      · exact hO.box (by decide) hbp e)).trans hbp
    have iP : IR W n0 (.slice A l.length c) l := hP.kept h5 (fun k hk e => by
      rcases e with rfl | e
      · exact hP.box (by decide) hbo hk.symm
      · exact hsep k hk e.symm)
    have cP := bP.cell
    have fP := bP.frozen
    have hys2 : out ++ flS l ys = out ++ Pu.plainV l := by
      unfold flS
      rw [hys, plainV_eq]
    rw [hys2] at i1
    have HX := Aside0.mk (And.intro b1 (And.intro i1 (And.intro h3 (And.intro h4 (And.intro h5 (And.intro h10 (And.intro bP (And.intro iP (And.intro hK (And.intro hD (And.intro hB2 (And.intro hn0 (And.intro hne (And.intro h0p (And.intro hbo (And.intro hbp hO))))))))))))))))
    clear b1 i1 h3 h4 h5 h6 h10 bP iP hK hD hB2 hn0 hne h0p hys hys2 hbp hbo hP hO hsep hl ho h0o hW2 hrd hlc hAn bS bN hP2 hO2 bP2 bO2 hI0
    gi_wp2
    obtain ⟨b1, i1, h3, h4, h5, h10, bP, iP, hK, hD, hB2, hn0, hne, h0p, hbo, hbp, hO⟩ := HX.out
    have hz := hB2.size
    have hbpl := hbp.lt
    have hbol := hbo.lt
    have hK' : (W.setCell ⟨bp, 0, none⟩ (.slice A 0 c)).heap[D]? = some (.deferred (some [])) := (Below.heap_setCell W ⟨bp, 0, none⟩ _ D (show D ≠ bp by omega)).trans hK
    refine ⟨by simp, .inl ⟨_, _, rfl, run_takeDeferred hK', ?_⟩⟩
    have hmv : ∀ k, k ≠ D → ((W.setCell ⟨bp, 0, none⟩ (.slice A 0 c)).putObj D (.deferred none)).heap[k]? = (W.setCell ⟨bp, 0, none⟩ (.slice A 0 c)).heap[k]? := fun k hk => World.putObj_heap_other hk
    have i1' := i1.setBox (by decide) bP (.slice A 0 c)
    have iP' : IR (W.setCell ⟨bp, 0, none⟩ (.slice A 0 c)) n0 (.slice A 0 c) [] := by
      have := Kd.R_take (m := 0) (iP.setBox (by decide) bP (.slice A 0 c)) (Nat.zero_le _)
      rw [List.take_zero] at this
      exact this
    have hnD : ∀ v l', IR (W.setCell ⟨bp, 0, none⟩ (.slice A 0 c)) n0 v l' → ∀ k, v.ownBlock = some k → k ≠ D := fun v l' h k hk e => by
      obtain ⟨cs, hc⟩ := Kd.R_typed h k hk
      rw [e, hK'] at hc
      cases hc
    refine ⟨_, results_none rfl _ _ _, ⟨_, rfl⟩, v1, .slice A 0 c, (hmv bo (by omega)).trans (b1.other (fun e => hne e.symm) _), i1'.moved (fun k hk => hmv k (hnD _ _ i1' k hk)), ?_, (hmv bp (by omega)).trans (Boxed.set _ bP), iP'.moved (fun k hk => hmv k (hnD _ _ iP' k hk)), ?_, ?_, ?_⟩
    · rcases h3 with h3 | ⟨k, h3, h7⟩
      · exact .inl h3
      · exact .inr ⟨k, h3, by omega⟩
    · intro k hk
      cases A with
      | none => cases hk
      | some a => exact hk
    · exact (h4.setCell (p := ⟨bp, 0, none⟩) h0p _).trans (belowK_b (w := W2) (by omega) _ D _ _ hD hK' rfl rfl)
    · refine ⟨?_, fun k hk hS => ?_⟩
      · have := h4.size
        have h8 := (h4.setCell (p := ⟨bp, 0, none⟩) h0p (.slice A 0 c)).size
        have h9 : ((W.setCell ⟨bp, 0, none⟩ (.slice A 0 c)).putObj D (.deferred none)).heap.size = (W.setCell ⟨bp, 0, none⟩ (.slice A 0 c)).heap.size := by simp [World.putObj]
        omega
      · rw [hmv k (by omega), Below.heap_setCell W ⟨bp, 0, none⟩ _ k (fun e => hS (.inl e))]
        exact h5.2 k hk (fun e => hS (.inr e))
  case stop =>
    rintro D c pre W _ _ h _
    exact h.elim
end Go.Proofs.Ythoioccmnphfgaa.G

