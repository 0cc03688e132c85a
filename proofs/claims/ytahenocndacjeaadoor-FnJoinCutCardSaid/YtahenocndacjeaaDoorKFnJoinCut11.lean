/- A text of seat YtahenocndacjeaaDoor: what the law FnJoinCut needs of this repo's texts (by pack.py). Not trusted: Lean checks it. -/
import Derived.Test.YtahenocndacjeaaDoorKFnJoinCut10
namespace Go.Proofs.YtahenocndacjeaaDoor.G
open Go.RowKit Go.Proofs.YtahenocndacjeaaDoorW.PrintWords Go.Proofs.YtahenocndacjeaaDoorW.PrintLast Go.Proofs.YtahenocndacjeaaDoorW.PrintMore
attribute [local go_sem] max2_int min2_int max_two min_two max_three min_three max_four min_four   -- for this text's walks alone
set_option linter.unusedVariables false
set_option linter.unusedSimpArgs false

set_option maxHeartbeats 8000000 in
set_option maxRecDepth 100000 in
theorem spec_DrawBatchJoin.calls (k : Nat) (A0 : Option Addr) (c0 : Nat) (l0 : List Int) (r1 : Bool) (r2 : Bool) (r3 : Int) (r4 : Int) (r5 : Int) (r6 : List (S41)) (r7 : Bool) (r8 : Bool) (r9 : Int) (r10 : Int) (r11 : Int) (r12 : List (S41)) (w : World) (hr0 : Kd.C (Kd.int .u8) w A0 l0.length l0) (hc0 : l0.length ≤ c0) (h : spec_DrawBatchJoin.f k l0 = some (r1, r2, r3, r4, r5, r6, r7, r8, r9, r10, r11, r12)) :
  Calls Tryd.prog 15 #[.slice A0 l0.length c0] w fun e w' => ∃ v5_ v11_ : Value, e = .returned (.tuple #[.agg #[.bool r1, .bool r2, .int .i64 r3, .int .i64 r4, .int .i64 r5, v5_], .agg #[.bool r7, .bool r8, .int .i64 r9, .int .i64 r10, .int .i64 r11, v11_]]) ∧ Kd.N k41 41 w' w.heap.size (fun k_ => (w.heap.size ≤ k_) ∧ some k_ ≠ (v11_ : Value).ownBlock) v5_ r6 ∧ Kd.N k41 41 w' w.heap.size (fun k_ => (w.heap.size ≤ k_) ∧ some k_ ≠ (v5_ : Value).ownBlock) v11_ r12 ∧ Below w.heap.size w w' := by
 have hu25 := Tryd.underlying25
 have HR0 := Aside0.mk hr0
 have HC0 := Aside0.mk hc0
 clear hr0 hc0
 have HB := Aside0.mk (Below.refl w.heap.size w)
 have H : ((spec_l6Open.f l0).bind fun bt591 => ((spec_l6Rd_pick.f k bt591.1 bt591.2 20).bind fun bt594 => ((spec_l91Batch.f k bt591.1 bt594.2 bt594.1).bind fun bt596 => (if 0 ≤ (wrap64 ((bt596.2.2.2.2.2.1.length : Int) - 1)) then (if (wrap64 ((bt596.2.2.2.2.2.1.length : Int) - 1)) < (bt596.2.2.2.2.2.1.length : Int) then ((spec_l6Rd_pick.f k bt591.1 bt596.2.2.2.2.2.2 3).bind fun bt607 => ((spec_l6Rd_pick.f k bt591.1 bt607.2 12).bind fun bt609 => ((spec_l91Batch.f k bt591.1 bt609.2 (wrap64 ((wrap64 ((wrap64 (((rd_T41 bt596.2.2.2.2.2.1 (wrap64 ((bt596.2.2.2.2.2.1.length : Int) - 1))).f0) + 1)) + bt607.1)) - (wrap64 ((wrap64 (Int.tdiv bt609.1 11)) * 3))))).bind fun bt611 => ((spec_l6Rd_pick.f k bt591.1 bt611.2.2.2.2.2.2 3).bind fun bt621 => (if bt621.1 > 0 then (some (bt611.1, false, 255, 0, 0, bt596.2.2.2.2.2.1, bt611.1, false, 255, 0, 0, bt611.2.2.2.2.2.1)) else (some (bt596.1, bt596.2.1, bt596.2.2.1, bt596.2.2.2.1, bt596.2.2.2.2.1, bt596.2.2.2.2.2.1, bt611.1, bt611.2.1, bt611.2.2.1, bt611.2.2.2.1, bt611.2.2.2.2.1, bt611.2.2.2.2.2.1))))))) else (none)) else (none))))) = some (r1, r2, r3, r4, r5, r6, r7, r8, r9, r10, r11, r12) := h
 clear h
 replace H := tbe H
 obtain ⟨⟨t591, t592⟩, A2, H⟩ := H
 dsimp only at H
 replace H := tbe H
 obtain ⟨⟨t594, t595⟩, A3, H⟩ := H
 dsimp only at H
 replace H := tbe H
 obtain ⟨⟨t596, t597, t598, t599, t600, t601, t604⟩, A4, H⟩ := H
 dsimp only at H
 obtain ⟨ji5, hji5⟩ : ∃ j_ : Int, (wrap64 ((t601.length : Int) - 1)) = j_ := ⟨_, rfl⟩
 replace H : (if 0 ≤ (ji5) then (if (ji5) < (t601.length : Int) then ((spec_l6Rd_pick.f k t591 t604 3).bind fun bt607 => ((spec_l6Rd_pick.f k t591 bt607.2 12).bind fun bt609 => ((spec_l91Batch.f k t591 bt609.2 (wrap64 ((wrap64 ((wrap64 (((rd_T41 t601 (ji5)).f0) + 1)) + bt607.1)) - (wrap64 ((wrap64 (Int.tdiv bt609.1 11)) * 3))))).bind fun bt611 => ((spec_l6Rd_pick.f k t591 bt611.2.2.2.2.2.2 3).bind fun bt621 => (if bt621.1 > 0 then (some (bt611.1, false, 255, 0, 0, t601, bt611.1, false, 255, 0, 0, bt611.2.2.2.2.2.1)) else (some (t596, t597, t598, t599, t600, t601, bt611.1, bt611.2.1, bt611.2.2.1, bt611.2.2.2.1, bt611.2.2.2.2.1, bt611.2.2.2.2.2.1))))))) else (none)) else (none)) = some (r1, r2, r3, r4, r5, r6, r7, r8, r9, r10, r11, r12) := by first | (rw [hji5] at H; exact H) | (simp only [hji5] at H ⊢; exact H)
 (try rw [hji5] at A2)
 (try rw [hji5] at A3)
 (try rw [hji5] at A4)
 have hji5w : (IntKind.i64.wrap ((t601.length : Int) - 1)) = ji5 := (i64_w _).trans hji5
 by_cases c6 : 0 ≤ (ji5)
 ·rw [if_pos c6] at H
  have c6b0 : decide (0 ≤ (ji5)) = true := decide_eq_true c6
  clear c6
  by_cases c7 : (ji5) < (t601.length : Int)
  ·rw [if_pos c7] at H
   have c7b0 : decide ((ji5) < (t601.length : Int)) = true := decide_eq_true c7
   clear c7
   replace H := tbe H
   obtain ⟨⟨t607, t608⟩, A8, H⟩ := H
   dsimp only at H
   replace H := tbe H
   obtain ⟨⟨t609, t610⟩, A9, H⟩ := H
   dsimp only at H
   replace H := tbe H
   obtain ⟨⟨t611, t612, t613, t614, t615, t616, t619⟩, A10, H⟩ := H
   dsimp only at H
   replace H := tbe H
   obtain ⟨⟨t621, t622⟩, A11, H⟩ := H
   dsimp only at H
   by_cases c12 : t621 > 0
   ·rw [if_pos c12] at H
    have c12b0 : decide (0 < t621) = true := decide_eq_true c12
    clear c12
    simp only [Option.some.injEq, Prod.mk.injEq] at H
    obtain ⟨rfl, rfl, rfl, rfl, rfl, rfl, rfl, rfl, rfl, rfl, rfl, rfl⟩ := H
    go_enter Tryd.func15, Tryd.ntmps15
    try go_wp2_with (first | ((with_reducible refine gate_dst (N := 2) rfl ?_); refine box_event ?hg (N := 2) ?hd (cs := #[.bool false, .bool false, .int .i64 0, .int .i64 0, .int .i64 0, .slice none 0 0]) (t := 25) ?hr ?_; (case hd => rfl); (case hg => rfl); (case hr => first | (go_simp; done) | (go_simp; rfl)); intro gb589 hg w13 hbox hb; have BK589 := Aside0.mk (hbox); have GW589 := tge HB hg; have GE589 := tge HB hg; replace HB := tBs HB hb; clear hb hbox hg) | ((with_reducible refine gate_dst (N := 3) rfl ?_); refine box_event ?hg (N := 3) ?hd (cs := #[.bool false, .bool false, .int .i64 0, .int .i64 0, .int .i64 0, .slice none 0 0]) (t := 25) ?hr ?_; (case hd => rfl); (case hg => rfl); (case hr => first | (go_simp; done) | (go_simp; rfl)); intro gb590 hg w14 hbox hb; have BK590 := Aside0.mk (hbox); have GW590 := tge HB hg; have GE590 := tge HB hg; replace HB := tBs HB hb; have NB589_590 := tlt BK589 hg; have NB590_589 := tgt BK589 hg; replace BK589 := tBb BK589 hb; clear hb hbox hg) | ((with_reducible refine gate_callee (f := 22) rfl ?_); refine goesL_ (some 8) rfl rfl Tryd.func22 (by kernel_rfl) rfl #[.slice A0 l0.length c0] rfl tq ?_; (with_reducible refine (spec_l6Open.calls _ _ l0 t591 t592 w _ ?side1 ?side2 ?side3 A2.out).mono ?_); (case side1 => exact zb); (case side2 => exact HR0.out); (case side3 => exact HC0.out); rintro e w15 ⟨g593, rfl, hi, hb, hb2⟩; refine ⟨_, rfl, ?_⟩; replace HB := Aside0.mk (hb); have HI593 := Aside0.mk (hi); have NB593_589 := Aside0.mk (IsS72.ne_blk hi (blk_below (g := gb589) (o := .cells #[.bool false, .bool false, .int .i64 0, .int .i64 0, .int .i64 0, .slice none 0 0] 25 (0, 0)) (tH BK589.out) hb2) (by decide)); have NB589_593 := Aside0.mk (Ne.symm (IsS72.ne_blk hi (blk_below (g := gb589) (o := .cells #[.bool false, .bool false, .int .i64 0, .int .i64 0, .int .i64 0, .slice none 0 0] 25 (0, 0)) (tH BK589.out) hb2) (by decide))); replace BK589 := Aside0.mk (blk_below (g := gb589) (o := .cells #[.bool false, .bool false, .int .i64 0, .int .i64 0, .int .i64 0, .slice none 0 0] 25 (0, 0)) (tH BK589.out) hb2); have NB593_590 := Aside0.mk (IsS72.ne_blk hi (blk_below (g := gb590) (o := .cells #[.bool false, .bool false, .int .i64 0, .int .i64 0, .int .i64 0, .slice none 0 0] 25 (0, 0)) (tH BK590.out) hb2) (by decide)); have NB590_593 := Aside0.mk (Ne.symm (IsS72.ne_blk hi (blk_below (g := gb590) (o := .cells #[.bool false, .bool false, .int .i64 0, .int .i64 0, .int .i64 0, .slice none 0 0] 25 (0, 0)) (tH BK590.out) hb2) (by decide))); replace BK590 := Aside0.mk (blk_below (g := gb590) (o := .cells #[.bool false, .bool false, .int .i64 0, .int .i64 0, .int .i64 0, .slice none 0 0] 25 (0, 0)) (tH BK590.out) hb2); (try clear hb); (try clear hb2); (try clear hk); (try clear hi)) | ((with_reducible refine gate_callee (f := 24) rfl ?_); refine goesL_ (some 11) rfl rfl Tryd.func24 (by kernel_rfl) rfl #[.pointer (some ⟨g593, 0, none⟩), .int .i64 20] rfl tq ?_; (with_reducible refine (spec_l6Rd_pick.calls k g593 t591 t592 20 t594 t595 w _ ?side1 ?side2 A3.out).mono ?_); (case side1 => repeat (first | (with_reducible first | exact HI593.out | apply IsS72.alloc | apply IsS72.drewN | apply IsS72.drew | apply IsS72.set_1 | refine IsS72.far ?_ NB593_589.out _ | refine IsS72.far ?_ NB593_590.out _) | exact HI593.out)); (case side2 => repeat (first | (with_reducible first | exact HB.out | apply below_alloc | apply pw_below_drewN | apply below_drew1 | refine below_set ?_ (IsS72.ge HI593.out) | refine below_set ?_ GE589.out | refine below_set ?_ GE590.out) | exact HB.out)); rintro e w16 ⟨rfl, hi, hb, hk⟩; refine ⟨_, rfl, ?_⟩; replace BK589 := tBk BK589 hk NB589_593; replace BK590 := tBk BK590 hk NB590_593; replace HB := Aside0.mk (hb); replace HI593 := Aside0.mk (hi); (try clear hb); (try clear hb2); (try clear hk); (try clear hi)) | ((with_reducible refine gate_callee (f := 23) rfl ?_); refine goesL_ (some 12) rfl rfl Tryd.func23 (by kernel_rfl) rfl #[.pointer (some ⟨g593, 0, none⟩), .int .i64 t594] rfl tq ?_; (with_reducible refine (spec_l91Batch.calls k g593 t591 t595 t594 t596 t597 t598 t599 t600 t601 t604 w _ ?side1 ?side2 A4.out).mono ?_); (case side1 => repeat (first | (with_reducible first | exact HI593.out | apply IsS72.alloc | apply IsS72.drewN | apply IsS72.drew | apply IsS72.set_1 | refine IsS72.far ?_ NB593_589.out _ | refine IsS72.far ?_ NB593_590.out _) | exact HI593.out)); (case side2 => repeat (first | (with_reducible first | exact HB.out | apply below_alloc | apply pw_below_drewN | apply below_drew1 | refine below_set ?_ (IsS72.ge HI593.out) | refine below_set ?_ GE589.out | refine below_set ?_ GE590.out) | exact HB.out)); rintro e w17 ⟨v602, rfl, ho0, hi, hb, hk⟩; have u_v602 := tsv Tryd.prog v602 ho0; refine ⟨_, rfl, ?_⟩; have HO603 := Aside0.mk (Kd.N_lower (Kd.N_mono (ok' := fun k_ => (w.heap.size ≤ k_) ∧ k_ ≠ gb589 ∧ k_ ≠ gb590 ∧ k_ ≠ g593) ho0 (fun k_ hk_ => ⟨(Nat.le_trans (below_size (by repeat (first | (with_reducible first | exact HB.out | apply below_alloc | apply pw_below_drewN | apply below_drew1 | refine below_set ?_ (IsS72.ge HI593.out) | refine below_set ?_ GE589.out | refine below_set ?_ GE590.out) | exact HB.out))) hk_), (tfB BK589 k_ hk_), (tfB BK590 k_ hk_), (IsS72.fresh (by repeat (first | (with_reducible first | exact HI593.out | apply IsS72.alloc | apply IsS72.drewN | apply IsS72.drew | apply IsS72.set_1 | refine IsS72.far ?_ NB593_589.out _ | refine IsS72.far ?_ NB593_590.out _) | exact HI593.out)) k_ hk_)⟩)) (below_size (by repeat (first | (with_reducible first | exact HB.out | apply below_alloc | apply pw_below_drewN | apply below_drew1 | refine below_set ?_ (IsS72.ge HI593.out) | refine below_set ?_ GE589.out | refine below_set ?_ GE590.out) | exact HB.out)))); replace BK589 := tBk BK589 hk NB589_593; replace BK590 := tBk BK590 hk NB590_593; replace HB := Aside0.mk (hb); replace HI593 := Aside0.mk (hi); (try clear hb); (try clear hb2); (try clear hk); (try clear hi); (try clear ho0)) | ((with_reducible refine gate_dst (N := 5) rfl ?_); refine box_event ?hg (N := 5) ?hd (cs := #[.bool false, .bool false, .int .i64 0, .int .i64 0, .int .i64 0, .slice none 0 0]) (t := 25) ?hr ?_; (case hd => rfl); (case hg => rfl); (case hr => first | (go_simp; done) | (go_simp; rfl)); intro gb605 hg w18 hbox hb; replace HO603 := tNB HO603 hg hb; have BK605 := Aside0.mk (hbox); have GW605 := Aside0.mk ((by rw [hg]; exact (below_size (by repeat (first | (with_reducible first | exact HB.out | apply below_alloc | apply pw_below_drewN | apply below_drew1 | refine below_set ?_ (IsS72.ge HI593.out) | refine below_set ?_ GE589.out | refine below_set ?_ GE590.out) | exact HB.out))) : w.heap.size ≤ gb605)); have GE605 := Aside0.mk ((by rw [hg]; exact (below_size (by repeat (first | (with_reducible first | exact HB.out | apply below_alloc | apply pw_below_drewN | apply below_drew1 | refine below_set ?_ (IsS72.ge HI593.out) | refine below_set ?_ GE589.out | refine below_set ?_ GE590.out) | exact HB.out))) : w.heap.size ≤ gb605)); replace HB := Aside0.mk (below_step (by repeat (first | (with_reducible first | exact HB.out | apply below_alloc | apply pw_below_drewN | apply below_drew1 | refine below_set ?_ (IsS72.ge HI593.out) | refine below_set ?_ GE589.out | refine below_set ?_ GE590.out) | exact HB.out)) hb); have NB589_605 := tlt BK589 hg; have NB605_589 := tgt BK589 hg; replace BK589 := tBb BK589 hb; have NB590_605 := tlt BK590 hg; have NB605_590 := tgt BK590 hg; replace BK590 := tBb BK590 hb; have NB593_605 := Aside0.mk ((by rw [hg]; exact Nat.ne_of_lt (IsS72.lt (show IsS72 w _ g593 t591 t604 from by repeat (first | (with_reducible first | exact HI593.out | apply IsS72.alloc | apply IsS72.drewN | apply IsS72.drew | apply IsS72.set_1 | refine IsS72.far ?_ NB593_589.out _ | refine IsS72.far ?_ NB593_590.out _) | exact HI593.out))) : g593 ≠ gb605)); have NB605_593 := Aside0.mk ((by rw [hg]; exact Nat.ne_of_gt (IsS72.lt (show IsS72 w _ g593 t591 t604 from by repeat (first | (with_reducible first | exact HI593.out | apply IsS72.alloc | apply IsS72.drewN | apply IsS72.drew | apply IsS72.set_1 | refine IsS72.far ?_ NB593_589.out _ | refine IsS72.far ?_ NB593_590.out _) | exact HI593.out))) : gb605 ≠ g593)); replace HI593 := Aside0.mk (IsS72.below (by repeat (first | (with_reducible first | exact HI593.out | apply IsS72.alloc | apply IsS72.drewN | apply IsS72.drew | apply IsS72.set_1 | refine IsS72.far ?_ NB593_589.out _ | refine IsS72.far ?_ NB593_590.out _) | exact HI593.out)) hb); clear hb hbox hg; have hnb19 := NB605_589.out; have hnc19 := NB589_605.out; have hnb20 := NB605_590.out; have hnc20 := NB590_605.out; have hnb21 := NB605_593.out; have hnc21 := NB593_605.out; obtain ⟨hcz22_0, hcz22_1, hcz22_2, hcz22_3, hcz22_4, hcz22_5, hfz22_0, hfz22_1, hfz22_2, hfz22_3, hfz22_4, hfz22_5⟩ := cells6 BK605.out; obtain ⟨Ao23, co23, eo23⟩ := Kd.N_slice HO603.out; subst eo23))
    have n0_ : Aside0 (Kd.N k41 41 ((((((w18.setCell ⟨gb605, 0, none⟩ (.bool t596)).setCell ⟨gb605, 1, none⟩ (.bool t597)).setCell ⟨gb605, 2, none⟩ (.int .i64 t598)).setCell ⟨gb605, 3, none⟩ (.int .i64 t599)).setCell ⟨gb605, 4, none⟩ (.int .i64 t600)).setCell ⟨gb605, 5, none⟩ (.slice Ao23 t601.length co23)) w.heap.size (fun k_ => (w.heap.size ≤ k_) ∧ k_ ≠ gb589 ∧ k_ ≠ gb590 ∧ k_ ≠ g593 ∧ k_ ≠ gb605) (.slice Ao23 t601.length co23) t601) := ⟨tNm HO603.out⟩
    have n1_ : Aside0 (((((((w18.setCell ⟨gb605, 0, none⟩ (.bool t596)).setCell ⟨gb605, 1, none⟩ (.bool t597)).setCell ⟨gb605, 2, none⟩ (.int .i64 t598)).setCell ⟨gb605, 3, none⟩ (.int .i64 t599)).setCell ⟨gb605, 4, none⟩ (.int .i64 t600)).setCell ⟨gb605, 5, none⟩ (.slice Ao23 t601.length co23)).heap[gb589]? = some (.cells #[.bool false, .bool false, .int .i64 0, .int .i64 0, .int .i64 0, .slice none 0 0] 25 (0, 0))) := ⟨tH BK589.out⟩
    have n2_ : Aside0 (((((((w18.setCell ⟨gb605, 0, none⟩ (.bool t596)).setCell ⟨gb605, 1, none⟩ (.bool t597)).setCell ⟨gb605, 2, none⟩ (.int .i64 t598)).setCell ⟨gb605, 3, none⟩ (.int .i64 t599)).setCell ⟨gb605, 4, none⟩ (.int .i64 t600)).setCell ⟨gb605, 5, none⟩ (.slice Ao23 t601.length co23)).heap[gb590]? = some (.cells #[.bool false, .bool false, .int .i64 0, .int .i64 0, .int .i64 0, .slice none 0 0] 25 (0, 0))) := ⟨tH BK590.out⟩
    have n3_ : Aside0 (((((((w18.setCell ⟨gb605, 0, none⟩ (.bool t596)).setCell ⟨gb605, 1, none⟩ (.bool t597)).setCell ⟨gb605, 2, none⟩ (.int .i64 t598)).setCell ⟨gb605, 3, none⟩ (.int .i64 t599)).setCell ⟨gb605, 4, none⟩ (.int .i64 t600)).setCell ⟨gb605, 5, none⟩ (.slice Ao23 t601.length co23)).heap[gb605]? = some (.cells #[.bool t596, .bool t597, .int .i64 t598, .int .i64 t599, .int .i64 t600, .slice Ao23 t601.length co23] 25 (0, 0))) := ⟨tP BK605.out⟩
    have n4_ : Aside0 (IsS72 w ((((((w18.setCell ⟨gb605, 0, none⟩ (.bool t596)).setCell ⟨gb605, 1, none⟩ (.bool t597)).setCell ⟨gb605, 2, none⟩ (.int .i64 t598)).setCell ⟨gb605, 3, none⟩ (.int .i64 t599)).setCell ⟨gb605, 4, none⟩ (.int .i64 t600)).setCell ⟨gb605, 5, none⟩ (.slice Ao23 t601.length co23)) g593 t591 t604) := ⟨by repeat (first | (with_reducible first | exact HI593.out | apply IsS72.alloc | apply IsS72.drewN | apply IsS72.drew | apply IsS72.set_1 | refine IsS72.far ?_ NB593_589.out _ | refine IsS72.far ?_ NB593_590.out _ | refine IsS72.far ?_ NB593_605.out _) | exact HI593.out)⟩
    have n5_ : Aside0 (Below w.heap.size w ((((((w18.setCell ⟨gb605, 0, none⟩ (.bool t596)).setCell ⟨gb605, 1, none⟩ (.bool t597)).setCell ⟨gb605, 2, none⟩ (.int .i64 t598)).setCell ⟨gb605, 3, none⟩ (.int .i64 t599)).setCell ⟨gb605, 4, none⟩ (.int .i64 t600)).setCell ⟨gb605, 5, none⟩ (.slice Ao23 t601.length co23))) := ⟨by repeat (first | (with_reducible first | exact HB.out | apply below_alloc | apply pw_below_drewN | apply below_drew1 | refine below_set ?_ (IsS72.ge HI593.out) | refine below_set ?_ GE589.out | refine below_set ?_ GE590.out | refine below_set ?_ GE605.out) | exact HB.out)⟩
    (try clear HO603)
    (try clear BK589)
    (try clear BK590)
    (try clear BK605)
    (try clear HI593)
    (try clear HB)
    generalize ((((((w18.setCell ⟨gb605, 0, none⟩ (.bool t596)).setCell ⟨gb605, 1, none⟩ (.bool t597)).setCell ⟨gb605, 2, none⟩ (.int .i64 t598)).setCell ⟨gb605, 3, none⟩ (.int .i64 t599)).setCell ⟨gb605, 4, none⟩ (.int .i64 t600)).setCell ⟨gb605, 5, none⟩ (.slice Ao23 t601.length co23)) = w24 at n0_ n1_ n2_ n3_ n4_ n5_ ⊢
    have HO603 := n0_
    have BK589 := n1_
    have BK590 := n2_
    have BK605 := n3_
    have HI593 := n4_
    have HB := n5_
    clear n0_ n1_ n2_ n3_ n4_ n5_
    replace HO603 := Aside0.mk (Kd.N_drew HO603.out)
    replace BK589 := Aside0.mk (blk_drew BK589.out)
    replace BK590 := Aside0.mk (blk_drew BK590.out)
    replace BK605 := Aside0.mk (blk_drew BK605.out)
    replace HI593 := Aside0.mk (IsS72.drew HI593.out)
    replace HB := Aside0.mk (below_drew1 HB.out)
    have p606 : 0 ≤ ((ji5) : Int) := td
    have q606 : (ji5) < (t601.length : Int) := td
    obtain ⟨ad606, A606_3, c606_3, A606_5, c606_5, e606, hx606_0, hx606_1, hx606_2, hx606_3, hx606_4, hx606_5, hl606_3, hi606_3, hl606_5, hi606_5⟩ := at_T41 (Kd.N_reads' HO603.out).2.2 (ji5) p606 q606
    cases e606
    obtain ⟨ce606, hce606, hMe606, hcc606⟩ := Kd.N_get HO603.out z41 (ji5) p606 (by first | exact q606 | exact td | (have e_ := (Kd.N_reads' HO603.out).1; omega))
    obtain ⟨ua606_3, uc606_3, ua606_5, uc606_5, rfl, ul606_3, ge606_3, ul606_5, ge606_5⟩ := k41_openF hMe606
    have hv606_3 := hcc606 3 _ rfl
    rw [add_field _ _ 3 (by omega)] at hv606_3
    replace hv606_3 := Option.some.inj (hv606_3.symm.trans hx606_3)
    injection hv606_3 with hva_ hvn_ hvc_
    rw [hva_] at ge606_3
    rw [hvc_] at ul606_3
    have HL606_3 := Aside0.mk (show Kd.V (Kd.int .i64) 3 _ w.heap.size _ _ ((rd_T41 t601 (ji5)).f3) from Kd.V_mk ul606_3 ge606_3)
    clear hva_ hvn_ hvc_ ge606_3 ul606_3
    have hv606_5 := hcc606 5 _ rfl
    rw [add_field _ _ 5 (by omega)] at hv606_5
    replace hv606_5 := Option.some.inj (hv606_5.symm.trans hx606_5)
    injection hv606_5 with hva_ hvn_ hvc_
    rw [hva_] at ge606_5
    rw [hvc_] at ul606_5
    have HL606_5 := Aside0.mk (show Kd.V (Kd.int .i64) 3 _ w.heap.size _ _ ((rd_T41 t601 (ji5)).f5) from Kd.V_mk ul606_5 ge606_5)
    clear hva_ hvn_ hvc_ ge606_5 ul606_5
    clear hcc606 hce606
    have HR606_3 := Aside0.mk hi606_3
    have HC606_3 := Aside0.mk hl606_3
    clear hi606_3 hl606_3
    have HR606_5 := Aside0.mk hi606_5
    have HC606_5 := Aside0.mk hl606_5
    clear hi606_5 hl606_5
    replace p606 := eq_true p606
    replace q606 := eq_true q606
    refine start_ (n := 22) (S := fun w' => w'.cell? ⟨gb605, 0, none⟩ = some (.bool t596) ∧ w'.cell? ⟨gb605, 1, none⟩ = some (.bool t597) ∧ w'.cell? ⟨gb605, 2, none⟩ = some (.int .i64 t598) ∧ w'.cell? ⟨gb605, 3, none⟩ = some (.int .i64 t599) ∧ w'.cell? ⟨gb605, 4, none⟩ = some (.int .i64 t600) ∧ w'.cell? ⟨gb605, 5, none⟩ = some (.slice (some ad606) t601.length co23) ∧ w'.cell? (ad606.add (((ji5)).toNat * 6)) = some (.int .i64 ((rd_T41 t601 (ji5)).f0)) ∧ w'.cell? ⟨(ad606.add (((ji5)).toNat * 6)).block, (ad606.add (((ji5)).toNat * 6)).off + 1, none⟩ = some (.int .i64 ((rd_T41 t601 (ji5)).f1)) ∧ w'.cell? ⟨(ad606.add (((ji5)).toNat * 6)).block, (ad606.add (((ji5)).toNat * 6)).off + 2, none⟩ = some (.bool ((rd_T41 t601 (ji5)).f2)) ∧ w'.cell? ⟨(ad606.add (((ji5)).toNat * 6)).block, (ad606.add (((ji5)).toNat * 6)).off + 3, none⟩ = some (.slice A606_3 ((rd_T41 t601 (ji5)).f3).length c606_3) ∧ w'.cell? ⟨(ad606.add (((ji5)).toNat * 6)).block, (ad606.add (((ji5)).toNat * 6)).off + 4, none⟩ = some (.bool ((rd_T41 t601 (ji5)).f4)) ∧ w'.cell? ⟨(ad606.add (((ji5)).toNat * 6)).block, (ad606.add (((ji5)).toNat * 6)).off + 5, none⟩ = some (.slice A606_5 ((rd_T41 t601 (ji5)).f5).length c606_5)) (ds := []) #[false, false, false, false, false, false, false, false, false, false, false, false, false, false, false, false, false, false, false, false, false, false] (by kernel_rfl) rfl rfl ⟨(blk_cell BK605.out 0).trans rfl, (blk_cell BK605.out 1).trans rfl, (blk_cell BK605.out 2).trans rfl, (blk_cell BK605.out 3).trans rfl, (blk_cell BK605.out 4).trans rfl, (blk_cell BK605.out 5).trans rfl, hx606_0, hx606_1, hx606_2, hx606_3, hx606_4, hx606_5⟩ (fun hHeld => ?_); refine with_tabW spec_DrawBatchJoin.tab3 spec_DrawBatchJoin.bits3 (fun HT_ HW_ => ?_)
    generalize w24.drew = w25 at HO603 BK589 BK590 BK605 HI593 HB HL606_3 HL606_5 HR606_3 HR606_5 hx606_0 hx606_1 hx606_2 hx606_3 hx606_4 hx606_5 hHeld ⊢
    refine tpu 0 (some 13) #[true, false, false, false, false, false, false, false, false, false, false, false, false, false, false, false, false, false, false, false, false, false] ?_
    refine tpu 1 (some 14) #[true, true, false, false, false, false, false, false, false, false, false, false, false, false, false, false, false, false, false, false, false, false] ?_
    refine tpu 3 (some 16) #[true, true, false, true, false, false, false, false, false, false, false, false, false, false, false, false, false, false, false, false, false, false] ?_
    refine tpu 11 (some 24) #[true, true, false, true, false, false, false, false, false, false, false, true, false, false, false, false, false, false, false, false, false, false] ?_
    refine tpu 14 (some 27) #[true, true, false, true, false, false, false, false, false, false, false, true, false, false, true, false, false, false, false, false, false, false] ?_
    refine tta 2 (some 15) #[true, true, true, true, false, false, false, false, false, false, false, true, false, false, true, false, false, false, false, false, false, false] hHeld ?_ (hy := by rintro w' ⟨s0, s1, s2, s3, s4, s5, s6, s7, s8, s9, s10, s11⟩; go_simp; with_reducible rfl)
    refine tta 4 (some 17) #[true, true, true, true, true, false, false, false, false, false, false, true, false, false, true, false, false, false, false, false, false, false] hHeld ?_ (hy := by rintro w' ⟨s0, s1, s2, s3, s4, s5, s6, s7, s8, s9, s10, s11⟩; go_simp; with_reducible rfl)
    refine tpu 5 (some 18) #[true, true, true, true, true, true, false, false, false, false, false, true, false, false, true, false, false, false, false, false, false, false] ?_
    refine tpu 6 (some 19) #[true, true, true, true, true, true, true, false, false, false, false, true, false, false, true, false, false, false, false, false, false, false] ?_
    refine tpu 7 (some 20) #[true, true, true, true, true, true, true, true, false, false, false, true, false, false, true, false, false, false, false, false, false, false] ?_
    refine tpu 8 (some 21) #[true, true, true, true, true, true, true, true, true, false, false, true, false, false, true, false, false, false, false, false, false, false] ?_
    refine tta 9 (some 22) #[true, true, true, true, true, true, true, true, true, true, false, true, false, false, true, false, false, false, false, false, false, false] hHeld ?_ (hy := by rintro w' ⟨s0, s1, s2, s3, s4, s5, s6, s7, s8, s9, s10, s11⟩; go_simp; with_reducible rfl)
    refine tpu 10 (some 23) #[true, true, true, true, true, true, true, true, true, true, true, true, false, false, true, false, false, false, false, false, false, false] ?_
    refine join_ (σ := Value × Nat) 1 #[true, true, true, true, true, true, true, true, true, true, true, true, true, true, true, true, true, true, true, true, true, false] (fun s_ => [(25, .int .i64 t607), (28, .int .i64 t609), (32, .agg #[.bool t611, .bool t612, .int .i64 t613, .int .i64 t614, .int .i64 t615, s_.1]), (6, .pointer (some ⟨s_.2, 0, none⟩)), (26, .int .i64 (wrap64 ((wrap64 (((rd_T41 t601 (ji5)).f0) + 1)) + t607))), (29, .int .i64 (wrap64 (Int.tdiv t609 11))), (30, .int .i64 (wrap64 ((wrap64 (Int.tdiv t609 11)) * 3))), (31, .int .i64 (wrap64 ((wrap64 ((wrap64 (((rd_T41 t601 (ji5)).f0) + 1)) + t607)) - (wrap64 ((wrap64 (Int.tdiv t609 11)) * 3)))))]) (fun s_ w' => (w'.cell? ⟨gb605, 0, none⟩ = some (.bool t596) ∧ w'.cell? ⟨gb605, 1, none⟩ = some (.bool t597) ∧ w'.cell? ⟨gb605, 2, none⟩ = some (.int .i64 t598) ∧ w'.cell? ⟨gb605, 3, none⟩ = some (.int .i64 t599) ∧ w'.cell? ⟨gb605, 4, none⟩ = some (.int .i64 t600) ∧ w'.cell? ⟨gb605, 5, none⟩ = some (.slice (some ad606) t601.length co23) ∧ w'.cell? (ad606.add (((ji5)).toNat * 6)) = some (.int .i64 ((rd_T41 t601 (ji5)).f0)) ∧ w'.cell? ⟨(ad606.add (((ji5)).toNat * 6)).block, (ad606.add (((ji5)).toNat * 6)).off + 1, none⟩ = some (.int .i64 ((rd_T41 t601 (ji5)).f1)) ∧ w'.cell? ⟨(ad606.add (((ji5)).toNat * 6)).block, (ad606.add (((ji5)).toNat * 6)).off + 2, none⟩ = some (.bool ((rd_T41 t601 (ji5)).f2)) ∧ w'.cell? ⟨(ad606.add (((ji5)).toNat * 6)).block, (ad606.add (((ji5)).toNat * 6)).off + 3, none⟩ = some (.slice A606_3 ((rd_T41 t601 (ji5)).f3).length c606_3) ∧ w'.cell? ⟨(ad606.add (((ji5)).toNat * 6)).block, (ad606.add (((ji5)).toNat * 6)).off + 4, none⟩ = some (.bool ((rd_T41 t601 (ji5)).f4)) ∧ w'.cell? ⟨(ad606.add (((ji5)).toNat * 6)).block, (ad606.add (((ji5)).toNat * 6)).off + 5, none⟩ = some (.slice A606_5 ((rd_T41 t601 (ji5)).f5).length c606_5)) ∧ (Kd.V (Kd.int .i64) 3 w' w.heap.size (fun k_ => (w.heap.size ≤ k_) ∧ some k_ ≠ (.slice (some ad606) t601.length co23 : Value).ownBlock ∧ some k_ ≠ (s_.1 : Value).ownBlock ∧ k_ ≠ gb589 ∧ k_ ≠ gb590 ∧ k_ ≠ g593 ∧ k_ ≠ gb605 ∧ k_ ≠ s_.2) (.slice A606_3 ((rd_T41 t601 (ji5)).f3).length c606_3) ((rd_T41 t601 (ji5)).f3)) ∧ (Kd.V (Kd.int .i64) 3 w' w.heap.size (fun k_ => (w.heap.size ≤ k_) ∧ some k_ ≠ (.slice (some ad606) t601.length co23 : Value).ownBlock ∧ some k_ ≠ (s_.1 : Value).ownBlock ∧ k_ ≠ gb589 ∧ k_ ≠ gb590 ∧ k_ ≠ g593 ∧ k_ ≠ gb605 ∧ k_ ≠ s_.2) (.slice A606_5 ((rd_T41 t601 (ji5)).f5).length c606_5) ((rd_T41 t601 (ji5)).f5)) ∧ (Kd.N k41 41 w' w.heap.size (fun k_ => (w.heap.size ≤ k_) ∧ some k_ ≠ (s_.1 : Value).ownBlock ∧ k_ ≠ gb589 ∧ k_ ≠ gb590 ∧ k_ ≠ g593 ∧ k_ ≠ gb605 ∧ k_ ≠ s_.2) (.slice (some ad606) t601.length co23) t601) ∧ (Kd.N k41 41 w' w.heap.size (fun k_ => (w.heap.size ≤ k_) ∧ some k_ ≠ (.slice (some ad606) t601.length co23 : Value).ownBlock ∧ k_ ≠ gb589 ∧ k_ ≠ gb590 ∧ k_ ≠ g593 ∧ k_ ≠ gb605 ∧ k_ ≠ s_.2) s_.1 t616) ∧ (w'.heap[gb589]? = some (.cells #[.bool false, .bool false, .int .i64 0, .int .i64 0, .int .i64 0, .slice none 0 0] 25 (0, 0))) ∧ (w'.heap[gb590]? = some (.cells #[.bool false, .bool false, .int .i64 0, .int .i64 0, .int .i64 0, .slice none 0 0] 25 (0, 0))) ∧ (w'.heap[gb605]? = some (.cells #[.bool t596, .bool t597, .int .i64 t598, .int .i64 t599, .int .i64 t600, .slice (some ad606) t601.length co23] 25 (0, 0))) ∧ (w'.heap[s_.2]? = some (.cells #[.bool false, .bool false, .int .i64 0, .int .i64 0, .int .i64 0, .slice none 0 0] 25 (0, 0))) ∧ (w.heap.size ≤ s_.2) ∧ (w.heap.size ≤ s_.2) ∧ (g593 ≠ s_.2) ∧ (s_.2 ≠ g593) ∧ (gb589 ≠ s_.2) ∧ (s_.2 ≠ gb589) ∧ (gb590 ≠ s_.2) ∧ (s_.2 ≠ gb590) ∧ (gb605 ≠ s_.2) ∧ (s_.2 ≠ gb605) ∧ (IsS72 w w' g593 t591 t619) ∧ (Below w.heap.size w w')) ?_ ?_
    rotate_left
    ·intro hCont
     refine two_ (i := 12) (j := 20) (Ni := some 25) (Nj := some 6) #[true, true, true, true, true, true, true, true, true, true, true, true, true, false, true, false, false, false, false, false, false, false] #[true, true, true, true, true, true, true, true, true, true, true, true, false, false, true, false, false, false, false, false, true, false] rfl rfl rfl rfl (two_of HT_.out (by kernel_rfl)) (by decide) (by decide) (fun K hK => ?_) (fun K hK => ?_)
     ·skip
      refine goes_ Tryd.func24 (by kernel_rfl) rfl #[.pointer (some ⟨g593, 0, none⟩), .int .i64 3] (by rfl) rfl rfl tq ?_
      with_reducible refine (spec_l6Rd_pick.calls k g593 t591 t604 3 t607 t608 w _ ?side1 ?side2 A8.out).mono ?_
      (case side1 => repeat (first | (with_reducible first | exact HI593.out | apply IsS72.alloc | apply IsS72.drewN | apply IsS72.drew | apply IsS72.set_1 | refine IsS72.far ?_ NB593_589.out _ | refine IsS72.far ?_ NB593_590.out _ | refine IsS72.far ?_ NB593_605.out _) | exact HI593.out))
      (case side2 => repeat (first | (with_reducible first | exact HB.out | apply below_alloc | apply pw_below_drewN | apply below_drew1 | refine below_set ?_ (IsS72.ge HI593.out) | refine below_set ?_ GE589.out | refine below_set ?_ GE590.out | refine below_set ?_ GE605.out) | exact HB.out))
      rintro e w26 ⟨rfl, hi, hb, hk⟩
      have HS6_ := keep_cell hk (hHeld.2.2.2.2.2.2.1) (tow (Kd.own_blk (IsS72.own_neN HI593.out HO603.out (by decide))))
      have HS7_ := keep_cell hk (hHeld.2.2.2.2.2.2.2.1) (tow (Kd.own_blk (IsS72.own_neN HI593.out HO603.out (by decide))))
      have HS8_ := keep_cell hk (hHeld.2.2.2.2.2.2.2.2.1) (tow (Kd.own_blk (IsS72.own_neN HI593.out HO603.out (by decide))))
      have HS9_ := keep_cell hk (hHeld.2.2.2.2.2.2.2.2.2.1) (tow (Kd.own_blk (IsS72.own_neN HI593.out HO603.out (by decide))))
      have HS10_ := keep_cell hk (hHeld.2.2.2.2.2.2.2.2.2.2.1) (tow (Kd.own_blk (IsS72.own_neN HI593.out HO603.out (by decide))))
      have HS11_ := keep_cell hk (hHeld.2.2.2.2.2.2.2.2.2.2.2) (tow (Kd.own_blk (IsS72.own_neN HI593.out HO603.out (by decide))))
      refine ⟨_, rfl, ?_⟩
      replace BK589 := tBk BK589 hk NB589_593
      replace BK590 := tBk BK590 hk NB590_593
      replace HO603 := tNk HO603 hk
      replace BK605 := tBk BK605 hk NB605_593
      replace HL606_3 := tVk HL606_3 hk
      replace HL606_5 := tVk HL606_5 hk
      replace HB := Aside0.mk (hb)
      replace HI593 := Aside0.mk (hi)
      (try clear hb)
      (try clear hb2)
      (try clear hk)
      (try clear hi)
      refine hK.out _ _ ⟨(blk_cell BK605.out 0).trans rfl, (blk_cell BK605.out 1).trans rfl, (blk_cell BK605.out 2).trans rfl, (blk_cell BK605.out 3).trans rfl, (blk_cell BK605.out 4).trans rfl, (blk_cell BK605.out 5).trans rfl, HS6_, HS7_, HS8_, HS9_, HS10_, HS11_⟩ (fun hHeld => ?_)
      clear hK K
      refine tnm (some 25) ?_
      refine tpu 13 (some 26) #[true, true, true, true, true, true, true, true, true, true, true, true, true, true, true, false, false, false, false, false, false, false] ?_
      refine two_ (i := 15) (j := 20) (Ni := some 28) (Nj := some 6) #[true, true, true, true, true, true, true, true, true, true, true, true, true, true, true, true, false, false, false, false, false, false] #[true, true, true, true, true, true, true, true, true, true, true, true, true, true, true, false, false, false, false, false, true, false] rfl rfl rfl rfl (two_of HT_.out (by kernel_rfl)) (by decide) (by decide) (fun K hK => ?_) (fun K hK => ?_)
      ·skip
       refine goes_ Tryd.func24 (by kernel_rfl) rfl #[.pointer (some ⟨g593, 0, none⟩), .int .i64 12] (by rfl) rfl rfl tq ?_
       with_reducible refine (spec_l6Rd_pick.calls k g593 t591 t608 12 t609 t610 w _ ?side1 ?side2 A9.out).mono ?_
       (case side1 => repeat (first | (with_reducible first | exact HI593.out | apply IsS72.alloc | apply IsS72.drewN | apply IsS72.drew | apply IsS72.set_1 | refine IsS72.far ?_ NB593_589.out _ | refine IsS72.far ?_ NB593_590.out _ | refine IsS72.far ?_ NB593_605.out _) | exact HI593.out))
       (case side2 => repeat (first | (with_reducible first | exact HB.out | apply below_alloc | apply pw_below_drewN | apply below_drew1 | refine below_set ?_ (IsS72.ge HI593.out) | refine below_set ?_ GE589.out | refine below_set ?_ GE590.out | refine below_set ?_ GE605.out) | exact HB.out))
       rintro e w27 ⟨rfl, hi, hb, hk⟩
       have HS6_ := keep_cell hk (hHeld.2.2.2.2.2.2.1) (tow (Kd.own_blk (IsS72.own_neN HI593.out HO603.out (by decide))))
       have HS7_ := keep_cell hk (hHeld.2.2.2.2.2.2.2.1) (tow (Kd.own_blk (IsS72.own_neN HI593.out HO603.out (by decide))))
       have HS8_ := keep_cell hk (hHeld.2.2.2.2.2.2.2.2.1) (tow (Kd.own_blk (IsS72.own_neN HI593.out HO603.out (by decide))))
       have HS9_ := keep_cell hk (hHeld.2.2.2.2.2.2.2.2.2.1) (tow (Kd.own_blk (IsS72.own_neN HI593.out HO603.out (by decide))))
       have HS10_ := keep_cell hk (hHeld.2.2.2.2.2.2.2.2.2.2.1) (tow (Kd.own_blk (IsS72.own_neN HI593.out HO603.out (by decide))))
       have HS11_ := keep_cell hk (hHeld.2.2.2.2.2.2.2.2.2.2.2) (tow (Kd.own_blk (IsS72.own_neN HI593.out HO603.out (by decide))))
       refine ⟨_, rfl, ?_⟩
       replace BK589 := tBk BK589 hk NB589_593
       replace BK590 := tBk BK590 hk NB590_593
       replace HO603 := tNk HO603 hk
       replace BK605 := tBk BK605 hk NB605_593
       replace HL606_3 := tVk HL606_3 hk
       replace HL606_5 := tVk HL606_5 hk
       replace HB := Aside0.mk (hb)
       replace HI593 := Aside0.mk (hi)
       (try clear hb)
       (try clear hb2)
       (try clear hk)
       (try clear hi)
       refine hK.out _ _ ⟨(blk_cell BK605.out 0).trans rfl, (blk_cell BK605.out 1).trans rfl, (blk_cell BK605.out 2).trans rfl, (blk_cell BK605.out 3).trans rfl, (blk_cell BK605.out 4).trans rfl, (blk_cell BK605.out 5).trans rfl, HS6_, HS7_, HS8_, HS9_, HS10_, HS11_⟩ (fun hHeld => ?_)
       clear hK K
       refine tnm (some 28) ?_
       refine tpu 16 (some 29) #[true, true, true, true, true, true, true, true, true, true, true, true, true, true, true, true, true, false, false, false, false, false] ?_
       refine tpu 17 (some 30) #[true, true, true, true, true, true, true, true, true, true, true, true, true, true, true, true, true, true, false, false, false, false] ?_
       refine tpu 18 (some 31) #[true, true, true, true, true, true, true, true, true, true, true, true, true, true, true, true, true, true, true, false, false, false] ?_
       refine two_ (i := 19) (j := 20) (Ni := some 32) (Nj := some 6) #[true, true, true, true, true, true, true, true, true, true, true, true, true, true, true, true, true, true, true, true, false, false] #[true, true, true, true, true, true, true, true, true, true, true, true, true, true, true, true, true, true, true, false, true, false] rfl rfl rfl rfl (two_of HT_.out (by kernel_rfl)) (by decide) (by decide) (fun K hK => ?_) (fun K hK => ?_)
       ·skip
        refine goes_ Tryd.func23 (by kernel_rfl) rfl #[.pointer (some ⟨g593, 0, none⟩), .int .i64 (wrap64 ((wrap64 ((wrap64 (((rd_T41 t601 (ji5)).f0) + 1)) + t607)) - (wrap64 ((wrap64 (Int.tdiv t609 11)) * 3))))] (by rfl) rfl rfl (by (try simp only [List.map_toArray, List.map_cons, List.map_nil]); first | done | (simp only [hji5]; rfl) | rfl | (simp only [List.length_drop, List.length_take]; rfl)) ?_
        with_reducible refine (spec_l91Batch.calls k g593 t591 t610 (wrap64 ((wrap64 ((wrap64 (((rd_T41 t601 (ji5)).f0) + 1)) + t607)) - (wrap64 ((wrap64 (Int.tdiv t609 11)) * 3)))) t611 t612 t613 t614 t615 t616 t619 w _ ?side1 ?side2 A10.out).mono ?_
        (case side1 => repeat (first | (with_reducible first | exact HI593.out | apply IsS72.alloc | apply IsS72.drewN | apply IsS72.drew | apply IsS72.set_1 | refine IsS72.far ?_ NB593_589.out _ | refine IsS72.far ?_ NB593_590.out _ | refine IsS72.far ?_ NB593_605.out _) | exact HI593.out))
        (case side2 => repeat (first | (with_reducible first | exact HB.out | apply below_alloc | apply pw_below_drewN | apply below_drew1 | refine below_set ?_ (IsS72.ge HI593.out) | refine below_set ?_ GE589.out | refine below_set ?_ GE590.out | refine below_set ?_ GE605.out) | exact HB.out))
        rintro e w28 ⟨v617, rfl, ho0, hi, hb, hk⟩
        have HS6_ := keep_cell hk (hHeld.2.2.2.2.2.2.1) (tow (Kd.own_blk (IsS72.own_neN HI593.out HO603.out (by decide))))
        have HS7_ := keep_cell hk (hHeld.2.2.2.2.2.2.2.1) (tow (Kd.own_blk (IsS72.own_neN HI593.out HO603.out (by decide))))
        have HS8_ := keep_cell hk (hHeld.2.2.2.2.2.2.2.2.1) (tow (Kd.own_blk (IsS72.own_neN HI593.out HO603.out (by decide))))
        have HS9_ := keep_cell hk (hHeld.2.2.2.2.2.2.2.2.2.1) (tow (Kd.own_blk (IsS72.own_neN HI593.out HO603.out (by decide))))
        have HS10_ := keep_cell hk (hHeld.2.2.2.2.2.2.2.2.2.2.1) (tow (Kd.own_blk (IsS72.own_neN HI593.out HO603.out (by decide))))
        have HS11_ := keep_cell hk (hHeld.2.2.2.2.2.2.2.2.2.2.2) (tow (Kd.own_blk (IsS72.own_neN HI593.out HO603.out (by decide))))
        refine ⟨_, rfl, ?_⟩
        replace HL606_3 := Aside0.mk (Kd.V_mono (Kd.V_told (Kd.V_oldK (Kd.V_mono (ok := fun k_ => ((((w.heap.size ≤ k_)) ∧ (k_ ≠ gb589 ∧ (k_ ≠ gb590 ∧ (k_ ≠ g593 ∧ k_ ≠ gb605)))) ∧ some k_ ≠ (.slice (some ad606) t601.length co23 : Value).ownBlock)) (tV HL606_3.out) (fun k_ hk_ => (⟨hk_, hk_.1.2.2.2.1⟩ : _ ∧ k_ ≠ g593))) hk) (tb ho0)) (fun _ h_ => h_.1))
        replace HL606_5 := Aside0.mk (Kd.V_mono (Kd.V_told (Kd.V_oldK (Kd.V_mono (ok := fun k_ => ((((w.heap.size ≤ k_)) ∧ (k_ ≠ gb589 ∧ (k_ ≠ gb590 ∧ (k_ ≠ g593 ∧ k_ ≠ gb605)))) ∧ some k_ ≠ (.slice (some ad606) t601.length co23 : Value).ownBlock)) (tV HL606_5.out) (fun k_ hk_ => (⟨hk_, hk_.1.2.2.2.1⟩ : _ ∧ k_ ≠ g593))) hk) (tb ho0)) (fun _ h_ => h_.1))
        have HO618 := Aside0.mk (Kd.N_lower (Kd.N_mono (ok' := fun k_ => (w.heap.size ≤ k_) ∧ some k_ ≠ (.slice (some ad606) t601.length co23 : Value).ownBlock ∧ k_ ≠ gb589 ∧ k_ ≠ gb590 ∧ k_ ≠ gb605 ∧ k_ ≠ g593) ho0 (fun k_ hk_ => ⟨(Nat.le_trans (below_size (by repeat (first | (with_reducible first | exact HB.out | apply below_alloc | apply pw_below_drewN | apply below_drew1 | refine below_set ?_ (IsS72.ge HI593.out) | refine below_set ?_ GE589.out | refine below_set ?_ GE590.out | refine below_set ?_ GE605.out) | exact HB.out))) hk_), (tfr HO603 k_ hk_), (tfB BK589 k_ hk_), (tfB BK590 k_ hk_), (tfB BK605 k_ hk_), (IsS72.fresh (by repeat (first | (with_reducible first | exact HI593.out | apply IsS72.alloc | apply IsS72.drewN | apply IsS72.drew | apply IsS72.set_1 | refine IsS72.far ?_ NB593_589.out _ | refine IsS72.far ?_ NB593_590.out _ | refine IsS72.far ?_ NB593_605.out _) | exact HI593.out)) k_ hk_)⟩)) (below_size (by repeat (first | (with_reducible first | exact HB.out | apply below_alloc | apply pw_below_drewN | apply below_drew1 | refine below_set ?_ (IsS72.ge HI593.out) | refine below_set ?_ GE589.out | refine below_set ?_ GE590.out | refine below_set ?_ GE605.out) | exact HB.out))))
        replace BK589 := tBk BK589 hk NB589_593
        replace BK590 := tBk BK590 hk NB590_593
        replace HO603 := Aside0.mk (Kd.N_mono (Kd.N_told (Kd.N_oldK (Kd.N_mono (ok := fun k_ => (((w.heap.size ≤ k_)) ∧ (k_ ≠ gb589 ∧ (k_ ≠ gb590 ∧ (k_ ≠ g593 ∧ k_ ≠ gb605))))) (tN HO603.out) (fun k_ hk_ => (⟨hk_, hk_.2.2.2.1⟩ : _ ∧ k_ ≠ g593))) hk) (tb ho0)) (fun _ h_ => h_.1))
        replace BK605 := tBk BK605 hk NB605_593
        replace HB := Aside0.mk (hb)
        replace HI593 := Aside0.mk (hi)
        (try clear hb)
        (try clear hb2)
        (try clear hk)
        (try clear hi)
        (try clear ho0)
        refine hK.out _ _ ⟨(blk_cell BK605.out 0).trans rfl, (blk_cell BK605.out 1).trans rfl, (blk_cell BK605.out 2).trans rfl, (blk_cell BK605.out 3).trans rfl, (blk_cell BK605.out 4).trans rfl, (blk_cell BK605.out 5).trans rfl, HS6_, HS7_, HS8_, HS9_, HS10_, HS11_⟩ (fun hHeld => ?_)
        clear hK K
        refine tnm (some 32) ?_
        refine one_ (i := 20) (N := some 6) #[true, true, true, true, true, true, true, true, true, true, true, true, true, true, true, true, true, true, true, true, true, false] rfl rfl (one_of HT_.out (by kernel_rfl)) (by decide) (fun K hK => ?_)
        refine box_step ?hg (N := 6) ?hd (cs := #[.bool false, .bool false, .int .i64 0, .int .i64 0, .int .i64 0, .slice none 0 0]) (t := 25) ?hr ?_; (case hd => rfl); (case hg => rfl); (case hr => first | (go_simp; done) | (go_simp; rfl))
        intro gb620 hg w29 hbox hb
        have HS6_ := tcb hb hHeld.2.2.2.2.2.2.1
        have HS7_ := tcb hb hHeld.2.2.2.2.2.2.2.1
        have HS8_ := tcb hb hHeld.2.2.2.2.2.2.2.2.1
        have HS9_ := tcb hb hHeld.2.2.2.2.2.2.2.2.2.1
        have HS10_ := tcb hb hHeld.2.2.2.2.2.2.2.2.2.2.1
        have HS11_ := tcb hb hHeld.2.2.2.2.2.2.2.2.2.2.2
        replace HO603 := tNB HO603 hg hb
        replace HL606_3 := tVB HL606_3 hg hb
        replace HL606_5 := tVB HL606_5 hg hb
        replace HO618 := tNB HO618 hg hb
        have BK620 := Aside0.mk (hbox)
        have GW620 := Aside0.mk ((by rw [hg]; exact (below_size (by repeat (first | (with_reducible first | exact HB.out | apply below_alloc | apply pw_below_drewN | apply below_drew1 | refine below_set ?_ (IsS72.ge HI593.out) | refine below_set ?_ GE589.out | refine below_set ?_ GE590.out | refine below_set ?_ GE605.out) | exact HB.out))) : w.heap.size ≤ gb620))
        have GE620 := Aside0.mk ((by rw [hg]; exact (below_size (by repeat (first | (with_reducible first | exact HB.out | apply below_alloc | apply pw_below_drewN | apply below_drew1 | refine below_set ?_ (IsS72.ge HI593.out) | refine below_set ?_ GE589.out | refine below_set ?_ GE590.out | refine below_set ?_ GE605.out) | exact HB.out))) : w.heap.size ≤ gb620))
        replace HB := Aside0.mk (below_step (by repeat (first | (with_reducible first | exact HB.out | apply below_alloc | apply pw_below_drewN | apply below_drew1 | refine below_set ?_ (IsS72.ge HI593.out) | refine below_set ?_ GE589.out | refine below_set ?_ GE590.out | refine below_set ?_ GE605.out) | exact HB.out)) hb)
        have NB589_620 := tlt BK589 hg
        have NB620_589 := tgt BK589 hg
        replace BK589 := tBb BK589 hb
        have NB590_620 := tlt BK590 hg
        have NB620_590 := tgt BK590 hg
        replace BK590 := tBb BK590 hb
        have NB605_620 := tlt BK605 hg
        have NB620_605 := tgt BK605 hg
        replace BK605 := tBb BK605 hb
        have NB593_620 := Aside0.mk ((by rw [hg]; exact Nat.ne_of_lt (IsS72.lt (show IsS72 w _ g593 t591 t619 from by repeat (first | (with_reducible first | exact HI593.out | apply IsS72.alloc | apply IsS72.drewN | apply IsS72.drew | apply IsS72.set_1 | refine IsS72.far ?_ NB593_589.out _ | refine IsS72.far ?_ NB593_590.out _ | refine IsS72.far ?_ NB593_605.out _) | exact HI593.out))) : g593 ≠ gb620))
        have NB620_593 := Aside0.mk ((by rw [hg]; exact Nat.ne_of_gt (IsS72.lt (show IsS72 w _ g593 t591 t619 from by repeat (first | (with_reducible first | exact HI593.out | apply IsS72.alloc | apply IsS72.drewN | apply IsS72.drew | apply IsS72.set_1 | refine IsS72.far ?_ NB593_589.out _ | refine IsS72.far ?_ NB593_590.out _ | refine IsS72.far ?_ NB593_605.out _) | exact HI593.out))) : gb620 ≠ g593))
        replace HI593 := Aside0.mk (IsS72.below (by repeat (first | (with_reducible first | exact HI593.out | apply IsS72.alloc | apply IsS72.drewN | apply IsS72.drew | apply IsS72.set_1 | refine IsS72.far ?_ NB593_589.out _ | refine IsS72.far ?_ NB593_590.out _ | refine IsS72.far ?_ NB593_605.out _) | exact HI593.out)) hb)
        clear hb hbox hg
        refine hK.out _ _ ⟨(blk_cell BK605.out 0).trans rfl, (blk_cell BK605.out 1).trans rfl, (blk_cell BK605.out 2).trans rfl, (blk_cell BK605.out 3).trans rfl, (blk_cell BK605.out 4).trans rfl, (blk_cell BK605.out 5).trans rfl, HS6_, HS7_, HS8_, HS9_, HS10_, HS11_⟩ (fun hHeld => ?_)
        clear hK K
        refine tnm (some 6) ?_
        exact tnx (hCont (v617, gb620) _ ⟨hHeld, (tVm HL606_3.out), (tVm HL606_5.out), (tNm HO603.out), (tNm HO618.out), (tH BK589.out), (tH BK590.out), (tH BK605.out), (tH BK620.out), GW620.out, GE620.out, NB593_620.out, NB620_593.out, NB589_620.out, NB620_589.out, NB590_620.out, NB620_590.out, NB605_620.out, NB620_605.out, (by repeat (first | (with_reducible first | exact HI593.out | apply IsS72.alloc | apply IsS72.drewN | apply IsS72.drew | apply IsS72.set_1 | refine IsS72.far ?_ NB593_589.out _ | refine IsS72.far ?_ NB593_590.out _ | refine IsS72.far ?_ NB593_605.out _ | refine IsS72.far ?_ NB593_620.out _) | exact HI593.out)), (by repeat (first | (with_reducible first | exact HB.out | apply below_alloc | apply pw_below_drewN | apply below_drew1 | refine below_set ?_ (IsS72.ge HI593.out) | refine below_set ?_ GE589.out | refine below_set ?_ GE590.out | refine below_set ?_ GE605.out | refine below_set ?_ GE620.out) | exact HB.out))⟩)
       ·skip
        refine box_step ?hg (N := 6) ?hd (cs := #[.bool false, .bool false, .int .i64 0, .int .i64 0, .int .i64 0, .slice none 0 0]) (t := 25) ?hr ?_; (case hd => rfl); (case hg => rfl); (case hr => first | (go_simp; done) | (go_simp; rfl))
        intro gb620 hg w28 hbox hb
        have HS6_ := tcb hb hHeld.2.2.2.2.2.2.1
        have HS7_ := tcb hb hHeld.2.2.2.2.2.2.2.1
        have HS8_ := tcb hb hHeld.2.2.2.2.2.2.2.2.1
        have HS9_ := tcb hb hHeld.2.2.2.2.2.2.2.2.2.1
        have HS10_ := tcb hb hHeld.2.2.2.2.2.2.2.2.2.2.1
        have HS11_ := tcb hb hHeld.2.2.2.2.2.2.2.2.2.2.2
        replace HO603 := tNB HO603 hg hb
        replace HL606_3 := tVB HL606_3 hg hb
        replace HL606_5 := tVB HL606_5 hg hb
        have BK620 := Aside0.mk (hbox)
        have GW620 := Aside0.mk ((by rw [hg]; exact (below_size (by repeat (first | (with_reducible first | exact HB.out | apply below_alloc | apply pw_below_drewN | apply below_drew1 | refine below_set ?_ (IsS72.ge HI593.out) | refine below_set ?_ GE589.out | refine below_set ?_ GE590.out | refine below_set ?_ GE605.out) | exact HB.out))) : w.heap.size ≤ gb620))
        have GE620 := Aside0.mk ((by rw [hg]; exact (below_size (by repeat (first | (with_reducible first | exact HB.out | apply below_alloc | apply pw_below_drewN | apply below_drew1 | refine below_set ?_ (IsS72.ge HI593.out) | refine below_set ?_ GE589.out | refine below_set ?_ GE590.out | refine below_set ?_ GE605.out) | exact HB.out))) : w.heap.size ≤ gb620))
        replace HB := Aside0.mk (below_step (by repeat (first | (with_reducible first | exact HB.out | apply below_alloc | apply pw_below_drewN | apply below_drew1 | refine below_set ?_ (IsS72.ge HI593.out) | refine below_set ?_ GE589.out | refine below_set ?_ GE590.out | refine below_set ?_ GE605.out) | exact HB.out)) hb)
        have NB589_620 := tlt BK589 hg
        have NB620_589 := tgt BK589 hg
        replace BK589 := tBb BK589 hb
        have NB590_620 := tlt BK590 hg
        have NB620_590 := tgt BK590 hg
        replace BK590 := tBb BK590 hb
        have NB605_620 := tlt BK605 hg
        have NB620_605 := tgt BK605 hg
        replace BK605 := tBb BK605 hb
        have NB593_620 := Aside0.mk ((by rw [hg]; exact Nat.ne_of_lt (IsS72.lt (show IsS72 w _ g593 t591 t610 from by repeat (first | (with_reducible first | exact HI593.out | apply IsS72.alloc | apply IsS72.drewN | apply IsS72.drew | apply IsS72.set_1 | refine IsS72.far ?_ NB593_589.out _ | refine IsS72.far ?_ NB593_590.out _ | refine IsS72.far ?_ NB593_605.out _) | exact HI593.out))) : g593 ≠ gb620))
        have NB620_593 := Aside0.mk ((by rw [hg]; exact Nat.ne_of_gt (IsS72.lt (show IsS72 w _ g593 t591 t610 from by repeat (first | (with_reducible first | exact HI593.out | apply IsS72.alloc | apply IsS72.drewN | apply IsS72.drew | apply IsS72.set_1 | refine IsS72.far ?_ NB593_589.out _ | refine IsS72.far ?_ NB593_590.out _ | refine IsS72.far ?_ NB593_605.out _) | exact HI593.out))) : gb620 ≠ g593))
        replace HI593 := Aside0.mk (IsS72.below (by repeat (first | (with_reducible first | exact HI593.out | apply IsS72.alloc | apply IsS72.drewN | apply IsS72.drew | apply IsS72.set_1 | refine IsS72.far ?_ NB593_589.out _ | refine IsS72.far ?_ NB593_590.out _ | refine IsS72.far ?_ NB593_605.out _) | exact HI593.out)) hb)
        clear hb hbox hg
        refine hK.out _ _ ⟨(blk_cell BK605.out 0).trans rfl, (blk_cell BK605.out 1).trans rfl, (blk_cell BK605.out 2).trans rfl, (blk_cell BK605.out 3).trans rfl, (blk_cell BK605.out 4).trans rfl, (blk_cell BK605.out 5).trans rfl, HS6_, HS7_, HS8_, HS9_, HS10_, HS11_⟩ (fun hHeld => ?_)
        clear hK K
        refine tnm (some 6) ?_
        refine one_ (i := 19) (N := some 32) #[true, true, true, true, true, true, true, true, true, true, true, true, true, true, true, true, true, true, true, true, true, false] rfl rfl (one_of HT_.out (by kernel_rfl)) (by decide) (fun K hK => ?_)
        refine goes_ Tryd.func23 (by kernel_rfl) rfl #[.pointer (some ⟨g593, 0, none⟩), .int .i64 (wrap64 ((wrap64 ((wrap64 (((rd_T41 t601 (ji5)).f0) + 1)) + t607)) - (wrap64 ((wrap64 (Int.tdiv t609 11)) * 3))))] (by rfl) rfl rfl (by (try simp only [List.map_toArray, List.map_cons, List.map_nil]); first | done | (simp only [hji5]; rfl) | rfl | (simp only [List.length_drop, List.length_take]; rfl)) ?_
        with_reducible refine (spec_l91Batch.calls k g593 t591 t610 (wrap64 ((wrap64 ((wrap64 (((rd_T41 t601 (ji5)).f0) + 1)) + t607)) - (wrap64 ((wrap64 (Int.tdiv t609 11)) * 3)))) t611 t612 t613 t614 t615 t616 t619 w _ ?side1 ?side2 A10.out).mono ?_
        (case side1 => repeat (first | (with_reducible first | exact HI593.out | apply IsS72.alloc | apply IsS72.drewN | apply IsS72.drew | apply IsS72.set_1 | refine IsS72.far ?_ NB593_589.out _ | refine IsS72.far ?_ NB593_590.out _ | refine IsS72.far ?_ NB593_605.out _ | refine IsS72.far ?_ NB593_620.out _) | exact HI593.out))
        (case side2 => repeat (first | (with_reducible first | exact HB.out | apply below_alloc | apply pw_below_drewN | apply below_drew1 | refine below_set ?_ (IsS72.ge HI593.out) | refine below_set ?_ GE589.out | refine below_set ?_ GE590.out | refine below_set ?_ GE605.out | refine below_set ?_ GE620.out) | exact HB.out))
        rintro e w29 ⟨v617, rfl, ho0, hi, hb, hk⟩
        have HS6_ := keep_cell hk (hHeld.2.2.2.2.2.2.1) (tow (Kd.own_blk (IsS72.own_neN HI593.out HO603.out (by decide))))
        have HS7_ := keep_cell hk (hHeld.2.2.2.2.2.2.2.1) (tow (Kd.own_blk (IsS72.own_neN HI593.out HO603.out (by decide))))
        have HS8_ := keep_cell hk (hHeld.2.2.2.2.2.2.2.2.1) (tow (Kd.own_blk (IsS72.own_neN HI593.out HO603.out (by decide))))
        have HS9_ := keep_cell hk (hHeld.2.2.2.2.2.2.2.2.2.1) (tow (Kd.own_blk (IsS72.own_neN HI593.out HO603.out (by decide))))
        have HS10_ := keep_cell hk (hHeld.2.2.2.2.2.2.2.2.2.2.1) (tow (Kd.own_blk (IsS72.own_neN HI593.out HO603.out (by decide))))
        have HS11_ := keep_cell hk (hHeld.2.2.2.2.2.2.2.2.2.2.2) (tow (Kd.own_blk (IsS72.own_neN HI593.out HO603.out (by decide))))
        refine ⟨_, rfl, ?_⟩
        replace HL606_3 := Aside0.mk (Kd.V_mono (Kd.V_told (Kd.V_oldK (Kd.V_mono (ok := fun k_ => (((((w.heap.size ≤ k_)) ∧ (k_ ≠ gb589 ∧ (k_ ≠ gb590 ∧ (k_ ≠ g593 ∧ k_ ≠ gb605)))) ∧ some k_ ≠ (.slice (some ad606) t601.length co23 : Value).ownBlock) ∧ k_ ≠ gb620)) (tV HL606_3.out) (fun k_ hk_ => (⟨hk_, hk_.1.1.2.2.2.1⟩ : _ ∧ k_ ≠ g593))) hk) (tb ho0)) (fun _ h_ => h_.1))
        replace HL606_5 := Aside0.mk (Kd.V_mono (Kd.V_told (Kd.V_oldK (Kd.V_mono (ok := fun k_ => (((((w.heap.size ≤ k_)) ∧ (k_ ≠ gb589 ∧ (k_ ≠ gb590 ∧ (k_ ≠ g593 ∧ k_ ≠ gb605)))) ∧ some k_ ≠ (.slice (some ad606) t601.length co23 : Value).ownBlock) ∧ k_ ≠ gb620)) (tV HL606_5.out) (fun k_ hk_ => (⟨hk_, hk_.1.1.2.2.2.1⟩ : _ ∧ k_ ≠ g593))) hk) (tb ho0)) (fun _ h_ => h_.1))
        have HO618 := Aside0.mk (Kd.N_lower (Kd.N_mono (ok' := fun k_ => (w.heap.size ≤ k_) ∧ some k_ ≠ (.slice (some ad606) t601.length co23 : Value).ownBlock ∧ k_ ≠ gb589 ∧ k_ ≠ gb590 ∧ k_ ≠ gb605 ∧ k_ ≠ gb620 ∧ k_ ≠ g593) ho0 (fun k_ hk_ => ⟨(Nat.le_trans (below_size (by repeat (first | (with_reducible first | exact HB.out | apply below_alloc | apply pw_below_drewN | apply below_drew1 | refine below_set ?_ (IsS72.ge HI593.out) | refine below_set ?_ GE589.out | refine below_set ?_ GE590.out | refine below_set ?_ GE605.out | refine below_set ?_ GE620.out) | exact HB.out))) hk_), (tfr HO603 k_ hk_), (tfB BK589 k_ hk_), (tfB BK590 k_ hk_), (tfB BK605 k_ hk_), (tfB BK620 k_ hk_), (IsS72.fresh (by repeat (first | (with_reducible first | exact HI593.out | apply IsS72.alloc | apply IsS72.drewN | apply IsS72.drew | apply IsS72.set_1 | refine IsS72.far ?_ NB593_589.out _ | refine IsS72.far ?_ NB593_590.out _ | refine IsS72.far ?_ NB593_605.out _ | refine IsS72.far ?_ NB593_620.out _) | exact HI593.out)) k_ hk_)⟩)) (below_size (by repeat (first | (with_reducible first | exact HB.out | apply below_alloc | apply pw_below_drewN | apply below_drew1 | refine below_set ?_ (IsS72.ge HI593.out) | refine below_set ?_ GE589.out | refine below_set ?_ GE590.out | refine below_set ?_ GE605.out | refine below_set ?_ GE620.out) | exact HB.out))))
        replace BK589 := tBk BK589 hk NB589_593
        replace BK590 := tBk BK590 hk NB590_593
        replace HO603 := Aside0.mk (Kd.N_mono (Kd.N_told (Kd.N_oldK (Kd.N_mono (ok := fun k_ => ((((w.heap.size ≤ k_)) ∧ (k_ ≠ gb589 ∧ (k_ ≠ gb590 ∧ (k_ ≠ g593 ∧ k_ ≠ gb605)))) ∧ k_ ≠ gb620)) (tN HO603.out) (fun k_ hk_ => (⟨hk_, hk_.1.2.2.2.1⟩ : _ ∧ k_ ≠ g593))) hk) (tb ho0)) (fun _ h_ => h_.1))
        replace BK605 := tBk BK605 hk NB605_593
        replace BK620 := tBk BK620 hk NB620_593
        replace HB := Aside0.mk (hb)
        replace HI593 := Aside0.mk (hi)
        (try clear hb)
        (try clear hb2)
        (try clear hk)
        (try clear hi)
        (try clear ho0)
        refine hK.out _ _ ⟨(blk_cell BK605.out 0).trans rfl, (blk_cell BK605.out 1).trans rfl, (blk_cell BK605.out 2).trans rfl, (blk_cell BK605.out 3).trans rfl, (blk_cell BK605.out 4).trans rfl, (blk_cell BK605.out 5).trans rfl, HS6_, HS7_, HS8_, HS9_, HS10_, HS11_⟩ (fun hHeld => ?_)
        clear hK K
        refine tnm (some 32) ?_
        exact tnx (hCont (v617, gb620) _ ⟨hHeld, (tVm HL606_3.out), (tVm HL606_5.out), (tNm HO603.out), (tNm HO618.out), (tH BK589.out), (tH BK590.out), (tH BK605.out), (tH BK620.out), GW620.out, GE620.out, NB593_620.out, NB620_593.out, NB589_620.out, NB620_589.out, NB590_620.out, NB620_590.out, NB605_620.out, NB620_605.out, (by repeat (first | (with_reducible first | exact HI593.out | apply IsS72.alloc | apply IsS72.drewN | apply IsS72.drew | apply IsS72.set_1 | refine IsS72.far ?_ NB593_589.out _ | refine IsS72.far ?_ NB593_590.out _ | refine IsS72.far ?_ NB593_605.out _ | refine IsS72.far ?_ NB593_620.out _) | exact HI593.out)), (by repeat (first | (with_reducible first | exact HB.out | apply below_alloc | apply pw_below_drewN | apply below_drew1 | refine below_set ?_ (IsS72.ge HI593.out) | refine below_set ?_ GE589.out | refine below_set ?_ GE590.out | refine below_set ?_ GE605.out | refine below_set ?_ GE620.out) | exact HB.out))⟩)
      ·skip
       refine box_step ?hg (N := 6) ?hd (cs := #[.bool false, .bool false, .int .i64 0, .int .i64 0, .int .i64 0, .slice none 0 0]) (t := 25) ?hr ?_; (case hd => rfl); (case hg => rfl); (case hr => first | (go_simp; done) | (go_simp; rfl))
       intro gb620 hg w27 hbox hb
       have HS6_ := tcb hb hHeld.2.2.2.2.2.2.1
       have HS7_ := tcb hb hHeld.2.2.2.2.2.2.2.1
       have HS8_ := tcb hb hHeld.2.2.2.2.2.2.2.2.1
       have HS9_ := tcb hb hHeld.2.2.2.2.2.2.2.2.2.1
       have HS10_ := tcb hb hHeld.2.2.2.2.2.2.2.2.2.2.1
       have HS11_ := tcb hb hHeld.2.2.2.2.2.2.2.2.2.2.2
       replace HO603 := tNB HO603 hg hb
       replace HL606_3 := tVB HL606_3 hg hb
       replace HL606_5 := tVB HL606_5 hg hb
       have BK620 := Aside0.mk (hbox)
       have GW620 := Aside0.mk ((by rw [hg]; exact (below_size (by repeat (first | (with_reducible first | exact HB.out | apply below_alloc | apply pw_below_drewN | apply below_drew1 | refine below_set ?_ (IsS72.ge HI593.out) | refine below_set ?_ GE589.out | refine below_set ?_ GE590.out | refine below_set ?_ GE605.out) | exact HB.out))) : w.heap.size ≤ gb620))
       have GE620 := Aside0.mk ((by rw [hg]; exact (below_size (by repeat (first | (with_reducible first | exact HB.out | apply below_alloc | apply pw_below_drewN | apply below_drew1 | refine below_set ?_ (IsS72.ge HI593.out) | refine below_set ?_ GE589.out | refine below_set ?_ GE590.out | refine below_set ?_ GE605.out) | exact HB.out))) : w.heap.size ≤ gb620))
       replace HB := Aside0.mk (below_step (by repeat (first | (with_reducible first | exact HB.out | apply below_alloc | apply pw_below_drewN | apply below_drew1 | refine below_set ?_ (IsS72.ge HI593.out) | refine below_set ?_ GE589.out | refine below_set ?_ GE590.out | refine below_set ?_ GE605.out) | exact HB.out)) hb)
       have NB589_620 := tlt BK589 hg
       have NB620_589 := tgt BK589 hg
       replace BK589 := tBb BK589 hb
       have NB590_620 := tlt BK590 hg
       have NB620_590 := tgt BK590 hg
       replace BK590 := tBb BK590 hb
       have NB605_620 := tlt BK605 hg
       have NB620_605 := tgt BK605 hg
       replace BK605 := tBb BK605 hb
       have NB593_620 := Aside0.mk ((by rw [hg]; exact Nat.ne_of_lt (IsS72.lt (show IsS72 w _ g593 t591 t608 from by repeat (first | (with_reducible first | exact HI593.out | apply IsS72.alloc | apply IsS72.drewN | apply IsS72.drew | apply IsS72.set_1 | refine IsS72.far ?_ NB593_589.out _ | refine IsS72.far ?_ NB593_590.out _ | refine IsS72.far ?_ NB593_605.out _) | exact HI593.out))) : g593 ≠ gb620))
       have NB620_593 := Aside0.mk ((by rw [hg]; exact Nat.ne_of_gt (IsS72.lt (show IsS72 w _ g593 t591 t608 from by repeat (first | (with_reducible first | exact HI593.out | apply IsS72.alloc | apply IsS72.drewN | apply IsS72.drew | apply IsS72.set_1 | refine IsS72.far ?_ NB593_589.out _ | refine IsS72.far ?_ NB593_590.out _ | refine IsS72.far ?_ NB593_605.out _) | exact HI593.out))) : gb620 ≠ g593))
       replace HI593 := Aside0.mk (IsS72.below (by repeat (first | (with_reducible first | exact HI593.out | apply IsS72.alloc | apply IsS72.drewN | apply IsS72.drew | apply IsS72.set_1 | refine IsS72.far ?_ NB593_589.out _ | refine IsS72.far ?_ NB593_590.out _ | refine IsS72.far ?_ NB593_605.out _) | exact HI593.out)) hb)
       clear hb hbox hg
       refine hK.out _ _ ⟨(blk_cell BK605.out 0).trans rfl, (blk_cell BK605.out 1).trans rfl, (blk_cell BK605.out 2).trans rfl, (blk_cell BK605.out 3).trans rfl, (blk_cell BK605.out 4).trans rfl, (blk_cell BK605.out 5).trans rfl, HS6_, HS7_, HS8_, HS9_, HS10_, HS11_⟩ (fun hHeld => ?_)
       clear hK K
       refine tnm (some 6) ?_
       refine one_ (i := 15) (N := some 28) #[true, true, true, true, true, true, true, true, true, true, true, true, true, true, true, true, false, false, false, false, true, false] rfl rfl (one_of HT_.out (by kernel_rfl)) (by decide) (fun K hK => ?_)
       refine goes_ Tryd.func24 (by kernel_rfl) rfl #[.pointer (some ⟨g593, 0, none⟩), .int .i64 12] (by rfl) rfl rfl tq ?_
       with_reducible refine (spec_l6Rd_pick.calls k g593 t591 t608 12 t609 t610 w _ ?side1 ?side2 A9.out).mono ?_
       (case side1 => repeat (first | (with_reducible first | exact HI593.out | apply IsS72.alloc | apply IsS72.drewN | apply IsS72.drew | apply IsS72.set_1 | refine IsS72.far ?_ NB593_589.out _ | refine IsS72.far ?_ NB593_590.out _ | refine IsS72.far ?_ NB593_605.out _ | refine IsS72.far ?_ NB593_620.out _) | exact HI593.out))
       (case side2 => repeat (first | (with_reducible first | exact HB.out | apply below_alloc | apply pw_below_drewN | apply below_drew1 | refine below_set ?_ (IsS72.ge HI593.out) | refine below_set ?_ GE589.out | refine below_set ?_ GE590.out | refine below_set ?_ GE605.out | refine below_set ?_ GE620.out) | exact HB.out))
       rintro e w28 ⟨rfl, hi, hb, hk⟩
       have HS6_ := keep_cell hk (hHeld.2.2.2.2.2.2.1) (tow (Kd.own_blk (IsS72.own_neN HI593.out HO603.out (by decide))))
       have HS7_ := keep_cell hk (hHeld.2.2.2.2.2.2.2.1) (tow (Kd.own_blk (IsS72.own_neN HI593.out HO603.out (by decide))))
       have HS8_ := keep_cell hk (hHeld.2.2.2.2.2.2.2.2.1) (tow (Kd.own_blk (IsS72.own_neN HI593.out HO603.out (by decide))))
       have HS9_ := keep_cell hk (hHeld.2.2.2.2.2.2.2.2.2.1) (tow (Kd.own_blk (IsS72.own_neN HI593.out HO603.out (by decide))))
       have HS10_ := keep_cell hk (hHeld.2.2.2.2.2.2.2.2.2.2.1) (tow (Kd.own_blk (IsS72.own_neN HI593.out HO603.out (by decide))))
       have HS11_ := keep_cell hk (hHeld.2.2.2.2.2.2.2.2.2.2.2) (tow (Kd.own_blk (IsS72.own_neN HI593.out HO603.out (by decide))))
       refine ⟨_, rfl, ?_⟩
       replace BK589 := tBk BK589 hk NB589_593
       replace BK590 := tBk BK590 hk NB590_593
       replace HO603 := tNk HO603 hk
       replace BK605 := tBk BK605 hk NB605_593
       replace HL606_3 := tVk HL606_3 hk
       replace HL606_5 := tVk HL606_5 hk
       replace BK620 := tBk BK620 hk NB620_593
       replace HB := Aside0.mk (hb)
       replace HI593 := Aside0.mk (hi)
       (try clear hb)
       (try clear hb2)
       (try clear hk)
       (try clear hi)
       refine hK.out _ _ ⟨(blk_cell BK605.out 0).trans rfl, (blk_cell BK605.out 1).trans rfl, (blk_cell BK605.out 2).trans rfl, (blk_cell BK605.out 3).trans rfl, (blk_cell BK605.out 4).trans rfl, (blk_cell BK605.out 5).trans rfl, HS6_, HS7_, HS8_, HS9_, HS10_, HS11_⟩ (fun hHeld => ?_)
       clear hK K
       refine tnm (some 28) ?_
       refine tpu 16 (some 29) #[true, true, true, true, true, true, true, true, true, true, true, true, true, true, true, true, true, false, false, false, true, false] ?_
       refine tpu 17 (some 30) #[true, true, true, true, true, true, true, true, true, true, true, true, true, true, true, true, true, true, false, false, true, false] ?_
       refine tpu 18 (some 31) #[true, true, true, true, true, true, true, true, true, true, true, true, true, true, true, true, true, true, true, false, true, false] ?_
       refine one_ (i := 19) (N := some 32) #[true, true, true, true, true, true, true, true, true, true, true, true, true, true, true, true, true, true, true, true, true, false] rfl rfl (one_of HT_.out (by kernel_rfl)) (by decide) (fun K hK => ?_)
       refine goes_ Tryd.func23 (by kernel_rfl) rfl #[.pointer (some ⟨g593, 0, none⟩), .int .i64 (wrap64 ((wrap64 ((wrap64 (((rd_T41 t601 (ji5)).f0) + 1)) + t607)) - (wrap64 ((wrap64 (Int.tdiv t609 11)) * 3))))] (by rfl) rfl rfl (by (try simp only [List.map_toArray, List.map_cons, List.map_nil]); first | done | (simp only [hji5]; rfl) | rfl | (simp only [List.length_drop, List.length_take]; rfl)) ?_
       with_reducible refine (spec_l91Batch.calls k g593 t591 t610 (wrap64 ((wrap64 ((wrap64 (((rd_T41 t601 (ji5)).f0) + 1)) + t607)) - (wrap64 ((wrap64 (Int.tdiv t609 11)) * 3)))) t611 t612 t613 t614 t615 t616 t619 w _ ?side1 ?side2 A10.out).mono ?_
       (case side1 => repeat (first | (with_reducible first | exact HI593.out | apply IsS72.alloc | apply IsS72.drewN | apply IsS72.drew | apply IsS72.set_1 | refine IsS72.far ?_ NB593_589.out _ | refine IsS72.far ?_ NB593_590.out _ | refine IsS72.far ?_ NB593_605.out _ | refine IsS72.far ?_ NB593_620.out _) | exact HI593.out))
       (case side2 => repeat (first | (with_reducible first | exact HB.out | apply below_alloc | apply pw_below_drewN | apply below_drew1 | refine below_set ?_ (IsS72.ge HI593.out) | refine below_set ?_ GE589.out | refine below_set ?_ GE590.out | refine below_set ?_ GE605.out | refine below_set ?_ GE620.out) | exact HB.out))
       rintro e w29 ⟨v617, rfl, ho0, hi, hb, hk⟩
       have HS6_ := keep_cell hk (hHeld.2.2.2.2.2.2.1) (tow (Kd.own_blk (IsS72.own_neN HI593.out HO603.out (by decide))))
       have HS7_ := keep_cell hk (hHeld.2.2.2.2.2.2.2.1) (tow (Kd.own_blk (IsS72.own_neN HI593.out HO603.out (by decide))))
       have HS8_ := keep_cell hk (hHeld.2.2.2.2.2.2.2.2.1) (tow (Kd.own_blk (IsS72.own_neN HI593.out HO603.out (by decide))))
       have HS9_ := keep_cell hk (hHeld.2.2.2.2.2.2.2.2.2.1) (tow (Kd.own_blk (IsS72.own_neN HI593.out HO603.out (by decide))))
       have HS10_ := keep_cell hk (hHeld.2.2.2.2.2.2.2.2.2.2.1) (tow (Kd.own_blk (IsS72.own_neN HI593.out HO603.out (by decide))))
       have HS11_ := keep_cell hk (hHeld.2.2.2.2.2.2.2.2.2.2.2) (tow (Kd.own_blk (IsS72.own_neN HI593.out HO603.out (by decide))))
       refine ⟨_, rfl, ?_⟩
       replace HL606_3 := Aside0.mk (Kd.V_mono (Kd.V_told (Kd.V_oldK (Kd.V_mono (ok := fun k_ => (((((w.heap.size ≤ k_)) ∧ (k_ ≠ gb589 ∧ (k_ ≠ gb590 ∧ (k_ ≠ g593 ∧ k_ ≠ gb605)))) ∧ some k_ ≠ (.slice (some ad606) t601.length co23 : Value).ownBlock) ∧ k_ ≠ gb620)) (tV HL606_3.out) (fun k_ hk_ => (⟨hk_, hk_.1.1.2.2.2.1⟩ : _ ∧ k_ ≠ g593))) hk) (tb ho0)) (fun _ h_ => h_.1))
       replace HL606_5 := Aside0.mk (Kd.V_mono (Kd.V_told (Kd.V_oldK (Kd.V_mono (ok := fun k_ => (((((w.heap.size ≤ k_)) ∧ (k_ ≠ gb589 ∧ (k_ ≠ gb590 ∧ (k_ ≠ g593 ∧ k_ ≠ gb605)))) ∧ some k_ ≠ (.slice (some ad606) t601.length co23 : Value).ownBlock) ∧ k_ ≠ gb620)) (tV HL606_5.out) (fun k_ hk_ => (⟨hk_, hk_.1.1.2.2.2.1⟩ : _ ∧ k_ ≠ g593))) hk) (tb ho0)) (fun _ h_ => h_.1))
       have HO618 := Aside0.mk (Kd.N_lower (Kd.N_mono (ok' := fun k_ => (w.heap.size ≤ k_) ∧ some k_ ≠ (.slice (some ad606) t601.length co23 : Value).ownBlock ∧ k_ ≠ gb589 ∧ k_ ≠ gb590 ∧ k_ ≠ gb605 ∧ k_ ≠ gb620 ∧ k_ ≠ g593) ho0 (fun k_ hk_ => ⟨(Nat.le_trans (below_size (by repeat (first | (with_reducible first | exact HB.out | apply below_alloc | apply pw_below_drewN | apply below_drew1 | refine below_set ?_ (IsS72.ge HI593.out) | refine below_set ?_ GE589.out | refine below_set ?_ GE590.out | refine below_set ?_ GE605.out | refine below_set ?_ GE620.out) | exact HB.out))) hk_), (tfr HO603 k_ hk_), (tfB BK589 k_ hk_), (tfB BK590 k_ hk_), (tfB BK605 k_ hk_), (tfB BK620 k_ hk_), (IsS72.fresh (by repeat (first | (with_reducible first | exact HI593.out | apply IsS72.alloc | apply IsS72.drewN | apply IsS72.drew | apply IsS72.set_1 | refine IsS72.far ?_ NB593_589.out _ | refine IsS72.far ?_ NB593_590.out _ | refine IsS72.far ?_ NB593_605.out _ | refine IsS72.far ?_ NB593_620.out _) | exact HI593.out)) k_ hk_)⟩)) (below_size (by repeat (first | (with_reducible first | exact HB.out | apply below_alloc | apply pw_below_drewN | apply below_drew1 | refine below_set ?_ (IsS72.ge HI593.out) | refine below_set ?_ GE589.out | refine below_set ?_ GE590.out | refine below_set ?_ GE605.out | refine below_set ?_ GE620.out) | exact HB.out))))
       replace BK589 := tBk BK589 hk NB589_593
       replace BK590 := tBk BK590 hk NB590_593
       replace HO603 := Aside0.mk (Kd.N_mono (Kd.N_told (Kd.N_oldK (Kd.N_mono (ok := fun k_ => ((((w.heap.size ≤ k_)) ∧ (k_ ≠ gb589 ∧ (k_ ≠ gb590 ∧ (k_ ≠ g593 ∧ k_ ≠ gb605)))) ∧ k_ ≠ gb620)) (tN HO603.out) (fun k_ hk_ => (⟨hk_, hk_.1.2.2.2.1⟩ : _ ∧ k_ ≠ g593))) hk) (tb ho0)) (fun _ h_ => h_.1))
       replace BK605 := tBk BK605 hk NB605_593
       replace BK620 := tBk BK620 hk NB620_593
       replace HB := Aside0.mk (hb)
       replace HI593 := Aside0.mk (hi)
       (try clear hb)
       (try clear hb2)
       (try clear hk)
       (try clear hi)
       (try clear ho0)
       refine hK.out _ _ ⟨(blk_cell BK605.out 0).trans rfl, (blk_cell BK605.out 1).trans rfl, (blk_cell BK605.out 2).trans rfl, (blk_cell BK605.out 3).trans rfl, (blk_cell BK605.out 4).trans rfl, (blk_cell BK605.out 5).trans rfl, HS6_, HS7_, HS8_, HS9_, HS10_, HS11_⟩ (fun hHeld => ?_)
       clear hK K
       refine tnm (some 32) ?_
       exact tnx (hCont (v617, gb620) _ ⟨hHeld, (tVm HL606_3.out), (tVm HL606_5.out), (tNm HO603.out), (tNm HO618.out), (tH BK589.out), (tH BK590.out), (tH BK605.out), (tH BK620.out), GW620.out, GE620.out, NB593_620.out, NB620_593.out, NB589_620.out, NB620_589.out, NB590_620.out, NB620_590.out, NB605_620.out, NB620_605.out, (by repeat (first | (with_reducible first | exact HI593.out | apply IsS72.alloc | apply IsS72.drewN | apply IsS72.drew | apply IsS72.set_1 | refine IsS72.far ?_ NB593_589.out _ | refine IsS72.far ?_ NB593_590.out _ | refine IsS72.far ?_ NB593_605.out _ | refine IsS72.far ?_ NB593_620.out _) | exact HI593.out)), (by repeat (first | (with_reducible first | exact HB.out | apply below_alloc | apply pw_below_drewN | apply below_drew1 | refine below_set ?_ (IsS72.ge HI593.out) | refine below_set ?_ GE589.out | refine below_set ?_ GE590.out | refine below_set ?_ GE605.out | refine below_set ?_ GE620.out) | exact HB.out))⟩)
     ·skip
      refine box_step ?hg (N := 6) ?hd (cs := #[.bool false, .bool false, .int .i64 0, .int .i64 0, .int .i64 0, .slice none 0 0]) (t := 25) ?hr ?_; (case hd => rfl); (case hg => rfl); (case hr => first | (go_simp; done) | (go_simp; rfl))
      intro gb620 hg w26 hbox hb
      have HS6_ := tcb hb hHeld.2.2.2.2.2.2.1
      have HS7_ := tcb hb hHeld.2.2.2.2.2.2.2.1
      have HS8_ := tcb hb hHeld.2.2.2.2.2.2.2.2.1
      have HS9_ := tcb hb hHeld.2.2.2.2.2.2.2.2.2.1
      have HS10_ := tcb hb hHeld.2.2.2.2.2.2.2.2.2.2.1
      have HS11_ := tcb hb hHeld.2.2.2.2.2.2.2.2.2.2.2
      replace HO603 := tNB HO603 hg hb
      replace HL606_3 := tVB HL606_3 hg hb
      replace HL606_5 := tVB HL606_5 hg hb
      replace HR606_3 := tCb HR606_3 hb
      replace HR606_5 := tCb HR606_5 hb
      have BK620 := Aside0.mk (hbox)
      have GW620 := Aside0.mk ((by rw [hg]; exact (below_size (by repeat (first | (with_reducible first | exact HB.out | apply below_alloc | apply pw_below_drewN | apply below_drew1 | refine below_set ?_ (IsS72.ge HI593.out) | refine below_set ?_ GE589.out | refine below_set ?_ GE590.out | refine below_set ?_ GE605.out) | exact HB.out))) : w.heap.size ≤ gb620))
      have GE620 := Aside0.mk ((by rw [hg]; exact (below_size (by repeat (first | (with_reducible first | exact HB.out | apply below_alloc | apply pw_below_drewN | apply below_drew1 | refine below_set ?_ (IsS72.ge HI593.out) | refine below_set ?_ GE589.out | refine below_set ?_ GE590.out | refine below_set ?_ GE605.out) | exact HB.out))) : w.heap.size ≤ gb620))
      replace HB := Aside0.mk (below_step (by repeat (first | (with_reducible first | exact HB.out | apply below_alloc | apply pw_below_drewN | apply below_drew1 | refine below_set ?_ (IsS72.ge HI593.out) | refine below_set ?_ GE589.out | refine below_set ?_ GE590.out | refine below_set ?_ GE605.out) | exact HB.out)) hb)
      have NB589_620 := tlt BK589 hg
      have NB620_589 := tgt BK589 hg
      replace BK589 := tBb BK589 hb
      have NB590_620 := tlt BK590 hg
      have NB620_590 := tgt BK590 hg
      replace BK590 := tBb BK590 hb
      have NB605_620 := tlt BK605 hg
      have NB620_605 := tgt BK605 hg
      replace BK605 := tBb BK605 hb
      have NB593_620 := Aside0.mk ((by rw [hg]; exact Nat.ne_of_lt (IsS72.lt (show IsS72 w _ g593 t591 t604 from by repeat (first | (with_reducible first | exact HI593.out | apply IsS72.alloc | apply IsS72.drewN | apply IsS72.drew | apply IsS72.set_1 | refine IsS72.far ?_ NB593_589.out _ | refine IsS72.far ?_ NB593_590.out _ | refine IsS72.far ?_ NB593_605.out _) | exact HI593.out))) : g593 ≠ gb620))
      have NB620_593 := Aside0.mk ((by rw [hg]; exact Nat.ne_of_gt (IsS72.lt (show IsS72 w _ g593 t591 t604 from by repeat (first | (with_reducible first | exact HI593.out | apply IsS72.alloc | apply IsS72.drewN | apply IsS72.drew | apply IsS72.set_1 | refine IsS72.far ?_ NB593_589.out _ | refine IsS72.far ?_ NB593_590.out _ | refine IsS72.far ?_ NB593_605.out _) | exact HI593.out))) : gb620 ≠ g593))
      replace HI593 := Aside0.mk (IsS72.below (by repeat (first | (with_reducible first | exact HI593.out | apply IsS72.alloc | apply IsS72.drewN | apply IsS72.drew | apply IsS72.set_1 | refine IsS72.far ?_ NB593_589.out _ | refine IsS72.far ?_ NB593_590.out _ | refine IsS72.far ?_ NB593_605.out _) | exact HI593.out)) hb)
      clear hb hbox hg
      refine hK.out _ _ ⟨(blk_cell BK605.out 0).trans rfl, (blk_cell BK605.out 1).trans rfl, (blk_cell BK605.out 2).trans rfl, (blk_cell BK605.out 3).trans rfl, (blk_cell BK605.out 4).trans rfl, (blk_cell BK605.out 5).trans rfl, HS6_, HS7_, HS8_, HS9_, HS10_, HS11_⟩ (fun hHeld => ?_)
      clear hK K
      refine tnm (some 6) ?_
      refine one_ (i := 12) (N := some 25) #[true, true, true, true, true, true, true, true, true, true, true, true, true, false, true, false, false, false, false, false, true, false] rfl rfl (one_of HT_.out (by kernel_rfl)) (by decide) (fun K hK => ?_)
      refine goes_ Tryd.func24 (by kernel_rfl) rfl #[.pointer (some ⟨g593, 0, none⟩), .int .i64 3] (by rfl) rfl rfl tq ?_
      with_reducible refine (spec_l6Rd_pick.calls k g593 t591 t604 3 t607 t608 w _ ?side1 ?side2 A8.out).mono ?_
      (case side1 => repeat (first | (with_reducible first | exact HI593.out | apply IsS72.alloc | apply IsS72.drewN | apply IsS72.drew | apply IsS72.set_1 | refine IsS72.far ?_ NB593_589.out _ | refine IsS72.far ?_ NB593_590.out _ | refine IsS72.far ?_ NB593_605.out _ | refine IsS72.far ?_ NB593_620.out _) | exact HI593.out))
      (case side2 => repeat (first | (with_reducible first | exact HB.out | apply below_alloc | apply pw_below_drewN | apply below_drew1 | refine below_set ?_ (IsS72.ge HI593.out) | refine below_set ?_ GE589.out | refine below_set ?_ GE590.out | refine below_set ?_ GE605.out | refine below_set ?_ GE620.out) | exact HB.out))
      rintro e w27 ⟨rfl, hi, hb, hk⟩
      have HS6_ := keep_cell hk (hHeld.2.2.2.2.2.2.1) (tow (Kd.own_blk (IsS72.own_neN HI593.out HO603.out (by decide))))
      have HS7_ := keep_cell hk (hHeld.2.2.2.2.2.2.2.1) (tow (Kd.own_blk (IsS72.own_neN HI593.out HO603.out (by decide))))
      have HS8_ := keep_cell hk (hHeld.2.2.2.2.2.2.2.2.1) (tow (Kd.own_blk (IsS72.own_neN HI593.out HO603.out (by decide))))
      have HS9_ := keep_cell hk (hHeld.2.2.2.2.2.2.2.2.2.1) (tow (Kd.own_blk (IsS72.own_neN HI593.out HO603.out (by decide))))
      have HS10_ := keep_cell hk (hHeld.2.2.2.2.2.2.2.2.2.2.1) (tow (Kd.own_blk (IsS72.own_neN HI593.out HO603.out (by decide))))
      have HS11_ := keep_cell hk (hHeld.2.2.2.2.2.2.2.2.2.2.2) (tow (Kd.own_blk (IsS72.own_neN HI593.out HO603.out (by decide))))
      refine ⟨_, rfl, ?_⟩
      replace BK589 := tBk BK589 hk NB589_593
      replace BK590 := tBk BK590 hk NB590_593
      replace HO603 := tNk HO603 hk
      replace BK605 := tBk BK605 hk NB605_593
      replace HL606_3 := tVk HL606_3 hk
      replace HL606_5 := tVk HL606_5 hk
      replace BK620 := tBk BK620 hk NB620_593
      replace HB := Aside0.mk (hb)
      replace HI593 := Aside0.mk (hi)
      (try clear hb)
      (try clear hb2)
      (try clear hk)
      (try clear hi)
      refine hK.out _ _ ⟨(blk_cell BK605.out 0).trans rfl, (blk_cell BK605.out 1).trans rfl, (blk_cell BK605.out 2).trans rfl, (blk_cell BK605.out 3).trans rfl, (blk_cell BK605.out 4).trans rfl, (blk_cell BK605.out 5).trans rfl, HS6_, HS7_, HS8_, HS9_, HS10_, HS11_⟩ (fun hHeld => ?_)
      clear hK K
      refine tnm (some 25) ?_
      refine tpu 13 (some 26) #[true, true, true, true, true, true, true, true, true, true, true, true, true, true, true, false, false, false, false, false, true, false] ?_
      refine one_ (i := 15) (N := some 28) #[true, true, true, true, true, true, true, true, true, true, true, true, true, true, true, true, false, false, false, false, true, false] rfl rfl (one_of HT_.out (by kernel_rfl)) (by decide) (fun K hK => ?_)
      refine goes_ Tryd.func24 (by kernel_rfl) rfl #[.pointer (some ⟨g593, 0, none⟩), .int .i64 12] (by rfl) rfl rfl tq ?_
      with_reducible refine (spec_l6Rd_pick.calls k g593 t591 t608 12 t609 t610 w _ ?side1 ?side2 A9.out).mono ?_
      (case side1 => repeat (first | (with_reducible first | exact HI593.out | apply IsS72.alloc | apply IsS72.drewN | apply IsS72.drew | apply IsS72.set_1 | refine IsS72.far ?_ NB593_589.out _ | refine IsS72.far ?_ NB593_590.out _ | refine IsS72.far ?_ NB593_605.out _ | refine IsS72.far ?_ NB593_620.out _) | exact HI593.out))
      (case side2 => repeat (first | (with_reducible first | exact HB.out | apply below_alloc | apply pw_below_drewN | apply below_drew1 | refine below_set ?_ (IsS72.ge HI593.out) | refine below_set ?_ GE589.out | refine below_set ?_ GE590.out | refine below_set ?_ GE605.out | refine below_set ?_ GE620.out) | exact HB.out))
      rintro e w28 ⟨rfl, hi, hb, hk⟩
      have HS6_ := keep_cell hk (hHeld.2.2.2.2.2.2.1) (tow (Kd.own_blk (IsS72.own_neN HI593.out HO603.out (by decide))))
      have HS7_ := keep_cell hk (hHeld.2.2.2.2.2.2.2.1) (tow (Kd.own_blk (IsS72.own_neN HI593.out HO603.out (by decide))))
      have HS8_ := keep_cell hk (hHeld.2.2.2.2.2.2.2.2.1) (tow (Kd.own_blk (IsS72.own_neN HI593.out HO603.out (by decide))))
      have HS9_ := keep_cell hk (hHeld.2.2.2.2.2.2.2.2.2.1) (tow (Kd.own_blk (IsS72.own_neN HI593.out HO603.out (by decide))))
      have HS10_ := keep_cell hk (hHeld.2.2.2.2.2.2.2.2.2.2.1) (tow (Kd.own_blk (IsS72.own_neN HI593.out HO603.out (by decide))))
      have HS11_ := keep_cell hk (hHeld.2.2.2.2.2.2.2.2.2.2.2) (tow (Kd.own_blk (IsS72.own_neN HI593.out HO603.out (by decide))))
      refine ⟨_, rfl, ?_⟩
      replace BK589 := tBk BK589 hk NB589_593
      replace BK590 := tBk BK590 hk NB590_593
      replace HO603 := tNk HO603 hk
      replace BK605 := tBk BK605 hk NB605_593
      replace HL606_3 := tVk HL606_3 hk
      replace HL606_5 := tVk HL606_5 hk
      replace BK620 := tBk BK620 hk NB620_593
      replace HB := Aside0.mk (hb)
      replace HI593 := Aside0.mk (hi)
      (try clear hb)
      (try clear hb2)
      (try clear hk)
      (try clear hi)
      refine hK.out _ _ ⟨(blk_cell BK605.out 0).trans rfl, (blk_cell BK605.out 1).trans rfl, (blk_cell BK605.out 2).trans rfl, (blk_cell BK605.out 3).trans rfl, (blk_cell BK605.out 4).trans rfl, (blk_cell BK605.out 5).trans rfl, HS6_, HS7_, HS8_, HS9_, HS10_, HS11_⟩ (fun hHeld => ?_)
      clear hK K
      refine tnm (some 28) ?_
      refine tpu 16 (some 29) #[true, true, true, true, true, true, true, true, true, true, true, true, true, true, true, true, true, false, false, false, true, false] ?_
      refine tpu 17 (some 30) #[true, true, true, true, true, true, true, true, true, true, true, true, true, true, true, true, true, true, false, false, true, false] ?_
      refine tpu 18 (some 31) #[true, true, true, true, true, true, true, true, true, true, true, true, true, true, true, true, true, true, true, false, true, false] ?_
      refine one_ (i := 19) (N := some 32) #[true, true, true, true, true, true, true, true, true, true, true, true, true, true, true, true, true, true, true, true, true, false] rfl rfl (one_of HT_.out (by kernel_rfl)) (by decide) (fun K hK => ?_)
      refine goes_ Tryd.func23 (by kernel_rfl) rfl #[.pointer (some ⟨g593, 0, none⟩), .int .i64 (wrap64 ((wrap64 ((wrap64 (((rd_T41 t601 (ji5)).f0) + 1)) + t607)) - (wrap64 ((wrap64 (Int.tdiv t609 11)) * 3))))] (by rfl) rfl rfl (by (try simp only [List.map_toArray, List.map_cons, List.map_nil]); first | done | (simp only [hji5]; rfl) | rfl | (simp only [List.length_drop, List.length_take]; rfl)) ?_
      with_reducible refine (spec_l91Batch.calls k g593 t591 t610 (wrap64 ((wrap64 ((wrap64 (((rd_T41 t601 (ji5)).f0) + 1)) + t607)) - (wrap64 ((wrap64 (Int.tdiv t609 11)) * 3)))) t611 t612 t613 t614 t615 t616 t619 w _ ?side1 ?side2 A10.out).mono ?_
      (case side1 => repeat (first | (with_reducible first | exact HI593.out | apply IsS72.alloc | apply IsS72.drewN | apply IsS72.drew | apply IsS72.set_1 | refine IsS72.far ?_ NB593_589.out _ | refine IsS72.far ?_ NB593_590.out _ | refine IsS72.far ?_ NB593_605.out _ | refine IsS72.far ?_ NB593_620.out _) | exact HI593.out))
      (case side2 => repeat (first | (with_reducible first | exact HB.out | apply below_alloc | apply pw_below_drewN | apply below_drew1 | refine below_set ?_ (IsS72.ge HI593.out) | refine below_set ?_ GE589.out | refine below_set ?_ GE590.out | refine below_set ?_ GE605.out | refine below_set ?_ GE620.out) | exact HB.out))
      rintro e w29 ⟨v617, rfl, ho0, hi, hb, hk⟩
      have HS6_ := keep_cell hk (hHeld.2.2.2.2.2.2.1) (tow (Kd.own_blk (IsS72.own_neN HI593.out HO603.out (by decide))))
      have HS7_ := keep_cell hk (hHeld.2.2.2.2.2.2.2.1) (tow (Kd.own_blk (IsS72.own_neN HI593.out HO603.out (by decide))))
      have HS8_ := keep_cell hk (hHeld.2.2.2.2.2.2.2.2.1) (tow (Kd.own_blk (IsS72.own_neN HI593.out HO603.out (by decide))))
      have HS9_ := keep_cell hk (hHeld.2.2.2.2.2.2.2.2.2.1) (tow (Kd.own_blk (IsS72.own_neN HI593.out HO603.out (by decide))))
      have HS10_ := keep_cell hk (hHeld.2.2.2.2.2.2.2.2.2.2.1) (tow (Kd.own_blk (IsS72.own_neN HI593.out HO603.out (by decide))))
      have HS11_ := keep_cell hk (hHeld.2.2.2.2.2.2.2.2.2.2.2) (tow (Kd.own_blk (IsS72.own_neN HI593.out HO603.out (by decide))))
      refine ⟨_, rfl, ?_⟩
      replace HL606_3 := Aside0.mk (Kd.V_mono (Kd.V_told (Kd.V_oldK (Kd.V_mono (ok := fun k_ => (((((w.heap.size ≤ k_)) ∧ (k_ ≠ gb589 ∧ (k_ ≠ gb590 ∧ (k_ ≠ g593 ∧ k_ ≠ gb605)))) ∧ some k_ ≠ (.slice (some ad606) t601.length co23 : Value).ownBlock) ∧ k_ ≠ gb620)) (tV HL606_3.out) (fun k_ hk_ => (⟨hk_, hk_.1.1.2.2.2.1⟩ : _ ∧ k_ ≠ g593))) hk) (tb ho0)) (fun _ h_ => h_.1))
      replace HL606_5 := Aside0.mk (Kd.V_mono (Kd.V_told (Kd.V_oldK (Kd.V_mono (ok := fun k_ => (((((w.heap.size ≤ k_)) ∧ (k_ ≠ gb589 ∧ (k_ ≠ gb590 ∧ (k_ ≠ g593 ∧ k_ ≠ gb605)))) ∧ some k_ ≠ (.slice (some ad606) t601.length co23 : Value).ownBlock) ∧ k_ ≠ gb620)) (tV HL606_5.out) (fun k_ hk_ => (⟨hk_, hk_.1.1.2.2.2.1⟩ : _ ∧ k_ ≠ g593))) hk) (tb ho0)) (fun _ h_ => h_.1))
      have HO618 := Aside0.mk (Kd.N_lower (Kd.N_mono (ok' := fun k_ => (w.heap.size ≤ k_) ∧ some k_ ≠ (.slice (some ad606) t601.length co23 : Value).ownBlock ∧ k_ ≠ gb589 ∧ k_ ≠ gb590 ∧ k_ ≠ gb605 ∧ k_ ≠ gb620 ∧ k_ ≠ g593) ho0 (fun k_ hk_ => ⟨(Nat.le_trans (below_size (by repeat (first | (with_reducible first | exact HB.out | apply below_alloc | apply pw_below_drewN | apply below_drew1 | refine below_set ?_ (IsS72.ge HI593.out) | refine below_set ?_ GE589.out | refine below_set ?_ GE590.out | refine below_set ?_ GE605.out | refine below_set ?_ GE620.out) | exact HB.out))) hk_), (tfr HO603 k_ hk_), (tfB BK589 k_ hk_), (tfB BK590 k_ hk_), (tfB BK605 k_ hk_), (tfB BK620 k_ hk_), (IsS72.fresh (by repeat (first | (with_reducible first | exact HI593.out | apply IsS72.alloc | apply IsS72.drewN | apply IsS72.drew | apply IsS72.set_1 | refine IsS72.far ?_ NB593_589.out _ | refine IsS72.far ?_ NB593_590.out _ | refine IsS72.far ?_ NB593_605.out _ | refine IsS72.far ?_ NB593_620.out _) | exact HI593.out)) k_ hk_)⟩)) (below_size (by repeat (first | (with_reducible first | exact HB.out | apply below_alloc | apply pw_below_drewN | apply below_drew1 | refine below_set ?_ (IsS72.ge HI593.out) | refine below_set ?_ GE589.out | refine below_set ?_ GE590.out | refine below_set ?_ GE605.out | refine below_set ?_ GE620.out) | exact HB.out))))
      replace BK589 := tBk BK589 hk NB589_593
      replace BK590 := tBk BK590 hk NB590_593
      replace HO603 := Aside0.mk (Kd.N_mono (Kd.N_told (Kd.N_oldK (Kd.N_mono (ok := fun k_ => ((((w.heap.size ≤ k_)) ∧ (k_ ≠ gb589 ∧ (k_ ≠ gb590 ∧ (k_ ≠ g593 ∧ k_ ≠ gb605)))) ∧ k_ ≠ gb620)) (tN HO603.out) (fun k_ hk_ => (⟨hk_, hk_.1.2.2.2.1⟩ : _ ∧ k_ ≠ g593))) hk) (tb ho0)) (fun _ h_ => h_.1))
      replace BK605 := tBk BK605 hk NB605_593
      replace BK620 := tBk BK620 hk NB620_593
      replace HB := Aside0.mk (hb)
      replace HI593 := Aside0.mk (hi)
      (try clear hb)
      (try clear hb2)
      (try clear hk)
      (try clear hi)
      (try clear ho0)
      refine hK.out _ _ ⟨(blk_cell BK605.out 0).trans rfl, (blk_cell BK605.out 1).trans rfl, (blk_cell BK605.out 2).trans rfl, (blk_cell BK605.out 3).trans rfl, (blk_cell BK605.out 4).trans rfl, (blk_cell BK605.out 5).trans rfl, HS6_, HS7_, HS8_, HS9_, HS10_, HS11_⟩ (fun hHeld => ?_)
      clear hK K
      refine tnm (some 32) ?_
      exact tnx (hCont (v617, gb620) _ ⟨hHeld, (tVm HL606_3.out), (tVm HL606_5.out), (tNm HO603.out), (tNm HO618.out), (tH BK589.out), (tH BK590.out), (tH BK605.out), (tH BK620.out), GW620.out, GE620.out, NB593_620.out, NB620_593.out, NB589_620.out, NB620_589.out, NB590_620.out, NB620_590.out, NB605_620.out, NB620_605.out, (by repeat (first | (with_reducible first | exact HI593.out | apply IsS72.alloc | apply IsS72.drewN | apply IsS72.drew | apply IsS72.set_1 | refine IsS72.far ?_ NB593_589.out _ | refine IsS72.far ?_ NB593_590.out _ | refine IsS72.far ?_ NB593_605.out _ | refine IsS72.far ?_ NB593_620.out _) | exact HI593.out)), (by repeat (first | (with_reducible first | exact HB.out | apply below_alloc | apply pw_below_drewN | apply below_drew1 | refine below_set ?_ (IsS72.ge HI593.out) | refine below_set ?_ GE589.out | refine below_set ?_ GE590.out | refine below_set ?_ GE605.out | refine below_set ?_ GE620.out) | exact HB.out))⟩)
    rintro ⟨v617, gb620⟩ w30 ⟨hS_, h0_, h1_, h2_, h3_, h4_, h5_, h6_, h7_, h8_, h9_, h10_, h11_, h12_, h13_, h14_, h15_, h16_, h17_, h18_, h19_⟩
    try dsimp only at hS_ h0_ h1_ h2_ h3_ h4_ h5_ h6_ h7_ h8_ h9_ h10_ h11_ h12_ h13_ h14_ h15_ h16_ h17_ h18_ h19_
    clear HO603 BK589 BK590 BK605 HI593 HB
    have HL606_3 := Aside0.mk h0_
    have HL606_5 := Aside0.mk h1_
    have HO603 := Aside0.mk h2_
    have HO618 := Aside0.mk h3_
    have BK589 := Aside0.mk h4_
    have BK590 := Aside0.mk h5_
    have BK605 := Aside0.mk h6_
    have BK620 := Aside0.mk h7_
    have GW620 := Aside0.mk h8_
    have GE620 := Aside0.mk h9_
    have NB593_620 := Aside0.mk h10_
    have NB620_593 := Aside0.mk h11_
    have NB589_620 := Aside0.mk h12_
    have NB620_589 := Aside0.mk h13_
    have NB590_620 := Aside0.mk h14_
    have NB620_590 := Aside0.mk h15_
    have NB605_620 := Aside0.mk h16_
    have NB620_605 := Aside0.mk h17_
    have HI593 := Aside0.mk h18_
    have HB := Aside0.mk h19_
    clear h0_ h1_ h2_ h3_ h4_ h5_ h6_ h7_ h8_ h9_ h10_ h11_ h12_ h13_ h14_ h15_ h16_ h17_ h18_ h19_
    have hHeld := hS_
    obtain ⟨Ao36, co36, eo36⟩ := Kd.N_slice HO618.out
    (first | subst eo36 | (injection eo36 with f1_ f2_ f3_; have f4_ := f1_.symm; have f5_ := f3_.symm; clear f1_ f2_ f3_; subst f4_; subst f5_))
    refine tnp ?_
    refine one_ (i := 21) (N := none) #[true, true, true, true, true, true, true, true, true, true, true, true, true, true, true, true, true, true, true, true, true, true] rfl rfl (one_of HT_.out (by kernel_rfl)) (by decide) (fun K hK => ?_)
    have hs31 : w30.cell? ⟨gb620, 0, none⟩ = some (.bool false) := (blk_cell BK620.out 0).trans rfl
    have hfs31 := blk_frozen BK620.out 0
    have hns31_0 := NB589_620.out
    have hns31_1 := NB590_620.out
    have hns31_2 := NB605_620.out
    have hms31_0 := NB620_589.out
    have hms31_1 := NB620_590.out
    have hms31_2 := NB620_605.out
    have hs32 : w30.cell? ⟨gb620, 1, none⟩ = some (.bool false) := (blk_cell BK620.out 1).trans rfl
    have hfs32 := blk_frozen BK620.out 1
    have hs33 : w30.cell? ⟨gb620, 2, none⟩ = some (.int .i64 0) := (blk_cell BK620.out 2).trans rfl
    have hfs33 := blk_frozen BK620.out 2
    have hs34 : w30.cell? ⟨gb620, 3, none⟩ = some (.int .i64 0) := (blk_cell BK620.out 3).trans rfl
    have hfs34 := blk_frozen BK620.out 3
    have hs35 : w30.cell? ⟨gb620, 4, none⟩ = some (.int .i64 0) := (blk_cell BK620.out 4).trans rfl
    have hfs35 := blk_frozen BK620.out 4
    have hs37 : w30.cell? ⟨gb620, 5, none⟩ = some (.slice none 0 0) := (blk_cell BK620.out 5).trans rfl
    have hfs37 := blk_frozen BK620.out 5
    refine tsk ?_
    refine hK.out _ _ ⟨(tcg NB605_620.out hHeld.1), (tcg NB605_620.out hHeld.2.1), (tcg NB605_620.out hHeld.2.2.1), (tcg NB605_620.out hHeld.2.2.2.1), (tcg NB605_620.out hHeld.2.2.2.2.1), (tcg NB605_620.out hHeld.2.2.2.2.2.1), (tcg (Kd.own_blk (Kd.N_away HO603.out (fun _ hk => hk.2.2.2.2.2.2))) hHeld.2.2.2.2.2.2.1), (tcg (Kd.own_blk (Kd.N_away HO603.out (fun _ hk => hk.2.2.2.2.2.2))) hHeld.2.2.2.2.2.2.2.1), (tcg (Kd.own_blk (Kd.N_away HO603.out (fun _ hk => hk.2.2.2.2.2.2))) hHeld.2.2.2.2.2.2.2.2.1), (tcg (Kd.own_blk (Kd.N_away HO603.out (fun _ hk => hk.2.2.2.2.2.2))) hHeld.2.2.2.2.2.2.2.2.2.1), (tcg (Kd.own_blk (Kd.N_away HO603.out (fun _ hk => hk.2.2.2.2.2.2))) hHeld.2.2.2.2.2.2.2.2.2.2.1), (tcg (Kd.own_blk (Kd.N_away HO603.out (fun _ hk => hk.2.2.2.2.2.2))) hHeld.2.2.2.2.2.2.2.2.2.2.2)⟩ (fun hHeld => ?_)
    clear hK K
    refine done_ (done_of HT_.out (by kernel_rfl)) ?_
    try go_wp2_with (first | ((with_reducible refine gate_callee (f := 24) rfl ?_); refine goesL_ (some 34) rfl rfl Tryd.func24 (by kernel_rfl) rfl #[.pointer (some ⟨g593, 0, none⟩), .int .i64 3] rfl tq ?_; (with_reducible refine (spec_l6Rd_pick.calls k g593 t591 t619 3 t621 t622 w _ ?side1 ?side2 A11.out).mono ?_); (case side1 => repeat (first | (with_reducible first | exact HI593.out | apply IsS72.alloc | apply IsS72.drewN | apply IsS72.drew | apply IsS72.set_1 | refine IsS72.far ?_ NB593_589.out _ | refine IsS72.far ?_ NB593_590.out _ | refine IsS72.far ?_ NB593_605.out _ | refine IsS72.far ?_ NB593_620.out _) | exact HI593.out)); (case side2 => repeat (first | (with_reducible first | exact HB.out | apply below_alloc | apply pw_below_drewN | apply below_drew1 | refine below_set ?_ (IsS72.ge HI593.out) | refine below_set ?_ GE589.out | refine below_set ?_ GE590.out | refine below_set ?_ GE605.out | refine below_set ?_ GE620.out) | exact HB.out)); rintro e w38 ⟨rfl, hi, hb, hk⟩; refine ⟨_, rfl, ?_⟩; replace BK589 := tBk BK589 hk NB589_593; replace BK590 := tBk BK590 hk NB590_593; replace HO603 := tNk HO603 hk; replace BK605 := tBk BK605 hk NB605_593; replace HL606_3 := tVk HL606_3 hk; replace HL606_5 := tVk HL606_5 hk; replace HO618 := tNk HO618 hk; replace BK620 := tBq (o' := .cells #[.bool t611, .bool t612, .int .i64 t613, .int .i64 t614, .int .i64 t615, .slice Ao36 t616.length co36] 25 (0, 0)) BK620 hk NB620_593; replace HB := Aside0.mk (hb); replace HI593 := Aside0.mk (hi); (try clear hb); (try clear hb2); (try clear hk); (try clear hi); have hnb39 := NB620_589.out; have hnc39 := NB589_620.out; have hnb40 := NB620_590.out; have hnc40 := NB590_620.out; have hnb41 := NB620_605.out; have hnc41 := NB605_620.out; have hnb42 := NB620_593.out; have hnc42 := NB593_620.out; obtain ⟨hcz43_0, hcz43_1, hcz43_2, hcz43_3, hcz43_4, hcz43_5, hfz43_0, hfz43_1, hfz43_2, hfz43_3, hfz43_4, hfz43_5⟩ := cells6 BK620.out; obtain ⟨hcz44_0, hcz44_1, hcz44_2, hcz44_3, hcz44_4, hcz44_5, hfz44_0, hfz44_1, hfz44_2, hfz44_3, hfz44_4, hfz44_5⟩ := cells6 BK605.out))
    have n0_ : Aside0 (Kd.N k41 41 (((((((((w38.setCell ⟨gb605, 0, none⟩ (.bool t611)).setCell ⟨gb605, 2, none⟩ (.int .i64 255)).setCell ⟨gb605, 3, none⟩ (.int .i64 0)).setCell ⟨gb605, 4, none⟩ (.int .i64 0)).setCell ⟨gb605, 1, none⟩ (.bool false)).setCell ⟨gb620, 2, none⟩ (.int .i64 255)).setCell ⟨gb620, 3, none⟩ (.int .i64 0)).setCell ⟨gb620, 4, none⟩ (.int .i64 0)).setCell ⟨gb620, 1, none⟩ (.bool false)) w.heap.size (fun k_ => (w.heap.size ≤ k_) ∧ some k_ ≠ (.slice Ao36 t616.length co36 : Value).ownBlock ∧ k_ ≠ gb589 ∧ k_ ≠ gb590 ∧ k_ ≠ g593 ∧ k_ ≠ gb605 ∧ k_ ≠ gb620) (.slice (some ad606) t601.length co23) t601) := ⟨by (with_reducible repeat (first | apply Kd.N_alloc | apply Kd.N_drewN | apply Kd.N_drew)); exact Kd.N_mono (Kd.N_far (p := ⟨gb620, 1, none⟩) (Kd.N_far (p := ⟨gb620, 4, none⟩) (Kd.N_far (p := ⟨gb620, 3, none⟩) (Kd.N_far (p := ⟨gb620, 2, none⟩) (Kd.N_far (p := ⟨gb605, 1, none⟩) (Kd.N_far (p := ⟨gb605, 4, none⟩) (Kd.N_far (p := ⟨gb605, 3, none⟩) (Kd.N_far (p := ⟨gb605, 2, none⟩) (Kd.N_far (p := ⟨gb605, 0, none⟩) (Kd.N_mono (Kd.N_mono HO603.out (fun k_ hk => (⟨hk, hk.2.2.2.2.2.1⟩ : _ ∧ k_ ≠ gb605))) (fun k_ hk => (⟨hk, hk.1.2.2.2.2.2.2⟩ : _ ∧ k_ ≠ gb620))) (fun _ hk => hk.1.2) (.bool t611)) (fun _ hk => hk.1.2) (.int .i64 255)) (fun _ hk => hk.1.2) (.int .i64 0)) (fun _ hk => hk.1.2) (.int .i64 0)) (fun _ hk => hk.1.2) (.bool false)) (fun _ hk => hk.2) (.int .i64 255)) (fun _ hk => hk.2) (.int .i64 0)) (fun _ hk => hk.2) (.int .i64 0)) (fun _ hk => hk.2) (.bool false)) (fun _ hk => ⟨hk.1.1.1, ⟨hk.1.1.2.1, ⟨hk.1.1.2.2.1, ⟨hk.1.1.2.2.2.1, ⟨hk.1.1.2.2.2.2.1, ⟨hk.1.1.2.2.2.2.2.1, hk.1.1.2.2.2.2.2.2⟩⟩⟩⟩⟩⟩)⟩
    have n1_ : Aside0 (Kd.V (Kd.int .i64) 3 (((((((((w38.setCell ⟨gb605, 0, none⟩ (.bool t611)).setCell ⟨gb605, 2, none⟩ (.int .i64 255)).setCell ⟨gb605, 3, none⟩ (.int .i64 0)).setCell ⟨gb605, 4, none⟩ (.int .i64 0)).setCell ⟨gb605, 1, none⟩ (.bool false)).setCell ⟨gb620, 2, none⟩ (.int .i64 255)).setCell ⟨gb620, 3, none⟩ (.int .i64 0)).setCell ⟨gb620, 4, none⟩ (.int .i64 0)).setCell ⟨gb620, 1, none⟩ (.bool false)) w.heap.size (fun k_ => (w.heap.size ≤ k_) ∧ some k_ ≠ (.slice (some ad606) t601.length co23 : Value).ownBlock ∧ some k_ ≠ (.slice Ao36 t616.length co36 : Value).ownBlock ∧ k_ ≠ gb589 ∧ k_ ≠ gb590 ∧ k_ ≠ g593 ∧ k_ ≠ gb605 ∧ k_ ≠ gb620) (.slice A606_3 ((rd_T41 t601 (ji5)).f3).length c606_3) ((rd_T41 t601 (ji5)).f3)) := ⟨by (with_reducible repeat (first | apply Kd.V_alloc | apply Kd.V_drewN | apply Kd.V_drew)); exact Kd.V_mono (Kd.V_far (p := ⟨gb620, 1, none⟩) (Kd.V_far (p := ⟨gb620, 4, none⟩) (Kd.V_far (p := ⟨gb620, 3, none⟩) (Kd.V_far (p := ⟨gb620, 2, none⟩) (Kd.V_far (p := ⟨gb605, 1, none⟩) (Kd.V_far (p := ⟨gb605, 4, none⟩) (Kd.V_far (p := ⟨gb605, 3, none⟩) (Kd.V_far (p := ⟨gb605, 2, none⟩) (Kd.V_far (p := ⟨gb605, 0, none⟩) (Kd.V_mono (Kd.V_mono HL606_3.out (fun k_ hk => (⟨hk, hk.2.2.2.2.2.2.1⟩ : _ ∧ k_ ≠ gb605))) (fun k_ hk => (⟨hk, hk.1.2.2.2.2.2.2.2⟩ : _ ∧ k_ ≠ gb620))) (fun _ hk => hk.1.2) (.bool t611)) (fun _ hk => hk.1.2) (.int .i64 255)) (fun _ hk => hk.1.2) (.int .i64 0)) (fun _ hk => hk.1.2) (.int .i64 0)) (fun _ hk => hk.1.2) (.bool false)) (fun _ hk => hk.2) (.int .i64 255)) (fun _ hk => hk.2) (.int .i64 0)) (fun _ hk => hk.2) (.int .i64 0)) (fun _ hk => hk.2) (.bool false)) (fun _ hk => ⟨hk.1.1.1, ⟨hk.1.1.2.1, ⟨hk.1.1.2.2.1, ⟨hk.1.1.2.2.2.1, ⟨hk.1.1.2.2.2.2.1, ⟨hk.1.1.2.2.2.2.2.1, ⟨hk.1.1.2.2.2.2.2.2.1, hk.1.1.2.2.2.2.2.2.2⟩⟩⟩⟩⟩⟩⟩)⟩
    have n2_ : Aside0 (Kd.V (Kd.int .i64) 3 (((((((((w38.setCell ⟨gb605, 0, none⟩ (.bool t611)).setCell ⟨gb605, 2, none⟩ (.int .i64 255)).setCell ⟨gb605, 3, none⟩ (.int .i64 0)).setCell ⟨gb605, 4, none⟩ (.int .i64 0)).setCell ⟨gb605, 1, none⟩ (.bool false)).setCell ⟨gb620, 2, none⟩ (.int .i64 255)).setCell ⟨gb620, 3, none⟩ (.int .i64 0)).setCell ⟨gb620, 4, none⟩ (.int .i64 0)).setCell ⟨gb620, 1, none⟩ (.bool false)) w.heap.size (fun k_ => (w.heap.size ≤ k_) ∧ some k_ ≠ (.slice (some ad606) t601.length co23 : Value).ownBlock ∧ some k_ ≠ (.slice Ao36 t616.length co36 : Value).ownBlock ∧ k_ ≠ gb589 ∧ k_ ≠ gb590 ∧ k_ ≠ g593 ∧ k_ ≠ gb605 ∧ k_ ≠ gb620) (.slice A606_5 ((rd_T41 t601 (ji5)).f5).length c606_5) ((rd_T41 t601 (ji5)).f5)) := ⟨by (with_reducible repeat (first | apply Kd.V_alloc | apply Kd.V_drewN | apply Kd.V_drew)); exact Kd.V_mono (Kd.V_far (p := ⟨gb620, 1, none⟩) (Kd.V_far (p := ⟨gb620, 4, none⟩) (Kd.V_far (p := ⟨gb620, 3, none⟩) (Kd.V_far (p := ⟨gb620, 2, none⟩) (Kd.V_far (p := ⟨gb605, 1, none⟩) (Kd.V_far (p := ⟨gb605, 4, none⟩) (Kd.V_far (p := ⟨gb605, 3, none⟩) (Kd.V_far (p := ⟨gb605, 2, none⟩) (Kd.V_far (p := ⟨gb605, 0, none⟩) (Kd.V_mono (Kd.V_mono HL606_5.out (fun k_ hk => (⟨hk, hk.2.2.2.2.2.2.1⟩ : _ ∧ k_ ≠ gb605))) (fun k_ hk => (⟨hk, hk.1.2.2.2.2.2.2.2⟩ : _ ∧ k_ ≠ gb620))) (fun _ hk => hk.1.2) (.bool t611)) (fun _ hk => hk.1.2) (.int .i64 255)) (fun _ hk => hk.1.2) (.int .i64 0)) (fun _ hk => hk.1.2) (.int .i64 0)) (fun _ hk => hk.1.2) (.bool false)) (fun _ hk => hk.2) (.int .i64 255)) (fun _ hk => hk.2) (.int .i64 0)) (fun _ hk => hk.2) (.int .i64 0)) (fun _ hk => hk.2) (.bool false)) (fun _ hk => ⟨hk.1.1.1, ⟨hk.1.1.2.1, ⟨hk.1.1.2.2.1, ⟨hk.1.1.2.2.2.1, ⟨hk.1.1.2.2.2.2.1, ⟨hk.1.1.2.2.2.2.2.1, ⟨hk.1.1.2.2.2.2.2.2.1, hk.1.1.2.2.2.2.2.2.2⟩⟩⟩⟩⟩⟩⟩)⟩
    have n3_ : Aside0 (Kd.N k41 41 (((((((((w38.setCell ⟨gb605, 0, none⟩ (.bool t611)).setCell ⟨gb605, 2, none⟩ (.int .i64 255)).setCell ⟨gb605, 3, none⟩ (.int .i64 0)).setCell ⟨gb605, 4, none⟩ (.int .i64 0)).setCell ⟨gb605, 1, none⟩ (.bool false)).setCell ⟨gb620, 2, none⟩ (.int .i64 255)).setCell ⟨gb620, 3, none⟩ (.int .i64 0)).setCell ⟨gb620, 4, none⟩ (.int .i64 0)).setCell ⟨gb620, 1, none⟩ (.bool false)) w.heap.size (fun k_ => (w.heap.size ≤ k_) ∧ some k_ ≠ (.slice (some ad606) t601.length co23 : Value).ownBlock ∧ k_ ≠ gb589 ∧ k_ ≠ gb590 ∧ k_ ≠ g593 ∧ k_ ≠ gb605 ∧ k_ ≠ gb620) (.slice Ao36 t616.length co36) t616) := ⟨by (with_reducible repeat (first | apply Kd.N_alloc | apply Kd.N_drewN | apply Kd.N_drew)); exact Kd.N_mono (Kd.N_far (p := ⟨gb620, 1, none⟩) (Kd.N_far (p := ⟨gb620, 4, none⟩) (Kd.N_far (p := ⟨gb620, 3, none⟩) (Kd.N_far (p := ⟨gb620, 2, none⟩) (Kd.N_far (p := ⟨gb605, 1, none⟩) (Kd.N_far (p := ⟨gb605, 4, none⟩) (Kd.N_far (p := ⟨gb605, 3, none⟩) (Kd.N_far (p := ⟨gb605, 2, none⟩) (Kd.N_far (p := ⟨gb605, 0, none⟩) (Kd.N_mono (Kd.N_mono HO618.out (fun k_ hk => (⟨hk, hk.2.2.2.2.2.1⟩ : _ ∧ k_ ≠ gb605))) (fun k_ hk => (⟨hk, hk.1.2.2.2.2.2.2⟩ : _ ∧ k_ ≠ gb620))) (fun _ hk => hk.1.2) (.bool t611)) (fun _ hk => hk.1.2) (.int .i64 255)) (fun _ hk => hk.1.2) (.int .i64 0)) (fun _ hk => hk.1.2) (.int .i64 0)) (fun _ hk => hk.1.2) (.bool false)) (fun _ hk => hk.2) (.int .i64 255)) (fun _ hk => hk.2) (.int .i64 0)) (fun _ hk => hk.2) (.int .i64 0)) (fun _ hk => hk.2) (.bool false)) (fun _ hk => ⟨hk.1.1.1, ⟨hk.1.1.2.1, ⟨hk.1.1.2.2.1, ⟨hk.1.1.2.2.2.1, ⟨hk.1.1.2.2.2.2.1, ⟨hk.1.1.2.2.2.2.2.1, hk.1.1.2.2.2.2.2.2⟩⟩⟩⟩⟩⟩)⟩
    have n4_ : Aside0 ((((((((((w38.setCell ⟨gb605, 0, none⟩ (.bool t611)).setCell ⟨gb605, 2, none⟩ (.int .i64 255)).setCell ⟨gb605, 3, none⟩ (.int .i64 0)).setCell ⟨gb605, 4, none⟩ (.int .i64 0)).setCell ⟨gb605, 1, none⟩ (.bool false)).setCell ⟨gb620, 2, none⟩ (.int .i64 255)).setCell ⟨gb620, 3, none⟩ (.int .i64 0)).setCell ⟨gb620, 4, none⟩ (.int .i64 0)).setCell ⟨gb620, 1, none⟩ (.bool false)).heap[gb589]? = some (.cells #[.bool false, .bool false, .int .i64 0, .int .i64 0, .int .i64 0, .slice none 0 0] 25 (0, 0))) := ⟨tH BK589.out⟩
    have n5_ : Aside0 ((((((((((w38.setCell ⟨gb605, 0, none⟩ (.bool t611)).setCell ⟨gb605, 2, none⟩ (.int .i64 255)).setCell ⟨gb605, 3, none⟩ (.int .i64 0)).setCell ⟨gb605, 4, none⟩ (.int .i64 0)).setCell ⟨gb605, 1, none⟩ (.bool false)).setCell ⟨gb620, 2, none⟩ (.int .i64 255)).setCell ⟨gb620, 3, none⟩ (.int .i64 0)).setCell ⟨gb620, 4, none⟩ (.int .i64 0)).setCell ⟨gb620, 1, none⟩ (.bool false)).heap[gb590]? = some (.cells #[.bool false, .bool false, .int .i64 0, .int .i64 0, .int .i64 0, .slice none 0 0] 25 (0, 0))) := ⟨tH BK590.out⟩
    have n6_ : Aside0 ((((((((((w38.setCell ⟨gb605, 0, none⟩ (.bool t611)).setCell ⟨gb605, 2, none⟩ (.int .i64 255)).setCell ⟨gb605, 3, none⟩ (.int .i64 0)).setCell ⟨gb605, 4, none⟩ (.int .i64 0)).setCell ⟨gb605, 1, none⟩ (.bool false)).setCell ⟨gb620, 2, none⟩ (.int .i64 255)).setCell ⟨gb620, 3, none⟩ (.int .i64 0)).setCell ⟨gb620, 4, none⟩ (.int .i64 0)).setCell ⟨gb620, 1, none⟩ (.bool false)).heap[gb605]? = some (.cells #[.bool t611, .bool false, .int .i64 255, .int .i64 0, .int .i64 0, .slice (some ad606) t601.length co23] 25 (0, 0))) := ⟨tP BK605.out⟩
    have n7_ : Aside0 ((((((((((w38.setCell ⟨gb605, 0, none⟩ (.bool t611)).setCell ⟨gb605, 2, none⟩ (.int .i64 255)).setCell ⟨gb605, 3, none⟩ (.int .i64 0)).setCell ⟨gb605, 4, none⟩ (.int .i64 0)).setCell ⟨gb605, 1, none⟩ (.bool false)).setCell ⟨gb620, 2, none⟩ (.int .i64 255)).setCell ⟨gb620, 3, none⟩ (.int .i64 0)).setCell ⟨gb620, 4, none⟩ (.int .i64 0)).setCell ⟨gb620, 1, none⟩ (.bool false)).heap[gb620]? = some (.cells #[.bool t611, .bool false, .int .i64 255, .int .i64 0, .int .i64 0, .slice Ao36 t616.length co36] 25 (0, 0))) := ⟨tP BK620.out⟩
    have n8_ : Aside0 (IsS72 w (((((((((w38.setCell ⟨gb605, 0, none⟩ (.bool t611)).setCell ⟨gb605, 2, none⟩ (.int .i64 255)).setCell ⟨gb605, 3, none⟩ (.int .i64 0)).setCell ⟨gb605, 4, none⟩ (.int .i64 0)).setCell ⟨gb605, 1, none⟩ (.bool false)).setCell ⟨gb620, 2, none⟩ (.int .i64 255)).setCell ⟨gb620, 3, none⟩ (.int .i64 0)).setCell ⟨gb620, 4, none⟩ (.int .i64 0)).setCell ⟨gb620, 1, none⟩ (.bool false)) g593 t591 t622) := ⟨by repeat (first | (with_reducible first | exact HI593.out | apply IsS72.alloc | apply IsS72.drewN | apply IsS72.drew | apply IsS72.set_1 | refine IsS72.far ?_ NB593_589.out _ | refine IsS72.far ?_ NB593_590.out _ | refine IsS72.far ?_ NB593_605.out _ | refine IsS72.far ?_ NB593_620.out _) | exact HI593.out)⟩
    have n9_ : Aside0 (Below w.heap.size w (((((((((w38.setCell ⟨gb605, 0, none⟩ (.bool t611)).setCell ⟨gb605, 2, none⟩ (.int .i64 255)).setCell ⟨gb605, 3, none⟩ (.int .i64 0)).setCell ⟨gb605, 4, none⟩ (.int .i64 0)).setCell ⟨gb605, 1, none⟩ (.bool false)).setCell ⟨gb620, 2, none⟩ (.int .i64 255)).setCell ⟨gb620, 3, none⟩ (.int .i64 0)).setCell ⟨gb620, 4, none⟩ (.int .i64 0)).setCell ⟨gb620, 1, none⟩ (.bool false))) := ⟨by repeat (first | (with_reducible first | exact HB.out | apply below_alloc | apply pw_below_drewN | apply below_drew1 | refine below_set ?_ (IsS72.ge HI593.out) | refine below_set ?_ GE589.out | refine below_set ?_ GE590.out | refine below_set ?_ GE605.out | refine below_set ?_ GE620.out) | exact HB.out)⟩
    (try clear HO603)
    (try clear HL606_3)
    (try clear HL606_5)
    (try clear HO618)
    (try clear BK589)
    (try clear BK590)
    (try clear BK605)
    (try clear BK620)
    (try clear HI593)
    (try clear HB)
    generalize (((((((((w38.setCell ⟨gb605, 0, none⟩ (.bool t611)).setCell ⟨gb605, 2, none⟩ (.int .i64 255)).setCell ⟨gb605, 3, none⟩ (.int .i64 0)).setCell ⟨gb605, 4, none⟩ (.int .i64 0)).setCell ⟨gb605, 1, none⟩ (.bool false)).setCell ⟨gb620, 2, none⟩ (.int .i64 255)).setCell ⟨gb620, 3, none⟩ (.int .i64 0)).setCell ⟨gb620, 4, none⟩ (.int .i64 0)).setCell ⟨gb620, 1, none⟩ (.bool false)) = w45 at n0_ n1_ n2_ n3_ n4_ n5_ n6_ n7_ n8_ n9_ ⊢
    have HO603 := n0_
    have HL606_3 := n1_
    have HL606_5 := n2_
    have HO618 := n3_
    have BK589 := n4_
    have BK590 := n5_
    have BK605 := n6_
    have BK620 := n7_
    have HI593 := n8_
    have HB := n9_
    clear n0_ n1_ n2_ n3_ n4_ n5_ n6_ n7_ n8_ n9_
    replace HO603 := Aside0.mk (Kd.N_drew HO603.out)
    replace HL606_3 := Aside0.mk (Kd.V_drew HL606_3.out)
    replace HL606_5 := Aside0.mk (Kd.V_drew HL606_5.out)
    replace HO618 := Aside0.mk (Kd.N_drew HO618.out)
    replace BK589 := Aside0.mk (blk_drew BK589.out)
    replace BK590 := Aside0.mk (blk_drew BK590.out)
    replace BK605 := Aside0.mk (blk_drew BK605.out)
    replace BK620 := Aside0.mk (blk_drew BK620.out)
    replace HI593 := Aside0.mk (IsS72.drew HI593.out)
    replace HB := Aside0.mk (below_drew1 HB.out)
    refine start_ (n := 4) (S := fun w' => w'.cell? ⟨gb605, 0, none⟩ = some (.bool t611) ∧ w'.cell? ⟨gb605, 1, none⟩ = some (.bool false) ∧ w'.cell? ⟨gb605, 2, none⟩ = some (.int .i64 255) ∧ w'.cell? ⟨gb605, 3, none⟩ = some (.int .i64 0) ∧ w'.cell? ⟨gb605, 4, none⟩ = some (.int .i64 0) ∧ w'.cell? ⟨gb605, 5, none⟩ = some (.slice (some ad606) t601.length co23) ∧ w'.cell? ⟨gb620, 0, none⟩ = some (.bool t611) ∧ w'.cell? ⟨gb620, 1, none⟩ = some (.bool false) ∧ w'.cell? ⟨gb620, 2, none⟩ = some (.int .i64 255) ∧ w'.cell? ⟨gb620, 3, none⟩ = some (.int .i64 0) ∧ w'.cell? ⟨gb620, 4, none⟩ = some (.int .i64 0) ∧ w'.cell? ⟨gb620, 5, none⟩ = some (.slice Ao36 t616.length co36)) (ds := []) #[false, false, false, false] (by kernel_rfl) rfl rfl ⟨(blk_cell BK605.out 0).trans rfl, (blk_cell BK605.out 1).trans rfl, (blk_cell BK605.out 2).trans rfl, (blk_cell BK605.out 3).trans rfl, (blk_cell BK605.out 4).trans rfl, (blk_cell BK605.out 5).trans rfl, (blk_cell BK620.out 0).trans rfl, (blk_cell BK620.out 1).trans rfl, (blk_cell BK620.out 2).trans rfl, (blk_cell BK620.out 3).trans rfl, (blk_cell BK620.out 4).trans rfl, (blk_cell BK620.out 5).trans rfl⟩ (fun hHeld => ?_)
    generalize w45.drew = w46 at HO603 HL606_3 HL606_5 HO618 BK589 BK590 BK605 BK620 HI593 HB hHeld ⊢
    refine take_ (i := 0) (N := some 47) (v := ?_) (a' := ?_) #[true, false, false, false] rfl rfl (by kernel_rfl) (fun _ _ _ h => h) (Or.inl ⟨by rfl, ?_⟩) hHeld ?_ ?_
    rotate_left
    ·rintro w' ⟨s0, s1, s2, s3, s4, s5, s6, s7, s8, s9, s10, s11⟩
     go_simp
     with_reducible rfl
    rotate_left
    ·simp only [Act.put, List.setIfInBounds_toArray, List.set_cons_zero, List.set_cons_succ, i64_w, i32_w]
     rfl
    refine take_ (i := 1) (N := some 48) (v := ?_) (a' := ?_) #[true, true, false, false] rfl rfl (by kernel_rfl) (fun _ _ _ h => h) (Or.inl ⟨by rfl, ?_⟩) hHeld ?_ ?_
    rotate_left
    ·rintro w' ⟨s0, s1, s2, s3, s4, s5, s6, s7, s8, s9, s10, s11⟩
     go_simp
     with_reducible rfl
    rotate_left
    ·simp only [Act.put, List.setIfInBounds_toArray, List.set_cons_zero, List.set_cons_succ, i64_w, i32_w]
     rfl
    refine one_ (i := 2) (N := none) #[true, true, true, false] rfl rfl (by kernel_rfl) (by decide) (fun K hK => ?_)
    have hs47 : w46.cell? ⟨gb589, 0, none⟩ = some (.bool false) := (blk_cell BK589.out 0).trans rfl
    have hfs47 := blk_frozen BK589.out 0
    have hns47_1 := NB590_589.out
    have hns47_2 := NB605_589.out
    have hns47_3 := NB620_589.out
    have hms47_1 := NB589_590.out
    have hms47_2 := NB589_605.out
    have hms47_3 := NB589_620.out
    have hs48 : w46.cell? ⟨gb589, 1, none⟩ = some (.bool false) := (blk_cell BK589.out 1).trans rfl
    have hfs48 := blk_frozen BK589.out 1
    have hs49 : w46.cell? ⟨gb589, 2, none⟩ = some (.int .i64 0) := (blk_cell BK589.out 2).trans rfl
    have hfs49 := blk_frozen BK589.out 2
    have hs50 : w46.cell? ⟨gb589, 3, none⟩ = some (.int .i64 0) := (blk_cell BK589.out 3).trans rfl
    have hfs50 := blk_frozen BK589.out 3
    have hs51 : w46.cell? ⟨gb589, 4, none⟩ = some (.int .i64 0) := (blk_cell BK589.out 4).trans rfl
    have hfs51 := blk_frozen BK589.out 4
    have hs52 : w46.cell? ⟨gb589, 5, none⟩ = some (.slice none 0 0) := (blk_cell BK589.out 5).trans rfl
    have hfs52 := blk_frozen BK589.out 5
    refine tsk ?_
    refine hK.out _ _ ⟨(tcg NB605_589.out hHeld.1), (tcg NB605_589.out hHeld.2.1), (tcg NB605_589.out hHeld.2.2.1), (tcg NB605_589.out hHeld.2.2.2.1), (tcg NB605_589.out hHeld.2.2.2.2.1), (tcg NB605_589.out hHeld.2.2.2.2.2.1), (tcg NB620_589.out hHeld.2.2.2.2.2.2.1), (tcg NB620_589.out hHeld.2.2.2.2.2.2.2.1), (tcg NB620_589.out hHeld.2.2.2.2.2.2.2.2.1), (tcg NB620_589.out hHeld.2.2.2.2.2.2.2.2.2.1), (tcg NB620_589.out hHeld.2.2.2.2.2.2.2.2.2.2.1), (tcg NB620_589.out hHeld.2.2.2.2.2.2.2.2.2.2.2)⟩ (fun hHeld => ?_)
    clear hK K
    refine one_ (i := 3) (N := none) #[true, true, true, true] rfl rfl (by kernel_rfl) (by decide) (fun K hK => ?_)
    have hs53 : w46.cell? ⟨gb590, 0, none⟩ = some (.bool false) := (blk_cell BK590.out 0).trans rfl
    have hfs53 := blk_frozen BK590.out 0
    have hns53_0 := NB589_590.out
    have hns53_2 := NB605_590.out
    have hns53_3 := NB620_590.out
    have hms53_0 := NB590_589.out
    have hms53_2 := NB590_605.out
    have hms53_3 := NB590_620.out
    have hs54 : w46.cell? ⟨gb590, 1, none⟩ = some (.bool false) := (blk_cell BK590.out 1).trans rfl
    have hfs54 := blk_frozen BK590.out 1
    have hs55 : w46.cell? ⟨gb590, 2, none⟩ = some (.int .i64 0) := (blk_cell BK590.out 2).trans rfl
    have hfs55 := blk_frozen BK590.out 2
    have hs56 : w46.cell? ⟨gb590, 3, none⟩ = some (.int .i64 0) := (blk_cell BK590.out 3).trans rfl
    have hfs56 := blk_frozen BK590.out 3
    have hs57 : w46.cell? ⟨gb590, 4, none⟩ = some (.int .i64 0) := (blk_cell BK590.out 4).trans rfl
    have hfs57 := blk_frozen BK590.out 4
    have hs58 : w46.cell? ⟨gb590, 5, none⟩ = some (.slice none 0 0) := (blk_cell BK590.out 5).trans rfl
    have hfs58 := blk_frozen BK590.out 5
    refine tsk ?_
    refine hK.out _ _ ⟨(tcg NB605_590.out hHeld.1), (tcg NB605_590.out hHeld.2.1), (tcg NB605_590.out hHeld.2.2.1), (tcg NB605_590.out hHeld.2.2.2.1), (tcg NB605_590.out hHeld.2.2.2.2.1), (tcg NB605_590.out hHeld.2.2.2.2.2.1), (tcg NB620_590.out hHeld.2.2.2.2.2.2.1), (tcg NB620_590.out hHeld.2.2.2.2.2.2.2.1), (tcg NB620_590.out hHeld.2.2.2.2.2.2.2.2.1), (tcg NB620_590.out hHeld.2.2.2.2.2.2.2.2.2.1), (tcg NB620_590.out hHeld.2.2.2.2.2.2.2.2.2.2.1), (tcg NB620_590.out hHeld.2.2.2.2.2.2.2.2.2.2.2)⟩ (fun hHeld => ?_)
    clear hK K
    refine done_ (by kernel_rfl) ?_
    try go_wp2
    refine bodyPost_ret (results_cc rfl _ _ gb589 gb590 25 25 #[.bool t611, .bool false, .int .i64 255, .int .i64 0, .int .i64 0, .slice (some ad606) t601.length co23] #[.bool t611, .bool false, .int .i64 255, .int .i64 0, .int .i64 0, .slice Ao36 t616.length co36] (0, 0) (0, 0) _ _ rfl (tP BK589.out) Tryd.underlying25 rfl (by kernel_rfl) rfl (tP BK590.out) Tryd.underlying25 rfl (by kernel_rfl)) rfl ?_
    exact ⟨_, _, by first | rfl | (simp [errW_none, errW_some] <;> rfl) | (simp only [← hji5]; first | rfl | (simp [errW_none, errW_some] <;> rfl)) | (simp [*, errW_none, errW_some] <;> rfl), by (with_reducible repeat (first | apply Kd.N_alloc | apply Kd.N_drewN | apply Kd.N_drew)); exact Kd.N_mono (Kd.N_far (p := ⟨gb590, 5, none⟩) (Kd.N_far (p := ⟨gb590, 4, none⟩) (Kd.N_far (p := ⟨gb590, 3, none⟩) (Kd.N_far (p := ⟨gb590, 2, none⟩) (Kd.N_far (p := ⟨gb590, 1, none⟩) (Kd.N_far (p := ⟨gb590, 0, none⟩) (Kd.N_far (p := ⟨gb589, 5, none⟩) (Kd.N_far (p := ⟨gb589, 4, none⟩) (Kd.N_far (p := ⟨gb589, 3, none⟩) (Kd.N_far (p := ⟨gb589, 2, none⟩) (Kd.N_far (p := ⟨gb589, 1, none⟩) (Kd.N_far (p := ⟨gb589, 0, none⟩) (Kd.N_mono (Kd.N_mono HO603.out (fun k_ hk => (⟨hk, hk.2.2.1⟩ : _ ∧ k_ ≠ gb589))) (fun k_ hk => (⟨hk, hk.1.2.2.2.1⟩ : _ ∧ k_ ≠ gb590))) (fun _ hk => hk.1.2) (.bool t611)) (fun _ hk => hk.1.2) (.bool false)) (fun _ hk => hk.1.2) (.int .i64 255)) (fun _ hk => hk.1.2) (.int .i64 0)) (fun _ hk => hk.1.2) (.int .i64 0)) (fun _ hk => hk.1.2) (.slice (some ad606) t601.length co23)) (fun _ hk => hk.2) (.bool t611)) (fun _ hk => hk.2) (.bool false)) (fun _ hk => hk.2) (.int .i64 255)) (fun _ hk => hk.2) (.int .i64 0)) (fun _ hk => hk.2) (.int .i64 0)) (fun _ hk => hk.2) (.slice Ao36 t616.length co36)) (fun _ hk => ⟨hk.1.1.1, hk.1.1.2.1⟩), by (with_reducible repeat (first | apply Kd.N_alloc | apply Kd.N_drewN | apply Kd.N_drew)); exact Kd.N_mono (Kd.N_far (p := ⟨gb590, 5, none⟩) (Kd.N_far (p := ⟨gb590, 4, none⟩) (Kd.N_far (p := ⟨gb590, 3, none⟩) (Kd.N_far (p := ⟨gb590, 2, none⟩) (Kd.N_far (p := ⟨gb590, 1, none⟩) (Kd.N_far (p := ⟨gb590, 0, none⟩) (Kd.N_far (p := ⟨gb589, 5, none⟩) (Kd.N_far (p := ⟨gb589, 4, none⟩) (Kd.N_far (p := ⟨gb589, 3, none⟩) (Kd.N_far (p := ⟨gb589, 2, none⟩) (Kd.N_far (p := ⟨gb589, 1, none⟩) (Kd.N_far (p := ⟨gb589, 0, none⟩) (Kd.N_mono (Kd.N_mono HO618.out (fun k_ hk => (⟨hk, hk.2.2.1⟩ : _ ∧ k_ ≠ gb589))) (fun k_ hk => (⟨hk, hk.1.2.2.2.1⟩ : _ ∧ k_ ≠ gb590))) (fun _ hk => hk.1.2) (.bool t611)) (fun _ hk => hk.1.2) (.bool false)) (fun _ hk => hk.1.2) (.int .i64 255)) (fun _ hk => hk.1.2) (.int .i64 0)) (fun _ hk => hk.1.2) (.int .i64 0)) (fun _ hk => hk.1.2) (.slice (some ad606) t601.length co23)) (fun _ hk => hk.2) (.bool t611)) (fun _ hk => hk.2) (.bool false)) (fun _ hk => hk.2) (.int .i64 255)) (fun _ hk => hk.2) (.int .i64 0)) (fun _ hk => hk.2) (.int .i64 0)) (fun _ hk => hk.2) (.slice Ao36 t616.length co36)) (fun _ hk => ⟨hk.1.1.1, hk.1.1.2.1⟩), by repeat (first | (with_reducible first | exact HB.out | apply below_alloc | apply pw_below_drewN | apply below_drew1 | refine below_set ?_ (IsS72.ge HI593.out) | refine below_set ?_ GE589.out | refine below_set ?_ GE590.out | refine below_set ?_ GE605.out | refine below_set ?_ GE620.out) | exact HB.out)⟩
   ·rw [if_neg c12] at H
    have c12b0 : decide (0 < t621) = false := decide_eq_false c12
    clear c12
    simp only [Option.some.injEq, Prod.mk.injEq] at H
    obtain ⟨rfl, rfl, rfl, rfl, rfl, rfl, rfl, rfl, rfl, rfl, rfl, rfl⟩ := H
    go_enter Tryd.func15, Tryd.ntmps15
    try go_wp2_with (first | ((with_reducible refine gate_dst (N := 2) rfl ?_); refine box_event ?hg (N := 2) ?hd (cs := #[.bool false, .bool false, .int .i64 0, .int .i64 0, .int .i64 0, .slice none 0 0]) (t := 25) ?hr ?_; (case hd => rfl); (case hg => rfl); (case hr => first | (go_simp; done) | (go_simp; rfl)); intro gb589 hg w59 hbox hb; have BK589 := Aside0.mk (hbox); have GW589 := tge HB hg; have GE589 := tge HB hg; replace HB := tBs HB hb; clear hb hbox hg) | ((with_reducible refine gate_dst (N := 3) rfl ?_); refine box_event ?hg (N := 3) ?hd (cs := #[.bool false, .bool false, .int .i64 0, .int .i64 0, .int .i64 0, .slice none 0 0]) (t := 25) ?hr ?_; (case hd => rfl); (case hg => rfl); (case hr => first | (go_simp; done) | (go_simp; rfl)); intro gb590 hg w60 hbox hb; have BK590 := Aside0.mk (hbox); have GW590 := tge HB hg; have GE590 := tge HB hg; replace HB := tBs HB hb; have NB589_590 := tlt BK589 hg; have NB590_589 := tgt BK589 hg; replace BK589 := tBb BK589 hb; clear hb hbox hg) | ((with_reducible refine gate_callee (f := 22) rfl ?_); refine goesL_ (some 8) rfl rfl Tryd.func22 (by kernel_rfl) rfl #[.slice A0 l0.length c0] rfl tq ?_; (with_reducible refine (spec_l6Open.calls _ _ l0 t591 t592 w _ ?side1 ?side2 ?side3 A2.out).mono ?_); (case side1 => exact zb); (case side2 => exact HR0.out); (case side3 => exact HC0.out); rintro e w61 ⟨g593, rfl, hi, hb, hb2⟩; refine ⟨_, rfl, ?_⟩; replace HB := Aside0.mk (hb); have HI593 := Aside0.mk (hi); have NB593_589 := Aside0.mk (IsS72.ne_blk hi (blk_below (g := gb589) (o := .cells #[.bool false, .bool false, .int .i64 0, .int .i64 0, .int .i64 0, .slice none 0 0] 25 (0, 0)) (tH BK589.out) hb2) (by decide)); have NB589_593 := Aside0.mk (Ne.symm (IsS72.ne_blk hi (blk_below (g := gb589) (o := .cells #[.bool false, .bool false, .int .i64 0, .int .i64 0, .int .i64 0, .slice none 0 0] 25 (0, 0)) (tH BK589.out) hb2) (by decide))); replace BK589 := Aside0.mk (blk_below (g := gb589) (o := .cells #[.bool false, .bool false, .int .i64 0, .int .i64 0, .int .i64 0, .slice none 0 0] 25 (0, 0)) (tH BK589.out) hb2); have NB593_590 := Aside0.mk (IsS72.ne_blk hi (blk_below (g := gb590) (o := .cells #[.bool false, .bool false, .int .i64 0, .int .i64 0, .int .i64 0, .slice none 0 0] 25 (0, 0)) (tH BK590.out) hb2) (by decide)); have NB590_593 := Aside0.mk (Ne.symm (IsS72.ne_blk hi (blk_below (g := gb590) (o := .cells #[.bool false, .bool false, .int .i64 0, .int .i64 0, .int .i64 0, .slice none 0 0] 25 (0, 0)) (tH BK590.out) hb2) (by decide))); replace BK590 := Aside0.mk (blk_below (g := gb590) (o := .cells #[.bool false, .bool false, .int .i64 0, .int .i64 0, .int .i64 0, .slice none 0 0] 25 (0, 0)) (tH BK590.out) hb2); (try clear hb); (try clear hb2); (try clear hk); (try clear hi)) | ((with_reducible refine gate_callee (f := 24) rfl ?_); refine goesL_ (some 11) rfl rfl Tryd.func24 (by kernel_rfl) rfl #[.pointer (some ⟨g593, 0, none⟩), .int .i64 20] rfl tq ?_; (with_reducible refine (spec_l6Rd_pick.calls k g593 t591 t592 20 t594 t595 w _ ?side1 ?side2 A3.out).mono ?_); (case side1 => repeat (first | (with_reducible first | exact HI593.out | apply IsS72.alloc | apply IsS72.drewN | apply IsS72.drew | apply IsS72.set_1 | refine IsS72.far ?_ NB593_589.out _ | refine IsS72.far ?_ NB593_590.out _) | exact HI593.out)); (case side2 => repeat (first | (with_reducible first | exact HB.out | apply below_alloc | apply pw_below_drewN | apply below_drew1 | refine below_set ?_ (IsS72.ge HI593.out) | refine below_set ?_ GE589.out | refine below_set ?_ GE590.out) | exact HB.out)); rintro e w62 ⟨rfl, hi, hb, hk⟩; refine ⟨_, rfl, ?_⟩; replace BK589 := tBk BK589 hk NB589_593; replace BK590 := tBk BK590 hk NB590_593; replace HB := Aside0.mk (hb); replace HI593 := Aside0.mk (hi); (try clear hb); (try clear hb2); (try clear hk); (try clear hi)) | ((with_reducible refine gate_callee (f := 23) rfl ?_); refine goesL_ (some 12) rfl rfl Tryd.func23 (by kernel_rfl) rfl #[.pointer (some ⟨g593, 0, none⟩), .int .i64 t594] rfl tq ?_; (with_reducible refine (spec_l91Batch.calls k g593 t591 t595 t594 t596 t597 t598 t599 t600 t601 t604 w _ ?side1 ?side2 A4.out).mono ?_); (case side1 => repeat (first | (with_reducible first | exact HI593.out | apply IsS72.alloc | apply IsS72.drewN | apply IsS72.drew | apply IsS72.set_1 | refine IsS72.far ?_ NB593_589.out _ | refine IsS72.far ?_ NB593_590.out _) | exact HI593.out)); (case side2 => repeat (first | (with_reducible first | exact HB.out | apply below_alloc | apply pw_below_drewN | apply below_drew1 | refine below_set ?_ (IsS72.ge HI593.out) | refine below_set ?_ GE589.out | refine below_set ?_ GE590.out) | exact HB.out)); rintro e w63 ⟨v602, rfl, ho0, hi, hb, hk⟩; have u_v602 := tsv Tryd.prog v602 ho0; refine ⟨_, rfl, ?_⟩; have HO603 := Aside0.mk (Kd.N_lower (Kd.N_mono (ok' := fun k_ => (w.heap.size ≤ k_) ∧ k_ ≠ gb589 ∧ k_ ≠ gb590 ∧ k_ ≠ g593) ho0 (fun k_ hk_ => ⟨(Nat.le_trans (below_size (by repeat (first | (with_reducible first | exact HB.out | apply below_alloc | apply pw_below_drewN | apply below_drew1 | refine below_set ?_ (IsS72.ge HI593.out) | refine below_set ?_ GE589.out | refine below_set ?_ GE590.out) | exact HB.out))) hk_), (tfB BK589 k_ hk_), (tfB BK590 k_ hk_), (IsS72.fresh (by repeat (first | (with_reducible first | exact HI593.out | apply IsS72.alloc | apply IsS72.drewN | apply IsS72.drew | apply IsS72.set_1 | refine IsS72.far ?_ NB593_589.out _ | refine IsS72.far ?_ NB593_590.out _) | exact HI593.out)) k_ hk_)⟩)) (below_size (by repeat (first | (with_reducible first | exact HB.out | apply below_alloc | apply pw_below_drewN | apply below_drew1 | refine below_set ?_ (IsS72.ge HI593.out) | refine below_set ?_ GE589.out | refine below_set ?_ GE590.out) | exact HB.out)))); replace BK589 := tBk BK589 hk NB589_593; replace BK590 := tBk BK590 hk NB590_593; replace HB := Aside0.mk (hb); replace HI593 := Aside0.mk (hi); (try clear hb); (try clear hb2); (try clear hk); (try clear hi); (try clear ho0)) | ((with_reducible refine gate_dst (N := 5) rfl ?_); refine box_event ?hg (N := 5) ?hd (cs := #[.bool false, .bool false, .int .i64 0, .int .i64 0, .int .i64 0, .slice none 0 0]) (t := 25) ?hr ?_; (case hd => rfl); (case hg => rfl); (case hr => first | (go_simp; done) | (go_simp; rfl)); intro gb605 hg w64 hbox hb; replace HO603 := tNB HO603 hg hb; have BK605 := Aside0.mk (hbox); have GW605 := Aside0.mk ((by rw [hg]; exact (below_size (by repeat (first | (with_reducible first | exact HB.out | apply below_alloc | apply pw_below_drewN | apply below_drew1 | refine below_set ?_ (IsS72.ge HI593.out) | refine below_set ?_ GE589.out | refine below_set ?_ GE590.out) | exact HB.out))) : w.heap.size ≤ gb605)); have GE605 := Aside0.mk ((by rw [hg]; exact (below_size (by repeat (first | (with_reducible first | exact HB.out | apply below_alloc | apply pw_below_drewN | apply below_drew1 | refine below_set ?_ (IsS72.ge HI593.out) | refine below_set ?_ GE589.out | refine below_set ?_ GE590.out) | exact HB.out))) : w.heap.size ≤ gb605)); replace HB := Aside0.mk (below_step (by repeat (first | (with_reducible first | exact HB.out | apply below_alloc | apply pw_below_drewN | apply below_drew1 | refine below_set ?_ (IsS72.ge HI593.out) | refine below_set ?_ GE589.out | refine below_set ?_ GE590.out) | exact HB.out)) hb); have NB589_605 := tlt BK589 hg; have NB605_589 := tgt BK589 hg; replace BK589 := tBb BK589 hb; have NB590_605 := tlt BK590 hg; have NB605_590 := tgt BK590 hg; replace BK590 := tBb BK590 hb; have NB593_605 := Aside0.mk ((by rw [hg]; exact Nat.ne_of_lt (IsS72.lt (show IsS72 w _ g593 t591 t604 from by repeat (first | (with_reducible first | exact HI593.out | apply IsS72.alloc | apply IsS72.drewN | apply IsS72.drew | apply IsS72.set_1 | refine IsS72.far ?_ NB593_589.out _ | refine IsS72.far ?_ NB593_590.out _) | exact HI593.out))) : g593 ≠ gb605)); have NB605_593 := Aside0.mk ((by rw [hg]; exact Nat.ne_of_gt (IsS72.lt (show IsS72 w _ g593 t591 t604 from by repeat (first | (with_reducible first | exact HI593.out | apply IsS72.alloc | apply IsS72.drewN | apply IsS72.drew | apply IsS72.set_1 | refine IsS72.far ?_ NB593_589.out _ | refine IsS72.far ?_ NB593_590.out _) | exact HI593.out))) : gb605 ≠ g593)); replace HI593 := Aside0.mk (IsS72.below (by repeat (first | (with_reducible first | exact HI593.out | apply IsS72.alloc | apply IsS72.drewN | apply IsS72.drew | apply IsS72.set_1 | refine IsS72.far ?_ NB593_589.out _ | refine IsS72.far ?_ NB593_590.out _) | exact HI593.out)) hb); clear hb hbox hg; have hnb65 := NB605_589.out; have hnc65 := NB589_605.out; have hnb66 := NB605_590.out; have hnc66 := NB590_605.out; have hnb67 := NB605_593.out; have hnc67 := NB593_605.out; obtain ⟨hcz68_0, hcz68_1, hcz68_2, hcz68_3, hcz68_4, hcz68_5, hfz68_0, hfz68_1, hfz68_2, hfz68_3, hfz68_4, hfz68_5⟩ := cells6 BK605.out; obtain ⟨Ao69, co69, eo69⟩ := Kd.N_slice HO603.out; subst eo69))
    have n0_ : Aside0 (Kd.N k41 41 ((((((w64.setCell ⟨gb605, 0, none⟩ (.bool t596)).setCell ⟨gb605, 1, none⟩ (.bool t597)).setCell ⟨gb605, 2, none⟩ (.int .i64 t598)).setCell ⟨gb605, 3, none⟩ (.int .i64 t599)).setCell ⟨gb605, 4, none⟩ (.int .i64 t600)).setCell ⟨gb605, 5, none⟩ (.slice Ao69 t601.length co69)) w.heap.size (fun k_ => (w.heap.size ≤ k_) ∧ k_ ≠ gb589 ∧ k_ ≠ gb590 ∧ k_ ≠ g593 ∧ k_ ≠ gb605) (.slice Ao69 t601.length co69) t601) := ⟨tNm HO603.out⟩
    have n1_ : Aside0 (((((((w64.setCell ⟨gb605, 0, none⟩ (.bool t596)).setCell ⟨gb605, 1, none⟩ (.bool t597)).setCell ⟨gb605, 2, none⟩ (.int .i64 t598)).setCell ⟨gb605, 3, none⟩ (.int .i64 t599)).setCell ⟨gb605, 4, none⟩ (.int .i64 t600)).setCell ⟨gb605, 5, none⟩ (.slice Ao69 t601.length co69)).heap[gb589]? = some (.cells #[.bool false, .bool false, .int .i64 0, .int .i64 0, .int .i64 0, .slice none 0 0] 25 (0, 0))) := ⟨tH BK589.out⟩
    have n2_ : Aside0 (((((((w64.setCell ⟨gb605, 0, none⟩ (.bool t596)).setCell ⟨gb605, 1, none⟩ (.bool t597)).setCell ⟨gb605, 2, none⟩ (.int .i64 t598)).setCell ⟨gb605, 3, none⟩ (.int .i64 t599)).setCell ⟨gb605, 4, none⟩ (.int .i64 t600)).setCell ⟨gb605, 5, none⟩ (.slice Ao69 t601.length co69)).heap[gb590]? = some (.cells #[.bool false, .bool false, .int .i64 0, .int .i64 0, .int .i64 0, .slice none 0 0] 25 (0, 0))) := ⟨tH BK590.out⟩
    have n3_ : Aside0 (((((((w64.setCell ⟨gb605, 0, none⟩ (.bool t596)).setCell ⟨gb605, 1, none⟩ (.bool t597)).setCell ⟨gb605, 2, none⟩ (.int .i64 t598)).setCell ⟨gb605, 3, none⟩ (.int .i64 t599)).setCell ⟨gb605, 4, none⟩ (.int .i64 t600)).setCell ⟨gb605, 5, none⟩ (.slice Ao69 t601.length co69)).heap[gb605]? = some (.cells #[.bool t596, .bool t597, .int .i64 t598, .int .i64 t599, .int .i64 t600, .slice Ao69 t601.length co69] 25 (0, 0))) := ⟨tP BK605.out⟩
    have n4_ : Aside0 (IsS72 w ((((((w64.setCell ⟨gb605, 0, none⟩ (.bool t596)).setCell ⟨gb605, 1, none⟩ (.bool t597)).setCell ⟨gb605, 2, none⟩ (.int .i64 t598)).setCell ⟨gb605, 3, none⟩ (.int .i64 t599)).setCell ⟨gb605, 4, none⟩ (.int .i64 t600)).setCell ⟨gb605, 5, none⟩ (.slice Ao69 t601.length co69)) g593 t591 t604) := ⟨by repeat (first | (with_reducible first | exact HI593.out | apply IsS72.alloc | apply IsS72.drewN | apply IsS72.drew | apply IsS72.set_1 | refine IsS72.far ?_ NB593_589.out _ | refine IsS72.far ?_ NB593_590.out _ | refine IsS72.far ?_ NB593_605.out _) | exact HI593.out)⟩
    have n5_ : Aside0 (Below w.heap.size w ((((((w64.setCell ⟨gb605, 0, none⟩ (.bool t596)).setCell ⟨gb605, 1, none⟩ (.bool t597)).setCell ⟨gb605, 2, none⟩ (.int .i64 t598)).setCell ⟨gb605, 3, none⟩ (.int .i64 t599)).setCell ⟨gb605, 4, none⟩ (.int .i64 t600)).setCell ⟨gb605, 5, none⟩ (.slice Ao69 t601.length co69))) := ⟨by repeat (first | (with_reducible first | exact HB.out | apply below_alloc | apply pw_below_drewN | apply below_drew1 | refine below_set ?_ (IsS72.ge HI593.out) | refine below_set ?_ GE589.out | refine below_set ?_ GE590.out | refine below_set ?_ GE605.out) | exact HB.out)⟩
    (try clear HO603)
    (try clear BK589)
    (try clear BK590)
    (try clear BK605)
    (try clear HI593)
    (try clear HB)
    generalize ((((((w64.setCell ⟨gb605, 0, none⟩ (.bool t596)).setCell ⟨gb605, 1, none⟩ (.bool t597)).setCell ⟨gb605, 2, none⟩ (.int .i64 t598)).setCell ⟨gb605, 3, none⟩ (.int .i64 t599)).setCell ⟨gb605, 4, none⟩ (.int .i64 t600)).setCell ⟨gb605, 5, none⟩ (.slice Ao69 t601.length co69)) = w70 at n0_ n1_ n2_ n3_ n4_ n5_ ⊢
    have HO603 := n0_
    have BK589 := n1_
    have BK590 := n2_
    have BK605 := n3_
    have HI593 := n4_
    have HB := n5_
    clear n0_ n1_ n2_ n3_ n4_ n5_
    replace HO603 := Aside0.mk (Kd.N_drew HO603.out)
    replace BK589 := Aside0.mk (blk_drew BK589.out)
    replace BK590 := Aside0.mk (blk_drew BK590.out)
    replace BK605 := Aside0.mk (blk_drew BK605.out)
    replace HI593 := Aside0.mk (IsS72.drew HI593.out)
    replace HB := Aside0.mk (below_drew1 HB.out)
    have p606 : 0 ≤ ((ji5) : Int) := td
    have q606 : (ji5) < (t601.length : Int) := td
    obtain ⟨ad606, A606_3, c606_3, A606_5, c606_5, e606, hx606_0, hx606_1, hx606_2, hx606_3, hx606_4, hx606_5, hl606_3, hi606_3, hl606_5, hi606_5⟩ := at_T41 (Kd.N_reads' HO603.out).2.2 (ji5) p606 q606
    cases e606
    obtain ⟨ce606, hce606, hMe606, hcc606⟩ := Kd.N_get HO603.out z41 (ji5) p606 (by first | exact q606 | exact td | (have e_ := (Kd.N_reads' HO603.out).1; omega))
    obtain ⟨ua606_3, uc606_3, ua606_5, uc606_5, rfl, ul606_3, ge606_3, ul606_5, ge606_5⟩ := k41_openF hMe606
    have hv606_3 := hcc606 3 _ rfl
    rw [add_field _ _ 3 (by omega)] at hv606_3
    replace hv606_3 := Option.some.inj (hv606_3.symm.trans hx606_3)
    injection hv606_3 with hva_ hvn_ hvc_
    rw [hva_] at ge606_3
    rw [hvc_] at ul606_3
    have HL606_3 := Aside0.mk (show Kd.V (Kd.int .i64) 3 _ w.heap.size _ _ ((rd_T41 t601 (ji5)).f3) from Kd.V_mk ul606_3 ge606_3)
    clear hva_ hvn_ hvc_ ge606_3 ul606_3
    have hv606_5 := hcc606 5 _ rfl
    rw [add_field _ _ 5 (by omega)] at hv606_5
    replace hv606_5 := Option.some.inj (hv606_5.symm.trans hx606_5)
    injection hv606_5 with hva_ hvn_ hvc_
    rw [hva_] at ge606_5
    rw [hvc_] at ul606_5
    have HL606_5 := Aside0.mk (show Kd.V (Kd.int .i64) 3 _ w.heap.size _ _ ((rd_T41 t601 (ji5)).f5) from Kd.V_mk ul606_5 ge606_5)
    clear hva_ hvn_ hvc_ ge606_5 ul606_5
    clear hcc606 hce606
    have HR606_3 := Aside0.mk hi606_3
    have HC606_3 := Aside0.mk hl606_3
    clear hi606_3 hl606_3
    have HR606_5 := Aside0.mk hi606_5
    have HC606_5 := Aside0.mk hl606_5
    clear hi606_5 hl606_5
    replace p606 := eq_true p606
    replace q606 := eq_true q606
    refine start_ (n := 22) (S := fun w' => w'.cell? ⟨gb605, 0, none⟩ = some (.bool t596) ∧ w'.cell? ⟨gb605, 1, none⟩ = some (.bool t597) ∧ w'.cell? ⟨gb605, 2, none⟩ = some (.int .i64 t598) ∧ w'.cell? ⟨gb605, 3, none⟩ = some (.int .i64 t599) ∧ w'.cell? ⟨gb605, 4, none⟩ = some (.int .i64 t600) ∧ w'.cell? ⟨gb605, 5, none⟩ = some (.slice (some ad606) t601.length co69) ∧ w'.cell? (ad606.add (((ji5)).toNat * 6)) = some (.int .i64 ((rd_T41 t601 (ji5)).f0)) ∧ w'.cell? ⟨(ad606.add (((ji5)).toNat * 6)).block, (ad606.add (((ji5)).toNat * 6)).off + 1, none⟩ = some (.int .i64 ((rd_T41 t601 (ji5)).f1)) ∧ w'.cell? ⟨(ad606.add (((ji5)).toNat * 6)).block, (ad606.add (((ji5)).toNat * 6)).off + 2, none⟩ = some (.bool ((rd_T41 t601 (ji5)).f2)) ∧ w'.cell? ⟨(ad606.add (((ji5)).toNat * 6)).block, (ad606.add (((ji5)).toNat * 6)).off + 3, none⟩ = some (.slice A606_3 ((rd_T41 t601 (ji5)).f3).length c606_3) ∧ w'.cell? ⟨(ad606.add (((ji5)).toNat * 6)).block, (ad606.add (((ji5)).toNat * 6)).off + 4, none⟩ = some (.bool ((rd_T41 t601 (ji5)).f4)) ∧ w'.cell? ⟨(ad606.add (((ji5)).toNat * 6)).block, (ad606.add (((ji5)).toNat * 6)).off + 5, none⟩ = some (.slice A606_5 ((rd_T41 t601 (ji5)).f5).length c606_5)) (ds := []) #[false, false, false, false, false, false, false, false, false, false, false, false, false, false, false, false, false, false, false, false, false, false] (by kernel_rfl) rfl rfl ⟨(blk_cell BK605.out 0).trans rfl, (blk_cell BK605.out 1).trans rfl, (blk_cell BK605.out 2).trans rfl, (blk_cell BK605.out 3).trans rfl, (blk_cell BK605.out 4).trans rfl, (blk_cell BK605.out 5).trans rfl, hx606_0, hx606_1, hx606_2, hx606_3, hx606_4, hx606_5⟩ (fun hHeld => ?_); refine with_tabW spec_DrawBatchJoin.tab3 spec_DrawBatchJoin.bits3 (fun HT_ HW_ => ?_)
    generalize w70.drew = w71 at HO603 BK589 BK590 BK605 HI593 HB HL606_3 HL606_5 HR606_3 HR606_5 hx606_0 hx606_1 hx606_2 hx606_3 hx606_4 hx606_5 hHeld ⊢
    refine tpu 0 (some 13) #[true, false, false, false, false, false, false, false, false, false, false, false, false, false, false, false, false, false, false, false, false, false] ?_
    refine tpu 1 (some 14) #[true, true, false, false, false, false, false, false, false, false, false, false, false, false, false, false, false, false, false, false, false, false] ?_
    refine tpu 3 (some 16) #[true, true, false, true, false, false, false, false, false, false, false, false, false, false, false, false, false, false, false, false, false, false] ?_
    refine tpu 11 (some 24) #[true, true, false, true, false, false, false, false, false, false, false, true, false, false, false, false, false, false, false, false, false, false] ?_
    refine tpu 14 (some 27) #[true, true, false, true, false, false, false, false, false, false, false, true, false, false, true, false, false, false, false, false, false, false] ?_
    refine tta 2 (some 15) #[true, true, true, true, false, false, false, false, false, false, false, true, false, false, true, false, false, false, false, false, false, false] hHeld ?_ (hy := by rintro w' ⟨s0, s1, s2, s3, s4, s5, s6, s7, s8, s9, s10, s11⟩; go_simp; with_reducible rfl)
    refine tta 4 (some 17) #[true, true, true, true, true, false, false, false, false, false, false, true, false, false, true, false, false, false, false, false, false, false] hHeld ?_ (hy := by rintro w' ⟨s0, s1, s2, s3, s4, s5, s6, s7, s8, s9, s10, s11⟩; go_simp; with_reducible rfl)
    refine tpu 5 (some 18) #[true, true, true, true, true, true, false, false, false, false, false, true, false, false, true, false, false, false, false, false, false, false] ?_
    refine tpu 6 (some 19) #[true, true, true, true, true, true, true, false, false, false, false, true, false, false, true, false, false, false, false, false, false, false] ?_
    refine tpu 7 (some 20) #[true, true, true, true, true, true, true, true, false, false, false, true, false, false, true, false, false, false, false, false, false, false] ?_
    refine tpu 8 (some 21) #[true, true, true, true, true, true, true, true, true, false, false, true, false, false, true, false, false, false, false, false, false, false] ?_
    refine tta 9 (some 22) #[true, true, true, true, true, true, true, true, true, true, false, true, false, false, true, false, false, false, false, false, false, false] hHeld ?_ (hy := by rintro w' ⟨s0, s1, s2, s3, s4, s5, s6, s7, s8, s9, s10, s11⟩; go_simp; with_reducible rfl)
    refine tpu 10 (some 23) #[true, true, true, true, true, true, true, true, true, true, true, true, false, false, true, false, false, false, false, false, false, false] ?_
    refine join_ (σ := Value × Nat) 1 #[true, true, true, true, true, true, true, true, true, true, true, true, true, true, true, true, true, true, true, true, true, false] (fun s_ => [(25, .int .i64 t607), (28, .int .i64 t609), (32, .agg #[.bool t611, .bool t612, .int .i64 t613, .int .i64 t614, .int .i64 t615, s_.1]), (6, .pointer (some ⟨s_.2, 0, none⟩)), (26, .int .i64 (wrap64 ((wrap64 (((rd_T41 t601 (ji5)).f0) + 1)) + t607))), (29, .int .i64 (wrap64 (Int.tdiv t609 11))), (30, .int .i64 (wrap64 ((wrap64 (Int.tdiv t609 11)) * 3))), (31, .int .i64 (wrap64 ((wrap64 ((wrap64 (((rd_T41 t601 (ji5)).f0) + 1)) + t607)) - (wrap64 ((wrap64 (Int.tdiv t609 11)) * 3)))))]) (fun s_ w' => (w'.cell? ⟨gb605, 0, none⟩ = some (.bool t596) ∧ w'.cell? ⟨gb605, 1, none⟩ = some (.bool t597) ∧ w'.cell? ⟨gb605, 2, none⟩ = some (.int .i64 t598) ∧ w'.cell? ⟨gb605, 3, none⟩ = some (.int .i64 t599) ∧ w'.cell? ⟨gb605, 4, none⟩ = some (.int .i64 t600) ∧ w'.cell? ⟨gb605, 5, none⟩ = some (.slice (some ad606) t601.length co69) ∧ w'.cell? (ad606.add (((ji5)).toNat * 6)) = some (.int .i64 ((rd_T41 t601 (ji5)).f0)) ∧ w'.cell? ⟨(ad606.add (((ji5)).toNat * 6)).block, (ad606.add (((ji5)).toNat * 6)).off + 1, none⟩ = some (.int .i64 ((rd_T41 t601 (ji5)).f1)) ∧ w'.cell? ⟨(ad606.add (((ji5)).toNat * 6)).block, (ad606.add (((ji5)).toNat * 6)).off + 2, none⟩ = some (.bool ((rd_T41 t601 (ji5)).f2)) ∧ w'.cell? ⟨(ad606.add (((ji5)).toNat * 6)).block, (ad606.add (((ji5)).toNat * 6)).off + 3, none⟩ = some (.slice A606_3 ((rd_T41 t601 (ji5)).f3).length c606_3) ∧ w'.cell? ⟨(ad606.add (((ji5)).toNat * 6)).block, (ad606.add (((ji5)).toNat * 6)).off + 4, none⟩ = some (.bool ((rd_T41 t601 (ji5)).f4)) ∧ w'.cell? ⟨(ad606.add (((ji5)).toNat * 6)).block, (ad606.add (((ji5)).toNat * 6)).off + 5, none⟩ = some (.slice A606_5 ((rd_T41 t601 (ji5)).f5).length c606_5)) ∧ (Kd.V (Kd.int .i64) 3 w' w.heap.size (fun k_ => (w.heap.size ≤ k_) ∧ some k_ ≠ (.slice (some ad606) t601.length co69 : Value).ownBlock ∧ some k_ ≠ (s_.1 : Value).ownBlock ∧ k_ ≠ gb589 ∧ k_ ≠ gb590 ∧ k_ ≠ g593 ∧ k_ ≠ gb605 ∧ k_ ≠ s_.2) (.slice A606_3 ((rd_T41 t601 (ji5)).f3).length c606_3) ((rd_T41 t601 (ji5)).f3)) ∧ (Kd.V (Kd.int .i64) 3 w' w.heap.size (fun k_ => (w.heap.size ≤ k_) ∧ some k_ ≠ (.slice (some ad606) t601.length co69 : Value).ownBlock ∧ some k_ ≠ (s_.1 : Value).ownBlock ∧ k_ ≠ gb589 ∧ k_ ≠ gb590 ∧ k_ ≠ g593 ∧ k_ ≠ gb605 ∧ k_ ≠ s_.2) (.slice A606_5 ((rd_T41 t601 (ji5)).f5).length c606_5) ((rd_T41 t601 (ji5)).f5)) ∧ (Kd.N k41 41 w' w.heap.size (fun k_ => (w.heap.size ≤ k_) ∧ some k_ ≠ (s_.1 : Value).ownBlock ∧ k_ ≠ gb589 ∧ k_ ≠ gb590 ∧ k_ ≠ g593 ∧ k_ ≠ gb605 ∧ k_ ≠ s_.2) (.slice (some ad606) t601.length co69) t601) ∧ (Kd.N k41 41 w' w.heap.size (fun k_ => (w.heap.size ≤ k_) ∧ some k_ ≠ (.slice (some ad606) t601.length co69 : Value).ownBlock ∧ k_ ≠ gb589 ∧ k_ ≠ gb590 ∧ k_ ≠ g593 ∧ k_ ≠ gb605 ∧ k_ ≠ s_.2) s_.1 t616) ∧ (w'.heap[gb589]? = some (.cells #[.bool false, .bool false, .int .i64 0, .int .i64 0, .int .i64 0, .slice none 0 0] 25 (0, 0))) ∧ (w'.heap[gb590]? = some (.cells #[.bool false, .bool false, .int .i64 0, .int .i64 0, .int .i64 0, .slice none 0 0] 25 (0, 0))) ∧ (w'.heap[gb605]? = some (.cells #[.bool t596, .bool t597, .int .i64 t598, .int .i64 t599, .int .i64 t600, .slice (some ad606) t601.length co69] 25 (0, 0))) ∧ (w'.heap[s_.2]? = some (.cells #[.bool false, .bool false, .int .i64 0, .int .i64 0, .int .i64 0, .slice none 0 0] 25 (0, 0))) ∧ (w.heap.size ≤ s_.2) ∧ (w.heap.size ≤ s_.2) ∧ (g593 ≠ s_.2) ∧ (s_.2 ≠ g593) ∧ (gb589 ≠ s_.2) ∧ (s_.2 ≠ gb589) ∧ (gb590 ≠ s_.2) ∧ (s_.2 ≠ gb590) ∧ (gb605 ≠ s_.2) ∧ (s_.2 ≠ gb605) ∧ (IsS72 w w' g593 t591 t619) ∧ (Below w.heap.size w w')) ?_ ?_
    rotate_left
    ·intro hCont
     refine two_ (i := 12) (j := 20) (Ni := some 25) (Nj := some 6) #[true, true, true, true, true, true, true, true, true, true, true, true, true, false, true, false, false, false, false, false, false, false] #[true, true, true, true, true, true, true, true, true, true, true, true, false, false, true, false, false, false, false, false, true, false] rfl rfl rfl rfl (two_of HT_.out (by kernel_rfl)) (by decide) (by decide) (fun K hK => ?_) (fun K hK => ?_)
     ·skip
      refine goes_ Tryd.func24 (by kernel_rfl) rfl #[.pointer (some ⟨g593, 0, none⟩), .int .i64 3] (by rfl) rfl rfl tq ?_
      with_reducible refine (spec_l6Rd_pick.calls k g593 t591 t604 3 t607 t608 w _ ?side1 ?side2 A8.out).mono ?_
      (case side1 => repeat (first | (with_reducible first | exact HI593.out | apply IsS72.alloc | apply IsS72.drewN | apply IsS72.drew | apply IsS72.set_1 | refine IsS72.far ?_ NB593_589.out _ | refine IsS72.far ?_ NB593_590.out _ | refine IsS72.far ?_ NB593_605.out _) | exact HI593.out))
      (case side2 => repeat (first | (with_reducible first | exact HB.out | apply below_alloc | apply pw_below_drewN | apply below_drew1 | refine below_set ?_ (IsS72.ge HI593.out) | refine below_set ?_ GE589.out | refine below_set ?_ GE590.out | refine below_set ?_ GE605.out) | exact HB.out))
      rintro e w72 ⟨rfl, hi, hb, hk⟩
      have HS6_ := keep_cell hk (hHeld.2.2.2.2.2.2.1) (tow (Kd.own_blk (IsS72.own_neN HI593.out HO603.out (by decide))))
      have HS7_ := keep_cell hk (hHeld.2.2.2.2.2.2.2.1) (tow (Kd.own_blk (IsS72.own_neN HI593.out HO603.out (by decide))))
      have HS8_ := keep_cell hk (hHeld.2.2.2.2.2.2.2.2.1) (tow (Kd.own_blk (IsS72.own_neN HI593.out HO603.out (by decide))))
      have HS9_ := keep_cell hk (hHeld.2.2.2.2.2.2.2.2.2.1) (tow (Kd.own_blk (IsS72.own_neN HI593.out HO603.out (by decide))))
      have HS10_ := keep_cell hk (hHeld.2.2.2.2.2.2.2.2.2.2.1) (tow (Kd.own_blk (IsS72.own_neN HI593.out HO603.out (by decide))))
      have HS11_ := keep_cell hk (hHeld.2.2.2.2.2.2.2.2.2.2.2) (tow (Kd.own_blk (IsS72.own_neN HI593.out HO603.out (by decide))))
      refine ⟨_, rfl, ?_⟩
      replace BK589 := tBk BK589 hk NB589_593
      replace BK590 := tBk BK590 hk NB590_593
      replace HO603 := tNk HO603 hk
      replace BK605 := tBk BK605 hk NB605_593
      replace HL606_3 := tVk HL606_3 hk
      replace HL606_5 := tVk HL606_5 hk
      replace HB := Aside0.mk (hb)
      replace HI593 := Aside0.mk (hi)
      (try clear hb)
      (try clear hb2)
      (try clear hk)
      (try clear hi)
      refine hK.out _ _ ⟨(blk_cell BK605.out 0).trans rfl, (blk_cell BK605.out 1).trans rfl, (blk_cell BK605.out 2).trans rfl, (blk_cell BK605.out 3).trans rfl, (blk_cell BK605.out 4).trans rfl, (blk_cell BK605.out 5).trans rfl, HS6_, HS7_, HS8_, HS9_, HS10_, HS11_⟩ (fun hHeld => ?_)
      clear hK K
      refine tnm (some 25) ?_
      refine tpu 13 (some 26) #[true, true, true, true, true, true, true, true, true, true, true, true, true, true, true, false, false, false, false, false, false, false] ?_
      refine two_ (i := 15) (j := 20) (Ni := some 28) (Nj := some 6) #[true, true, true, true, true, true, true, true, true, true, true, true, true, true, true, true, false, false, false, false, false, false] #[true, true, true, true, true, true, true, true, true, true, true, true, true, true, true, false, false, false, false, false, true, false] rfl rfl rfl rfl (two_of HT_.out (by kernel_rfl)) (by decide) (by decide) (fun K hK => ?_) (fun K hK => ?_)
      ·skip
       refine goes_ Tryd.func24 (by kernel_rfl) rfl #[.pointer (some ⟨g593, 0, none⟩), .int .i64 12] (by rfl) rfl rfl tq ?_
       with_reducible refine (spec_l6Rd_pick.calls k g593 t591 t608 12 t609 t610 w _ ?side1 ?side2 A9.out).mono ?_
       (case side1 => repeat (first | (with_reducible first | exact HI593.out | apply IsS72.alloc | apply IsS72.drewN | apply IsS72.drew | apply IsS72.set_1 | refine IsS72.far ?_ NB593_589.out _ | refine IsS72.far ?_ NB593_590.out _ | refine IsS72.far ?_ NB593_605.out _) | exact HI593.out))
       (case side2 => repeat (first | (with_reducible first | exact HB.out | apply below_alloc | apply pw_below_drewN | apply below_drew1 | refine below_set ?_ (IsS72.ge HI593.out) | refine below_set ?_ GE589.out | refine below_set ?_ GE590.out | refine below_set ?_ GE605.out) | exact HB.out))
       rintro e w73 ⟨rfl, hi, hb, hk⟩
       have HS6_ := keep_cell hk (hHeld.2.2.2.2.2.2.1) (tow (Kd.own_blk (IsS72.own_neN HI593.out HO603.out (by decide))))
       have HS7_ := keep_cell hk (hHeld.2.2.2.2.2.2.2.1) (tow (Kd.own_blk (IsS72.own_neN HI593.out HO603.out (by decide))))
       have HS8_ := keep_cell hk (hHeld.2.2.2.2.2.2.2.2.1) (tow (Kd.own_blk (IsS72.own_neN HI593.out HO603.out (by decide))))
       have HS9_ := keep_cell hk (hHeld.2.2.2.2.2.2.2.2.2.1) (tow (Kd.own_blk (IsS72.own_neN HI593.out HO603.out (by decide))))
       have HS10_ := keep_cell hk (hHeld.2.2.2.2.2.2.2.2.2.2.1) (tow (Kd.own_blk (IsS72.own_neN HI593.out HO603.out (by decide))))
       have HS11_ := keep_cell hk (hHeld.2.2.2.2.2.2.2.2.2.2.2) (tow (Kd.own_blk (IsS72.own_neN HI593.out HO603.out (by decide))))
       refine ⟨_, rfl, ?_⟩
       replace BK589 := tBk BK589 hk NB589_593
       replace BK590 := tBk BK590 hk NB590_593
       replace HO603 := tNk HO603 hk
       replace BK605 := tBk BK605 hk NB605_593
       replace HL606_3 := tVk HL606_3 hk
       replace HL606_5 := tVk HL606_5 hk
       replace HB := Aside0.mk (hb)
       replace HI593 := Aside0.mk (hi)
       (try clear hb)
       (try clear hb2)
       (try clear hk)
       (try clear hi)
       refine hK.out _ _ ⟨(blk_cell BK605.out 0).trans rfl, (blk_cell BK605.out 1).trans rfl, (blk_cell BK605.out 2).trans rfl, (blk_cell BK605.out 3).trans rfl, (blk_cell BK605.out 4).trans rfl, (blk_cell BK605.out 5).trans rfl, HS6_, HS7_, HS8_, HS9_, HS10_, HS11_⟩ (fun hHeld => ?_)
       clear hK K
       refine tnm (some 28) ?_
       refine tpu 16 (some 29) #[true, true, true, true, true, true, true, true, true, true, true, true, true, true, true, true, true, false, false, false, false, false] ?_
       refine tpu 17 (some 30) #[true, true, true, true, true, true, true, true, true, true, true, true, true, true, true, true, true, true, false, false, false, false] ?_
       refine tpu 18 (some 31) #[true, true, true, true, true, true, true, true, true, true, true, true, true, true, true, true, true, true, true, false, false, false] ?_
       refine two_ (i := 19) (j := 20) (Ni := some 32) (Nj := some 6) #[true, true, true, true, true, true, true, true, true, true, true, true, true, true, true, true, true, true, true, true, false, false] #[true, true, true, true, true, true, true, true, true, true, true, true, true, true, true, true, true, true, true, false, true, false] rfl rfl rfl rfl (two_of HT_.out (by kernel_rfl)) (by decide) (by decide) (fun K hK => ?_) (fun K hK => ?_)
       ·skip
        refine goes_ Tryd.func23 (by kernel_rfl) rfl #[.pointer (some ⟨g593, 0, none⟩), .int .i64 (wrap64 ((wrap64 ((wrap64 (((rd_T41 t601 (ji5)).f0) + 1)) + t607)) - (wrap64 ((wrap64 (Int.tdiv t609 11)) * 3))))] (by rfl) rfl rfl (by (try simp only [List.map_toArray, List.map_cons, List.map_nil]); first | done | (simp only [hji5]; rfl) | rfl | (simp only [List.length_drop, List.length_take]; rfl)) ?_
        with_reducible refine (spec_l91Batch.calls k g593 t591 t610 (wrap64 ((wrap64 ((wrap64 (((rd_T41 t601 (ji5)).f0) + 1)) + t607)) - (wrap64 ((wrap64 (Int.tdiv t609 11)) * 3)))) t611 t612 t613 t614 t615 t616 t619 w _ ?side1 ?side2 A10.out).mono ?_
        (case side1 => repeat (first | (with_reducible first | exact HI593.out | apply IsS72.alloc | apply IsS72.drewN | apply IsS72.drew | apply IsS72.set_1 | refine IsS72.far ?_ NB593_589.out _ | refine IsS72.far ?_ NB593_590.out _ | refine IsS72.far ?_ NB593_605.out _) | exact HI593.out))
        (case side2 => repeat (first | (with_reducible first | exact HB.out | apply below_alloc | apply pw_below_drewN | apply below_drew1 | refine below_set ?_ (IsS72.ge HI593.out) | refine below_set ?_ GE589.out | refine below_set ?_ GE590.out | refine below_set ?_ GE605.out) | exact HB.out))
        rintro e w74 ⟨v617, rfl, ho0, hi, hb, hk⟩
        have HS6_ := keep_cell hk (hHeld.2.2.2.2.2.2.1) (tow (Kd.own_blk (IsS72.own_neN HI593.out HO603.out (by decide))))
        have HS7_ := keep_cell hk (hHeld.2.2.2.2.2.2.2.1) (tow (Kd.own_blk (IsS72.own_neN HI593.out HO603.out (by decide))))
        have HS8_ := keep_cell hk (hHeld.2.2.2.2.2.2.2.2.1) (tow (Kd.own_blk (IsS72.own_neN HI593.out HO603.out (by decide))))
        have HS9_ := keep_cell hk (hHeld.2.2.2.2.2.2.2.2.2.1) (tow (Kd.own_blk (IsS72.own_neN HI593.out HO603.out (by decide))))
        have HS10_ := keep_cell hk (hHeld.2.2.2.2.2.2.2.2.2.2.1) (tow (Kd.own_blk (IsS72.own_neN HI593.out HO603.out (by decide))))
        have HS11_ := keep_cell hk (hHeld.2.2.2.2.2.2.2.2.2.2.2) (tow (Kd.own_blk (IsS72.own_neN HI593.out HO603.out (by decide))))
        refine ⟨_, rfl, ?_⟩
        replace HL606_3 := Aside0.mk (Kd.V_mono (Kd.V_told (Kd.V_oldK (Kd.V_mono (ok := fun k_ => ((((w.heap.size ≤ k_)) ∧ (k_ ≠ gb589 ∧ (k_ ≠ gb590 ∧ (k_ ≠ g593 ∧ k_ ≠ gb605)))) ∧ some k_ ≠ (.slice (some ad606) t601.length co69 : Value).ownBlock)) (tV HL606_3.out) (fun k_ hk_ => (⟨hk_, hk_.1.2.2.2.1⟩ : _ ∧ k_ ≠ g593))) hk) (tb ho0)) (fun _ h_ => h_.1))
        replace HL606_5 := Aside0.mk (Kd.V_mono (Kd.V_told (Kd.V_oldK (Kd.V_mono (ok := fun k_ => ((((w.heap.size ≤ k_)) ∧ (k_ ≠ gb589 ∧ (k_ ≠ gb590 ∧ (k_ ≠ g593 ∧ k_ ≠ gb605)))) ∧ some k_ ≠ (.slice (some ad606) t601.length co69 : Value).ownBlock)) (tV HL606_5.out) (fun k_ hk_ => (⟨hk_, hk_.1.2.2.2.1⟩ : _ ∧ k_ ≠ g593))) hk) (tb ho0)) (fun _ h_ => h_.1))
        have HO618 := Aside0.mk (Kd.N_lower (Kd.N_mono (ok' := fun k_ => (w.heap.size ≤ k_) ∧ some k_ ≠ (.slice (some ad606) t601.length co69 : Value).ownBlock ∧ k_ ≠ gb589 ∧ k_ ≠ gb590 ∧ k_ ≠ gb605 ∧ k_ ≠ g593) ho0 (fun k_ hk_ => ⟨(Nat.le_trans (below_size (by repeat (first | (with_reducible first | exact HB.out | apply below_alloc | apply pw_below_drewN | apply below_drew1 | refine below_set ?_ (IsS72.ge HI593.out) | refine below_set ?_ GE589.out | refine below_set ?_ GE590.out | refine below_set ?_ GE605.out) | exact HB.out))) hk_), (tfr HO603 k_ hk_), (tfB BK589 k_ hk_), (tfB BK590 k_ hk_), (tfB BK605 k_ hk_), (IsS72.fresh (by repeat (first | (with_reducible first | exact HI593.out | apply IsS72.alloc | apply IsS72.drewN | apply IsS72.drew | apply IsS72.set_1 | refine IsS72.far ?_ NB593_589.out _ | refine IsS72.far ?_ NB593_590.out _ | refine IsS72.far ?_ NB593_605.out _) | exact HI593.out)) k_ hk_)⟩)) (below_size (by repeat (first | (with_reducible first | exact HB.out | apply below_alloc | apply pw_below_drewN | apply below_drew1 | refine below_set ?_ (IsS72.ge HI593.out) | refine below_set ?_ GE589.out | refine below_set ?_ GE590.out | refine below_set ?_ GE605.out) | exact HB.out))))
        replace BK589 := tBk BK589 hk NB589_593
        replace BK590 := tBk BK590 hk NB590_593
        replace HO603 := Aside0.mk (Kd.N_mono (Kd.N_told (Kd.N_oldK (Kd.N_mono (ok := fun k_ => (((w.heap.size ≤ k_)) ∧ (k_ ≠ gb589 ∧ (k_ ≠ gb590 ∧ (k_ ≠ g593 ∧ k_ ≠ gb605))))) (tN HO603.out) (fun k_ hk_ => (⟨hk_, hk_.2.2.2.1⟩ : _ ∧ k_ ≠ g593))) hk) (tb ho0)) (fun _ h_ => h_.1))
        replace BK605 := tBk BK605 hk NB605_593
        replace HB := Aside0.mk (hb)
        replace HI593 := Aside0.mk (hi)
        (try clear hb)
        (try clear hb2)
        (try clear hk)
        (try clear hi)
        (try clear ho0)
        refine hK.out _ _ ⟨(blk_cell BK605.out 0).trans rfl, (blk_cell BK605.out 1).trans rfl, (blk_cell BK605.out 2).trans rfl, (blk_cell BK605.out 3).trans rfl, (blk_cell BK605.out 4).trans rfl, (blk_cell BK605.out 5).trans rfl, HS6_, HS7_, HS8_, HS9_, HS10_, HS11_⟩ (fun hHeld => ?_)
        clear hK K
        refine tnm (some 32) ?_
        refine one_ (i := 20) (N := some 6) #[true, true, true, true, true, true, true, true, true, true, true, true, true, true, true, true, true, true, true, true, true, false] rfl rfl (one_of HT_.out (by kernel_rfl)) (by decide) (fun K hK => ?_)
        refine box_step ?hg (N := 6) ?hd (cs := #[.bool false, .bool false, .int .i64 0, .int .i64 0, .int .i64 0, .slice none 0 0]) (t := 25) ?hr ?_; (case hd => rfl); (case hg => rfl); (case hr => first | (go_simp; done) | (go_simp; rfl))
        intro gb620 hg w75 hbox hb
        have HS6_ := tcb hb hHeld.2.2.2.2.2.2.1
        have HS7_ := tcb hb hHeld.2.2.2.2.2.2.2.1
        have HS8_ := tcb hb hHeld.2.2.2.2.2.2.2.2.1
        have HS9_ := tcb hb hHeld.2.2.2.2.2.2.2.2.2.1
        have HS10_ := tcb hb hHeld.2.2.2.2.2.2.2.2.2.2.1
        have HS11_ := tcb hb hHeld.2.2.2.2.2.2.2.2.2.2.2
        replace HO603 := tNB HO603 hg hb
        replace HL606_3 := tVB HL606_3 hg hb
        replace HL606_5 := tVB HL606_5 hg hb
        replace HO618 := tNB HO618 hg hb
        have BK620 := Aside0.mk (hbox)
        have GW620 := Aside0.mk ((by rw [hg]; exact (below_size (by repeat (first | (with_reducible first | exact HB.out | apply below_alloc | apply pw_below_drewN | apply below_drew1 | refine below_set ?_ (IsS72.ge HI593.out) | refine below_set ?_ GE589.out | refine below_set ?_ GE590.out | refine below_set ?_ GE605.out) | exact HB.out))) : w.heap.size ≤ gb620))
        have GE620 := Aside0.mk ((by rw [hg]; exact (below_size (by repeat (first | (with_reducible first | exact HB.out | apply below_alloc | apply pw_below_drewN | apply below_drew1 | refine below_set ?_ (IsS72.ge HI593.out) | refine below_set ?_ GE589.out | refine below_set ?_ GE590.out | refine below_set ?_ GE605.out) | exact HB.out))) : w.heap.size ≤ gb620))
        replace HB := Aside0.mk (below_step (by repeat (first | (with_reducible first | exact HB.out | apply below_alloc | apply pw_below_drewN | apply below_drew1 | refine below_set ?_ (IsS72.ge HI593.out) | refine below_set ?_ GE589.out | refine below_set ?_ GE590.out | refine below_set ?_ GE605.out) | exact HB.out)) hb)
        have NB589_620 := tlt BK589 hg
        have NB620_589 := tgt BK589 hg
        replace BK589 := tBb BK589 hb
        have NB590_620 := tlt BK590 hg
        have NB620_590 := tgt BK590 hg
        replace BK590 := tBb BK590 hb
        have NB605_620 := tlt BK605 hg
        have NB620_605 := tgt BK605 hg
        replace BK605 := tBb BK605 hb
        have NB593_620 := Aside0.mk ((by rw [hg]; exact Nat.ne_of_lt (IsS72.lt (show IsS72 w _ g593 t591 t619 from by repeat (first | (with_reducible first | exact HI593.out | apply IsS72.alloc | apply IsS72.drewN | apply IsS72.drew | apply IsS72.set_1 | refine IsS72.far ?_ NB593_589.out _ | refine IsS72.far ?_ NB593_590.out _ | refine IsS72.far ?_ NB593_605.out _) | exact HI593.out))) : g593 ≠ gb620))
        have NB620_593 := Aside0.mk ((by rw [hg]; exact Nat.ne_of_gt (IsS72.lt (show IsS72 w _ g593 t591 t619 from by repeat (first | (with_reducible first | exact HI593.out | apply IsS72.alloc | apply IsS72.drewN | apply IsS72.drew | apply IsS72.set_1 | refine IsS72.far ?_ NB593_589.out _ | refine IsS72.far ?_ NB593_590.out _ | refine IsS72.far ?_ NB593_605.out _) | exact HI593.out))) : gb620 ≠ g593))
        replace HI593 := Aside0.mk (IsS72.below (by repeat (first | (with_reducible first | exact HI593.out | apply IsS72.alloc | apply IsS72.drewN | apply IsS72.drew | apply IsS72.set_1 | refine IsS72.far ?_ NB593_589.out _ | refine IsS72.far ?_ NB593_590.out _ | refine IsS72.far ?_ NB593_605.out _) | exact HI593.out)) hb)
        clear hb hbox hg
        refine hK.out _ _ ⟨(blk_cell BK605.out 0).trans rfl, (blk_cell BK605.out 1).trans rfl, (blk_cell BK605.out 2).trans rfl, (blk_cell BK605.out 3).trans rfl, (blk_cell BK605.out 4).trans rfl, (blk_cell BK605.out 5).trans rfl, HS6_, HS7_, HS8_, HS9_, HS10_, HS11_⟩ (fun hHeld => ?_)
        clear hK K
        refine tnm (some 6) ?_
        exact tnx (hCont (v617, gb620) _ ⟨hHeld, (tVm HL606_3.out), (tVm HL606_5.out), (tNm HO603.out), (tNm HO618.out), (tH BK589.out), (tH BK590.out), (tH BK605.out), (tH BK620.out), GW620.out, GE620.out, NB593_620.out, NB620_593.out, NB589_620.out, NB620_589.out, NB590_620.out, NB620_590.out, NB605_620.out, NB620_605.out, (by repeat (first | (with_reducible first | exact HI593.out | apply IsS72.alloc | apply IsS72.drewN | apply IsS72.drew | apply IsS72.set_1 | refine IsS72.far ?_ NB593_589.out _ | refine IsS72.far ?_ NB593_590.out _ | refine IsS72.far ?_ NB593_605.out _ | refine IsS72.far ?_ NB593_620.out _) | exact HI593.out)), (by repeat (first | (with_reducible first | exact HB.out | apply below_alloc | apply pw_below_drewN | apply below_drew1 | refine below_set ?_ (IsS72.ge HI593.out) | refine below_set ?_ GE589.out | refine below_set ?_ GE590.out | refine below_set ?_ GE605.out | refine below_set ?_ GE620.out) | exact HB.out))⟩)
       ·skip
        refine box_step ?hg (N := 6) ?hd (cs := #[.bool false, .bool false, .int .i64 0, .int .i64 0, .int .i64 0, .slice none 0 0]) (t := 25) ?hr ?_; (case hd => rfl); (case hg => rfl); (case hr => first | (go_simp; done) | (go_simp; rfl))
        intro gb620 hg w74 hbox hb
        have HS6_ := tcb hb hHeld.2.2.2.2.2.2.1
        have HS7_ := tcb hb hHeld.2.2.2.2.2.2.2.1
        have HS8_ := tcb hb hHeld.2.2.2.2.2.2.2.2.1
        have HS9_ := tcb hb hHeld.2.2.2.2.2.2.2.2.2.1
        have HS10_ := tcb hb hHeld.2.2.2.2.2.2.2.2.2.2.1
        have HS11_ := tcb hb hHeld.2.2.2.2.2.2.2.2.2.2.2
        replace HO603 := tNB HO603 hg hb
        replace HL606_3 := tVB HL606_3 hg hb
        replace HL606_5 := tVB HL606_5 hg hb
        have BK620 := Aside0.mk (hbox)
        have GW620 := Aside0.mk ((by rw [hg]; exact (below_size (by repeat (first | (with_reducible first | exact HB.out | apply below_alloc | apply pw_below_drewN | apply below_drew1 | refine below_set ?_ (IsS72.ge HI593.out) | refine below_set ?_ GE589.out | refine below_set ?_ GE590.out | refine below_set ?_ GE605.out) | exact HB.out))) : w.heap.size ≤ gb620))
        have GE620 := Aside0.mk ((by rw [hg]; exact (below_size (by repeat (first | (with_reducible first | exact HB.out | apply below_alloc | apply pw_below_drewN | apply below_drew1 | refine below_set ?_ (IsS72.ge HI593.out) | refine below_set ?_ GE589.out | refine below_set ?_ GE590.out | refine below_set ?_ GE605.out) | exact HB.out))) : w.heap.size ≤ gb620))
        replace HB := Aside0.mk (below_step (by repeat (first | (with_reducible first | exact HB.out | apply below_alloc | apply pw_below_drewN | apply below_drew1 | refine below_set ?_ (IsS72.ge HI593.out) | refine below_set ?_ GE589.out | refine below_set ?_ GE590.out | refine below_set ?_ GE605.out) | exact HB.out)) hb)
        have NB589_620 := tlt BK589 hg
        have NB620_589 := tgt BK589 hg
        replace BK589 := tBb BK589 hb
        have NB590_620 := tlt BK590 hg
        have NB620_590 := tgt BK590 hg
        replace BK590 := tBb BK590 hb
        have NB605_620 := tlt BK605 hg
        have NB620_605 := tgt BK605 hg
        replace BK605 := tBb BK605 hb
        have NB593_620 := Aside0.mk ((by rw [hg]; exact Nat.ne_of_lt (IsS72.lt (show IsS72 w _ g593 t591 t610 from by repeat (first | (with_reducible first | exact HI593.out | apply IsS72.alloc | apply IsS72.drewN | apply IsS72.drew | apply IsS72.set_1 | refine IsS72.far ?_ NB593_589.out _ | refine IsS72.far ?_ NB593_590.out _ | refine IsS72.far ?_ NB593_605.out _) | exact HI593.out))) : g593 ≠ gb620))
        have NB620_593 := Aside0.mk ((by rw [hg]; exact Nat.ne_of_gt (IsS72.lt (show IsS72 w _ g593 t591 t610 from by repeat (first | (with_reducible first | exact HI593.out | apply IsS72.alloc | apply IsS72.drewN | apply IsS72.drew | apply IsS72.set_1 | refine IsS72.far ?_ NB593_589.out _ | refine IsS72.far ?_ NB593_590.out _ | refine IsS72.far ?_ NB593_605.out _) | exact HI593.out))) : gb620 ≠ g593))
        replace HI593 := Aside0.mk (IsS72.below (by repeat (first | (with_reducible first | exact HI593.out | apply IsS72.alloc | apply IsS72.drewN | apply IsS72.drew | apply IsS72.set_1 | refine IsS72.far ?_ NB593_589.out _ | refine IsS72.far ?_ NB593_590.out _ | refine IsS72.far ?_ NB593_605.out _) | exact HI593.out)) hb)
        clear hb hbox hg
        refine hK.out _ _ ⟨(blk_cell BK605.out 0).trans rfl, (blk_cell BK605.out 1).trans rfl, (blk_cell BK605.out 2).trans rfl, (blk_cell BK605.out 3).trans rfl, (blk_cell BK605.out 4).trans rfl, (blk_cell BK605.out 5).trans rfl, HS6_, HS7_, HS8_, HS9_, HS10_, HS11_⟩ (fun hHeld => ?_)
        clear hK K
        refine tnm (some 6) ?_
        refine one_ (i := 19) (N := some 32) #[true, true, true, true, true, true, true, true, true, true, true, true, true, true, true, true, true, true, true, true, true, false] rfl rfl (one_of HT_.out (by kernel_rfl)) (by decide) (fun K hK => ?_)
        refine goes_ Tryd.func23 (by kernel_rfl) rfl #[.pointer (some ⟨g593, 0, none⟩), .int .i64 (wrap64 ((wrap64 ((wrap64 (((rd_T41 t601 (ji5)).f0) + 1)) + t607)) - (wrap64 ((wrap64 (Int.tdiv t609 11)) * 3))))] (by rfl) rfl rfl (by (try simp only [List.map_toArray, List.map_cons, List.map_nil]); first | done | (simp only [hji5]; rfl) | rfl | (simp only [List.length_drop, List.length_take]; rfl)) ?_
        with_reducible refine (spec_l91Batch.calls k g593 t591 t610 (wrap64 ((wrap64 ((wrap64 (((rd_T41 t601 (ji5)).f0) + 1)) + t607)) - (wrap64 ((wrap64 (Int.tdiv t609 11)) * 3)))) t611 t612 t613 t614 t615 t616 t619 w _ ?side1 ?side2 A10.out).mono ?_
        (case side1 => repeat (first | (with_reducible first | exact HI593.out | apply IsS72.alloc | apply IsS72.drewN | apply IsS72.drew | apply IsS72.set_1 | refine IsS72.far ?_ NB593_589.out _ | refine IsS72.far ?_ NB593_590.out _ | refine IsS72.far ?_ NB593_605.out _ | refine IsS72.far ?_ NB593_620.out _) | exact HI593.out))
        (case side2 => repeat (first | (with_reducible first | exact HB.out | apply below_alloc | apply pw_below_drewN | apply below_drew1 | refine below_set ?_ (IsS72.ge HI593.out) | refine below_set ?_ GE589.out | refine below_set ?_ GE590.out | refine below_set ?_ GE605.out | refine below_set ?_ GE620.out) | exact HB.out))
        rintro e w75 ⟨v617, rfl, ho0, hi, hb, hk⟩
        have HS6_ := keep_cell hk (hHeld.2.2.2.2.2.2.1) (tow (Kd.own_blk (IsS72.own_neN HI593.out HO603.out (by decide))))
        have HS7_ := keep_cell hk (hHeld.2.2.2.2.2.2.2.1) (tow (Kd.own_blk (IsS72.own_neN HI593.out HO603.out (by decide))))
        have HS8_ := keep_cell hk (hHeld.2.2.2.2.2.2.2.2.1) (tow (Kd.own_blk (IsS72.own_neN HI593.out HO603.out (by decide))))
        have HS9_ := keep_cell hk (hHeld.2.2.2.2.2.2.2.2.2.1) (tow (Kd.own_blk (IsS72.own_neN HI593.out HO603.out (by decide))))
        have HS10_ := keep_cell hk (hHeld.2.2.2.2.2.2.2.2.2.2.1) (tow (Kd.own_blk (IsS72.own_neN HI593.out HO603.out (by decide))))
        have HS11_ := keep_cell hk (hHeld.2.2.2.2.2.2.2.2.2.2.2) (tow (Kd.own_blk (IsS72.own_neN HI593.out HO603.out (by decide))))
        refine ⟨_, rfl, ?_⟩
        replace HL606_3 := Aside0.mk (Kd.V_mono (Kd.V_told (Kd.V_oldK (Kd.V_mono (ok := fun k_ => (((((w.heap.size ≤ k_)) ∧ (k_ ≠ gb589 ∧ (k_ ≠ gb590 ∧ (k_ ≠ g593 ∧ k_ ≠ gb605)))) ∧ some k_ ≠ (.slice (some ad606) t601.length co69 : Value).ownBlock) ∧ k_ ≠ gb620)) (tV HL606_3.out) (fun k_ hk_ => (⟨hk_, hk_.1.1.2.2.2.1⟩ : _ ∧ k_ ≠ g593))) hk) (tb ho0)) (fun _ h_ => h_.1))
        replace HL606_5 := Aside0.mk (Kd.V_mono (Kd.V_told (Kd.V_oldK (Kd.V_mono (ok := fun k_ => (((((w.heap.size ≤ k_)) ∧ (k_ ≠ gb589 ∧ (k_ ≠ gb590 ∧ (k_ ≠ g593 ∧ k_ ≠ gb605)))) ∧ some k_ ≠ (.slice (some ad606) t601.length co69 : Value).ownBlock) ∧ k_ ≠ gb620)) (tV HL606_5.out) (fun k_ hk_ => (⟨hk_, hk_.1.1.2.2.2.1⟩ : _ ∧ k_ ≠ g593))) hk) (tb ho0)) (fun _ h_ => h_.1))
        have HO618 := Aside0.mk (Kd.N_lower (Kd.N_mono (ok' := fun k_ => (w.heap.size ≤ k_) ∧ some k_ ≠ (.slice (some ad606) t601.length co69 : Value).ownBlock ∧ k_ ≠ gb589 ∧ k_ ≠ gb590 ∧ k_ ≠ gb605 ∧ k_ ≠ gb620 ∧ k_ ≠ g593) ho0 (fun k_ hk_ => ⟨(Nat.le_trans (below_size (by repeat (first | (with_reducible first | exact HB.out | apply below_alloc | apply pw_below_drewN | apply below_drew1 | refine below_set ?_ (IsS72.ge HI593.out) | refine below_set ?_ GE589.out | refine below_set ?_ GE590.out | refine below_set ?_ GE605.out | refine below_set ?_ GE620.out) | exact HB.out))) hk_), (tfr HO603 k_ hk_), (tfB BK589 k_ hk_), (tfB BK590 k_ hk_), (tfB BK605 k_ hk_), (tfB BK620 k_ hk_), (IsS72.fresh (by repeat (first | (with_reducible first | exact HI593.out | apply IsS72.alloc | apply IsS72.drewN | apply IsS72.drew | apply IsS72.set_1 | refine IsS72.far ?_ NB593_589.out _ | refine IsS72.far ?_ NB593_590.out _ | refine IsS72.far ?_ NB593_605.out _ | refine IsS72.far ?_ NB593_620.out _) | exact HI593.out)) k_ hk_)⟩)) (below_size (by repeat (first | (with_reducible first | exact HB.out | apply below_alloc | apply pw_below_drewN | apply below_drew1 | refine below_set ?_ (IsS72.ge HI593.out) | refine below_set ?_ GE589.out | refine below_set ?_ GE590.out | refine below_set ?_ GE605.out | refine below_set ?_ GE620.out) | exact HB.out))))
        replace BK589 := tBk BK589 hk NB589_593
        replace BK590 := tBk BK590 hk NB590_593
        replace HO603 := Aside0.mk (Kd.N_mono (Kd.N_told (Kd.N_oldK (Kd.N_mono (ok := fun k_ => ((((w.heap.size ≤ k_)) ∧ (k_ ≠ gb589 ∧ (k_ ≠ gb590 ∧ (k_ ≠ g593 ∧ k_ ≠ gb605)))) ∧ k_ ≠ gb620)) (tN HO603.out) (fun k_ hk_ => (⟨hk_, hk_.1.2.2.2.1⟩ : _ ∧ k_ ≠ g593))) hk) (tb ho0)) (fun _ h_ => h_.1))
        replace BK605 := tBk BK605 hk NB605_593
        replace BK620 := tBk BK620 hk NB620_593
        replace HB := Aside0.mk (hb)
        replace HI593 := Aside0.mk (hi)
        (try clear hb)
        (try clear hb2)
        (try clear hk)
        (try clear hi)
        (try clear ho0)
        refine hK.out _ _ ⟨(blk_cell BK605.out 0).trans rfl, (blk_cell BK605.out 1).trans rfl, (blk_cell BK605.out 2).trans rfl, (blk_cell BK605.out 3).trans rfl, (blk_cell BK605.out 4).trans rfl, (blk_cell BK605.out 5).trans rfl, HS6_, HS7_, HS8_, HS9_, HS10_, HS11_⟩ (fun hHeld => ?_)
        clear hK K
        refine tnm (some 32) ?_
        exact tnx (hCont (v617, gb620) _ ⟨hHeld, (tVm HL606_3.out), (tVm HL606_5.out), (tNm HO603.out), (tNm HO618.out), (tH BK589.out), (tH BK590.out), (tH BK605.out), (tH BK620.out), GW620.out, GE620.out, NB593_620.out, NB620_593.out, NB589_620.out, NB620_589.out, NB590_620.out, NB620_590.out, NB605_620.out, NB620_605.out, (by repeat (first | (with_reducible first | exact HI593.out | apply IsS72.alloc | apply IsS72.drewN | apply IsS72.drew | apply IsS72.set_1 | refine IsS72.far ?_ NB593_589.out _ | refine IsS72.far ?_ NB593_590.out _ | refine IsS72.far ?_ NB593_605.out _ | refine IsS72.far ?_ NB593_620.out _) | exact HI593.out)), (by repeat (first | (with_reducible first | exact HB.out | apply below_alloc | apply pw_below_drewN | apply below_drew1 | refine below_set ?_ (IsS72.ge HI593.out) | refine below_set ?_ GE589.out | refine below_set ?_ GE590.out | refine below_set ?_ GE605.out | refine below_set ?_ GE620.out) | exact HB.out))⟩)
      ·skip
       refine box_step ?hg (N := 6) ?hd (cs := #[.bool false, .bool false, .int .i64 0, .int .i64 0, .int .i64 0, .slice none 0 0]) (t := 25) ?hr ?_; (case hd => rfl); (case hg => rfl); (case hr => first | (go_simp; done) | (go_simp; rfl))
       intro gb620 hg w73 hbox hb
       have HS6_ := tcb hb hHeld.2.2.2.2.2.2.1
       have HS7_ := tcb hb hHeld.2.2.2.2.2.2.2.1
       have HS8_ := tcb hb hHeld.2.2.2.2.2.2.2.2.1
       have HS9_ := tcb hb hHeld.2.2.2.2.2.2.2.2.2.1
       have HS10_ := tcb hb hHeld.2.2.2.2.2.2.2.2.2.2.1
       have HS11_ := tcb hb hHeld.2.2.2.2.2.2.2.2.2.2.2
       replace HO603 := tNB HO603 hg hb
       replace HL606_3 := tVB HL606_3 hg hb
       replace HL606_5 := tVB HL606_5 hg hb
       have BK620 := Aside0.mk (hbox)
       have GW620 := Aside0.mk ((by rw [hg]; exact (below_size (by repeat (first | (with_reducible first | exact HB.out | apply below_alloc | apply pw_below_drewN | apply below_drew1 | refine below_set ?_ (IsS72.ge HI593.out) | refine below_set ?_ GE589.out | refine below_set ?_ GE590.out | refine below_set ?_ GE605.out) | exact HB.out))) : w.heap.size ≤ gb620))
       have GE620 := Aside0.mk ((by rw [hg]; exact (below_size (by repeat (first | (with_reducible first | exact HB.out | apply below_alloc | apply pw_below_drewN | apply below_drew1 | refine below_set ?_ (IsS72.ge HI593.out) | refine below_set ?_ GE589.out | refine below_set ?_ GE590.out | refine below_set ?_ GE605.out) | exact HB.out))) : w.heap.size ≤ gb620))
       replace HB := Aside0.mk (below_step (by repeat (first | (with_reducible first | exact HB.out | apply below_alloc | apply pw_below_drewN | apply below_drew1 | refine below_set ?_ (IsS72.ge HI593.out) | refine below_set ?_ GE589.out | refine below_set ?_ GE590.out | refine below_set ?_ GE605.out) | exact HB.out)) hb)
       have NB589_620 := tlt BK589 hg
       have NB620_589 := tgt BK589 hg
       replace BK589 := tBb BK589 hb
       have NB590_620 := tlt BK590 hg
       have NB620_590 := tgt BK590 hg
       replace BK590 := tBb BK590 hb
       have NB605_620 := tlt BK605 hg
       have NB620_605 := tgt BK605 hg
       replace BK605 := tBb BK605 hb
       have NB593_620 := Aside0.mk ((by rw [hg]; exact Nat.ne_of_lt (IsS72.lt (show IsS72 w _ g593 t591 t608 from by repeat (first | (with_reducible first | exact HI593.out | apply IsS72.alloc | apply IsS72.drewN | apply IsS72.drew | apply IsS72.set_1 | refine IsS72.far ?_ NB593_589.out _ | refine IsS72.far ?_ NB593_590.out _ | refine IsS72.far ?_ NB593_605.out _) | exact HI593.out))) : g593 ≠ gb620))
       have NB620_593 := Aside0.mk ((by rw [hg]; exact Nat.ne_of_gt (IsS72.lt (show IsS72 w _ g593 t591 t608 from by repeat (first | (with_reducible first | exact HI593.out | apply IsS72.alloc | apply IsS72.drewN | apply IsS72.drew | apply IsS72.set_1 | refine IsS72.far ?_ NB593_589.out _ | refine IsS72.far ?_ NB593_590.out _ | refine IsS72.far ?_ NB593_605.out _) | exact HI593.out))) : gb620 ≠ g593))
       replace HI593 := Aside0.mk (IsS72.below (by repeat (first | (with_reducible first | exact HI593.out | apply IsS72.alloc | apply IsS72.drewN | apply IsS72.drew | apply IsS72.set_1 | refine IsS72.far ?_ NB593_589.out _ | refine IsS72.far ?_ NB593_590.out _ | refine IsS72.far ?_ NB593_605.out _) | exact HI593.out)) hb)
       clear hb hbox hg
       refine hK.out _ _ ⟨(blk_cell BK605.out 0).trans rfl, (blk_cell BK605.out 1).trans rfl, (blk_cell BK605.out 2).trans rfl, (blk_cell BK605.out 3).trans rfl, (blk_cell BK605.out 4).trans rfl, (blk_cell BK605.out 5).trans rfl, HS6_, HS7_, HS8_, HS9_, HS10_, HS11_⟩ (fun hHeld => ?_)
       clear hK K
       refine tnm (some 6) ?_
       refine one_ (i := 15) (N := some 28) #[true, true, true, true, true, true, true, true, true, true, true, true, true, true, true, true, false, false, false, false, true, false] rfl rfl (one_of HT_.out (by kernel_rfl)) (by decide) (fun K hK => ?_)
       refine goes_ Tryd.func24 (by kernel_rfl) rfl #[.pointer (some ⟨g593, 0, none⟩), .int .i64 12] (by rfl) rfl rfl tq ?_
       with_reducible refine (spec_l6Rd_pick.calls k g593 t591 t608 12 t609 t610 w _ ?side1 ?side2 A9.out).mono ?_
       (case side1 => repeat (first | (with_reducible first | exact HI593.out | apply IsS72.alloc | apply IsS72.drewN | apply IsS72.drew | apply IsS72.set_1 | refine IsS72.far ?_ NB593_589.out _ | refine IsS72.far ?_ NB593_590.out _ | refine IsS72.far ?_ NB593_605.out _ | refine IsS72.far ?_ NB593_620.out _) | exact HI593.out))
       (case side2 => repeat (first | (with_reducible first | exact HB.out | apply below_alloc | apply pw_below_drewN | apply below_drew1 | refine below_set ?_ (IsS72.ge HI593.out) | refine below_set ?_ GE589.out | refine below_set ?_ GE590.out | refine below_set ?_ GE605.out | refine below_set ?_ GE620.out) | exact HB.out))
       rintro e w74 ⟨rfl, hi, hb, hk⟩
       have HS6_ := keep_cell hk (hHeld.2.2.2.2.2.2.1) (tow (Kd.own_blk (IsS72.own_neN HI593.out HO603.out (by decide))))
       have HS7_ := keep_cell hk (hHeld.2.2.2.2.2.2.2.1) (tow (Kd.own_blk (IsS72.own_neN HI593.out HO603.out (by decide))))
       have HS8_ := keep_cell hk (hHeld.2.2.2.2.2.2.2.2.1) (tow (Kd.own_blk (IsS72.own_neN HI593.out HO603.out (by decide))))
       have HS9_ := keep_cell hk (hHeld.2.2.2.2.2.2.2.2.2.1) (tow (Kd.own_blk (IsS72.own_neN HI593.out HO603.out (by decide))))
       have HS10_ := keep_cell hk (hHeld.2.2.2.2.2.2.2.2.2.2.1) (tow (Kd.own_blk (IsS72.own_neN HI593.out HO603.out (by decide))))
       have HS11_ := keep_cell hk (hHeld.2.2.2.2.2.2.2.2.2.2.2) (tow (Kd.own_blk (IsS72.own_neN HI593.out HO603.out (by decide))))
       refine ⟨_, rfl, ?_⟩
       replace BK589 := tBk BK589 hk NB589_593
       replace BK590 := tBk BK590 hk NB590_593
       replace HO603 := tNk HO603 hk
       replace BK605 := tBk BK605 hk NB605_593
       replace HL606_3 := tVk HL606_3 hk
       replace HL606_5 := tVk HL606_5 hk
       replace BK620 := tBk BK620 hk NB620_593
       replace HB := Aside0.mk (hb)
       replace HI593 := Aside0.mk (hi)
       (try clear hb)
       (try clear hb2)
       (try clear hk)
       (try clear hi)
       refine hK.out _ _ ⟨(blk_cell BK605.out 0).trans rfl, (blk_cell BK605.out 1).trans rfl, (blk_cell BK605.out 2).trans rfl, (blk_cell BK605.out 3).trans rfl, (blk_cell BK605.out 4).trans rfl, (blk_cell BK605.out 5).trans rfl, HS6_, HS7_, HS8_, HS9_, HS10_, HS11_⟩ (fun hHeld => ?_)
       clear hK K
       refine tnm (some 28) ?_
       refine tpu 16 (some 29) #[true, true, true, true, true, true, true, true, true, true, true, true, true, true, true, true, true, false, false, false, true, false] ?_
       refine tpu 17 (some 30) #[true, true, true, true, true, true, true, true, true, true, true, true, true, true, true, true, true, true, false, false, true, false] ?_
       refine tpu 18 (some 31) #[true, true, true, true, true, true, true, true, true, true, true, true, true, true, true, true, true, true, true, false, true, false] ?_
       refine one_ (i := 19) (N := some 32) #[true, true, true, true, true, true, true, true, true, true, true, true, true, true, true, true, true, true, true, true, true, false] rfl rfl (one_of HT_.out (by kernel_rfl)) (by decide) (fun K hK => ?_)
       refine goes_ Tryd.func23 (by kernel_rfl) rfl #[.pointer (some ⟨g593, 0, none⟩), .int .i64 (wrap64 ((wrap64 ((wrap64 (((rd_T41 t601 (ji5)).f0) + 1)) + t607)) - (wrap64 ((wrap64 (Int.tdiv t609 11)) * 3))))] (by rfl) rfl rfl (by (try simp only [List.map_toArray, List.map_cons, List.map_nil]); first | done | (simp only [hji5]; rfl) | rfl | (simp only [List.length_drop, List.length_take]; rfl)) ?_
       with_reducible refine (spec_l91Batch.calls k g593 t591 t610 (wrap64 ((wrap64 ((wrap64 (((rd_T41 t601 (ji5)).f0) + 1)) + t607)) - (wrap64 ((wrap64 (Int.tdiv t609 11)) * 3)))) t611 t612 t613 t614 t615 t616 t619 w _ ?side1 ?side2 A10.out).mono ?_
       (case side1 => repeat (first | (with_reducible first | exact HI593.out | apply IsS72.alloc | apply IsS72.drewN | apply IsS72.drew | apply IsS72.set_1 | refine IsS72.far ?_ NB593_589.out _ | refine IsS72.far ?_ NB593_590.out _ | refine IsS72.far ?_ NB593_605.out _ | refine IsS72.far ?_ NB593_620.out _) | exact HI593.out))
       (case side2 => repeat (first | (with_reducible first | exact HB.out | apply below_alloc | apply pw_below_drewN | apply below_drew1 | refine below_set ?_ (IsS72.ge HI593.out) | refine below_set ?_ GE589.out | refine below_set ?_ GE590.out | refine below_set ?_ GE605.out | refine below_set ?_ GE620.out) | exact HB.out))
       rintro e w75 ⟨v617, rfl, ho0, hi, hb, hk⟩
       have HS6_ := keep_cell hk (hHeld.2.2.2.2.2.2.1) (tow (Kd.own_blk (IsS72.own_neN HI593.out HO603.out (by decide))))
       have HS7_ := keep_cell hk (hHeld.2.2.2.2.2.2.2.1) (tow (Kd.own_blk (IsS72.own_neN HI593.out HO603.out (by decide))))
       have HS8_ := keep_cell hk (hHeld.2.2.2.2.2.2.2.2.1) (tow (Kd.own_blk (IsS72.own_neN HI593.out HO603.out (by decide))))
       have HS9_ := keep_cell hk (hHeld.2.2.2.2.2.2.2.2.2.1) (tow (Kd.own_blk (IsS72.own_neN HI593.out HO603.out (by decide))))
       have HS10_ := keep_cell hk (hHeld.2.2.2.2.2.2.2.2.2.2.1) (tow (Kd.own_blk (IsS72.own_neN HI593.out HO603.out (by decide))))
       have HS11_ := keep_cell hk (hHeld.2.2.2.2.2.2.2.2.2.2.2) (tow (Kd.own_blk (IsS72.own_neN HI593.out HO603.out (by decide))))
       refine ⟨_, rfl, ?_⟩
       replace HL606_3 := Aside0.mk (Kd.V_mono (Kd.V_told (Kd.V_oldK (Kd.V_mono (ok := fun k_ => (((((w.heap.size ≤ k_)) ∧ (k_ ≠ gb589 ∧ (k_ ≠ gb590 ∧ (k_ ≠ g593 ∧ k_ ≠ gb605)))) ∧ some k_ ≠ (.slice (some ad606) t601.length co69 : Value).ownBlock) ∧ k_ ≠ gb620)) (tV HL606_3.out) (fun k_ hk_ => (⟨hk_, hk_.1.1.2.2.2.1⟩ : _ ∧ k_ ≠ g593))) hk) (tb ho0)) (fun _ h_ => h_.1))
       replace HL606_5 := Aside0.mk (Kd.V_mono (Kd.V_told (Kd.V_oldK (Kd.V_mono (ok := fun k_ => (((((w.heap.size ≤ k_)) ∧ (k_ ≠ gb589 ∧ (k_ ≠ gb590 ∧ (k_ ≠ g593 ∧ k_ ≠ gb605)))) ∧ some k_ ≠ (.slice (some ad606) t601.length co69 : Value).ownBlock) ∧ k_ ≠ gb620)) (tV HL606_5.out) (fun k_ hk_ => (⟨hk_, hk_.1.1.2.2.2.1⟩ : _ ∧ k_ ≠ g593))) hk) (tb ho0)) (fun _ h_ => h_.1))
       have HO618 := Aside0.mk (Kd.N_lower (Kd.N_mono (ok' := fun k_ => (w.heap.size ≤ k_) ∧ some k_ ≠ (.slice (some ad606) t601.length co69 : Value).ownBlock ∧ k_ ≠ gb589 ∧ k_ ≠ gb590 ∧ k_ ≠ gb605 ∧ k_ ≠ gb620 ∧ k_ ≠ g593) ho0 (fun k_ hk_ => ⟨(Nat.le_trans (below_size (by repeat (first | (with_reducible first | exact HB.out | apply below_alloc | apply pw_below_drewN | apply below_drew1 | refine below_set ?_ (IsS72.ge HI593.out) | refine below_set ?_ GE589.out | refine below_set ?_ GE590.out | refine below_set ?_ GE605.out | refine below_set ?_ GE620.out) | exact HB.out))) hk_), (tfr HO603 k_ hk_), (tfB BK589 k_ hk_), (tfB BK590 k_ hk_), (tfB BK605 k_ hk_), (tfB BK620 k_ hk_), (IsS72.fresh (by repeat (first | (with_reducible first | exact HI593.out | apply IsS72.alloc | apply IsS72.drewN | apply IsS72.drew | apply IsS72.set_1 | refine IsS72.far ?_ NB593_589.out _ | refine IsS72.far ?_ NB593_590.out _ | refine IsS72.far ?_ NB593_605.out _ | refine IsS72.far ?_ NB593_620.out _) | exact HI593.out)) k_ hk_)⟩)) (below_size (by repeat (first | (with_reducible first | exact HB.out | apply below_alloc | apply pw_below_drewN | apply below_drew1 | refine below_set ?_ (IsS72.ge HI593.out) | refine below_set ?_ GE589.out | refine below_set ?_ GE590.out | refine below_set ?_ GE605.out | refine below_set ?_ GE620.out) | exact HB.out))))
       replace BK589 := tBk BK589 hk NB589_593
       replace BK590 := tBk BK590 hk NB590_593
       replace HO603 := Aside0.mk (Kd.N_mono (Kd.N_told (Kd.N_oldK (Kd.N_mono (ok := fun k_ => ((((w.heap.size ≤ k_)) ∧ (k_ ≠ gb589 ∧ (k_ ≠ gb590 ∧ (k_ ≠ g593 ∧ k_ ≠ gb605)))) ∧ k_ ≠ gb620)) (tN HO603.out) (fun k_ hk_ => (⟨hk_, hk_.1.2.2.2.1⟩ : _ ∧ k_ ≠ g593))) hk) (tb ho0)) (fun _ h_ => h_.1))
       replace BK605 := tBk BK605 hk NB605_593
       replace BK620 := tBk BK620 hk NB620_593
       replace HB := Aside0.mk (hb)
       replace HI593 := Aside0.mk (hi)
       (try clear hb)
       (try clear hb2)
       (try clear hk)
       (try clear hi)
       (try clear ho0)
       refine hK.out _ _ ⟨(blk_cell BK605.out 0).trans rfl, (blk_cell BK605.out 1).trans rfl, (blk_cell BK605.out 2).trans rfl, (blk_cell BK605.out 3).trans rfl, (blk_cell BK605.out 4).trans rfl, (blk_cell BK605.out 5).trans rfl, HS6_, HS7_, HS8_, HS9_, HS10_, HS11_⟩ (fun hHeld => ?_)
       clear hK K
       refine tnm (some 32) ?_
       exact tnx (hCont (v617, gb620) _ ⟨hHeld, (tVm HL606_3.out), (tVm HL606_5.out), (tNm HO603.out), (tNm HO618.out), (tH BK589.out), (tH BK590.out), (tH BK605.out), (tH BK620.out), GW620.out, GE620.out, NB593_620.out, NB620_593.out, NB589_620.out, NB620_589.out, NB590_620.out, NB620_590.out, NB605_620.out, NB620_605.out, (by repeat (first | (with_reducible first | exact HI593.out | apply IsS72.alloc | apply IsS72.drewN | apply IsS72.drew | apply IsS72.set_1 | refine IsS72.far ?_ NB593_589.out _ | refine IsS72.far ?_ NB593_590.out _ | refine IsS72.far ?_ NB593_605.out _ | refine IsS72.far ?_ NB593_620.out _) | exact HI593.out)), (by repeat (first | (with_reducible first | exact HB.out | apply below_alloc | apply pw_below_drewN | apply below_drew1 | refine below_set ?_ (IsS72.ge HI593.out) | refine below_set ?_ GE589.out | refine below_set ?_ GE590.out | refine below_set ?_ GE605.out | refine below_set ?_ GE620.out) | exact HB.out))⟩)
     ·skip
      refine box_step ?hg (N := 6) ?hd (cs := #[.bool false, .bool false, .int .i64 0, .int .i64 0, .int .i64 0, .slice none 0 0]) (t := 25) ?hr ?_; (case hd => rfl); (case hg => rfl); (case hr => first | (go_simp; done) | (go_simp; rfl))
      intro gb620 hg w72 hbox hb
      have HS6_ := tcb hb hHeld.2.2.2.2.2.2.1
      have HS7_ := tcb hb hHeld.2.2.2.2.2.2.2.1
      have HS8_ := tcb hb hHeld.2.2.2.2.2.2.2.2.1
      have HS9_ := tcb hb hHeld.2.2.2.2.2.2.2.2.2.1
      have HS10_ := tcb hb hHeld.2.2.2.2.2.2.2.2.2.2.1
      have HS11_ := tcb hb hHeld.2.2.2.2.2.2.2.2.2.2.2
      replace HO603 := tNB HO603 hg hb
      replace HL606_3 := tVB HL606_3 hg hb
      replace HL606_5 := tVB HL606_5 hg hb
      replace HR606_3 := tCb HR606_3 hb
      replace HR606_5 := tCb HR606_5 hb
      have BK620 := Aside0.mk (hbox)
      have GW620 := Aside0.mk ((by rw [hg]; exact (below_size (by repeat (first | (with_reducible first | exact HB.out | apply below_alloc | apply pw_below_drewN | apply below_drew1 | refine below_set ?_ (IsS72.ge HI593.out) | refine below_set ?_ GE589.out | refine below_set ?_ GE590.out | refine below_set ?_ GE605.out) | exact HB.out))) : w.heap.size ≤ gb620))
      have GE620 := Aside0.mk ((by rw [hg]; exact (below_size (by repeat (first | (with_reducible first | exact HB.out | apply below_alloc | apply pw_below_drewN | apply below_drew1 | refine below_set ?_ (IsS72.ge HI593.out) | refine below_set ?_ GE589.out | refine below_set ?_ GE590.out | refine below_set ?_ GE605.out) | exact HB.out))) : w.heap.size ≤ gb620))
      replace HB := Aside0.mk (below_step (by repeat (first | (with_reducible first | exact HB.out | apply below_alloc | apply pw_below_drewN | apply below_drew1 | refine below_set ?_ (IsS72.ge HI593.out) | refine below_set ?_ GE589.out | refine below_set ?_ GE590.out | refine below_set ?_ GE605.out) | exact HB.out)) hb)
      have NB589_620 := tlt BK589 hg
      have NB620_589 := tgt BK589 hg
      replace BK589 := tBb BK589 hb
      have NB590_620 := tlt BK590 hg
      have NB620_590 := tgt BK590 hg
      replace BK590 := tBb BK590 hb
      have NB605_620 := tlt BK605 hg
      have NB620_605 := tgt BK605 hg
      replace BK605 := tBb BK605 hb
      have NB593_620 := Aside0.mk ((by rw [hg]; exact Nat.ne_of_lt (IsS72.lt (show IsS72 w _ g593 t591 t604 from by repeat (first | (with_reducible first | exact HI593.out | apply IsS72.alloc | apply IsS72.drewN | apply IsS72.drew | apply IsS72.set_1 | refine IsS72.far ?_ NB593_589.out _ | refine IsS72.far ?_ NB593_590.out _ | refine IsS72.far ?_ NB593_605.out _) | exact HI593.out))) : g593 ≠ gb620))
      have NB620_593 := Aside0.mk ((by rw [hg]; exact Nat.ne_of_gt (IsS72.lt (show IsS72 w _ g593 t591 t604 from by repeat (first | (with_reducible first | exact HI593.out | apply IsS72.alloc | apply IsS72.drewN | apply IsS72.drew | apply IsS72.set_1 | refine IsS72.far ?_ NB593_589.out _ | refine IsS72.far ?_ NB593_590.out _ | refine IsS72.far ?_ NB593_605.out _) | exact HI593.out))) : gb620 ≠ g593))
      replace HI593 := Aside0.mk (IsS72.below (by repeat (first | (with_reducible first | exact HI593.out | apply IsS72.alloc | apply IsS72.drewN | apply IsS72.drew | apply IsS72.set_1 | refine IsS72.far ?_ NB593_589.out _ | refine IsS72.far ?_ NB593_590.out _ | refine IsS72.far ?_ NB593_605.out _) | exact HI593.out)) hb)
      clear hb hbox hg
      refine hK.out _ _ ⟨(blk_cell BK605.out 0).trans rfl, (blk_cell BK605.out 1).trans rfl, (blk_cell BK605.out 2).trans rfl, (blk_cell BK605.out 3).trans rfl, (blk_cell BK605.out 4).trans rfl, (blk_cell BK605.out 5).trans rfl, HS6_, HS7_, HS8_, HS9_, HS10_, HS11_⟩ (fun hHeld => ?_)
      clear hK K
      refine tnm (some 6) ?_
      refine one_ (i := 12) (N := some 25) #[true, true, true, true, true, true, true, true, true, true, true, true, true, false, true, false, false, false, false, false, true, false] rfl rfl (one_of HT_.out (by kernel_rfl)) (by decide) (fun K hK => ?_)
      refine goes_ Tryd.func24 (by kernel_rfl) rfl #[.pointer (some ⟨g593, 0, none⟩), .int .i64 3] (by rfl) rfl rfl tq ?_
      with_reducible refine (spec_l6Rd_pick.calls k g593 t591 t604 3 t607 t608 w _ ?side1 ?side2 A8.out).mono ?_
      (case side1 => repeat (first | (with_reducible first | exact HI593.out | apply IsS72.alloc | apply IsS72.drewN | apply IsS72.drew | apply IsS72.set_1 | refine IsS72.far ?_ NB593_589.out _ | refine IsS72.far ?_ NB593_590.out _ | refine IsS72.far ?_ NB593_605.out _ | refine IsS72.far ?_ NB593_620.out _) | exact HI593.out))
      (case side2 => repeat (first | (with_reducible first | exact HB.out | apply below_alloc | apply pw_below_drewN | apply below_drew1 | refine below_set ?_ (IsS72.ge HI593.out) | refine below_set ?_ GE589.out | refine below_set ?_ GE590.out | refine below_set ?_ GE605.out | refine below_set ?_ GE620.out) | exact HB.out))
      rintro e w73 ⟨rfl, hi, hb, hk⟩
      have HS6_ := keep_cell hk (hHeld.2.2.2.2.2.2.1) (tow (Kd.own_blk (IsS72.own_neN HI593.out HO603.out (by decide))))
      have HS7_ := keep_cell hk (hHeld.2.2.2.2.2.2.2.1) (tow (Kd.own_blk (IsS72.own_neN HI593.out HO603.out (by decide))))
      have HS8_ := keep_cell hk (hHeld.2.2.2.2.2.2.2.2.1) (tow (Kd.own_blk (IsS72.own_neN HI593.out HO603.out (by decide))))
      have HS9_ := keep_cell hk (hHeld.2.2.2.2.2.2.2.2.2.1) (tow (Kd.own_blk (IsS72.own_neN HI593.out HO603.out (by decide))))
      have HS10_ := keep_cell hk (hHeld.2.2.2.2.2.2.2.2.2.2.1) (tow (Kd.own_blk (IsS72.own_neN HI593.out HO603.out (by decide))))
      have HS11_ := keep_cell hk (hHeld.2.2.2.2.2.2.2.2.2.2.2) (tow (Kd.own_blk (IsS72.own_neN HI593.out HO603.out (by decide))))
      refine ⟨_, rfl, ?_⟩
      replace BK589 := tBk BK589 hk NB589_593
      replace BK590 := tBk BK590 hk NB590_593
      replace HO603 := tNk HO603 hk
      replace BK605 := tBk BK605 hk NB605_593
      replace HL606_3 := tVk HL606_3 hk
      replace HL606_5 := tVk HL606_5 hk
      replace BK620 := tBk BK620 hk NB620_593
      replace HB := Aside0.mk (hb)
      replace HI593 := Aside0.mk (hi)
      (try clear hb)
      (try clear hb2)
      (try clear hk)
      (try clear hi)
      refine hK.out _ _ ⟨(blk_cell BK605.out 0).trans rfl, (blk_cell BK605.out 1).trans rfl, (blk_cell BK605.out 2).trans rfl, (blk_cell BK605.out 3).trans rfl, (blk_cell BK605.out 4).trans rfl, (blk_cell BK605.out 5).trans rfl, HS6_, HS7_, HS8_, HS9_, HS10_, HS11_⟩ (fun hHeld => ?_)
      clear hK K
      refine tnm (some 25) ?_
      refine tpu 13 (some 26) #[true, true, true, true, true, true, true, true, true, true, true, true, true, true, true, false, false, false, false, false, true, false] ?_
      refine one_ (i := 15) (N := some 28) #[true, true, true, true, true, true, true, true, true, true, true, true, true, true, true, true, false, false, false, false, true, false] rfl rfl (one_of HT_.out (by kernel_rfl)) (by decide) (fun K hK => ?_)
      refine goes_ Tryd.func24 (by kernel_rfl) rfl #[.pointer (some ⟨g593, 0, none⟩), .int .i64 12] (by rfl) rfl rfl tq ?_
      with_reducible refine (spec_l6Rd_pick.calls k g593 t591 t608 12 t609 t610 w _ ?side1 ?side2 A9.out).mono ?_
      (case side1 => repeat (first | (with_reducible first | exact HI593.out | apply IsS72.alloc | apply IsS72.drewN | apply IsS72.drew | apply IsS72.set_1 | refine IsS72.far ?_ NB593_589.out _ | refine IsS72.far ?_ NB593_590.out _ | refine IsS72.far ?_ NB593_605.out _ | refine IsS72.far ?_ NB593_620.out _) | exact HI593.out))
      (case side2 => repeat (first | (with_reducible first | exact HB.out | apply below_alloc | apply pw_below_drewN | apply below_drew1 | refine below_set ?_ (IsS72.ge HI593.out) | refine below_set ?_ GE589.out | refine below_set ?_ GE590.out | refine below_set ?_ GE605.out | refine below_set ?_ GE620.out) | exact HB.out))
      rintro e w74 ⟨rfl, hi, hb, hk⟩
      have HS6_ := keep_cell hk (hHeld.2.2.2.2.2.2.1) (tow (Kd.own_blk (IsS72.own_neN HI593.out HO603.out (by decide))))
      have HS7_ := keep_cell hk (hHeld.2.2.2.2.2.2.2.1) (tow (Kd.own_blk (IsS72.own_neN HI593.out HO603.out (by decide))))
      have HS8_ := keep_cell hk (hHeld.2.2.2.2.2.2.2.2.1) (tow (Kd.own_blk (IsS72.own_neN HI593.out HO603.out (by decide))))
      have HS9_ := keep_cell hk (hHeld.2.2.2.2.2.2.2.2.2.1) (tow (Kd.own_blk (IsS72.own_neN HI593.out HO603.out (by decide))))
      have HS10_ := keep_cell hk (hHeld.2.2.2.2.2.2.2.2.2.2.1) (tow (Kd.own_blk (IsS72.own_neN HI593.out HO603.out (by decide))))
      have HS11_ := keep_cell hk (hHeld.2.2.2.2.2.2.2.2.2.2.2) (tow (Kd.own_blk (IsS72.own_neN HI593.out HO603.out (by decide))))
      refine ⟨_, rfl, ?_⟩
      replace BK589 := tBk BK589 hk NB589_593
      replace BK590 := tBk BK590 hk NB590_593
      replace HO603 := tNk HO603 hk
      replace BK605 := tBk BK605 hk NB605_593
      replace HL606_3 := tVk HL606_3 hk
      replace HL606_5 := tVk HL606_5 hk
      replace BK620 := tBk BK620 hk NB620_593
      replace HB := Aside0.mk (hb)
      replace HI593 := Aside0.mk (hi)
      (try clear hb)
      (try clear hb2)
      (try clear hk)
      (try clear hi)
      refine hK.out _ _ ⟨(blk_cell BK605.out 0).trans rfl, (blk_cell BK605.out 1).trans rfl, (blk_cell BK605.out 2).trans rfl, (blk_cell BK605.out 3).trans rfl, (blk_cell BK605.out 4).trans rfl, (blk_cell BK605.out 5).trans rfl, HS6_, HS7_, HS8_, HS9_, HS10_, HS11_⟩ (fun hHeld => ?_)
      clear hK K
      refine tnm (some 28) ?_
      refine tpu 16 (some 29) #[true, true, true, true, true, true, true, true, true, true, true, true, true, true, true, true, true, false, false, false, true, false] ?_
      refine tpu 17 (some 30) #[true, true, true, true, true, true, true, true, true, true, true, true, true, true, true, true, true, true, false, false, true, false] ?_
      refine tpu 18 (some 31) #[true, true, true, true, true, true, true, true, true, true, true, true, true, true, true, true, true, true, true, false, true, false] ?_
      refine one_ (i := 19) (N := some 32) #[true, true, true, true, true, true, true, true, true, true, true, true, true, true, true, true, true, true, true, true, true, false] rfl rfl (one_of HT_.out (by kernel_rfl)) (by decide) (fun K hK => ?_)
      refine goes_ Tryd.func23 (by kernel_rfl) rfl #[.pointer (some ⟨g593, 0, none⟩), .int .i64 (wrap64 ((wrap64 ((wrap64 (((rd_T41 t601 (ji5)).f0) + 1)) + t607)) - (wrap64 ((wrap64 (Int.tdiv t609 11)) * 3))))] (by rfl) rfl rfl (by (try simp only [List.map_toArray, List.map_cons, List.map_nil]); first | done | (simp only [hji5]; rfl) | rfl | (simp only [List.length_drop, List.length_take]; rfl)) ?_
      with_reducible refine (spec_l91Batch.calls k g593 t591 t610 (wrap64 ((wrap64 ((wrap64 (((rd_T41 t601 (ji5)).f0) + 1)) + t607)) - (wrap64 ((wrap64 (Int.tdiv t609 11)) * 3)))) t611 t612 t613 t614 t615 t616 t619 w _ ?side1 ?side2 A10.out).mono ?_
      (case side1 => repeat (first | (with_reducible first | exact HI593.out | apply IsS72.alloc | apply IsS72.drewN | apply IsS72.drew | apply IsS72.set_1 | refine IsS72.far ?_ NB593_589.out _ | refine IsS72.far ?_ NB593_590.out _ | refine IsS72.far ?_ NB593_605.out _ | refine IsS72.far ?_ NB593_620.out _) | exact HI593.out))
      (case side2 => repeat (first | (with_reducible first | exact HB.out | apply below_alloc | apply pw_below_drewN | apply below_drew1 | refine below_set ?_ (IsS72.ge HI593.out) | refine below_set ?_ GE589.out | refine below_set ?_ GE590.out | refine below_set ?_ GE605.out | refine below_set ?_ GE620.out) | exact HB.out))
      rintro e w75 ⟨v617, rfl, ho0, hi, hb, hk⟩
      have HS6_ := keep_cell hk (hHeld.2.2.2.2.2.2.1) (tow (Kd.own_blk (IsS72.own_neN HI593.out HO603.out (by decide))))
      have HS7_ := keep_cell hk (hHeld.2.2.2.2.2.2.2.1) (tow (Kd.own_blk (IsS72.own_neN HI593.out HO603.out (by decide))))
      have HS8_ := keep_cell hk (hHeld.2.2.2.2.2.2.2.2.1) (tow (Kd.own_blk (IsS72.own_neN HI593.out HO603.out (by decide))))
      have HS9_ := keep_cell hk (hHeld.2.2.2.2.2.2.2.2.2.1) (tow (Kd.own_blk (IsS72.own_neN HI593.out HO603.out (by decide))))
      have HS10_ := keep_cell hk (hHeld.2.2.2.2.2.2.2.2.2.2.1) (tow (Kd.own_blk (IsS72.own_neN HI593.out HO603.out (by decide))))
      have HS11_ := keep_cell hk (hHeld.2.2.2.2.2.2.2.2.2.2.2) (tow (Kd.own_blk (IsS72.own_neN HI593.out HO603.out (by decide))))
      refine ⟨_, rfl, ?_⟩
      replace HL606_3 := Aside0.mk (Kd.V_mono (Kd.V_told (Kd.V_oldK (Kd.V_mono (ok := fun k_ => (((((w.heap.size ≤ k_)) ∧ (k_ ≠ gb589 ∧ (k_ ≠ gb590 ∧ (k_ ≠ g593 ∧ k_ ≠ gb605)))) ∧ some k_ ≠ (.slice (some ad606) t601.length co69 : Value).ownBlock) ∧ k_ ≠ gb620)) (tV HL606_3.out) (fun k_ hk_ => (⟨hk_, hk_.1.1.2.2.2.1⟩ : _ ∧ k_ ≠ g593))) hk) (tb ho0)) (fun _ h_ => h_.1))
      replace HL606_5 := Aside0.mk (Kd.V_mono (Kd.V_told (Kd.V_oldK (Kd.V_mono (ok := fun k_ => (((((w.heap.size ≤ k_)) ∧ (k_ ≠ gb589 ∧ (k_ ≠ gb590 ∧ (k_ ≠ g593 ∧ k_ ≠ gb605)))) ∧ some k_ ≠ (.slice (some ad606) t601.length co69 : Value).ownBlock) ∧ k_ ≠ gb620)) (tV HL606_5.out) (fun k_ hk_ => (⟨hk_, hk_.1.1.2.2.2.1⟩ : _ ∧ k_ ≠ g593))) hk) (tb ho0)) (fun _ h_ => h_.1))
      have HO618 := Aside0.mk (Kd.N_lower (Kd.N_mono (ok' := fun k_ => (w.heap.size ≤ k_) ∧ some k_ ≠ (.slice (some ad606) t601.length co69 : Value).ownBlock ∧ k_ ≠ gb589 ∧ k_ ≠ gb590 ∧ k_ ≠ gb605 ∧ k_ ≠ gb620 ∧ k_ ≠ g593) ho0 (fun k_ hk_ => ⟨(Nat.le_trans (below_size (by repeat (first | (with_reducible first | exact HB.out | apply below_alloc | apply pw_below_drewN | apply below_drew1 | refine below_set ?_ (IsS72.ge HI593.out) | refine below_set ?_ GE589.out | refine below_set ?_ GE590.out | refine below_set ?_ GE605.out | refine below_set ?_ GE620.out) | exact HB.out))) hk_), (tfr HO603 k_ hk_), (tfB BK589 k_ hk_), (tfB BK590 k_ hk_), (tfB BK605 k_ hk_), (tfB BK620 k_ hk_), (IsS72.fresh (by repeat (first | (with_reducible first | exact HI593.out | apply IsS72.alloc | apply IsS72.drewN | apply IsS72.drew | apply IsS72.set_1 | refine IsS72.far ?_ NB593_589.out _ | refine IsS72.far ?_ NB593_590.out _ | refine IsS72.far ?_ NB593_605.out _ | refine IsS72.far ?_ NB593_620.out _) | exact HI593.out)) k_ hk_)⟩)) (below_size (by repeat (first | (with_reducible first | exact HB.out | apply below_alloc | apply pw_below_drewN | apply below_drew1 | refine below_set ?_ (IsS72.ge HI593.out) | refine below_set ?_ GE589.out | refine below_set ?_ GE590.out | refine below_set ?_ GE605.out | refine below_set ?_ GE620.out) | exact HB.out))))
      replace BK589 := tBk BK589 hk NB589_593
      replace BK590 := tBk BK590 hk NB590_593
      replace HO603 := Aside0.mk (Kd.N_mono (Kd.N_told (Kd.N_oldK (Kd.N_mono (ok := fun k_ => ((((w.heap.size ≤ k_)) ∧ (k_ ≠ gb589 ∧ (k_ ≠ gb590 ∧ (k_ ≠ g593 ∧ k_ ≠ gb605)))) ∧ k_ ≠ gb620)) (tN HO603.out) (fun k_ hk_ => (⟨hk_, hk_.1.2.2.2.1⟩ : _ ∧ k_ ≠ g593))) hk) (tb ho0)) (fun _ h_ => h_.1))
      replace BK605 := tBk BK605 hk NB605_593
      replace BK620 := tBk BK620 hk NB620_593
      replace HB := Aside0.mk (hb)
      replace HI593 := Aside0.mk (hi)
      (try clear hb)
      (try clear hb2)
      (try clear hk)
      (try clear hi)
      (try clear ho0)
      refine hK.out _ _ ⟨(blk_cell BK605.out 0).trans rfl, (blk_cell BK605.out 1).trans rfl, (blk_cell BK605.out 2).trans rfl, (blk_cell BK605.out 3).trans rfl, (blk_cell BK605.out 4).trans rfl, (blk_cell BK605.out 5).trans rfl, HS6_, HS7_, HS8_, HS9_, HS10_, HS11_⟩ (fun hHeld => ?_)
      clear hK K
      refine tnm (some 32) ?_
      exact tnx (hCont (v617, gb620) _ ⟨hHeld, (tVm HL606_3.out), (tVm HL606_5.out), (tNm HO603.out), (tNm HO618.out), (tH BK589.out), (tH BK590.out), (tH BK605.out), (tH BK620.out), GW620.out, GE620.out, NB593_620.out, NB620_593.out, NB589_620.out, NB620_589.out, NB590_620.out, NB620_590.out, NB605_620.out, NB620_605.out, (by repeat (first | (with_reducible first | exact HI593.out | apply IsS72.alloc | apply IsS72.drewN | apply IsS72.drew | apply IsS72.set_1 | refine IsS72.far ?_ NB593_589.out _ | refine IsS72.far ?_ NB593_590.out _ | refine IsS72.far ?_ NB593_605.out _ | refine IsS72.far ?_ NB593_620.out _) | exact HI593.out)), (by repeat (first | (with_reducible first | exact HB.out | apply below_alloc | apply pw_below_drewN | apply below_drew1 | refine below_set ?_ (IsS72.ge HI593.out) | refine below_set ?_ GE589.out | refine below_set ?_ GE590.out | refine below_set ?_ GE605.out | refine below_set ?_ GE620.out) | exact HB.out))⟩)
    rintro ⟨v617, gb620⟩ w76 ⟨hS_, h0_, h1_, h2_, h3_, h4_, h5_, h6_, h7_, h8_, h9_, h10_, h11_, h12_, h13_, h14_, h15_, h16_, h17_, h18_, h19_⟩
    try dsimp only at hS_ h0_ h1_ h2_ h3_ h4_ h5_ h6_ h7_ h8_ h9_ h10_ h11_ h12_ h13_ h14_ h15_ h16_ h17_ h18_ h19_
    clear HO603 BK589 BK590 BK605 HI593 HB
    have HL606_3 := Aside0.mk h0_
    have HL606_5 := Aside0.mk h1_
    have HO603 := Aside0.mk h2_
    have HO618 := Aside0.mk h3_
    have BK589 := Aside0.mk h4_
    have BK590 := Aside0.mk h5_
    have BK605 := Aside0.mk h6_
    have BK620 := Aside0.mk h7_
    have GW620 := Aside0.mk h8_
    have GE620 := Aside0.mk h9_
    have NB593_620 := Aside0.mk h10_
    have NB620_593 := Aside0.mk h11_
    have NB589_620 := Aside0.mk h12_
    have NB620_589 := Aside0.mk h13_
    have NB590_620 := Aside0.mk h14_
    have NB620_590 := Aside0.mk h15_
    have NB605_620 := Aside0.mk h16_
    have NB620_605 := Aside0.mk h17_
    have HI593 := Aside0.mk h18_
    have HB := Aside0.mk h19_
    clear h0_ h1_ h2_ h3_ h4_ h5_ h6_ h7_ h8_ h9_ h10_ h11_ h12_ h13_ h14_ h15_ h16_ h17_ h18_ h19_
    have hHeld := hS_
    obtain ⟨Ao82, co82, eo82⟩ := Kd.N_slice HO618.out
    (first | subst eo82 | (injection eo82 with f1_ f2_ f3_; have f4_ := f1_.symm; have f5_ := f3_.symm; clear f1_ f2_ f3_; subst f4_; subst f5_))
    refine tnp ?_
    refine one_ (i := 21) (N := none) #[true, true, true, true, true, true, true, true, true, true, true, true, true, true, true, true, true, true, true, true, true, true] rfl rfl (one_of HT_.out (by kernel_rfl)) (by decide) (fun K hK => ?_)
    have hs77 : w76.cell? ⟨gb620, 0, none⟩ = some (.bool false) := (blk_cell BK620.out 0).trans rfl
    have hfs77 := blk_frozen BK620.out 0
    have hns77_0 := NB589_620.out
    have hns77_1 := NB590_620.out
    have hns77_2 := NB605_620.out
    have hms77_0 := NB620_589.out
    have hms77_1 := NB620_590.out
    have hms77_2 := NB620_605.out
    have hs78 : w76.cell? ⟨gb620, 1, none⟩ = some (.bool false) := (blk_cell BK620.out 1).trans rfl
    have hfs78 := blk_frozen BK620.out 1
    have hs79 : w76.cell? ⟨gb620, 2, none⟩ = some (.int .i64 0) := (blk_cell BK620.out 2).trans rfl
    have hfs79 := blk_frozen BK620.out 2
    have hs80 : w76.cell? ⟨gb620, 3, none⟩ = some (.int .i64 0) := (blk_cell BK620.out 3).trans rfl
    have hfs80 := blk_frozen BK620.out 3
    have hs81 : w76.cell? ⟨gb620, 4, none⟩ = some (.int .i64 0) := (blk_cell BK620.out 4).trans rfl
    have hfs81 := blk_frozen BK620.out 4
    have hs83 : w76.cell? ⟨gb620, 5, none⟩ = some (.slice none 0 0) := (blk_cell BK620.out 5).trans rfl
    have hfs83 := blk_frozen BK620.out 5
    refine tsk ?_
    refine hK.out _ _ ⟨(tcg NB605_620.out hHeld.1), (tcg NB605_620.out hHeld.2.1), (tcg NB605_620.out hHeld.2.2.1), (tcg NB605_620.out hHeld.2.2.2.1), (tcg NB605_620.out hHeld.2.2.2.2.1), (tcg NB605_620.out hHeld.2.2.2.2.2.1), (tcg (Kd.own_blk (Kd.N_away HO603.out (fun _ hk => hk.2.2.2.2.2.2))) hHeld.2.2.2.2.2.2.1), (tcg (Kd.own_blk (Kd.N_away HO603.out (fun _ hk => hk.2.2.2.2.2.2))) hHeld.2.2.2.2.2.2.2.1), (tcg (Kd.own_blk (Kd.N_away HO603.out (fun _ hk => hk.2.2.2.2.2.2))) hHeld.2.2.2.2.2.2.2.2.1), (tcg (Kd.own_blk (Kd.N_away HO603.out (fun _ hk => hk.2.2.2.2.2.2))) hHeld.2.2.2.2.2.2.2.2.2.1), (tcg (Kd.own_blk (Kd.N_away HO603.out (fun _ hk => hk.2.2.2.2.2.2))) hHeld.2.2.2.2.2.2.2.2.2.2.1), (tcg (Kd.own_blk (Kd.N_away HO603.out (fun _ hk => hk.2.2.2.2.2.2))) hHeld.2.2.2.2.2.2.2.2.2.2.2)⟩ (fun hHeld => ?_)
    clear hK K
    refine done_ (done_of HT_.out (by kernel_rfl)) ?_
    try go_wp2_with (first | ((with_reducible refine gate_callee (f := 24) rfl ?_); refine goesL_ (some 34) rfl rfl Tryd.func24 (by kernel_rfl) rfl #[.pointer (some ⟨g593, 0, none⟩), .int .i64 3] rfl tq ?_; (with_reducible refine (spec_l6Rd_pick.calls k g593 t591 t619 3 t621 t622 w _ ?side1 ?side2 A11.out).mono ?_); (case side1 => repeat (first | (with_reducible first | exact HI593.out | apply IsS72.alloc | apply IsS72.drewN | apply IsS72.drew | apply IsS72.set_1 | refine IsS72.far ?_ NB593_589.out _ | refine IsS72.far ?_ NB593_590.out _ | refine IsS72.far ?_ NB593_605.out _ | refine IsS72.far ?_ NB593_620.out _) | exact HI593.out)); (case side2 => repeat (first | (with_reducible first | exact HB.out | apply below_alloc | apply pw_below_drewN | apply below_drew1 | refine below_set ?_ (IsS72.ge HI593.out) | refine below_set ?_ GE589.out | refine below_set ?_ GE590.out | refine below_set ?_ GE605.out | refine below_set ?_ GE620.out) | exact HB.out)); rintro e w84 ⟨rfl, hi, hb, hk⟩; refine ⟨_, rfl, ?_⟩; replace BK589 := tBk BK589 hk NB589_593; replace BK590 := tBk BK590 hk NB590_593; replace HO603 := tNk HO603 hk; replace BK605 := tBk BK605 hk NB605_593; replace HL606_3 := tVk HL606_3 hk; replace HL606_5 := tVk HL606_5 hk; replace HO618 := tNk HO618 hk; replace BK620 := tBq (o' := .cells #[.bool t611, .bool t612, .int .i64 t613, .int .i64 t614, .int .i64 t615, .slice Ao82 t616.length co82] 25 (0, 0)) BK620 hk NB620_593; replace HB := Aside0.mk (hb); replace HI593 := Aside0.mk (hi); (try clear hb); (try clear hb2); (try clear hk); (try clear hi)))
    replace HO603 := Aside0.mk (Kd.N_drew HO603.out)
    replace HL606_3 := Aside0.mk (Kd.V_drew HL606_3.out)
    replace HL606_5 := Aside0.mk (Kd.V_drew HL606_5.out)
    replace HO618 := Aside0.mk (Kd.N_drew HO618.out)
    replace BK589 := Aside0.mk (blk_drew BK589.out)
    replace BK590 := Aside0.mk (blk_drew BK590.out)
    replace BK605 := Aside0.mk (blk_drew BK605.out)
    replace BK620 := Aside0.mk (blk_drew BK620.out)
    replace HI593 := Aside0.mk (IsS72.drew HI593.out)
    replace HB := Aside0.mk (below_drew1 HB.out)
    refine start_ (n := 4) (S := fun w' => w'.cell? ⟨gb605, 0, none⟩ = some (.bool t596) ∧ w'.cell? ⟨gb605, 1, none⟩ = some (.bool t597) ∧ w'.cell? ⟨gb605, 2, none⟩ = some (.int .i64 t598) ∧ w'.cell? ⟨gb605, 3, none⟩ = some (.int .i64 t599) ∧ w'.cell? ⟨gb605, 4, none⟩ = some (.int .i64 t600) ∧ w'.cell? ⟨gb605, 5, none⟩ = some (.slice (some ad606) t601.length co69) ∧ w'.cell? ⟨gb620, 0, none⟩ = some (.bool t611) ∧ w'.cell? ⟨gb620, 1, none⟩ = some (.bool t612) ∧ w'.cell? ⟨gb620, 2, none⟩ = some (.int .i64 t613) ∧ w'.cell? ⟨gb620, 3, none⟩ = some (.int .i64 t614) ∧ w'.cell? ⟨gb620, 4, none⟩ = some (.int .i64 t615) ∧ w'.cell? ⟨gb620, 5, none⟩ = some (.slice Ao82 t616.length co82)) (ds := []) #[false, false, false, false] (by kernel_rfl) rfl rfl ⟨(blk_cell BK605.out 0).trans rfl, (blk_cell BK605.out 1).trans rfl, (blk_cell BK605.out 2).trans rfl, (blk_cell BK605.out 3).trans rfl, (blk_cell BK605.out 4).trans rfl, (blk_cell BK605.out 5).trans rfl, (blk_cell BK620.out 0).trans rfl, (blk_cell BK620.out 1).trans rfl, (blk_cell BK620.out 2).trans rfl, (blk_cell BK620.out 3).trans rfl, (blk_cell BK620.out 4).trans rfl, (blk_cell BK620.out 5).trans rfl⟩ (fun hHeld => ?_)
    generalize w84.drew = w85 at HO603 HL606_3 HL606_5 HO618 BK589 BK590 BK605 BK620 HI593 HB hHeld ⊢
    refine take_ (i := 0) (N := some 47) (v := ?_) (a' := ?_) #[true, false, false, false] rfl rfl (by kernel_rfl) (fun _ _ _ h => h) (Or.inl ⟨by rfl, ?_⟩) hHeld ?_ ?_
    rotate_left
    ·rintro w' ⟨s0, s1, s2, s3, s4, s5, s6, s7, s8, s9, s10, s11⟩
     go_simp
     with_reducible rfl
    rotate_left
    ·simp only [Act.put, List.setIfInBounds_toArray, List.set_cons_zero, List.set_cons_succ, i64_w, i32_w]
     rfl
    refine take_ (i := 1) (N := some 48) (v := ?_) (a' := ?_) #[true, true, false, false] rfl rfl (by kernel_rfl) (fun _ _ _ h => h) (Or.inl ⟨by rfl, ?_⟩) hHeld ?_ ?_
    rotate_left
    ·rintro w' ⟨s0, s1, s2, s3, s4, s5, s6, s7, s8, s9, s10, s11⟩
     go_simp
     with_reducible rfl
    rotate_left
    ·simp only [Act.put, List.setIfInBounds_toArray, List.set_cons_zero, List.set_cons_succ, i64_w, i32_w]
     rfl
    refine one_ (i := 2) (N := none) #[true, true, true, false] rfl rfl (by kernel_rfl) (by decide) (fun K hK => ?_)
    have hs86 : w85.cell? ⟨gb589, 0, none⟩ = some (.bool false) := (blk_cell BK589.out 0).trans rfl
    have hfs86 := blk_frozen BK589.out 0
    have hns86_1 := NB590_589.out
    have hns86_2 := NB605_589.out
    have hns86_3 := NB620_589.out
    have hms86_1 := NB589_590.out
    have hms86_2 := NB589_605.out
    have hms86_3 := NB589_620.out
    have hs87 : w85.cell? ⟨gb589, 1, none⟩ = some (.bool false) := (blk_cell BK589.out 1).trans rfl
    have hfs87 := blk_frozen BK589.out 1
    have hs88 : w85.cell? ⟨gb589, 2, none⟩ = some (.int .i64 0) := (blk_cell BK589.out 2).trans rfl
    have hfs88 := blk_frozen BK589.out 2
    have hs89 : w85.cell? ⟨gb589, 3, none⟩ = some (.int .i64 0) := (blk_cell BK589.out 3).trans rfl
    have hfs89 := blk_frozen BK589.out 3
    have hs90 : w85.cell? ⟨gb589, 4, none⟩ = some (.int .i64 0) := (blk_cell BK589.out 4).trans rfl
    have hfs90 := blk_frozen BK589.out 4
    have hs91 : w85.cell? ⟨gb589, 5, none⟩ = some (.slice none 0 0) := (blk_cell BK589.out 5).trans rfl
    have hfs91 := blk_frozen BK589.out 5
    refine tsk ?_
    refine hK.out _ _ ⟨(tcg NB605_589.out hHeld.1), (tcg NB605_589.out hHeld.2.1), (tcg NB605_589.out hHeld.2.2.1), (tcg NB605_589.out hHeld.2.2.2.1), (tcg NB605_589.out hHeld.2.2.2.2.1), (tcg NB605_589.out hHeld.2.2.2.2.2.1), (tcg NB620_589.out hHeld.2.2.2.2.2.2.1), (tcg NB620_589.out hHeld.2.2.2.2.2.2.2.1), (tcg NB620_589.out hHeld.2.2.2.2.2.2.2.2.1), (tcg NB620_589.out hHeld.2.2.2.2.2.2.2.2.2.1), (tcg NB620_589.out hHeld.2.2.2.2.2.2.2.2.2.2.1), (tcg NB620_589.out hHeld.2.2.2.2.2.2.2.2.2.2.2)⟩ (fun hHeld => ?_)
    clear hK K
    refine one_ (i := 3) (N := none) #[true, true, true, true] rfl rfl (by kernel_rfl) (by decide) (fun K hK => ?_)
    have hs92 : w85.cell? ⟨gb590, 0, none⟩ = some (.bool false) := (blk_cell BK590.out 0).trans rfl
    have hfs92 := blk_frozen BK590.out 0
    have hns92_0 := NB589_590.out
    have hns92_2 := NB605_590.out
    have hns92_3 := NB620_590.out
    have hms92_0 := NB590_589.out
    have hms92_2 := NB590_605.out
    have hms92_3 := NB590_620.out
    have hs93 : w85.cell? ⟨gb590, 1, none⟩ = some (.bool false) := (blk_cell BK590.out 1).trans rfl
    have hfs93 := blk_frozen BK590.out 1
    have hs94 : w85.cell? ⟨gb590, 2, none⟩ = some (.int .i64 0) := (blk_cell BK590.out 2).trans rfl
    have hfs94 := blk_frozen BK590.out 2
    have hs95 : w85.cell? ⟨gb590, 3, none⟩ = some (.int .i64 0) := (blk_cell BK590.out 3).trans rfl
    have hfs95 := blk_frozen BK590.out 3
    have hs96 : w85.cell? ⟨gb590, 4, none⟩ = some (.int .i64 0) := (blk_cell BK590.out 4).trans rfl
    have hfs96 := blk_frozen BK590.out 4
    have hs97 : w85.cell? ⟨gb590, 5, none⟩ = some (.slice none 0 0) := (blk_cell BK590.out 5).trans rfl
    have hfs97 := blk_frozen BK590.out 5
    refine tsk ?_
    refine hK.out _ _ ⟨(tcg NB605_590.out hHeld.1), (tcg NB605_590.out hHeld.2.1), (tcg NB605_590.out hHeld.2.2.1), (tcg NB605_590.out hHeld.2.2.2.1), (tcg NB605_590.out hHeld.2.2.2.2.1), (tcg NB605_590.out hHeld.2.2.2.2.2.1), (tcg NB620_590.out hHeld.2.2.2.2.2.2.1), (tcg NB620_590.out hHeld.2.2.2.2.2.2.2.1), (tcg NB620_590.out hHeld.2.2.2.2.2.2.2.2.1), (tcg NB620_590.out hHeld.2.2.2.2.2.2.2.2.2.1), (tcg NB620_590.out hHeld.2.2.2.2.2.2.2.2.2.2.1), (tcg NB620_590.out hHeld.2.2.2.2.2.2.2.2.2.2.2)⟩ (fun hHeld => ?_)
    clear hK K
    refine done_ (by kernel_rfl) ?_
    try go_wp2
    refine bodyPost_ret (results_cc rfl _ _ gb589 gb590 25 25 #[.bool t596, .bool t597, .int .i64 t598, .int .i64 t599, .int .i64 t600, .slice (some ad606) t601.length co69] #[.bool t611, .bool t612, .int .i64 t613, .int .i64 t614, .int .i64 t615, .slice Ao82 t616.length co82] (0, 0) (0, 0) _ _ rfl (tP BK589.out) Tryd.underlying25 rfl (by kernel_rfl) rfl (tP BK590.out) Tryd.underlying25 rfl (by kernel_rfl)) rfl ?_
    exact ⟨_, _, by first | rfl | (simp [errW_none, errW_some] <;> rfl) | (simp only [← hji5]; first | rfl | (simp [errW_none, errW_some] <;> rfl)) | (simp [*, errW_none, errW_some] <;> rfl), by (with_reducible repeat (first | apply Kd.N_alloc | apply Kd.N_drewN | apply Kd.N_drew)); exact Kd.N_mono (Kd.N_far (p := ⟨gb590, 5, none⟩) (Kd.N_far (p := ⟨gb590, 4, none⟩) (Kd.N_far (p := ⟨gb590, 3, none⟩) (Kd.N_far (p := ⟨gb590, 2, none⟩) (Kd.N_far (p := ⟨gb590, 1, none⟩) (Kd.N_far (p := ⟨gb590, 0, none⟩) (Kd.N_far (p := ⟨gb589, 5, none⟩) (Kd.N_far (p := ⟨gb589, 4, none⟩) (Kd.N_far (p := ⟨gb589, 3, none⟩) (Kd.N_far (p := ⟨gb589, 2, none⟩) (Kd.N_far (p := ⟨gb589, 1, none⟩) (Kd.N_far (p := ⟨gb589, 0, none⟩) (Kd.N_mono (Kd.N_mono HO603.out (fun k_ hk => (⟨hk, hk.2.2.1⟩ : _ ∧ k_ ≠ gb589))) (fun k_ hk => (⟨hk, hk.1.2.2.2.1⟩ : _ ∧ k_ ≠ gb590))) (fun _ hk => hk.1.2) (.bool t596)) (fun _ hk => hk.1.2) (.bool t597)) (fun _ hk => hk.1.2) (.int .i64 t598)) (fun _ hk => hk.1.2) (.int .i64 t599)) (fun _ hk => hk.1.2) (.int .i64 t600)) (fun _ hk => hk.1.2) (.slice (some ad606) t601.length co69)) (fun _ hk => hk.2) (.bool t611)) (fun _ hk => hk.2) (.bool t612)) (fun _ hk => hk.2) (.int .i64 t613)) (fun _ hk => hk.2) (.int .i64 t614)) (fun _ hk => hk.2) (.int .i64 t615)) (fun _ hk => hk.2) (.slice Ao82 t616.length co82)) (fun _ hk => ⟨hk.1.1.1, hk.1.1.2.1⟩), by (with_reducible repeat (first | apply Kd.N_alloc | apply Kd.N_drewN | apply Kd.N_drew)); exact Kd.N_mono (Kd.N_far (p := ⟨gb590, 5, none⟩) (Kd.N_far (p := ⟨gb590, 4, none⟩) (Kd.N_far (p := ⟨gb590, 3, none⟩) (Kd.N_far (p := ⟨gb590, 2, none⟩) (Kd.N_far (p := ⟨gb590, 1, none⟩) (Kd.N_far (p := ⟨gb590, 0, none⟩) (Kd.N_far (p := ⟨gb589, 5, none⟩) (Kd.N_far (p := ⟨gb589, 4, none⟩) (Kd.N_far (p := ⟨gb589, 3, none⟩) (Kd.N_far (p := ⟨gb589, 2, none⟩) (Kd.N_far (p := ⟨gb589, 1, none⟩) (Kd.N_far (p := ⟨gb589, 0, none⟩) (Kd.N_mono (Kd.N_mono HO618.out (fun k_ hk => (⟨hk, hk.2.2.1⟩ : _ ∧ k_ ≠ gb589))) (fun k_ hk => (⟨hk, hk.1.2.2.2.1⟩ : _ ∧ k_ ≠ gb590))) (fun _ hk => hk.1.2) (.bool t596)) (fun _ hk => hk.1.2) (.bool t597)) (fun _ hk => hk.1.2) (.int .i64 t598)) (fun _ hk => hk.1.2) (.int .i64 t599)) (fun _ hk => hk.1.2) (.int .i64 t600)) (fun _ hk => hk.1.2) (.slice (some ad606) t601.length co69)) (fun _ hk => hk.2) (.bool t611)) (fun _ hk => hk.2) (.bool t612)) (fun _ hk => hk.2) (.int .i64 t613)) (fun _ hk => hk.2) (.int .i64 t614)) (fun _ hk => hk.2) (.int .i64 t615)) (fun _ hk => hk.2) (.slice Ao82 t616.length co82)) (fun _ hk => ⟨hk.1.1.1, hk.1.1.2.1⟩), by repeat (first | (with_reducible first | exact HB.out | apply below_alloc | apply pw_below_drewN | apply below_drew1 | refine below_set ?_ (IsS72.ge HI593.out) | refine below_set ?_ GE589.out | refine below_set ?_ GE590.out | refine below_set ?_ GE605.out | refine below_set ?_ GE620.out) | exact HB.out)⟩
  ·rw [if_neg c7] at H
   exact absurd H (by simp)
 ·rw [if_neg c6] at H
  exact absurd H (by simp)

end Go.Proofs.YtahenocndacjeaaDoor.G

