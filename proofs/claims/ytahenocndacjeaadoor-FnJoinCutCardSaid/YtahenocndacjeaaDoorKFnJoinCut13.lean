/- A text of seat YtahenocndacjeaaDoor: what the law FnJoinCut needs of this repo's texts (by pack.py). Not trusted: Lean checks it. -/
import Derived.Test.YtahenocndacjeaaDoorKFnJoinCut12
namespace Go.Proofs.YtahenocndacjeaaDoor.G
open Go.RowKit Go.Proofs.YtahenocndacjeaaDoorW.PrintWords Go.Proofs.YtahenocndacjeaaDoorW.PrintLast Go.Proofs.YtahenocndacjeaaDoorW.PrintMore
attribute [local go_sem] max2_int min2_int max_two min_two max_three min_three max_four min_four   -- for this text's walks alone
set_option linter.unusedVariables false
set_option linter.unusedSimpArgs false

set_option maxHeartbeats 8000000 in
set_option maxRecDepth 100000 in
theorem spec_BatchJoin.calls (k : Nat) (a0_0 : Bool) (a0_1 : Bool) (a0_2 : Int) (a0_3 : Int) (a0_4 : Int) (P0_5_ : Nat → Prop) (A0_5 : Option Addr) (c0_5 : Nat) (l0_5 : List (S41)) (a1_0 : Bool) (a1_1 : Bool) (a1_2 : Int) (a1_3 : Int) (a1_4 : Int) (P1_5_ : Nat → Prop) (A1_5 : Option Addr) (c1_5 : Nat) (l1_5 : List (S41)) (r1 : Bool) (r2 : Bool) (r3 : Int) (r4 : Int) (r5 : Int) (r6 : List (S41)) (r7 : Bool) (w : World) (hs0_5 : Kd.V k41 41 w w.heap.size (fun k_ => P0_5_ k_) (.slice A0_5 l0_5.length c0_5) l0_5) (hs1_5 : Kd.V k41 41 w w.heap.size (fun k_ => P1_5_ k_) (.slice A1_5 l1_5.length c1_5) l1_5) (h : spec_BatchJoin.f k a0_0 a0_1 a0_2 a0_3 a0_4 l0_5 a1_0 a1_1 a1_2 a1_3 a1_4 l1_5 = some (r1, r2, r3, r4, r5, r6, r7)) :
  Calls Tryd.prog 16 #[.agg #[.bool a0_0, .bool a0_1, .int .i64 a0_2, .int .i64 a0_3, .int .i64 a0_4, .slice A0_5 l0_5.length c0_5], .agg #[.bool a1_0, .bool a1_1, .int .i64 a1_2, .int .i64 a1_3, .int .i64 a1_4, .slice A1_5 l1_5.length c1_5]] w fun e w' => ∃ v5_ : Value, e = .returned (.tuple #[.agg #[.bool r1, .bool r2, .int .i64 r3, .int .i64 r4, .int .i64 r5, v5_], .bool r7]) ∧ Kd.N k41 41 w' w.heap.size (fun k_ => ((P0_5_ k_ ∨ P1_5_ k_) ∨ w.heap.size ≤ k_)) v5_ r6 ∧ Below w.heap.size w w' := by
 have hu25 := Tryd.underlying25
 have HO0_5 := Aside0.mk (show Kd.V k41 41 w w.heap.size (fun k_ => ((P0_5_ k_ ∨ P1_5_ k_) ∨ w.heap.size ≤ k_)) (.slice A0_5 l0_5.length c0_5) l0_5 from Kd.V_mono hs0_5 (fun k_ hk => .inl (.inl hk)))
 have HO1_5 := Aside0.mk (show Kd.V k41 41 w w.heap.size (fun k_ => ((P0_5_ k_ ∨ P1_5_ k_) ∨ w.heap.size ≤ k_)) (.slice A1_5 l1_5.length c1_5) l1_5 from Kd.V_mono hs1_5 (fun k_ hk => .inl (.inr hk)))
 have HB := Aside0.mk (Below.refl w.heap.size w)
 have H : ((spec_BatchValid.f k a0_0 a0_1 a0_2 a0_3 a0_4 l0_5).bind fun t626 => (if t626 = true then ((spec_BatchValid.f k a1_0 a1_1 a1_2 a1_3 a1_4 l1_5).bind fun t627 => (if t627 = true then (if a0_2 = 255 then (if a1_2 = 255 then (spec_BatchJoin.j0 k (a0_0 != a1_0) a0_0 a0_1 a0_2 a0_3 a0_4 l0_5 a1_0 a1_1 a1_2 a1_3 a1_4 l1_5) else (spec_BatchJoin.j0 k true a0_0 a0_1 a0_2 a0_3 a0_4 l0_5 a1_0 a1_1 a1_2 a1_3 a1_4 l1_5)) else (spec_BatchJoin.j0 k true a0_0 a0_1 a0_2 a0_3 a0_4 l0_5 a1_0 a1_1 a1_2 a1_3 a1_4 l1_5)) else (spec_BatchJoin.j0 k true a0_0 a0_1 a0_2 a0_3 a0_4 l0_5 a1_0 a1_1 a1_2 a1_3 a1_4 l1_5))) else (spec_BatchJoin.j0 k true a0_0 a0_1 a0_2 a0_3 a0_4 l0_5 a1_0 a1_1 a1_2 a1_3 a1_4 l1_5))) = some (r1, r2, r3, r4, r5, r6, r7) := h
 clear h
 have HC3 := Aside0.mk H
 clear H
 go_enter Tryd.func16, Tryd.ntmps16
 go_upto_region 1 with (first | ((with_reducible refine gate_dst (N := 2) rfl ?_); refine box_event ?hg (N := 2) ?hd (cs := #[.bool a0_0, .bool a0_1, .int .i64 a0_2, .int .i64 a0_3, .int .i64 a0_4, .slice A0_5 l0_5.length c0_5]) (t := 25) ?hr ?_; (case hd => rfl); (case hg => rfl); (case hr => first | (go_simp; done) | (go_simp; rfl)); intro gb623 hg w4 hbox hb; replace HO0_5 := tVB HO0_5 hg hb; replace HO1_5 := tVB HO1_5 hg hb; have BK623 := Aside0.mk (hbox); have GW623 := tge HB hg; have GE623 := tge HB hg; replace HB := tBs HB hb; clear hb hbox hg) | ((with_reducible refine gate_dst (N := 3) rfl ?_); refine box_event ?hg (N := 3) ?hd (cs := #[.bool a1_0, .bool a1_1, .int .i64 a1_2, .int .i64 a1_3, .int .i64 a1_4, .slice A1_5 l1_5.length c1_5]) (t := 25) ?hr ?_; (case hd => rfl); (case hg => rfl); (case hr => first | (go_simp; done) | (go_simp; rfl)); intro gb624 hg w5 hbox hb; replace HO0_5 := tVB HO0_5 hg hb; replace HO1_5 := tVB HO1_5 hg hb; have BK624 := Aside0.mk (hbox); have GW624 := tge HB hg; have GE624 := tge HB hg; replace HB := tBs HB hb; have NB623_624 := tlt BK623 hg; have NB624_623 := tgt BK623 hg; replace BK623 := tBb BK623 hb; clear hb hbox hg) | ((with_reducible refine gate_dst (N := 4) rfl ?_); refine box_event ?hg (N := 4) ?hd (cs := #[.bool false, .bool false, .int .i64 0, .int .i64 0, .int .i64 0, .slice none 0 0]) (t := 25) ?hr ?_; (case hd => rfl); (case hg => rfl); (case hr => first | (go_simp; done) | (go_simp; rfl)); intro gb625 hg w6 hbox hb; replace HO0_5 := tVB HO0_5 hg hb; replace HO1_5 := tVB HO1_5 hg hb; have BK625 := Aside0.mk (hbox); have GW625 := tge HB hg; have GE625 := tge HB hg; replace HB := tBs HB hb; have NB623_625 := tlt BK623 hg; have NB625_623 := tgt BK623 hg; replace BK623 := tBb BK623 hb; have NB624_625 := tlt BK624 hg; have NB625_624 := tgt BK624 hg; replace BK624 := tBb BK624 hb; clear hb hbox hg))
 (try simp only [Act.put, List.setIfInBounds_toArray, List.set_cons_zero, List.set_cons_succ])
 go_cut [31] (fun v31 wc => ∃ (kq : Nat) (x31_2 : Bool), v31 = .bool x31_2 ∧ Aside0 (spec_BatchJoin.j0 kq x31_2 a0_0 a0_1 a0_2 a0_3 a0_4 l0_5 a1_0 a1_1 a1_2 a1_3 a1_4 l1_5 = some (r1, r2, r3, r4, r5, r6, r7)) ∧ Aside0 (kq ≤ k) ∧ Aside0 (Kd.V k41 41 wc w.heap.size (fun k_ => ((P0_5_ k_ ∨ P1_5_ k_) ∨ w.heap.size ≤ k_) ∧ k_ ≠ gb623 ∧ k_ ≠ gb624 ∧ k_ ≠ gb625) (.slice A0_5 l0_5.length c0_5) l0_5) ∧ Aside0 (Kd.V k41 41 wc w.heap.size (fun k_ => ((P0_5_ k_ ∨ P1_5_ k_) ∨ w.heap.size ≤ k_) ∧ k_ ≠ gb623 ∧ k_ ≠ gb624 ∧ k_ ≠ gb625) (.slice A1_5 l1_5.length c1_5) l1_5) ∧ Aside0 (wc.heap[gb623]? = some (.cells #[.bool a0_0, .bool a0_1, .int .i64 a0_2, .int .i64 a0_3, .int .i64 a0_4, (.slice A0_5 l0_5.length c0_5)] 25 (0, 0))) ∧ Aside0 (wc.heap[gb624]? = some (.cells #[.bool a1_0, .bool a1_1, .int .i64 a1_2, .int .i64 a1_3, .int .i64 a1_4, (.slice A1_5 l1_5.length c1_5)] 25 (0, 0))) ∧ Aside0 (wc.heap[gb625]? = some (.cells #[.bool false, .bool false, .int .i64 0, .int .i64 0, .int .i64 0, (.slice none 0 0)] 25 (0, 0))) ∧ Aside0 (Below w.heap.size w wc))
 case first =>
  have H := HC3.out
  clear HC3
  replace H := tbe H
  obtain ⟨t626, A7, H⟩ := H
  by_cases c8 : t626 = true
  ·subst c8
   rw [if_pos rfl] at H
   replace H := tbe H
   obtain ⟨t627, A9, H⟩ := H
   by_cases c10 : t627 = true
   ·subst c10
    rw [if_pos rfl] at H
    by_cases c11 : a0_2 = 255
    ·rw [if_pos c11] at H
     have c11b0 : (a0_2 == 255) = true := beq_iff_eq.mpr c11
     have c11b1 : (a0_2 != 255) = false := bne_eq_false_iff_eq.mpr c11
     clear c11
     (first | rw [c11b0] | (simp only [i64_w, i32_w]; rw [c11b0]) | skip)
     by_cases c12 : a1_2 = 255
     ·rw [if_pos c12] at H
      have c12b0 : (a1_2 == 255) = true := beq_iff_eq.mpr c12
      have c12b1 : (a1_2 != 255) = false := bne_eq_false_iff_eq.mpr c12
      clear c12
      have H' := Aside0.mk H
      clear H
      have hnb13 := NB623_624.out
      have hnc13 := NB624_623.out
      have hnb14 := NB623_625.out
      have hnc14 := NB625_623.out
      obtain ⟨hcz15_0, hcz15_1, hcz15_2, hcz15_3, hcz15_4, hcz15_5, hfz15_0, hfz15_1, hfz15_2, hfz15_3, hfz15_4, hfz15_5⟩ := cells6 BK623.out
      go_wp2_with (first | ((with_reducible refine gate_callee (f := 28) rfl ?_); refine goesL_ (some 8) rfl rfl Tryd.func28 (by kernel_rfl) rfl #[.agg #[.bool a0_0, .bool a0_1, .int .i64 a0_2, .int .i64 a0_3, .int .i64 a0_4, .slice A0_5 l0_5.length c0_5]] rfl tq ?_; (with_reducible refine (spec_BatchValid.calls k a0_0 a0_1 a0_2 a0_3 a0_4 _ _ l0_5 true _ ?side1 ?side2 A7.out).mono ?_); (case side1 => repeat (first | exact (Kd.V_reads' HO0_5.out).2.2 | (with_reducible refine Kd.C_alloc ?_ _) | (with_reducible refine Kd.C_drewN ?_ _) | (with_reducible refine Kd.C_drew ?_))); (case side2 => exact (Kd.V_reads' HO0_5.out).2.1); rintro e w16 ⟨rfl, hb⟩; refine ⟨_, rfl, ?_⟩; replace HO0_5 := tVb HO0_5 hb; replace HO1_5 := tVb HO1_5 hb; replace BK623 := tBb BK623 hb; replace BK624 := tBb BK624 hb; replace BK625 := tBb BK625 hb; replace HB := tBs HB hb; (try clear hb); (try clear hb2); (try clear hk); (try clear hi); have hnb17 := NB624_625.out; have hnc17 := NB625_624.out; obtain ⟨hcz18_0, hcz18_1, hcz18_2, hcz18_3, hcz18_4, hcz18_5, hfz18_0, hfz18_1, hfz18_2, hfz18_3, hfz18_4, hfz18_5⟩ := cells6 BK624.out) | (go_at_call 28; (with_reducible refine (spec_BatchValid.calls k a1_0 a1_1 a1_2 a1_3 a1_4 _ _ l1_5 true _ ?side1 ?side2 A9.out).mono ?_); (case side1 => repeat (first | exact (Kd.V_reads' HO1_5.out).2.2 | (with_reducible refine Kd.C_alloc ?_ _) | (with_reducible refine Kd.C_drewN ?_ _) | (with_reducible refine Kd.C_drew ?_))); (case side2 => exact (Kd.V_reads' HO1_5.out).2.1); rintro e w19 ⟨rfl, hb⟩; replace HO0_5 := tVb HO0_5 hb; replace HO1_5 := tVb HO1_5 hb; replace BK623 := tBb BK623 hb; replace BK624 := tBb BK624 hb; replace BK625 := tBb BK625 hb; replace HB := tBs HB hb; (try clear hb); (try clear hb2); (try clear hk); (try clear hi); obtain ⟨hcz20_0, hcz20_1, hcz20_2, hcz20_3, hcz20_4, hcz20_5, hfz20_0, hfz20_1, hfz20_2, hfz20_3, hfz20_4, hfz20_5⟩ := cells6 BK623.out; obtain ⟨hcz21_0, hcz21_1, hcz21_2, hcz21_3, hcz21_4, hcz21_5, hfz21_0, hfz21_1, hfz21_2, hfz21_3, hfz21_4, hfz21_5⟩ := cells6 BK624.out))
      go_meet
      case rel => exact ⟨_, ((a0_0 != a1_0)), tr, H', ⟨by first | omega | exact Nat.le_refl _⟩, ⟨tVm HO0_5.out⟩, ⟨tVm HO1_5.out⟩, ⟨tH BK623.out⟩, ⟨tH BK624.out⟩, ⟨tH BK625.out⟩, ⟨zb⟩⟩
     ·rw [if_neg c12] at H
      have c12b0 : (a1_2 == 255) = false := beq_eq_false_iff_ne.mpr c12
      have c12b1 : (a1_2 != 255) = true := bne_iff_ne.mpr c12
      have H' := Aside0.mk H
      clear H
      have hnb22 := NB623_624.out
      have hnc22 := NB624_623.out
      have hnb23 := NB623_625.out
      have hnc23 := NB625_623.out
      obtain ⟨hcz24_0, hcz24_1, hcz24_2, hcz24_3, hcz24_4, hcz24_5, hfz24_0, hfz24_1, hfz24_2, hfz24_3, hfz24_4, hfz24_5⟩ := cells6 BK623.out
      go_wp2_with (first | ((with_reducible refine gate_callee (f := 28) rfl ?_); refine goesL_ (some 8) rfl rfl Tryd.func28 (by kernel_rfl) rfl #[.agg #[.bool a0_0, .bool a0_1, .int .i64 a0_2, .int .i64 a0_3, .int .i64 a0_4, .slice A0_5 l0_5.length c0_5]] rfl tq ?_; (with_reducible refine (spec_BatchValid.calls k a0_0 a0_1 a0_2 a0_3 a0_4 _ _ l0_5 true _ ?side1 ?side2 A7.out).mono ?_); (case side1 => repeat (first | exact (Kd.V_reads' HO0_5.out).2.2 | (with_reducible refine Kd.C_alloc ?_ _) | (with_reducible refine Kd.C_drewN ?_ _) | (with_reducible refine Kd.C_drew ?_))); (case side2 => exact (Kd.V_reads' HO0_5.out).2.1); rintro e w25 ⟨rfl, hb⟩; refine ⟨_, rfl, ?_⟩; replace HO0_5 := tVb HO0_5 hb; replace HO1_5 := tVb HO1_5 hb; replace BK623 := tBb BK623 hb; replace BK624 := tBb BK624 hb; replace BK625 := tBb BK625 hb; replace HB := tBs HB hb; (try clear hb); (try clear hb2); (try clear hk); (try clear hi); have hnb26 := NB624_625.out; have hnc26 := NB625_624.out; obtain ⟨hcz27_0, hcz27_1, hcz27_2, hcz27_3, hcz27_4, hcz27_5, hfz27_0, hfz27_1, hfz27_2, hfz27_3, hfz27_4, hfz27_5⟩ := cells6 BK624.out) | (go_at_call 28; (with_reducible refine (spec_BatchValid.calls k a1_0 a1_1 a1_2 a1_3 a1_4 _ _ l1_5 true _ ?side1 ?side2 A9.out).mono ?_); (case side1 => repeat (first | exact (Kd.V_reads' HO1_5.out).2.2 | (with_reducible refine Kd.C_alloc ?_ _) | (with_reducible refine Kd.C_drewN ?_ _) | (with_reducible refine Kd.C_drew ?_))); (case side2 => exact (Kd.V_reads' HO1_5.out).2.1); rintro e w28 ⟨rfl, hb⟩; replace HO0_5 := tVb HO0_5 hb; replace HO1_5 := tVb HO1_5 hb; replace BK623 := tBb BK623 hb; replace BK624 := tBb BK624 hb; replace BK625 := tBb BK625 hb; replace HB := tBs HB hb; (try clear hb); (try clear hb2); (try clear hk); (try clear hi); obtain ⟨hcz29_0, hcz29_1, hcz29_2, hcz29_3, hcz29_4, hcz29_5, hfz29_0, hfz29_1, hfz29_2, hfz29_3, hfz29_4, hfz29_5⟩ := cells6 BK623.out; obtain ⟨hcz30_0, hcz30_1, hcz30_2, hcz30_3, hcz30_4, hcz30_5, hfz30_0, hfz30_1, hfz30_2, hfz30_3, hfz30_4, hfz30_5⟩ := cells6 BK624.out))
      go_meet
      case rel => exact ⟨_, (true), tr, H', ⟨by first | omega | exact Nat.le_refl _⟩, ⟨tVm HO0_5.out⟩, ⟨tVm HO1_5.out⟩, ⟨tH BK623.out⟩, ⟨tH BK624.out⟩, ⟨tH BK625.out⟩, ⟨zb⟩⟩
    ·rw [if_neg c11] at H
     have c11b0 : (a0_2 == 255) = false := beq_eq_false_iff_ne.mpr c11
     have c11b1 : (a0_2 != 255) = true := bne_iff_ne.mpr c11
     (first | rw [c11b0] | (simp only [i64_w, i32_w]; rw [c11b0]) | skip)
     have H' := Aside0.mk H
     clear H
     have hnb31 := NB623_624.out
     have hnc31 := NB624_623.out
     have hnb32 := NB623_625.out
     have hnc32 := NB625_623.out
     obtain ⟨hcz33_0, hcz33_1, hcz33_2, hcz33_3, hcz33_4, hcz33_5, hfz33_0, hfz33_1, hfz33_2, hfz33_3, hfz33_4, hfz33_5⟩ := cells6 BK623.out
     go_wp2_with (first | ((with_reducible refine gate_callee (f := 28) rfl ?_); refine goesL_ (some 8) rfl rfl Tryd.func28 (by kernel_rfl) rfl #[.agg #[.bool a0_0, .bool a0_1, .int .i64 a0_2, .int .i64 a0_3, .int .i64 a0_4, .slice A0_5 l0_5.length c0_5]] rfl tq ?_; (with_reducible refine (spec_BatchValid.calls k a0_0 a0_1 a0_2 a0_3 a0_4 _ _ l0_5 true _ ?side1 ?side2 A7.out).mono ?_); (case side1 => repeat (first | exact (Kd.V_reads' HO0_5.out).2.2 | (with_reducible refine Kd.C_alloc ?_ _) | (with_reducible refine Kd.C_drewN ?_ _) | (with_reducible refine Kd.C_drew ?_))); (case side2 => exact (Kd.V_reads' HO0_5.out).2.1); rintro e w34 ⟨rfl, hb⟩; refine ⟨_, rfl, ?_⟩; replace HO0_5 := tVb HO0_5 hb; replace HO1_5 := tVb HO1_5 hb; replace BK623 := tBb BK623 hb; replace BK624 := tBb BK624 hb; replace BK625 := tBb BK625 hb; replace HB := tBs HB hb; (try clear hb); (try clear hb2); (try clear hk); (try clear hi); have hnb35 := NB624_625.out; have hnc35 := NB625_624.out; obtain ⟨hcz36_0, hcz36_1, hcz36_2, hcz36_3, hcz36_4, hcz36_5, hfz36_0, hfz36_1, hfz36_2, hfz36_3, hfz36_4, hfz36_5⟩ := cells6 BK624.out) | (go_at_call 28; (with_reducible refine (spec_BatchValid.calls k a1_0 a1_1 a1_2 a1_3 a1_4 _ _ l1_5 true _ ?side1 ?side2 A9.out).mono ?_); (case side1 => repeat (first | exact (Kd.V_reads' HO1_5.out).2.2 | (with_reducible refine Kd.C_alloc ?_ _) | (with_reducible refine Kd.C_drewN ?_ _) | (with_reducible refine Kd.C_drew ?_))); (case side2 => exact (Kd.V_reads' HO1_5.out).2.1); rintro e w37 ⟨rfl, hb⟩; replace HO0_5 := tVb HO0_5 hb; replace HO1_5 := tVb HO1_5 hb; replace BK623 := tBb BK623 hb; replace BK624 := tBb BK624 hb; replace BK625 := tBb BK625 hb; replace HB := tBs HB hb; (try clear hb); (try clear hb2); (try clear hk); (try clear hi); obtain ⟨hcz38_0, hcz38_1, hcz38_2, hcz38_3, hcz38_4, hcz38_5, hfz38_0, hfz38_1, hfz38_2, hfz38_3, hfz38_4, hfz38_5⟩ := cells6 BK623.out))
     go_meet
     case rel => exact ⟨_, (true), tr, H', ⟨by first | omega | exact Nat.le_refl _⟩, ⟨tVm HO0_5.out⟩, ⟨tVm HO1_5.out⟩, ⟨tH BK623.out⟩, ⟨tH BK624.out⟩, ⟨tH BK625.out⟩, ⟨zb⟩⟩
   ·replace c10 := Bool.eq_false_iff.mpr c10
    subst c10
    rw [if_neg (show ¬ (false = true) by decide)] at H
    have H' := Aside0.mk H
    clear H
    have hnb39 := NB623_624.out
    have hnc39 := NB624_623.out
    have hnb40 := NB623_625.out
    have hnc40 := NB625_623.out
    obtain ⟨hcz41_0, hcz41_1, hcz41_2, hcz41_3, hcz41_4, hcz41_5, hfz41_0, hfz41_1, hfz41_2, hfz41_3, hfz41_4, hfz41_5⟩ := cells6 BK623.out
    go_wp2_with (first | ((with_reducible refine gate_callee (f := 28) rfl ?_); refine goesL_ (some 8) rfl rfl Tryd.func28 (by kernel_rfl) rfl #[.agg #[.bool a0_0, .bool a0_1, .int .i64 a0_2, .int .i64 a0_3, .int .i64 a0_4, .slice A0_5 l0_5.length c0_5]] rfl tq ?_; (with_reducible refine (spec_BatchValid.calls k a0_0 a0_1 a0_2 a0_3 a0_4 _ _ l0_5 true _ ?side1 ?side2 A7.out).mono ?_); (case side1 => repeat (first | exact (Kd.V_reads' HO0_5.out).2.2 | (with_reducible refine Kd.C_alloc ?_ _) | (with_reducible refine Kd.C_drewN ?_ _) | (with_reducible refine Kd.C_drew ?_))); (case side2 => exact (Kd.V_reads' HO0_5.out).2.1); rintro e w42 ⟨rfl, hb⟩; refine ⟨_, rfl, ?_⟩; replace HO0_5 := tVb HO0_5 hb; replace HO1_5 := tVb HO1_5 hb; replace BK623 := tBb BK623 hb; replace BK624 := tBb BK624 hb; replace BK625 := tBb BK625 hb; replace HB := tBs HB hb; (try clear hb); (try clear hb2); (try clear hk); (try clear hi); have hnb43 := NB624_625.out; have hnc43 := NB625_624.out; obtain ⟨hcz44_0, hcz44_1, hcz44_2, hcz44_3, hcz44_4, hcz44_5, hfz44_0, hfz44_1, hfz44_2, hfz44_3, hfz44_4, hfz44_5⟩ := cells6 BK624.out) | (go_at_call 28; (with_reducible refine (spec_BatchValid.calls k a1_0 a1_1 a1_2 a1_3 a1_4 _ _ l1_5 false _ ?side1 ?side2 A9.out).mono ?_); (case side1 => repeat (first | exact (Kd.V_reads' HO1_5.out).2.2 | (with_reducible refine Kd.C_alloc ?_ _) | (with_reducible refine Kd.C_drewN ?_ _) | (with_reducible refine Kd.C_drew ?_))); (case side2 => exact (Kd.V_reads' HO1_5.out).2.1); rintro e w45 ⟨rfl, hb⟩; replace HO0_5 := tVb HO0_5 hb; replace HO1_5 := tVb HO1_5 hb; replace BK623 := tBb BK623 hb; replace BK624 := tBb BK624 hb; replace BK625 := tBb BK625 hb; replace HB := tBs HB hb; (try clear hb); (try clear hb2); (try clear hk); (try clear hi)))
    go_meet
    case rel => exact ⟨_, (true), tr, H', ⟨by first | omega | exact Nat.le_refl _⟩, ⟨tVm HO0_5.out⟩, ⟨tVm HO1_5.out⟩, ⟨tH BK623.out⟩, ⟨tH BK624.out⟩, ⟨tH BK625.out⟩, ⟨zb⟩⟩
  ·replace c8 := Bool.eq_false_iff.mpr c8
   subst c8
   rw [if_neg (show ¬ (false = true) by decide)] at H
   have H' := Aside0.mk H
   clear H
   have hnb46 := NB623_624.out
   have hnc46 := NB624_623.out
   have hnb47 := NB623_625.out
   have hnc47 := NB625_623.out
   obtain ⟨hcz48_0, hcz48_1, hcz48_2, hcz48_3, hcz48_4, hcz48_5, hfz48_0, hfz48_1, hfz48_2, hfz48_3, hfz48_4, hfz48_5⟩ := cells6 BK623.out
   go_wp2_with (first | ((with_reducible refine gate_callee (f := 28) rfl ?_); refine goesL_ (some 8) rfl rfl Tryd.func28 (by kernel_rfl) rfl #[.agg #[.bool a0_0, .bool a0_1, .int .i64 a0_2, .int .i64 a0_3, .int .i64 a0_4, .slice A0_5 l0_5.length c0_5]] rfl tq ?_; (with_reducible refine (spec_BatchValid.calls k a0_0 a0_1 a0_2 a0_3 a0_4 _ _ l0_5 false _ ?side1 ?side2 A7.out).mono ?_); (case side1 => repeat (first | exact (Kd.V_reads' HO0_5.out).2.2 | (with_reducible refine Kd.C_alloc ?_ _) | (with_reducible refine Kd.C_drewN ?_ _) | (with_reducible refine Kd.C_drew ?_))); (case side2 => exact (Kd.V_reads' HO0_5.out).2.1); rintro e w49 ⟨rfl, hb⟩; refine ⟨_, rfl, ?_⟩; replace HO0_5 := tVb HO0_5 hb; replace HO1_5 := tVb HO1_5 hb; replace BK623 := tBb BK623 hb; replace BK624 := tBb BK624 hb; replace BK625 := tBb BK625 hb; replace HB := tBs HB hb; (try clear hb); (try clear hb2); (try clear hk); (try clear hi)))
   go_meet
   case rel => exact ⟨_, (true), tr, H', ⟨by first | omega | exact Nat.le_refl _⟩, ⟨tVm HO0_5.out⟩, ⟨tVm HO1_5.out⟩, ⟨tH BK623.out⟩, ⟨tH BK624.out⟩, ⟨tH BK625.out⟩, ⟨zb⟩⟩
 case rest =>
  clear HC3
  obtain ⟨kq, x31_2, rfl, HA, HJ2, HO_624005, HO_625005, BK623, BK624, BK625, HB⟩ := hcut
  cases kq with
  | zero => exact absurd HA.out (by simp [spec_BatchJoin.j0])
  | succ kj2 =>
   have H := HA.out
   clear HA
   simp only [spec_BatchJoin.j0] at H
   by_cases c50 : x31_2 = true
   ·subst c50
    rw [if_pos rfl] at H
    simp only [Option.some.injEq, Prod.mk.injEq] at H
    obtain ⟨rfl, rfl, rfl, rfl, rfl, rfl, rfl⟩ := H
    have hnb51 := NB625_623.out
    have hnc51 := NB623_625.out
    have hnb52 := NB625_624.out
    have hnc52 := NB624_625.out
    obtain ⟨hcz53_0, hcz53_1, hcz53_2, hcz53_3, hcz53_4, hcz53_5, hfz53_0, hfz53_1, hfz53_2, hfz53_3, hfz53_4, hfz53_5⟩ := cells6 BK625.out
    go_wp2
    refine bodyPost_ret (results_ct rfl _ _ gb625 25 #[.bool false, .bool false, .int .i64 0, .int .i64 0, .int .i64 0, .slice none 0 0] (0, 0) _ rfl (tP BK625.out) Tryd.underlying25 rfl (by kernel_rfl)) rfl ?_
    exact ⟨_, by first | rfl | (simp [errW_none, errW_some] <;> rfl) | (simp [*, errW_none, errW_some] <;> rfl), by first | exact Kd.S_nil _ _ _ _ _ | exact Kd.N_nil _ _ _ _ _ | exact Kd.V_nil _ _ _ _ _ | exact Kd.Q_nil _ _ _ _ _ | exact Kd.R_nil _ _ _ _ _, zb⟩
   ·replace c50 := Bool.eq_false_iff.mpr c50
    subst c50
    rw [if_neg (show ¬ (false = true) by decide)] at H
    obtain ⟨y628, hy628⟩ : ∃ y_ : List (S41), y_ = (([] : List (S41))) := ⟨_, rfl⟩
    replace H : (if y628.length + l0_5.length < 1759218604441 then ((some (y628 ++ l0_5 : List (S41))).bind fun y631 => (if y631.length + l1_5.length < 1759218604441 then ((spec_l31Free.f kj2 a0_0 (y631 ++ l1_5)).bind fun bt637 => ((spec_BatchValid.f kj2 bt637.1 bt637.2.1 bt637.2.2.1 bt637.2.2.2.1 bt637.2.2.2.2.1 bt637.2.2.2.2.2).bind fun t646 => (if t646 = true then (some (bt637.1, bt637.2.1, bt637.2.2.1, bt637.2.2.2.1, bt637.2.2.2.2.1, bt637.2.2.2.2.2, true)) else (some (false, false, 0, 0, 0, ([] : List (S41)), false))))) else (none))) else (none)) = some (r1, r2, r3, r4, r5, r6, r7) := by first | (rw [hy628]; with_reducible exact H) | (have H2_ := (Option.bind_some _ _).symm.trans H; rw [hy628]; with_reducible exact H2_) | (have H2_ := (Option.bind_some _ _).symm.trans H; with_reducible exact H2_) | with_reducible exact H | (rw [hy628]; exact H) | exact H
    have Ny628 := Aside0.mk hy628
    clear hy628
    by_cases c54 : y628.length + l0_5.length < 1759218604441
    ·rw [if_pos c54] at H
     have LMc54 := Aside0.mk c54
     clear c54
     obtain ⟨y631, hy631⟩ : ∃ y_ : List (S41), y_ = (y628 ++ l0_5) := ⟨_, rfl⟩
     replace H : (if y631.length + l1_5.length < 1759218604441 then ((spec_l31Free.f kj2 a0_0 (y631 ++ l1_5)).bind fun bt637 => ((spec_BatchValid.f kj2 bt637.1 bt637.2.1 bt637.2.2.1 bt637.2.2.2.1 bt637.2.2.2.2.1 bt637.2.2.2.2.2).bind fun t646 => (if t646 = true then (some (bt637.1, bt637.2.1, bt637.2.2.1, bt637.2.2.2.1, bt637.2.2.2.2.1, bt637.2.2.2.2.2, true)) else (some (false, false, 0, 0, 0, ([] : List (S41)), false))))) else (none)) = some (r1, r2, r3, r4, r5, r6, r7) := by first | (rw [hy631]; with_reducible exact H) | (have H2_ := (Option.bind_some _ _).symm.trans H; rw [hy631]; with_reducible exact H2_) | (have H2_ := (Option.bind_some _ _).symm.trans H; with_reducible exact H2_) | with_reducible exact H | (rw [hy631]; exact H) | exact H
     have Ny631 := Aside0.mk hy631
     clear hy631
     by_cases c55 : y631.length + l1_5.length < 1759218604441
     ·rw [if_pos c55] at H
      have LMc55 := Aside0.mk c55
      clear c55
      obtain ⟨y634, hy634⟩ : ∃ y_ : List (S41), y_ = (y631 ++ l1_5) := ⟨_, rfl⟩
      replace H : ((spec_l31Free.f kj2 a0_0 y634).bind fun bt637 => ((spec_BatchValid.f kj2 bt637.1 bt637.2.1 bt637.2.2.1 bt637.2.2.2.1 bt637.2.2.2.2.1 bt637.2.2.2.2.2).bind fun t646 => (if t646 = true then (some (bt637.1, bt637.2.1, bt637.2.2.1, bt637.2.2.2.1, bt637.2.2.2.2.1, bt637.2.2.2.2.2, true)) else (some (false, false, 0, 0, 0, ([] : List (S41)), false))))) = some (r1, r2, r3, r4, r5, r6, r7) := by first | (rw [hy634]; with_reducible exact H) | (have H2_ := (Option.bind_some _ _).symm.trans H; rw [hy634]; with_reducible exact H2_) | (have H2_ := (Option.bind_some _ _).symm.trans H; with_reducible exact H2_) | with_reducible exact H | (rw [hy634]; exact H) | exact H
      have Ny634 := Aside0.mk hy634
      clear hy634
      replace H := tbe H
      obtain ⟨⟨t637, t638, t639, t640, t641, t642⟩, A56, H⟩ := H
      dsimp only at H
      replace H := tbe H
      obtain ⟨t646, A57, H⟩ := H
      by_cases c58 : t646 = true
      ·subst c58
       rw [if_pos rfl] at H
       simp only [Option.some.injEq, Prod.mk.injEq] at H
       obtain ⟨rfl, rfl, rfl, rfl, rfl, rfl, rfl⟩ := H
       try go_wp2
       replace HO_624005 := Aside0.mk (Kd.V_drew HO_624005.out)
       replace HO_625005 := Aside0.mk (Kd.V_drew HO_625005.out)
       replace BK623 := Aside0.mk (blk_drew BK623.out)
       replace BK624 := Aside0.mk (blk_drew BK624.out)
       replace BK625 := Aside0.mk (blk_drew BK625.out)
       replace HB := Aside0.mk (below_drew1 HB.out)
       refine start_ (n := 12) (S := fun w' => w'.cell? ⟨gb623, 0, none⟩ = some (.bool a0_0) ∧ w'.cell? ⟨gb623, 1, none⟩ = some (.bool a0_1) ∧ w'.cell? ⟨gb623, 2, none⟩ = some (.int .i64 a0_2) ∧ w'.cell? ⟨gb623, 3, none⟩ = some (.int .i64 a0_3) ∧ w'.cell? ⟨gb623, 4, none⟩ = some (.int .i64 a0_4) ∧ w'.cell? ⟨gb623, 5, none⟩ = some (.slice A0_5 l0_5.length c0_5) ∧ w'.cell? ⟨gb624, 0, none⟩ = some (.bool a1_0) ∧ w'.cell? ⟨gb624, 1, none⟩ = some (.bool a1_1) ∧ w'.cell? ⟨gb624, 2, none⟩ = some (.int .i64 a1_2) ∧ w'.cell? ⟨gb624, 3, none⟩ = some (.int .i64 a1_3) ∧ w'.cell? ⟨gb624, 4, none⟩ = some (.int .i64 a1_4) ∧ w'.cell? ⟨gb624, 5, none⟩ = some (.slice A1_5 l1_5.length c1_5)) (ds := []) #[false, false, false, false, false, false, false, false, false, false, false, false] (by kernel_rfl) rfl rfl ⟨(blk_cell BK623.out 0).trans rfl, (blk_cell BK623.out 1).trans rfl, (blk_cell BK623.out 2).trans rfl, (blk_cell BK623.out 3).trans rfl, (blk_cell BK623.out 4).trans rfl, (blk_cell BK623.out 5).trans rfl, (blk_cell BK624.out 0).trans rfl, (blk_cell BK624.out 1).trans rfl, (blk_cell BK624.out 2).trans rfl, (blk_cell BK624.out 3).trans rfl, (blk_cell BK624.out 4).trans rfl, (blk_cell BK624.out 5).trans rfl⟩ (fun hHeld => ?_); refine with_tabW spec_BatchJoin.tab3 spec_BatchJoin.bits3 (fun HT_ HW_ => ?_)
       generalize wc.drew = w59 at HO_624005 HO_625005 BK623 BK624 BK625 HB hHeld ⊢
       refine tpu 0 (some 33) #[true, false, false, false, false, false, false, false, false, false, false, false] ?_
       refine tpu 3 (some 36) #[true, false, false, true, false, false, false, false, false, false, false, false] ?_
       refine tpu 6 (some 39) #[true, false, false, true, false, false, true, false, false, false, false, false] ?_
       refine tta 1 (some 34) #[true, true, false, true, false, false, true, false, false, false, false, false] hHeld ?_ (hy := by rintro w' ⟨s0, s1, s2, s3, s4, s5, s6, s7, s8, s9, s10, s11⟩; go_simp; with_reducible rfl)
       refine tta 4 (some 37) #[true, true, false, true, true, false, true, false, false, false, false, false] hHeld ?_ (hy := by rintro w' ⟨s0, s1, s2, s3, s4, s5, s6, s7, s8, s9, s10, s11⟩; go_simp; with_reducible rfl)
       refine tta 7 (some 40) #[true, true, false, true, true, false, true, true, false, false, false, false] hHeld ?_ (hy := by rintro w' ⟨s0, s1, s2, s3, s4, s5, s6, s7, s8, s9, s10, s11⟩; go_simp; with_reducible rfl)
       refine join_ (σ := Value × Value × Value × Value × Nat) 1 #[true, true, true, true, true, true, true, true, true, true, true, false] (fun s_ => [(35, s_.1), (38, s_.2.1), (41, s_.2.2.1), (42, .agg #[.bool t637, .bool t638, .int .i64 t639, .int .i64 t640, .int .i64 t641, s_.2.2.2.1]), (6, .pointer (some ⟨s_.2.2.2.2, 0, none⟩))]) (fun s_ w' => (w'.cell? ⟨gb623, 0, none⟩ = some (.bool a0_0) ∧ w'.cell? ⟨gb623, 1, none⟩ = some (.bool a0_1) ∧ w'.cell? ⟨gb623, 2, none⟩ = some (.int .i64 a0_2) ∧ w'.cell? ⟨gb623, 3, none⟩ = some (.int .i64 a0_3) ∧ w'.cell? ⟨gb623, 4, none⟩ = some (.int .i64 a0_4) ∧ w'.cell? ⟨gb623, 5, none⟩ = some (.slice A0_5 l0_5.length c0_5) ∧ w'.cell? ⟨gb624, 0, none⟩ = some (.bool a1_0) ∧ w'.cell? ⟨gb624, 1, none⟩ = some (.bool a1_1) ∧ w'.cell? ⟨gb624, 2, none⟩ = some (.int .i64 a1_2) ∧ w'.cell? ⟨gb624, 3, none⟩ = some (.int .i64 a1_3) ∧ w'.cell? ⟨gb624, 4, none⟩ = some (.int .i64 a1_4) ∧ w'.cell? ⟨gb624, 5, none⟩ = some (.slice A1_5 l1_5.length c1_5)) ∧ (Kd.N k41 41 w' w.heap.size (fun k_ => ((P0_5_ k_ ∨ P1_5_ k_) ∨ w.heap.size ≤ k_) ∧ some k_ ≠ (s_.2.2.2.1 : Value).ownBlock ∧ k_ ≠ gb623 ∧ k_ ≠ gb624 ∧ k_ ≠ gb625 ∧ k_ ≠ s_.2.2.2.2) s_.2.2.1 y634) ∧ (Kd.N k41 41 w' w.heap.size (fun k_ => ((P0_5_ k_ ∨ P1_5_ k_) ∨ w.heap.size ≤ k_) ∧ some k_ ≠ (s_.2.2.1 : Value).ownBlock ∧ k_ ≠ gb623 ∧ k_ ≠ gb624 ∧ k_ ≠ gb625 ∧ k_ ≠ s_.2.2.2.2) s_.2.2.2.1 t642) ∧ (Kd.V k41 41 w' w.heap.size (fun k_ => ((P0_5_ k_ ∨ P1_5_ k_) ∨ w.heap.size ≤ k_) ∧ some k_ ≠ (s_.2.2.1 : Value).ownBlock ∧ some k_ ≠ (s_.2.2.2.1 : Value).ownBlock ∧ k_ ≠ gb623 ∧ k_ ≠ gb624 ∧ k_ ≠ gb625 ∧ k_ ≠ s_.2.2.2.2) (.slice A0_5 l0_5.length c0_5) l0_5) ∧ (Kd.V k41 41 w' w.heap.size (fun k_ => ((P0_5_ k_ ∨ P1_5_ k_) ∨ w.heap.size ≤ k_) ∧ some k_ ≠ (s_.2.2.1 : Value).ownBlock ∧ some k_ ≠ (s_.2.2.2.1 : Value).ownBlock ∧ k_ ≠ gb623 ∧ k_ ≠ gb624 ∧ k_ ≠ gb625 ∧ k_ ≠ s_.2.2.2.2) (.slice A1_5 l1_5.length c1_5) l1_5) ∧ (w'.heap[gb623]? = some (.cells #[.bool a0_0, .bool a0_1, .int .i64 a0_2, .int .i64 a0_3, .int .i64 a0_4, .slice A0_5 l0_5.length c0_5] 25 (0, 0))) ∧ (w'.heap[gb624]? = some (.cells #[.bool a1_0, .bool a1_1, .int .i64 a1_2, .int .i64 a1_3, .int .i64 a1_4, .slice A1_5 l1_5.length c1_5] 25 (0, 0))) ∧ (w'.heap[gb625]? = some (.cells #[.bool false, .bool false, .int .i64 0, .int .i64 0, .int .i64 0, .slice none 0 0] 25 (0, 0))) ∧ (w'.heap[s_.2.2.2.2]? = some (.cells #[.bool false, .bool false, .int .i64 0, .int .i64 0, .int .i64 0, .slice none 0 0] 25 (0, 0))) ∧ (w.heap.size ≤ s_.2.2.2.2) ∧ (w.heap.size ≤ s_.2.2.2.2) ∧ (gb623 ≠ s_.2.2.2.2) ∧ (s_.2.2.2.2 ≠ gb623) ∧ (gb624 ≠ s_.2.2.2.2) ∧ (s_.2.2.2.2 ≠ gb624) ∧ (gb625 ≠ s_.2.2.2.2) ∧ (s_.2.2.2.2 ≠ gb625) ∧ (Below w.heap.size w w')) ?_ ?_
       rotate_left
       ·intro hJ2_5_8_9_10
        refine join_ (σ := Value × Value × Value × Value) 2 #[true, true, true, true, true, true, true, true, true, true, false, false] (fun s_ => [(35, s_.1), (38, s_.2.1), (41, s_.2.2.1), (42, .agg #[.bool t637, .bool t638, .int .i64 t639, .int .i64 t640, .int .i64 t641, s_.2.2.2])]) (fun s_ w' => (w'.cell? ⟨gb623, 0, none⟩ = some (.bool a0_0) ∧ w'.cell? ⟨gb623, 1, none⟩ = some (.bool a0_1) ∧ w'.cell? ⟨gb623, 2, none⟩ = some (.int .i64 a0_2) ∧ w'.cell? ⟨gb623, 3, none⟩ = some (.int .i64 a0_3) ∧ w'.cell? ⟨gb623, 4, none⟩ = some (.int .i64 a0_4) ∧ w'.cell? ⟨gb623, 5, none⟩ = some (.slice A0_5 l0_5.length c0_5) ∧ w'.cell? ⟨gb624, 0, none⟩ = some (.bool a1_0) ∧ w'.cell? ⟨gb624, 1, none⟩ = some (.bool a1_1) ∧ w'.cell? ⟨gb624, 2, none⟩ = some (.int .i64 a1_2) ∧ w'.cell? ⟨gb624, 3, none⟩ = some (.int .i64 a1_3) ∧ w'.cell? ⟨gb624, 4, none⟩ = some (.int .i64 a1_4) ∧ w'.cell? ⟨gb624, 5, none⟩ = some (.slice A1_5 l1_5.length c1_5)) ∧ (Kd.N k41 41 w' w.heap.size (fun k_ => ((P0_5_ k_ ∨ P1_5_ k_) ∨ w.heap.size ≤ k_) ∧ some k_ ≠ (s_.2.2.2 : Value).ownBlock ∧ k_ ≠ gb623 ∧ k_ ≠ gb624 ∧ k_ ≠ gb625) s_.2.2.1 y634) ∧ (Kd.N k41 41 w' w.heap.size (fun k_ => ((P0_5_ k_ ∨ P1_5_ k_) ∨ w.heap.size ≤ k_) ∧ some k_ ≠ (s_.2.2.1 : Value).ownBlock ∧ k_ ≠ gb623 ∧ k_ ≠ gb624 ∧ k_ ≠ gb625) s_.2.2.2 t642) ∧ (Kd.V k41 41 w' w.heap.size (fun k_ => ((P0_5_ k_ ∨ P1_5_ k_) ∨ w.heap.size ≤ k_) ∧ some k_ ≠ (s_.2.2.1 : Value).ownBlock ∧ some k_ ≠ (s_.2.2.2 : Value).ownBlock ∧ k_ ≠ gb623 ∧ k_ ≠ gb624 ∧ k_ ≠ gb625) (.slice A0_5 l0_5.length c0_5) l0_5) ∧ (Kd.V k41 41 w' w.heap.size (fun k_ => ((P0_5_ k_ ∨ P1_5_ k_) ∨ w.heap.size ≤ k_) ∧ some k_ ≠ (s_.2.2.1 : Value).ownBlock ∧ some k_ ≠ (s_.2.2.2 : Value).ownBlock ∧ k_ ≠ gb623 ∧ k_ ≠ gb624 ∧ k_ ≠ gb625) (.slice A1_5 l1_5.length c1_5) l1_5) ∧ (w'.heap[gb623]? = some (.cells #[.bool a0_0, .bool a0_1, .int .i64 a0_2, .int .i64 a0_3, .int .i64 a0_4, .slice A0_5 l0_5.length c0_5] 25 (0, 0))) ∧ (w'.heap[gb624]? = some (.cells #[.bool a1_0, .bool a1_1, .int .i64 a1_2, .int .i64 a1_3, .int .i64 a1_4, .slice A1_5 l1_5.length c1_5] 25 (0, 0))) ∧ (w'.heap[gb625]? = some (.cells #[.bool false, .bool false, .int .i64 0, .int .i64 0, .int .i64 0, .slice none 0 0] 25 (0, 0))) ∧ (Below w.heap.size w w')) ?_ ?_
        rotate_left
        ·intro hJ2_5_8_9
         refine join_ (σ := Value × Value × Value × Nat) 2 #[true, true, true, true, true, true, true, true, true, false, true, false] (fun s_ => [(35, s_.1), (38, s_.2.1), (41, s_.2.2.1), (6, .pointer (some ⟨s_.2.2.2, 0, none⟩))]) (fun s_ w' => (w'.cell? ⟨gb623, 0, none⟩ = some (.bool a0_0) ∧ w'.cell? ⟨gb623, 1, none⟩ = some (.bool a0_1) ∧ w'.cell? ⟨gb623, 2, none⟩ = some (.int .i64 a0_2) ∧ w'.cell? ⟨gb623, 3, none⟩ = some (.int .i64 a0_3) ∧ w'.cell? ⟨gb623, 4, none⟩ = some (.int .i64 a0_4) ∧ w'.cell? ⟨gb623, 5, none⟩ = some (.slice A0_5 l0_5.length c0_5) ∧ w'.cell? ⟨gb624, 0, none⟩ = some (.bool a1_0) ∧ w'.cell? ⟨gb624, 1, none⟩ = some (.bool a1_1) ∧ w'.cell? ⟨gb624, 2, none⟩ = some (.int .i64 a1_2) ∧ w'.cell? ⟨gb624, 3, none⟩ = some (.int .i64 a1_3) ∧ w'.cell? ⟨gb624, 4, none⟩ = some (.int .i64 a1_4) ∧ w'.cell? ⟨gb624, 5, none⟩ = some (.slice A1_5 l1_5.length c1_5)) ∧ (Kd.N k41 41 w' w.heap.size (fun k_ => ((P0_5_ k_ ∨ P1_5_ k_) ∨ w.heap.size ≤ k_) ∧ k_ ≠ gb623 ∧ k_ ≠ gb624 ∧ k_ ≠ gb625 ∧ k_ ≠ s_.2.2.2) s_.2.2.1 y634) ∧ (Kd.V k41 41 w' w.heap.size (fun k_ => ((P0_5_ k_ ∨ P1_5_ k_) ∨ w.heap.size ≤ k_) ∧ some k_ ≠ (s_.2.2.1 : Value).ownBlock ∧ k_ ≠ gb623 ∧ k_ ≠ gb624 ∧ k_ ≠ gb625 ∧ k_ ≠ s_.2.2.2) (.slice A0_5 l0_5.length c0_5) l0_5) ∧ (Kd.V k41 41 w' w.heap.size (fun k_ => ((P0_5_ k_ ∨ P1_5_ k_) ∨ w.heap.size ≤ k_) ∧ some k_ ≠ (s_.2.2.1 : Value).ownBlock ∧ k_ ≠ gb623 ∧ k_ ≠ gb624 ∧ k_ ≠ gb625 ∧ k_ ≠ s_.2.2.2) (.slice A1_5 l1_5.length c1_5) l1_5) ∧ (w'.heap[gb623]? = some (.cells #[.bool a0_0, .bool a0_1, .int .i64 a0_2, .int .i64 a0_3, .int .i64 a0_4, .slice A0_5 l0_5.length c0_5] 25 (0, 0))) ∧ (w'.heap[gb624]? = some (.cells #[.bool a1_0, .bool a1_1, .int .i64 a1_2, .int .i64 a1_3, .int .i64 a1_4, .slice A1_5 l1_5.length c1_5] 25 (0, 0))) ∧ (w'.heap[gb625]? = some (.cells #[.bool false, .bool false, .int .i64 0, .int .i64 0, .int .i64 0, .slice none 0 0] 25 (0, 0))) ∧ (w'.heap[s_.2.2.2]? = some (.cells #[.bool false, .bool false, .int .i64 0, .int .i64 0, .int .i64 0, .slice none 0 0] 25 (0, 0))) ∧ (w.heap.size ≤ s_.2.2.2) ∧ (w.heap.size ≤ s_.2.2.2) ∧ (gb623 ≠ s_.2.2.2) ∧ (s_.2.2.2 ≠ gb623) ∧ (gb624 ≠ s_.2.2.2) ∧ (s_.2.2.2 ≠ gb624) ∧ (gb625 ≠ s_.2.2.2) ∧ (s_.2.2.2 ≠ gb625) ∧ (Below w.heap.size w w')) ?_ ?_
         rotate_left
         ·intro hJ2_5_8_10
          refine join_ (σ := Value × Value × Value) 3 #[true, true, true, true, true, true, true, true, true, false, false, false] (fun s_ => [(35, s_.1), (38, s_.2.1), (41, s_.2.2)]) (fun s_ w' => (w'.cell? ⟨gb623, 0, none⟩ = some (.bool a0_0) ∧ w'.cell? ⟨gb623, 1, none⟩ = some (.bool a0_1) ∧ w'.cell? ⟨gb623, 2, none⟩ = some (.int .i64 a0_2) ∧ w'.cell? ⟨gb623, 3, none⟩ = some (.int .i64 a0_3) ∧ w'.cell? ⟨gb623, 4, none⟩ = some (.int .i64 a0_4) ∧ w'.cell? ⟨gb623, 5, none⟩ = some (.slice A0_5 l0_5.length c0_5) ∧ w'.cell? ⟨gb624, 0, none⟩ = some (.bool a1_0) ∧ w'.cell? ⟨gb624, 1, none⟩ = some (.bool a1_1) ∧ w'.cell? ⟨gb624, 2, none⟩ = some (.int .i64 a1_2) ∧ w'.cell? ⟨gb624, 3, none⟩ = some (.int .i64 a1_3) ∧ w'.cell? ⟨gb624, 4, none⟩ = some (.int .i64 a1_4) ∧ w'.cell? ⟨gb624, 5, none⟩ = some (.slice A1_5 l1_5.length c1_5)) ∧ (Kd.N k41 41 w' w.heap.size (fun k_ => ((P0_5_ k_ ∨ P1_5_ k_) ∨ w.heap.size ≤ k_) ∧ k_ ≠ gb623 ∧ k_ ≠ gb624 ∧ k_ ≠ gb625) s_.2.2 y634) ∧ (Kd.V k41 41 w' w.heap.size (fun k_ => ((P0_5_ k_ ∨ P1_5_ k_) ∨ w.heap.size ≤ k_) ∧ some k_ ≠ (s_.2.2 : Value).ownBlock ∧ k_ ≠ gb623 ∧ k_ ≠ gb624 ∧ k_ ≠ gb625) (.slice A0_5 l0_5.length c0_5) l0_5) ∧ (Kd.V k41 41 w' w.heap.size (fun k_ => ((P0_5_ k_ ∨ P1_5_ k_) ∨ w.heap.size ≤ k_) ∧ some k_ ≠ (s_.2.2 : Value).ownBlock ∧ k_ ≠ gb623 ∧ k_ ≠ gb624 ∧ k_ ≠ gb625) (.slice A1_5 l1_5.length c1_5) l1_5) ∧ (w'.heap[gb623]? = some (.cells #[.bool a0_0, .bool a0_1, .int .i64 a0_2, .int .i64 a0_3, .int .i64 a0_4, .slice A0_5 l0_5.length c0_5] 25 (0, 0))) ∧ (w'.heap[gb624]? = some (.cells #[.bool a1_0, .bool a1_1, .int .i64 a1_2, .int .i64 a1_3, .int .i64 a1_4, .slice A1_5 l1_5.length c1_5] 25 (0, 0))) ∧ (w'.heap[gb625]? = some (.cells #[.bool false, .bool false, .int .i64 0, .int .i64 0, .int .i64 0, .slice none 0 0] 25 (0, 0))) ∧ (Below w.heap.size w w')) ?_ ?_
          rotate_left
          ·intro hJ2_5_8
           refine join_ (σ := Value × Value × Nat) 3 #[true, true, true, true, true, true, true, true, false, false, true, false] (fun s_ => [(35, s_.1), (38, s_.2.1), (6, .pointer (some ⟨s_.2.2, 0, none⟩))]) (fun s_ w' => (w'.cell? ⟨gb623, 0, none⟩ = some (.bool a0_0) ∧ w'.cell? ⟨gb623, 1, none⟩ = some (.bool a0_1) ∧ w'.cell? ⟨gb623, 2, none⟩ = some (.int .i64 a0_2) ∧ w'.cell? ⟨gb623, 3, none⟩ = some (.int .i64 a0_3) ∧ w'.cell? ⟨gb623, 4, none⟩ = some (.int .i64 a0_4) ∧ w'.cell? ⟨gb623, 5, none⟩ = some (.slice A0_5 l0_5.length c0_5) ∧ w'.cell? ⟨gb624, 0, none⟩ = some (.bool a1_0) ∧ w'.cell? ⟨gb624, 1, none⟩ = some (.bool a1_1) ∧ w'.cell? ⟨gb624, 2, none⟩ = some (.int .i64 a1_2) ∧ w'.cell? ⟨gb624, 3, none⟩ = some (.int .i64 a1_3) ∧ w'.cell? ⟨gb624, 4, none⟩ = some (.int .i64 a1_4) ∧ w'.cell? ⟨gb624, 5, none⟩ = some (.slice A1_5 l1_5.length c1_5)) ∧ (Kd.N k41 41 w' w.heap.size (fun k_ => ((P0_5_ k_ ∨ P1_5_ k_) ∨ w.heap.size ≤ k_) ∧ k_ ≠ gb623 ∧ k_ ≠ gb624 ∧ k_ ≠ gb625 ∧ k_ ≠ s_.2.2) s_.2.1 y631) ∧ (Kd.V k41 41 w' w.heap.size (fun k_ => ((P0_5_ k_ ∨ P1_5_ k_) ∨ w.heap.size ≤ k_) ∧ some k_ ≠ (s_.2.1 : Value).ownBlock ∧ k_ ≠ gb623 ∧ k_ ≠ gb624 ∧ k_ ≠ gb625 ∧ k_ ≠ s_.2.2) (.slice A0_5 l0_5.length c0_5) l0_5) ∧ (Kd.V k41 41 w' w.heap.size (fun k_ => ((P0_5_ k_ ∨ P1_5_ k_) ∨ w.heap.size ≤ k_) ∧ some k_ ≠ (s_.2.1 : Value).ownBlock ∧ k_ ≠ gb623 ∧ k_ ≠ gb624 ∧ k_ ≠ gb625 ∧ k_ ≠ s_.2.2) (.slice A1_5 l1_5.length c1_5) l1_5) ∧ (w'.heap[gb623]? = some (.cells #[.bool a0_0, .bool a0_1, .int .i64 a0_2, .int .i64 a0_3, .int .i64 a0_4, .slice A0_5 l0_5.length c0_5] 25 (0, 0))) ∧ (w'.heap[gb624]? = some (.cells #[.bool a1_0, .bool a1_1, .int .i64 a1_2, .int .i64 a1_3, .int .i64 a1_4, .slice A1_5 l1_5.length c1_5] 25 (0, 0))) ∧ (w'.heap[gb625]? = some (.cells #[.bool false, .bool false, .int .i64 0, .int .i64 0, .int .i64 0, .slice none 0 0] 25 (0, 0))) ∧ (w'.heap[s_.2.2]? = some (.cells #[.bool false, .bool false, .int .i64 0, .int .i64 0, .int .i64 0, .slice none 0 0] 25 (0, 0))) ∧ (w.heap.size ≤ s_.2.2) ∧ (w.heap.size ≤ s_.2.2) ∧ (gb623 ≠ s_.2.2) ∧ (s_.2.2 ≠ gb623) ∧ (gb624 ≠ s_.2.2) ∧ (s_.2.2 ≠ gb624) ∧ (gb625 ≠ s_.2.2) ∧ (s_.2.2 ≠ gb625) ∧ (Below w.heap.size w w')) ?_ ?_
           rotate_left
           ·intro hJ2_5_10
            refine join_ (σ := Value × Value) 4 #[true, true, true, true, true, true, true, true, false, false, false, false] (fun s_ => [(35, s_.1), (38, s_.2)]) (fun s_ w' => (w'.cell? ⟨gb623, 0, none⟩ = some (.bool a0_0) ∧ w'.cell? ⟨gb623, 1, none⟩ = some (.bool a0_1) ∧ w'.cell? ⟨gb623, 2, none⟩ = some (.int .i64 a0_2) ∧ w'.cell? ⟨gb623, 3, none⟩ = some (.int .i64 a0_3) ∧ w'.cell? ⟨gb623, 4, none⟩ = some (.int .i64 a0_4) ∧ w'.cell? ⟨gb623, 5, none⟩ = some (.slice A0_5 l0_5.length c0_5) ∧ w'.cell? ⟨gb624, 0, none⟩ = some (.bool a1_0) ∧ w'.cell? ⟨gb624, 1, none⟩ = some (.bool a1_1) ∧ w'.cell? ⟨gb624, 2, none⟩ = some (.int .i64 a1_2) ∧ w'.cell? ⟨gb624, 3, none⟩ = some (.int .i64 a1_3) ∧ w'.cell? ⟨gb624, 4, none⟩ = some (.int .i64 a1_4) ∧ w'.cell? ⟨gb624, 5, none⟩ = some (.slice A1_5 l1_5.length c1_5)) ∧ (Kd.N k41 41 w' w.heap.size (fun k_ => ((P0_5_ k_ ∨ P1_5_ k_) ∨ w.heap.size ≤ k_) ∧ k_ ≠ gb623 ∧ k_ ≠ gb624 ∧ k_ ≠ gb625) s_.2 y631) ∧ (Kd.V k41 41 w' w.heap.size (fun k_ => ((P0_5_ k_ ∨ P1_5_ k_) ∨ w.heap.size ≤ k_) ∧ some k_ ≠ (s_.2 : Value).ownBlock ∧ k_ ≠ gb623 ∧ k_ ≠ gb624 ∧ k_ ≠ gb625) (.slice A0_5 l0_5.length c0_5) l0_5) ∧ (Kd.V k41 41 w' w.heap.size (fun k_ => ((P0_5_ k_ ∨ P1_5_ k_) ∨ w.heap.size ≤ k_) ∧ some k_ ≠ (s_.2 : Value).ownBlock ∧ k_ ≠ gb623 ∧ k_ ≠ gb624 ∧ k_ ≠ gb625) (.slice A1_5 l1_5.length c1_5) l1_5) ∧ (w'.heap[gb623]? = some (.cells #[.bool a0_0, .bool a0_1, .int .i64 a0_2, .int .i64 a0_3, .int .i64 a0_4, .slice A0_5 l0_5.length c0_5] 25 (0, 0))) ∧ (w'.heap[gb624]? = some (.cells #[.bool a1_0, .bool a1_1, .int .i64 a1_2, .int .i64 a1_3, .int .i64 a1_4, .slice A1_5 l1_5.length c1_5] 25 (0, 0))) ∧ (w'.heap[gb625]? = some (.cells #[.bool false, .bool false, .int .i64 0, .int .i64 0, .int .i64 0, .slice none 0 0] 25 (0, 0))) ∧ (Below w.heap.size w w')) ?_ ?_
            rotate_left
            ·intro hJ2_5
             refine join_ (σ := Value × Nat) 4 #[true, true, true, true, true, false, true, true, false, false, true, false] (fun s_ => [(35, s_.1), (6, .pointer (some ⟨s_.2, 0, none⟩))]) (fun s_ w' => (w'.cell? ⟨gb623, 0, none⟩ = some (.bool a0_0) ∧ w'.cell? ⟨gb623, 1, none⟩ = some (.bool a0_1) ∧ w'.cell? ⟨gb623, 2, none⟩ = some (.int .i64 a0_2) ∧ w'.cell? ⟨gb623, 3, none⟩ = some (.int .i64 a0_3) ∧ w'.cell? ⟨gb623, 4, none⟩ = some (.int .i64 a0_4) ∧ w'.cell? ⟨gb623, 5, none⟩ = some (.slice A0_5 l0_5.length c0_5) ∧ w'.cell? ⟨gb624, 0, none⟩ = some (.bool a1_0) ∧ w'.cell? ⟨gb624, 1, none⟩ = some (.bool a1_1) ∧ w'.cell? ⟨gb624, 2, none⟩ = some (.int .i64 a1_2) ∧ w'.cell? ⟨gb624, 3, none⟩ = some (.int .i64 a1_3) ∧ w'.cell? ⟨gb624, 4, none⟩ = some (.int .i64 a1_4) ∧ w'.cell? ⟨gb624, 5, none⟩ = some (.slice A1_5 l1_5.length c1_5)) ∧ (Kd.N k41 41 w' w.heap.size (fun k_ => ((P0_5_ k_ ∨ P1_5_ k_) ∨ w.heap.size ≤ k_) ∧ k_ ≠ gb623 ∧ k_ ≠ gb624 ∧ k_ ≠ gb625 ∧ k_ ≠ s_.2) s_.1 y628) ∧ (Kd.V k41 41 w' w.heap.size (fun k_ => ((P0_5_ k_ ∨ P1_5_ k_) ∨ w.heap.size ≤ k_) ∧ some k_ ≠ (s_.1 : Value).ownBlock ∧ k_ ≠ gb623 ∧ k_ ≠ gb624 ∧ k_ ≠ gb625 ∧ k_ ≠ s_.2) (.slice A0_5 l0_5.length c0_5) l0_5) ∧ (Kd.V k41 41 w' w.heap.size (fun k_ => ((P0_5_ k_ ∨ P1_5_ k_) ∨ w.heap.size ≤ k_) ∧ some k_ ≠ (s_.1 : Value).ownBlock ∧ k_ ≠ gb623 ∧ k_ ≠ gb624 ∧ k_ ≠ gb625 ∧ k_ ≠ s_.2) (.slice A1_5 l1_5.length c1_5) l1_5) ∧ (w'.heap[gb623]? = some (.cells #[.bool a0_0, .bool a0_1, .int .i64 a0_2, .int .i64 a0_3, .int .i64 a0_4, .slice A0_5 l0_5.length c0_5] 25 (0, 0))) ∧ (w'.heap[gb624]? = some (.cells #[.bool a1_0, .bool a1_1, .int .i64 a1_2, .int .i64 a1_3, .int .i64 a1_4, .slice A1_5 l1_5.length c1_5] 25 (0, 0))) ∧ (w'.heap[gb625]? = some (.cells #[.bool false, .bool false, .int .i64 0, .int .i64 0, .int .i64 0, .slice none 0 0] 25 (0, 0))) ∧ (w'.heap[s_.2]? = some (.cells #[.bool false, .bool false, .int .i64 0, .int .i64 0, .int .i64 0, .slice none 0 0] 25 (0, 0))) ∧ (w.heap.size ≤ s_.2) ∧ (w.heap.size ≤ s_.2) ∧ (gb623 ≠ s_.2) ∧ (s_.2 ≠ gb623) ∧ (gb624 ≠ s_.2) ∧ (s_.2 ≠ gb624) ∧ (gb625 ≠ s_.2) ∧ (s_.2 ≠ gb625) ∧ (Below w.heap.size w w')) ?_ ?_
             rotate_left
             ·intro hJ2_10
              refine join_ (σ := Value) 5 #[true, true, true, true, true, false, true, true, false, false, false, false] (fun s_ => [(35, s_)]) (fun s_ w' => (w'.cell? ⟨gb623, 0, none⟩ = some (.bool a0_0) ∧ w'.cell? ⟨gb623, 1, none⟩ = some (.bool a0_1) ∧ w'.cell? ⟨gb623, 2, none⟩ = some (.int .i64 a0_2) ∧ w'.cell? ⟨gb623, 3, none⟩ = some (.int .i64 a0_3) ∧ w'.cell? ⟨gb623, 4, none⟩ = some (.int .i64 a0_4) ∧ w'.cell? ⟨gb623, 5, none⟩ = some (.slice A0_5 l0_5.length c0_5) ∧ w'.cell? ⟨gb624, 0, none⟩ = some (.bool a1_0) ∧ w'.cell? ⟨gb624, 1, none⟩ = some (.bool a1_1) ∧ w'.cell? ⟨gb624, 2, none⟩ = some (.int .i64 a1_2) ∧ w'.cell? ⟨gb624, 3, none⟩ = some (.int .i64 a1_3) ∧ w'.cell? ⟨gb624, 4, none⟩ = some (.int .i64 a1_4) ∧ w'.cell? ⟨gb624, 5, none⟩ = some (.slice A1_5 l1_5.length c1_5)) ∧ (Kd.N k41 41 w' w.heap.size (fun k_ => ((P0_5_ k_ ∨ P1_5_ k_) ∨ w.heap.size ≤ k_) ∧ k_ ≠ gb623 ∧ k_ ≠ gb624 ∧ k_ ≠ gb625) s_ y628) ∧ (Kd.V k41 41 w' w.heap.size (fun k_ => ((P0_5_ k_ ∨ P1_5_ k_) ∨ w.heap.size ≤ k_) ∧ some k_ ≠ (s_ : Value).ownBlock ∧ k_ ≠ gb623 ∧ k_ ≠ gb624 ∧ k_ ≠ gb625) (.slice A0_5 l0_5.length c0_5) l0_5) ∧ (Kd.V k41 41 w' w.heap.size (fun k_ => ((P0_5_ k_ ∨ P1_5_ k_) ∨ w.heap.size ≤ k_) ∧ some k_ ≠ (s_ : Value).ownBlock ∧ k_ ≠ gb623 ∧ k_ ≠ gb624 ∧ k_ ≠ gb625) (.slice A1_5 l1_5.length c1_5) l1_5) ∧ (w'.heap[gb623]? = some (.cells #[.bool a0_0, .bool a0_1, .int .i64 a0_2, .int .i64 a0_3, .int .i64 a0_4, .slice A0_5 l0_5.length c0_5] 25 (0, 0))) ∧ (w'.heap[gb624]? = some (.cells #[.bool a1_0, .bool a1_1, .int .i64 a1_2, .int .i64 a1_3, .int .i64 a1_4, .slice A1_5 l1_5.length c1_5] 25 (0, 0))) ∧ (w'.heap[gb625]? = some (.cells #[.bool false, .bool false, .int .i64 0, .int .i64 0, .int .i64 0, .slice none 0 0] 25 (0, 0))) ∧ (Below w.heap.size w w')) ?_ ?_
              rotate_left
              ·intro hJ2
               refine join_ (σ := Nat) 5 #[true, true, false, true, true, false, true, true, false, false, true, false] (fun s_ => [(6, .pointer (some ⟨s_, 0, none⟩))]) (fun s_ w' => (w'.cell? ⟨gb623, 0, none⟩ = some (.bool a0_0) ∧ w'.cell? ⟨gb623, 1, none⟩ = some (.bool a0_1) ∧ w'.cell? ⟨gb623, 2, none⟩ = some (.int .i64 a0_2) ∧ w'.cell? ⟨gb623, 3, none⟩ = some (.int .i64 a0_3) ∧ w'.cell? ⟨gb623, 4, none⟩ = some (.int .i64 a0_4) ∧ w'.cell? ⟨gb623, 5, none⟩ = some (.slice A0_5 l0_5.length c0_5) ∧ w'.cell? ⟨gb624, 0, none⟩ = some (.bool a1_0) ∧ w'.cell? ⟨gb624, 1, none⟩ = some (.bool a1_1) ∧ w'.cell? ⟨gb624, 2, none⟩ = some (.int .i64 a1_2) ∧ w'.cell? ⟨gb624, 3, none⟩ = some (.int .i64 a1_3) ∧ w'.cell? ⟨gb624, 4, none⟩ = some (.int .i64 a1_4) ∧ w'.cell? ⟨gb624, 5, none⟩ = some (.slice A1_5 l1_5.length c1_5)) ∧ (Kd.V k41 41 w' w.heap.size (fun k_ => ((P0_5_ k_ ∨ P1_5_ k_) ∨ w.heap.size ≤ k_) ∧ k_ ≠ gb623 ∧ k_ ≠ gb624 ∧ k_ ≠ gb625 ∧ k_ ≠ s_) (.slice A0_5 l0_5.length c0_5) l0_5) ∧ (Kd.V k41 41 w' w.heap.size (fun k_ => ((P0_5_ k_ ∨ P1_5_ k_) ∨ w.heap.size ≤ k_) ∧ k_ ≠ gb623 ∧ k_ ≠ gb624 ∧ k_ ≠ gb625 ∧ k_ ≠ s_) (.slice A1_5 l1_5.length c1_5) l1_5) ∧ (w'.heap[gb623]? = some (.cells #[.bool a0_0, .bool a0_1, .int .i64 a0_2, .int .i64 a0_3, .int .i64 a0_4, .slice A0_5 l0_5.length c0_5] 25 (0, 0))) ∧ (w'.heap[gb624]? = some (.cells #[.bool a1_0, .bool a1_1, .int .i64 a1_2, .int .i64 a1_3, .int .i64 a1_4, .slice A1_5 l1_5.length c1_5] 25 (0, 0))) ∧ (w'.heap[gb625]? = some (.cells #[.bool false, .bool false, .int .i64 0, .int .i64 0, .int .i64 0, .slice none 0 0] 25 (0, 0))) ∧ (w'.heap[s_]? = some (.cells #[.bool false, .bool false, .int .i64 0, .int .i64 0, .int .i64 0, .slice none 0 0] 25 (0, 0))) ∧ (w.heap.size ≤ s_) ∧ (w.heap.size ≤ s_) ∧ (gb623 ≠ s_) ∧ (s_ ≠ gb623) ∧ (gb624 ≠ s_) ∧ (s_ ≠ gb624) ∧ (gb625 ≠ s_) ∧ (s_ ≠ gb625) ∧ (Below w.heap.size w w')) ?_ ?_
               rotate_left
               ·intro hJ10
                refine two_ (i := 2) (j := 10) (Ni := some 35) (Nj := some 6) #[true, true, true, true, true, false, true, true, false, false, false, false] #[true, true, false, true, true, false, true, true, false, false, true, false] rfl rfl rfl rfl (two_of HT_.out (by kernel_rfl)) (by decide) (by decide) (fun K hK => ?_) (fun K hK => ?_)
                ·skip
                 refine Kd.N_lit_step k41 _ 41 ?hg (N' := 35) ?hd (xs := ([] : List (S41))) (inner := []) (ok := (fun k_ => ((P0_5_ k_ ∨ P1_5_ k_) ∨ w.heap.size ≤ k_) ∧ k_ ≠ gb623 ∧ k_ ≠ gb624 ∧ k_ ≠ gb625)) (okp := (fun k_ => ((P0_5_ k_ ∨ P1_5_ k_) ∨ w.heap.size ≤ k_) ∧ k_ ≠ gb623 ∧ k_ ≠ gb624 ∧ k_ ≠ gb625)) ?hr ?hp (fun _ hk => hk) ((show ∀ k_, w59.heap.size ≤ k_ → (fun k_ => ((P0_5_ k_ ∨ P1_5_ k_) ∨ w.heap.size ≤ k_) ∧ k_ ≠ gb623 ∧ k_ ≠ gb624 ∧ k_ ≠ gb625) k_ from fun k_ hk => ⟨(.inr (Nat.le_trans (below_size zb) hk)), tfB BK623 k_ hk, tfB BK624 k_ hk, tfB BK625 k_ hk⟩) _ (Nat.le_refl _)) (Below.refl _ _) (Nat.le_refl _) (by simp) ?_; (case hd => rfl); (case hg => rfl); (case hr => first | (go_simp; done) | (go_simp; rfl)); (case hp => exact (Reps.none _ _))
                 intro v629 w60 ho61 hb hg_ hnew_
                 clear hg_ hnew_
                 (first | rw [← Ny628.out] at ho61 | (simp only [Int.reduceToNat] at ho61; rw [← Ny628.out] at ho61))
                 replace HO_624005 := tVe HO_624005 ho61 hb
                 replace HO_625005 := tVe HO_625005 ho61 hb
                 have HO630 := tNl ho61 HB
                 replace BK623 := tBb BK623 hb
                 replace BK624 := tBb BK624 hb
                 replace BK625 := tBb BK625 hb
                 replace HB := tBs HB hb
                 clear hb ho61
                 refine hK.out _ _ ⟨(blk_cell BK623.out 0).trans rfl, (blk_cell BK623.out 1).trans rfl, (blk_cell BK623.out 2).trans rfl, (blk_cell BK623.out 3).trans rfl, (blk_cell BK623.out 4).trans rfl, (blk_cell BK623.out 5).trans rfl, (blk_cell BK624.out 0).trans rfl, (blk_cell BK624.out 1).trans rfl, (blk_cell BK624.out 2).trans rfl, (blk_cell BK624.out 3).trans rfl, (blk_cell BK624.out 4).trans rfl, (blk_cell BK624.out 5).trans rfl⟩ (fun hHeld => ?_)
                 clear hK K
                 refine tnm (some 35) ?_
                 exact tnx (hJ2 (v629) _ ⟨hHeld, (tN HO630.out), (tVm HO_624005.out), (tVm HO_625005.out), (tH BK623.out), (tH BK624.out), (tH BK625.out), zb⟩)
                ·skip
                 refine box_step ?hg (N := 6) ?hd (cs := #[.bool false, .bool false, .int .i64 0, .int .i64 0, .int .i64 0, .slice none 0 0]) (t := 25) ?hr ?_; (case hd => rfl); (case hg => rfl); (case hr => first | (go_simp; done) | (go_simp; rfl))
                 intro gb645 hg w60 hbox hb
                 replace HO_624005 := tVB HO_624005 hg hb
                 replace HO_625005 := tVB HO_625005 hg hb
                 have BK645 := Aside0.mk (hbox)
                 have GW645 := tge HB hg
                 have GE645 := tge HB hg
                 replace HB := tBs HB hb
                 have NB623_645 := tlt BK623 hg
                 have NB645_623 := tgt BK623 hg
                 replace BK623 := tBb BK623 hb
                 have NB624_645 := tlt BK624 hg
                 have NB645_624 := tgt BK624 hg
                 replace BK624 := tBb BK624 hb
                 have NB625_645 := tlt BK625 hg
                 have NB645_625 := tgt BK625 hg
                 replace BK625 := tBb BK625 hb
                 clear hb hbox hg
                 refine hK.out _ _ ⟨(blk_cell BK623.out 0).trans rfl, (blk_cell BK623.out 1).trans rfl, (blk_cell BK623.out 2).trans rfl, (blk_cell BK623.out 3).trans rfl, (blk_cell BK623.out 4).trans rfl, (blk_cell BK623.out 5).trans rfl, (blk_cell BK624.out 0).trans rfl, (blk_cell BK624.out 1).trans rfl, (blk_cell BK624.out 2).trans rfl, (blk_cell BK624.out 3).trans rfl, (blk_cell BK624.out 4).trans rfl, (blk_cell BK624.out 5).trans rfl⟩ (fun hHeld => ?_)
                 clear hK K
                 refine tnm (some 6) ?_
                 exact tnx (hJ10 (gb645) _ ⟨hHeld, (tVm HO_624005.out), (tVm HO_625005.out), (tH BK623.out), (tH BK624.out), (tH BK625.out), (tH BK645.out), GW645.out, GE645.out, NB623_645.out, NB645_623.out, NB624_645.out, NB645_624.out, NB625_645.out, NB645_625.out, zb⟩)
               ·skip
                rintro gb645 w61 ⟨hS_, h0_, h1_, h2_, h3_, h4_, h5_, h6_, h7_, h8_, h9_, h10_, h11_, h12_, h13_, h14_⟩
                try dsimp only at hS_ h0_ h1_ h2_ h3_ h4_ h5_ h6_ h7_ h8_ h9_ h10_ h11_ h12_ h13_ h14_
                clear HO_624005 HO_625005 BK623 BK624 BK625 HB
                have HO_624005 := Aside0.mk h0_
                have HO_625005 := Aside0.mk h1_
                have BK623 := Aside0.mk h2_
                have BK624 := Aside0.mk h3_
                have BK625 := Aside0.mk h4_
                have BK645 := Aside0.mk h5_
                have GW645 := Aside0.mk h6_
                have GE645 := Aside0.mk h7_
                have NB623_645 := Aside0.mk h8_
                have NB645_623 := Aside0.mk h9_
                have NB624_645 := Aside0.mk h10_
                have NB645_624 := Aside0.mk h11_
                have NB625_645 := Aside0.mk h12_
                have NB645_625 := Aside0.mk h13_
                have HB := Aside0.mk h14_
                clear h0_ h1_ h2_ h3_ h4_ h5_ h6_ h7_ h8_ h9_ h10_ h11_ h12_ h13_ h14_
                have hHeld := hS_
                refine tnp ?_
                refine one_ (i := 2) (N := some 35) #[true, true, true, true, true, false, true, true, false, false, true, false] rfl rfl (one_of HT_.out (by kernel_rfl)) (by decide) (fun K hK => ?_)
                refine Kd.N_lit_step k41 _ 41 ?hg (N' := 35) ?hd (xs := ([] : List (S41))) (inner := []) (ok := (fun k_ => ((P0_5_ k_ ∨ P1_5_ k_) ∨ w.heap.size ≤ k_) ∧ k_ ≠ gb623 ∧ k_ ≠ gb624 ∧ k_ ≠ gb625 ∧ k_ ≠ gb645)) (okp := (fun k_ => ((P0_5_ k_ ∨ P1_5_ k_) ∨ w.heap.size ≤ k_) ∧ k_ ≠ gb623 ∧ k_ ≠ gb624 ∧ k_ ≠ gb625 ∧ k_ ≠ gb645)) ?hr ?hp (fun _ hk => hk) ((show ∀ k_, w61.heap.size ≤ k_ → (fun k_ => ((P0_5_ k_ ∨ P1_5_ k_) ∨ w.heap.size ≤ k_) ∧ k_ ≠ gb623 ∧ k_ ≠ gb624 ∧ k_ ≠ gb625 ∧ k_ ≠ gb645) k_ from fun k_ hk => ⟨(.inr (Nat.le_trans (below_size zb) hk)), tfB BK623 k_ hk, tfB BK624 k_ hk, tfB BK625 k_ hk, tfB BK645 k_ hk⟩) _ (Nat.le_refl _)) (Below.refl _ _) (Nat.le_refl _) (by simp) ?_; (case hd => rfl); (case hg => rfl); (case hr => first | (go_simp; done) | (go_simp; rfl)); (case hp => exact (Reps.none _ _))
                intro v629 w62 ho63 hb hg_ hnew_
                clear hg_ hnew_
                (first | rw [← Ny628.out] at ho63 | (simp only [Int.reduceToNat] at ho63; rw [← Ny628.out] at ho63))
                replace HO_624005 := tVe HO_624005 ho63 hb
                replace HO_625005 := tVe HO_625005 ho63 hb
                have HO630 := tNl ho63 HB
                replace BK623 := tBb BK623 hb
                replace BK624 := tBb BK624 hb
                replace BK625 := tBb BK625 hb
                replace BK645 := tBb BK645 hb
                replace HB := tBs HB hb
                clear hb ho63
                refine hK.out _ _ ⟨(blk_cell BK623.out 0).trans rfl, (blk_cell BK623.out 1).trans rfl, (blk_cell BK623.out 2).trans rfl, (blk_cell BK623.out 3).trans rfl, (blk_cell BK623.out 4).trans rfl, (blk_cell BK623.out 5).trans rfl, (blk_cell BK624.out 0).trans rfl, (blk_cell BK624.out 1).trans rfl, (blk_cell BK624.out 2).trans rfl, (blk_cell BK624.out 3).trans rfl, (blk_cell BK624.out 4).trans rfl, (blk_cell BK624.out 5).trans rfl⟩ (fun hHeld => ?_)
                clear hK K
                refine tnm (some 35) ?_
                exact tnx (hJ2_10 (v629, gb645) _ ⟨hHeld, (tN HO630.out), (tVm HO_624005.out), (tVm HO_625005.out), (tH BK623.out), (tH BK624.out), (tH BK625.out), (tH BK645.out), GW645.out, GE645.out, NB623_645.out, NB645_623.out, NB624_645.out, NB645_624.out, NB625_645.out, NB645_625.out, zb⟩)
              ·skip
               rintro v629 w62 ⟨hS_, h0_, h1_, h2_, h3_, h4_, h5_, h6_⟩
               try dsimp only at hS_ h0_ h1_ h2_ h3_ h4_ h5_ h6_
               clear HO_624005 HO_625005 BK623 BK624 BK625 HB
               have HO630 := Aside0.mk h0_
               have HO_624005 := Aside0.mk h1_
               have HO_625005 := Aside0.mk h2_
               have BK623 := Aside0.mk h3_
               have BK624 := Aside0.mk h4_
               have BK625 := Aside0.mk h5_
               have HB := Aside0.mk h6_
               clear h0_ h1_ h2_ h3_ h4_ h5_ h6_
               have hHeld := hS_
               refine tnp ?_
               refine two_ (i := 5) (j := 10) (Ni := some 38) (Nj := some 6) #[true, true, true, true, true, true, true, true, false, false, false, false] #[true, true, true, true, true, false, true, true, false, false, true, false] rfl rfl rfl rfl (two_of HT_.out (by kernel_rfl)) (by decide) (by decide) (fun K hK => ?_) (fun K hK => ?_)
               ·skip
                refine Kd.N_append_rows_step k41 (w0 := w) w.heap.size (by rfl) (.tmp 35) (.tmp 37) 23 41 (.agg #[(.int .i64 0), (.int .i64 0), (.bool false), (.slice none 0 0), (.bool false), (.slice none 0 0)]) 80 rfl Tryd.underlying23 info41 rfl (by decide) (by omega) v629 y628 l0_5 _ _ _ (fun k_ => ((P0_5_ k_ ∨ P1_5_ k_) ∨ w.heap.size ≤ k_) ∧ k_ ≠ gb623 ∧ k_ ≠ gb624 ∧ k_ ≠ gb625) (fun k_ => ((fun k_ => ((P0_5_ k_ ∨ P1_5_ k_) ∨ w.heap.size ≤ k_) ∧ k_ ≠ gb623 ∧ k_ ≠ gb624 ∧ k_ ≠ gb625)) k_ ∧ some k_ ≠ (v629 : Value).ownBlock) rfl rfl ?aO ?aR (fun _ hk => hk) ?aF ?aB ?aS ?aL ?_
                (case aR => exact (by skip; exact Kd.V_F (Kd.V_mono (ok' := (fun k_ => ((fun k_ => ((P0_5_ k_ ∨ P1_5_ k_) ∨ w.heap.size ≤ k_) ∧ k_ ≠ gb623 ∧ k_ ≠ gb624 ∧ k_ ≠ gb625)) k_ ∧ some k_ ≠ (v629 : Value).ownBlock)) (HO_624005.out) (fun k_ hk => ⟨⟨hk.1, ⟨hk.2.2.1, ⟨hk.2.2.2.1, hk.2.2.2.2⟩⟩⟩, hk.2.1⟩))))
                (case aB => exact zb)
                (case aF => exact (fun k_ hk => ⟨(.inr (Nat.le_trans (below_size zb) hk)), tfB BK623 k_ hk, tfB BK624 k_ hk, tfB BK625 k_ hk⟩))
                (case aO => exact (tN HO630.out))
                (case aS => exact (below_size zb))
                (case aL => have := LMc54.out; omega)
                intro v632 w63 ho hb hg hat
                rw [← Ny631.out] at ho
                replace HO_624005 := Aside0.mk (Kd.V_afterv (ok := (fun k_ => ((P0_5_ k_ ∨ P1_5_ k_) ∨ w.heap.size ≤ k_) ∧ k_ ≠ gb623 ∧ k_ ≠ gb624 ∧ k_ ≠ gb625)) (tVm HO_624005.out) hg hat)
                replace HO_625005 := Aside0.mk (Kd.V_afterv (ok := (fun k_ => ((P0_5_ k_ ∨ P1_5_ k_) ∨ w.heap.size ≤ k_) ∧ k_ ≠ gb623 ∧ k_ ≠ gb624 ∧ k_ ≠ gb625)) (tVm HO_625005.out) hg hat)
                replace BK623 := Aside0.mk (blk_grown (tH BK623.out) hg (Kd.N_ne HO630.out BK623.out (by decide)))
                replace BK624 := Aside0.mk (blk_grown (tH BK624.out) hg (Kd.N_ne HO630.out BK624.out (by decide)))
                replace BK625 := Aside0.mk (blk_grown (tH BK625.out) hg (Kd.N_ne HO630.out BK625.out (by decide)))
                replace HB := Aside0.mk (hb)
                have HO633 := Aside0.mk (ho)
                clear HO630
                clear ho hb hg hat
                refine hK.out _ _ ⟨(blk_cell BK623.out 0).trans rfl, (blk_cell BK623.out 1).trans rfl, (blk_cell BK623.out 2).trans rfl, (blk_cell BK623.out 3).trans rfl, (blk_cell BK623.out 4).trans rfl, (blk_cell BK623.out 5).trans rfl, (blk_cell BK624.out 0).trans rfl, (blk_cell BK624.out 1).trans rfl, (blk_cell BK624.out 2).trans rfl, (blk_cell BK624.out 3).trans rfl, (blk_cell BK624.out 4).trans rfl, (blk_cell BK624.out 5).trans rfl⟩ (fun hHeld => ?_)
                clear hK K
                refine tnm (some 38) ?_
                exact tnx (hJ2_5 (v629, v632) _ ⟨hHeld, (tN HO633.out), (tVm HO_624005.out), (tVm HO_625005.out), (tH BK623.out), (tH BK624.out), (tH BK625.out), zb⟩)
               ·skip
                refine box_step ?hg (N := 6) ?hd (cs := #[.bool false, .bool false, .int .i64 0, .int .i64 0, .int .i64 0, .slice none 0 0]) (t := 25) ?hr ?_; (case hd => rfl); (case hg => rfl); (case hr => first | (go_simp; done) | (go_simp; rfl))
                intro gb645 hg w63 hbox hb
                replace HO_624005 := tVB HO_624005 hg hb
                replace HO_625005 := tVB HO_625005 hg hb
                replace HO630 := tNB HO630 hg hb
                have BK645 := Aside0.mk (hbox)
                have GW645 := tge HB hg
                have GE645 := tge HB hg
                replace HB := tBs HB hb
                have NB623_645 := tlt BK623 hg
                have NB645_623 := tgt BK623 hg
                replace BK623 := tBb BK623 hb
                have NB624_645 := tlt BK624 hg
                have NB645_624 := tgt BK624 hg
                replace BK624 := tBb BK624 hb
                have NB625_645 := tlt BK625 hg
                have NB645_625 := tgt BK625 hg
                replace BK625 := tBb BK625 hb
                clear hb hbox hg
                refine hK.out _ _ ⟨(blk_cell BK623.out 0).trans rfl, (blk_cell BK623.out 1).trans rfl, (blk_cell BK623.out 2).trans rfl, (blk_cell BK623.out 3).trans rfl, (blk_cell BK623.out 4).trans rfl, (blk_cell BK623.out 5).trans rfl, (blk_cell BK624.out 0).trans rfl, (blk_cell BK624.out 1).trans rfl, (blk_cell BK624.out 2).trans rfl, (blk_cell BK624.out 3).trans rfl, (blk_cell BK624.out 4).trans rfl, (blk_cell BK624.out 5).trans rfl⟩ (fun hHeld => ?_)
                clear hK K
                refine tnm (some 6) ?_
                exact tnx (hJ2_10 (v629, gb645) _ ⟨hHeld, (tNm HO630.out), (tVm HO_624005.out), (tVm HO_625005.out), (tH BK623.out), (tH BK624.out), (tH BK625.out), (tH BK645.out), GW645.out, GE645.out, NB623_645.out, NB645_623.out, NB624_645.out, NB645_624.out, NB625_645.out, NB645_625.out, zb⟩)
             ·skip
              rintro ⟨v629, gb645⟩ w63 ⟨hS_, h0_, h1_, h2_, h3_, h4_, h5_, h6_, h7_, h8_, h9_, h10_, h11_, h12_, h13_, h14_, h15_⟩
              try dsimp only at hS_ h0_ h1_ h2_ h3_ h4_ h5_ h6_ h7_ h8_ h9_ h10_ h11_ h12_ h13_ h14_ h15_
              clear HO_624005 HO_625005 BK623 BK624 BK625 HB
              have HO630 := Aside0.mk h0_
              have HO_624005 := Aside0.mk h1_
              have HO_625005 := Aside0.mk h2_
              have BK623 := Aside0.mk h3_
              have BK624 := Aside0.mk h4_
              have BK625 := Aside0.mk h5_
              have BK645 := Aside0.mk h6_
              have GW645 := Aside0.mk h7_
              have GE645 := Aside0.mk h8_
              have NB623_645 := Aside0.mk h9_
              have NB645_623 := Aside0.mk h10_
              have NB624_645 := Aside0.mk h11_
              have NB645_624 := Aside0.mk h12_
              have NB625_645 := Aside0.mk h13_
              have NB645_625 := Aside0.mk h14_
              have HB := Aside0.mk h15_
              clear h0_ h1_ h2_ h3_ h4_ h5_ h6_ h7_ h8_ h9_ h10_ h11_ h12_ h13_ h14_ h15_
              have hHeld := hS_
              refine tnp ?_
              refine one_ (i := 5) (N := some 38) #[true, true, true, true, true, true, true, true, false, false, true, false] rfl rfl (one_of HT_.out (by kernel_rfl)) (by decide) (fun K hK => ?_)
              refine Kd.N_append_rows_step k41 (w0 := w) w.heap.size (by rfl) (.tmp 35) (.tmp 37) 23 41 (.agg #[(.int .i64 0), (.int .i64 0), (.bool false), (.slice none 0 0), (.bool false), (.slice none 0 0)]) 80 rfl Tryd.underlying23 info41 rfl (by decide) (by omega) v629 y628 l0_5 _ _ _ (fun k_ => ((P0_5_ k_ ∨ P1_5_ k_) ∨ w.heap.size ≤ k_) ∧ k_ ≠ gb623 ∧ k_ ≠ gb624 ∧ k_ ≠ gb625 ∧ k_ ≠ gb645) (fun k_ => ((fun k_ => ((P0_5_ k_ ∨ P1_5_ k_) ∨ w.heap.size ≤ k_) ∧ k_ ≠ gb623 ∧ k_ ≠ gb624 ∧ k_ ≠ gb625 ∧ k_ ≠ gb645)) k_ ∧ some k_ ≠ (v629 : Value).ownBlock) rfl rfl ?aO ?aR (fun _ hk => hk) ?aF ?aB ?aS ?aL ?_
              (case aR => exact (by skip; exact Kd.V_F (Kd.V_mono (ok' := (fun k_ => ((fun k_ => ((P0_5_ k_ ∨ P1_5_ k_) ∨ w.heap.size ≤ k_) ∧ k_ ≠ gb623 ∧ k_ ≠ gb624 ∧ k_ ≠ gb625 ∧ k_ ≠ gb645)) k_ ∧ some k_ ≠ (v629 : Value).ownBlock)) (HO_624005.out) (fun k_ hk => ⟨⟨hk.1, ⟨hk.2.2.1, ⟨hk.2.2.2.1, ⟨hk.2.2.2.2.1, hk.2.2.2.2.2⟩⟩⟩⟩, hk.2.1⟩))))
              (case aB => exact zb)
              (case aF => exact (fun k_ hk => ⟨(.inr (Nat.le_trans (below_size zb) hk)), tfB BK623 k_ hk, tfB BK624 k_ hk, tfB BK625 k_ hk, tfB BK645 k_ hk⟩))
              (case aO => exact (tN HO630.out))
              (case aS => exact (below_size zb))
              (case aL => have := LMc54.out; omega)
              intro v632 w64 ho hb hg hat
              rw [← Ny631.out] at ho
              replace HO_624005 := Aside0.mk (Kd.V_afterv (ok := (fun k_ => ((P0_5_ k_ ∨ P1_5_ k_) ∨ w.heap.size ≤ k_) ∧ k_ ≠ gb623 ∧ k_ ≠ gb624 ∧ k_ ≠ gb625 ∧ k_ ≠ gb645)) (tVm HO_624005.out) hg hat)
              replace HO_625005 := Aside0.mk (Kd.V_afterv (ok := (fun k_ => ((P0_5_ k_ ∨ P1_5_ k_) ∨ w.heap.size ≤ k_) ∧ k_ ≠ gb623 ∧ k_ ≠ gb624 ∧ k_ ≠ gb625 ∧ k_ ≠ gb645)) (tVm HO_625005.out) hg hat)
              replace BK623 := Aside0.mk (blk_grown (tH BK623.out) hg (Kd.N_ne HO630.out BK623.out (by decide)))
              replace BK624 := Aside0.mk (blk_grown (tH BK624.out) hg (Kd.N_ne HO630.out BK624.out (by decide)))
              replace BK625 := Aside0.mk (blk_grown (tH BK625.out) hg (Kd.N_ne HO630.out BK625.out (by decide)))
              replace BK645 := Aside0.mk (blk_grown (tH BK645.out) hg (Kd.N_ne HO630.out BK645.out (by decide)))
              replace HB := Aside0.mk (hb)
              have HO633 := Aside0.mk (ho)
              clear HO630
              clear ho hb hg hat
              refine hK.out _ _ ⟨(blk_cell BK623.out 0).trans rfl, (blk_cell BK623.out 1).trans rfl, (blk_cell BK623.out 2).trans rfl, (blk_cell BK623.out 3).trans rfl, (blk_cell BK623.out 4).trans rfl, (blk_cell BK623.out 5).trans rfl, (blk_cell BK624.out 0).trans rfl, (blk_cell BK624.out 1).trans rfl, (blk_cell BK624.out 2).trans rfl, (blk_cell BK624.out 3).trans rfl, (blk_cell BK624.out 4).trans rfl, (blk_cell BK624.out 5).trans rfl⟩ (fun hHeld => ?_)
              clear hK K
              refine tnm (some 38) ?_
              exact tnx (hJ2_5_10 (v629, v632, gb645) _ ⟨hHeld, (tN HO633.out), (tVm HO_624005.out), (tVm HO_625005.out), (tH BK623.out), (tH BK624.out), (tH BK625.out), (tH BK645.out), GW645.out, GE645.out, NB623_645.out, NB645_623.out, NB624_645.out, NB645_624.out, NB625_645.out, NB645_625.out, zb⟩)
            ·skip
             rintro ⟨v629, v632⟩ w63 ⟨hS_, h0_, h1_, h2_, h3_, h4_, h5_, h6_⟩
             try dsimp only at hS_ h0_ h1_ h2_ h3_ h4_ h5_ h6_
             clear HO_624005 HO_625005 BK623 BK624 BK625 HB
             have HO633 := Aside0.mk h0_
             have HO_624005 := Aside0.mk h1_
             have HO_625005 := Aside0.mk h2_
             have BK623 := Aside0.mk h3_
             have BK624 := Aside0.mk h4_
             have BK625 := Aside0.mk h5_
             have HB := Aside0.mk h6_
             clear h0_ h1_ h2_ h3_ h4_ h5_ h6_
             have hHeld := hS_
             refine tnp ?_
             refine two_ (i := 8) (j := 10) (Ni := some 41) (Nj := some 6) #[true, true, true, true, true, true, true, true, true, false, false, false] #[true, true, true, true, true, true, true, true, false, false, true, false] rfl rfl rfl rfl (two_of HT_.out (by kernel_rfl)) (by decide) (by decide) (fun K hK => ?_) (fun K hK => ?_)
             ·skip
              refine Kd.N_append_rows_step k41 (w0 := w) w.heap.size (by rfl) (.tmp 38) (.tmp 40) 23 41 (.agg #[(.int .i64 0), (.int .i64 0), (.bool false), (.slice none 0 0), (.bool false), (.slice none 0 0)]) 80 rfl Tryd.underlying23 info41 rfl (by decide) (by omega) v632 y631 l1_5 _ _ _ (fun k_ => ((P0_5_ k_ ∨ P1_5_ k_) ∨ w.heap.size ≤ k_) ∧ k_ ≠ gb623 ∧ k_ ≠ gb624 ∧ k_ ≠ gb625) (fun k_ => ((fun k_ => ((P0_5_ k_ ∨ P1_5_ k_) ∨ w.heap.size ≤ k_) ∧ k_ ≠ gb623 ∧ k_ ≠ gb624 ∧ k_ ≠ gb625)) k_ ∧ some k_ ≠ (v632 : Value).ownBlock) rfl rfl ?aO ?aR (fun _ hk => hk) ?aF ?aB ?aS ?aL ?_
              (case aR => exact (by skip; exact Kd.V_F (Kd.V_mono (ok' := (fun k_ => ((fun k_ => ((P0_5_ k_ ∨ P1_5_ k_) ∨ w.heap.size ≤ k_) ∧ k_ ≠ gb623 ∧ k_ ≠ gb624 ∧ k_ ≠ gb625)) k_ ∧ some k_ ≠ (v632 : Value).ownBlock)) (HO_625005.out) (fun k_ hk => ⟨⟨hk.1, ⟨hk.2.2.1, ⟨hk.2.2.2.1, hk.2.2.2.2⟩⟩⟩, hk.2.1⟩))))
              (case aB => exact zb)
              (case aF => exact (fun k_ hk => ⟨(.inr (Nat.le_trans (below_size zb) hk)), tfB BK623 k_ hk, tfB BK624 k_ hk, tfB BK625 k_ hk⟩))
              (case aO => exact (tN HO633.out))
              (case aS => exact (below_size zb))
              (case aL => have := LMc55.out; omega)
              intro v635 w64 ho hb hg hat
              rw [← Ny634.out] at ho
              replace HO_624005 := Aside0.mk (Kd.V_afterv (ok := (fun k_ => ((P0_5_ k_ ∨ P1_5_ k_) ∨ w.heap.size ≤ k_) ∧ k_ ≠ gb623 ∧ k_ ≠ gb624 ∧ k_ ≠ gb625)) (tVm HO_624005.out) hg hat)
              replace HO_625005 := Aside0.mk (Kd.V_afterv (ok := (fun k_ => ((P0_5_ k_ ∨ P1_5_ k_) ∨ w.heap.size ≤ k_) ∧ k_ ≠ gb623 ∧ k_ ≠ gb624 ∧ k_ ≠ gb625)) (tVm HO_625005.out) hg hat)
              replace BK623 := Aside0.mk (blk_grown (tH BK623.out) hg (Kd.N_ne HO633.out BK623.out (by decide)))
              replace BK624 := Aside0.mk (blk_grown (tH BK624.out) hg (Kd.N_ne HO633.out BK624.out (by decide)))
              replace BK625 := Aside0.mk (blk_grown (tH BK625.out) hg (Kd.N_ne HO633.out BK625.out (by decide)))
              replace HB := Aside0.mk (hb)
              have HO636 := Aside0.mk (ho)
              clear HO633
              clear ho hb hg hat
              refine hK.out _ _ ⟨(blk_cell BK623.out 0).trans rfl, (blk_cell BK623.out 1).trans rfl, (blk_cell BK623.out 2).trans rfl, (blk_cell BK623.out 3).trans rfl, (blk_cell BK623.out 4).trans rfl, (blk_cell BK623.out 5).trans rfl, (blk_cell BK624.out 0).trans rfl, (blk_cell BK624.out 1).trans rfl, (blk_cell BK624.out 2).trans rfl, (blk_cell BK624.out 3).trans rfl, (blk_cell BK624.out 4).trans rfl, (blk_cell BK624.out 5).trans rfl⟩ (fun hHeld => ?_)
              clear hK K
              refine tnm (some 41) ?_
              exact tnx (hJ2_5_8 (v629, v632, v635) _ ⟨hHeld, (tN HO636.out), (tVm HO_624005.out), (tVm HO_625005.out), (tH BK623.out), (tH BK624.out), (tH BK625.out), zb⟩)
             ·skip
              refine box_step ?hg (N := 6) ?hd (cs := #[.bool false, .bool false, .int .i64 0, .int .i64 0, .int .i64 0, .slice none 0 0]) (t := 25) ?hr ?_; (case hd => rfl); (case hg => rfl); (case hr => first | (go_simp; done) | (go_simp; rfl))
              intro gb645 hg w64 hbox hb
              replace HO_624005 := tVB HO_624005 hg hb
              replace HO_625005 := tVB HO_625005 hg hb
              replace HO633 := tNB HO633 hg hb
              have BK645 := Aside0.mk (hbox)
              have GW645 := tge HB hg
              have GE645 := tge HB hg
              replace HB := tBs HB hb
              have NB623_645 := tlt BK623 hg
              have NB645_623 := tgt BK623 hg
              replace BK623 := tBb BK623 hb
              have NB624_645 := tlt BK624 hg
              have NB645_624 := tgt BK624 hg
              replace BK624 := tBb BK624 hb
              have NB625_645 := tlt BK625 hg
              have NB645_625 := tgt BK625 hg
              replace BK625 := tBb BK625 hb
              clear hb hbox hg
              refine hK.out _ _ ⟨(blk_cell BK623.out 0).trans rfl, (blk_cell BK623.out 1).trans rfl, (blk_cell BK623.out 2).trans rfl, (blk_cell BK623.out 3).trans rfl, (blk_cell BK623.out 4).trans rfl, (blk_cell BK623.out 5).trans rfl, (blk_cell BK624.out 0).trans rfl, (blk_cell BK624.out 1).trans rfl, (blk_cell BK624.out 2).trans rfl, (blk_cell BK624.out 3).trans rfl, (blk_cell BK624.out 4).trans rfl, (blk_cell BK624.out 5).trans rfl⟩ (fun hHeld => ?_)
              clear hK K
              refine tnm (some 6) ?_
              exact tnx (hJ2_5_10 (v629, v632, gb645) _ ⟨hHeld, (tNm HO633.out), (tVm HO_624005.out), (tVm HO_625005.out), (tH BK623.out), (tH BK624.out), (tH BK625.out), (tH BK645.out), GW645.out, GE645.out, NB623_645.out, NB645_623.out, NB624_645.out, NB645_624.out, NB625_645.out, NB645_625.out, zb⟩)
           ·skip
            rintro ⟨v629, v632, gb645⟩ w64 ⟨hS_, h0_, h1_, h2_, h3_, h4_, h5_, h6_, h7_, h8_, h9_, h10_, h11_, h12_, h13_, h14_, h15_⟩
            try dsimp only at hS_ h0_ h1_ h2_ h3_ h4_ h5_ h6_ h7_ h8_ h9_ h10_ h11_ h12_ h13_ h14_ h15_
            clear HO_624005 HO_625005 BK623 BK624 BK625 HB
            have HO633 := Aside0.mk h0_
            have HO_624005 := Aside0.mk h1_
            have HO_625005 := Aside0.mk h2_
            have BK623 := Aside0.mk h3_
            have BK624 := Aside0.mk h4_
            have BK625 := Aside0.mk h5_
            have BK645 := Aside0.mk h6_
            have GW645 := Aside0.mk h7_
            have GE645 := Aside0.mk h8_
            have NB623_645 := Aside0.mk h9_
            have NB645_623 := Aside0.mk h10_
            have NB624_645 := Aside0.mk h11_
            have NB645_624 := Aside0.mk h12_
            have NB625_645 := Aside0.mk h13_
            have NB645_625 := Aside0.mk h14_
            have HB := Aside0.mk h15_
            clear h0_ h1_ h2_ h3_ h4_ h5_ h6_ h7_ h8_ h9_ h10_ h11_ h12_ h13_ h14_ h15_
            have hHeld := hS_
            refine tnp ?_
            refine one_ (i := 8) (N := some 41) #[true, true, true, true, true, true, true, true, true, false, true, false] rfl rfl (one_of HT_.out (by kernel_rfl)) (by decide) (fun K hK => ?_)
            refine Kd.N_append_rows_step k41 (w0 := w) w.heap.size (by rfl) (.tmp 38) (.tmp 40) 23 41 (.agg #[(.int .i64 0), (.int .i64 0), (.bool false), (.slice none 0 0), (.bool false), (.slice none 0 0)]) 80 rfl Tryd.underlying23 info41 rfl (by decide) (by omega) v632 y631 l1_5 _ _ _ (fun k_ => ((P0_5_ k_ ∨ P1_5_ k_) ∨ w.heap.size ≤ k_) ∧ k_ ≠ gb623 ∧ k_ ≠ gb624 ∧ k_ ≠ gb625 ∧ k_ ≠ gb645) (fun k_ => ((fun k_ => ((P0_5_ k_ ∨ P1_5_ k_) ∨ w.heap.size ≤ k_) ∧ k_ ≠ gb623 ∧ k_ ≠ gb624 ∧ k_ ≠ gb625 ∧ k_ ≠ gb645)) k_ ∧ some k_ ≠ (v632 : Value).ownBlock) rfl rfl ?aO ?aR (fun _ hk => hk) ?aF ?aB ?aS ?aL ?_
            (case aR => exact (by skip; exact Kd.V_F (Kd.V_mono (ok' := (fun k_ => ((fun k_ => ((P0_5_ k_ ∨ P1_5_ k_) ∨ w.heap.size ≤ k_) ∧ k_ ≠ gb623 ∧ k_ ≠ gb624 ∧ k_ ≠ gb625 ∧ k_ ≠ gb645)) k_ ∧ some k_ ≠ (v632 : Value).ownBlock)) (HO_625005.out) (fun k_ hk => ⟨⟨hk.1, ⟨hk.2.2.1, ⟨hk.2.2.2.1, ⟨hk.2.2.2.2.1, hk.2.2.2.2.2⟩⟩⟩⟩, hk.2.1⟩))))
            (case aB => exact zb)
            (case aF => exact (fun k_ hk => ⟨(.inr (Nat.le_trans (below_size zb) hk)), tfB BK623 k_ hk, tfB BK624 k_ hk, tfB BK625 k_ hk, tfB BK645 k_ hk⟩))
            (case aO => exact (tN HO633.out))
            (case aS => exact (below_size zb))
            (case aL => have := LMc55.out; omega)
            intro v635 w65 ho hb hg hat
            rw [← Ny634.out] at ho
            replace HO_624005 := Aside0.mk (Kd.V_afterv (ok := (fun k_ => ((P0_5_ k_ ∨ P1_5_ k_) ∨ w.heap.size ≤ k_) ∧ k_ ≠ gb623 ∧ k_ ≠ gb624 ∧ k_ ≠ gb625 ∧ k_ ≠ gb645)) (tVm HO_624005.out) hg hat)
            replace HO_625005 := Aside0.mk (Kd.V_afterv (ok := (fun k_ => ((P0_5_ k_ ∨ P1_5_ k_) ∨ w.heap.size ≤ k_) ∧ k_ ≠ gb623 ∧ k_ ≠ gb624 ∧ k_ ≠ gb625 ∧ k_ ≠ gb645)) (tVm HO_625005.out) hg hat)
            replace BK623 := Aside0.mk (blk_grown (tH BK623.out) hg (Kd.N_ne HO633.out BK623.out (by decide)))
            replace BK624 := Aside0.mk (blk_grown (tH BK624.out) hg (Kd.N_ne HO633.out BK624.out (by decide)))
            replace BK625 := Aside0.mk (blk_grown (tH BK625.out) hg (Kd.N_ne HO633.out BK625.out (by decide)))
            replace BK645 := Aside0.mk (blk_grown (tH BK645.out) hg (Kd.N_ne HO633.out BK645.out (by decide)))
            replace HB := Aside0.mk (hb)
            have HO636 := Aside0.mk (ho)
            clear HO633
            clear ho hb hg hat
            refine hK.out _ _ ⟨(blk_cell BK623.out 0).trans rfl, (blk_cell BK623.out 1).trans rfl, (blk_cell BK623.out 2).trans rfl, (blk_cell BK623.out 3).trans rfl, (blk_cell BK623.out 4).trans rfl, (blk_cell BK623.out 5).trans rfl, (blk_cell BK624.out 0).trans rfl, (blk_cell BK624.out 1).trans rfl, (blk_cell BK624.out 2).trans rfl, (blk_cell BK624.out 3).trans rfl, (blk_cell BK624.out 4).trans rfl, (blk_cell BK624.out 5).trans rfl⟩ (fun hHeld => ?_)
            clear hK K
            refine tnm (some 41) ?_
            exact tnx (hJ2_5_8_10 (v629, v632, v635, gb645) _ ⟨hHeld, (tN HO636.out), (tVm HO_624005.out), (tVm HO_625005.out), (tH BK623.out), (tH BK624.out), (tH BK625.out), (tH BK645.out), GW645.out, GE645.out, NB623_645.out, NB645_623.out, NB624_645.out, NB645_624.out, NB625_645.out, NB645_625.out, zb⟩)
          ·skip
           rintro ⟨v629, v632, v635⟩ w64 ⟨hS_, h0_, h1_, h2_, h3_, h4_, h5_, h6_⟩
           try dsimp only at hS_ h0_ h1_ h2_ h3_ h4_ h5_ h6_
           clear HO_624005 HO_625005 BK623 BK624 BK625 HB
           have HO636 := Aside0.mk h0_
           have HO_624005 := Aside0.mk h1_
           have HO_625005 := Aside0.mk h2_
           have BK623 := Aside0.mk h3_
           have BK624 := Aside0.mk h4_
           have BK625 := Aside0.mk h5_
           have HB := Aside0.mk h6_
           clear h0_ h1_ h2_ h3_ h4_ h5_ h6_
           have hHeld := hS_
           obtain ⟨Ao65, co65, eo65⟩ := Kd.N_slice HO636.out
           (first | subst eo65 | (injection eo65 with f1_ f2_ f3_; have f4_ := f1_.symm; have f5_ := f3_.symm; clear f1_ f2_ f3_; subst f4_; subst f5_))
           refine tnp ?_
           refine two_ (i := 9) (j := 10) (Ni := some 42) (Nj := some 6) #[true, true, true, true, true, true, true, true, true, true, false, false] #[true, true, true, true, true, true, true, true, true, false, true, false] rfl rfl rfl rfl (two_of HT_.out (by kernel_rfl)) (by decide) (by decide) (fun K hK => ?_) (fun K hK => ?_)
           ·skip
            refine goes_ Tryd.func29 (by kernel_rfl) rfl #[.bool a0_0, .slice Ao65 y634.length co65] (by rfl) rfl rfl tq ?_
            with_reducible refine (spec_l31Free.calls kj2 a0_0 _ _ y634 t637 t638 t639 t640 t641 t642 _ ?side1 ?side2 A56.out).mono ?_
            (case side1 => repeat (first | exact (Kd.N_reads' HO636.out).2.2 | (with_reducible refine Kd.C_alloc ?_ _) | (with_reducible refine Kd.C_drewN ?_ _) | (with_reducible refine Kd.C_drew ?_)))
            (case side2 => exact (Kd.N_reads' HO636.out).2.1)
            rintro e w66 ⟨v643, rfl, ho0, hb⟩
            refine ⟨_, rfl, ?_⟩
            replace HO_624005 := tVe HO_624005 ho0 hb
            replace HO_625005 := tVe HO_625005 ho0 hb
            have HO644 := Aside0.mk (Kd.N_lower (Kd.N_mono (ok' := fun k_ => ((P0_5_ k_ ∨ P1_5_ k_) ∨ w.heap.size ≤ k_) ∧ some k_ ≠ (.slice Ao65 y634.length co65 : Value).ownBlock ∧ k_ ≠ gb623 ∧ k_ ≠ gb624 ∧ k_ ≠ gb625) (Kd.S_N (Kd.S_bound ho0)) (fun k_ hk_ => ⟨(.inr (Nat.le_trans (below_size zb) hk_.2.1)), (tfr HO636 k_ hk_.2.1), (tfB BK623 k_ hk_.2.1), (tfB BK624 k_ hk_.2.1), (tfB BK625 k_ hk_.2.1)⟩)) (below_size zb))
            replace HO636 := tNe HO636 ho0 hb
            replace BK623 := tBb BK623 hb
            replace BK624 := tBb BK624 hb
            replace BK625 := tBb BK625 hb
            replace HB := tBs HB hb
            (try clear hb)
            (try clear hb2)
            (try clear hk)
            (try clear hi)
            (try clear ho0)
            refine hK.out _ _ ⟨(blk_cell BK623.out 0).trans rfl, (blk_cell BK623.out 1).trans rfl, (blk_cell BK623.out 2).trans rfl, (blk_cell BK623.out 3).trans rfl, (blk_cell BK623.out 4).trans rfl, (blk_cell BK623.out 5).trans rfl, (blk_cell BK624.out 0).trans rfl, (blk_cell BK624.out 1).trans rfl, (blk_cell BK624.out 2).trans rfl, (blk_cell BK624.out 3).trans rfl, (blk_cell BK624.out 4).trans rfl, (blk_cell BK624.out 5).trans rfl⟩ (fun hHeld => ?_)
            clear hK K
            refine tnm (some 42) ?_
            exact tnx (hJ2_5_8_9 (v629, v632, .slice Ao65 y634.length co65, v643) _ ⟨hHeld, (tNm HO636.out), (tN HO644.out), (tVm HO_624005.out), (tVm HO_625005.out), (tH BK623.out), (tH BK624.out), (tH BK625.out), zb⟩)
           ·skip
            refine box_step ?hg (N := 6) ?hd (cs := #[.bool false, .bool false, .int .i64 0, .int .i64 0, .int .i64 0, .slice none 0 0]) (t := 25) ?hr ?_; (case hd => rfl); (case hg => rfl); (case hr => first | (go_simp; done) | (go_simp; rfl))
            intro gb645 hg w65 hbox hb
            replace HO_624005 := tVB HO_624005 hg hb
            replace HO_625005 := tVB HO_625005 hg hb
            replace HO636 := tNB HO636 hg hb
            have BK645 := Aside0.mk (hbox)
            have GW645 := tge HB hg
            have GE645 := tge HB hg
            replace HB := tBs HB hb
            have NB623_645 := tlt BK623 hg
            have NB645_623 := tgt BK623 hg
            replace BK623 := tBb BK623 hb
            have NB624_645 := tlt BK624 hg
            have NB645_624 := tgt BK624 hg
            replace BK624 := tBb BK624 hb
            have NB625_645 := tlt BK625 hg
            have NB645_625 := tgt BK625 hg
            replace BK625 := tBb BK625 hb
            clear hb hbox hg
            refine hK.out _ _ ⟨(blk_cell BK623.out 0).trans rfl, (blk_cell BK623.out 1).trans rfl, (blk_cell BK623.out 2).trans rfl, (blk_cell BK623.out 3).trans rfl, (blk_cell BK623.out 4).trans rfl, (blk_cell BK623.out 5).trans rfl, (blk_cell BK624.out 0).trans rfl, (blk_cell BK624.out 1).trans rfl, (blk_cell BK624.out 2).trans rfl, (blk_cell BK624.out 3).trans rfl, (blk_cell BK624.out 4).trans rfl, (blk_cell BK624.out 5).trans rfl⟩ (fun hHeld => ?_)
            clear hK K
            refine tnm (some 6) ?_
            exact tnx (hJ2_5_8_10 (v629, v632, (.slice Ao65 y634.length co65), gb645) _ ⟨hHeld, (tNm HO636.out), (tVm HO_624005.out), (tVm HO_625005.out), (tH BK623.out), (tH BK624.out), (tH BK625.out), (tH BK645.out), GW645.out, GE645.out, NB623_645.out, NB645_623.out, NB624_645.out, NB645_624.out, NB625_645.out, NB645_625.out, zb⟩)
         ·skip
          rintro ⟨v629, v632, v635, gb645⟩ w65 ⟨hS_, h0_, h1_, h2_, h3_, h4_, h5_, h6_, h7_, h8_, h9_, h10_, h11_, h12_, h13_, h14_, h15_⟩
          try dsimp only at hS_ h0_ h1_ h2_ h3_ h4_ h5_ h6_ h7_ h8_ h9_ h10_ h11_ h12_ h13_ h14_ h15_
          clear HO_624005 HO_625005 BK623 BK624 BK625 HB
          have HO636 := Aside0.mk h0_
          have HO_624005 := Aside0.mk h1_
          have HO_625005 := Aside0.mk h2_
          have BK623 := Aside0.mk h3_
          have BK624 := Aside0.mk h4_
          have BK625 := Aside0.mk h5_
          have BK645 := Aside0.mk h6_
          have GW645 := Aside0.mk h7_
          have GE645 := Aside0.mk h8_
          have NB623_645 := Aside0.mk h9_
          have NB645_623 := Aside0.mk h10_
          have NB624_645 := Aside0.mk h11_
          have NB645_624 := Aside0.mk h12_
          have NB625_645 := Aside0.mk h13_
          have NB645_625 := Aside0.mk h14_
          have HB := Aside0.mk h15_
          clear h0_ h1_ h2_ h3_ h4_ h5_ h6_ h7_ h8_ h9_ h10_ h11_ h12_ h13_ h14_ h15_
          have hHeld := hS_
          obtain ⟨Ao66, co66, eo66⟩ := Kd.N_slice HO636.out
          (first | subst eo66 | (injection eo66 with f1_ f2_ f3_; have f4_ := f1_.symm; have f5_ := f3_.symm; clear f1_ f2_ f3_; subst f4_; subst f5_))
          refine tnp ?_
          refine one_ (i := 9) (N := some 42) #[true, true, true, true, true, true, true, true, true, true, true, false] rfl rfl (one_of HT_.out (by kernel_rfl)) (by decide) (fun K hK => ?_)
          refine goes_ Tryd.func29 (by kernel_rfl) rfl #[.bool a0_0, .slice Ao66 y634.length co66] (by rfl) rfl rfl tq ?_
          with_reducible refine (spec_l31Free.calls kj2 a0_0 _ _ y634 t637 t638 t639 t640 t641 t642 _ ?side1 ?side2 A56.out).mono ?_
          (case side1 => repeat (first | exact (Kd.N_reads' HO636.out).2.2 | (with_reducible refine Kd.C_alloc ?_ _) | (with_reducible refine Kd.C_drewN ?_ _) | (with_reducible refine Kd.C_drew ?_)))
          (case side2 => exact (Kd.N_reads' HO636.out).2.1)
          rintro e w67 ⟨v643, rfl, ho0, hb⟩
          refine ⟨_, rfl, ?_⟩
          replace HO_624005 := tVe HO_624005 ho0 hb
          replace HO_625005 := tVe HO_625005 ho0 hb
          have HO644 := Aside0.mk (Kd.N_lower (Kd.N_mono (ok' := fun k_ => ((P0_5_ k_ ∨ P1_5_ k_) ∨ w.heap.size ≤ k_) ∧ some k_ ≠ (.slice Ao66 y634.length co66 : Value).ownBlock ∧ k_ ≠ gb623 ∧ k_ ≠ gb624 ∧ k_ ≠ gb625 ∧ k_ ≠ gb645) (Kd.S_N (Kd.S_bound ho0)) (fun k_ hk_ => ⟨(.inr (Nat.le_trans (below_size zb) hk_.2.1)), (tfr HO636 k_ hk_.2.1), (tfB BK623 k_ hk_.2.1), (tfB BK624 k_ hk_.2.1), (tfB BK625 k_ hk_.2.1), (tfB BK645 k_ hk_.2.1)⟩)) (below_size zb))
          replace HO636 := tNe HO636 ho0 hb
          replace BK623 := tBb BK623 hb
          replace BK624 := tBb BK624 hb
          replace BK625 := tBb BK625 hb
          replace BK645 := tBb BK645 hb
          replace HB := tBs HB hb
          (try clear hb)
          (try clear hb2)
          (try clear hk)
          (try clear hi)
          (try clear ho0)
          refine hK.out _ _ ⟨(blk_cell BK623.out 0).trans rfl, (blk_cell BK623.out 1).trans rfl, (blk_cell BK623.out 2).trans rfl, (blk_cell BK623.out 3).trans rfl, (blk_cell BK623.out 4).trans rfl, (blk_cell BK623.out 5).trans rfl, (blk_cell BK624.out 0).trans rfl, (blk_cell BK624.out 1).trans rfl, (blk_cell BK624.out 2).trans rfl, (blk_cell BK624.out 3).trans rfl, (blk_cell BK624.out 4).trans rfl, (blk_cell BK624.out 5).trans rfl⟩ (fun hHeld => ?_)
          clear hK K
          refine tnm (some 42) ?_
          exact tnx (hJ2_5_8_9_10 (v629, v632, .slice Ao66 y634.length co66, v643, gb645) _ ⟨hHeld, (tNm HO636.out), (tN HO644.out), (tVm HO_624005.out), (tVm HO_625005.out), (tH BK623.out), (tH BK624.out), (tH BK625.out), (tH BK645.out), GW645.out, GE645.out, NB623_645.out, NB645_623.out, NB624_645.out, NB645_624.out, NB625_645.out, NB645_625.out, zb⟩)
        ·skip
         rintro ⟨v629, v632, v635, v643⟩ w66 ⟨hS_, h0_, h1_, h2_, h3_, h4_, h5_, h6_, h7_⟩
         try dsimp only at hS_ h0_ h1_ h2_ h3_ h4_ h5_ h6_ h7_
         clear HO_624005 HO_625005 BK623 BK624 BK625 HB
         have HO636 := Aside0.mk h0_
         have HO644 := Aside0.mk h1_
         have HO_624005 := Aside0.mk h2_
         have HO_625005 := Aside0.mk h3_
         have BK623 := Aside0.mk h4_
         have BK624 := Aside0.mk h5_
         have BK625 := Aside0.mk h6_
         have HB := Aside0.mk h7_
         clear h0_ h1_ h2_ h3_ h4_ h5_ h6_ h7_
         have hHeld := hS_
         refine tnp ?_
         refine one_ (i := 10) (N := some 6) #[true, true, true, true, true, true, true, true, true, true, true, false] rfl rfl (one_of HT_.out (by kernel_rfl)) (by decide) (fun K hK => ?_)
         refine box_step ?hg (N := 6) ?hd (cs := #[.bool false, .bool false, .int .i64 0, .int .i64 0, .int .i64 0, .slice none 0 0]) (t := 25) ?hr ?_; (case hd => rfl); (case hg => rfl); (case hr => first | (go_simp; done) | (go_simp; rfl))
         intro gb645 hg w67 hbox hb
         replace HO_624005 := tVB HO_624005 hg hb
         replace HO_625005 := tVB HO_625005 hg hb
         replace HO636 := tNB HO636 hg hb
         replace HO644 := tNB HO644 hg hb
         have BK645 := Aside0.mk (hbox)
         have GW645 := tge HB hg
         have GE645 := tge HB hg
         replace HB := tBs HB hb
         have NB623_645 := tlt BK623 hg
         have NB645_623 := tgt BK623 hg
         replace BK623 := tBb BK623 hb
         have NB624_645 := tlt BK624 hg
         have NB645_624 := tgt BK624 hg
         replace BK624 := tBb BK624 hb
         have NB625_645 := tlt BK625 hg
         have NB645_625 := tgt BK625 hg
         replace BK625 := tBb BK625 hb
         clear hb hbox hg
         refine hK.out _ _ ⟨(blk_cell BK623.out 0).trans rfl, (blk_cell BK623.out 1).trans rfl, (blk_cell BK623.out 2).trans rfl, (blk_cell BK623.out 3).trans rfl, (blk_cell BK623.out 4).trans rfl, (blk_cell BK623.out 5).trans rfl, (blk_cell BK624.out 0).trans rfl, (blk_cell BK624.out 1).trans rfl, (blk_cell BK624.out 2).trans rfl, (blk_cell BK624.out 3).trans rfl, (blk_cell BK624.out 4).trans rfl, (blk_cell BK624.out 5).trans rfl⟩ (fun hHeld => ?_)
         clear hK K
         refine tnm (some 6) ?_
         exact tnx (hJ2_5_8_9_10 (v629, v632, v635, v643, gb645) _ ⟨hHeld, (tNm HO636.out), (tNm HO644.out), (tVm HO_624005.out), (tVm HO_625005.out), (tH BK623.out), (tH BK624.out), (tH BK625.out), (tH BK645.out), GW645.out, GE645.out, NB623_645.out, NB645_623.out, NB624_645.out, NB645_624.out, NB625_645.out, NB645_625.out, zb⟩)
       rintro ⟨v629, v632, v635, v643, gb645⟩ w67 ⟨hS_, h0_, h1_, h2_, h3_, h4_, h5_, h6_, h7_, h8_, h9_, h10_, h11_, h12_, h13_, h14_, h15_, h16_⟩
       try dsimp only at hS_ h0_ h1_ h2_ h3_ h4_ h5_ h6_ h7_ h8_ h9_ h10_ h11_ h12_ h13_ h14_ h15_ h16_
       clear HO_624005 HO_625005 BK623 BK624 BK625 HB
       have HO636 := Aside0.mk h0_
       have HO644 := Aside0.mk h1_
       have HO_624005 := Aside0.mk h2_
       have HO_625005 := Aside0.mk h3_
       have BK623 := Aside0.mk h4_
       have BK624 := Aside0.mk h5_
       have BK625 := Aside0.mk h6_
       have BK645 := Aside0.mk h7_
       have GW645 := Aside0.mk h8_
       have GE645 := Aside0.mk h9_
       have NB623_645 := Aside0.mk h10_
       have NB645_623 := Aside0.mk h11_
       have NB624_645 := Aside0.mk h12_
       have NB645_624 := Aside0.mk h13_
       have NB625_645 := Aside0.mk h14_
       have NB645_625 := Aside0.mk h15_
       have HB := Aside0.mk h16_
       clear h0_ h1_ h2_ h3_ h4_ h5_ h6_ h7_ h8_ h9_ h10_ h11_ h12_ h13_ h14_ h15_ h16_
       have hHeld := hS_
       obtain ⟨Ao73, co73, eo73⟩ := Kd.N_slice HO644.out
       (first | subst eo73 | (injection eo73 with f1_ f2_ f3_; have f4_ := f1_.symm; have f5_ := f3_.symm; clear f1_ f2_ f3_; subst f4_; subst f5_))
       refine tnp ?_
       refine one_ (i := 11) (N := none) #[true, true, true, true, true, true, true, true, true, true, true, true] rfl rfl (one_of HT_.out (by kernel_rfl)) (by decide) (fun K hK => ?_)
       have hs68 : w67.cell? ⟨gb645, 0, none⟩ = some (.bool false) := (blk_cell BK645.out 0).trans rfl
       have hfs68 := blk_frozen BK645.out 0
       have hns68_0 := NB623_645.out
       have hns68_1 := NB624_645.out
       have hns68_2 := NB625_645.out
       have hms68_0 := NB645_623.out
       have hms68_1 := NB645_624.out
       have hms68_2 := NB645_625.out
       have hs69 : w67.cell? ⟨gb645, 1, none⟩ = some (.bool false) := (blk_cell BK645.out 1).trans rfl
       have hfs69 := blk_frozen BK645.out 1
       have hs70 : w67.cell? ⟨gb645, 2, none⟩ = some (.int .i64 0) := (blk_cell BK645.out 2).trans rfl
       have hfs70 := blk_frozen BK645.out 2
       have hs71 : w67.cell? ⟨gb645, 3, none⟩ = some (.int .i64 0) := (blk_cell BK645.out 3).trans rfl
       have hfs71 := blk_frozen BK645.out 3
       have hs72 : w67.cell? ⟨gb645, 4, none⟩ = some (.int .i64 0) := (blk_cell BK645.out 4).trans rfl
       have hfs72 := blk_frozen BK645.out 4
       have hs74 : w67.cell? ⟨gb645, 5, none⟩ = some (.slice none 0 0) := (blk_cell BK645.out 5).trans rfl
       have hfs74 := blk_frozen BK645.out 5
       refine tsk ?_
       refine hK.out _ _ ⟨(tcg NB623_645.out hHeld.1), (tcg NB623_645.out hHeld.2.1), (tcg NB623_645.out hHeld.2.2.1), (tcg NB623_645.out hHeld.2.2.2.1), (tcg NB623_645.out hHeld.2.2.2.2.1), (tcg NB623_645.out hHeld.2.2.2.2.2.1), (tcg NB624_645.out hHeld.2.2.2.2.2.2.1), (tcg NB624_645.out hHeld.2.2.2.2.2.2.2.1), (tcg NB624_645.out hHeld.2.2.2.2.2.2.2.2.1), (tcg NB624_645.out hHeld.2.2.2.2.2.2.2.2.2.1), (tcg NB624_645.out hHeld.2.2.2.2.2.2.2.2.2.2.1), (tcg NB624_645.out hHeld.2.2.2.2.2.2.2.2.2.2.2)⟩ (fun hHeld => ?_)
       clear hK K
       refine done_ (done_of HT_.out (by kernel_rfl)) ?_
       have hnb75 := NB645_623.out
       have hnc75 := NB623_645.out
       have hnb76 := NB645_624.out
       have hnc76 := NB624_645.out
       have hnb77 := NB645_625.out
       have hnc77 := NB625_645.out
       obtain ⟨hcz78_0, hcz78_1, hcz78_2, hcz78_3, hcz78_4, hcz78_5, hfz78_0, hfz78_1, hfz78_2, hfz78_3, hfz78_4, hfz78_5⟩ := cells6 BK645.out
       try go_wp2_with (first | ((with_reducible refine gate_callee (f := 28) rfl ?_); refine goesL_ (some 44) rfl rfl Tryd.func28 (by kernel_rfl) rfl #[.agg #[.bool t637, .bool t638, .int .i64 t639, .int .i64 t640, .int .i64 t641, .slice Ao73 t642.length co73]] rfl tq ?_; (with_reducible refine (spec_BatchValid.calls kj2 t637 t638 t639 t640 t641 _ _ t642 true _ ?side1 ?side2 A57.out).mono ?_); (case side1 => exact (Kd.N_reads' (tN HO644.out)).2.2); (case side2 => exact (Kd.N_reads' HO644.out).2.1); rintro e w79 ⟨rfl, hb⟩; refine ⟨_, rfl, ?_⟩; replace HO_624005 := tVb HO_624005 hb; replace HO_625005 := tVb HO_625005 hb; replace HO636 := tNb HO636 hb; replace HO644 := tNb HO644 hb; replace BK623 := tBb BK623 hb; replace BK624 := tBb BK624 hb; replace BK625 := tBb BK625 hb; replace BK645 := tBp (o' := .cells #[.bool t637, .bool t638, .int .i64 t639, .int .i64 t640, .int .i64 t641, .slice Ao73 t642.length co73] 25 (0, 0)) BK645 hb; replace HB := tBs HB hb; (try clear hb); (try clear hb2); (try clear hk); (try clear hi); obtain ⟨hcz80_0, hcz80_1, hcz80_2, hcz80_3, hcz80_4, hcz80_5, hfz80_0, hfz80_1, hfz80_2, hfz80_3, hfz80_4, hfz80_5⟩ := cells6 BK645.out; have hnb81 := NB625_623.out; have hnc81 := NB623_625.out; have hnb82 := NB625_624.out; have hnc82 := NB624_625.out; obtain ⟨hcz83_0, hcz83_1, hcz83_2, hcz83_3, hcz83_4, hcz83_5, hfz83_0, hfz83_1, hfz83_2, hfz83_3, hfz83_4, hfz83_5⟩ := cells6 BK625.out))
       refine bodyPost_ret (results_ct rfl _ _ gb625 25 #[.bool t637, .bool t638, .int .i64 t639, .int .i64 t640, .int .i64 t641, .slice Ao73 t642.length co73] (0, 0) _ rfl (tP BK625.out) Tryd.underlying25 rfl (by kernel_rfl)) rfl ?_
       exact ⟨_, by first | rfl | (simp [errW_none, errW_some] <;> rfl) | (simp [*, errW_none, errW_some] <;> rfl), tNm HO644.out, zb⟩
      ·replace c58 := Bool.eq_false_iff.mpr c58
       subst c58
       rw [if_neg (show ¬ (false = true) by decide)] at H
       simp only [Option.some.injEq, Prod.mk.injEq] at H
       obtain ⟨rfl, rfl, rfl, rfl, rfl, rfl, rfl⟩ := H
       try go_wp2
       replace HO_624005 := Aside0.mk (Kd.V_drew HO_624005.out)
       replace HO_625005 := Aside0.mk (Kd.V_drew HO_625005.out)
       replace BK623 := Aside0.mk (blk_drew BK623.out)
       replace BK624 := Aside0.mk (blk_drew BK624.out)
       replace BK625 := Aside0.mk (blk_drew BK625.out)
       replace HB := Aside0.mk (below_drew1 HB.out)
       refine start_ (n := 12) (S := fun w' => w'.cell? ⟨gb623, 0, none⟩ = some (.bool a0_0) ∧ w'.cell? ⟨gb623, 1, none⟩ = some (.bool a0_1) ∧ w'.cell? ⟨gb623, 2, none⟩ = some (.int .i64 a0_2) ∧ w'.cell? ⟨gb623, 3, none⟩ = some (.int .i64 a0_3) ∧ w'.cell? ⟨gb623, 4, none⟩ = some (.int .i64 a0_4) ∧ w'.cell? ⟨gb623, 5, none⟩ = some (.slice A0_5 l0_5.length c0_5) ∧ w'.cell? ⟨gb624, 0, none⟩ = some (.bool a1_0) ∧ w'.cell? ⟨gb624, 1, none⟩ = some (.bool a1_1) ∧ w'.cell? ⟨gb624, 2, none⟩ = some (.int .i64 a1_2) ∧ w'.cell? ⟨gb624, 3, none⟩ = some (.int .i64 a1_3) ∧ w'.cell? ⟨gb624, 4, none⟩ = some (.int .i64 a1_4) ∧ w'.cell? ⟨gb624, 5, none⟩ = some (.slice A1_5 l1_5.length c1_5)) (ds := []) #[false, false, false, false, false, false, false, false, false, false, false, false] (by kernel_rfl) rfl rfl ⟨(blk_cell BK623.out 0).trans rfl, (blk_cell BK623.out 1).trans rfl, (blk_cell BK623.out 2).trans rfl, (blk_cell BK623.out 3).trans rfl, (blk_cell BK623.out 4).trans rfl, (blk_cell BK623.out 5).trans rfl, (blk_cell BK624.out 0).trans rfl, (blk_cell BK624.out 1).trans rfl, (blk_cell BK624.out 2).trans rfl, (blk_cell BK624.out 3).trans rfl, (blk_cell BK624.out 4).trans rfl, (blk_cell BK624.out 5).trans rfl⟩ (fun hHeld => ?_); refine with_tabW spec_BatchJoin.tab3 spec_BatchJoin.bits3 (fun HT_ HW_ => ?_)
       generalize wc.drew = w84 at HO_624005 HO_625005 BK623 BK624 BK625 HB hHeld ⊢
       refine tpu 0 (some 33) #[true, false, false, false, false, false, false, false, false, false, false, false] ?_
       refine tpu 3 (some 36) #[true, false, false, true, false, false, false, false, false, false, false, false] ?_
       refine tpu 6 (some 39) #[true, false, false, true, false, false, true, false, false, false, false, false] ?_
       refine tta 1 (some 34) #[true, true, false, true, false, false, true, false, false, false, false, false] hHeld ?_ (hy := by rintro w' ⟨s0, s1, s2, s3, s4, s5, s6, s7, s8, s9, s10, s11⟩; go_simp; with_reducible rfl)
       refine tta 4 (some 37) #[true, true, false, true, true, false, true, false, false, false, false, false] hHeld ?_ (hy := by rintro w' ⟨s0, s1, s2, s3, s4, s5, s6, s7, s8, s9, s10, s11⟩; go_simp; with_reducible rfl)
       refine tta 7 (some 40) #[true, true, false, true, true, false, true, true, false, false, false, false] hHeld ?_ (hy := by rintro w' ⟨s0, s1, s2, s3, s4, s5, s6, s7, s8, s9, s10, s11⟩; go_simp; with_reducible rfl)
       refine join_ (σ := Value × Value × Value × Value × Nat) 1 #[true, true, true, true, true, true, true, true, true, true, true, false] (fun s_ => [(35, s_.1), (38, s_.2.1), (41, s_.2.2.1), (42, .agg #[.bool t637, .bool t638, .int .i64 t639, .int .i64 t640, .int .i64 t641, s_.2.2.2.1]), (6, .pointer (some ⟨s_.2.2.2.2, 0, none⟩))]) (fun s_ w' => (w'.cell? ⟨gb623, 0, none⟩ = some (.bool a0_0) ∧ w'.cell? ⟨gb623, 1, none⟩ = some (.bool a0_1) ∧ w'.cell? ⟨gb623, 2, none⟩ = some (.int .i64 a0_2) ∧ w'.cell? ⟨gb623, 3, none⟩ = some (.int .i64 a0_3) ∧ w'.cell? ⟨gb623, 4, none⟩ = some (.int .i64 a0_4) ∧ w'.cell? ⟨gb623, 5, none⟩ = some (.slice A0_5 l0_5.length c0_5) ∧ w'.cell? ⟨gb624, 0, none⟩ = some (.bool a1_0) ∧ w'.cell? ⟨gb624, 1, none⟩ = some (.bool a1_1) ∧ w'.cell? ⟨gb624, 2, none⟩ = some (.int .i64 a1_2) ∧ w'.cell? ⟨gb624, 3, none⟩ = some (.int .i64 a1_3) ∧ w'.cell? ⟨gb624, 4, none⟩ = some (.int .i64 a1_4) ∧ w'.cell? ⟨gb624, 5, none⟩ = some (.slice A1_5 l1_5.length c1_5)) ∧ (Kd.N k41 41 w' w.heap.size (fun k_ => ((P0_5_ k_ ∨ P1_5_ k_) ∨ w.heap.size ≤ k_) ∧ some k_ ≠ (s_.2.2.2.1 : Value).ownBlock ∧ k_ ≠ gb623 ∧ k_ ≠ gb624 ∧ k_ ≠ gb625 ∧ k_ ≠ s_.2.2.2.2) s_.2.2.1 y634) ∧ (Kd.N k41 41 w' w.heap.size (fun k_ => ((P0_5_ k_ ∨ P1_5_ k_) ∨ w.heap.size ≤ k_) ∧ some k_ ≠ (s_.2.2.1 : Value).ownBlock ∧ k_ ≠ gb623 ∧ k_ ≠ gb624 ∧ k_ ≠ gb625 ∧ k_ ≠ s_.2.2.2.2) s_.2.2.2.1 t642) ∧ (Kd.V k41 41 w' w.heap.size (fun k_ => ((P0_5_ k_ ∨ P1_5_ k_) ∨ w.heap.size ≤ k_) ∧ some k_ ≠ (s_.2.2.1 : Value).ownBlock ∧ some k_ ≠ (s_.2.2.2.1 : Value).ownBlock ∧ k_ ≠ gb623 ∧ k_ ≠ gb624 ∧ k_ ≠ gb625 ∧ k_ ≠ s_.2.2.2.2) (.slice A0_5 l0_5.length c0_5) l0_5) ∧ (Kd.V k41 41 w' w.heap.size (fun k_ => ((P0_5_ k_ ∨ P1_5_ k_) ∨ w.heap.size ≤ k_) ∧ some k_ ≠ (s_.2.2.1 : Value).ownBlock ∧ some k_ ≠ (s_.2.2.2.1 : Value).ownBlock ∧ k_ ≠ gb623 ∧ k_ ≠ gb624 ∧ k_ ≠ gb625 ∧ k_ ≠ s_.2.2.2.2) (.slice A1_5 l1_5.length c1_5) l1_5) ∧ (w'.heap[gb623]? = some (.cells #[.bool a0_0, .bool a0_1, .int .i64 a0_2, .int .i64 a0_3, .int .i64 a0_4, .slice A0_5 l0_5.length c0_5] 25 (0, 0))) ∧ (w'.heap[gb624]? = some (.cells #[.bool a1_0, .bool a1_1, .int .i64 a1_2, .int .i64 a1_3, .int .i64 a1_4, .slice A1_5 l1_5.length c1_5] 25 (0, 0))) ∧ (w'.heap[gb625]? = some (.cells #[.bool false, .bool false, .int .i64 0, .int .i64 0, .int .i64 0, .slice none 0 0] 25 (0, 0))) ∧ (w'.heap[s_.2.2.2.2]? = some (.cells #[.bool false, .bool false, .int .i64 0, .int .i64 0, .int .i64 0, .slice none 0 0] 25 (0, 0))) ∧ (w.heap.size ≤ s_.2.2.2.2) ∧ (w.heap.size ≤ s_.2.2.2.2) ∧ (gb623 ≠ s_.2.2.2.2) ∧ (s_.2.2.2.2 ≠ gb623) ∧ (gb624 ≠ s_.2.2.2.2) ∧ (s_.2.2.2.2 ≠ gb624) ∧ (gb625 ≠ s_.2.2.2.2) ∧ (s_.2.2.2.2 ≠ gb625) ∧ (Below w.heap.size w w')) ?_ ?_
       rotate_left
       ·intro hJ2_5_8_9_10
        refine join_ (σ := Value × Value × Value × Value) 2 #[true, true, true, true, true, true, true, true, true, true, false, false] (fun s_ => [(35, s_.1), (38, s_.2.1), (41, s_.2.2.1), (42, .agg #[.bool t637, .bool t638, .int .i64 t639, .int .i64 t640, .int .i64 t641, s_.2.2.2])]) (fun s_ w' => (w'.cell? ⟨gb623, 0, none⟩ = some (.bool a0_0) ∧ w'.cell? ⟨gb623, 1, none⟩ = some (.bool a0_1) ∧ w'.cell? ⟨gb623, 2, none⟩ = some (.int .i64 a0_2) ∧ w'.cell? ⟨gb623, 3, none⟩ = some (.int .i64 a0_3) ∧ w'.cell? ⟨gb623, 4, none⟩ = some (.int .i64 a0_4) ∧ w'.cell? ⟨gb623, 5, none⟩ = some (.slice A0_5 l0_5.length c0_5) ∧ w'.cell? ⟨gb624, 0, none⟩ = some (.bool a1_0) ∧ w'.cell? ⟨gb624, 1, none⟩ = some (.bool a1_1) ∧ w'.cell? ⟨gb624, 2, none⟩ = some (.int .i64 a1_2) ∧ w'.cell? ⟨gb624, 3, none⟩ = some (.int .i64 a1_3) ∧ w'.cell? ⟨gb624, 4, none⟩ = some (.int .i64 a1_4) ∧ w'.cell? ⟨gb624, 5, none⟩ = some (.slice A1_5 l1_5.length c1_5)) ∧ (Kd.N k41 41 w' w.heap.size (fun k_ => ((P0_5_ k_ ∨ P1_5_ k_) ∨ w.heap.size ≤ k_) ∧ some k_ ≠ (s_.2.2.2 : Value).ownBlock ∧ k_ ≠ gb623 ∧ k_ ≠ gb624 ∧ k_ ≠ gb625) s_.2.2.1 y634) ∧ (Kd.N k41 41 w' w.heap.size (fun k_ => ((P0_5_ k_ ∨ P1_5_ k_) ∨ w.heap.size ≤ k_) ∧ some k_ ≠ (s_.2.2.1 : Value).ownBlock ∧ k_ ≠ gb623 ∧ k_ ≠ gb624 ∧ k_ ≠ gb625) s_.2.2.2 t642) ∧ (Kd.V k41 41 w' w.heap.size (fun k_ => ((P0_5_ k_ ∨ P1_5_ k_) ∨ w.heap.size ≤ k_) ∧ some k_ ≠ (s_.2.2.1 : Value).ownBlock ∧ some k_ ≠ (s_.2.2.2 : Value).ownBlock ∧ k_ ≠ gb623 ∧ k_ ≠ gb624 ∧ k_ ≠ gb625) (.slice A0_5 l0_5.length c0_5) l0_5) ∧ (Kd.V k41 41 w' w.heap.size (fun k_ => ((P0_5_ k_ ∨ P1_5_ k_) ∨ w.heap.size ≤ k_) ∧ some k_ ≠ (s_.2.2.1 : Value).ownBlock ∧ some k_ ≠ (s_.2.2.2 : Value).ownBlock ∧ k_ ≠ gb623 ∧ k_ ≠ gb624 ∧ k_ ≠ gb625) (.slice A1_5 l1_5.length c1_5) l1_5) ∧ (w'.heap[gb623]? = some (.cells #[.bool a0_0, .bool a0_1, .int .i64 a0_2, .int .i64 a0_3, .int .i64 a0_4, .slice A0_5 l0_5.length c0_5] 25 (0, 0))) ∧ (w'.heap[gb624]? = some (.cells #[.bool a1_0, .bool a1_1, .int .i64 a1_2, .int .i64 a1_3, .int .i64 a1_4, .slice A1_5 l1_5.length c1_5] 25 (0, 0))) ∧ (w'.heap[gb625]? = some (.cells #[.bool false, .bool false, .int .i64 0, .int .i64 0, .int .i64 0, .slice none 0 0] 25 (0, 0))) ∧ (Below w.heap.size w w')) ?_ ?_
        rotate_left
        ·intro hJ2_5_8_9
         refine join_ (σ := Value × Value × Value × Nat) 2 #[true, true, true, true, true, true, true, true, true, false, true, false] (fun s_ => [(35, s_.1), (38, s_.2.1), (41, s_.2.2.1), (6, .pointer (some ⟨s_.2.2.2, 0, none⟩))]) (fun s_ w' => (w'.cell? ⟨gb623, 0, none⟩ = some (.bool a0_0) ∧ w'.cell? ⟨gb623, 1, none⟩ = some (.bool a0_1) ∧ w'.cell? ⟨gb623, 2, none⟩ = some (.int .i64 a0_2) ∧ w'.cell? ⟨gb623, 3, none⟩ = some (.int .i64 a0_3) ∧ w'.cell? ⟨gb623, 4, none⟩ = some (.int .i64 a0_4) ∧ w'.cell? ⟨gb623, 5, none⟩ = some (.slice A0_5 l0_5.length c0_5) ∧ w'.cell? ⟨gb624, 0, none⟩ = some (.bool a1_0) ∧ w'.cell? ⟨gb624, 1, none⟩ = some (.bool a1_1) ∧ w'.cell? ⟨gb624, 2, none⟩ = some (.int .i64 a1_2) ∧ w'.cell? ⟨gb624, 3, none⟩ = some (.int .i64 a1_3) ∧ w'.cell? ⟨gb624, 4, none⟩ = some (.int .i64 a1_4) ∧ w'.cell? ⟨gb624, 5, none⟩ = some (.slice A1_5 l1_5.length c1_5)) ∧ (Kd.N k41 41 w' w.heap.size (fun k_ => ((P0_5_ k_ ∨ P1_5_ k_) ∨ w.heap.size ≤ k_) ∧ k_ ≠ gb623 ∧ k_ ≠ gb624 ∧ k_ ≠ gb625 ∧ k_ ≠ s_.2.2.2) s_.2.2.1 y634) ∧ (Kd.V k41 41 w' w.heap.size (fun k_ => ((P0_5_ k_ ∨ P1_5_ k_) ∨ w.heap.size ≤ k_) ∧ some k_ ≠ (s_.2.2.1 : Value).ownBlock ∧ k_ ≠ gb623 ∧ k_ ≠ gb624 ∧ k_ ≠ gb625 ∧ k_ ≠ s_.2.2.2) (.slice A0_5 l0_5.length c0_5) l0_5) ∧ (Kd.V k41 41 w' w.heap.size (fun k_ => ((P0_5_ k_ ∨ P1_5_ k_) ∨ w.heap.size ≤ k_) ∧ some k_ ≠ (s_.2.2.1 : Value).ownBlock ∧ k_ ≠ gb623 ∧ k_ ≠ gb624 ∧ k_ ≠ gb625 ∧ k_ ≠ s_.2.2.2) (.slice A1_5 l1_5.length c1_5) l1_5) ∧ (w'.heap[gb623]? = some (.cells #[.bool a0_0, .bool a0_1, .int .i64 a0_2, .int .i64 a0_3, .int .i64 a0_4, .slice A0_5 l0_5.length c0_5] 25 (0, 0))) ∧ (w'.heap[gb624]? = some (.cells #[.bool a1_0, .bool a1_1, .int .i64 a1_2, .int .i64 a1_3, .int .i64 a1_4, .slice A1_5 l1_5.length c1_5] 25 (0, 0))) ∧ (w'.heap[gb625]? = some (.cells #[.bool false, .bool false, .int .i64 0, .int .i64 0, .int .i64 0, .slice none 0 0] 25 (0, 0))) ∧ (w'.heap[s_.2.2.2]? = some (.cells #[.bool false, .bool false, .int .i64 0, .int .i64 0, .int .i64 0, .slice none 0 0] 25 (0, 0))) ∧ (w.heap.size ≤ s_.2.2.2) ∧ (w.heap.size ≤ s_.2.2.2) ∧ (gb623 ≠ s_.2.2.2) ∧ (s_.2.2.2 ≠ gb623) ∧ (gb624 ≠ s_.2.2.2) ∧ (s_.2.2.2 ≠ gb624) ∧ (gb625 ≠ s_.2.2.2) ∧ (s_.2.2.2 ≠ gb625) ∧ (Below w.heap.size w w')) ?_ ?_
         rotate_left
         ·intro hJ2_5_8_10
          refine join_ (σ := Value × Value × Value) 3 #[true, true, true, true, true, true, true, true, true, false, false, false] (fun s_ => [(35, s_.1), (38, s_.2.1), (41, s_.2.2)]) (fun s_ w' => (w'.cell? ⟨gb623, 0, none⟩ = some (.bool a0_0) ∧ w'.cell? ⟨gb623, 1, none⟩ = some (.bool a0_1) ∧ w'.cell? ⟨gb623, 2, none⟩ = some (.int .i64 a0_2) ∧ w'.cell? ⟨gb623, 3, none⟩ = some (.int .i64 a0_3) ∧ w'.cell? ⟨gb623, 4, none⟩ = some (.int .i64 a0_4) ∧ w'.cell? ⟨gb623, 5, none⟩ = some (.slice A0_5 l0_5.length c0_5) ∧ w'.cell? ⟨gb624, 0, none⟩ = some (.bool a1_0) ∧ w'.cell? ⟨gb624, 1, none⟩ = some (.bool a1_1) ∧ w'.cell? ⟨gb624, 2, none⟩ = some (.int .i64 a1_2) ∧ w'.cell? ⟨gb624, 3, none⟩ = some (.int .i64 a1_3) ∧ w'.cell? ⟨gb624, 4, none⟩ = some (.int .i64 a1_4) ∧ w'.cell? ⟨gb624, 5, none⟩ = some (.slice A1_5 l1_5.length c1_5)) ∧ (Kd.N k41 41 w' w.heap.size (fun k_ => ((P0_5_ k_ ∨ P1_5_ k_) ∨ w.heap.size ≤ k_) ∧ k_ ≠ gb623 ∧ k_ ≠ gb624 ∧ k_ ≠ gb625) s_.2.2 y634) ∧ (Kd.V k41 41 w' w.heap.size (fun k_ => ((P0_5_ k_ ∨ P1_5_ k_) ∨ w.heap.size ≤ k_) ∧ some k_ ≠ (s_.2.2 : Value).ownBlock ∧ k_ ≠ gb623 ∧ k_ ≠ gb624 ∧ k_ ≠ gb625) (.slice A0_5 l0_5.length c0_5) l0_5) ∧ (Kd.V k41 41 w' w.heap.size (fun k_ => ((P0_5_ k_ ∨ P1_5_ k_) ∨ w.heap.size ≤ k_) ∧ some k_ ≠ (s_.2.2 : Value).ownBlock ∧ k_ ≠ gb623 ∧ k_ ≠ gb624 ∧ k_ ≠ gb625) (.slice A1_5 l1_5.length c1_5) l1_5) ∧ (w'.heap[gb623]? = some (.cells #[.bool a0_0, .bool a0_1, .int .i64 a0_2, .int .i64 a0_3, .int .i64 a0_4, .slice A0_5 l0_5.length c0_5] 25 (0, 0))) ∧ (w'.heap[gb624]? = some (.cells #[.bool a1_0, .bool a1_1, .int .i64 a1_2, .int .i64 a1_3, .int .i64 a1_4, .slice A1_5 l1_5.length c1_5] 25 (0, 0))) ∧ (w'.heap[gb625]? = some (.cells #[.bool false, .bool false, .int .i64 0, .int .i64 0, .int .i64 0, .slice none 0 0] 25 (0, 0))) ∧ (Below w.heap.size w w')) ?_ ?_
          rotate_left
          ·intro hJ2_5_8
           refine join_ (σ := Value × Value × Nat) 3 #[true, true, true, true, true, true, true, true, false, false, true, false] (fun s_ => [(35, s_.1), (38, s_.2.1), (6, .pointer (some ⟨s_.2.2, 0, none⟩))]) (fun s_ w' => (w'.cell? ⟨gb623, 0, none⟩ = some (.bool a0_0) ∧ w'.cell? ⟨gb623, 1, none⟩ = some (.bool a0_1) ∧ w'.cell? ⟨gb623, 2, none⟩ = some (.int .i64 a0_2) ∧ w'.cell? ⟨gb623, 3, none⟩ = some (.int .i64 a0_3) ∧ w'.cell? ⟨gb623, 4, none⟩ = some (.int .i64 a0_4) ∧ w'.cell? ⟨gb623, 5, none⟩ = some (.slice A0_5 l0_5.length c0_5) ∧ w'.cell? ⟨gb624, 0, none⟩ = some (.bool a1_0) ∧ w'.cell? ⟨gb624, 1, none⟩ = some (.bool a1_1) ∧ w'.cell? ⟨gb624, 2, none⟩ = some (.int .i64 a1_2) ∧ w'.cell? ⟨gb624, 3, none⟩ = some (.int .i64 a1_3) ∧ w'.cell? ⟨gb624, 4, none⟩ = some (.int .i64 a1_4) ∧ w'.cell? ⟨gb624, 5, none⟩ = some (.slice A1_5 l1_5.length c1_5)) ∧ (Kd.N k41 41 w' w.heap.size (fun k_ => ((P0_5_ k_ ∨ P1_5_ k_) ∨ w.heap.size ≤ k_) ∧ k_ ≠ gb623 ∧ k_ ≠ gb624 ∧ k_ ≠ gb625 ∧ k_ ≠ s_.2.2) s_.2.1 y631) ∧ (Kd.V k41 41 w' w.heap.size (fun k_ => ((P0_5_ k_ ∨ P1_5_ k_) ∨ w.heap.size ≤ k_) ∧ some k_ ≠ (s_.2.1 : Value).ownBlock ∧ k_ ≠ gb623 ∧ k_ ≠ gb624 ∧ k_ ≠ gb625 ∧ k_ ≠ s_.2.2) (.slice A0_5 l0_5.length c0_5) l0_5) ∧ (Kd.V k41 41 w' w.heap.size (fun k_ => ((P0_5_ k_ ∨ P1_5_ k_) ∨ w.heap.size ≤ k_) ∧ some k_ ≠ (s_.2.1 : Value).ownBlock ∧ k_ ≠ gb623 ∧ k_ ≠ gb624 ∧ k_ ≠ gb625 ∧ k_ ≠ s_.2.2) (.slice A1_5 l1_5.length c1_5) l1_5) ∧ (w'.heap[gb623]? = some (.cells #[.bool a0_0, .bool a0_1, .int .i64 a0_2, .int .i64 a0_3, .int .i64 a0_4, .slice A0_5 l0_5.length c0_5] 25 (0, 0))) ∧ (w'.heap[gb624]? = some (.cells #[.bool a1_0, .bool a1_1, .int .i64 a1_2, .int .i64 a1_3, .int .i64 a1_4, .slice A1_5 l1_5.length c1_5] 25 (0, 0))) ∧ (w'.heap[gb625]? = some (.cells #[.bool false, .bool false, .int .i64 0, .int .i64 0, .int .i64 0, .slice none 0 0] 25 (0, 0))) ∧ (w'.heap[s_.2.2]? = some (.cells #[.bool false, .bool false, .int .i64 0, .int .i64 0, .int .i64 0, .slice none 0 0] 25 (0, 0))) ∧ (w.heap.size ≤ s_.2.2) ∧ (w.heap.size ≤ s_.2.2) ∧ (gb623 ≠ s_.2.2) ∧ (s_.2.2 ≠ gb623) ∧ (gb624 ≠ s_.2.2) ∧ (s_.2.2 ≠ gb624) ∧ (gb625 ≠ s_.2.2) ∧ (s_.2.2 ≠ gb625) ∧ (Below w.heap.size w w')) ?_ ?_
           rotate_left
           ·intro hJ2_5_10
            refine join_ (σ := Value × Value) 4 #[true, true, true, true, true, true, true, true, false, false, false, false] (fun s_ => [(35, s_.1), (38, s_.2)]) (fun s_ w' => (w'.cell? ⟨gb623, 0, none⟩ = some (.bool a0_0) ∧ w'.cell? ⟨gb623, 1, none⟩ = some (.bool a0_1) ∧ w'.cell? ⟨gb623, 2, none⟩ = some (.int .i64 a0_2) ∧ w'.cell? ⟨gb623, 3, none⟩ = some (.int .i64 a0_3) ∧ w'.cell? ⟨gb623, 4, none⟩ = some (.int .i64 a0_4) ∧ w'.cell? ⟨gb623, 5, none⟩ = some (.slice A0_5 l0_5.length c0_5) ∧ w'.cell? ⟨gb624, 0, none⟩ = some (.bool a1_0) ∧ w'.cell? ⟨gb624, 1, none⟩ = some (.bool a1_1) ∧ w'.cell? ⟨gb624, 2, none⟩ = some (.int .i64 a1_2) ∧ w'.cell? ⟨gb624, 3, none⟩ = some (.int .i64 a1_3) ∧ w'.cell? ⟨gb624, 4, none⟩ = some (.int .i64 a1_4) ∧ w'.cell? ⟨gb624, 5, none⟩ = some (.slice A1_5 l1_5.length c1_5)) ∧ (Kd.N k41 41 w' w.heap.size (fun k_ => ((P0_5_ k_ ∨ P1_5_ k_) ∨ w.heap.size ≤ k_) ∧ k_ ≠ gb623 ∧ k_ ≠ gb624 ∧ k_ ≠ gb625) s_.2 y631) ∧ (Kd.V k41 41 w' w.heap.size (fun k_ => ((P0_5_ k_ ∨ P1_5_ k_) ∨ w.heap.size ≤ k_) ∧ some k_ ≠ (s_.2 : Value).ownBlock ∧ k_ ≠ gb623 ∧ k_ ≠ gb624 ∧ k_ ≠ gb625) (.slice A0_5 l0_5.length c0_5) l0_5) ∧ (Kd.V k41 41 w' w.heap.size (fun k_ => ((P0_5_ k_ ∨ P1_5_ k_) ∨ w.heap.size ≤ k_) ∧ some k_ ≠ (s_.2 : Value).ownBlock ∧ k_ ≠ gb623 ∧ k_ ≠ gb624 ∧ k_ ≠ gb625) (.slice A1_5 l1_5.length c1_5) l1_5) ∧ (w'.heap[gb623]? = some (.cells #[.bool a0_0, .bool a0_1, .int .i64 a0_2, .int .i64 a0_3, .int .i64 a0_4, .slice A0_5 l0_5.length c0_5] 25 (0, 0))) ∧ (w'.heap[gb624]? = some (.cells #[.bool a1_0, .bool a1_1, .int .i64 a1_2, .int .i64 a1_3, .int .i64 a1_4, .slice A1_5 l1_5.length c1_5] 25 (0, 0))) ∧ (w'.heap[gb625]? = some (.cells #[.bool false, .bool false, .int .i64 0, .int .i64 0, .int .i64 0, .slice none 0 0] 25 (0, 0))) ∧ (Below w.heap.size w w')) ?_ ?_
            rotate_left
            ·intro hJ2_5
             refine join_ (σ := Value × Nat) 4 #[true, true, true, true, true, false, true, true, false, false, true, false] (fun s_ => [(35, s_.1), (6, .pointer (some ⟨s_.2, 0, none⟩))]) (fun s_ w' => (w'.cell? ⟨gb623, 0, none⟩ = some (.bool a0_0) ∧ w'.cell? ⟨gb623, 1, none⟩ = some (.bool a0_1) ∧ w'.cell? ⟨gb623, 2, none⟩ = some (.int .i64 a0_2) ∧ w'.cell? ⟨gb623, 3, none⟩ = some (.int .i64 a0_3) ∧ w'.cell? ⟨gb623, 4, none⟩ = some (.int .i64 a0_4) ∧ w'.cell? ⟨gb623, 5, none⟩ = some (.slice A0_5 l0_5.length c0_5) ∧ w'.cell? ⟨gb624, 0, none⟩ = some (.bool a1_0) ∧ w'.cell? ⟨gb624, 1, none⟩ = some (.bool a1_1) ∧ w'.cell? ⟨gb624, 2, none⟩ = some (.int .i64 a1_2) ∧ w'.cell? ⟨gb624, 3, none⟩ = some (.int .i64 a1_3) ∧ w'.cell? ⟨gb624, 4, none⟩ = some (.int .i64 a1_4) ∧ w'.cell? ⟨gb624, 5, none⟩ = some (.slice A1_5 l1_5.length c1_5)) ∧ (Kd.N k41 41 w' w.heap.size (fun k_ => ((P0_5_ k_ ∨ P1_5_ k_) ∨ w.heap.size ≤ k_) ∧ k_ ≠ gb623 ∧ k_ ≠ gb624 ∧ k_ ≠ gb625 ∧ k_ ≠ s_.2) s_.1 y628) ∧ (Kd.V k41 41 w' w.heap.size (fun k_ => ((P0_5_ k_ ∨ P1_5_ k_) ∨ w.heap.size ≤ k_) ∧ some k_ ≠ (s_.1 : Value).ownBlock ∧ k_ ≠ gb623 ∧ k_ ≠ gb624 ∧ k_ ≠ gb625 ∧ k_ ≠ s_.2) (.slice A0_5 l0_5.length c0_5) l0_5) ∧ (Kd.V k41 41 w' w.heap.size (fun k_ => ((P0_5_ k_ ∨ P1_5_ k_) ∨ w.heap.size ≤ k_) ∧ some k_ ≠ (s_.1 : Value).ownBlock ∧ k_ ≠ gb623 ∧ k_ ≠ gb624 ∧ k_ ≠ gb625 ∧ k_ ≠ s_.2) (.slice A1_5 l1_5.length c1_5) l1_5) ∧ (w'.heap[gb623]? = some (.cells #[.bool a0_0, .bool a0_1, .int .i64 a0_2, .int .i64 a0_3, .int .i64 a0_4, .slice A0_5 l0_5.length c0_5] 25 (0, 0))) ∧ (w'.heap[gb624]? = some (.cells #[.bool a1_0, .bool a1_1, .int .i64 a1_2, .int .i64 a1_3, .int .i64 a1_4, .slice A1_5 l1_5.length c1_5] 25 (0, 0))) ∧ (w'.heap[gb625]? = some (.cells #[.bool false, .bool false, .int .i64 0, .int .i64 0, .int .i64 0, .slice none 0 0] 25 (0, 0))) ∧ (w'.heap[s_.2]? = some (.cells #[.bool false, .bool false, .int .i64 0, .int .i64 0, .int .i64 0, .slice none 0 0] 25 (0, 0))) ∧ (w.heap.size ≤ s_.2) ∧ (w.heap.size ≤ s_.2) ∧ (gb623 ≠ s_.2) ∧ (s_.2 ≠ gb623) ∧ (gb624 ≠ s_.2) ∧ (s_.2 ≠ gb624) ∧ (gb625 ≠ s_.2) ∧ (s_.2 ≠ gb625) ∧ (Below w.heap.size w w')) ?_ ?_
             rotate_left
             ·intro hJ2_10
              refine join_ (σ := Value) 5 #[true, true, true, true, true, false, true, true, false, false, false, false] (fun s_ => [(35, s_)]) (fun s_ w' => (w'.cell? ⟨gb623, 0, none⟩ = some (.bool a0_0) ∧ w'.cell? ⟨gb623, 1, none⟩ = some (.bool a0_1) ∧ w'.cell? ⟨gb623, 2, none⟩ = some (.int .i64 a0_2) ∧ w'.cell? ⟨gb623, 3, none⟩ = some (.int .i64 a0_3) ∧ w'.cell? ⟨gb623, 4, none⟩ = some (.int .i64 a0_4) ∧ w'.cell? ⟨gb623, 5, none⟩ = some (.slice A0_5 l0_5.length c0_5) ∧ w'.cell? ⟨gb624, 0, none⟩ = some (.bool a1_0) ∧ w'.cell? ⟨gb624, 1, none⟩ = some (.bool a1_1) ∧ w'.cell? ⟨gb624, 2, none⟩ = some (.int .i64 a1_2) ∧ w'.cell? ⟨gb624, 3, none⟩ = some (.int .i64 a1_3) ∧ w'.cell? ⟨gb624, 4, none⟩ = some (.int .i64 a1_4) ∧ w'.cell? ⟨gb624, 5, none⟩ = some (.slice A1_5 l1_5.length c1_5)) ∧ (Kd.N k41 41 w' w.heap.size (fun k_ => ((P0_5_ k_ ∨ P1_5_ k_) ∨ w.heap.size ≤ k_) ∧ k_ ≠ gb623 ∧ k_ ≠ gb624 ∧ k_ ≠ gb625) s_ y628) ∧ (Kd.V k41 41 w' w.heap.size (fun k_ => ((P0_5_ k_ ∨ P1_5_ k_) ∨ w.heap.size ≤ k_) ∧ some k_ ≠ (s_ : Value).ownBlock ∧ k_ ≠ gb623 ∧ k_ ≠ gb624 ∧ k_ ≠ gb625) (.slice A0_5 l0_5.length c0_5) l0_5) ∧ (Kd.V k41 41 w' w.heap.size (fun k_ => ((P0_5_ k_ ∨ P1_5_ k_) ∨ w.heap.size ≤ k_) ∧ some k_ ≠ (s_ : Value).ownBlock ∧ k_ ≠ gb623 ∧ k_ ≠ gb624 ∧ k_ ≠ gb625) (.slice A1_5 l1_5.length c1_5) l1_5) ∧ (w'.heap[gb623]? = some (.cells #[.bool a0_0, .bool a0_1, .int .i64 a0_2, .int .i64 a0_3, .int .i64 a0_4, .slice A0_5 l0_5.length c0_5] 25 (0, 0))) ∧ (w'.heap[gb624]? = some (.cells #[.bool a1_0, .bool a1_1, .int .i64 a1_2, .int .i64 a1_3, .int .i64 a1_4, .slice A1_5 l1_5.length c1_5] 25 (0, 0))) ∧ (w'.heap[gb625]? = some (.cells #[.bool false, .bool false, .int .i64 0, .int .i64 0, .int .i64 0, .slice none 0 0] 25 (0, 0))) ∧ (Below w.heap.size w w')) ?_ ?_
              rotate_left
              ·intro hJ2
               refine join_ (σ := Nat) 5 #[true, true, false, true, true, false, true, true, false, false, true, false] (fun s_ => [(6, .pointer (some ⟨s_, 0, none⟩))]) (fun s_ w' => (w'.cell? ⟨gb623, 0, none⟩ = some (.bool a0_0) ∧ w'.cell? ⟨gb623, 1, none⟩ = some (.bool a0_1) ∧ w'.cell? ⟨gb623, 2, none⟩ = some (.int .i64 a0_2) ∧ w'.cell? ⟨gb623, 3, none⟩ = some (.int .i64 a0_3) ∧ w'.cell? ⟨gb623, 4, none⟩ = some (.int .i64 a0_4) ∧ w'.cell? ⟨gb623, 5, none⟩ = some (.slice A0_5 l0_5.length c0_5) ∧ w'.cell? ⟨gb624, 0, none⟩ = some (.bool a1_0) ∧ w'.cell? ⟨gb624, 1, none⟩ = some (.bool a1_1) ∧ w'.cell? ⟨gb624, 2, none⟩ = some (.int .i64 a1_2) ∧ w'.cell? ⟨gb624, 3, none⟩ = some (.int .i64 a1_3) ∧ w'.cell? ⟨gb624, 4, none⟩ = some (.int .i64 a1_4) ∧ w'.cell? ⟨gb624, 5, none⟩ = some (.slice A1_5 l1_5.length c1_5)) ∧ (Kd.V k41 41 w' w.heap.size (fun k_ => ((P0_5_ k_ ∨ P1_5_ k_) ∨ w.heap.size ≤ k_) ∧ k_ ≠ gb623 ∧ k_ ≠ gb624 ∧ k_ ≠ gb625 ∧ k_ ≠ s_) (.slice A0_5 l0_5.length c0_5) l0_5) ∧ (Kd.V k41 41 w' w.heap.size (fun k_ => ((P0_5_ k_ ∨ P1_5_ k_) ∨ w.heap.size ≤ k_) ∧ k_ ≠ gb623 ∧ k_ ≠ gb624 ∧ k_ ≠ gb625 ∧ k_ ≠ s_) (.slice A1_5 l1_5.length c1_5) l1_5) ∧ (w'.heap[gb623]? = some (.cells #[.bool a0_0, .bool a0_1, .int .i64 a0_2, .int .i64 a0_3, .int .i64 a0_4, .slice A0_5 l0_5.length c0_5] 25 (0, 0))) ∧ (w'.heap[gb624]? = some (.cells #[.bool a1_0, .bool a1_1, .int .i64 a1_2, .int .i64 a1_3, .int .i64 a1_4, .slice A1_5 l1_5.length c1_5] 25 (0, 0))) ∧ (w'.heap[gb625]? = some (.cells #[.bool false, .bool false, .int .i64 0, .int .i64 0, .int .i64 0, .slice none 0 0] 25 (0, 0))) ∧ (w'.heap[s_]? = some (.cells #[.bool false, .bool false, .int .i64 0, .int .i64 0, .int .i64 0, .slice none 0 0] 25 (0, 0))) ∧ (w.heap.size ≤ s_) ∧ (w.heap.size ≤ s_) ∧ (gb623 ≠ s_) ∧ (s_ ≠ gb623) ∧ (gb624 ≠ s_) ∧ (s_ ≠ gb624) ∧ (gb625 ≠ s_) ∧ (s_ ≠ gb625) ∧ (Below w.heap.size w w')) ?_ ?_
               rotate_left
               ·intro hJ10
                refine two_ (i := 2) (j := 10) (Ni := some 35) (Nj := some 6) #[true, true, true, true, true, false, true, true, false, false, false, false] #[true, true, false, true, true, false, true, true, false, false, true, false] rfl rfl rfl rfl (two_of HT_.out (by kernel_rfl)) (by decide) (by decide) (fun K hK => ?_) (fun K hK => ?_)
                ·skip
                 refine Kd.N_lit_step k41 _ 41 ?hg (N' := 35) ?hd (xs := ([] : List (S41))) (inner := []) (ok := (fun k_ => ((P0_5_ k_ ∨ P1_5_ k_) ∨ w.heap.size ≤ k_) ∧ k_ ≠ gb623 ∧ k_ ≠ gb624 ∧ k_ ≠ gb625)) (okp := (fun k_ => ((P0_5_ k_ ∨ P1_5_ k_) ∨ w.heap.size ≤ k_) ∧ k_ ≠ gb623 ∧ k_ ≠ gb624 ∧ k_ ≠ gb625)) ?hr ?hp (fun _ hk => hk) ((show ∀ k_, w84.heap.size ≤ k_ → (fun k_ => ((P0_5_ k_ ∨ P1_5_ k_) ∨ w.heap.size ≤ k_) ∧ k_ ≠ gb623 ∧ k_ ≠ gb624 ∧ k_ ≠ gb625) k_ from fun k_ hk => ⟨(.inr (Nat.le_trans (below_size zb) hk)), tfB BK623 k_ hk, tfB BK624 k_ hk, tfB BK625 k_ hk⟩) _ (Nat.le_refl _)) (Below.refl _ _) (Nat.le_refl _) (by simp) ?_; (case hd => rfl); (case hg => rfl); (case hr => first | (go_simp; done) | (go_simp; rfl)); (case hp => exact (Reps.none _ _))
                 intro v629 w85 ho86 hb hg_ hnew_
                 clear hg_ hnew_
                 (first | rw [← Ny628.out] at ho86 | (simp only [Int.reduceToNat] at ho86; rw [← Ny628.out] at ho86))
                 replace HO_624005 := tVe HO_624005 ho86 hb
                 replace HO_625005 := tVe HO_625005 ho86 hb
                 have HO630 := tNl ho86 HB
                 replace BK623 := tBb BK623 hb
                 replace BK624 := tBb BK624 hb
                 replace BK625 := tBb BK625 hb
                 replace HB := tBs HB hb
                 clear hb ho86
                 refine hK.out _ _ ⟨(blk_cell BK623.out 0).trans rfl, (blk_cell BK623.out 1).trans rfl, (blk_cell BK623.out 2).trans rfl, (blk_cell BK623.out 3).trans rfl, (blk_cell BK623.out 4).trans rfl, (blk_cell BK623.out 5).trans rfl, (blk_cell BK624.out 0).trans rfl, (blk_cell BK624.out 1).trans rfl, (blk_cell BK624.out 2).trans rfl, (blk_cell BK624.out 3).trans rfl, (blk_cell BK624.out 4).trans rfl, (blk_cell BK624.out 5).trans rfl⟩ (fun hHeld => ?_)
                 clear hK K
                 refine tnm (some 35) ?_
                 exact tnx (hJ2 (v629) _ ⟨hHeld, (tN HO630.out), (tVm HO_624005.out), (tVm HO_625005.out), (tH BK623.out), (tH BK624.out), (tH BK625.out), zb⟩)
                ·skip
                 refine box_step ?hg (N := 6) ?hd (cs := #[.bool false, .bool false, .int .i64 0, .int .i64 0, .int .i64 0, .slice none 0 0]) (t := 25) ?hr ?_; (case hd => rfl); (case hg => rfl); (case hr => first | (go_simp; done) | (go_simp; rfl))
                 intro gb645 hg w85 hbox hb
                 replace HO_624005 := tVB HO_624005 hg hb
                 replace HO_625005 := tVB HO_625005 hg hb
                 have BK645 := Aside0.mk (hbox)
                 have GW645 := tge HB hg
                 have GE645 := tge HB hg
                 replace HB := tBs HB hb
                 have NB623_645 := tlt BK623 hg
                 have NB645_623 := tgt BK623 hg
                 replace BK623 := tBb BK623 hb
                 have NB624_645 := tlt BK624 hg
                 have NB645_624 := tgt BK624 hg
                 replace BK624 := tBb BK624 hb
                 have NB625_645 := tlt BK625 hg
                 have NB645_625 := tgt BK625 hg
                 replace BK625 := tBb BK625 hb
                 clear hb hbox hg
                 refine hK.out _ _ ⟨(blk_cell BK623.out 0).trans rfl, (blk_cell BK623.out 1).trans rfl, (blk_cell BK623.out 2).trans rfl, (blk_cell BK623.out 3).trans rfl, (blk_cell BK623.out 4).trans rfl, (blk_cell BK623.out 5).trans rfl, (blk_cell BK624.out 0).trans rfl, (blk_cell BK624.out 1).trans rfl, (blk_cell BK624.out 2).trans rfl, (blk_cell BK624.out 3).trans rfl, (blk_cell BK624.out 4).trans rfl, (blk_cell BK624.out 5).trans rfl⟩ (fun hHeld => ?_)
                 clear hK K
                 refine tnm (some 6) ?_
                 exact tnx (hJ10 (gb645) _ ⟨hHeld, (tVm HO_624005.out), (tVm HO_625005.out), (tH BK623.out), (tH BK624.out), (tH BK625.out), (tH BK645.out), GW645.out, GE645.out, NB623_645.out, NB645_623.out, NB624_645.out, NB645_624.out, NB625_645.out, NB645_625.out, zb⟩)
               ·skip
                rintro gb645 w86 ⟨hS_, h0_, h1_, h2_, h3_, h4_, h5_, h6_, h7_, h8_, h9_, h10_, h11_, h12_, h13_, h14_⟩
                try dsimp only at hS_ h0_ h1_ h2_ h3_ h4_ h5_ h6_ h7_ h8_ h9_ h10_ h11_ h12_ h13_ h14_
                clear HO_624005 HO_625005 BK623 BK624 BK625 HB
                have HO_624005 := Aside0.mk h0_
                have HO_625005 := Aside0.mk h1_
                have BK623 := Aside0.mk h2_
                have BK624 := Aside0.mk h3_
                have BK625 := Aside0.mk h4_
                have BK645 := Aside0.mk h5_
                have GW645 := Aside0.mk h6_
                have GE645 := Aside0.mk h7_
                have NB623_645 := Aside0.mk h8_
                have NB645_623 := Aside0.mk h9_
                have NB624_645 := Aside0.mk h10_
                have NB645_624 := Aside0.mk h11_
                have NB625_645 := Aside0.mk h12_
                have NB645_625 := Aside0.mk h13_
                have HB := Aside0.mk h14_
                clear h0_ h1_ h2_ h3_ h4_ h5_ h6_ h7_ h8_ h9_ h10_ h11_ h12_ h13_ h14_
                have hHeld := hS_
                refine tnp ?_
                refine one_ (i := 2) (N := some 35) #[true, true, true, true, true, false, true, true, false, false, true, false] rfl rfl (one_of HT_.out (by kernel_rfl)) (by decide) (fun K hK => ?_)
                refine Kd.N_lit_step k41 _ 41 ?hg (N' := 35) ?hd (xs := ([] : List (S41))) (inner := []) (ok := (fun k_ => ((P0_5_ k_ ∨ P1_5_ k_) ∨ w.heap.size ≤ k_) ∧ k_ ≠ gb623 ∧ k_ ≠ gb624 ∧ k_ ≠ gb625 ∧ k_ ≠ gb645)) (okp := (fun k_ => ((P0_5_ k_ ∨ P1_5_ k_) ∨ w.heap.size ≤ k_) ∧ k_ ≠ gb623 ∧ k_ ≠ gb624 ∧ k_ ≠ gb625 ∧ k_ ≠ gb645)) ?hr ?hp (fun _ hk => hk) ((show ∀ k_, w86.heap.size ≤ k_ → (fun k_ => ((P0_5_ k_ ∨ P1_5_ k_) ∨ w.heap.size ≤ k_) ∧ k_ ≠ gb623 ∧ k_ ≠ gb624 ∧ k_ ≠ gb625 ∧ k_ ≠ gb645) k_ from fun k_ hk => ⟨(.inr (Nat.le_trans (below_size zb) hk)), tfB BK623 k_ hk, tfB BK624 k_ hk, tfB BK625 k_ hk, tfB BK645 k_ hk⟩) _ (Nat.le_refl _)) (Below.refl _ _) (Nat.le_refl _) (by simp) ?_; (case hd => rfl); (case hg => rfl); (case hr => first | (go_simp; done) | (go_simp; rfl)); (case hp => exact (Reps.none _ _))
                intro v629 w87 ho88 hb hg_ hnew_
                clear hg_ hnew_
                (first | rw [← Ny628.out] at ho88 | (simp only [Int.reduceToNat] at ho88; rw [← Ny628.out] at ho88))
                replace HO_624005 := tVe HO_624005 ho88 hb
                replace HO_625005 := tVe HO_625005 ho88 hb
                have HO630 := tNl ho88 HB
                replace BK623 := tBb BK623 hb
                replace BK624 := tBb BK624 hb
                replace BK625 := tBb BK625 hb
                replace BK645 := tBb BK645 hb
                replace HB := tBs HB hb
                clear hb ho88
                refine hK.out _ _ ⟨(blk_cell BK623.out 0).trans rfl, (blk_cell BK623.out 1).trans rfl, (blk_cell BK623.out 2).trans rfl, (blk_cell BK623.out 3).trans rfl, (blk_cell BK623.out 4).trans rfl, (blk_cell BK623.out 5).trans rfl, (blk_cell BK624.out 0).trans rfl, (blk_cell BK624.out 1).trans rfl, (blk_cell BK624.out 2).trans rfl, (blk_cell BK624.out 3).trans rfl, (blk_cell BK624.out 4).trans rfl, (blk_cell BK624.out 5).trans rfl⟩ (fun hHeld => ?_)
                clear hK K
                refine tnm (some 35) ?_
                exact tnx (hJ2_10 (v629, gb645) _ ⟨hHeld, (tN HO630.out), (tVm HO_624005.out), (tVm HO_625005.out), (tH BK623.out), (tH BK624.out), (tH BK625.out), (tH BK645.out), GW645.out, GE645.out, NB623_645.out, NB645_623.out, NB624_645.out, NB645_624.out, NB625_645.out, NB645_625.out, zb⟩)
              ·skip
               rintro v629 w87 ⟨hS_, h0_, h1_, h2_, h3_, h4_, h5_, h6_⟩
               try dsimp only at hS_ h0_ h1_ h2_ h3_ h4_ h5_ h6_
               clear HO_624005 HO_625005 BK623 BK624 BK625 HB
               have HO630 := Aside0.mk h0_
               have HO_624005 := Aside0.mk h1_
               have HO_625005 := Aside0.mk h2_
               have BK623 := Aside0.mk h3_
               have BK624 := Aside0.mk h4_
               have BK625 := Aside0.mk h5_
               have HB := Aside0.mk h6_
               clear h0_ h1_ h2_ h3_ h4_ h5_ h6_
               have hHeld := hS_
               refine tnp ?_
               refine two_ (i := 5) (j := 10) (Ni := some 38) (Nj := some 6) #[true, true, true, true, true, true, true, true, false, false, false, false] #[true, true, true, true, true, false, true, true, false, false, true, false] rfl rfl rfl rfl (two_of HT_.out (by kernel_rfl)) (by decide) (by decide) (fun K hK => ?_) (fun K hK => ?_)
               ·skip
                refine Kd.N_append_rows_step k41 (w0 := w) w.heap.size (by rfl) (.tmp 35) (.tmp 37) 23 41 (.agg #[(.int .i64 0), (.int .i64 0), (.bool false), (.slice none 0 0), (.bool false), (.slice none 0 0)]) 80 rfl Tryd.underlying23 info41 rfl (by decide) (by omega) v629 y628 l0_5 _ _ _ (fun k_ => ((P0_5_ k_ ∨ P1_5_ k_) ∨ w.heap.size ≤ k_) ∧ k_ ≠ gb623 ∧ k_ ≠ gb624 ∧ k_ ≠ gb625) (fun k_ => ((fun k_ => ((P0_5_ k_ ∨ P1_5_ k_) ∨ w.heap.size ≤ k_) ∧ k_ ≠ gb623 ∧ k_ ≠ gb624 ∧ k_ ≠ gb625)) k_ ∧ some k_ ≠ (v629 : Value).ownBlock) rfl rfl ?aO ?aR (fun _ hk => hk) ?aF ?aB ?aS ?aL ?_
                (case aR => exact (by skip; exact Kd.V_F (Kd.V_mono (ok' := (fun k_ => ((fun k_ => ((P0_5_ k_ ∨ P1_5_ k_) ∨ w.heap.size ≤ k_) ∧ k_ ≠ gb623 ∧ k_ ≠ gb624 ∧ k_ ≠ gb625)) k_ ∧ some k_ ≠ (v629 : Value).ownBlock)) (HO_624005.out) (fun k_ hk => ⟨⟨hk.1, ⟨hk.2.2.1, ⟨hk.2.2.2.1, hk.2.2.2.2⟩⟩⟩, hk.2.1⟩))))
                (case aB => exact zb)
                (case aF => exact (fun k_ hk => ⟨(.inr (Nat.le_trans (below_size zb) hk)), tfB BK623 k_ hk, tfB BK624 k_ hk, tfB BK625 k_ hk⟩))
                (case aO => exact (tN HO630.out))
                (case aS => exact (below_size zb))
                (case aL => have := LMc54.out; omega)
                intro v632 w88 ho hb hg hat
                rw [← Ny631.out] at ho
                replace HO_624005 := Aside0.mk (Kd.V_afterv (ok := (fun k_ => ((P0_5_ k_ ∨ P1_5_ k_) ∨ w.heap.size ≤ k_) ∧ k_ ≠ gb623 ∧ k_ ≠ gb624 ∧ k_ ≠ gb625)) (tVm HO_624005.out) hg hat)
                replace HO_625005 := Aside0.mk (Kd.V_afterv (ok := (fun k_ => ((P0_5_ k_ ∨ P1_5_ k_) ∨ w.heap.size ≤ k_) ∧ k_ ≠ gb623 ∧ k_ ≠ gb624 ∧ k_ ≠ gb625)) (tVm HO_625005.out) hg hat)
                replace BK623 := Aside0.mk (blk_grown (tH BK623.out) hg (Kd.N_ne HO630.out BK623.out (by decide)))
                replace BK624 := Aside0.mk (blk_grown (tH BK624.out) hg (Kd.N_ne HO630.out BK624.out (by decide)))
                replace BK625 := Aside0.mk (blk_grown (tH BK625.out) hg (Kd.N_ne HO630.out BK625.out (by decide)))
                replace HB := Aside0.mk (hb)
                have HO633 := Aside0.mk (ho)
                clear HO630
                clear ho hb hg hat
                refine hK.out _ _ ⟨(blk_cell BK623.out 0).trans rfl, (blk_cell BK623.out 1).trans rfl, (blk_cell BK623.out 2).trans rfl, (blk_cell BK623.out 3).trans rfl, (blk_cell BK623.out 4).trans rfl, (blk_cell BK623.out 5).trans rfl, (blk_cell BK624.out 0).trans rfl, (blk_cell BK624.out 1).trans rfl, (blk_cell BK624.out 2).trans rfl, (blk_cell BK624.out 3).trans rfl, (blk_cell BK624.out 4).trans rfl, (blk_cell BK624.out 5).trans rfl⟩ (fun hHeld => ?_)
                clear hK K
                refine tnm (some 38) ?_
                exact tnx (hJ2_5 (v629, v632) _ ⟨hHeld, (tN HO633.out), (tVm HO_624005.out), (tVm HO_625005.out), (tH BK623.out), (tH BK624.out), (tH BK625.out), zb⟩)
               ·skip
                refine box_step ?hg (N := 6) ?hd (cs := #[.bool false, .bool false, .int .i64 0, .int .i64 0, .int .i64 0, .slice none 0 0]) (t := 25) ?hr ?_; (case hd => rfl); (case hg => rfl); (case hr => first | (go_simp; done) | (go_simp; rfl))
                intro gb645 hg w88 hbox hb
                replace HO_624005 := tVB HO_624005 hg hb
                replace HO_625005 := tVB HO_625005 hg hb
                replace HO630 := tNB HO630 hg hb
                have BK645 := Aside0.mk (hbox)
                have GW645 := tge HB hg
                have GE645 := tge HB hg
                replace HB := tBs HB hb
                have NB623_645 := tlt BK623 hg
                have NB645_623 := tgt BK623 hg
                replace BK623 := tBb BK623 hb
                have NB624_645 := tlt BK624 hg
                have NB645_624 := tgt BK624 hg
                replace BK624 := tBb BK624 hb
                have NB625_645 := tlt BK625 hg
                have NB645_625 := tgt BK625 hg
                replace BK625 := tBb BK625 hb
                clear hb hbox hg
                refine hK.out _ _ ⟨(blk_cell BK623.out 0).trans rfl, (blk_cell BK623.out 1).trans rfl, (blk_cell BK623.out 2).trans rfl, (blk_cell BK623.out 3).trans rfl, (blk_cell BK623.out 4).trans rfl, (blk_cell BK623.out 5).trans rfl, (blk_cell BK624.out 0).trans rfl, (blk_cell BK624.out 1).trans rfl, (blk_cell BK624.out 2).trans rfl, (blk_cell BK624.out 3).trans rfl, (blk_cell BK624.out 4).trans rfl, (blk_cell BK624.out 5).trans rfl⟩ (fun hHeld => ?_)
                clear hK K
                refine tnm (some 6) ?_
                exact tnx (hJ2_10 (v629, gb645) _ ⟨hHeld, (tNm HO630.out), (tVm HO_624005.out), (tVm HO_625005.out), (tH BK623.out), (tH BK624.out), (tH BK625.out), (tH BK645.out), GW645.out, GE645.out, NB623_645.out, NB645_623.out, NB624_645.out, NB645_624.out, NB625_645.out, NB645_625.out, zb⟩)
             ·skip
              rintro ⟨v629, gb645⟩ w88 ⟨hS_, h0_, h1_, h2_, h3_, h4_, h5_, h6_, h7_, h8_, h9_, h10_, h11_, h12_, h13_, h14_, h15_⟩
              try dsimp only at hS_ h0_ h1_ h2_ h3_ h4_ h5_ h6_ h7_ h8_ h9_ h10_ h11_ h12_ h13_ h14_ h15_
              clear HO_624005 HO_625005 BK623 BK624 BK625 HB
              have HO630 := Aside0.mk h0_
              have HO_624005 := Aside0.mk h1_
              have HO_625005 := Aside0.mk h2_
              have BK623 := Aside0.mk h3_
              have BK624 := Aside0.mk h4_
              have BK625 := Aside0.mk h5_
              have BK645 := Aside0.mk h6_
              have GW645 := Aside0.mk h7_
              have GE645 := Aside0.mk h8_
              have NB623_645 := Aside0.mk h9_
              have NB645_623 := Aside0.mk h10_
              have NB624_645 := Aside0.mk h11_
              have NB645_624 := Aside0.mk h12_
              have NB625_645 := Aside0.mk h13_
              have NB645_625 := Aside0.mk h14_
              have HB := Aside0.mk h15_
              clear h0_ h1_ h2_ h3_ h4_ h5_ h6_ h7_ h8_ h9_ h10_ h11_ h12_ h13_ h14_ h15_
              have hHeld := hS_
              refine tnp ?_
              refine one_ (i := 5) (N := some 38) #[true, true, true, true, true, true, true, true, false, false, true, false] rfl rfl (one_of HT_.out (by kernel_rfl)) (by decide) (fun K hK => ?_)
              refine Kd.N_append_rows_step k41 (w0 := w) w.heap.size (by rfl) (.tmp 35) (.tmp 37) 23 41 (.agg #[(.int .i64 0), (.int .i64 0), (.bool false), (.slice none 0 0), (.bool false), (.slice none 0 0)]) 80 rfl Tryd.underlying23 info41 rfl (by decide) (by omega) v629 y628 l0_5 _ _ _ (fun k_ => ((P0_5_ k_ ∨ P1_5_ k_) ∨ w.heap.size ≤ k_) ∧ k_ ≠ gb623 ∧ k_ ≠ gb624 ∧ k_ ≠ gb625 ∧ k_ ≠ gb645) (fun k_ => ((fun k_ => ((P0_5_ k_ ∨ P1_5_ k_) ∨ w.heap.size ≤ k_) ∧ k_ ≠ gb623 ∧ k_ ≠ gb624 ∧ k_ ≠ gb625 ∧ k_ ≠ gb645)) k_ ∧ some k_ ≠ (v629 : Value).ownBlock) rfl rfl ?aO ?aR (fun _ hk => hk) ?aF ?aB ?aS ?aL ?_
              (case aR => exact (by skip; exact Kd.V_F (Kd.V_mono (ok' := (fun k_ => ((fun k_ => ((P0_5_ k_ ∨ P1_5_ k_) ∨ w.heap.size ≤ k_) ∧ k_ ≠ gb623 ∧ k_ ≠ gb624 ∧ k_ ≠ gb625 ∧ k_ ≠ gb645)) k_ ∧ some k_ ≠ (v629 : Value).ownBlock)) (HO_624005.out) (fun k_ hk => ⟨⟨hk.1, ⟨hk.2.2.1, ⟨hk.2.2.2.1, ⟨hk.2.2.2.2.1, hk.2.2.2.2.2⟩⟩⟩⟩, hk.2.1⟩))))
              (case aB => exact zb)
              (case aF => exact (fun k_ hk => ⟨(.inr (Nat.le_trans (below_size zb) hk)), tfB BK623 k_ hk, tfB BK624 k_ hk, tfB BK625 k_ hk, tfB BK645 k_ hk⟩))
              (case aO => exact (tN HO630.out))
              (case aS => exact (below_size zb))
              (case aL => have := LMc54.out; omega)
              intro v632 w89 ho hb hg hat
              rw [← Ny631.out] at ho
              replace HO_624005 := Aside0.mk (Kd.V_afterv (ok := (fun k_ => ((P0_5_ k_ ∨ P1_5_ k_) ∨ w.heap.size ≤ k_) ∧ k_ ≠ gb623 ∧ k_ ≠ gb624 ∧ k_ ≠ gb625 ∧ k_ ≠ gb645)) (tVm HO_624005.out) hg hat)
              replace HO_625005 := Aside0.mk (Kd.V_afterv (ok := (fun k_ => ((P0_5_ k_ ∨ P1_5_ k_) ∨ w.heap.size ≤ k_) ∧ k_ ≠ gb623 ∧ k_ ≠ gb624 ∧ k_ ≠ gb625 ∧ k_ ≠ gb645)) (tVm HO_625005.out) hg hat)
              replace BK623 := Aside0.mk (blk_grown (tH BK623.out) hg (Kd.N_ne HO630.out BK623.out (by decide)))
              replace BK624 := Aside0.mk (blk_grown (tH BK624.out) hg (Kd.N_ne HO630.out BK624.out (by decide)))
              replace BK625 := Aside0.mk (blk_grown (tH BK625.out) hg (Kd.N_ne HO630.out BK625.out (by decide)))
              replace BK645 := Aside0.mk (blk_grown (tH BK645.out) hg (Kd.N_ne HO630.out BK645.out (by decide)))
              replace HB := Aside0.mk (hb)
              have HO633 := Aside0.mk (ho)
              clear HO630
              clear ho hb hg hat
              refine hK.out _ _ ⟨(blk_cell BK623.out 0).trans rfl, (blk_cell BK623.out 1).trans rfl, (blk_cell BK623.out 2).trans rfl, (blk_cell BK623.out 3).trans rfl, (blk_cell BK623.out 4).trans rfl, (blk_cell BK623.out 5).trans rfl, (blk_cell BK624.out 0).trans rfl, (blk_cell BK624.out 1).trans rfl, (blk_cell BK624.out 2).trans rfl, (blk_cell BK624.out 3).trans rfl, (blk_cell BK624.out 4).trans rfl, (blk_cell BK624.out 5).trans rfl⟩ (fun hHeld => ?_)
              clear hK K
              refine tnm (some 38) ?_
              exact tnx (hJ2_5_10 (v629, v632, gb645) _ ⟨hHeld, (tN HO633.out), (tVm HO_624005.out), (tVm HO_625005.out), (tH BK623.out), (tH BK624.out), (tH BK625.out), (tH BK645.out), GW645.out, GE645.out, NB623_645.out, NB645_623.out, NB624_645.out, NB645_624.out, NB625_645.out, NB645_625.out, zb⟩)
            ·skip
             rintro ⟨v629, v632⟩ w88 ⟨hS_, h0_, h1_, h2_, h3_, h4_, h5_, h6_⟩
             try dsimp only at hS_ h0_ h1_ h2_ h3_ h4_ h5_ h6_
             clear HO_624005 HO_625005 BK623 BK624 BK625 HB
             have HO633 := Aside0.mk h0_
             have HO_624005 := Aside0.mk h1_
             have HO_625005 := Aside0.mk h2_
             have BK623 := Aside0.mk h3_
             have BK624 := Aside0.mk h4_
             have BK625 := Aside0.mk h5_
             have HB := Aside0.mk h6_
             clear h0_ h1_ h2_ h3_ h4_ h5_ h6_
             have hHeld := hS_
             refine tnp ?_
             refine two_ (i := 8) (j := 10) (Ni := some 41) (Nj := some 6) #[true, true, true, true, true, true, true, true, true, false, false, false] #[true, true, true, true, true, true, true, true, false, false, true, false] rfl rfl rfl rfl (two_of HT_.out (by kernel_rfl)) (by decide) (by decide) (fun K hK => ?_) (fun K hK => ?_)
             ·skip
              refine Kd.N_append_rows_step k41 (w0 := w) w.heap.size (by rfl) (.tmp 38) (.tmp 40) 23 41 (.agg #[(.int .i64 0), (.int .i64 0), (.bool false), (.slice none 0 0), (.bool false), (.slice none 0 0)]) 80 rfl Tryd.underlying23 info41 rfl (by decide) (by omega) v632 y631 l1_5 _ _ _ (fun k_ => ((P0_5_ k_ ∨ P1_5_ k_) ∨ w.heap.size ≤ k_) ∧ k_ ≠ gb623 ∧ k_ ≠ gb624 ∧ k_ ≠ gb625) (fun k_ => ((fun k_ => ((P0_5_ k_ ∨ P1_5_ k_) ∨ w.heap.size ≤ k_) ∧ k_ ≠ gb623 ∧ k_ ≠ gb624 ∧ k_ ≠ gb625)) k_ ∧ some k_ ≠ (v632 : Value).ownBlock) rfl rfl ?aO ?aR (fun _ hk => hk) ?aF ?aB ?aS ?aL ?_
              (case aR => exact (by skip; exact Kd.V_F (Kd.V_mono (ok' := (fun k_ => ((fun k_ => ((P0_5_ k_ ∨ P1_5_ k_) ∨ w.heap.size ≤ k_) ∧ k_ ≠ gb623 ∧ k_ ≠ gb624 ∧ k_ ≠ gb625)) k_ ∧ some k_ ≠ (v632 : Value).ownBlock)) (HO_625005.out) (fun k_ hk => ⟨⟨hk.1, ⟨hk.2.2.1, ⟨hk.2.2.2.1, hk.2.2.2.2⟩⟩⟩, hk.2.1⟩))))
              (case aB => exact zb)
              (case aF => exact (fun k_ hk => ⟨(.inr (Nat.le_trans (below_size zb) hk)), tfB BK623 k_ hk, tfB BK624 k_ hk, tfB BK625 k_ hk⟩))
              (case aO => exact (tN HO633.out))
              (case aS => exact (below_size zb))
              (case aL => have := LMc55.out; omega)
              intro v635 w89 ho hb hg hat
              rw [← Ny634.out] at ho
              replace HO_624005 := Aside0.mk (Kd.V_afterv (ok := (fun k_ => ((P0_5_ k_ ∨ P1_5_ k_) ∨ w.heap.size ≤ k_) ∧ k_ ≠ gb623 ∧ k_ ≠ gb624 ∧ k_ ≠ gb625)) (tVm HO_624005.out) hg hat)
              replace HO_625005 := Aside0.mk (Kd.V_afterv (ok := (fun k_ => ((P0_5_ k_ ∨ P1_5_ k_) ∨ w.heap.size ≤ k_) ∧ k_ ≠ gb623 ∧ k_ ≠ gb624 ∧ k_ ≠ gb625)) (tVm HO_625005.out) hg hat)
              replace BK623 := Aside0.mk (blk_grown (tH BK623.out) hg (Kd.N_ne HO633.out BK623.out (by decide)))
              replace BK624 := Aside0.mk (blk_grown (tH BK624.out) hg (Kd.N_ne HO633.out BK624.out (by decide)))
              replace BK625 := Aside0.mk (blk_grown (tH BK625.out) hg (Kd.N_ne HO633.out BK625.out (by decide)))
              replace HB := Aside0.mk (hb)
              have HO636 := Aside0.mk (ho)
              clear HO633
              clear ho hb hg hat
              refine hK.out _ _ ⟨(blk_cell BK623.out 0).trans rfl, (blk_cell BK623.out 1).trans rfl, (blk_cell BK623.out 2).trans rfl, (blk_cell BK623.out 3).trans rfl, (blk_cell BK623.out 4).trans rfl, (blk_cell BK623.out 5).trans rfl, (blk_cell BK624.out 0).trans rfl, (blk_cell BK624.out 1).trans rfl, (blk_cell BK624.out 2).trans rfl, (blk_cell BK624.out 3).trans rfl, (blk_cell BK624.out 4).trans rfl, (blk_cell BK624.out 5).trans rfl⟩ (fun hHeld => ?_)
              clear hK K
              refine tnm (some 41) ?_
              exact tnx (hJ2_5_8 (v629, v632, v635) _ ⟨hHeld, (tN HO636.out), (tVm HO_624005.out), (tVm HO_625005.out), (tH BK623.out), (tH BK624.out), (tH BK625.out), zb⟩)
             ·skip
              refine box_step ?hg (N := 6) ?hd (cs := #[.bool false, .bool false, .int .i64 0, .int .i64 0, .int .i64 0, .slice none 0 0]) (t := 25) ?hr ?_; (case hd => rfl); (case hg => rfl); (case hr => first | (go_simp; done) | (go_simp; rfl))
              intro gb645 hg w89 hbox hb
              replace HO_624005 := tVB HO_624005 hg hb
              replace HO_625005 := tVB HO_625005 hg hb
              replace HO633 := tNB HO633 hg hb
              have BK645 := Aside0.mk (hbox)
              have GW645 := tge HB hg
              have GE645 := tge HB hg
              replace HB := tBs HB hb
              have NB623_645 := tlt BK623 hg
              have NB645_623 := tgt BK623 hg
              replace BK623 := tBb BK623 hb
              have NB624_645 := tlt BK624 hg
              have NB645_624 := tgt BK624 hg
              replace BK624 := tBb BK624 hb
              have NB625_645 := tlt BK625 hg
              have NB645_625 := tgt BK625 hg
              replace BK625 := tBb BK625 hb
              clear hb hbox hg
              refine hK.out _ _ ⟨(blk_cell BK623.out 0).trans rfl, (blk_cell BK623.out 1).trans rfl, (blk_cell BK623.out 2).trans rfl, (blk_cell BK623.out 3).trans rfl, (blk_cell BK623.out 4).trans rfl, (blk_cell BK623.out 5).trans rfl, (blk_cell BK624.out 0).trans rfl, (blk_cell BK624.out 1).trans rfl, (blk_cell BK624.out 2).trans rfl, (blk_cell BK624.out 3).trans rfl, (blk_cell BK624.out 4).trans rfl, (blk_cell BK624.out 5).trans rfl⟩ (fun hHeld => ?_)
              clear hK K
              refine tnm (some 6) ?_
              exact tnx (hJ2_5_10 (v629, v632, gb645) _ ⟨hHeld, (tNm HO633.out), (tVm HO_624005.out), (tVm HO_625005.out), (tH BK623.out), (tH BK624.out), (tH BK625.out), (tH BK645.out), GW645.out, GE645.out, NB623_645.out, NB645_623.out, NB624_645.out, NB645_624.out, NB625_645.out, NB645_625.out, zb⟩)
           ·skip
            rintro ⟨v629, v632, gb645⟩ w89 ⟨hS_, h0_, h1_, h2_, h3_, h4_, h5_, h6_, h7_, h8_, h9_, h10_, h11_, h12_, h13_, h14_, h15_⟩
            try dsimp only at hS_ h0_ h1_ h2_ h3_ h4_ h5_ h6_ h7_ h8_ h9_ h10_ h11_ h12_ h13_ h14_ h15_
            clear HO_624005 HO_625005 BK623 BK624 BK625 HB
            have HO633 := Aside0.mk h0_
            have HO_624005 := Aside0.mk h1_
            have HO_625005 := Aside0.mk h2_
            have BK623 := Aside0.mk h3_
            have BK624 := Aside0.mk h4_
            have BK625 := Aside0.mk h5_
            have BK645 := Aside0.mk h6_
            have GW645 := Aside0.mk h7_
            have GE645 := Aside0.mk h8_
            have NB623_645 := Aside0.mk h9_
            have NB645_623 := Aside0.mk h10_
            have NB624_645 := Aside0.mk h11_
            have NB645_624 := Aside0.mk h12_
            have NB625_645 := Aside0.mk h13_
            have NB645_625 := Aside0.mk h14_
            have HB := Aside0.mk h15_
            clear h0_ h1_ h2_ h3_ h4_ h5_ h6_ h7_ h8_ h9_ h10_ h11_ h12_ h13_ h14_ h15_
            have hHeld := hS_
            refine tnp ?_
            refine one_ (i := 8) (N := some 41) #[true, true, true, true, true, true, true, true, true, false, true, false] rfl rfl (one_of HT_.out (by kernel_rfl)) (by decide) (fun K hK => ?_)
            refine Kd.N_append_rows_step k41 (w0 := w) w.heap.size (by rfl) (.tmp 38) (.tmp 40) 23 41 (.agg #[(.int .i64 0), (.int .i64 0), (.bool false), (.slice none 0 0), (.bool false), (.slice none 0 0)]) 80 rfl Tryd.underlying23 info41 rfl (by decide) (by omega) v632 y631 l1_5 _ _ _ (fun k_ => ((P0_5_ k_ ∨ P1_5_ k_) ∨ w.heap.size ≤ k_) ∧ k_ ≠ gb623 ∧ k_ ≠ gb624 ∧ k_ ≠ gb625 ∧ k_ ≠ gb645) (fun k_ => ((fun k_ => ((P0_5_ k_ ∨ P1_5_ k_) ∨ w.heap.size ≤ k_) ∧ k_ ≠ gb623 ∧ k_ ≠ gb624 ∧ k_ ≠ gb625 ∧ k_ ≠ gb645)) k_ ∧ some k_ ≠ (v632 : Value).ownBlock) rfl rfl ?aO ?aR (fun _ hk => hk) ?aF ?aB ?aS ?aL ?_
            (case aR => exact (by skip; exact Kd.V_F (Kd.V_mono (ok' := (fun k_ => ((fun k_ => ((P0_5_ k_ ∨ P1_5_ k_) ∨ w.heap.size ≤ k_) ∧ k_ ≠ gb623 ∧ k_ ≠ gb624 ∧ k_ ≠ gb625 ∧ k_ ≠ gb645)) k_ ∧ some k_ ≠ (v632 : Value).ownBlock)) (HO_625005.out) (fun k_ hk => ⟨⟨hk.1, ⟨hk.2.2.1, ⟨hk.2.2.2.1, ⟨hk.2.2.2.2.1, hk.2.2.2.2.2⟩⟩⟩⟩, hk.2.1⟩))))
            (case aB => exact zb)
            (case aF => exact (fun k_ hk => ⟨(.inr (Nat.le_trans (below_size zb) hk)), tfB BK623 k_ hk, tfB BK624 k_ hk, tfB BK625 k_ hk, tfB BK645 k_ hk⟩))
            (case aO => exact (tN HO633.out))
            (case aS => exact (below_size zb))
            (case aL => have := LMc55.out; omega)
            intro v635 w90 ho hb hg hat
            rw [← Ny634.out] at ho
            replace HO_624005 := Aside0.mk (Kd.V_afterv (ok := (fun k_ => ((P0_5_ k_ ∨ P1_5_ k_) ∨ w.heap.size ≤ k_) ∧ k_ ≠ gb623 ∧ k_ ≠ gb624 ∧ k_ ≠ gb625 ∧ k_ ≠ gb645)) (tVm HO_624005.out) hg hat)
            replace HO_625005 := Aside0.mk (Kd.V_afterv (ok := (fun k_ => ((P0_5_ k_ ∨ P1_5_ k_) ∨ w.heap.size ≤ k_) ∧ k_ ≠ gb623 ∧ k_ ≠ gb624 ∧ k_ ≠ gb625 ∧ k_ ≠ gb645)) (tVm HO_625005.out) hg hat)
            replace BK623 := Aside0.mk (blk_grown (tH BK623.out) hg (Kd.N_ne HO633.out BK623.out (by decide)))
            replace BK624 := Aside0.mk (blk_grown (tH BK624.out) hg (Kd.N_ne HO633.out BK624.out (by decide)))
            replace BK625 := Aside0.mk (blk_grown (tH BK625.out) hg (Kd.N_ne HO633.out BK625.out (by decide)))
            replace BK645 := Aside0.mk (blk_grown (tH BK645.out) hg (Kd.N_ne HO633.out BK645.out (by decide)))
            replace HB := Aside0.mk (hb)
            have HO636 := Aside0.mk (ho)
            clear HO633
            clear ho hb hg hat
            refine hK.out _ _ ⟨(blk_cell BK623.out 0).trans rfl, (blk_cell BK623.out 1).trans rfl, (blk_cell BK623.out 2).trans rfl, (blk_cell BK623.out 3).trans rfl, (blk_cell BK623.out 4).trans rfl, (blk_cell BK623.out 5).trans rfl, (blk_cell BK624.out 0).trans rfl, (blk_cell BK624.out 1).trans rfl, (blk_cell BK624.out 2).trans rfl, (blk_cell BK624.out 3).trans rfl, (blk_cell BK624.out 4).trans rfl, (blk_cell BK624.out 5).trans rfl⟩ (fun hHeld => ?_)
            clear hK K
            refine tnm (some 41) ?_
            exact tnx (hJ2_5_8_10 (v629, v632, v635, gb645) _ ⟨hHeld, (tN HO636.out), (tVm HO_624005.out), (tVm HO_625005.out), (tH BK623.out), (tH BK624.out), (tH BK625.out), (tH BK645.out), GW645.out, GE645.out, NB623_645.out, NB645_623.out, NB624_645.out, NB645_624.out, NB625_645.out, NB645_625.out, zb⟩)
          ·skip
           rintro ⟨v629, v632, v635⟩ w89 ⟨hS_, h0_, h1_, h2_, h3_, h4_, h5_, h6_⟩
           try dsimp only at hS_ h0_ h1_ h2_ h3_ h4_ h5_ h6_
           clear HO_624005 HO_625005 BK623 BK624 BK625 HB
           have HO636 := Aside0.mk h0_
           have HO_624005 := Aside0.mk h1_
           have HO_625005 := Aside0.mk h2_
           have BK623 := Aside0.mk h3_
           have BK624 := Aside0.mk h4_
           have BK625 := Aside0.mk h5_
           have HB := Aside0.mk h6_
           clear h0_ h1_ h2_ h3_ h4_ h5_ h6_
           have hHeld := hS_
           obtain ⟨Ao90, co90, eo90⟩ := Kd.N_slice HO636.out
           (first | subst eo90 | (injection eo90 with f1_ f2_ f3_; have f4_ := f1_.symm; have f5_ := f3_.symm; clear f1_ f2_ f3_; subst f4_; subst f5_))
           refine tnp ?_
           refine two_ (i := 9) (j := 10) (Ni := some 42) (Nj := some 6) #[true, true, true, true, true, true, true, true, true, true, false, false] #[true, true, true, true, true, true, true, true, true, false, true, false] rfl rfl rfl rfl (two_of HT_.out (by kernel_rfl)) (by decide) (by decide) (fun K hK => ?_) (fun K hK => ?_)
           ·skip
            refine goes_ Tryd.func29 (by kernel_rfl) rfl #[.bool a0_0, .slice Ao90 y634.length co90] (by rfl) rfl rfl tq ?_
            with_reducible refine (spec_l31Free.calls kj2 a0_0 _ _ y634 t637 t638 t639 t640 t641 t642 _ ?side1 ?side2 A56.out).mono ?_
            (case side1 => repeat (first | exact (Kd.N_reads' HO636.out).2.2 | (with_reducible refine Kd.C_alloc ?_ _) | (with_reducible refine Kd.C_drewN ?_ _) | (with_reducible refine Kd.C_drew ?_)))
            (case side2 => exact (Kd.N_reads' HO636.out).2.1)
            rintro e w91 ⟨v643, rfl, ho0, hb⟩
            refine ⟨_, rfl, ?_⟩
            replace HO_624005 := tVe HO_624005 ho0 hb
            replace HO_625005 := tVe HO_625005 ho0 hb
            have HO644 := Aside0.mk (Kd.N_lower (Kd.N_mono (ok' := fun k_ => ((P0_5_ k_ ∨ P1_5_ k_) ∨ w.heap.size ≤ k_) ∧ some k_ ≠ (.slice Ao90 y634.length co90 : Value).ownBlock ∧ k_ ≠ gb623 ∧ k_ ≠ gb624 ∧ k_ ≠ gb625) (Kd.S_N (Kd.S_bound ho0)) (fun k_ hk_ => ⟨(.inr (Nat.le_trans (below_size zb) hk_.2.1)), (tfr HO636 k_ hk_.2.1), (tfB BK623 k_ hk_.2.1), (tfB BK624 k_ hk_.2.1), (tfB BK625 k_ hk_.2.1)⟩)) (below_size zb))
            replace HO636 := tNe HO636 ho0 hb
            replace BK623 := tBb BK623 hb
            replace BK624 := tBb BK624 hb
            replace BK625 := tBb BK625 hb
            replace HB := tBs HB hb
            (try clear hb)
            (try clear hb2)
            (try clear hk)
            (try clear hi)
            (try clear ho0)
            refine hK.out _ _ ⟨(blk_cell BK623.out 0).trans rfl, (blk_cell BK623.out 1).trans rfl, (blk_cell BK623.out 2).trans rfl, (blk_cell BK623.out 3).trans rfl, (blk_cell BK623.out 4).trans rfl, (blk_cell BK623.out 5).trans rfl, (blk_cell BK624.out 0).trans rfl, (blk_cell BK624.out 1).trans rfl, (blk_cell BK624.out 2).trans rfl, (blk_cell BK624.out 3).trans rfl, (blk_cell BK624.out 4).trans rfl, (blk_cell BK624.out 5).trans rfl⟩ (fun hHeld => ?_)
            clear hK K
            refine tnm (some 42) ?_
            exact tnx (hJ2_5_8_9 (v629, v632, .slice Ao90 y634.length co90, v643) _ ⟨hHeld, (tNm HO636.out), (tN HO644.out), (tVm HO_624005.out), (tVm HO_625005.out), (tH BK623.out), (tH BK624.out), (tH BK625.out), zb⟩)
           ·skip
            refine box_step ?hg (N := 6) ?hd (cs := #[.bool false, .bool false, .int .i64 0, .int .i64 0, .int .i64 0, .slice none 0 0]) (t := 25) ?hr ?_; (case hd => rfl); (case hg => rfl); (case hr => first | (go_simp; done) | (go_simp; rfl))
            intro gb645 hg w90 hbox hb
            replace HO_624005 := tVB HO_624005 hg hb
            replace HO_625005 := tVB HO_625005 hg hb
            replace HO636 := tNB HO636 hg hb
            have BK645 := Aside0.mk (hbox)
            have GW645 := tge HB hg
            have GE645 := tge HB hg
            replace HB := tBs HB hb
            have NB623_645 := tlt BK623 hg
            have NB645_623 := tgt BK623 hg
            replace BK623 := tBb BK623 hb
            have NB624_645 := tlt BK624 hg
            have NB645_624 := tgt BK624 hg
            replace BK624 := tBb BK624 hb
            have NB625_645 := tlt BK625 hg
            have NB645_625 := tgt BK625 hg
            replace BK625 := tBb BK625 hb
            clear hb hbox hg
            refine hK.out _ _ ⟨(blk_cell BK623.out 0).trans rfl, (blk_cell BK623.out 1).trans rfl, (blk_cell BK623.out 2).trans rfl, (blk_cell BK623.out 3).trans rfl, (blk_cell BK623.out 4).trans rfl, (blk_cell BK623.out 5).trans rfl, (blk_cell BK624.out 0).trans rfl, (blk_cell BK624.out 1).trans rfl, (blk_cell BK624.out 2).trans rfl, (blk_cell BK624.out 3).trans rfl, (blk_cell BK624.out 4).trans rfl, (blk_cell BK624.out 5).trans rfl⟩ (fun hHeld => ?_)
            clear hK K
            refine tnm (some 6) ?_
            exact tnx (hJ2_5_8_10 (v629, v632, (.slice Ao90 y634.length co90), gb645) _ ⟨hHeld, (tNm HO636.out), (tVm HO_624005.out), (tVm HO_625005.out), (tH BK623.out), (tH BK624.out), (tH BK625.out), (tH BK645.out), GW645.out, GE645.out, NB623_645.out, NB645_623.out, NB624_645.out, NB645_624.out, NB625_645.out, NB645_625.out, zb⟩)
         ·skip
          rintro ⟨v629, v632, v635, gb645⟩ w90 ⟨hS_, h0_, h1_, h2_, h3_, h4_, h5_, h6_, h7_, h8_, h9_, h10_, h11_, h12_, h13_, h14_, h15_⟩
          try dsimp only at hS_ h0_ h1_ h2_ h3_ h4_ h5_ h6_ h7_ h8_ h9_ h10_ h11_ h12_ h13_ h14_ h15_
          clear HO_624005 HO_625005 BK623 BK624 BK625 HB
          have HO636 := Aside0.mk h0_
          have HO_624005 := Aside0.mk h1_
          have HO_625005 := Aside0.mk h2_
          have BK623 := Aside0.mk h3_
          have BK624 := Aside0.mk h4_
          have BK625 := Aside0.mk h5_
          have BK645 := Aside0.mk h6_
          have GW645 := Aside0.mk h7_
          have GE645 := Aside0.mk h8_
          have NB623_645 := Aside0.mk h9_
          have NB645_623 := Aside0.mk h10_
          have NB624_645 := Aside0.mk h11_
          have NB645_624 := Aside0.mk h12_
          have NB625_645 := Aside0.mk h13_
          have NB645_625 := Aside0.mk h14_
          have HB := Aside0.mk h15_
          clear h0_ h1_ h2_ h3_ h4_ h5_ h6_ h7_ h8_ h9_ h10_ h11_ h12_ h13_ h14_ h15_
          have hHeld := hS_
          obtain ⟨Ao91, co91, eo91⟩ := Kd.N_slice HO636.out
          (first | subst eo91 | (injection eo91 with f1_ f2_ f3_; have f4_ := f1_.symm; have f5_ := f3_.symm; clear f1_ f2_ f3_; subst f4_; subst f5_))
          refine tnp ?_
          refine one_ (i := 9) (N := some 42) #[true, true, true, true, true, true, true, true, true, true, true, false] rfl rfl (one_of HT_.out (by kernel_rfl)) (by decide) (fun K hK => ?_)
          refine goes_ Tryd.func29 (by kernel_rfl) rfl #[.bool a0_0, .slice Ao91 y634.length co91] (by rfl) rfl rfl tq ?_
          with_reducible refine (spec_l31Free.calls kj2 a0_0 _ _ y634 t637 t638 t639 t640 t641 t642 _ ?side1 ?side2 A56.out).mono ?_
          (case side1 => repeat (first | exact (Kd.N_reads' HO636.out).2.2 | (with_reducible refine Kd.C_alloc ?_ _) | (with_reducible refine Kd.C_drewN ?_ _) | (with_reducible refine Kd.C_drew ?_)))
          (case side2 => exact (Kd.N_reads' HO636.out).2.1)
          rintro e w92 ⟨v643, rfl, ho0, hb⟩
          refine ⟨_, rfl, ?_⟩
          replace HO_624005 := tVe HO_624005 ho0 hb
          replace HO_625005 := tVe HO_625005 ho0 hb
          have HO644 := Aside0.mk (Kd.N_lower (Kd.N_mono (ok' := fun k_ => ((P0_5_ k_ ∨ P1_5_ k_) ∨ w.heap.size ≤ k_) ∧ some k_ ≠ (.slice Ao91 y634.length co91 : Value).ownBlock ∧ k_ ≠ gb623 ∧ k_ ≠ gb624 ∧ k_ ≠ gb625 ∧ k_ ≠ gb645) (Kd.S_N (Kd.S_bound ho0)) (fun k_ hk_ => ⟨(.inr (Nat.le_trans (below_size zb) hk_.2.1)), (tfr HO636 k_ hk_.2.1), (tfB BK623 k_ hk_.2.1), (tfB BK624 k_ hk_.2.1), (tfB BK625 k_ hk_.2.1), (tfB BK645 k_ hk_.2.1)⟩)) (below_size zb))
          replace HO636 := tNe HO636 ho0 hb
          replace BK623 := tBb BK623 hb
          replace BK624 := tBb BK624 hb
          replace BK625 := tBb BK625 hb
          replace BK645 := tBb BK645 hb
          replace HB := tBs HB hb
          (try clear hb)
          (try clear hb2)
          (try clear hk)
          (try clear hi)
          (try clear ho0)
          refine hK.out _ _ ⟨(blk_cell BK623.out 0).trans rfl, (blk_cell BK623.out 1).trans rfl, (blk_cell BK623.out 2).trans rfl, (blk_cell BK623.out 3).trans rfl, (blk_cell BK623.out 4).trans rfl, (blk_cell BK623.out 5).trans rfl, (blk_cell BK624.out 0).trans rfl, (blk_cell BK624.out 1).trans rfl, (blk_cell BK624.out 2).trans rfl, (blk_cell BK624.out 3).trans rfl, (blk_cell BK624.out 4).trans rfl, (blk_cell BK624.out 5).trans rfl⟩ (fun hHeld => ?_)
          clear hK K
          refine tnm (some 42) ?_
          exact tnx (hJ2_5_8_9_10 (v629, v632, .slice Ao91 y634.length co91, v643, gb645) _ ⟨hHeld, (tNm HO636.out), (tN HO644.out), (tVm HO_624005.out), (tVm HO_625005.out), (tH BK623.out), (tH BK624.out), (tH BK625.out), (tH BK645.out), GW645.out, GE645.out, NB623_645.out, NB645_623.out, NB624_645.out, NB645_624.out, NB625_645.out, NB645_625.out, zb⟩)
        ·skip
         rintro ⟨v629, v632, v635, v643⟩ w91 ⟨hS_, h0_, h1_, h2_, h3_, h4_, h5_, h6_, h7_⟩
         try dsimp only at hS_ h0_ h1_ h2_ h3_ h4_ h5_ h6_ h7_
         clear HO_624005 HO_625005 BK623 BK624 BK625 HB
         have HO636 := Aside0.mk h0_
         have HO644 := Aside0.mk h1_
         have HO_624005 := Aside0.mk h2_
         have HO_625005 := Aside0.mk h3_
         have BK623 := Aside0.mk h4_
         have BK624 := Aside0.mk h5_
         have BK625 := Aside0.mk h6_
         have HB := Aside0.mk h7_
         clear h0_ h1_ h2_ h3_ h4_ h5_ h6_ h7_
         have hHeld := hS_
         refine tnp ?_
         refine one_ (i := 10) (N := some 6) #[true, true, true, true, true, true, true, true, true, true, true, false] rfl rfl (one_of HT_.out (by kernel_rfl)) (by decide) (fun K hK => ?_)
         refine box_step ?hg (N := 6) ?hd (cs := #[.bool false, .bool false, .int .i64 0, .int .i64 0, .int .i64 0, .slice none 0 0]) (t := 25) ?hr ?_; (case hd => rfl); (case hg => rfl); (case hr => first | (go_simp; done) | (go_simp; rfl))
         intro gb645 hg w92 hbox hb
         replace HO_624005 := tVB HO_624005 hg hb
         replace HO_625005 := tVB HO_625005 hg hb
         replace HO636 := tNB HO636 hg hb
         replace HO644 := tNB HO644 hg hb
         have BK645 := Aside0.mk (hbox)
         have GW645 := tge HB hg
         have GE645 := tge HB hg
         replace HB := tBs HB hb
         have NB623_645 := tlt BK623 hg
         have NB645_623 := tgt BK623 hg
         replace BK623 := tBb BK623 hb
         have NB624_645 := tlt BK624 hg
         have NB645_624 := tgt BK624 hg
         replace BK624 := tBb BK624 hb
         have NB625_645 := tlt BK625 hg
         have NB645_625 := tgt BK625 hg
         replace BK625 := tBb BK625 hb
         clear hb hbox hg
         refine hK.out _ _ ⟨(blk_cell BK623.out 0).trans rfl, (blk_cell BK623.out 1).trans rfl, (blk_cell BK623.out 2).trans rfl, (blk_cell BK623.out 3).trans rfl, (blk_cell BK623.out 4).trans rfl, (blk_cell BK623.out 5).trans rfl, (blk_cell BK624.out 0).trans rfl, (blk_cell BK624.out 1).trans rfl, (blk_cell BK624.out 2).trans rfl, (blk_cell BK624.out 3).trans rfl, (blk_cell BK624.out 4).trans rfl, (blk_cell BK624.out 5).trans rfl⟩ (fun hHeld => ?_)
         clear hK K
         refine tnm (some 6) ?_
         exact tnx (hJ2_5_8_9_10 (v629, v632, v635, v643, gb645) _ ⟨hHeld, (tNm HO636.out), (tNm HO644.out), (tVm HO_624005.out), (tVm HO_625005.out), (tH BK623.out), (tH BK624.out), (tH BK625.out), (tH BK645.out), GW645.out, GE645.out, NB623_645.out, NB645_623.out, NB624_645.out, NB645_624.out, NB625_645.out, NB645_625.out, zb⟩)
       rintro ⟨v629, v632, v635, v643, gb645⟩ w92 ⟨hS_, h0_, h1_, h2_, h3_, h4_, h5_, h6_, h7_, h8_, h9_, h10_, h11_, h12_, h13_, h14_, h15_, h16_⟩
       try dsimp only at hS_ h0_ h1_ h2_ h3_ h4_ h5_ h6_ h7_ h8_ h9_ h10_ h11_ h12_ h13_ h14_ h15_ h16_
       clear HO_624005 HO_625005 BK623 BK624 BK625 HB
       have HO636 := Aside0.mk h0_
       have HO644 := Aside0.mk h1_
       have HO_624005 := Aside0.mk h2_
       have HO_625005 := Aside0.mk h3_
       have BK623 := Aside0.mk h4_
       have BK624 := Aside0.mk h5_
       have BK625 := Aside0.mk h6_
       have BK645 := Aside0.mk h7_
       have GW645 := Aside0.mk h8_
       have GE645 := Aside0.mk h9_
       have NB623_645 := Aside0.mk h10_
       have NB645_623 := Aside0.mk h11_
       have NB624_645 := Aside0.mk h12_
       have NB645_624 := Aside0.mk h13_
       have NB625_645 := Aside0.mk h14_
       have NB645_625 := Aside0.mk h15_
       have HB := Aside0.mk h16_
       clear h0_ h1_ h2_ h3_ h4_ h5_ h6_ h7_ h8_ h9_ h10_ h11_ h12_ h13_ h14_ h15_ h16_
       have hHeld := hS_
       obtain ⟨Ao98, co98, eo98⟩ := Kd.N_slice HO644.out
       (first | subst eo98 | (injection eo98 with f1_ f2_ f3_; have f4_ := f1_.symm; have f5_ := f3_.symm; clear f1_ f2_ f3_; subst f4_; subst f5_))
       refine tnp ?_
       refine one_ (i := 11) (N := none) #[true, true, true, true, true, true, true, true, true, true, true, true] rfl rfl (one_of HT_.out (by kernel_rfl)) (by decide) (fun K hK => ?_)
       have hs93 : w92.cell? ⟨gb645, 0, none⟩ = some (.bool false) := (blk_cell BK645.out 0).trans rfl
       have hfs93 := blk_frozen BK645.out 0
       have hns93_0 := NB623_645.out
       have hns93_1 := NB624_645.out
       have hns93_2 := NB625_645.out
       have hms93_0 := NB645_623.out
       have hms93_1 := NB645_624.out
       have hms93_2 := NB645_625.out
       have hs94 : w92.cell? ⟨gb645, 1, none⟩ = some (.bool false) := (blk_cell BK645.out 1).trans rfl
       have hfs94 := blk_frozen BK645.out 1
       have hs95 : w92.cell? ⟨gb645, 2, none⟩ = some (.int .i64 0) := (blk_cell BK645.out 2).trans rfl
       have hfs95 := blk_frozen BK645.out 2
       have hs96 : w92.cell? ⟨gb645, 3, none⟩ = some (.int .i64 0) := (blk_cell BK645.out 3).trans rfl
       have hfs96 := blk_frozen BK645.out 3
       have hs97 : w92.cell? ⟨gb645, 4, none⟩ = some (.int .i64 0) := (blk_cell BK645.out 4).trans rfl
       have hfs97 := blk_frozen BK645.out 4
       have hs99 : w92.cell? ⟨gb645, 5, none⟩ = some (.slice none 0 0) := (blk_cell BK645.out 5).trans rfl
       have hfs99 := blk_frozen BK645.out 5
       refine tsk ?_
       refine hK.out _ _ ⟨(tcg NB623_645.out hHeld.1), (tcg NB623_645.out hHeld.2.1), (tcg NB623_645.out hHeld.2.2.1), (tcg NB623_645.out hHeld.2.2.2.1), (tcg NB623_645.out hHeld.2.2.2.2.1), (tcg NB623_645.out hHeld.2.2.2.2.2.1), (tcg NB624_645.out hHeld.2.2.2.2.2.2.1), (tcg NB624_645.out hHeld.2.2.2.2.2.2.2.1), (tcg NB624_645.out hHeld.2.2.2.2.2.2.2.2.1), (tcg NB624_645.out hHeld.2.2.2.2.2.2.2.2.2.1), (tcg NB624_645.out hHeld.2.2.2.2.2.2.2.2.2.2.1), (tcg NB624_645.out hHeld.2.2.2.2.2.2.2.2.2.2.2)⟩ (fun hHeld => ?_)
       clear hK K
       refine done_ (done_of HT_.out (by kernel_rfl)) ?_
       have hnb100 := NB645_623.out
       have hnc100 := NB623_645.out
       have hnb101 := NB645_624.out
       have hnc101 := NB624_645.out
       have hnb102 := NB645_625.out
       have hnc102 := NB625_645.out
       obtain ⟨hcz103_0, hcz103_1, hcz103_2, hcz103_3, hcz103_4, hcz103_5, hfz103_0, hfz103_1, hfz103_2, hfz103_3, hfz103_4, hfz103_5⟩ := cells6 BK645.out
       try go_wp2_with (first | ((with_reducible refine gate_callee (f := 28) rfl ?_); refine goesL_ (some 44) rfl rfl Tryd.func28 (by kernel_rfl) rfl #[.agg #[.bool t637, .bool t638, .int .i64 t639, .int .i64 t640, .int .i64 t641, .slice Ao98 t642.length co98]] rfl tq ?_; (with_reducible refine (spec_BatchValid.calls kj2 t637 t638 t639 t640 t641 _ _ t642 false _ ?side1 ?side2 A57.out).mono ?_); (case side1 => exact (Kd.N_reads' (tN HO644.out)).2.2); (case side2 => exact (Kd.N_reads' HO644.out).2.1); rintro e w104 ⟨rfl, hb⟩; refine ⟨_, rfl, ?_⟩; replace HO_624005 := tVb HO_624005 hb; replace HO_625005 := tVb HO_625005 hb; replace HO636 := tNb HO636 hb; replace HO644 := tNb HO644 hb; replace BK623 := tBb BK623 hb; replace BK624 := tBb BK624 hb; replace BK625 := tBb BK625 hb; replace BK645 := tBp (o' := .cells #[.bool t637, .bool t638, .int .i64 t639, .int .i64 t640, .int .i64 t641, .slice Ao98 t642.length co98] 25 (0, 0)) BK645 hb; replace HB := tBs HB hb; (try clear hb); (try clear hb2); (try clear hk); (try clear hi); have hnb105 := NB625_623.out; have hnc105 := NB623_625.out; have hnb106 := NB625_624.out; have hnc106 := NB624_625.out; obtain ⟨hcz107_0, hcz107_1, hcz107_2, hcz107_3, hcz107_4, hcz107_5, hfz107_0, hfz107_1, hfz107_2, hfz107_3, hfz107_4, hfz107_5⟩ := cells6 BK625.out))
       refine bodyPost_ret (results_ct rfl _ _ gb625 25 #[.bool false, .bool false, .int .i64 0, .int .i64 0, .int .i64 0, .slice none 0 0] (0, 0) _ rfl (tP BK625.out) Tryd.underlying25 rfl (by kernel_rfl)) rfl ?_
       exact ⟨_, by first | rfl | (simp [errW_none, errW_some] <;> rfl) | (simp [*, errW_none, errW_some] <;> rfl), by first | exact Kd.S_nil _ _ _ _ _ | exact Kd.N_nil _ _ _ _ _ | exact Kd.V_nil _ _ _ _ _ | exact Kd.Q_nil _ _ _ _ _ | exact Kd.R_nil _ _ _ _ _, zb⟩
     ·rw [if_neg c55] at H
      exact absurd H (by simp)
    ·rw [if_neg c54] at H
     exact absurd H (by simp)

end Go.Proofs.YtahenocndacjeaaDoor.G

