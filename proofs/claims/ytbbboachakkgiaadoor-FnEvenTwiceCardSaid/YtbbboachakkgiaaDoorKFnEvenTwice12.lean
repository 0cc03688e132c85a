/- A text of seat YtbbboachakkgiaaDoor: what the law FnEvenTwice needs of this repo's texts (by pack.py). Not trusted: Lean checks it. -/
import Derived.Test.YtbbboachakkgiaaDoorKFnEvenTwice11
namespace Go.Proofs.YtbbboachakkgiaaDoor.G
open Go.RowKit Go.Proofs.YtbbboachakkgiaaDoorW.PrintWords Go.Proofs.YtbbboachakkgiaaDoorW.PrintLast Go.Proofs.YtbbboachakkgiaaDoorW.PrintMore
attribute [local go_sem] max2_int min2_int max_two min_two max_three min_three max_four min_four   -- for this text's walks alone
set_option linter.unusedVariables false
set_option linter.unusedSimpArgs false

set_option maxHeartbeats 8000000 in
set_option maxRecDepth 100000 in
theorem spec_BatchJoin.calls (k : Nat) (a0_0 : Bool) (a0_1 : Bool) (a0_2 : Int) (a0_3 : Int) (a0_4 : Int) (P0_5_ : Nat → Prop) (A0_5 : Option Addr) (c0_5 : Nat) (l0_5 : List (S33)) (a1_0 : Bool) (a1_1 : Bool) (a1_2 : Int) (a1_3 : Int) (a1_4 : Int) (P1_5_ : Nat → Prop) (A1_5 : Option Addr) (c1_5 : Nat) (l1_5 : List (S33)) (r1 : Bool) (r2 : Bool) (r3 : Int) (r4 : Int) (r5 : Int) (r6 : List (S33)) (r7 : Bool) (w : World) (hs0_5 : Kd.V k33 33 w w.heap.size (fun k_ => P0_5_ k_) (.slice A0_5 l0_5.length c0_5) l0_5) (hs1_5 : Kd.V k33 33 w w.heap.size (fun k_ => P1_5_ k_) (.slice A1_5 l1_5.length c1_5) l1_5) (h : spec_BatchJoin.f k a0_0 a0_1 a0_2 a0_3 a0_4 l0_5 a1_0 a1_1 a1_2 a1_3 a1_4 l1_5 = some (r1, r2, r3, r4, r5, r6, r7)) :
  Calls Tryd.prog 50 #[.agg #[.bool a0_0, .bool a0_1, .int .i64 a0_2, .int .i64 a0_3, .int .i64 a0_4, .slice A0_5 l0_5.length c0_5], .agg #[.bool a1_0, .bool a1_1, .int .i64 a1_2, .int .i64 a1_3, .int .i64 a1_4, .slice A1_5 l1_5.length c1_5]] w fun e w' => ∃ v5_ : Value, e = .returned (.tuple #[.agg #[.bool r1, .bool r2, .int .i64 r3, .int .i64 r4, .int .i64 r5, v5_], .bool r7]) ∧ Kd.N k33 33 w' w.heap.size (fun k_ => ((P0_5_ k_ ∨ P1_5_ k_) ∨ w.heap.size ≤ k_)) v5_ r6 ∧ Below w.heap.size w w' := by
 have hu47 := Tryd.underlying47
 have HO0_5 := Aside0.mk (show Kd.V k33 33 w w.heap.size (fun k_ => ((P0_5_ k_ ∨ P1_5_ k_) ∨ w.heap.size ≤ k_)) (.slice A0_5 l0_5.length c0_5) l0_5 from Kd.V_mono hs0_5 (fun k_ hk => .inl (.inl hk)))
 have HO1_5 := Aside0.mk (show Kd.V k33 33 w w.heap.size (fun k_ => ((P0_5_ k_ ∨ P1_5_ k_) ∨ w.heap.size ≤ k_)) (.slice A1_5 l1_5.length c1_5) l1_5 from Kd.V_mono hs1_5 (fun k_ hk => .inl (.inr hk)))
 have HB := Aside0.mk (Below.refl w.heap.size w)
 have H : ((spec_BatchValid.f k a0_0 a0_1 a0_2 a0_3 a0_4 l0_5).bind fun t731 => (if t731 = true then ((spec_BatchValid.f k a1_0 a1_1 a1_2 a1_3 a1_4 l1_5).bind fun t732 => (if t732 = true then (if a0_2 = 255 then (if a1_2 = 255 then (spec_BatchJoin.j0 k (a0_0 != a1_0) a0_0 a0_1 a0_2 a0_3 a0_4 l0_5 a1_0 a1_1 a1_2 a1_3 a1_4 l1_5) else (spec_BatchJoin.j0 k true a0_0 a0_1 a0_2 a0_3 a0_4 l0_5 a1_0 a1_1 a1_2 a1_3 a1_4 l1_5)) else (spec_BatchJoin.j0 k true a0_0 a0_1 a0_2 a0_3 a0_4 l0_5 a1_0 a1_1 a1_2 a1_3 a1_4 l1_5)) else (spec_BatchJoin.j0 k true a0_0 a0_1 a0_2 a0_3 a0_4 l0_5 a1_0 a1_1 a1_2 a1_3 a1_4 l1_5))) else (spec_BatchJoin.j0 k true a0_0 a0_1 a0_2 a0_3 a0_4 l0_5 a1_0 a1_1 a1_2 a1_3 a1_4 l1_5))) = some (r1, r2, r3, r4, r5, r6, r7) := h
 clear h
 have HC3 := Aside0.mk H
 clear H
 go_enter Tryd.func50, Tryd.ntmps50
 go_upto_region 1 with (first | ((with_reducible refine gate_dst (N := 2) rfl ?_); refine box_event ?hg (N := 2) ?hd (cs := #[.bool a0_0, .bool a0_1, .int .i64 a0_2, .int .i64 a0_3, .int .i64 a0_4, .slice A0_5 l0_5.length c0_5]) (t := 47) ?hr ?_; (case hd => rfl); (case hg => rfl); (case hr => first | (go_simp; done) | (go_simp; rfl)); intro gb728 hg w4 hbox hb; replace HO0_5 := tVB HO0_5 hg hb; replace HO1_5 := tVB HO1_5 hg hb; have BK728 := Aside0.mk (hbox); have GW728 := tge HB hg; have GE728 := tge HB hg; replace HB := tBs HB hb; clear hb hbox hg) | ((with_reducible refine gate_dst (N := 3) rfl ?_); refine box_event ?hg (N := 3) ?hd (cs := #[.bool a1_0, .bool a1_1, .int .i64 a1_2, .int .i64 a1_3, .int .i64 a1_4, .slice A1_5 l1_5.length c1_5]) (t := 47) ?hr ?_; (case hd => rfl); (case hg => rfl); (case hr => first | (go_simp; done) | (go_simp; rfl)); intro gb729 hg w5 hbox hb; replace HO0_5 := tVB HO0_5 hg hb; replace HO1_5 := tVB HO1_5 hg hb; have BK729 := Aside0.mk (hbox); have GW729 := tge HB hg; have GE729 := tge HB hg; replace HB := tBs HB hb; have NB728_729 := tlt BK728 hg; have NB729_728 := tgt BK728 hg; replace BK728 := tBb BK728 hb; clear hb hbox hg) | ((with_reducible refine gate_dst (N := 4) rfl ?_); refine box_event ?hg (N := 4) ?hd (cs := #[.bool false, .bool false, .int .i64 0, .int .i64 0, .int .i64 0, .slice none 0 0]) (t := 47) ?hr ?_; (case hd => rfl); (case hg => rfl); (case hr => first | (go_simp; done) | (go_simp; rfl)); intro gb730 hg w6 hbox hb; replace HO0_5 := tVB HO0_5 hg hb; replace HO1_5 := tVB HO1_5 hg hb; have BK730 := Aside0.mk (hbox); have GW730 := tge HB hg; have GE730 := tge HB hg; replace HB := tBs HB hb; have NB728_730 := tlt BK728 hg; have NB730_728 := tgt BK728 hg; replace BK728 := tBb BK728 hb; have NB729_730 := tlt BK729 hg; have NB730_729 := tgt BK729 hg; replace BK729 := tBb BK729 hb; clear hb hbox hg))
 (try simp only [Act.put, List.setIfInBounds_toArray, List.set_cons_zero, List.set_cons_succ])
 go_cut [31] (fun v31 wc => ∃ (kq : Nat) (x31_2 : Bool), v31 = .bool x31_2 ∧ Aside0 (spec_BatchJoin.j0 kq x31_2 a0_0 a0_1 a0_2 a0_3 a0_4 l0_5 a1_0 a1_1 a1_2 a1_3 a1_4 l1_5 = some (r1, r2, r3, r4, r5, r6, r7)) ∧ Aside0 (kq ≤ k) ∧ Aside0 (Kd.V k33 33 wc w.heap.size (fun k_ => ((P0_5_ k_ ∨ P1_5_ k_) ∨ w.heap.size ≤ k_) ∧ k_ ≠ gb728 ∧ k_ ≠ gb729 ∧ k_ ≠ gb730) (.slice A0_5 l0_5.length c0_5) l0_5) ∧ Aside0 (Kd.V k33 33 wc w.heap.size (fun k_ => ((P0_5_ k_ ∨ P1_5_ k_) ∨ w.heap.size ≤ k_) ∧ k_ ≠ gb728 ∧ k_ ≠ gb729 ∧ k_ ≠ gb730) (.slice A1_5 l1_5.length c1_5) l1_5) ∧ Aside0 (wc.heap[gb728]? = some (.cells #[.bool a0_0, .bool a0_1, .int .i64 a0_2, .int .i64 a0_3, .int .i64 a0_4, (.slice A0_5 l0_5.length c0_5)] 47 (0, 0))) ∧ Aside0 (wc.heap[gb729]? = some (.cells #[.bool a1_0, .bool a1_1, .int .i64 a1_2, .int .i64 a1_3, .int .i64 a1_4, (.slice A1_5 l1_5.length c1_5)] 47 (0, 0))) ∧ Aside0 (wc.heap[gb730]? = some (.cells #[.bool false, .bool false, .int .i64 0, .int .i64 0, .int .i64 0, (.slice none 0 0)] 47 (0, 0))) ∧ Aside0 (Below w.heap.size w wc))
 case first =>
  have H := HC3.out
  clear HC3
  replace H := tbe H
  obtain ⟨t731, A7, H⟩ := H
  by_cases c8 : t731 = true
  ·subst c8
   rw [if_pos rfl] at H
   replace H := tbe H
   obtain ⟨t732, A9, H⟩ := H
   by_cases c10 : t732 = true
   ·subst c10
    rw [if_pos rfl] at H
    by_cases c11 : a0_2 = 255
    ·rw [if_pos c11] at H
     have c11b0 : (a0_2 == 255) = true := beq_iff_eq.mpr c11
     have c11b1 : (a0_2 != 255) = false := bne_eq_false_iff_eq.mpr c11
     clear c11
     (first | rw [c11b0] | (simp only [i64_w, i32_w]; rw [c11b0]) | skip)
     by_cases c12 : a1_2 = 255
     ·rw [if_pos c12] at H
      have c12b0 : (a1_2 == 255) = true := beq_iff_eq.mpr c12
      have c12b1 : (a1_2 != 255) = false := bne_eq_false_iff_eq.mpr c12
      clear c12
      have H' := Aside0.mk H
      clear H
      have hnb13 := NB728_729.out
      have hnc13 := NB729_728.out
      have hnb14 := NB728_730.out
      have hnc14 := NB730_728.out
      obtain ⟨hcz15_0, hcz15_1, hcz15_2, hcz15_3, hcz15_4, hcz15_5, hfz15_0, hfz15_1, hfz15_2, hfz15_3, hfz15_4, hfz15_5⟩ := cells6 BK728.out
      go_wp2_with (first | ((with_reducible refine gate_callee (f := 59) rfl ?_); refine goesL_ (some 8) rfl rfl Tryd.func59 (by kernel_rfl) rfl #[.agg #[.bool a0_0, .bool a0_1, .int .i64 a0_2, .int .i64 a0_3, .int .i64 a0_4, .slice A0_5 l0_5.length c0_5]] rfl tq ?_; (with_reducible refine (spec_BatchValid.calls k a0_0 a0_1 a0_2 a0_3 a0_4 _ _ l0_5 true _ ?side1 ?side2 A7.out).mono ?_); (case side1 => repeat (first | exact (Kd.V_reads' HO0_5.out).2.2 | (with_reducible refine Kd.C_alloc ?_ _) | (with_reducible refine Kd.C_drewN ?_ _) | (with_reducible refine Kd.C_drew ?_))); (case side2 => exact (Kd.V_reads' HO0_5.out).2.1); rintro e w16 ⟨rfl, hb⟩; refine ⟨_, rfl, ?_⟩; replace HO0_5 := tVb HO0_5 hb; replace HO1_5 := tVb HO1_5 hb; replace BK728 := tBb BK728 hb; replace BK729 := tBb BK729 hb; replace BK730 := tBb BK730 hb; replace HB := tBs HB hb; (try clear hb); (try clear hb2); (try clear hk); (try clear hi); have hnb17 := NB729_730.out; have hnc17 := NB730_729.out; obtain ⟨hcz18_0, hcz18_1, hcz18_2, hcz18_3, hcz18_4, hcz18_5, hfz18_0, hfz18_1, hfz18_2, hfz18_3, hfz18_4, hfz18_5⟩ := cells6 BK729.out) | (go_at_call 59; (with_reducible refine (spec_BatchValid.calls k a1_0 a1_1 a1_2 a1_3 a1_4 _ _ l1_5 true _ ?side1 ?side2 A9.out).mono ?_); (case side1 => repeat (first | exact (Kd.V_reads' HO1_5.out).2.2 | (with_reducible refine Kd.C_alloc ?_ _) | (with_reducible refine Kd.C_drewN ?_ _) | (with_reducible refine Kd.C_drew ?_))); (case side2 => exact (Kd.V_reads' HO1_5.out).2.1); rintro e w19 ⟨rfl, hb⟩; replace HO0_5 := tVb HO0_5 hb; replace HO1_5 := tVb HO1_5 hb; replace BK728 := tBb BK728 hb; replace BK729 := tBb BK729 hb; replace BK730 := tBb BK730 hb; replace HB := tBs HB hb; (try clear hb); (try clear hb2); (try clear hk); (try clear hi); obtain ⟨hcz20_0, hcz20_1, hcz20_2, hcz20_3, hcz20_4, hcz20_5, hfz20_0, hfz20_1, hfz20_2, hfz20_3, hfz20_4, hfz20_5⟩ := cells6 BK728.out; obtain ⟨hcz21_0, hcz21_1, hcz21_2, hcz21_3, hcz21_4, hcz21_5, hfz21_0, hfz21_1, hfz21_2, hfz21_3, hfz21_4, hfz21_5⟩ := cells6 BK729.out))
      go_meet
      case rel => exact ⟨_, ((a0_0 != a1_0)), tr, H', ⟨by first | omega | exact Nat.le_refl _⟩, ⟨tVm HO0_5.out⟩, ⟨tVm HO1_5.out⟩, ⟨tH BK728.out⟩, ⟨tH BK729.out⟩, ⟨tH BK730.out⟩, ⟨zb⟩⟩
     ·rw [if_neg c12] at H
      have c12b0 : (a1_2 == 255) = false := beq_eq_false_iff_ne.mpr c12
      have c12b1 : (a1_2 != 255) = true := bne_iff_ne.mpr c12
      have H' := Aside0.mk H
      clear H
      have hnb22 := NB728_729.out
      have hnc22 := NB729_728.out
      have hnb23 := NB728_730.out
      have hnc23 := NB730_728.out
      obtain ⟨hcz24_0, hcz24_1, hcz24_2, hcz24_3, hcz24_4, hcz24_5, hfz24_0, hfz24_1, hfz24_2, hfz24_3, hfz24_4, hfz24_5⟩ := cells6 BK728.out
      go_wp2_with (first | ((with_reducible refine gate_callee (f := 59) rfl ?_); refine goesL_ (some 8) rfl rfl Tryd.func59 (by kernel_rfl) rfl #[.agg #[.bool a0_0, .bool a0_1, .int .i64 a0_2, .int .i64 a0_3, .int .i64 a0_4, .slice A0_5 l0_5.length c0_5]] rfl tq ?_; (with_reducible refine (spec_BatchValid.calls k a0_0 a0_1 a0_2 a0_3 a0_4 _ _ l0_5 true _ ?side1 ?side2 A7.out).mono ?_); (case side1 => repeat (first | exact (Kd.V_reads' HO0_5.out).2.2 | (with_reducible refine Kd.C_alloc ?_ _) | (with_reducible refine Kd.C_drewN ?_ _) | (with_reducible refine Kd.C_drew ?_))); (case side2 => exact (Kd.V_reads' HO0_5.out).2.1); rintro e w25 ⟨rfl, hb⟩; refine ⟨_, rfl, ?_⟩; replace HO0_5 := tVb HO0_5 hb; replace HO1_5 := tVb HO1_5 hb; replace BK728 := tBb BK728 hb; replace BK729 := tBb BK729 hb; replace BK730 := tBb BK730 hb; replace HB := tBs HB hb; (try clear hb); (try clear hb2); (try clear hk); (try clear hi); have hnb26 := NB729_730.out; have hnc26 := NB730_729.out; obtain ⟨hcz27_0, hcz27_1, hcz27_2, hcz27_3, hcz27_4, hcz27_5, hfz27_0, hfz27_1, hfz27_2, hfz27_3, hfz27_4, hfz27_5⟩ := cells6 BK729.out) | (go_at_call 59; (with_reducible refine (spec_BatchValid.calls k a1_0 a1_1 a1_2 a1_3 a1_4 _ _ l1_5 true _ ?side1 ?side2 A9.out).mono ?_); (case side1 => repeat (first | exact (Kd.V_reads' HO1_5.out).2.2 | (with_reducible refine Kd.C_alloc ?_ _) | (with_reducible refine Kd.C_drewN ?_ _) | (with_reducible refine Kd.C_drew ?_))); (case side2 => exact (Kd.V_reads' HO1_5.out).2.1); rintro e w28 ⟨rfl, hb⟩; replace HO0_5 := tVb HO0_5 hb; replace HO1_5 := tVb HO1_5 hb; replace BK728 := tBb BK728 hb; replace BK729 := tBb BK729 hb; replace BK730 := tBb BK730 hb; replace HB := tBs HB hb; (try clear hb); (try clear hb2); (try clear hk); (try clear hi); obtain ⟨hcz29_0, hcz29_1, hcz29_2, hcz29_3, hcz29_4, hcz29_5, hfz29_0, hfz29_1, hfz29_2, hfz29_3, hfz29_4, hfz29_5⟩ := cells6 BK728.out; obtain ⟨hcz30_0, hcz30_1, hcz30_2, hcz30_3, hcz30_4, hcz30_5, hfz30_0, hfz30_1, hfz30_2, hfz30_3, hfz30_4, hfz30_5⟩ := cells6 BK729.out))
      go_meet
      case rel => exact ⟨_, (true), tr, H', ⟨by first | omega | exact Nat.le_refl _⟩, ⟨tVm HO0_5.out⟩, ⟨tVm HO1_5.out⟩, ⟨tH BK728.out⟩, ⟨tH BK729.out⟩, ⟨tH BK730.out⟩, ⟨zb⟩⟩
    ·rw [if_neg c11] at H
     have c11b0 : (a0_2 == 255) = false := beq_eq_false_iff_ne.mpr c11
     have c11b1 : (a0_2 != 255) = true := bne_iff_ne.mpr c11
     (first | rw [c11b0] | (simp only [i64_w, i32_w]; rw [c11b0]) | skip)
     have H' := Aside0.mk H
     clear H
     have hnb31 := NB728_729.out
     have hnc31 := NB729_728.out
     have hnb32 := NB728_730.out
     have hnc32 := NB730_728.out
     obtain ⟨hcz33_0, hcz33_1, hcz33_2, hcz33_3, hcz33_4, hcz33_5, hfz33_0, hfz33_1, hfz33_2, hfz33_3, hfz33_4, hfz33_5⟩ := cells6 BK728.out
     go_wp2_with (first | ((with_reducible refine gate_callee (f := 59) rfl ?_); refine goesL_ (some 8) rfl rfl Tryd.func59 (by kernel_rfl) rfl #[.agg #[.bool a0_0, .bool a0_1, .int .i64 a0_2, .int .i64 a0_3, .int .i64 a0_4, .slice A0_5 l0_5.length c0_5]] rfl tq ?_; (with_reducible refine (spec_BatchValid.calls k a0_0 a0_1 a0_2 a0_3 a0_4 _ _ l0_5 true _ ?side1 ?side2 A7.out).mono ?_); (case side1 => repeat (first | exact (Kd.V_reads' HO0_5.out).2.2 | (with_reducible refine Kd.C_alloc ?_ _) | (with_reducible refine Kd.C_drewN ?_ _) | (with_reducible refine Kd.C_drew ?_))); (case side2 => exact (Kd.V_reads' HO0_5.out).2.1); rintro e w34 ⟨rfl, hb⟩; refine ⟨_, rfl, ?_⟩; replace HO0_5 := tVb HO0_5 hb; replace HO1_5 := tVb HO1_5 hb; replace BK728 := tBb BK728 hb; replace BK729 := tBb BK729 hb; replace BK730 := tBb BK730 hb; replace HB := tBs HB hb; (try clear hb); (try clear hb2); (try clear hk); (try clear hi); have hnb35 := NB729_730.out; have hnc35 := NB730_729.out; obtain ⟨hcz36_0, hcz36_1, hcz36_2, hcz36_3, hcz36_4, hcz36_5, hfz36_0, hfz36_1, hfz36_2, hfz36_3, hfz36_4, hfz36_5⟩ := cells6 BK729.out) | (go_at_call 59; (with_reducible refine (spec_BatchValid.calls k a1_0 a1_1 a1_2 a1_3 a1_4 _ _ l1_5 true _ ?side1 ?side2 A9.out).mono ?_); (case side1 => repeat (first | exact (Kd.V_reads' HO1_5.out).2.2 | (with_reducible refine Kd.C_alloc ?_ _) | (with_reducible refine Kd.C_drewN ?_ _) | (with_reducible refine Kd.C_drew ?_))); (case side2 => exact (Kd.V_reads' HO1_5.out).2.1); rintro e w37 ⟨rfl, hb⟩; replace HO0_5 := tVb HO0_5 hb; replace HO1_5 := tVb HO1_5 hb; replace BK728 := tBb BK728 hb; replace BK729 := tBb BK729 hb; replace BK730 := tBb BK730 hb; replace HB := tBs HB hb; (try clear hb); (try clear hb2); (try clear hk); (try clear hi); obtain ⟨hcz38_0, hcz38_1, hcz38_2, hcz38_3, hcz38_4, hcz38_5, hfz38_0, hfz38_1, hfz38_2, hfz38_3, hfz38_4, hfz38_5⟩ := cells6 BK728.out))
     go_meet
     case rel => exact ⟨_, (true), tr, H', ⟨by first | omega | exact Nat.le_refl _⟩, ⟨tVm HO0_5.out⟩, ⟨tVm HO1_5.out⟩, ⟨tH BK728.out⟩, ⟨tH BK729.out⟩, ⟨tH BK730.out⟩, ⟨zb⟩⟩
   ·replace c10 := Bool.eq_false_iff.mpr c10
    subst c10
    rw [if_neg (show ¬ (false = true) by decide)] at H
    have H' := Aside0.mk H
    clear H
    have hnb39 := NB728_729.out
    have hnc39 := NB729_728.out
    have hnb40 := NB728_730.out
    have hnc40 := NB730_728.out
    obtain ⟨hcz41_0, hcz41_1, hcz41_2, hcz41_3, hcz41_4, hcz41_5, hfz41_0, hfz41_1, hfz41_2, hfz41_3, hfz41_4, hfz41_5⟩ := cells6 BK728.out
    go_wp2_with (first | ((with_reducible refine gate_callee (f := 59) rfl ?_); refine goesL_ (some 8) rfl rfl Tryd.func59 (by kernel_rfl) rfl #[.agg #[.bool a0_0, .bool a0_1, .int .i64 a0_2, .int .i64 a0_3, .int .i64 a0_4, .slice A0_5 l0_5.length c0_5]] rfl tq ?_; (with_reducible refine (spec_BatchValid.calls k a0_0 a0_1 a0_2 a0_3 a0_4 _ _ l0_5 true _ ?side1 ?side2 A7.out).mono ?_); (case side1 => repeat (first | exact (Kd.V_reads' HO0_5.out).2.2 | (with_reducible refine Kd.C_alloc ?_ _) | (with_reducible refine Kd.C_drewN ?_ _) | (with_reducible refine Kd.C_drew ?_))); (case side2 => exact (Kd.V_reads' HO0_5.out).2.1); rintro e w42 ⟨rfl, hb⟩; refine ⟨_, rfl, ?_⟩; replace HO0_5 := tVb HO0_5 hb; replace HO1_5 := tVb HO1_5 hb; replace BK728 := tBb BK728 hb; replace BK729 := tBb BK729 hb; replace BK730 := tBb BK730 hb; replace HB := tBs HB hb; (try clear hb); (try clear hb2); (try clear hk); (try clear hi); have hnb43 := NB729_730.out; have hnc43 := NB730_729.out; obtain ⟨hcz44_0, hcz44_1, hcz44_2, hcz44_3, hcz44_4, hcz44_5, hfz44_0, hfz44_1, hfz44_2, hfz44_3, hfz44_4, hfz44_5⟩ := cells6 BK729.out) | (go_at_call 59; (with_reducible refine (spec_BatchValid.calls k a1_0 a1_1 a1_2 a1_3 a1_4 _ _ l1_5 false _ ?side1 ?side2 A9.out).mono ?_); (case side1 => repeat (first | exact (Kd.V_reads' HO1_5.out).2.2 | (with_reducible refine Kd.C_alloc ?_ _) | (with_reducible refine Kd.C_drewN ?_ _) | (with_reducible refine Kd.C_drew ?_))); (case side2 => exact (Kd.V_reads' HO1_5.out).2.1); rintro e w45 ⟨rfl, hb⟩; replace HO0_5 := tVb HO0_5 hb; replace HO1_5 := tVb HO1_5 hb; replace BK728 := tBb BK728 hb; replace BK729 := tBb BK729 hb; replace BK730 := tBb BK730 hb; replace HB := tBs HB hb; (try clear hb); (try clear hb2); (try clear hk); (try clear hi)))
    go_meet
    case rel => exact ⟨_, (true), tr, H', ⟨by first | omega | exact Nat.le_refl _⟩, ⟨tVm HO0_5.out⟩, ⟨tVm HO1_5.out⟩, ⟨tH BK728.out⟩, ⟨tH BK729.out⟩, ⟨tH BK730.out⟩, ⟨zb⟩⟩
  ·replace c8 := Bool.eq_false_iff.mpr c8
   subst c8
   rw [if_neg (show ¬ (false = true) by decide)] at H
   have H' := Aside0.mk H
   clear H
   have hnb46 := NB728_729.out
   have hnc46 := NB729_728.out
   have hnb47 := NB728_730.out
   have hnc47 := NB730_728.out
   obtain ⟨hcz48_0, hcz48_1, hcz48_2, hcz48_3, hcz48_4, hcz48_5, hfz48_0, hfz48_1, hfz48_2, hfz48_3, hfz48_4, hfz48_5⟩ := cells6 BK728.out
   go_wp2_with (first | ((with_reducible refine gate_callee (f := 59) rfl ?_); refine goesL_ (some 8) rfl rfl Tryd.func59 (by kernel_rfl) rfl #[.agg #[.bool a0_0, .bool a0_1, .int .i64 a0_2, .int .i64 a0_3, .int .i64 a0_4, .slice A0_5 l0_5.length c0_5]] rfl tq ?_; (with_reducible refine (spec_BatchValid.calls k a0_0 a0_1 a0_2 a0_3 a0_4 _ _ l0_5 false _ ?side1 ?side2 A7.out).mono ?_); (case side1 => repeat (first | exact (Kd.V_reads' HO0_5.out).2.2 | (with_reducible refine Kd.C_alloc ?_ _) | (with_reducible refine Kd.C_drewN ?_ _) | (with_reducible refine Kd.C_drew ?_))); (case side2 => exact (Kd.V_reads' HO0_5.out).2.1); rintro e w49 ⟨rfl, hb⟩; refine ⟨_, rfl, ?_⟩; replace HO0_5 := tVb HO0_5 hb; replace HO1_5 := tVb HO1_5 hb; replace BK728 := tBb BK728 hb; replace BK729 := tBb BK729 hb; replace BK730 := tBb BK730 hb; replace HB := tBs HB hb; (try clear hb); (try clear hb2); (try clear hk); (try clear hi)))
   go_meet
   case rel => exact ⟨_, (true), tr, H', ⟨by first | omega | exact Nat.le_refl _⟩, ⟨tVm HO0_5.out⟩, ⟨tVm HO1_5.out⟩, ⟨tH BK728.out⟩, ⟨tH BK729.out⟩, ⟨tH BK730.out⟩, ⟨zb⟩⟩
 case rest =>
  clear HC3
  obtain ⟨kq, x31_2, rfl, HA, HJ2, HO_729005, HO_730005, BK728, BK729, BK730, HB⟩ := hcut
  cases kq with
  | zero => exact absurd HA.out (by simp [spec_BatchJoin.j0])
  | succ kj2 =>
   have H := HA.out
   clear HA
   simp only [spec_BatchJoin.j0] at H
   by_cases c50 : x31_2 = true
   ·subst c50
    rw [if_pos rfl] at H
    simp only [Option.some.injEq, Prod.mk.injEq] at H
    obtain ⟨rfl, rfl, rfl, rfl, rfl, rfl, rfl⟩ := H
    have hnb51 := NB730_728.out
    have hnc51 := NB728_730.out
    have hnb52 := NB730_729.out
    have hnc52 := NB729_730.out
    obtain ⟨hcz53_0, hcz53_1, hcz53_2, hcz53_3, hcz53_4, hcz53_5, hfz53_0, hfz53_1, hfz53_2, hfz53_3, hfz53_4, hfz53_5⟩ := cells6 BK730.out
    go_wp2
    refine bodyPost_ret (results_ct rfl _ _ gb730 47 #[.bool false, .bool false, .int .i64 0, .int .i64 0, .int .i64 0, .slice none 0 0] (0, 0) _ rfl (tP BK730.out) Tryd.underlying47 rfl (by kernel_rfl)) rfl ?_
    exact ⟨_, by first | rfl | (simp [errW_none, errW_some] <;> rfl) | (simp [*, errW_none, errW_some] <;> rfl), by first | exact Kd.S_nil _ _ _ _ _ | exact Kd.N_nil _ _ _ _ _ | exact Kd.V_nil _ _ _ _ _ | exact Kd.Q_nil _ _ _ _ _ | exact Kd.R_nil _ _ _ _ _, zb⟩
   ·replace c50 := Bool.eq_false_iff.mpr c50
    subst c50
    rw [if_neg (show ¬ (false = true) by decide)] at H
    obtain ⟨y733, hy733⟩ : ∃ y_ : List (S33), y_ = (([] : List (S33))) := ⟨_, rfl⟩
    replace H : (if y733.length + l0_5.length < 1759218604441 then ((some (y733 ++ l0_5 : List (S33))).bind fun y736 => (if y736.length + l1_5.length < 1759218604441 then ((spec_l31Free.f kj2 a0_0 (y736 ++ l1_5)).bind fun bt742 => ((spec_BatchValid.f kj2 bt742.1 bt742.2.1 bt742.2.2.1 bt742.2.2.2.1 bt742.2.2.2.2.1 bt742.2.2.2.2.2).bind fun t751 => (if t751 = true then (some (bt742.1, bt742.2.1, bt742.2.2.1, bt742.2.2.2.1, bt742.2.2.2.2.1, bt742.2.2.2.2.2, true)) else (some (false, false, 0, 0, 0, ([] : List (S33)), false))))) else (none))) else (none)) = some (r1, r2, r3, r4, r5, r6, r7) := by first | (rw [hy733]; with_reducible exact H) | (have H2_ := (Option.bind_some _ _).symm.trans H; rw [hy733]; with_reducible exact H2_) | (have H2_ := (Option.bind_some _ _).symm.trans H; with_reducible exact H2_) | with_reducible exact H | (rw [hy733]; exact H) | exact H
    have Ny733 := Aside0.mk hy733
    clear hy733
    by_cases c54 : y733.length + l0_5.length < 1759218604441
    ·rw [if_pos c54] at H
     have LMc54 := Aside0.mk c54
     clear c54
     obtain ⟨y736, hy736⟩ : ∃ y_ : List (S33), y_ = (y733 ++ l0_5) := ⟨_, rfl⟩
     replace H : (if y736.length + l1_5.length < 1759218604441 then ((spec_l31Free.f kj2 a0_0 (y736 ++ l1_5)).bind fun bt742 => ((spec_BatchValid.f kj2 bt742.1 bt742.2.1 bt742.2.2.1 bt742.2.2.2.1 bt742.2.2.2.2.1 bt742.2.2.2.2.2).bind fun t751 => (if t751 = true then (some (bt742.1, bt742.2.1, bt742.2.2.1, bt742.2.2.2.1, bt742.2.2.2.2.1, bt742.2.2.2.2.2, true)) else (some (false, false, 0, 0, 0, ([] : List (S33)), false))))) else (none)) = some (r1, r2, r3, r4, r5, r6, r7) := by first | (rw [hy736]; with_reducible exact H) | (have H2_ := (Option.bind_some _ _).symm.trans H; rw [hy736]; with_reducible exact H2_) | (have H2_ := (Option.bind_some _ _).symm.trans H; with_reducible exact H2_) | with_reducible exact H | (rw [hy736]; exact H) | exact H
     have Ny736 := Aside0.mk hy736
     clear hy736
     by_cases c55 : y736.length + l1_5.length < 1759218604441
     ·rw [if_pos c55] at H
      have LMc55 := Aside0.mk c55
      clear c55
      obtain ⟨y739, hy739⟩ : ∃ y_ : List (S33), y_ = (y736 ++ l1_5) := ⟨_, rfl⟩
      replace H : ((spec_l31Free.f kj2 a0_0 y739).bind fun bt742 => ((spec_BatchValid.f kj2 bt742.1 bt742.2.1 bt742.2.2.1 bt742.2.2.2.1 bt742.2.2.2.2.1 bt742.2.2.2.2.2).bind fun t751 => (if t751 = true then (some (bt742.1, bt742.2.1, bt742.2.2.1, bt742.2.2.2.1, bt742.2.2.2.2.1, bt742.2.2.2.2.2, true)) else (some (false, false, 0, 0, 0, ([] : List (S33)), false))))) = some (r1, r2, r3, r4, r5, r6, r7) := by first | (rw [hy739]; with_reducible exact H) | (have H2_ := (Option.bind_some _ _).symm.trans H; rw [hy739]; with_reducible exact H2_) | (have H2_ := (Option.bind_some _ _).symm.trans H; with_reducible exact H2_) | with_reducible exact H | (rw [hy739]; exact H) | exact H
      have Ny739 := Aside0.mk hy739
      clear hy739
      replace H := tbe H
      obtain ⟨⟨t742, t743, t744, t745, t746, t747⟩, A56, H⟩ := H
      dsimp only at H
      replace H := tbe H
      obtain ⟨t751, A57, H⟩ := H
      by_cases c58 : t751 = true
      ·subst c58
       rw [if_pos rfl] at H
       simp only [Option.some.injEq, Prod.mk.injEq] at H
       obtain ⟨rfl, rfl, rfl, rfl, rfl, rfl, rfl⟩ := H
       try go_wp2
       replace HO_729005 := Aside0.mk (Kd.V_drew HO_729005.out)
       replace HO_730005 := Aside0.mk (Kd.V_drew HO_730005.out)
       replace BK728 := Aside0.mk (blk_drew BK728.out)
       replace BK729 := Aside0.mk (blk_drew BK729.out)
       replace BK730 := Aside0.mk (blk_drew BK730.out)
       replace HB := Aside0.mk (below_drew1 HB.out)
       refine start_ (n := 12) (S := fun w' => w'.cell? ⟨gb728, 0, none⟩ = some (.bool a0_0) ∧ w'.cell? ⟨gb728, 1, none⟩ = some (.bool a0_1) ∧ w'.cell? ⟨gb728, 2, none⟩ = some (.int .i64 a0_2) ∧ w'.cell? ⟨gb728, 3, none⟩ = some (.int .i64 a0_3) ∧ w'.cell? ⟨gb728, 4, none⟩ = some (.int .i64 a0_4) ∧ w'.cell? ⟨gb728, 5, none⟩ = some (.slice A0_5 l0_5.length c0_5) ∧ w'.cell? ⟨gb729, 0, none⟩ = some (.bool a1_0) ∧ w'.cell? ⟨gb729, 1, none⟩ = some (.bool a1_1) ∧ w'.cell? ⟨gb729, 2, none⟩ = some (.int .i64 a1_2) ∧ w'.cell? ⟨gb729, 3, none⟩ = some (.int .i64 a1_3) ∧ w'.cell? ⟨gb729, 4, none⟩ = some (.int .i64 a1_4) ∧ w'.cell? ⟨gb729, 5, none⟩ = some (.slice A1_5 l1_5.length c1_5)) (ds := []) #[false, false, false, false, false, false, false, false, false, false, false, false] (by kernel_rfl) rfl rfl ⟨(blk_cell BK728.out 0).trans rfl, (blk_cell BK728.out 1).trans rfl, (blk_cell BK728.out 2).trans rfl, (blk_cell BK728.out 3).trans rfl, (blk_cell BK728.out 4).trans rfl, (blk_cell BK728.out 5).trans rfl, (blk_cell BK729.out 0).trans rfl, (blk_cell BK729.out 1).trans rfl, (blk_cell BK729.out 2).trans rfl, (blk_cell BK729.out 3).trans rfl, (blk_cell BK729.out 4).trans rfl, (blk_cell BK729.out 5).trans rfl⟩ (fun hHeld => ?_); refine with_tabW spec_BatchJoin.tab3 spec_BatchJoin.bits3 (fun HT_ HW_ => ?_)
       generalize wc.drew = w59 at HO_729005 HO_730005 BK728 BK729 BK730 HB hHeld ⊢
       refine tpu 0 (some 33) #[true, false, false, false, false, false, false, false, false, false, false, false] ?_
       refine tpu 3 (some 36) #[true, false, false, true, false, false, false, false, false, false, false, false] ?_
       refine tpu 6 (some 39) #[true, false, false, true, false, false, true, false, false, false, false, false] ?_
       refine tta 1 (some 34) #[true, true, false, true, false, false, true, false, false, false, false, false] hHeld ?_ (hy := by rintro w' ⟨s0, s1, s2, s3, s4, s5, s6, s7, s8, s9, s10, s11⟩; go_simp; with_reducible rfl)
       refine tta 4 (some 37) #[true, true, false, true, true, false, true, false, false, false, false, false] hHeld ?_ (hy := by rintro w' ⟨s0, s1, s2, s3, s4, s5, s6, s7, s8, s9, s10, s11⟩; go_simp; with_reducible rfl)
       refine tta 7 (some 40) #[true, true, false, true, true, false, true, true, false, false, false, false] hHeld ?_ (hy := by rintro w' ⟨s0, s1, s2, s3, s4, s5, s6, s7, s8, s9, s10, s11⟩; go_simp; with_reducible rfl)
       refine join_ (σ := Value × Value × Value × Value × Nat) 1 #[true, true, true, true, true, true, true, true, true, true, true, false] (fun s_ => [(35, s_.1), (38, s_.2.1), (41, s_.2.2.1), (42, .agg #[.bool t742, .bool t743, .int .i64 t744, .int .i64 t745, .int .i64 t746, s_.2.2.2.1]), (6, .pointer (some ⟨s_.2.2.2.2, 0, none⟩))]) (fun s_ w' => (w'.cell? ⟨gb728, 0, none⟩ = some (.bool a0_0) ∧ w'.cell? ⟨gb728, 1, none⟩ = some (.bool a0_1) ∧ w'.cell? ⟨gb728, 2, none⟩ = some (.int .i64 a0_2) ∧ w'.cell? ⟨gb728, 3, none⟩ = some (.int .i64 a0_3) ∧ w'.cell? ⟨gb728, 4, none⟩ = some (.int .i64 a0_4) ∧ w'.cell? ⟨gb728, 5, none⟩ = some (.slice A0_5 l0_5.length c0_5) ∧ w'.cell? ⟨gb729, 0, none⟩ = some (.bool a1_0) ∧ w'.cell? ⟨gb729, 1, none⟩ = some (.bool a1_1) ∧ w'.cell? ⟨gb729, 2, none⟩ = some (.int .i64 a1_2) ∧ w'.cell? ⟨gb729, 3, none⟩ = some (.int .i64 a1_3) ∧ w'.cell? ⟨gb729, 4, none⟩ = some (.int .i64 a1_4) ∧ w'.cell? ⟨gb729, 5, none⟩ = some (.slice A1_5 l1_5.length c1_5)) ∧ (Kd.N k33 33 w' w.heap.size (fun k_ => ((P0_5_ k_ ∨ P1_5_ k_) ∨ w.heap.size ≤ k_) ∧ some k_ ≠ (s_.2.2.2.1 : Value).ownBlock ∧ k_ ≠ gb728 ∧ k_ ≠ gb729 ∧ k_ ≠ gb730 ∧ k_ ≠ s_.2.2.2.2) s_.2.2.1 y739) ∧ (Kd.N k33 33 w' w.heap.size (fun k_ => ((P0_5_ k_ ∨ P1_5_ k_) ∨ w.heap.size ≤ k_) ∧ some k_ ≠ (s_.2.2.1 : Value).ownBlock ∧ k_ ≠ gb728 ∧ k_ ≠ gb729 ∧ k_ ≠ gb730 ∧ k_ ≠ s_.2.2.2.2) s_.2.2.2.1 t747) ∧ (Kd.V k33 33 w' w.heap.size (fun k_ => ((P0_5_ k_ ∨ P1_5_ k_) ∨ w.heap.size ≤ k_) ∧ some k_ ≠ (s_.2.2.1 : Value).ownBlock ∧ some k_ ≠ (s_.2.2.2.1 : Value).ownBlock ∧ k_ ≠ gb728 ∧ k_ ≠ gb729 ∧ k_ ≠ gb730 ∧ k_ ≠ s_.2.2.2.2) (.slice A0_5 l0_5.length c0_5) l0_5) ∧ (Kd.V k33 33 w' w.heap.size (fun k_ => ((P0_5_ k_ ∨ P1_5_ k_) ∨ w.heap.size ≤ k_) ∧ some k_ ≠ (s_.2.2.1 : Value).ownBlock ∧ some k_ ≠ (s_.2.2.2.1 : Value).ownBlock ∧ k_ ≠ gb728 ∧ k_ ≠ gb729 ∧ k_ ≠ gb730 ∧ k_ ≠ s_.2.2.2.2) (.slice A1_5 l1_5.length c1_5) l1_5) ∧ (w'.heap[gb728]? = some (.cells #[.bool a0_0, .bool a0_1, .int .i64 a0_2, .int .i64 a0_3, .int .i64 a0_4, .slice A0_5 l0_5.length c0_5] 47 (0, 0))) ∧ (w'.heap[gb729]? = some (.cells #[.bool a1_0, .bool a1_1, .int .i64 a1_2, .int .i64 a1_3, .int .i64 a1_4, .slice A1_5 l1_5.length c1_5] 47 (0, 0))) ∧ (w'.heap[gb730]? = some (.cells #[.bool false, .bool false, .int .i64 0, .int .i64 0, .int .i64 0, .slice none 0 0] 47 (0, 0))) ∧ (w'.heap[s_.2.2.2.2]? = some (.cells #[.bool false, .bool false, .int .i64 0, .int .i64 0, .int .i64 0, .slice none 0 0] 47 (0, 0))) ∧ (w.heap.size ≤ s_.2.2.2.2) ∧ (w.heap.size ≤ s_.2.2.2.2) ∧ (gb728 ≠ s_.2.2.2.2) ∧ (s_.2.2.2.2 ≠ gb728) ∧ (gb729 ≠ s_.2.2.2.2) ∧ (s_.2.2.2.2 ≠ gb729) ∧ (gb730 ≠ s_.2.2.2.2) ∧ (s_.2.2.2.2 ≠ gb730) ∧ (Below w.heap.size w w')) ?_ ?_
       rotate_left
       ·intro hJ2_5_8_9_10
        refine join_ (σ := Value × Value × Value × Value) 2 #[true, true, true, true, true, true, true, true, true, true, false, false] (fun s_ => [(35, s_.1), (38, s_.2.1), (41, s_.2.2.1), (42, .agg #[.bool t742, .bool t743, .int .i64 t744, .int .i64 t745, .int .i64 t746, s_.2.2.2])]) (fun s_ w' => (w'.cell? ⟨gb728, 0, none⟩ = some (.bool a0_0) ∧ w'.cell? ⟨gb728, 1, none⟩ = some (.bool a0_1) ∧ w'.cell? ⟨gb728, 2, none⟩ = some (.int .i64 a0_2) ∧ w'.cell? ⟨gb728, 3, none⟩ = some (.int .i64 a0_3) ∧ w'.cell? ⟨gb728, 4, none⟩ = some (.int .i64 a0_4) ∧ w'.cell? ⟨gb728, 5, none⟩ = some (.slice A0_5 l0_5.length c0_5) ∧ w'.cell? ⟨gb729, 0, none⟩ = some (.bool a1_0) ∧ w'.cell? ⟨gb729, 1, none⟩ = some (.bool a1_1) ∧ w'.cell? ⟨gb729, 2, none⟩ = some (.int .i64 a1_2) ∧ w'.cell? ⟨gb729, 3, none⟩ = some (.int .i64 a1_3) ∧ w'.cell? ⟨gb729, 4, none⟩ = some (.int .i64 a1_4) ∧ w'.cell? ⟨gb729, 5, none⟩ = some (.slice A1_5 l1_5.length c1_5)) ∧ (Kd.N k33 33 w' w.heap.size (fun k_ => ((P0_5_ k_ ∨ P1_5_ k_) ∨ w.heap.size ≤ k_) ∧ some k_ ≠ (s_.2.2.2 : Value).ownBlock ∧ k_ ≠ gb728 ∧ k_ ≠ gb729 ∧ k_ ≠ gb730) s_.2.2.1 y739) ∧ (Kd.N k33 33 w' w.heap.size (fun k_ => ((P0_5_ k_ ∨ P1_5_ k_) ∨ w.heap.size ≤ k_) ∧ some k_ ≠ (s_.2.2.1 : Value).ownBlock ∧ k_ ≠ gb728 ∧ k_ ≠ gb729 ∧ k_ ≠ gb730) s_.2.2.2 t747) ∧ (Kd.V k33 33 w' w.heap.size (fun k_ => ((P0_5_ k_ ∨ P1_5_ k_) ∨ w.heap.size ≤ k_) ∧ some k_ ≠ (s_.2.2.1 : Value).ownBlock ∧ some k_ ≠ (s_.2.2.2 : Value).ownBlock ∧ k_ ≠ gb728 ∧ k_ ≠ gb729 ∧ k_ ≠ gb730) (.slice A0_5 l0_5.length c0_5) l0_5) ∧ (Kd.V k33 33 w' w.heap.size (fun k_ => ((P0_5_ k_ ∨ P1_5_ k_) ∨ w.heap.size ≤ k_) ∧ some k_ ≠ (s_.2.2.1 : Value).ownBlock ∧ some k_ ≠ (s_.2.2.2 : Value).ownBlock ∧ k_ ≠ gb728 ∧ k_ ≠ gb729 ∧ k_ ≠ gb730) (.slice A1_5 l1_5.length c1_5) l1_5) ∧ (w'.heap[gb728]? = some (.cells #[.bool a0_0, .bool a0_1, .int .i64 a0_2, .int .i64 a0_3, .int .i64 a0_4, .slice A0_5 l0_5.length c0_5] 47 (0, 0))) ∧ (w'.heap[gb729]? = some (.cells #[.bool a1_0, .bool a1_1, .int .i64 a1_2, .int .i64 a1_3, .int .i64 a1_4, .slice A1_5 l1_5.length c1_5] 47 (0, 0))) ∧ (w'.heap[gb730]? = some (.cells #[.bool false, .bool false, .int .i64 0, .int .i64 0, .int .i64 0, .slice none 0 0] 47 (0, 0))) ∧ (Below w.heap.size w w')) ?_ ?_
        rotate_left
        ·intro hJ2_5_8_9
         refine join_ (σ := Value × Value × Value × Nat) 2 #[true, true, true, true, true, true, true, true, true, false, true, false] (fun s_ => [(35, s_.1), (38, s_.2.1), (41, s_.2.2.1), (6, .pointer (some ⟨s_.2.2.2, 0, none⟩))]) (fun s_ w' => (w'.cell? ⟨gb728, 0, none⟩ = some (.bool a0_0) ∧ w'.cell? ⟨gb728, 1, none⟩ = some (.bool a0_1) ∧ w'.cell? ⟨gb728, 2, none⟩ = some (.int .i64 a0_2) ∧ w'.cell? ⟨gb728, 3, none⟩ = some (.int .i64 a0_3) ∧ w'.cell? ⟨gb728, 4, none⟩ = some (.int .i64 a0_4) ∧ w'.cell? ⟨gb728, 5, none⟩ = some (.slice A0_5 l0_5.length c0_5) ∧ w'.cell? ⟨gb729, 0, none⟩ = some (.bool a1_0) ∧ w'.cell? ⟨gb729, 1, none⟩ = some (.bool a1_1) ∧ w'.cell? ⟨gb729, 2, none⟩ = some (.int .i64 a1_2) ∧ w'.cell? ⟨gb729, 3, none⟩ = some (.int .i64 a1_3) ∧ w'.cell? ⟨gb729, 4, none⟩ = some (.int .i64 a1_4) ∧ w'.cell? ⟨gb729, 5, none⟩ = some (.slice A1_5 l1_5.length c1_5)) ∧ (Kd.N k33 33 w' w.heap.size (fun k_ => ((P0_5_ k_ ∨ P1_5_ k_) ∨ w.heap.size ≤ k_) ∧ k_ ≠ gb728 ∧ k_ ≠ gb729 ∧ k_ ≠ gb730 ∧ k_ ≠ s_.2.2.2) s_.2.2.1 y739) ∧ (Kd.V k33 33 w' w.heap.size (fun k_ => ((P0_5_ k_ ∨ P1_5_ k_) ∨ w.heap.size ≤ k_) ∧ some k_ ≠ (s_.2.2.1 : Value).ownBlock ∧ k_ ≠ gb728 ∧ k_ ≠ gb729 ∧ k_ ≠ gb730 ∧ k_ ≠ s_.2.2.2) (.slice A0_5 l0_5.length c0_5) l0_5) ∧ (Kd.V k33 33 w' w.heap.size (fun k_ => ((P0_5_ k_ ∨ P1_5_ k_) ∨ w.heap.size ≤ k_) ∧ some k_ ≠ (s_.2.2.1 : Value).ownBlock ∧ k_ ≠ gb728 ∧ k_ ≠ gb729 ∧ k_ ≠ gb730 ∧ k_ ≠ s_.2.2.2) (.slice A1_5 l1_5.length c1_5) l1_5) ∧ (w'.heap[gb728]? = some (.cells #[.bool a0_0, .bool a0_1, .int .i64 a0_2, .int .i64 a0_3, .int .i64 a0_4, .slice A0_5 l0_5.length c0_5] 47 (0, 0))) ∧ (w'.heap[gb729]? = some (.cells #[.bool a1_0, .bool a1_1, .int .i64 a1_2, .int .i64 a1_3, .int .i64 a1_4, .slice A1_5 l1_5.length c1_5] 47 (0, 0))) ∧ (w'.heap[gb730]? = some (.cells #[.bool false, .bool false, .int .i64 0, .int .i64 0, .int .i64 0, .slice none 0 0] 47 (0, 0))) ∧ (w'.heap[s_.2.2.2]? = some (.cells #[.bool false, .bool false, .int .i64 0, .int .i64 0, .int .i64 0, .slice none 0 0] 47 (0, 0))) ∧ (w.heap.size ≤ s_.2.2.2) ∧ (w.heap.size ≤ s_.2.2.2) ∧ (gb728 ≠ s_.2.2.2) ∧ (s_.2.2.2 ≠ gb728) ∧ (gb729 ≠ s_.2.2.2) ∧ (s_.2.2.2 ≠ gb729) ∧ (gb730 ≠ s_.2.2.2) ∧ (s_.2.2.2 ≠ gb730) ∧ (Below w.heap.size w w')) ?_ ?_
         rotate_left
         ·intro hJ2_5_8_10
          refine join_ (σ := Value × Value × Value) 3 #[true, true, true, true, true, true, true, true, true, false, false, false] (fun s_ => [(35, s_.1), (38, s_.2.1), (41, s_.2.2)]) (fun s_ w' => (w'.cell? ⟨gb728, 0, none⟩ = some (.bool a0_0) ∧ w'.cell? ⟨gb728, 1, none⟩ = some (.bool a0_1) ∧ w'.cell? ⟨gb728, 2, none⟩ = some (.int .i64 a0_2) ∧ w'.cell? ⟨gb728, 3, none⟩ = some (.int .i64 a0_3) ∧ w'.cell? ⟨gb728, 4, none⟩ = some (.int .i64 a0_4) ∧ w'.cell? ⟨gb728, 5, none⟩ = some (.slice A0_5 l0_5.length c0_5) ∧ w'.cell? ⟨gb729, 0, none⟩ = some (.bool a1_0) ∧ w'.cell? ⟨gb729, 1, none⟩ = some (.bool a1_1) ∧ w'.cell? ⟨gb729, 2, none⟩ = some (.int .i64 a1_2) ∧ w'.cell? ⟨gb729, 3, none⟩ = some (.int .i64 a1_3) ∧ w'.cell? ⟨gb729, 4, none⟩ = some (.int .i64 a1_4) ∧ w'.cell? ⟨gb729, 5, none⟩ = some (.slice A1_5 l1_5.length c1_5)) ∧ (Kd.N k33 33 w' w.heap.size (fun k_ => ((P0_5_ k_ ∨ P1_5_ k_) ∨ w.heap.size ≤ k_) ∧ k_ ≠ gb728 ∧ k_ ≠ gb729 ∧ k_ ≠ gb730) s_.2.2 y739) ∧ (Kd.V k33 33 w' w.heap.size (fun k_ => ((P0_5_ k_ ∨ P1_5_ k_) ∨ w.heap.size ≤ k_) ∧ some k_ ≠ (s_.2.2 : Value).ownBlock ∧ k_ ≠ gb728 ∧ k_ ≠ gb729 ∧ k_ ≠ gb730) (.slice A0_5 l0_5.length c0_5) l0_5) ∧ (Kd.V k33 33 w' w.heap.size (fun k_ => ((P0_5_ k_ ∨ P1_5_ k_) ∨ w.heap.size ≤ k_) ∧ some k_ ≠ (s_.2.2 : Value).ownBlock ∧ k_ ≠ gb728 ∧ k_ ≠ gb729 ∧ k_ ≠ gb730) (.slice A1_5 l1_5.length c1_5) l1_5) ∧ (w'.heap[gb728]? = some (.cells #[.bool a0_0, .bool a0_1, .int .i64 a0_2, .int .i64 a0_3, .int .i64 a0_4, .slice A0_5 l0_5.length c0_5] 47 (0, 0))) ∧ (w'.heap[gb729]? = some (.cells #[.bool a1_0, .bool a1_1, .int .i64 a1_2, .int .i64 a1_3, .int .i64 a1_4, .slice A1_5 l1_5.length c1_5] 47 (0, 0))) ∧ (w'.heap[gb730]? = some (.cells #[.bool false, .bool false, .int .i64 0, .int .i64 0, .int .i64 0, .slice none 0 0] 47 (0, 0))) ∧ (Below w.heap.size w w')) ?_ ?_
          rotate_left
          ·intro hJ2_5_8
           refine join_ (σ := Value × Value × Nat) 3 #[true, true, true, true, true, true, true, true, false, false, true, false] (fun s_ => [(35, s_.1), (38, s_.2.1), (6, .pointer (some ⟨s_.2.2, 0, none⟩))]) (fun s_ w' => (w'.cell? ⟨gb728, 0, none⟩ = some (.bool a0_0) ∧ w'.cell? ⟨gb728, 1, none⟩ = some (.bool a0_1) ∧ w'.cell? ⟨gb728, 2, none⟩ = some (.int .i64 a0_2) ∧ w'.cell? ⟨gb728, 3, none⟩ = some (.int .i64 a0_3) ∧ w'.cell? ⟨gb728, 4, none⟩ = some (.int .i64 a0_4) ∧ w'.cell? ⟨gb728, 5, none⟩ = some (.slice A0_5 l0_5.length c0_5) ∧ w'.cell? ⟨gb729, 0, none⟩ = some (.bool a1_0) ∧ w'.cell? ⟨gb729, 1, none⟩ = some (.bool a1_1) ∧ w'.cell? ⟨gb729, 2, none⟩ = some (.int .i64 a1_2) ∧ w'.cell? ⟨gb729, 3, none⟩ = some (.int .i64 a1_3) ∧ w'.cell? ⟨gb729, 4, none⟩ = some (.int .i64 a1_4) ∧ w'.cell? ⟨gb729, 5, none⟩ = some (.slice A1_5 l1_5.length c1_5)) ∧ (Kd.N k33 33 w' w.heap.size (fun k_ => ((P0_5_ k_ ∨ P1_5_ k_) ∨ w.heap.size ≤ k_) ∧ k_ ≠ gb728 ∧ k_ ≠ gb729 ∧ k_ ≠ gb730 ∧ k_ ≠ s_.2.2) s_.2.1 y736) ∧ (Kd.V k33 33 w' w.heap.size (fun k_ => ((P0_5_ k_ ∨ P1_5_ k_) ∨ w.heap.size ≤ k_) ∧ some k_ ≠ (s_.2.1 : Value).ownBlock ∧ k_ ≠ gb728 ∧ k_ ≠ gb729 ∧ k_ ≠ gb730 ∧ k_ ≠ s_.2.2) (.slice A0_5 l0_5.length c0_5) l0_5) ∧ (Kd.V k33 33 w' w.heap.size (fun k_ => ((P0_5_ k_ ∨ P1_5_ k_) ∨ w.heap.size ≤ k_) ∧ some k_ ≠ (s_.2.1 : Value).ownBlock ∧ k_ ≠ gb728 ∧ k_ ≠ gb729 ∧ k_ ≠ gb730 ∧ k_ ≠ s_.2.2) (.slice A1_5 l1_5.length c1_5) l1_5) ∧ (w'.heap[gb728]? = some (.cells #[.bool a0_0, .bool a0_1, .int .i64 a0_2, .int .i64 a0_3, .int .i64 a0_4, .slice A0_5 l0_5.length c0_5] 47 (0, 0))) ∧ (w'.heap[gb729]? = some (.cells #[.bool a1_0, .bool a1_1, .int .i64 a1_2, .int .i64 a1_3, .int .i64 a1_4, .slice A1_5 l1_5.length c1_5] 47 (0, 0))) ∧ (w'.heap[gb730]? = some (.cells #[.bool false, .bool false, .int .i64 0, .int .i64 0, .int .i64 0, .slice none 0 0] 47 (0, 0))) ∧ (w'.heap[s_.2.2]? = some (.cells #[.bool false, .bool false, .int .i64 0, .int .i64 0, .int .i64 0, .slice none 0 0] 47 (0, 0))) ∧ (w.heap.size ≤ s_.2.2) ∧ (w.heap.size ≤ s_.2.2) ∧ (gb728 ≠ s_.2.2) ∧ (s_.2.2 ≠ gb728) ∧ (gb729 ≠ s_.2.2) ∧ (s_.2.2 ≠ gb729) ∧ (gb730 ≠ s_.2.2) ∧ (s_.2.2 ≠ gb730) ∧ (Below w.heap.size w w')) ?_ ?_
           rotate_left
           ·intro hJ2_5_10
            refine join_ (σ := Value × Value) 4 #[true, true, true, true, true, true, true, true, false, false, false, false] (fun s_ => [(35, s_.1), (38, s_.2)]) (fun s_ w' => (w'.cell? ⟨gb728, 0, none⟩ = some (.bool a0_0) ∧ w'.cell? ⟨gb728, 1, none⟩ = some (.bool a0_1) ∧ w'.cell? ⟨gb728, 2, none⟩ = some (.int .i64 a0_2) ∧ w'.cell? ⟨gb728, 3, none⟩ = some (.int .i64 a0_3) ∧ w'.cell? ⟨gb728, 4, none⟩ = some (.int .i64 a0_4) ∧ w'.cell? ⟨gb728, 5, none⟩ = some (.slice A0_5 l0_5.length c0_5) ∧ w'.cell? ⟨gb729, 0, none⟩ = some (.bool a1_0) ∧ w'.cell? ⟨gb729, 1, none⟩ = some (.bool a1_1) ∧ w'.cell? ⟨gb729, 2, none⟩ = some (.int .i64 a1_2) ∧ w'.cell? ⟨gb729, 3, none⟩ = some (.int .i64 a1_3) ∧ w'.cell? ⟨gb729, 4, none⟩ = some (.int .i64 a1_4) ∧ w'.cell? ⟨gb729, 5, none⟩ = some (.slice A1_5 l1_5.length c1_5)) ∧ (Kd.N k33 33 w' w.heap.size (fun k_ => ((P0_5_ k_ ∨ P1_5_ k_) ∨ w.heap.size ≤ k_) ∧ k_ ≠ gb728 ∧ k_ ≠ gb729 ∧ k_ ≠ gb730) s_.2 y736) ∧ (Kd.V k33 33 w' w.heap.size (fun k_ => ((P0_5_ k_ ∨ P1_5_ k_) ∨ w.heap.size ≤ k_) ∧ some k_ ≠ (s_.2 : Value).ownBlock ∧ k_ ≠ gb728 ∧ k_ ≠ gb729 ∧ k_ ≠ gb730) (.slice A0_5 l0_5.length c0_5) l0_5) ∧ (Kd.V k33 33 w' w.heap.size (fun k_ => ((P0_5_ k_ ∨ P1_5_ k_) ∨ w.heap.size ≤ k_) ∧ some k_ ≠ (s_.2 : Value).ownBlock ∧ k_ ≠ gb728 ∧ k_ ≠ gb729 ∧ k_ ≠ gb730) (.slice A1_5 l1_5.length c1_5) l1_5) ∧ (w'.heap[gb728]? = some (.cells #[.bool a0_0, .bool a0_1, .int .i64 a0_2, .int .i64 a0_3, .int .i64 a0_4, .slice A0_5 l0_5.length c0_5] 47 (0, 0))) ∧ (w'.heap[gb729]? = some (.cells #[.bool a1_0, .bool a1_1, .int .i64 a1_2, .int .i64 a1_3, .int .i64 a1_4, .slice A1_5 l1_5.length c1_5] 47 (0, 0))) ∧ (w'.heap[gb730]? = some (.cells #[.bool false, .bool false, .int .i64 0, .int .i64 0, .int .i64 0, .slice none 0 0] 47 (0, 0))) ∧ (Below w.heap.size w w')) ?_ ?_
            rotate_left
            ·intro hJ2_5
             refine join_ (σ := Value × Nat) 4 #[true, true, true, true, true, false, true, true, false, false, true, false] (fun s_ => [(35, s_.1), (6, .pointer (some ⟨s_.2, 0, none⟩))]) (fun s_ w' => (w'.cell? ⟨gb728, 0, none⟩ = some (.bool a0_0) ∧ w'.cell? ⟨gb728, 1, none⟩ = some (.bool a0_1) ∧ w'.cell? ⟨gb728, 2, none⟩ = some (.int .i64 a0_2) ∧ w'.cell? ⟨gb728, 3, none⟩ = some (.int .i64 a0_3) ∧ w'.cell? ⟨gb728, 4, none⟩ = some (.int .i64 a0_4) ∧ w'.cell? ⟨gb728, 5, none⟩ = some (.slice A0_5 l0_5.length c0_5) ∧ w'.cell? ⟨gb729, 0, none⟩ = some (.bool a1_0) ∧ w'.cell? ⟨gb729, 1, none⟩ = some (.bool a1_1) ∧ w'.cell? ⟨gb729, 2, none⟩ = some (.int .i64 a1_2) ∧ w'.cell? ⟨gb729, 3, none⟩ = some (.int .i64 a1_3) ∧ w'.cell? ⟨gb729, 4, none⟩ = some (.int .i64 a1_4) ∧ w'.cell? ⟨gb729, 5, none⟩ = some (.slice A1_5 l1_5.length c1_5)) ∧ (Kd.N k33 33 w' w.heap.size (fun k_ => ((P0_5_ k_ ∨ P1_5_ k_) ∨ w.heap.size ≤ k_) ∧ k_ ≠ gb728 ∧ k_ ≠ gb729 ∧ k_ ≠ gb730 ∧ k_ ≠ s_.2) s_.1 y733) ∧ (Kd.V k33 33 w' w.heap.size (fun k_ => ((P0_5_ k_ ∨ P1_5_ k_) ∨ w.heap.size ≤ k_) ∧ some k_ ≠ (s_.1 : Value).ownBlock ∧ k_ ≠ gb728 ∧ k_ ≠ gb729 ∧ k_ ≠ gb730 ∧ k_ ≠ s_.2) (.slice A0_5 l0_5.length c0_5) l0_5) ∧ (Kd.V k33 33 w' w.heap.size (fun k_ => ((P0_5_ k_ ∨ P1_5_ k_) ∨ w.heap.size ≤ k_) ∧ some k_ ≠ (s_.1 : Value).ownBlock ∧ k_ ≠ gb728 ∧ k_ ≠ gb729 ∧ k_ ≠ gb730 ∧ k_ ≠ s_.2) (.slice A1_5 l1_5.length c1_5) l1_5) ∧ (w'.heap[gb728]? = some (.cells #[.bool a0_0, .bool a0_1, .int .i64 a0_2, .int .i64 a0_3, .int .i64 a0_4, .slice A0_5 l0_5.length c0_5] 47 (0, 0))) ∧ (w'.heap[gb729]? = some (.cells #[.bool a1_0, .bool a1_1, .int .i64 a1_2, .int .i64 a1_3, .int .i64 a1_4, .slice A1_5 l1_5.length c1_5] 47 (0, 0))) ∧ (w'.heap[gb730]? = some (.cells #[.bool false, .bool false, .int .i64 0, .int .i64 0, .int .i64 0, .slice none 0 0] 47 (0, 0))) ∧ (w'.heap[s_.2]? = some (.cells #[.bool false, .bool false, .int .i64 0, .int .i64 0, .int .i64 0, .slice none 0 0] 47 (0, 0))) ∧ (w.heap.size ≤ s_.2) ∧ (w.heap.size ≤ s_.2) ∧ (gb728 ≠ s_.2) ∧ (s_.2 ≠ gb728) ∧ (gb729 ≠ s_.2) ∧ (s_.2 ≠ gb729) ∧ (gb730 ≠ s_.2) ∧ (s_.2 ≠ gb730) ∧ (Below w.heap.size w w')) ?_ ?_
             rotate_left
             ·intro hJ2_10
              refine join_ (σ := Value) 5 #[true, true, true, true, true, false, true, true, false, false, false, false] (fun s_ => [(35, s_)]) (fun s_ w' => (w'.cell? ⟨gb728, 0, none⟩ = some (.bool a0_0) ∧ w'.cell? ⟨gb728, 1, none⟩ = some (.bool a0_1) ∧ w'.cell? ⟨gb728, 2, none⟩ = some (.int .i64 a0_2) ∧ w'.cell? ⟨gb728, 3, none⟩ = some (.int .i64 a0_3) ∧ w'.cell? ⟨gb728, 4, none⟩ = some (.int .i64 a0_4) ∧ w'.cell? ⟨gb728, 5, none⟩ = some (.slice A0_5 l0_5.length c0_5) ∧ w'.cell? ⟨gb729, 0, none⟩ = some (.bool a1_0) ∧ w'.cell? ⟨gb729, 1, none⟩ = some (.bool a1_1) ∧ w'.cell? ⟨gb729, 2, none⟩ = some (.int .i64 a1_2) ∧ w'.cell? ⟨gb729, 3, none⟩ = some (.int .i64 a1_3) ∧ w'.cell? ⟨gb729, 4, none⟩ = some (.int .i64 a1_4) ∧ w'.cell? ⟨gb729, 5, none⟩ = some (.slice A1_5 l1_5.length c1_5)) ∧ (Kd.N k33 33 w' w.heap.size (fun k_ => ((P0_5_ k_ ∨ P1_5_ k_) ∨ w.heap.size ≤ k_) ∧ k_ ≠ gb728 ∧ k_ ≠ gb729 ∧ k_ ≠ gb730) s_ y733) ∧ (Kd.V k33 33 w' w.heap.size (fun k_ => ((P0_5_ k_ ∨ P1_5_ k_) ∨ w.heap.size ≤ k_) ∧ some k_ ≠ (s_ : Value).ownBlock ∧ k_ ≠ gb728 ∧ k_ ≠ gb729 ∧ k_ ≠ gb730) (.slice A0_5 l0_5.length c0_5) l0_5) ∧ (Kd.V k33 33 w' w.heap.size (fun k_ => ((P0_5_ k_ ∨ P1_5_ k_) ∨ w.heap.size ≤ k_) ∧ some k_ ≠ (s_ : Value).ownBlock ∧ k_ ≠ gb728 ∧ k_ ≠ gb729 ∧ k_ ≠ gb730) (.slice A1_5 l1_5.length c1_5) l1_5) ∧ (w'.heap[gb728]? = some (.cells #[.bool a0_0, .bool a0_1, .int .i64 a0_2, .int .i64 a0_3, .int .i64 a0_4, .slice A0_5 l0_5.length c0_5] 47 (0, 0))) ∧ (w'.heap[gb729]? = some (.cells #[.bool a1_0, .bool a1_1, .int .i64 a1_2, .int .i64 a1_3, .int .i64 a1_4, .slice A1_5 l1_5.length c1_5] 47 (0, 0))) ∧ (w'.heap[gb730]? = some (.cells #[.bool false, .bool false, .int .i64 0, .int .i64 0, .int .i64 0, .slice none 0 0] 47 (0, 0))) ∧ (Below w.heap.size w w')) ?_ ?_
              rotate_left
              ·intro hJ2
               refine join_ (σ := Nat) 5 #[true, true, false, true, true, false, true, true, false, false, true, false] (fun s_ => [(6, .pointer (some ⟨s_, 0, none⟩))]) (fun s_ w' => (w'.cell? ⟨gb728, 0, none⟩ = some (.bool a0_0) ∧ w'.cell? ⟨gb728, 1, none⟩ = some (.bool a0_1) ∧ w'.cell? ⟨gb728, 2, none⟩ = some (.int .i64 a0_2) ∧ w'.cell? ⟨gb728, 3, none⟩ = some (.int .i64 a0_3) ∧ w'.cell? ⟨gb728, 4, none⟩ = some (.int .i64 a0_4) ∧ w'.cell? ⟨gb728, 5, none⟩ = some (.slice A0_5 l0_5.length c0_5) ∧ w'.cell? ⟨gb729, 0, none⟩ = some (.bool a1_0) ∧ w'.cell? ⟨gb729, 1, none⟩ = some (.bool a1_1) ∧ w'.cell? ⟨gb729, 2, none⟩ = some (.int .i64 a1_2) ∧ w'.cell? ⟨gb729, 3, none⟩ = some (.int .i64 a1_3) ∧ w'.cell? ⟨gb729, 4, none⟩ = some (.int .i64 a1_4) ∧ w'.cell? ⟨gb729, 5, none⟩ = some (.slice A1_5 l1_5.length c1_5)) ∧ (Kd.V k33 33 w' w.heap.size (fun k_ => ((P0_5_ k_ ∨ P1_5_ k_) ∨ w.heap.size ≤ k_) ∧ k_ ≠ gb728 ∧ k_ ≠ gb729 ∧ k_ ≠ gb730 ∧ k_ ≠ s_) (.slice A0_5 l0_5.length c0_5) l0_5) ∧ (Kd.V k33 33 w' w.heap.size (fun k_ => ((P0_5_ k_ ∨ P1_5_ k_) ∨ w.heap.size ≤ k_) ∧ k_ ≠ gb728 ∧ k_ ≠ gb729 ∧ k_ ≠ gb730 ∧ k_ ≠ s_) (.slice A1_5 l1_5.length c1_5) l1_5) ∧ (w'.heap[gb728]? = some (.cells #[.bool a0_0, .bool a0_1, .int .i64 a0_2, .int .i64 a0_3, .int .i64 a0_4, .slice A0_5 l0_5.length c0_5] 47 (0, 0))) ∧ (w'.heap[gb729]? = some (.cells #[.bool a1_0, .bool a1_1, .int .i64 a1_2, .int .i64 a1_3, .int .i64 a1_4, .slice A1_5 l1_5.length c1_5] 47 (0, 0))) ∧ (w'.heap[gb730]? = some (.cells #[.bool false, .bool false, .int .i64 0, .int .i64 0, .int .i64 0, .slice none 0 0] 47 (0, 0))) ∧ (w'.heap[s_]? = some (.cells #[.bool false, .bool false, .int .i64 0, .int .i64 0, .int .i64 0, .slice none 0 0] 47 (0, 0))) ∧ (w.heap.size ≤ s_) ∧ (w.heap.size ≤ s_) ∧ (gb728 ≠ s_) ∧ (s_ ≠ gb728) ∧ (gb729 ≠ s_) ∧ (s_ ≠ gb729) ∧ (gb730 ≠ s_) ∧ (s_ ≠ gb730) ∧ (Below w.heap.size w w')) ?_ ?_
               rotate_left
               ·intro hJ10
                refine two_ (i := 2) (j := 10) (Ni := some 35) (Nj := some 6) #[true, true, true, true, true, false, true, true, false, false, false, false] #[true, true, false, true, true, false, true, true, false, false, true, false] rfl rfl rfl rfl (two_of HT_.out (by kernel_rfl)) (by decide) (by decide) (fun K hK => ?_) (fun K hK => ?_)
                ·skip
                 refine Kd.N_lit_step k33 _ 33 ?hg (N' := 35) ?hd (xs := ([] : List (S33))) (inner := []) (ok := (fun k_ => ((P0_5_ k_ ∨ P1_5_ k_) ∨ w.heap.size ≤ k_) ∧ k_ ≠ gb728 ∧ k_ ≠ gb729 ∧ k_ ≠ gb730)) (okp := (fun k_ => ((P0_5_ k_ ∨ P1_5_ k_) ∨ w.heap.size ≤ k_) ∧ k_ ≠ gb728 ∧ k_ ≠ gb729 ∧ k_ ≠ gb730)) ?hr ?hp (fun _ hk => hk) ((show ∀ k_, w59.heap.size ≤ k_ → (fun k_ => ((P0_5_ k_ ∨ P1_5_ k_) ∨ w.heap.size ≤ k_) ∧ k_ ≠ gb728 ∧ k_ ≠ gb729 ∧ k_ ≠ gb730) k_ from fun k_ hk => ⟨(.inr (Nat.le_trans (below_size zb) hk)), tfB BK728 k_ hk, tfB BK729 k_ hk, tfB BK730 k_ hk⟩) _ (Nat.le_refl _)) (Below.refl _ _) (Nat.le_refl _) (by simp) ?_; (case hd => rfl); (case hg => rfl); (case hr => first | (go_simp; done) | (go_simp; rfl)); (case hp => exact (Reps.none _ _))
                 intro v734 w60 ho61 hb hg_ hnew_
                 clear hg_ hnew_
                 (first | rw [← Ny733.out] at ho61 | (simp only [Int.reduceToNat] at ho61; rw [← Ny733.out] at ho61))
                 replace HO_729005 := tVe HO_729005 ho61 hb
                 replace HO_730005 := tVe HO_730005 ho61 hb
                 have HO735 := tNl ho61 HB
                 replace BK728 := tBb BK728 hb
                 replace BK729 := tBb BK729 hb
                 replace BK730 := tBb BK730 hb
                 replace HB := tBs HB hb
                 clear hb ho61
                 refine hK.out _ _ ⟨(blk_cell BK728.out 0).trans rfl, (blk_cell BK728.out 1).trans rfl, (blk_cell BK728.out 2).trans rfl, (blk_cell BK728.out 3).trans rfl, (blk_cell BK728.out 4).trans rfl, (blk_cell BK728.out 5).trans rfl, (blk_cell BK729.out 0).trans rfl, (blk_cell BK729.out 1).trans rfl, (blk_cell BK729.out 2).trans rfl, (blk_cell BK729.out 3).trans rfl, (blk_cell BK729.out 4).trans rfl, (blk_cell BK729.out 5).trans rfl⟩ (fun hHeld => ?_)
                 clear hK K
                 refine tnm (some 35) ?_
                 exact tnx (hJ2 (v734) _ ⟨hHeld, (tN HO735.out), (tVm HO_729005.out), (tVm HO_730005.out), (tH BK728.out), (tH BK729.out), (tH BK730.out), zb⟩)
                ·skip
                 refine box_step ?hg (N := 6) ?hd (cs := #[.bool false, .bool false, .int .i64 0, .int .i64 0, .int .i64 0, .slice none 0 0]) (t := 47) ?hr ?_; (case hd => rfl); (case hg => rfl); (case hr => first | (go_simp; done) | (go_simp; rfl))
                 intro gb750 hg w60 hbox hb
                 replace HO_729005 := tVB HO_729005 hg hb
                 replace HO_730005 := tVB HO_730005 hg hb
                 have BK750 := Aside0.mk (hbox)
                 have GW750 := tge HB hg
                 have GE750 := tge HB hg
                 replace HB := tBs HB hb
                 have NB728_750 := tlt BK728 hg
                 have NB750_728 := tgt BK728 hg
                 replace BK728 := tBb BK728 hb
                 have NB729_750 := tlt BK729 hg
                 have NB750_729 := tgt BK729 hg
                 replace BK729 := tBb BK729 hb
                 have NB730_750 := tlt BK730 hg
                 have NB750_730 := tgt BK730 hg
                 replace BK730 := tBb BK730 hb
                 clear hb hbox hg
                 refine hK.out _ _ ⟨(blk_cell BK728.out 0).trans rfl, (blk_cell BK728.out 1).trans rfl, (blk_cell BK728.out 2).trans rfl, (blk_cell BK728.out 3).trans rfl, (blk_cell BK728.out 4).trans rfl, (blk_cell BK728.out 5).trans rfl, (blk_cell BK729.out 0).trans rfl, (blk_cell BK729.out 1).trans rfl, (blk_cell BK729.out 2).trans rfl, (blk_cell BK729.out 3).trans rfl, (blk_cell BK729.out 4).trans rfl, (blk_cell BK729.out 5).trans rfl⟩ (fun hHeld => ?_)
                 clear hK K
                 refine tnm (some 6) ?_
                 exact tnx (hJ10 (gb750) _ ⟨hHeld, (tVm HO_729005.out), (tVm HO_730005.out), (tH BK728.out), (tH BK729.out), (tH BK730.out), (tH BK750.out), GW750.out, GE750.out, NB728_750.out, NB750_728.out, NB729_750.out, NB750_729.out, NB730_750.out, NB750_730.out, zb⟩)
               ·skip
                rintro gb750 w61 ⟨hS_, h0_, h1_, h2_, h3_, h4_, h5_, h6_, h7_, h8_, h9_, h10_, h11_, h12_, h13_, h14_⟩
                have n0_ : Aside0 (Kd.V k33 33 w61 w.heap.size (fun k_ => ((P0_5_ k_ ∨ P1_5_ k_) ∨ w.heap.size ≤ k_) ∧ k_ ≠ gb728 ∧ k_ ≠ gb729 ∧ k_ ≠ gb730 ∧ k_ ≠ gb750) (.slice A0_5 l0_5.length c0_5) l0_5) := ⟨h0_⟩
                have n1_ : Aside0 (Kd.V k33 33 w61 w.heap.size (fun k_ => ((P0_5_ k_ ∨ P1_5_ k_) ∨ w.heap.size ≤ k_) ∧ k_ ≠ gb728 ∧ k_ ≠ gb729 ∧ k_ ≠ gb730 ∧ k_ ≠ gb750) (.slice A1_5 l1_5.length c1_5) l1_5) := ⟨h1_⟩
                have n2_ : Aside0 (w61.heap[gb728]? = some (.cells #[.bool a0_0, .bool a0_1, .int .i64 a0_2, .int .i64 a0_3, .int .i64 a0_4, .slice A0_5 l0_5.length c0_5] 47 (0, 0))) := ⟨h2_⟩
                have n3_ : Aside0 (w61.heap[gb729]? = some (.cells #[.bool a1_0, .bool a1_1, .int .i64 a1_2, .int .i64 a1_3, .int .i64 a1_4, .slice A1_5 l1_5.length c1_5] 47 (0, 0))) := ⟨h3_⟩
                have n4_ : Aside0 (w61.heap[gb730]? = some (.cells #[.bool false, .bool false, .int .i64 0, .int .i64 0, .int .i64 0, .slice none 0 0] 47 (0, 0))) := ⟨h4_⟩
                have n5_ : Aside0 (w61.heap[gb750]? = some (.cells #[.bool false, .bool false, .int .i64 0, .int .i64 0, .int .i64 0, .slice none 0 0] 47 (0, 0))) := ⟨h5_⟩
                have n6_ : Aside0 (w.heap.size ≤ gb750) := ⟨h6_⟩
                have n7_ : Aside0 (w.heap.size ≤ gb750) := ⟨h7_⟩
                have n8_ : Aside0 (gb728 ≠ gb750) := ⟨h8_⟩
                have n9_ : Aside0 (gb750 ≠ gb728) := ⟨h9_⟩
                have n10_ : Aside0 (gb729 ≠ gb750) := ⟨h10_⟩
                have n11_ : Aside0 (gb750 ≠ gb729) := ⟨h11_⟩
                have n12_ : Aside0 (gb730 ≠ gb750) := ⟨h12_⟩
                have n13_ : Aside0 (gb750 ≠ gb730) := ⟨h13_⟩
                have n14_ : Aside0 (Below w.heap.size w w61) := ⟨h14_⟩
                clear HO_729005
                clear HO_730005
                clear BK728
                clear BK729
                clear BK730
                clear HB
                clear h0_ h1_ h2_ h3_ h4_ h5_ h6_ h7_ h8_ h9_ h10_ h11_ h12_ h13_ h14_
                have HO_729005 := n0_
                have HO_730005 := n1_
                have BK728 := n2_
                have BK729 := n3_
                have BK730 := n4_
                have BK750 := n5_
                have GW750 := n6_
                have GE750 := n7_
                have NB728_750 := n8_
                have NB750_728 := n9_
                have NB729_750 := n10_
                have NB750_729 := n11_
                have NB730_750 := n12_
                have NB750_730 := n13_
                have HB := n14_
                clear n0_ n1_ n2_ n3_ n4_ n5_ n6_ n7_ n8_ n9_ n10_ n11_ n12_ n13_ n14_
                have hHeld : w61.cell? ⟨gb728, 0, none⟩ = some (.bool a0_0) ∧ w61.cell? ⟨gb728, 1, none⟩ = some (.bool a0_1) ∧ w61.cell? ⟨gb728, 2, none⟩ = some (.int .i64 a0_2) ∧ w61.cell? ⟨gb728, 3, none⟩ = some (.int .i64 a0_3) ∧ w61.cell? ⟨gb728, 4, none⟩ = some (.int .i64 a0_4) ∧ w61.cell? ⟨gb728, 5, none⟩ = some (.slice A0_5 l0_5.length c0_5) ∧ w61.cell? ⟨gb729, 0, none⟩ = some (.bool a1_0) ∧ w61.cell? ⟨gb729, 1, none⟩ = some (.bool a1_1) ∧ w61.cell? ⟨gb729, 2, none⟩ = some (.int .i64 a1_2) ∧ w61.cell? ⟨gb729, 3, none⟩ = some (.int .i64 a1_3) ∧ w61.cell? ⟨gb729, 4, none⟩ = some (.int .i64 a1_4) ∧ w61.cell? ⟨gb729, 5, none⟩ = some (.slice A1_5 l1_5.length c1_5) := hS_
                refine tnp ?_
                refine one_ (i := 2) (N := some 35) #[true, true, true, true, true, false, true, true, false, false, true, false] rfl rfl (one_of HT_.out (by kernel_rfl)) (by decide) (fun K hK => ?_)
                refine Kd.N_lit_step k33 _ 33 ?hg (N' := 35) ?hd (xs := ([] : List (S33))) (inner := []) (ok := (fun k_ => ((P0_5_ k_ ∨ P1_5_ k_) ∨ w.heap.size ≤ k_) ∧ k_ ≠ gb728 ∧ k_ ≠ gb729 ∧ k_ ≠ gb730 ∧ k_ ≠ gb750)) (okp := (fun k_ => ((P0_5_ k_ ∨ P1_5_ k_) ∨ w.heap.size ≤ k_) ∧ k_ ≠ gb728 ∧ k_ ≠ gb729 ∧ k_ ≠ gb730 ∧ k_ ≠ gb750)) ?hr ?hp (fun _ hk => hk) ((show ∀ k_, w61.heap.size ≤ k_ → (fun k_ => ((P0_5_ k_ ∨ P1_5_ k_) ∨ w.heap.size ≤ k_) ∧ k_ ≠ gb728 ∧ k_ ≠ gb729 ∧ k_ ≠ gb730 ∧ k_ ≠ gb750) k_ from fun k_ hk => ⟨(.inr (Nat.le_trans (below_size zb) hk)), tfB BK728 k_ hk, tfB BK729 k_ hk, tfB BK730 k_ hk, tfB BK750 k_ hk⟩) _ (Nat.le_refl _)) (Below.refl _ _) (Nat.le_refl _) (by simp) ?_; (case hd => rfl); (case hg => rfl); (case hr => first | (go_simp; done) | (go_simp; rfl)); (case hp => exact (Reps.none _ _))
                intro v734 w62 ho63 hb hg_ hnew_
                clear hg_ hnew_
                (first | rw [← Ny733.out] at ho63 | (simp only [Int.reduceToNat] at ho63; rw [← Ny733.out] at ho63))
                replace HO_729005 := tVe HO_729005 ho63 hb
                replace HO_730005 := tVe HO_730005 ho63 hb
                have HO735 := tNl ho63 HB
                replace BK728 := tBb BK728 hb
                replace BK729 := tBb BK729 hb
                replace BK730 := tBb BK730 hb
                replace BK750 := tBb BK750 hb
                replace HB := tBs HB hb
                clear hb ho63
                refine hK.out _ _ ⟨(blk_cell BK728.out 0).trans rfl, (blk_cell BK728.out 1).trans rfl, (blk_cell BK728.out 2).trans rfl, (blk_cell BK728.out 3).trans rfl, (blk_cell BK728.out 4).trans rfl, (blk_cell BK728.out 5).trans rfl, (blk_cell BK729.out 0).trans rfl, (blk_cell BK729.out 1).trans rfl, (blk_cell BK729.out 2).trans rfl, (blk_cell BK729.out 3).trans rfl, (blk_cell BK729.out 4).trans rfl, (blk_cell BK729.out 5).trans rfl⟩ (fun hHeld => ?_)
                clear hK K
                refine tnm (some 35) ?_
                exact tnx (hJ2_10 (v734, gb750) _ ⟨hHeld, (tN HO735.out), (tVm HO_729005.out), (tVm HO_730005.out), (tH BK728.out), (tH BK729.out), (tH BK730.out), (tH BK750.out), GW750.out, GE750.out, NB728_750.out, NB750_728.out, NB729_750.out, NB750_729.out, NB730_750.out, NB750_730.out, zb⟩)
              ·skip
               rintro v734 w62 ⟨hS_, h0_, h1_, h2_, h3_, h4_, h5_, h6_⟩
               have n0_ : Aside0 (Kd.N k33 33 w62 w.heap.size (fun k_ => ((P0_5_ k_ ∨ P1_5_ k_) ∨ w.heap.size ≤ k_) ∧ k_ ≠ gb728 ∧ k_ ≠ gb729 ∧ k_ ≠ gb730) v734 y733) := ⟨h0_⟩
               have n1_ : Aside0 (Kd.V k33 33 w62 w.heap.size (fun k_ => ((P0_5_ k_ ∨ P1_5_ k_) ∨ w.heap.size ≤ k_) ∧ some k_ ≠ (v734 : Value).ownBlock ∧ k_ ≠ gb728 ∧ k_ ≠ gb729 ∧ k_ ≠ gb730) (.slice A0_5 l0_5.length c0_5) l0_5) := ⟨h1_⟩
               have n2_ : Aside0 (Kd.V k33 33 w62 w.heap.size (fun k_ => ((P0_5_ k_ ∨ P1_5_ k_) ∨ w.heap.size ≤ k_) ∧ some k_ ≠ (v734 : Value).ownBlock ∧ k_ ≠ gb728 ∧ k_ ≠ gb729 ∧ k_ ≠ gb730) (.slice A1_5 l1_5.length c1_5) l1_5) := ⟨h2_⟩
               have n3_ : Aside0 (w62.heap[gb728]? = some (.cells #[.bool a0_0, .bool a0_1, .int .i64 a0_2, .int .i64 a0_3, .int .i64 a0_4, .slice A0_5 l0_5.length c0_5] 47 (0, 0))) := ⟨h3_⟩
               have n4_ : Aside0 (w62.heap[gb729]? = some (.cells #[.bool a1_0, .bool a1_1, .int .i64 a1_2, .int .i64 a1_3, .int .i64 a1_4, .slice A1_5 l1_5.length c1_5] 47 (0, 0))) := ⟨h4_⟩
               have n5_ : Aside0 (w62.heap[gb730]? = some (.cells #[.bool false, .bool false, .int .i64 0, .int .i64 0, .int .i64 0, .slice none 0 0] 47 (0, 0))) := ⟨h5_⟩
               have n6_ : Aside0 (Below w.heap.size w w62) := ⟨h6_⟩
               clear HO_729005
               clear HO_730005
               clear BK728
               clear BK729
               clear BK730
               clear HB
               clear h0_ h1_ h2_ h3_ h4_ h5_ h6_
               have HO735 := n0_
               have HO_729005 := n1_
               have HO_730005 := n2_
               have BK728 := n3_
               have BK729 := n4_
               have BK730 := n5_
               have HB := n6_
               clear n0_ n1_ n2_ n3_ n4_ n5_ n6_
               have hHeld : w62.cell? ⟨gb728, 0, none⟩ = some (.bool a0_0) ∧ w62.cell? ⟨gb728, 1, none⟩ = some (.bool a0_1) ∧ w62.cell? ⟨gb728, 2, none⟩ = some (.int .i64 a0_2) ∧ w62.cell? ⟨gb728, 3, none⟩ = some (.int .i64 a0_3) ∧ w62.cell? ⟨gb728, 4, none⟩ = some (.int .i64 a0_4) ∧ w62.cell? ⟨gb728, 5, none⟩ = some (.slice A0_5 l0_5.length c0_5) ∧ w62.cell? ⟨gb729, 0, none⟩ = some (.bool a1_0) ∧ w62.cell? ⟨gb729, 1, none⟩ = some (.bool a1_1) ∧ w62.cell? ⟨gb729, 2, none⟩ = some (.int .i64 a1_2) ∧ w62.cell? ⟨gb729, 3, none⟩ = some (.int .i64 a1_3) ∧ w62.cell? ⟨gb729, 4, none⟩ = some (.int .i64 a1_4) ∧ w62.cell? ⟨gb729, 5, none⟩ = some (.slice A1_5 l1_5.length c1_5) := hS_
               refine tnp ?_
               refine two_ (i := 5) (j := 10) (Ni := some 38) (Nj := some 6) #[true, true, true, true, true, true, true, true, false, false, false, false] #[true, true, true, true, true, false, true, true, false, false, true, false] rfl rfl rfl rfl (two_of HT_.out (by kernel_rfl)) (by decide) (by decide) (fun K hK => ?_) (fun K hK => ?_)
               ·skip
                refine Kd.N_append_rows_step k33 (w0 := w) w.heap.size (by rfl) (.tmp 35) (.tmp 37) 29 33 (.agg #[(.int .i64 0), (.int .i64 0), (.bool false), (.slice none 0 0), (.bool false), (.slice none 0 0)]) 80 rfl Tryd.underlying29 info33 rfl (by decide) (by omega) v734 y733 l0_5 _ _ _ (fun k_ => ((P0_5_ k_ ∨ P1_5_ k_) ∨ w.heap.size ≤ k_) ∧ k_ ≠ gb728 ∧ k_ ≠ gb729 ∧ k_ ≠ gb730) (fun k_ => ((fun k_ => ((P0_5_ k_ ∨ P1_5_ k_) ∨ w.heap.size ≤ k_) ∧ k_ ≠ gb728 ∧ k_ ≠ gb729 ∧ k_ ≠ gb730)) k_ ∧ some k_ ≠ (v734 : Value).ownBlock) rfl rfl ?aO ?aR (fun _ hk => hk) ?aF ?aB ?aS ?aL ?_
                (case aR => exact (by skip; exact Kd.V_F (Kd.V_mono (ok' := (fun k_ => ((fun k_ => ((P0_5_ k_ ∨ P1_5_ k_) ∨ w.heap.size ≤ k_) ∧ k_ ≠ gb728 ∧ k_ ≠ gb729 ∧ k_ ≠ gb730)) k_ ∧ some k_ ≠ (v734 : Value).ownBlock)) (HO_729005.out) (fun k_ hk => ⟨⟨hk.1, ⟨hk.2.2.1, ⟨hk.2.2.2.1, hk.2.2.2.2⟩⟩⟩, hk.2.1⟩))))
                (case aB => exact zb)
                (case aF => exact (fun k_ hk => ⟨(.inr (Nat.le_trans (below_size zb) hk)), tfB BK728 k_ hk, tfB BK729 k_ hk, tfB BK730 k_ hk⟩))
                (case aO => exact (tN HO735.out))
                (case aS => exact (below_size zb))
                (case aL => have := LMc54.out; omega)
                intro v737 w63 ho hb hg hat
                rw [← Ny736.out] at ho
                replace HO_729005 := Aside0.mk (Kd.V_afterv (ok := (fun k_ => ((P0_5_ k_ ∨ P1_5_ k_) ∨ w.heap.size ≤ k_) ∧ k_ ≠ gb728 ∧ k_ ≠ gb729 ∧ k_ ≠ gb730)) (tVm HO_729005.out) hg hat)
                replace HO_730005 := Aside0.mk (Kd.V_afterv (ok := (fun k_ => ((P0_5_ k_ ∨ P1_5_ k_) ∨ w.heap.size ≤ k_) ∧ k_ ≠ gb728 ∧ k_ ≠ gb729 ∧ k_ ≠ gb730)) (tVm HO_730005.out) hg hat)
                replace BK728 := Aside0.mk (blk_grown (tH BK728.out) hg (Kd.N_ne HO735.out BK728.out (by decide)))
                replace BK729 := Aside0.mk (blk_grown (tH BK729.out) hg (Kd.N_ne HO735.out BK729.out (by decide)))
                replace BK730 := Aside0.mk (blk_grown (tH BK730.out) hg (Kd.N_ne HO735.out BK730.out (by decide)))
                replace HB := Aside0.mk (hb)
                have HO738 := Aside0.mk (ho)
                clear HO735
                clear ho hb hg hat
                refine hK.out _ _ ⟨(blk_cell BK728.out 0).trans rfl, (blk_cell BK728.out 1).trans rfl, (blk_cell BK728.out 2).trans rfl, (blk_cell BK728.out 3).trans rfl, (blk_cell BK728.out 4).trans rfl, (blk_cell BK728.out 5).trans rfl, (blk_cell BK729.out 0).trans rfl, (blk_cell BK729.out 1).trans rfl, (blk_cell BK729.out 2).trans rfl, (blk_cell BK729.out 3).trans rfl, (blk_cell BK729.out 4).trans rfl, (blk_cell BK729.out 5).trans rfl⟩ (fun hHeld => ?_)
                clear hK K
                refine tnm (some 38) ?_
                exact tnx (hJ2_5 (v734, v737) _ ⟨hHeld, (tN HO738.out), (tVm HO_729005.out), (tVm HO_730005.out), (tH BK728.out), (tH BK729.out), (tH BK730.out), zb⟩)
               ·skip
                refine box_step ?hg (N := 6) ?hd (cs := #[.bool false, .bool false, .int .i64 0, .int .i64 0, .int .i64 0, .slice none 0 0]) (t := 47) ?hr ?_; (case hd => rfl); (case hg => rfl); (case hr => first | (go_simp; done) | (go_simp; rfl))
                intro gb750 hg w63 hbox hb
                replace HO_729005 := tVB HO_729005 hg hb
                replace HO_730005 := tVB HO_730005 hg hb
                replace HO735 := tNB HO735 hg hb
                have BK750 := Aside0.mk (hbox)
                have GW750 := tge HB hg
                have GE750 := tge HB hg
                replace HB := tBs HB hb
                have NB728_750 := tlt BK728 hg
                have NB750_728 := tgt BK728 hg
                replace BK728 := tBb BK728 hb
                have NB729_750 := tlt BK729 hg
                have NB750_729 := tgt BK729 hg
                replace BK729 := tBb BK729 hb
                have NB730_750 := tlt BK730 hg
                have NB750_730 := tgt BK730 hg
                replace BK730 := tBb BK730 hb
                clear hb hbox hg
                refine hK.out _ _ ⟨(blk_cell BK728.out 0).trans rfl, (blk_cell BK728.out 1).trans rfl, (blk_cell BK728.out 2).trans rfl, (blk_cell BK728.out 3).trans rfl, (blk_cell BK728.out 4).trans rfl, (blk_cell BK728.out 5).trans rfl, (blk_cell BK729.out 0).trans rfl, (blk_cell BK729.out 1).trans rfl, (blk_cell BK729.out 2).trans rfl, (blk_cell BK729.out 3).trans rfl, (blk_cell BK729.out 4).trans rfl, (blk_cell BK729.out 5).trans rfl⟩ (fun hHeld => ?_)
                clear hK K
                refine tnm (some 6) ?_
                exact tnx (hJ2_10 (v734, gb750) _ ⟨hHeld, (tNm HO735.out), (tVm HO_729005.out), (tVm HO_730005.out), (tH BK728.out), (tH BK729.out), (tH BK730.out), (tH BK750.out), GW750.out, GE750.out, NB728_750.out, NB750_728.out, NB729_750.out, NB750_729.out, NB730_750.out, NB750_730.out, zb⟩)
             ·skip
              rintro ⟨v734, gb750⟩ w63 ⟨hS_, h0_, h1_, h2_, h3_, h4_, h5_, h6_, h7_, h8_, h9_, h10_, h11_, h12_, h13_, h14_, h15_⟩
              have n0_ : Aside0 (Kd.N k33 33 w63 w.heap.size (fun k_ => ((P0_5_ k_ ∨ P1_5_ k_) ∨ w.heap.size ≤ k_) ∧ k_ ≠ gb728 ∧ k_ ≠ gb729 ∧ k_ ≠ gb730 ∧ k_ ≠ gb750) v734 y733) := ⟨h0_⟩
              have n1_ : Aside0 (Kd.V k33 33 w63 w.heap.size (fun k_ => ((P0_5_ k_ ∨ P1_5_ k_) ∨ w.heap.size ≤ k_) ∧ some k_ ≠ (v734 : Value).ownBlock ∧ k_ ≠ gb728 ∧ k_ ≠ gb729 ∧ k_ ≠ gb730 ∧ k_ ≠ gb750) (.slice A0_5 l0_5.length c0_5) l0_5) := ⟨h1_⟩
              have n2_ : Aside0 (Kd.V k33 33 w63 w.heap.size (fun k_ => ((P0_5_ k_ ∨ P1_5_ k_) ∨ w.heap.size ≤ k_) ∧ some k_ ≠ (v734 : Value).ownBlock ∧ k_ ≠ gb728 ∧ k_ ≠ gb729 ∧ k_ ≠ gb730 ∧ k_ ≠ gb750) (.slice A1_5 l1_5.length c1_5) l1_5) := ⟨h2_⟩
              have n3_ : Aside0 (w63.heap[gb728]? = some (.cells #[.bool a0_0, .bool a0_1, .int .i64 a0_2, .int .i64 a0_3, .int .i64 a0_4, .slice A0_5 l0_5.length c0_5] 47 (0, 0))) := ⟨h3_⟩
              have n4_ : Aside0 (w63.heap[gb729]? = some (.cells #[.bool a1_0, .bool a1_1, .int .i64 a1_2, .int .i64 a1_3, .int .i64 a1_4, .slice A1_5 l1_5.length c1_5] 47 (0, 0))) := ⟨h4_⟩
              have n5_ : Aside0 (w63.heap[gb730]? = some (.cells #[.bool false, .bool false, .int .i64 0, .int .i64 0, .int .i64 0, .slice none 0 0] 47 (0, 0))) := ⟨h5_⟩
              have n6_ : Aside0 (w63.heap[gb750]? = some (.cells #[.bool false, .bool false, .int .i64 0, .int .i64 0, .int .i64 0, .slice none 0 0] 47 (0, 0))) := ⟨h6_⟩
              have n7_ : Aside0 (w.heap.size ≤ gb750) := ⟨h7_⟩
              have n8_ : Aside0 (w.heap.size ≤ gb750) := ⟨h8_⟩
              have n9_ : Aside0 (gb728 ≠ gb750) := ⟨h9_⟩
              have n10_ : Aside0 (gb750 ≠ gb728) := ⟨h10_⟩
              have n11_ : Aside0 (gb729 ≠ gb750) := ⟨h11_⟩
              have n12_ : Aside0 (gb750 ≠ gb729) := ⟨h12_⟩
              have n13_ : Aside0 (gb730 ≠ gb750) := ⟨h13_⟩
              have n14_ : Aside0 (gb750 ≠ gb730) := ⟨h14_⟩
              have n15_ : Aside0 (Below w.heap.size w w63) := ⟨h15_⟩
              clear HO_729005
              clear HO_730005
              clear BK728
              clear BK729
              clear BK730
              clear HB
              clear h0_ h1_ h2_ h3_ h4_ h5_ h6_ h7_ h8_ h9_ h10_ h11_ h12_ h13_ h14_ h15_
              have HO735 := n0_
              have HO_729005 := n1_
              have HO_730005 := n2_
              have BK728 := n3_
              have BK729 := n4_
              have BK730 := n5_
              have BK750 := n6_
              have GW750 := n7_
              have GE750 := n8_
              have NB728_750 := n9_
              have NB750_728 := n10_
              have NB729_750 := n11_
              have NB750_729 := n12_
              have NB730_750 := n13_
              have NB750_730 := n14_
              have HB := n15_
              clear n0_ n1_ n2_ n3_ n4_ n5_ n6_ n7_ n8_ n9_ n10_ n11_ n12_ n13_ n14_ n15_
              have hHeld : w63.cell? ⟨gb728, 0, none⟩ = some (.bool a0_0) ∧ w63.cell? ⟨gb728, 1, none⟩ = some (.bool a0_1) ∧ w63.cell? ⟨gb728, 2, none⟩ = some (.int .i64 a0_2) ∧ w63.cell? ⟨gb728, 3, none⟩ = some (.int .i64 a0_3) ∧ w63.cell? ⟨gb728, 4, none⟩ = some (.int .i64 a0_4) ∧ w63.cell? ⟨gb728, 5, none⟩ = some (.slice A0_5 l0_5.length c0_5) ∧ w63.cell? ⟨gb729, 0, none⟩ = some (.bool a1_0) ∧ w63.cell? ⟨gb729, 1, none⟩ = some (.bool a1_1) ∧ w63.cell? ⟨gb729, 2, none⟩ = some (.int .i64 a1_2) ∧ w63.cell? ⟨gb729, 3, none⟩ = some (.int .i64 a1_3) ∧ w63.cell? ⟨gb729, 4, none⟩ = some (.int .i64 a1_4) ∧ w63.cell? ⟨gb729, 5, none⟩ = some (.slice A1_5 l1_5.length c1_5) := hS_
              refine tnp ?_
              refine one_ (i := 5) (N := some 38) #[true, true, true, true, true, true, true, true, false, false, true, false] rfl rfl (one_of HT_.out (by kernel_rfl)) (by decide) (fun K hK => ?_)
              refine Kd.N_append_rows_step k33 (w0 := w) w.heap.size (by rfl) (.tmp 35) (.tmp 37) 29 33 (.agg #[(.int .i64 0), (.int .i64 0), (.bool false), (.slice none 0 0), (.bool false), (.slice none 0 0)]) 80 rfl Tryd.underlying29 info33 rfl (by decide) (by omega) v734 y733 l0_5 _ _ _ (fun k_ => ((P0_5_ k_ ∨ P1_5_ k_) ∨ w.heap.size ≤ k_) ∧ k_ ≠ gb728 ∧ k_ ≠ gb729 ∧ k_ ≠ gb730 ∧ k_ ≠ gb750) (fun k_ => ((fun k_ => ((P0_5_ k_ ∨ P1_5_ k_) ∨ w.heap.size ≤ k_) ∧ k_ ≠ gb728 ∧ k_ ≠ gb729 ∧ k_ ≠ gb730 ∧ k_ ≠ gb750)) k_ ∧ some k_ ≠ (v734 : Value).ownBlock) rfl rfl ?aO ?aR (fun _ hk => hk) ?aF ?aB ?aS ?aL ?_
              (case aR => exact (by skip; exact Kd.V_F (Kd.V_mono (ok' := (fun k_ => ((fun k_ => ((P0_5_ k_ ∨ P1_5_ k_) ∨ w.heap.size ≤ k_) ∧ k_ ≠ gb728 ∧ k_ ≠ gb729 ∧ k_ ≠ gb730 ∧ k_ ≠ gb750)) k_ ∧ some k_ ≠ (v734 : Value).ownBlock)) (HO_729005.out) (fun k_ hk => ⟨⟨hk.1, ⟨hk.2.2.1, ⟨hk.2.2.2.1, ⟨hk.2.2.2.2.1, hk.2.2.2.2.2⟩⟩⟩⟩, hk.2.1⟩))))
              (case aB => exact zb)
              (case aF => exact (fun k_ hk => ⟨(.inr (Nat.le_trans (below_size zb) hk)), tfB BK728 k_ hk, tfB BK729 k_ hk, tfB BK730 k_ hk, tfB BK750 k_ hk⟩))
              (case aO => exact (tN HO735.out))
              (case aS => exact (below_size zb))
              (case aL => have := LMc54.out; omega)
              intro v737 w64 ho hb hg hat
              rw [← Ny736.out] at ho
              replace HO_729005 := Aside0.mk (Kd.V_afterv (ok := (fun k_ => ((P0_5_ k_ ∨ P1_5_ k_) ∨ w.heap.size ≤ k_) ∧ k_ ≠ gb728 ∧ k_ ≠ gb729 ∧ k_ ≠ gb730 ∧ k_ ≠ gb750)) (tVm HO_729005.out) hg hat)
              replace HO_730005 := Aside0.mk (Kd.V_afterv (ok := (fun k_ => ((P0_5_ k_ ∨ P1_5_ k_) ∨ w.heap.size ≤ k_) ∧ k_ ≠ gb728 ∧ k_ ≠ gb729 ∧ k_ ≠ gb730 ∧ k_ ≠ gb750)) (tVm HO_730005.out) hg hat)
              replace BK728 := Aside0.mk (blk_grown (tH BK728.out) hg (Kd.N_ne HO735.out BK728.out (by decide)))
              replace BK729 := Aside0.mk (blk_grown (tH BK729.out) hg (Kd.N_ne HO735.out BK729.out (by decide)))
              replace BK730 := Aside0.mk (blk_grown (tH BK730.out) hg (Kd.N_ne HO735.out BK730.out (by decide)))
              replace BK750 := Aside0.mk (blk_grown (tH BK750.out) hg (Kd.N_ne HO735.out BK750.out (by decide)))
              replace HB := Aside0.mk (hb)
              have HO738 := Aside0.mk (ho)
              clear HO735
              clear ho hb hg hat
              refine hK.out _ _ ⟨(blk_cell BK728.out 0).trans rfl, (blk_cell BK728.out 1).trans rfl, (blk_cell BK728.out 2).trans rfl, (blk_cell BK728.out 3).trans rfl, (blk_cell BK728.out 4).trans rfl, (blk_cell BK728.out 5).trans rfl, (blk_cell BK729.out 0).trans rfl, (blk_cell BK729.out 1).trans rfl, (blk_cell BK729.out 2).trans rfl, (blk_cell BK729.out 3).trans rfl, (blk_cell BK729.out 4).trans rfl, (blk_cell BK729.out 5).trans rfl⟩ (fun hHeld => ?_)
              clear hK K
              refine tnm (some 38) ?_
              exact tnx (hJ2_5_10 (v734, v737, gb750) _ ⟨hHeld, (tN HO738.out), (tVm HO_729005.out), (tVm HO_730005.out), (tH BK728.out), (tH BK729.out), (tH BK730.out), (tH BK750.out), GW750.out, GE750.out, NB728_750.out, NB750_728.out, NB729_750.out, NB750_729.out, NB730_750.out, NB750_730.out, zb⟩)
            ·skip
             rintro ⟨v734, v737⟩ w63 ⟨hS_, h0_, h1_, h2_, h3_, h4_, h5_, h6_⟩
             have n0_ : Aside0 (Kd.N k33 33 w63 w.heap.size (fun k_ => ((P0_5_ k_ ∨ P1_5_ k_) ∨ w.heap.size ≤ k_) ∧ k_ ≠ gb728 ∧ k_ ≠ gb729 ∧ k_ ≠ gb730) v737 y736) := ⟨h0_⟩
             have n1_ : Aside0 (Kd.V k33 33 w63 w.heap.size (fun k_ => ((P0_5_ k_ ∨ P1_5_ k_) ∨ w.heap.size ≤ k_) ∧ some k_ ≠ (v737 : Value).ownBlock ∧ k_ ≠ gb728 ∧ k_ ≠ gb729 ∧ k_ ≠ gb730) (.slice A0_5 l0_5.length c0_5) l0_5) := ⟨h1_⟩
             have n2_ : Aside0 (Kd.V k33 33 w63 w.heap.size (fun k_ => ((P0_5_ k_ ∨ P1_5_ k_) ∨ w.heap.size ≤ k_) ∧ some k_ ≠ (v737 : Value).ownBlock ∧ k_ ≠ gb728 ∧ k_ ≠ gb729 ∧ k_ ≠ gb730) (.slice A1_5 l1_5.length c1_5) l1_5) := ⟨h2_⟩
             have n3_ : Aside0 (w63.heap[gb728]? = some (.cells #[.bool a0_0, .bool a0_1, .int .i64 a0_2, .int .i64 a0_3, .int .i64 a0_4, .slice A0_5 l0_5.length c0_5] 47 (0, 0))) := ⟨h3_⟩
             have n4_ : Aside0 (w63.heap[gb729]? = some (.cells #[.bool a1_0, .bool a1_1, .int .i64 a1_2, .int .i64 a1_3, .int .i64 a1_4, .slice A1_5 l1_5.length c1_5] 47 (0, 0))) := ⟨h4_⟩
             have n5_ : Aside0 (w63.heap[gb730]? = some (.cells #[.bool false, .bool false, .int .i64 0, .int .i64 0, .int .i64 0, .slice none 0 0] 47 (0, 0))) := ⟨h5_⟩
             have n6_ : Aside0 (Below w.heap.size w w63) := ⟨h6_⟩
             clear HO_729005
             clear HO_730005
             clear BK728
             clear BK729
             clear BK730
             clear HB
             clear h0_ h1_ h2_ h3_ h4_ h5_ h6_
             have HO738 := n0_
             have HO_729005 := n1_
             have HO_730005 := n2_
             have BK728 := n3_
             have BK729 := n4_
             have BK730 := n5_
             have HB := n6_
             clear n0_ n1_ n2_ n3_ n4_ n5_ n6_
             have hHeld : w63.cell? ⟨gb728, 0, none⟩ = some (.bool a0_0) ∧ w63.cell? ⟨gb728, 1, none⟩ = some (.bool a0_1) ∧ w63.cell? ⟨gb728, 2, none⟩ = some (.int .i64 a0_2) ∧ w63.cell? ⟨gb728, 3, none⟩ = some (.int .i64 a0_3) ∧ w63.cell? ⟨gb728, 4, none⟩ = some (.int .i64 a0_4) ∧ w63.cell? ⟨gb728, 5, none⟩ = some (.slice A0_5 l0_5.length c0_5) ∧ w63.cell? ⟨gb729, 0, none⟩ = some (.bool a1_0) ∧ w63.cell? ⟨gb729, 1, none⟩ = some (.bool a1_1) ∧ w63.cell? ⟨gb729, 2, none⟩ = some (.int .i64 a1_2) ∧ w63.cell? ⟨gb729, 3, none⟩ = some (.int .i64 a1_3) ∧ w63.cell? ⟨gb729, 4, none⟩ = some (.int .i64 a1_4) ∧ w63.cell? ⟨gb729, 5, none⟩ = some (.slice A1_5 l1_5.length c1_5) := hS_
             refine tnp ?_
             refine two_ (i := 8) (j := 10) (Ni := some 41) (Nj := some 6) #[true, true, true, true, true, true, true, true, true, false, false, false] #[true, true, true, true, true, true, true, true, false, false, true, false] rfl rfl rfl rfl (two_of HT_.out (by kernel_rfl)) (by decide) (by decide) (fun K hK => ?_) (fun K hK => ?_)
             ·skip
              refine Kd.N_append_rows_step k33 (w0 := w) w.heap.size (by rfl) (.tmp 38) (.tmp 40) 29 33 (.agg #[(.int .i64 0), (.int .i64 0), (.bool false), (.slice none 0 0), (.bool false), (.slice none 0 0)]) 80 rfl Tryd.underlying29 info33 rfl (by decide) (by omega) v737 y736 l1_5 _ _ _ (fun k_ => ((P0_5_ k_ ∨ P1_5_ k_) ∨ w.heap.size ≤ k_) ∧ k_ ≠ gb728 ∧ k_ ≠ gb729 ∧ k_ ≠ gb730) (fun k_ => ((fun k_ => ((P0_5_ k_ ∨ P1_5_ k_) ∨ w.heap.size ≤ k_) ∧ k_ ≠ gb728 ∧ k_ ≠ gb729 ∧ k_ ≠ gb730)) k_ ∧ some k_ ≠ (v737 : Value).ownBlock) rfl rfl ?aO ?aR (fun _ hk => hk) ?aF ?aB ?aS ?aL ?_
              (case aR => exact (by skip; exact Kd.V_F (Kd.V_mono (ok' := (fun k_ => ((fun k_ => ((P0_5_ k_ ∨ P1_5_ k_) ∨ w.heap.size ≤ k_) ∧ k_ ≠ gb728 ∧ k_ ≠ gb729 ∧ k_ ≠ gb730)) k_ ∧ some k_ ≠ (v737 : Value).ownBlock)) (HO_730005.out) (fun k_ hk => ⟨⟨hk.1, ⟨hk.2.2.1, ⟨hk.2.2.2.1, hk.2.2.2.2⟩⟩⟩, hk.2.1⟩))))
              (case aB => exact zb)
              (case aF => exact (fun k_ hk => ⟨(.inr (Nat.le_trans (below_size zb) hk)), tfB BK728 k_ hk, tfB BK729 k_ hk, tfB BK730 k_ hk⟩))
              (case aO => exact (tN HO738.out))
              (case aS => exact (below_size zb))
              (case aL => have := LMc55.out; omega)
              intro v740 w64 ho hb hg hat
              rw [← Ny739.out] at ho
              replace HO_729005 := Aside0.mk (Kd.V_afterv (ok := (fun k_ => ((P0_5_ k_ ∨ P1_5_ k_) ∨ w.heap.size ≤ k_) ∧ k_ ≠ gb728 ∧ k_ ≠ gb729 ∧ k_ ≠ gb730)) (tVm HO_729005.out) hg hat)
              replace HO_730005 := Aside0.mk (Kd.V_afterv (ok := (fun k_ => ((P0_5_ k_ ∨ P1_5_ k_) ∨ w.heap.size ≤ k_) ∧ k_ ≠ gb728 ∧ k_ ≠ gb729 ∧ k_ ≠ gb730)) (tVm HO_730005.out) hg hat)
              replace BK728 := Aside0.mk (blk_grown (tH BK728.out) hg (Kd.N_ne HO738.out BK728.out (by decide)))
              replace BK729 := Aside0.mk (blk_grown (tH BK729.out) hg (Kd.N_ne HO738.out BK729.out (by decide)))
              replace BK730 := Aside0.mk (blk_grown (tH BK730.out) hg (Kd.N_ne HO738.out BK730.out (by decide)))
              replace HB := Aside0.mk (hb)
              have HO741 := Aside0.mk (ho)
              clear HO738
              clear ho hb hg hat
              refine hK.out _ _ ⟨(blk_cell BK728.out 0).trans rfl, (blk_cell BK728.out 1).trans rfl, (blk_cell BK728.out 2).trans rfl, (blk_cell BK728.out 3).trans rfl, (blk_cell BK728.out 4).trans rfl, (blk_cell BK728.out 5).trans rfl, (blk_cell BK729.out 0).trans rfl, (blk_cell BK729.out 1).trans rfl, (blk_cell BK729.out 2).trans rfl, (blk_cell BK729.out 3).trans rfl, (blk_cell BK729.out 4).trans rfl, (blk_cell BK729.out 5).trans rfl⟩ (fun hHeld => ?_)
              clear hK K
              refine tnm (some 41) ?_
              exact tnx (hJ2_5_8 (v734, v737, v740) _ ⟨hHeld, (tN HO741.out), (tVm HO_729005.out), (tVm HO_730005.out), (tH BK728.out), (tH BK729.out), (tH BK730.out), zb⟩)
             ·skip
              refine box_step ?hg (N := 6) ?hd (cs := #[.bool false, .bool false, .int .i64 0, .int .i64 0, .int .i64 0, .slice none 0 0]) (t := 47) ?hr ?_; (case hd => rfl); (case hg => rfl); (case hr => first | (go_simp; done) | (go_simp; rfl))
              intro gb750 hg w64 hbox hb
              replace HO_729005 := tVB HO_729005 hg hb
              replace HO_730005 := tVB HO_730005 hg hb
              replace HO738 := tNB HO738 hg hb
              have BK750 := Aside0.mk (hbox)
              have GW750 := tge HB hg
              have GE750 := tge HB hg
              replace HB := tBs HB hb
              have NB728_750 := tlt BK728 hg
              have NB750_728 := tgt BK728 hg
              replace BK728 := tBb BK728 hb
              have NB729_750 := tlt BK729 hg
              have NB750_729 := tgt BK729 hg
              replace BK729 := tBb BK729 hb
              have NB730_750 := tlt BK730 hg
              have NB750_730 := tgt BK730 hg
              replace BK730 := tBb BK730 hb
              clear hb hbox hg
              refine hK.out _ _ ⟨(blk_cell BK728.out 0).trans rfl, (blk_cell BK728.out 1).trans rfl, (blk_cell BK728.out 2).trans rfl, (blk_cell BK728.out 3).trans rfl, (blk_cell BK728.out 4).trans rfl, (blk_cell BK728.out 5).trans rfl, (blk_cell BK729.out 0).trans rfl, (blk_cell BK729.out 1).trans rfl, (blk_cell BK729.out 2).trans rfl, (blk_cell BK729.out 3).trans rfl, (blk_cell BK729.out 4).trans rfl, (blk_cell BK729.out 5).trans rfl⟩ (fun hHeld => ?_)
              clear hK K
              refine tnm (some 6) ?_
              exact tnx (hJ2_5_10 (v734, v737, gb750) _ ⟨hHeld, (tNm HO738.out), (tVm HO_729005.out), (tVm HO_730005.out), (tH BK728.out), (tH BK729.out), (tH BK730.out), (tH BK750.out), GW750.out, GE750.out, NB728_750.out, NB750_728.out, NB729_750.out, NB750_729.out, NB730_750.out, NB750_730.out, zb⟩)
           ·skip
            rintro ⟨v734, v737, gb750⟩ w64 ⟨hS_, h0_, h1_, h2_, h3_, h4_, h5_, h6_, h7_, h8_, h9_, h10_, h11_, h12_, h13_, h14_, h15_⟩
            have n0_ : Aside0 (Kd.N k33 33 w64 w.heap.size (fun k_ => ((P0_5_ k_ ∨ P1_5_ k_) ∨ w.heap.size ≤ k_) ∧ k_ ≠ gb728 ∧ k_ ≠ gb729 ∧ k_ ≠ gb730 ∧ k_ ≠ gb750) v737 y736) := ⟨h0_⟩
            have n1_ : Aside0 (Kd.V k33 33 w64 w.heap.size (fun k_ => ((P0_5_ k_ ∨ P1_5_ k_) ∨ w.heap.size ≤ k_) ∧ some k_ ≠ (v737 : Value).ownBlock ∧ k_ ≠ gb728 ∧ k_ ≠ gb729 ∧ k_ ≠ gb730 ∧ k_ ≠ gb750) (.slice A0_5 l0_5.length c0_5) l0_5) := ⟨h1_⟩
            have n2_ : Aside0 (Kd.V k33 33 w64 w.heap.size (fun k_ => ((P0_5_ k_ ∨ P1_5_ k_) ∨ w.heap.size ≤ k_) ∧ some k_ ≠ (v737 : Value).ownBlock ∧ k_ ≠ gb728 ∧ k_ ≠ gb729 ∧ k_ ≠ gb730 ∧ k_ ≠ gb750) (.slice A1_5 l1_5.length c1_5) l1_5) := ⟨h2_⟩
            have n3_ : Aside0 (w64.heap[gb728]? = some (.cells #[.bool a0_0, .bool a0_1, .int .i64 a0_2, .int .i64 a0_3, .int .i64 a0_4, .slice A0_5 l0_5.length c0_5] 47 (0, 0))) := ⟨h3_⟩
            have n4_ : Aside0 (w64.heap[gb729]? = some (.cells #[.bool a1_0, .bool a1_1, .int .i64 a1_2, .int .i64 a1_3, .int .i64 a1_4, .slice A1_5 l1_5.length c1_5] 47 (0, 0))) := ⟨h4_⟩
            have n5_ : Aside0 (w64.heap[gb730]? = some (.cells #[.bool false, .bool false, .int .i64 0, .int .i64 0, .int .i64 0, .slice none 0 0] 47 (0, 0))) := ⟨h5_⟩
            have n6_ : Aside0 (w64.heap[gb750]? = some (.cells #[.bool false, .bool false, .int .i64 0, .int .i64 0, .int .i64 0, .slice none 0 0] 47 (0, 0))) := ⟨h6_⟩
            have n7_ : Aside0 (w.heap.size ≤ gb750) := ⟨h7_⟩
            have n8_ : Aside0 (w.heap.size ≤ gb750) := ⟨h8_⟩
            have n9_ : Aside0 (gb728 ≠ gb750) := ⟨h9_⟩
            have n10_ : Aside0 (gb750 ≠ gb728) := ⟨h10_⟩
            have n11_ : Aside0 (gb729 ≠ gb750) := ⟨h11_⟩
            have n12_ : Aside0 (gb750 ≠ gb729) := ⟨h12_⟩
            have n13_ : Aside0 (gb730 ≠ gb750) := ⟨h13_⟩
            have n14_ : Aside0 (gb750 ≠ gb730) := ⟨h14_⟩
            have n15_ : Aside0 (Below w.heap.size w w64) := ⟨h15_⟩
            clear HO_729005
            clear HO_730005
            clear BK728
            clear BK729
            clear BK730
            clear HB
            clear h0_ h1_ h2_ h3_ h4_ h5_ h6_ h7_ h8_ h9_ h10_ h11_ h12_ h13_ h14_ h15_
            have HO738 := n0_
            have HO_729005 := n1_
            have HO_730005 := n2_
            have BK728 := n3_
            have BK729 := n4_
            have BK730 := n5_
            have BK750 := n6_
            have GW750 := n7_
            have GE750 := n8_
            have NB728_750 := n9_
            have NB750_728 := n10_
            have NB729_750 := n11_
            have NB750_729 := n12_
            have NB730_750 := n13_
            have NB750_730 := n14_
            have HB := n15_
            clear n0_ n1_ n2_ n3_ n4_ n5_ n6_ n7_ n8_ n9_ n10_ n11_ n12_ n13_ n14_ n15_
            have hHeld : w64.cell? ⟨gb728, 0, none⟩ = some (.bool a0_0) ∧ w64.cell? ⟨gb728, 1, none⟩ = some (.bool a0_1) ∧ w64.cell? ⟨gb728, 2, none⟩ = some (.int .i64 a0_2) ∧ w64.cell? ⟨gb728, 3, none⟩ = some (.int .i64 a0_3) ∧ w64.cell? ⟨gb728, 4, none⟩ = some (.int .i64 a0_4) ∧ w64.cell? ⟨gb728, 5, none⟩ = some (.slice A0_5 l0_5.length c0_5) ∧ w64.cell? ⟨gb729, 0, none⟩ = some (.bool a1_0) ∧ w64.cell? ⟨gb729, 1, none⟩ = some (.bool a1_1) ∧ w64.cell? ⟨gb729, 2, none⟩ = some (.int .i64 a1_2) ∧ w64.cell? ⟨gb729, 3, none⟩ = some (.int .i64 a1_3) ∧ w64.cell? ⟨gb729, 4, none⟩ = some (.int .i64 a1_4) ∧ w64.cell? ⟨gb729, 5, none⟩ = some (.slice A1_5 l1_5.length c1_5) := hS_
            refine tnp ?_
            refine one_ (i := 8) (N := some 41) #[true, true, true, true, true, true, true, true, true, false, true, false] rfl rfl (one_of HT_.out (by kernel_rfl)) (by decide) (fun K hK => ?_)
            refine Kd.N_append_rows_step k33 (w0 := w) w.heap.size (by rfl) (.tmp 38) (.tmp 40) 29 33 (.agg #[(.int .i64 0), (.int .i64 0), (.bool false), (.slice none 0 0), (.bool false), (.slice none 0 0)]) 80 rfl Tryd.underlying29 info33 rfl (by decide) (by omega) v737 y736 l1_5 _ _ _ (fun k_ => ((P0_5_ k_ ∨ P1_5_ k_) ∨ w.heap.size ≤ k_) ∧ k_ ≠ gb728 ∧ k_ ≠ gb729 ∧ k_ ≠ gb730 ∧ k_ ≠ gb750) (fun k_ => ((fun k_ => ((P0_5_ k_ ∨ P1_5_ k_) ∨ w.heap.size ≤ k_) ∧ k_ ≠ gb728 ∧ k_ ≠ gb729 ∧ k_ ≠ gb730 ∧ k_ ≠ gb750)) k_ ∧ some k_ ≠ (v737 : Value).ownBlock) rfl rfl ?aO ?aR (fun _ hk => hk) ?aF ?aB ?aS ?aL ?_
            (case aR => exact (by skip; exact Kd.V_F (Kd.V_mono (ok' := (fun k_ => ((fun k_ => ((P0_5_ k_ ∨ P1_5_ k_) ∨ w.heap.size ≤ k_) ∧ k_ ≠ gb728 ∧ k_ ≠ gb729 ∧ k_ ≠ gb730 ∧ k_ ≠ gb750)) k_ ∧ some k_ ≠ (v737 : Value).ownBlock)) (HO_730005.out) (fun k_ hk => ⟨⟨hk.1, ⟨hk.2.2.1, ⟨hk.2.2.2.1, ⟨hk.2.2.2.2.1, hk.2.2.2.2.2⟩⟩⟩⟩, hk.2.1⟩))))
            (case aB => exact zb)
            (case aF => exact (fun k_ hk => ⟨(.inr (Nat.le_trans (below_size zb) hk)), tfB BK728 k_ hk, tfB BK729 k_ hk, tfB BK730 k_ hk, tfB BK750 k_ hk⟩))
            (case aO => exact (tN HO738.out))
            (case aS => exact (below_size zb))
            (case aL => have := LMc55.out; omega)
            intro v740 w65 ho hb hg hat
            rw [← Ny739.out] at ho
            replace HO_729005 := Aside0.mk (Kd.V_afterv (ok := (fun k_ => ((P0_5_ k_ ∨ P1_5_ k_) ∨ w.heap.size ≤ k_) ∧ k_ ≠ gb728 ∧ k_ ≠ gb729 ∧ k_ ≠ gb730 ∧ k_ ≠ gb750)) (tVm HO_729005.out) hg hat)
            replace HO_730005 := Aside0.mk (Kd.V_afterv (ok := (fun k_ => ((P0_5_ k_ ∨ P1_5_ k_) ∨ w.heap.size ≤ k_) ∧ k_ ≠ gb728 ∧ k_ ≠ gb729 ∧ k_ ≠ gb730 ∧ k_ ≠ gb750)) (tVm HO_730005.out) hg hat)
            replace BK728 := Aside0.mk (blk_grown (tH BK728.out) hg (Kd.N_ne HO738.out BK728.out (by decide)))
            replace BK729 := Aside0.mk (blk_grown (tH BK729.out) hg (Kd.N_ne HO738.out BK729.out (by decide)))
            replace BK730 := Aside0.mk (blk_grown (tH BK730.out) hg (Kd.N_ne HO738.out BK730.out (by decide)))
            replace BK750 := Aside0.mk (blk_grown (tH BK750.out) hg (Kd.N_ne HO738.out BK750.out (by decide)))
            replace HB := Aside0.mk (hb)
            have HO741 := Aside0.mk (ho)
            clear HO738
            clear ho hb hg hat
            refine hK.out _ _ ⟨(blk_cell BK728.out 0).trans rfl, (blk_cell BK728.out 1).trans rfl, (blk_cell BK728.out 2).trans rfl, (blk_cell BK728.out 3).trans rfl, (blk_cell BK728.out 4).trans rfl, (blk_cell BK728.out 5).trans rfl, (blk_cell BK729.out 0).trans rfl, (blk_cell BK729.out 1).trans rfl, (blk_cell BK729.out 2).trans rfl, (blk_cell BK729.out 3).trans rfl, (blk_cell BK729.out 4).trans rfl, (blk_cell BK729.out 5).trans rfl⟩ (fun hHeld => ?_)
            clear hK K
            refine tnm (some 41) ?_
            exact tnx (hJ2_5_8_10 (v734, v737, v740, gb750) _ ⟨hHeld, (tN HO741.out), (tVm HO_729005.out), (tVm HO_730005.out), (tH BK728.out), (tH BK729.out), (tH BK730.out), (tH BK750.out), GW750.out, GE750.out, NB728_750.out, NB750_728.out, NB729_750.out, NB750_729.out, NB730_750.out, NB750_730.out, zb⟩)
          ·skip
           rintro ⟨v734, v737, v740⟩ w64 ⟨hS_, h0_, h1_, h2_, h3_, h4_, h5_, h6_⟩
           have n0_ : Aside0 (Kd.N k33 33 w64 w.heap.size (fun k_ => ((P0_5_ k_ ∨ P1_5_ k_) ∨ w.heap.size ≤ k_) ∧ k_ ≠ gb728 ∧ k_ ≠ gb729 ∧ k_ ≠ gb730) v740 y739) := ⟨h0_⟩
           have n1_ : Aside0 (Kd.V k33 33 w64 w.heap.size (fun k_ => ((P0_5_ k_ ∨ P1_5_ k_) ∨ w.heap.size ≤ k_) ∧ some k_ ≠ (v740 : Value).ownBlock ∧ k_ ≠ gb728 ∧ k_ ≠ gb729 ∧ k_ ≠ gb730) (.slice A0_5 l0_5.length c0_5) l0_5) := ⟨h1_⟩
           have n2_ : Aside0 (Kd.V k33 33 w64 w.heap.size (fun k_ => ((P0_5_ k_ ∨ P1_5_ k_) ∨ w.heap.size ≤ k_) ∧ some k_ ≠ (v740 : Value).ownBlock ∧ k_ ≠ gb728 ∧ k_ ≠ gb729 ∧ k_ ≠ gb730) (.slice A1_5 l1_5.length c1_5) l1_5) := ⟨h2_⟩
           have n3_ : Aside0 (w64.heap[gb728]? = some (.cells #[.bool a0_0, .bool a0_1, .int .i64 a0_2, .int .i64 a0_3, .int .i64 a0_4, .slice A0_5 l0_5.length c0_5] 47 (0, 0))) := ⟨h3_⟩
           have n4_ : Aside0 (w64.heap[gb729]? = some (.cells #[.bool a1_0, .bool a1_1, .int .i64 a1_2, .int .i64 a1_3, .int .i64 a1_4, .slice A1_5 l1_5.length c1_5] 47 (0, 0))) := ⟨h4_⟩
           have n5_ : Aside0 (w64.heap[gb730]? = some (.cells #[.bool false, .bool false, .int .i64 0, .int .i64 0, .int .i64 0, .slice none 0 0] 47 (0, 0))) := ⟨h5_⟩
           have n6_ : Aside0 (Below w.heap.size w w64) := ⟨h6_⟩
           clear HO_729005
           clear HO_730005
           clear BK728
           clear BK729
           clear BK730
           clear HB
           clear h0_ h1_ h2_ h3_ h4_ h5_ h6_
           have HO741 := n0_
           have HO_729005 := n1_
           have HO_730005 := n2_
           have BK728 := n3_
           have BK729 := n4_
           have BK730 := n5_
           have HB := n6_
           clear n0_ n1_ n2_ n3_ n4_ n5_ n6_
           have hHeld : w64.cell? ⟨gb728, 0, none⟩ = some (.bool a0_0) ∧ w64.cell? ⟨gb728, 1, none⟩ = some (.bool a0_1) ∧ w64.cell? ⟨gb728, 2, none⟩ = some (.int .i64 a0_2) ∧ w64.cell? ⟨gb728, 3, none⟩ = some (.int .i64 a0_3) ∧ w64.cell? ⟨gb728, 4, none⟩ = some (.int .i64 a0_4) ∧ w64.cell? ⟨gb728, 5, none⟩ = some (.slice A0_5 l0_5.length c0_5) ∧ w64.cell? ⟨gb729, 0, none⟩ = some (.bool a1_0) ∧ w64.cell? ⟨gb729, 1, none⟩ = some (.bool a1_1) ∧ w64.cell? ⟨gb729, 2, none⟩ = some (.int .i64 a1_2) ∧ w64.cell? ⟨gb729, 3, none⟩ = some (.int .i64 a1_3) ∧ w64.cell? ⟨gb729, 4, none⟩ = some (.int .i64 a1_4) ∧ w64.cell? ⟨gb729, 5, none⟩ = some (.slice A1_5 l1_5.length c1_5) := hS_
           obtain ⟨Ao65, co65, eo65⟩ := Kd.N_slice HO741.out
           (first | subst eo65 | (injection eo65 with f1_ f2_ f3_; have f4_ := f1_.symm; have f5_ := f3_.symm; clear f1_ f2_ f3_; subst f4_; subst f5_))
           refine tnp ?_
           refine two_ (i := 9) (j := 10) (Ni := some 42) (Nj := some 6) #[true, true, true, true, true, true, true, true, true, true, false, false] #[true, true, true, true, true, true, true, true, true, false, true, false] rfl rfl rfl rfl (two_of HT_.out (by kernel_rfl)) (by decide) (by decide) (fun K hK => ?_) (fun K hK => ?_)
           ·skip
            refine goes_ Tryd.func63 (by kernel_rfl) rfl #[.bool a0_0, .slice Ao65 y739.length co65] (by rfl) rfl rfl tq ?_
            with_reducible refine (spec_l31Free.calls kj2 a0_0 _ _ y739 t742 t743 t744 t745 t746 t747 _ ?side1 ?side2 A56.out).mono ?_
            (case side1 => repeat (first | exact (Kd.N_reads' HO741.out).2.2 | (with_reducible refine Kd.C_alloc ?_ _) | (with_reducible refine Kd.C_drewN ?_ _) | (with_reducible refine Kd.C_drew ?_)))
            (case side2 => exact (Kd.N_reads' HO741.out).2.1)
            rintro e w66 ⟨v748, rfl, ho0, hb⟩
            refine ⟨_, rfl, ?_⟩
            replace HO_729005 := tVe HO_729005 ho0 hb
            replace HO_730005 := tVe HO_730005 ho0 hb
            have HO749 := Aside0.mk (Kd.N_lower (Kd.N_mono (ok' := fun k_ => ((P0_5_ k_ ∨ P1_5_ k_) ∨ w.heap.size ≤ k_) ∧ some k_ ≠ (.slice Ao65 y739.length co65 : Value).ownBlock ∧ k_ ≠ gb728 ∧ k_ ≠ gb729 ∧ k_ ≠ gb730) (Kd.S_N (Kd.S_bound ho0)) (fun k_ hk_ => ⟨(.inr (Nat.le_trans (below_size zb) hk_.2.1)), (tfr HO741 k_ hk_.2.1), (tfB BK728 k_ hk_.2.1), (tfB BK729 k_ hk_.2.1), (tfB BK730 k_ hk_.2.1)⟩)) (below_size zb))
            replace HO741 := tNe HO741 ho0 hb
            replace BK728 := tBb BK728 hb
            replace BK729 := tBb BK729 hb
            replace BK730 := tBb BK730 hb
            replace HB := tBs HB hb
            (try clear hb)
            (try clear hb2)
            (try clear hk)
            (try clear hi)
            (try clear ho0)
            refine hK.out _ _ ⟨(blk_cell BK728.out 0).trans rfl, (blk_cell BK728.out 1).trans rfl, (blk_cell BK728.out 2).trans rfl, (blk_cell BK728.out 3).trans rfl, (blk_cell BK728.out 4).trans rfl, (blk_cell BK728.out 5).trans rfl, (blk_cell BK729.out 0).trans rfl, (blk_cell BK729.out 1).trans rfl, (blk_cell BK729.out 2).trans rfl, (blk_cell BK729.out 3).trans rfl, (blk_cell BK729.out 4).trans rfl, (blk_cell BK729.out 5).trans rfl⟩ (fun hHeld => ?_)
            clear hK K
            refine tnm (some 42) ?_
            exact tnx (hJ2_5_8_9 (v734, v737, .slice Ao65 y739.length co65, v748) _ ⟨hHeld, (tNm HO741.out), (tN HO749.out), (tVm HO_729005.out), (tVm HO_730005.out), (tH BK728.out), (tH BK729.out), (tH BK730.out), zb⟩)
           ·skip
            refine box_step ?hg (N := 6) ?hd (cs := #[.bool false, .bool false, .int .i64 0, .int .i64 0, .int .i64 0, .slice none 0 0]) (t := 47) ?hr ?_; (case hd => rfl); (case hg => rfl); (case hr => first | (go_simp; done) | (go_simp; rfl))
            intro gb750 hg w65 hbox hb
            replace HO_729005 := tVB HO_729005 hg hb
            replace HO_730005 := tVB HO_730005 hg hb
            replace HO741 := tNB HO741 hg hb
            have BK750 := Aside0.mk (hbox)
            have GW750 := tge HB hg
            have GE750 := tge HB hg
            replace HB := tBs HB hb
            have NB728_750 := tlt BK728 hg
            have NB750_728 := tgt BK728 hg
            replace BK728 := tBb BK728 hb
            have NB729_750 := tlt BK729 hg
            have NB750_729 := tgt BK729 hg
            replace BK729 := tBb BK729 hb
            have NB730_750 := tlt BK730 hg
            have NB750_730 := tgt BK730 hg
            replace BK730 := tBb BK730 hb
            clear hb hbox hg
            refine hK.out _ _ ⟨(blk_cell BK728.out 0).trans rfl, (blk_cell BK728.out 1).trans rfl, (blk_cell BK728.out 2).trans rfl, (blk_cell BK728.out 3).trans rfl, (blk_cell BK728.out 4).trans rfl, (blk_cell BK728.out 5).trans rfl, (blk_cell BK729.out 0).trans rfl, (blk_cell BK729.out 1).trans rfl, (blk_cell BK729.out 2).trans rfl, (blk_cell BK729.out 3).trans rfl, (blk_cell BK729.out 4).trans rfl, (blk_cell BK729.out 5).trans rfl⟩ (fun hHeld => ?_)
            clear hK K
            refine tnm (some 6) ?_
            exact tnx (hJ2_5_8_10 (v734, v737, (.slice Ao65 y739.length co65), gb750) _ ⟨hHeld, (tNm HO741.out), (tVm HO_729005.out), (tVm HO_730005.out), (tH BK728.out), (tH BK729.out), (tH BK730.out), (tH BK750.out), GW750.out, GE750.out, NB728_750.out, NB750_728.out, NB729_750.out, NB750_729.out, NB730_750.out, NB750_730.out, zb⟩)
         ·skip
          rintro ⟨v734, v737, v740, gb750⟩ w65 ⟨hS_, h0_, h1_, h2_, h3_, h4_, h5_, h6_, h7_, h8_, h9_, h10_, h11_, h12_, h13_, h14_, h15_⟩
          have n0_ : Aside0 (Kd.N k33 33 w65 w.heap.size (fun k_ => ((P0_5_ k_ ∨ P1_5_ k_) ∨ w.heap.size ≤ k_) ∧ k_ ≠ gb728 ∧ k_ ≠ gb729 ∧ k_ ≠ gb730 ∧ k_ ≠ gb750) v740 y739) := ⟨h0_⟩
          have n1_ : Aside0 (Kd.V k33 33 w65 w.heap.size (fun k_ => ((P0_5_ k_ ∨ P1_5_ k_) ∨ w.heap.size ≤ k_) ∧ some k_ ≠ (v740 : Value).ownBlock ∧ k_ ≠ gb728 ∧ k_ ≠ gb729 ∧ k_ ≠ gb730 ∧ k_ ≠ gb750) (.slice A0_5 l0_5.length c0_5) l0_5) := ⟨h1_⟩
          have n2_ : Aside0 (Kd.V k33 33 w65 w.heap.size (fun k_ => ((P0_5_ k_ ∨ P1_5_ k_) ∨ w.heap.size ≤ k_) ∧ some k_ ≠ (v740 : Value).ownBlock ∧ k_ ≠ gb728 ∧ k_ ≠ gb729 ∧ k_ ≠ gb730 ∧ k_ ≠ gb750) (.slice A1_5 l1_5.length c1_5) l1_5) := ⟨h2_⟩
          have n3_ : Aside0 (w65.heap[gb728]? = some (.cells #[.bool a0_0, .bool a0_1, .int .i64 a0_2, .int .i64 a0_3, .int .i64 a0_4, .slice A0_5 l0_5.length c0_5] 47 (0, 0))) := ⟨h3_⟩
          have n4_ : Aside0 (w65.heap[gb729]? = some (.cells #[.bool a1_0, .bool a1_1, .int .i64 a1_2, .int .i64 a1_3, .int .i64 a1_4, .slice A1_5 l1_5.length c1_5] 47 (0, 0))) := ⟨h4_⟩
          have n5_ : Aside0 (w65.heap[gb730]? = some (.cells #[.bool false, .bool false, .int .i64 0, .int .i64 0, .int .i64 0, .slice none 0 0] 47 (0, 0))) := ⟨h5_⟩
          have n6_ : Aside0 (w65.heap[gb750]? = some (.cells #[.bool false, .bool false, .int .i64 0, .int .i64 0, .int .i64 0, .slice none 0 0] 47 (0, 0))) := ⟨h6_⟩
          have n7_ : Aside0 (w.heap.size ≤ gb750) := ⟨h7_⟩
          have n8_ : Aside0 (w.heap.size ≤ gb750) := ⟨h8_⟩
          have n9_ : Aside0 (gb728 ≠ gb750) := ⟨h9_⟩
          have n10_ : Aside0 (gb750 ≠ gb728) := ⟨h10_⟩
          have n11_ : Aside0 (gb729 ≠ gb750) := ⟨h11_⟩
          have n12_ : Aside0 (gb750 ≠ gb729) := ⟨h12_⟩
          have n13_ : Aside0 (gb730 ≠ gb750) := ⟨h13_⟩
          have n14_ : Aside0 (gb750 ≠ gb730) := ⟨h14_⟩
          have n15_ : Aside0 (Below w.heap.size w w65) := ⟨h15_⟩
          clear HO_729005
          clear HO_730005
          clear BK728
          clear BK729
          clear BK730
          clear HB
          clear h0_ h1_ h2_ h3_ h4_ h5_ h6_ h7_ h8_ h9_ h10_ h11_ h12_ h13_ h14_ h15_
          have HO741 := n0_
          have HO_729005 := n1_
          have HO_730005 := n2_
          have BK728 := n3_
          have BK729 := n4_
          have BK730 := n5_
          have BK750 := n6_
          have GW750 := n7_
          have GE750 := n8_
          have NB728_750 := n9_
          have NB750_728 := n10_
          have NB729_750 := n11_
          have NB750_729 := n12_
          have NB730_750 := n13_
          have NB750_730 := n14_
          have HB := n15_
          clear n0_ n1_ n2_ n3_ n4_ n5_ n6_ n7_ n8_ n9_ n10_ n11_ n12_ n13_ n14_ n15_
          have hHeld : w65.cell? ⟨gb728, 0, none⟩ = some (.bool a0_0) ∧ w65.cell? ⟨gb728, 1, none⟩ = some (.bool a0_1) ∧ w65.cell? ⟨gb728, 2, none⟩ = some (.int .i64 a0_2) ∧ w65.cell? ⟨gb728, 3, none⟩ = some (.int .i64 a0_3) ∧ w65.cell? ⟨gb728, 4, none⟩ = some (.int .i64 a0_4) ∧ w65.cell? ⟨gb728, 5, none⟩ = some (.slice A0_5 l0_5.length c0_5) ∧ w65.cell? ⟨gb729, 0, none⟩ = some (.bool a1_0) ∧ w65.cell? ⟨gb729, 1, none⟩ = some (.bool a1_1) ∧ w65.cell? ⟨gb729, 2, none⟩ = some (.int .i64 a1_2) ∧ w65.cell? ⟨gb729, 3, none⟩ = some (.int .i64 a1_3) ∧ w65.cell? ⟨gb729, 4, none⟩ = some (.int .i64 a1_4) ∧ w65.cell? ⟨gb729, 5, none⟩ = some (.slice A1_5 l1_5.length c1_5) := hS_
          obtain ⟨Ao66, co66, eo66⟩ := Kd.N_slice HO741.out
          (first | subst eo66 | (injection eo66 with f1_ f2_ f3_; have f4_ := f1_.symm; have f5_ := f3_.symm; clear f1_ f2_ f3_; subst f4_; subst f5_))
          refine tnp ?_
          refine one_ (i := 9) (N := some 42) #[true, true, true, true, true, true, true, true, true, true, true, false] rfl rfl (one_of HT_.out (by kernel_rfl)) (by decide) (fun K hK => ?_)
          refine goes_ Tryd.func63 (by kernel_rfl) rfl #[.bool a0_0, .slice Ao66 y739.length co66] (by rfl) rfl rfl tq ?_
          with_reducible refine (spec_l31Free.calls kj2 a0_0 _ _ y739 t742 t743 t744 t745 t746 t747 _ ?side1 ?side2 A56.out).mono ?_
          (case side1 => repeat (first | exact (Kd.N_reads' HO741.out).2.2 | (with_reducible refine Kd.C_alloc ?_ _) | (with_reducible refine Kd.C_drewN ?_ _) | (with_reducible refine Kd.C_drew ?_)))
          (case side2 => exact (Kd.N_reads' HO741.out).2.1)
          rintro e w67 ⟨v748, rfl, ho0, hb⟩
          refine ⟨_, rfl, ?_⟩
          replace HO_729005 := tVe HO_729005 ho0 hb
          replace HO_730005 := tVe HO_730005 ho0 hb
          have HO749 := Aside0.mk (Kd.N_lower (Kd.N_mono (ok' := fun k_ => ((P0_5_ k_ ∨ P1_5_ k_) ∨ w.heap.size ≤ k_) ∧ some k_ ≠ (.slice Ao66 y739.length co66 : Value).ownBlock ∧ k_ ≠ gb728 ∧ k_ ≠ gb729 ∧ k_ ≠ gb730 ∧ k_ ≠ gb750) (Kd.S_N (Kd.S_bound ho0)) (fun k_ hk_ => ⟨(.inr (Nat.le_trans (below_size zb) hk_.2.1)), (tfr HO741 k_ hk_.2.1), (tfB BK728 k_ hk_.2.1), (tfB BK729 k_ hk_.2.1), (tfB BK730 k_ hk_.2.1), (tfB BK750 k_ hk_.2.1)⟩)) (below_size zb))
          replace HO741 := tNe HO741 ho0 hb
          replace BK728 := tBb BK728 hb
          replace BK729 := tBb BK729 hb
          replace BK730 := tBb BK730 hb
          replace BK750 := tBb BK750 hb
          replace HB := tBs HB hb
          (try clear hb)
          (try clear hb2)
          (try clear hk)
          (try clear hi)
          (try clear ho0)
          refine hK.out _ _ ⟨(blk_cell BK728.out 0).trans rfl, (blk_cell BK728.out 1).trans rfl, (blk_cell BK728.out 2).trans rfl, (blk_cell BK728.out 3).trans rfl, (blk_cell BK728.out 4).trans rfl, (blk_cell BK728.out 5).trans rfl, (blk_cell BK729.out 0).trans rfl, (blk_cell BK729.out 1).trans rfl, (blk_cell BK729.out 2).trans rfl, (blk_cell BK729.out 3).trans rfl, (blk_cell BK729.out 4).trans rfl, (blk_cell BK729.out 5).trans rfl⟩ (fun hHeld => ?_)
          clear hK K
          refine tnm (some 42) ?_
          exact tnx (hJ2_5_8_9_10 (v734, v737, .slice Ao66 y739.length co66, v748, gb750) _ ⟨hHeld, (tNm HO741.out), (tN HO749.out), (tVm HO_729005.out), (tVm HO_730005.out), (tH BK728.out), (tH BK729.out), (tH BK730.out), (tH BK750.out), GW750.out, GE750.out, NB728_750.out, NB750_728.out, NB729_750.out, NB750_729.out, NB730_750.out, NB750_730.out, zb⟩)
        ·skip
         rintro ⟨v734, v737, v740, v748⟩ w66 ⟨hS_, h0_, h1_, h2_, h3_, h4_, h5_, h6_, h7_⟩
         have n0_ : Aside0 (Kd.N k33 33 w66 w.heap.size (fun k_ => ((P0_5_ k_ ∨ P1_5_ k_) ∨ w.heap.size ≤ k_) ∧ some k_ ≠ (v748 : Value).ownBlock ∧ k_ ≠ gb728 ∧ k_ ≠ gb729 ∧ k_ ≠ gb730) v740 y739) := ⟨h0_⟩
         have n1_ : Aside0 (Kd.N k33 33 w66 w.heap.size (fun k_ => ((P0_5_ k_ ∨ P1_5_ k_) ∨ w.heap.size ≤ k_) ∧ some k_ ≠ (v740 : Value).ownBlock ∧ k_ ≠ gb728 ∧ k_ ≠ gb729 ∧ k_ ≠ gb730) v748 t747) := ⟨h1_⟩
         have n2_ : Aside0 (Kd.V k33 33 w66 w.heap.size (fun k_ => ((P0_5_ k_ ∨ P1_5_ k_) ∨ w.heap.size ≤ k_) ∧ some k_ ≠ (v740 : Value).ownBlock ∧ some k_ ≠ (v748 : Value).ownBlock ∧ k_ ≠ gb728 ∧ k_ ≠ gb729 ∧ k_ ≠ gb730) (.slice A0_5 l0_5.length c0_5) l0_5) := ⟨h2_⟩
         have n3_ : Aside0 (Kd.V k33 33 w66 w.heap.size (fun k_ => ((P0_5_ k_ ∨ P1_5_ k_) ∨ w.heap.size ≤ k_) ∧ some k_ ≠ (v740 : Value).ownBlock ∧ some k_ ≠ (v748 : Value).ownBlock ∧ k_ ≠ gb728 ∧ k_ ≠ gb729 ∧ k_ ≠ gb730) (.slice A1_5 l1_5.length c1_5) l1_5) := ⟨h3_⟩
         have n4_ : Aside0 (w66.heap[gb728]? = some (.cells #[.bool a0_0, .bool a0_1, .int .i64 a0_2, .int .i64 a0_3, .int .i64 a0_4, .slice A0_5 l0_5.length c0_5] 47 (0, 0))) := ⟨h4_⟩
         have n5_ : Aside0 (w66.heap[gb729]? = some (.cells #[.bool a1_0, .bool a1_1, .int .i64 a1_2, .int .i64 a1_3, .int .i64 a1_4, .slice A1_5 l1_5.length c1_5] 47 (0, 0))) := ⟨h5_⟩
         have n6_ : Aside0 (w66.heap[gb730]? = some (.cells #[.bool false, .bool false, .int .i64 0, .int .i64 0, .int .i64 0, .slice none 0 0] 47 (0, 0))) := ⟨h6_⟩
         have n7_ : Aside0 (Below w.heap.size w w66) := ⟨h7_⟩
         clear HO_729005
         clear HO_730005
         clear BK728
         clear BK729
         clear BK730
         clear HB
         clear h0_ h1_ h2_ h3_ h4_ h5_ h6_ h7_
         have HO741 := n0_
         have HO749 := n1_
         have HO_729005 := n2_
         have HO_730005 := n3_
         have BK728 := n4_
         have BK729 := n5_
         have BK730 := n6_
         have HB := n7_
         clear n0_ n1_ n2_ n3_ n4_ n5_ n6_ n7_
         have hHeld : w66.cell? ⟨gb728, 0, none⟩ = some (.bool a0_0) ∧ w66.cell? ⟨gb728, 1, none⟩ = some (.bool a0_1) ∧ w66.cell? ⟨gb728, 2, none⟩ = some (.int .i64 a0_2) ∧ w66.cell? ⟨gb728, 3, none⟩ = some (.int .i64 a0_3) ∧ w66.cell? ⟨gb728, 4, none⟩ = some (.int .i64 a0_4) ∧ w66.cell? ⟨gb728, 5, none⟩ = some (.slice A0_5 l0_5.length c0_5) ∧ w66.cell? ⟨gb729, 0, none⟩ = some (.bool a1_0) ∧ w66.cell? ⟨gb729, 1, none⟩ = some (.bool a1_1) ∧ w66.cell? ⟨gb729, 2, none⟩ = some (.int .i64 a1_2) ∧ w66.cell? ⟨gb729, 3, none⟩ = some (.int .i64 a1_3) ∧ w66.cell? ⟨gb729, 4, none⟩ = some (.int .i64 a1_4) ∧ w66.cell? ⟨gb729, 5, none⟩ = some (.slice A1_5 l1_5.length c1_5) := hS_
         refine tnp ?_
         refine one_ (i := 10) (N := some 6) #[true, true, true, true, true, true, true, true, true, true, true, false] rfl rfl (one_of HT_.out (by kernel_rfl)) (by decide) (fun K hK => ?_)
         refine box_step ?hg (N := 6) ?hd (cs := #[.bool false, .bool false, .int .i64 0, .int .i64 0, .int .i64 0, .slice none 0 0]) (t := 47) ?hr ?_; (case hd => rfl); (case hg => rfl); (case hr => first | (go_simp; done) | (go_simp; rfl))
         intro gb750 hg w67 hbox hb
         replace HO_729005 := tVB HO_729005 hg hb
         replace HO_730005 := tVB HO_730005 hg hb
         replace HO741 := tNB HO741 hg hb
         replace HO749 := tNB HO749 hg hb
         have BK750 := Aside0.mk (hbox)
         have GW750 := tge HB hg
         have GE750 := tge HB hg
         replace HB := tBs HB hb
         have NB728_750 := tlt BK728 hg
         have NB750_728 := tgt BK728 hg
         replace BK728 := tBb BK728 hb
         have NB729_750 := tlt BK729 hg
         have NB750_729 := tgt BK729 hg
         replace BK729 := tBb BK729 hb
         have NB730_750 := tlt BK730 hg
         have NB750_730 := tgt BK730 hg
         replace BK730 := tBb BK730 hb
         clear hb hbox hg
         refine hK.out _ _ ⟨(blk_cell BK728.out 0).trans rfl, (blk_cell BK728.out 1).trans rfl, (blk_cell BK728.out 2).trans rfl, (blk_cell BK728.out 3).trans rfl, (blk_cell BK728.out 4).trans rfl, (blk_cell BK728.out 5).trans rfl, (blk_cell BK729.out 0).trans rfl, (blk_cell BK729.out 1).trans rfl, (blk_cell BK729.out 2).trans rfl, (blk_cell BK729.out 3).trans rfl, (blk_cell BK729.out 4).trans rfl, (blk_cell BK729.out 5).trans rfl⟩ (fun hHeld => ?_)
         clear hK K
         refine tnm (some 6) ?_
         exact tnx (hJ2_5_8_9_10 (v734, v737, v740, v748, gb750) _ ⟨hHeld, (tNm HO741.out), (tNm HO749.out), (tVm HO_729005.out), (tVm HO_730005.out), (tH BK728.out), (tH BK729.out), (tH BK730.out), (tH BK750.out), GW750.out, GE750.out, NB728_750.out, NB750_728.out, NB729_750.out, NB750_729.out, NB730_750.out, NB750_730.out, zb⟩)
       rintro ⟨v734, v737, v740, v748, gb750⟩ w67 ⟨hS_, h0_, h1_, h2_, h3_, h4_, h5_, h6_, h7_, h8_, h9_, h10_, h11_, h12_, h13_, h14_, h15_, h16_⟩
       have n0_ : Aside0 (Kd.N k33 33 w67 w.heap.size (fun k_ => ((P0_5_ k_ ∨ P1_5_ k_) ∨ w.heap.size ≤ k_) ∧ some k_ ≠ (v748 : Value).ownBlock ∧ k_ ≠ gb728 ∧ k_ ≠ gb729 ∧ k_ ≠ gb730 ∧ k_ ≠ gb750) v740 y739) := ⟨h0_⟩
       have n1_ : Aside0 (Kd.N k33 33 w67 w.heap.size (fun k_ => ((P0_5_ k_ ∨ P1_5_ k_) ∨ w.heap.size ≤ k_) ∧ some k_ ≠ (v740 : Value).ownBlock ∧ k_ ≠ gb728 ∧ k_ ≠ gb729 ∧ k_ ≠ gb730 ∧ k_ ≠ gb750) v748 t747) := ⟨h1_⟩
       have n2_ : Aside0 (Kd.V k33 33 w67 w.heap.size (fun k_ => ((P0_5_ k_ ∨ P1_5_ k_) ∨ w.heap.size ≤ k_) ∧ some k_ ≠ (v740 : Value).ownBlock ∧ some k_ ≠ (v748 : Value).ownBlock ∧ k_ ≠ gb728 ∧ k_ ≠ gb729 ∧ k_ ≠ gb730 ∧ k_ ≠ gb750) (.slice A0_5 l0_5.length c0_5) l0_5) := ⟨h2_⟩
       have n3_ : Aside0 (Kd.V k33 33 w67 w.heap.size (fun k_ => ((P0_5_ k_ ∨ P1_5_ k_) ∨ w.heap.size ≤ k_) ∧ some k_ ≠ (v740 : Value).ownBlock ∧ some k_ ≠ (v748 : Value).ownBlock ∧ k_ ≠ gb728 ∧ k_ ≠ gb729 ∧ k_ ≠ gb730 ∧ k_ ≠ gb750) (.slice A1_5 l1_5.length c1_5) l1_5) := ⟨h3_⟩
       have n4_ : Aside0 (w67.heap[gb728]? = some (.cells #[.bool a0_0, .bool a0_1, .int .i64 a0_2, .int .i64 a0_3, .int .i64 a0_4, .slice A0_5 l0_5.length c0_5] 47 (0, 0))) := ⟨h4_⟩
       have n5_ : Aside0 (w67.heap[gb729]? = some (.cells #[.bool a1_0, .bool a1_1, .int .i64 a1_2, .int .i64 a1_3, .int .i64 a1_4, .slice A1_5 l1_5.length c1_5] 47 (0, 0))) := ⟨h5_⟩
       have n6_ : Aside0 (w67.heap[gb730]? = some (.cells #[.bool false, .bool false, .int .i64 0, .int .i64 0, .int .i64 0, .slice none 0 0] 47 (0, 0))) := ⟨h6_⟩
       have n7_ : Aside0 (w67.heap[gb750]? = some (.cells #[.bool false, .bool false, .int .i64 0, .int .i64 0, .int .i64 0, .slice none 0 0] 47 (0, 0))) := ⟨h7_⟩
       have n8_ : Aside0 (w.heap.size ≤ gb750) := ⟨h8_⟩
       have n9_ : Aside0 (w.heap.size ≤ gb750) := ⟨h9_⟩
       have n10_ : Aside0 (gb728 ≠ gb750) := ⟨h10_⟩
       have n11_ : Aside0 (gb750 ≠ gb728) := ⟨h11_⟩
       have n12_ : Aside0 (gb729 ≠ gb750) := ⟨h12_⟩
       have n13_ : Aside0 (gb750 ≠ gb729) := ⟨h13_⟩
       have n14_ : Aside0 (gb730 ≠ gb750) := ⟨h14_⟩
       have n15_ : Aside0 (gb750 ≠ gb730) := ⟨h15_⟩
       have n16_ : Aside0 (Below w.heap.size w w67) := ⟨h16_⟩
       clear HO_729005
       clear HO_730005
       clear BK728
       clear BK729
       clear BK730
       clear HB
       clear h0_ h1_ h2_ h3_ h4_ h5_ h6_ h7_ h8_ h9_ h10_ h11_ h12_ h13_ h14_ h15_ h16_
       have HO741 := n0_
       have HO749 := n1_
       have HO_729005 := n2_
       have HO_730005 := n3_
       have BK728 := n4_
       have BK729 := n5_
       have BK730 := n6_
       have BK750 := n7_
       have GW750 := n8_
       have GE750 := n9_
       have NB728_750 := n10_
       have NB750_728 := n11_
       have NB729_750 := n12_
       have NB750_729 := n13_
       have NB730_750 := n14_
       have NB750_730 := n15_
       have HB := n16_
       clear n0_ n1_ n2_ n3_ n4_ n5_ n6_ n7_ n8_ n9_ n10_ n11_ n12_ n13_ n14_ n15_ n16_
       have hHeld : w67.cell? ⟨gb728, 0, none⟩ = some (.bool a0_0) ∧ w67.cell? ⟨gb728, 1, none⟩ = some (.bool a0_1) ∧ w67.cell? ⟨gb728, 2, none⟩ = some (.int .i64 a0_2) ∧ w67.cell? ⟨gb728, 3, none⟩ = some (.int .i64 a0_3) ∧ w67.cell? ⟨gb728, 4, none⟩ = some (.int .i64 a0_4) ∧ w67.cell? ⟨gb728, 5, none⟩ = some (.slice A0_5 l0_5.length c0_5) ∧ w67.cell? ⟨gb729, 0, none⟩ = some (.bool a1_0) ∧ w67.cell? ⟨gb729, 1, none⟩ = some (.bool a1_1) ∧ w67.cell? ⟨gb729, 2, none⟩ = some (.int .i64 a1_2) ∧ w67.cell? ⟨gb729, 3, none⟩ = some (.int .i64 a1_3) ∧ w67.cell? ⟨gb729, 4, none⟩ = some (.int .i64 a1_4) ∧ w67.cell? ⟨gb729, 5, none⟩ = some (.slice A1_5 l1_5.length c1_5) := hS_
       obtain ⟨Ao73, co73, eo73⟩ := Kd.N_slice HO749.out
       (first | subst eo73 | (injection eo73 with f1_ f2_ f3_; have f4_ := f1_.symm; have f5_ := f3_.symm; clear f1_ f2_ f3_; subst f4_; subst f5_))
       refine tnp ?_
       refine one_ (i := 11) (N := none) #[true, true, true, true, true, true, true, true, true, true, true, true] rfl rfl (one_of HT_.out (by kernel_rfl)) (by decide) (fun K hK => ?_)
       have hs68 : w67.cell? ⟨gb750, 0, none⟩ = some (.bool false) := (blk_cell BK750.out 0).trans rfl
       have hfs68 := blk_frozen BK750.out 0
       have hns68_0 := NB728_750.out
       have hns68_1 := NB729_750.out
       have hns68_2 := NB730_750.out
       have hms68_0 := NB750_728.out
       have hms68_1 := NB750_729.out
       have hms68_2 := NB750_730.out
       have hs69 : w67.cell? ⟨gb750, 1, none⟩ = some (.bool false) := (blk_cell BK750.out 1).trans rfl
       have hfs69 := blk_frozen BK750.out 1
       have hns69_0 := NB728_750.out
       have hns69_1 := NB729_750.out
       have hns69_2 := NB730_750.out
       have hms69_0 := NB750_728.out
       have hms69_1 := NB750_729.out
       have hms69_2 := NB750_730.out
       have hs70 : w67.cell? ⟨gb750, 2, none⟩ = some (.int .i64 0) := (blk_cell BK750.out 2).trans rfl
       have hfs70 := blk_frozen BK750.out 2
       have hns70_0 := NB728_750.out
       have hns70_1 := NB729_750.out
       have hns70_2 := NB730_750.out
       have hms70_0 := NB750_728.out
       have hms70_1 := NB750_729.out
       have hms70_2 := NB750_730.out
       have hs71 : w67.cell? ⟨gb750, 3, none⟩ = some (.int .i64 0) := (blk_cell BK750.out 3).trans rfl
       have hfs71 := blk_frozen BK750.out 3
       have hns71_0 := NB728_750.out
       have hns71_1 := NB729_750.out
       have hns71_2 := NB730_750.out
       have hms71_0 := NB750_728.out
       have hms71_1 := NB750_729.out
       have hms71_2 := NB750_730.out
       have hs72 : w67.cell? ⟨gb750, 4, none⟩ = some (.int .i64 0) := (blk_cell BK750.out 4).trans rfl
       have hfs72 := blk_frozen BK750.out 4
       have hns72_0 := NB728_750.out
       have hns72_1 := NB729_750.out
       have hns72_2 := NB730_750.out
       have hms72_0 := NB750_728.out
       have hms72_1 := NB750_729.out
       have hms72_2 := NB750_730.out
       have hs74 : w67.cell? ⟨gb750, 5, none⟩ = some (.slice none 0 0) := (blk_cell BK750.out 5).trans rfl
       have hfs74 := blk_frozen BK750.out 5
       have hns74_0 := NB728_750.out
       have hns74_1 := NB729_750.out
       have hns74_2 := NB730_750.out
       have hms74_0 := NB750_728.out
       have hms74_1 := NB750_729.out
       have hms74_2 := NB750_730.out
       refine tsk ?_
       refine hK.out _ _ ⟨(tcg NB728_750.out hHeld.1), (tcg NB728_750.out hHeld.2.1), (tcg NB728_750.out hHeld.2.2.1), (tcg NB728_750.out hHeld.2.2.2.1), (tcg NB728_750.out hHeld.2.2.2.2.1), (tcg NB728_750.out hHeld.2.2.2.2.2.1), (tcg NB729_750.out hHeld.2.2.2.2.2.2.1), (tcg NB729_750.out hHeld.2.2.2.2.2.2.2.1), (tcg NB729_750.out hHeld.2.2.2.2.2.2.2.2.1), (tcg NB729_750.out hHeld.2.2.2.2.2.2.2.2.2.1), (tcg NB729_750.out hHeld.2.2.2.2.2.2.2.2.2.2.1), (tcg NB729_750.out hHeld.2.2.2.2.2.2.2.2.2.2.2)⟩ (fun hHeld => ?_)
       clear hK K
       refine done_ (done_of HT_.out (by kernel_rfl)) ?_
       have hnb75 := NB750_728.out
       have hnc75 := NB728_750.out
       have hnb76 := NB750_729.out
       have hnc76 := NB729_750.out
       have hnb77 := NB750_730.out
       have hnc77 := NB730_750.out
       obtain ⟨hcz78_0, hcz78_1, hcz78_2, hcz78_3, hcz78_4, hcz78_5, hfz78_0, hfz78_1, hfz78_2, hfz78_3, hfz78_4, hfz78_5⟩ := cells6 BK750.out
       try go_wp2_with (first | ((with_reducible refine gate_callee (f := 59) rfl ?_); refine goesL_ (some 44) rfl rfl Tryd.func59 (by kernel_rfl) rfl #[.agg #[.bool t742, .bool t743, .int .i64 t744, .int .i64 t745, .int .i64 t746, .slice Ao73 t747.length co73]] rfl tq ?_; (with_reducible refine (spec_BatchValid.calls kj2 t742 t743 t744 t745 t746 _ _ t747 true _ ?side1 ?side2 A57.out).mono ?_); (case side1 => exact (Kd.N_reads' (tN HO749.out)).2.2); (case side2 => exact (Kd.N_reads' HO749.out).2.1); rintro e w79 ⟨rfl, hb⟩; refine ⟨_, rfl, ?_⟩; replace HO_729005 := tVb HO_729005 hb; replace HO_730005 := tVb HO_730005 hb; replace HO741 := tNb HO741 hb; replace HO749 := tNb HO749 hb; replace BK728 := tBb BK728 hb; replace BK729 := tBb BK729 hb; replace BK730 := tBb BK730 hb; replace BK750 := tBp (o' := .cells #[.bool t742, .bool t743, .int .i64 t744, .int .i64 t745, .int .i64 t746, .slice Ao73 t747.length co73] 47 (0, 0)) BK750 hb; replace HB := tBs HB hb; (try clear hb); (try clear hb2); (try clear hk); (try clear hi); obtain ⟨hcz80_0, hcz80_1, hcz80_2, hcz80_3, hcz80_4, hcz80_5, hfz80_0, hfz80_1, hfz80_2, hfz80_3, hfz80_4, hfz80_5⟩ := cells6 BK750.out; have hnb81 := NB730_728.out; have hnc81 := NB728_730.out; have hnb82 := NB730_729.out; have hnc82 := NB729_730.out; obtain ⟨hcz83_0, hcz83_1, hcz83_2, hcz83_3, hcz83_4, hcz83_5, hfz83_0, hfz83_1, hfz83_2, hfz83_3, hfz83_4, hfz83_5⟩ := cells6 BK730.out))
       refine bodyPost_ret (results_ct rfl _ _ gb730 47 #[.bool t742, .bool t743, .int .i64 t744, .int .i64 t745, .int .i64 t746, .slice Ao73 t747.length co73] (0, 0) _ rfl (tP BK730.out) Tryd.underlying47 rfl (by kernel_rfl)) rfl ?_
       exact ⟨_, by first | rfl | (simp [errW_none, errW_some] <;> rfl) | (simp [*, errW_none, errW_some] <;> rfl), tNm HO749.out, zb⟩
      ·replace c58 := Bool.eq_false_iff.mpr c58
       subst c58
       rw [if_neg (show ¬ (false = true) by decide)] at H
       simp only [Option.some.injEq, Prod.mk.injEq] at H
       obtain ⟨rfl, rfl, rfl, rfl, rfl, rfl, rfl⟩ := H
       try go_wp2
       replace HO_729005 := Aside0.mk (Kd.V_drew HO_729005.out)
       replace HO_730005 := Aside0.mk (Kd.V_drew HO_730005.out)
       replace BK728 := Aside0.mk (blk_drew BK728.out)
       replace BK729 := Aside0.mk (blk_drew BK729.out)
       replace BK730 := Aside0.mk (blk_drew BK730.out)
       replace HB := Aside0.mk (below_drew1 HB.out)
       refine start_ (n := 12) (S := fun w' => w'.cell? ⟨gb728, 0, none⟩ = some (.bool a0_0) ∧ w'.cell? ⟨gb728, 1, none⟩ = some (.bool a0_1) ∧ w'.cell? ⟨gb728, 2, none⟩ = some (.int .i64 a0_2) ∧ w'.cell? ⟨gb728, 3, none⟩ = some (.int .i64 a0_3) ∧ w'.cell? ⟨gb728, 4, none⟩ = some (.int .i64 a0_4) ∧ w'.cell? ⟨gb728, 5, none⟩ = some (.slice A0_5 l0_5.length c0_5) ∧ w'.cell? ⟨gb729, 0, none⟩ = some (.bool a1_0) ∧ w'.cell? ⟨gb729, 1, none⟩ = some (.bool a1_1) ∧ w'.cell? ⟨gb729, 2, none⟩ = some (.int .i64 a1_2) ∧ w'.cell? ⟨gb729, 3, none⟩ = some (.int .i64 a1_3) ∧ w'.cell? ⟨gb729, 4, none⟩ = some (.int .i64 a1_4) ∧ w'.cell? ⟨gb729, 5, none⟩ = some (.slice A1_5 l1_5.length c1_5)) (ds := []) #[false, false, false, false, false, false, false, false, false, false, false, false] (by kernel_rfl) rfl rfl ⟨(blk_cell BK728.out 0).trans rfl, (blk_cell BK728.out 1).trans rfl, (blk_cell BK728.out 2).trans rfl, (blk_cell BK728.out 3).trans rfl, (blk_cell BK728.out 4).trans rfl, (blk_cell BK728.out 5).trans rfl, (blk_cell BK729.out 0).trans rfl, (blk_cell BK729.out 1).trans rfl, (blk_cell BK729.out 2).trans rfl, (blk_cell BK729.out 3).trans rfl, (blk_cell BK729.out 4).trans rfl, (blk_cell BK729.out 5).trans rfl⟩ (fun hHeld => ?_); refine with_tabW spec_BatchJoin.tab3 spec_BatchJoin.bits3 (fun HT_ HW_ => ?_)
       generalize wc.drew = w84 at HO_729005 HO_730005 BK728 BK729 BK730 HB hHeld ⊢
       refine tpu 0 (some 33) #[true, false, false, false, false, false, false, false, false, false, false, false] ?_
       refine tpu 3 (some 36) #[true, false, false, true, false, false, false, false, false, false, false, false] ?_
       refine tpu 6 (some 39) #[true, false, false, true, false, false, true, false, false, false, false, false] ?_
       refine tta 1 (some 34) #[true, true, false, true, false, false, true, false, false, false, false, false] hHeld ?_ (hy := by rintro w' ⟨s0, s1, s2, s3, s4, s5, s6, s7, s8, s9, s10, s11⟩; go_simp; with_reducible rfl)
       refine tta 4 (some 37) #[true, true, false, true, true, false, true, false, false, false, false, false] hHeld ?_ (hy := by rintro w' ⟨s0, s1, s2, s3, s4, s5, s6, s7, s8, s9, s10, s11⟩; go_simp; with_reducible rfl)
       refine tta 7 (some 40) #[true, true, false, true, true, false, true, true, false, false, false, false] hHeld ?_ (hy := by rintro w' ⟨s0, s1, s2, s3, s4, s5, s6, s7, s8, s9, s10, s11⟩; go_simp; with_reducible rfl)
       refine join_ (σ := Value × Value × Value × Value × Nat) 1 #[true, true, true, true, true, true, true, true, true, true, true, false] (fun s_ => [(35, s_.1), (38, s_.2.1), (41, s_.2.2.1), (42, .agg #[.bool t742, .bool t743, .int .i64 t744, .int .i64 t745, .int .i64 t746, s_.2.2.2.1]), (6, .pointer (some ⟨s_.2.2.2.2, 0, none⟩))]) (fun s_ w' => (w'.cell? ⟨gb728, 0, none⟩ = some (.bool a0_0) ∧ w'.cell? ⟨gb728, 1, none⟩ = some (.bool a0_1) ∧ w'.cell? ⟨gb728, 2, none⟩ = some (.int .i64 a0_2) ∧ w'.cell? ⟨gb728, 3, none⟩ = some (.int .i64 a0_3) ∧ w'.cell? ⟨gb728, 4, none⟩ = some (.int .i64 a0_4) ∧ w'.cell? ⟨gb728, 5, none⟩ = some (.slice A0_5 l0_5.length c0_5) ∧ w'.cell? ⟨gb729, 0, none⟩ = some (.bool a1_0) ∧ w'.cell? ⟨gb729, 1, none⟩ = some (.bool a1_1) ∧ w'.cell? ⟨gb729, 2, none⟩ = some (.int .i64 a1_2) ∧ w'.cell? ⟨gb729, 3, none⟩ = some (.int .i64 a1_3) ∧ w'.cell? ⟨gb729, 4, none⟩ = some (.int .i64 a1_4) ∧ w'.cell? ⟨gb729, 5, none⟩ = some (.slice A1_5 l1_5.length c1_5)) ∧ (Kd.N k33 33 w' w.heap.size (fun k_ => ((P0_5_ k_ ∨ P1_5_ k_) ∨ w.heap.size ≤ k_) ∧ some k_ ≠ (s_.2.2.2.1 : Value).ownBlock ∧ k_ ≠ gb728 ∧ k_ ≠ gb729 ∧ k_ ≠ gb730 ∧ k_ ≠ s_.2.2.2.2) s_.2.2.1 y739) ∧ (Kd.N k33 33 w' w.heap.size (fun k_ => ((P0_5_ k_ ∨ P1_5_ k_) ∨ w.heap.size ≤ k_) ∧ some k_ ≠ (s_.2.2.1 : Value).ownBlock ∧ k_ ≠ gb728 ∧ k_ ≠ gb729 ∧ k_ ≠ gb730 ∧ k_ ≠ s_.2.2.2.2) s_.2.2.2.1 t747) ∧ (Kd.V k33 33 w' w.heap.size (fun k_ => ((P0_5_ k_ ∨ P1_5_ k_) ∨ w.heap.size ≤ k_) ∧ some k_ ≠ (s_.2.2.1 : Value).ownBlock ∧ some k_ ≠ (s_.2.2.2.1 : Value).ownBlock ∧ k_ ≠ gb728 ∧ k_ ≠ gb729 ∧ k_ ≠ gb730 ∧ k_ ≠ s_.2.2.2.2) (.slice A0_5 l0_5.length c0_5) l0_5) ∧ (Kd.V k33 33 w' w.heap.size (fun k_ => ((P0_5_ k_ ∨ P1_5_ k_) ∨ w.heap.size ≤ k_) ∧ some k_ ≠ (s_.2.2.1 : Value).ownBlock ∧ some k_ ≠ (s_.2.2.2.1 : Value).ownBlock ∧ k_ ≠ gb728 ∧ k_ ≠ gb729 ∧ k_ ≠ gb730 ∧ k_ ≠ s_.2.2.2.2) (.slice A1_5 l1_5.length c1_5) l1_5) ∧ (w'.heap[gb728]? = some (.cells #[.bool a0_0, .bool a0_1, .int .i64 a0_2, .int .i64 a0_3, .int .i64 a0_4, .slice A0_5 l0_5.length c0_5] 47 (0, 0))) ∧ (w'.heap[gb729]? = some (.cells #[.bool a1_0, .bool a1_1, .int .i64 a1_2, .int .i64 a1_3, .int .i64 a1_4, .slice A1_5 l1_5.length c1_5] 47 (0, 0))) ∧ (w'.heap[gb730]? = some (.cells #[.bool false, .bool false, .int .i64 0, .int .i64 0, .int .i64 0, .slice none 0 0] 47 (0, 0))) ∧ (w'.heap[s_.2.2.2.2]? = some (.cells #[.bool false, .bool false, .int .i64 0, .int .i64 0, .int .i64 0, .slice none 0 0] 47 (0, 0))) ∧ (w.heap.size ≤ s_.2.2.2.2) ∧ (w.heap.size ≤ s_.2.2.2.2) ∧ (gb728 ≠ s_.2.2.2.2) ∧ (s_.2.2.2.2 ≠ gb728) ∧ (gb729 ≠ s_.2.2.2.2) ∧ (s_.2.2.2.2 ≠ gb729) ∧ (gb730 ≠ s_.2.2.2.2) ∧ (s_.2.2.2.2 ≠ gb730) ∧ (Below w.heap.size w w')) ?_ ?_
       rotate_left
       ·intro hJ2_5_8_9_10
        refine join_ (σ := Value × Value × Value × Value) 2 #[true, true, true, true, true, true, true, true, true, true, false, false] (fun s_ => [(35, s_.1), (38, s_.2.1), (41, s_.2.2.1), (42, .agg #[.bool t742, .bool t743, .int .i64 t744, .int .i64 t745, .int .i64 t746, s_.2.2.2])]) (fun s_ w' => (w'.cell? ⟨gb728, 0, none⟩ = some (.bool a0_0) ∧ w'.cell? ⟨gb728, 1, none⟩ = some (.bool a0_1) ∧ w'.cell? ⟨gb728, 2, none⟩ = some (.int .i64 a0_2) ∧ w'.cell? ⟨gb728, 3, none⟩ = some (.int .i64 a0_3) ∧ w'.cell? ⟨gb728, 4, none⟩ = some (.int .i64 a0_4) ∧ w'.cell? ⟨gb728, 5, none⟩ = some (.slice A0_5 l0_5.length c0_5) ∧ w'.cell? ⟨gb729, 0, none⟩ = some (.bool a1_0) ∧ w'.cell? ⟨gb729, 1, none⟩ = some (.bool a1_1) ∧ w'.cell? ⟨gb729, 2, none⟩ = some (.int .i64 a1_2) ∧ w'.cell? ⟨gb729, 3, none⟩ = some (.int .i64 a1_3) ∧ w'.cell? ⟨gb729, 4, none⟩ = some (.int .i64 a1_4) ∧ w'.cell? ⟨gb729, 5, none⟩ = some (.slice A1_5 l1_5.length c1_5)) ∧ (Kd.N k33 33 w' w.heap.size (fun k_ => ((P0_5_ k_ ∨ P1_5_ k_) ∨ w.heap.size ≤ k_) ∧ some k_ ≠ (s_.2.2.2 : Value).ownBlock ∧ k_ ≠ gb728 ∧ k_ ≠ gb729 ∧ k_ ≠ gb730) s_.2.2.1 y739) ∧ (Kd.N k33 33 w' w.heap.size (fun k_ => ((P0_5_ k_ ∨ P1_5_ k_) ∨ w.heap.size ≤ k_) ∧ some k_ ≠ (s_.2.2.1 : Value).ownBlock ∧ k_ ≠ gb728 ∧ k_ ≠ gb729 ∧ k_ ≠ gb730) s_.2.2.2 t747) ∧ (Kd.V k33 33 w' w.heap.size (fun k_ => ((P0_5_ k_ ∨ P1_5_ k_) ∨ w.heap.size ≤ k_) ∧ some k_ ≠ (s_.2.2.1 : Value).ownBlock ∧ some k_ ≠ (s_.2.2.2 : Value).ownBlock ∧ k_ ≠ gb728 ∧ k_ ≠ gb729 ∧ k_ ≠ gb730) (.slice A0_5 l0_5.length c0_5) l0_5) ∧ (Kd.V k33 33 w' w.heap.size (fun k_ => ((P0_5_ k_ ∨ P1_5_ k_) ∨ w.heap.size ≤ k_) ∧ some k_ ≠ (s_.2.2.1 : Value).ownBlock ∧ some k_ ≠ (s_.2.2.2 : Value).ownBlock ∧ k_ ≠ gb728 ∧ k_ ≠ gb729 ∧ k_ ≠ gb730) (.slice A1_5 l1_5.length c1_5) l1_5) ∧ (w'.heap[gb728]? = some (.cells #[.bool a0_0, .bool a0_1, .int .i64 a0_2, .int .i64 a0_3, .int .i64 a0_4, .slice A0_5 l0_5.length c0_5] 47 (0, 0))) ∧ (w'.heap[gb729]? = some (.cells #[.bool a1_0, .bool a1_1, .int .i64 a1_2, .int .i64 a1_3, .int .i64 a1_4, .slice A1_5 l1_5.length c1_5] 47 (0, 0))) ∧ (w'.heap[gb730]? = some (.cells #[.bool false, .bool false, .int .i64 0, .int .i64 0, .int .i64 0, .slice none 0 0] 47 (0, 0))) ∧ (Below w.heap.size w w')) ?_ ?_
        rotate_left
        ·intro hJ2_5_8_9
         refine join_ (σ := Value × Value × Value × Nat) 2 #[true, true, true, true, true, true, true, true, true, false, true, false] (fun s_ => [(35, s_.1), (38, s_.2.1), (41, s_.2.2.1), (6, .pointer (some ⟨s_.2.2.2, 0, none⟩))]) (fun s_ w' => (w'.cell? ⟨gb728, 0, none⟩ = some (.bool a0_0) ∧ w'.cell? ⟨gb728, 1, none⟩ = some (.bool a0_1) ∧ w'.cell? ⟨gb728, 2, none⟩ = some (.int .i64 a0_2) ∧ w'.cell? ⟨gb728, 3, none⟩ = some (.int .i64 a0_3) ∧ w'.cell? ⟨gb728, 4, none⟩ = some (.int .i64 a0_4) ∧ w'.cell? ⟨gb728, 5, none⟩ = some (.slice A0_5 l0_5.length c0_5) ∧ w'.cell? ⟨gb729, 0, none⟩ = some (.bool a1_0) ∧ w'.cell? ⟨gb729, 1, none⟩ = some (.bool a1_1) ∧ w'.cell? ⟨gb729, 2, none⟩ = some (.int .i64 a1_2) ∧ w'.cell? ⟨gb729, 3, none⟩ = some (.int .i64 a1_3) ∧ w'.cell? ⟨gb729, 4, none⟩ = some (.int .i64 a1_4) ∧ w'.cell? ⟨gb729, 5, none⟩ = some (.slice A1_5 l1_5.length c1_5)) ∧ (Kd.N k33 33 w' w.heap.size (fun k_ => ((P0_5_ k_ ∨ P1_5_ k_) ∨ w.heap.size ≤ k_) ∧ k_ ≠ gb728 ∧ k_ ≠ gb729 ∧ k_ ≠ gb730 ∧ k_ ≠ s_.2.2.2) s_.2.2.1 y739) ∧ (Kd.V k33 33 w' w.heap.size (fun k_ => ((P0_5_ k_ ∨ P1_5_ k_) ∨ w.heap.size ≤ k_) ∧ some k_ ≠ (s_.2.2.1 : Value).ownBlock ∧ k_ ≠ gb728 ∧ k_ ≠ gb729 ∧ k_ ≠ gb730 ∧ k_ ≠ s_.2.2.2) (.slice A0_5 l0_5.length c0_5) l0_5) ∧ (Kd.V k33 33 w' w.heap.size (fun k_ => ((P0_5_ k_ ∨ P1_5_ k_) ∨ w.heap.size ≤ k_) ∧ some k_ ≠ (s_.2.2.1 : Value).ownBlock ∧ k_ ≠ gb728 ∧ k_ ≠ gb729 ∧ k_ ≠ gb730 ∧ k_ ≠ s_.2.2.2) (.slice A1_5 l1_5.length c1_5) l1_5) ∧ (w'.heap[gb728]? = some (.cells #[.bool a0_0, .bool a0_1, .int .i64 a0_2, .int .i64 a0_3, .int .i64 a0_4, .slice A0_5 l0_5.length c0_5] 47 (0, 0))) ∧ (w'.heap[gb729]? = some (.cells #[.bool a1_0, .bool a1_1, .int .i64 a1_2, .int .i64 a1_3, .int .i64 a1_4, .slice A1_5 l1_5.length c1_5] 47 (0, 0))) ∧ (w'.heap[gb730]? = some (.cells #[.bool false, .bool false, .int .i64 0, .int .i64 0, .int .i64 0, .slice none 0 0] 47 (0, 0))) ∧ (w'.heap[s_.2.2.2]? = some (.cells #[.bool false, .bool false, .int .i64 0, .int .i64 0, .int .i64 0, .slice none 0 0] 47 (0, 0))) ∧ (w.heap.size ≤ s_.2.2.2) ∧ (w.heap.size ≤ s_.2.2.2) ∧ (gb728 ≠ s_.2.2.2) ∧ (s_.2.2.2 ≠ gb728) ∧ (gb729 ≠ s_.2.2.2) ∧ (s_.2.2.2 ≠ gb729) ∧ (gb730 ≠ s_.2.2.2) ∧ (s_.2.2.2 ≠ gb730) ∧ (Below w.heap.size w w')) ?_ ?_
         rotate_left
         ·intro hJ2_5_8_10
          refine join_ (σ := Value × Value × Value) 3 #[true, true, true, true, true, true, true, true, true, false, false, false] (fun s_ => [(35, s_.1), (38, s_.2.1), (41, s_.2.2)]) (fun s_ w' => (w'.cell? ⟨gb728, 0, none⟩ = some (.bool a0_0) ∧ w'.cell? ⟨gb728, 1, none⟩ = some (.bool a0_1) ∧ w'.cell? ⟨gb728, 2, none⟩ = some (.int .i64 a0_2) ∧ w'.cell? ⟨gb728, 3, none⟩ = some (.int .i64 a0_3) ∧ w'.cell? ⟨gb728, 4, none⟩ = some (.int .i64 a0_4) ∧ w'.cell? ⟨gb728, 5, none⟩ = some (.slice A0_5 l0_5.length c0_5) ∧ w'.cell? ⟨gb729, 0, none⟩ = some (.bool a1_0) ∧ w'.cell? ⟨gb729, 1, none⟩ = some (.bool a1_1) ∧ w'.cell? ⟨gb729, 2, none⟩ = some (.int .i64 a1_2) ∧ w'.cell? ⟨gb729, 3, none⟩ = some (.int .i64 a1_3) ∧ w'.cell? ⟨gb729, 4, none⟩ = some (.int .i64 a1_4) ∧ w'.cell? ⟨gb729, 5, none⟩ = some (.slice A1_5 l1_5.length c1_5)) ∧ (Kd.N k33 33 w' w.heap.size (fun k_ => ((P0_5_ k_ ∨ P1_5_ k_) ∨ w.heap.size ≤ k_) ∧ k_ ≠ gb728 ∧ k_ ≠ gb729 ∧ k_ ≠ gb730) s_.2.2 y739) ∧ (Kd.V k33 33 w' w.heap.size (fun k_ => ((P0_5_ k_ ∨ P1_5_ k_) ∨ w.heap.size ≤ k_) ∧ some k_ ≠ (s_.2.2 : Value).ownBlock ∧ k_ ≠ gb728 ∧ k_ ≠ gb729 ∧ k_ ≠ gb730) (.slice A0_5 l0_5.length c0_5) l0_5) ∧ (Kd.V k33 33 w' w.heap.size (fun k_ => ((P0_5_ k_ ∨ P1_5_ k_) ∨ w.heap.size ≤ k_) ∧ some k_ ≠ (s_.2.2 : Value).ownBlock ∧ k_ ≠ gb728 ∧ k_ ≠ gb729 ∧ k_ ≠ gb730) (.slice A1_5 l1_5.length c1_5) l1_5) ∧ (w'.heap[gb728]? = some (.cells #[.bool a0_0, .bool a0_1, .int .i64 a0_2, .int .i64 a0_3, .int .i64 a0_4, .slice A0_5 l0_5.length c0_5] 47 (0, 0))) ∧ (w'.heap[gb729]? = some (.cells #[.bool a1_0, .bool a1_1, .int .i64 a1_2, .int .i64 a1_3, .int .i64 a1_4, .slice A1_5 l1_5.length c1_5] 47 (0, 0))) ∧ (w'.heap[gb730]? = some (.cells #[.bool false, .bool false, .int .i64 0, .int .i64 0, .int .i64 0, .slice none 0 0] 47 (0, 0))) ∧ (Below w.heap.size w w')) ?_ ?_
          rotate_left
          ·intro hJ2_5_8
           refine join_ (σ := Value × Value × Nat) 3 #[true, true, true, true, true, true, true, true, false, false, true, false] (fun s_ => [(35, s_.1), (38, s_.2.1), (6, .pointer (some ⟨s_.2.2, 0, none⟩))]) (fun s_ w' => (w'.cell? ⟨gb728, 0, none⟩ = some (.bool a0_0) ∧ w'.cell? ⟨gb728, 1, none⟩ = some (.bool a0_1) ∧ w'.cell? ⟨gb728, 2, none⟩ = some (.int .i64 a0_2) ∧ w'.cell? ⟨gb728, 3, none⟩ = some (.int .i64 a0_3) ∧ w'.cell? ⟨gb728, 4, none⟩ = some (.int .i64 a0_4) ∧ w'.cell? ⟨gb728, 5, none⟩ = some (.slice A0_5 l0_5.length c0_5) ∧ w'.cell? ⟨gb729, 0, none⟩ = some (.bool a1_0) ∧ w'.cell? ⟨gb729, 1, none⟩ = some (.bool a1_1) ∧ w'.cell? ⟨gb729, 2, none⟩ = some (.int .i64 a1_2) ∧ w'.cell? ⟨gb729, 3, none⟩ = some (.int .i64 a1_3) ∧ w'.cell? ⟨gb729, 4, none⟩ = some (.int .i64 a1_4) ∧ w'.cell? ⟨gb729, 5, none⟩ = some (.slice A1_5 l1_5.length c1_5)) ∧ (Kd.N k33 33 w' w.heap.size (fun k_ => ((P0_5_ k_ ∨ P1_5_ k_) ∨ w.heap.size ≤ k_) ∧ k_ ≠ gb728 ∧ k_ ≠ gb729 ∧ k_ ≠ gb730 ∧ k_ ≠ s_.2.2) s_.2.1 y736) ∧ (Kd.V k33 33 w' w.heap.size (fun k_ => ((P0_5_ k_ ∨ P1_5_ k_) ∨ w.heap.size ≤ k_) ∧ some k_ ≠ (s_.2.1 : Value).ownBlock ∧ k_ ≠ gb728 ∧ k_ ≠ gb729 ∧ k_ ≠ gb730 ∧ k_ ≠ s_.2.2) (.slice A0_5 l0_5.length c0_5) l0_5) ∧ (Kd.V k33 33 w' w.heap.size (fun k_ => ((P0_5_ k_ ∨ P1_5_ k_) ∨ w.heap.size ≤ k_) ∧ some k_ ≠ (s_.2.1 : Value).ownBlock ∧ k_ ≠ gb728 ∧ k_ ≠ gb729 ∧ k_ ≠ gb730 ∧ k_ ≠ s_.2.2) (.slice A1_5 l1_5.length c1_5) l1_5) ∧ (w'.heap[gb728]? = some (.cells #[.bool a0_0, .bool a0_1, .int .i64 a0_2, .int .i64 a0_3, .int .i64 a0_4, .slice A0_5 l0_5.length c0_5] 47 (0, 0))) ∧ (w'.heap[gb729]? = some (.cells #[.bool a1_0, .bool a1_1, .int .i64 a1_2, .int .i64 a1_3, .int .i64 a1_4, .slice A1_5 l1_5.length c1_5] 47 (0, 0))) ∧ (w'.heap[gb730]? = some (.cells #[.bool false, .bool false, .int .i64 0, .int .i64 0, .int .i64 0, .slice none 0 0] 47 (0, 0))) ∧ (w'.heap[s_.2.2]? = some (.cells #[.bool false, .bool false, .int .i64 0, .int .i64 0, .int .i64 0, .slice none 0 0] 47 (0, 0))) ∧ (w.heap.size ≤ s_.2.2) ∧ (w.heap.size ≤ s_.2.2) ∧ (gb728 ≠ s_.2.2) ∧ (s_.2.2 ≠ gb728) ∧ (gb729 ≠ s_.2.2) ∧ (s_.2.2 ≠ gb729) ∧ (gb730 ≠ s_.2.2) ∧ (s_.2.2 ≠ gb730) ∧ (Below w.heap.size w w')) ?_ ?_
           rotate_left
           ·intro hJ2_5_10
            refine join_ (σ := Value × Value) 4 #[true, true, true, true, true, true, true, true, false, false, false, false] (fun s_ => [(35, s_.1), (38, s_.2)]) (fun s_ w' => (w'.cell? ⟨gb728, 0, none⟩ = some (.bool a0_0) ∧ w'.cell? ⟨gb728, 1, none⟩ = some (.bool a0_1) ∧ w'.cell? ⟨gb728, 2, none⟩ = some (.int .i64 a0_2) ∧ w'.cell? ⟨gb728, 3, none⟩ = some (.int .i64 a0_3) ∧ w'.cell? ⟨gb728, 4, none⟩ = some (.int .i64 a0_4) ∧ w'.cell? ⟨gb728, 5, none⟩ = some (.slice A0_5 l0_5.length c0_5) ∧ w'.cell? ⟨gb729, 0, none⟩ = some (.bool a1_0) ∧ w'.cell? ⟨gb729, 1, none⟩ = some (.bool a1_1) ∧ w'.cell? ⟨gb729, 2, none⟩ = some (.int .i64 a1_2) ∧ w'.cell? ⟨gb729, 3, none⟩ = some (.int .i64 a1_3) ∧ w'.cell? ⟨gb729, 4, none⟩ = some (.int .i64 a1_4) ∧ w'.cell? ⟨gb729, 5, none⟩ = some (.slice A1_5 l1_5.length c1_5)) ∧ (Kd.N k33 33 w' w.heap.size (fun k_ => ((P0_5_ k_ ∨ P1_5_ k_) ∨ w.heap.size ≤ k_) ∧ k_ ≠ gb728 ∧ k_ ≠ gb729 ∧ k_ ≠ gb730) s_.2 y736) ∧ (Kd.V k33 33 w' w.heap.size (fun k_ => ((P0_5_ k_ ∨ P1_5_ k_) ∨ w.heap.size ≤ k_) ∧ some k_ ≠ (s_.2 : Value).ownBlock ∧ k_ ≠ gb728 ∧ k_ ≠ gb729 ∧ k_ ≠ gb730) (.slice A0_5 l0_5.length c0_5) l0_5) ∧ (Kd.V k33 33 w' w.heap.size (fun k_ => ((P0_5_ k_ ∨ P1_5_ k_) ∨ w.heap.size ≤ k_) ∧ some k_ ≠ (s_.2 : Value).ownBlock ∧ k_ ≠ gb728 ∧ k_ ≠ gb729 ∧ k_ ≠ gb730) (.slice A1_5 l1_5.length c1_5) l1_5) ∧ (w'.heap[gb728]? = some (.cells #[.bool a0_0, .bool a0_1, .int .i64 a0_2, .int .i64 a0_3, .int .i64 a0_4, .slice A0_5 l0_5.length c0_5] 47 (0, 0))) ∧ (w'.heap[gb729]? = some (.cells #[.bool a1_0, .bool a1_1, .int .i64 a1_2, .int .i64 a1_3, .int .i64 a1_4, .slice A1_5 l1_5.length c1_5] 47 (0, 0))) ∧ (w'.heap[gb730]? = some (.cells #[.bool false, .bool false, .int .i64 0, .int .i64 0, .int .i64 0, .slice none 0 0] 47 (0, 0))) ∧ (Below w.heap.size w w')) ?_ ?_
            rotate_left
            ·intro hJ2_5
             refine join_ (σ := Value × Nat) 4 #[true, true, true, true, true, false, true, true, false, false, true, false] (fun s_ => [(35, s_.1), (6, .pointer (some ⟨s_.2, 0, none⟩))]) (fun s_ w' => (w'.cell? ⟨gb728, 0, none⟩ = some (.bool a0_0) ∧ w'.cell? ⟨gb728, 1, none⟩ = some (.bool a0_1) ∧ w'.cell? ⟨gb728, 2, none⟩ = some (.int .i64 a0_2) ∧ w'.cell? ⟨gb728, 3, none⟩ = some (.int .i64 a0_3) ∧ w'.cell? ⟨gb728, 4, none⟩ = some (.int .i64 a0_4) ∧ w'.cell? ⟨gb728, 5, none⟩ = some (.slice A0_5 l0_5.length c0_5) ∧ w'.cell? ⟨gb729, 0, none⟩ = some (.bool a1_0) ∧ w'.cell? ⟨gb729, 1, none⟩ = some (.bool a1_1) ∧ w'.cell? ⟨gb729, 2, none⟩ = some (.int .i64 a1_2) ∧ w'.cell? ⟨gb729, 3, none⟩ = some (.int .i64 a1_3) ∧ w'.cell? ⟨gb729, 4, none⟩ = some (.int .i64 a1_4) ∧ w'.cell? ⟨gb729, 5, none⟩ = some (.slice A1_5 l1_5.length c1_5)) ∧ (Kd.N k33 33 w' w.heap.size (fun k_ => ((P0_5_ k_ ∨ P1_5_ k_) ∨ w.heap.size ≤ k_) ∧ k_ ≠ gb728 ∧ k_ ≠ gb729 ∧ k_ ≠ gb730 ∧ k_ ≠ s_.2) s_.1 y733) ∧ (Kd.V k33 33 w' w.heap.size (fun k_ => ((P0_5_ k_ ∨ P1_5_ k_) ∨ w.heap.size ≤ k_) ∧ some k_ ≠ (s_.1 : Value).ownBlock ∧ k_ ≠ gb728 ∧ k_ ≠ gb729 ∧ k_ ≠ gb730 ∧ k_ ≠ s_.2) (.slice A0_5 l0_5.length c0_5) l0_5) ∧ (Kd.V k33 33 w' w.heap.size (fun k_ => ((P0_5_ k_ ∨ P1_5_ k_) ∨ w.heap.size ≤ k_) ∧ some k_ ≠ (s_.1 : Value).ownBlock ∧ k_ ≠ gb728 ∧ k_ ≠ gb729 ∧ k_ ≠ gb730 ∧ k_ ≠ s_.2) (.slice A1_5 l1_5.length c1_5) l1_5) ∧ (w'.heap[gb728]? = some (.cells #[.bool a0_0, .bool a0_1, .int .i64 a0_2, .int .i64 a0_3, .int .i64 a0_4, .slice A0_5 l0_5.length c0_5] 47 (0, 0))) ∧ (w'.heap[gb729]? = some (.cells #[.bool a1_0, .bool a1_1, .int .i64 a1_2, .int .i64 a1_3, .int .i64 a1_4, .slice A1_5 l1_5.length c1_5] 47 (0, 0))) ∧ (w'.heap[gb730]? = some (.cells #[.bool false, .bool false, .int .i64 0, .int .i64 0, .int .i64 0, .slice none 0 0] 47 (0, 0))) ∧ (w'.heap[s_.2]? = some (.cells #[.bool false, .bool false, .int .i64 0, .int .i64 0, .int .i64 0, .slice none 0 0] 47 (0, 0))) ∧ (w.heap.size ≤ s_.2) ∧ (w.heap.size ≤ s_.2) ∧ (gb728 ≠ s_.2) ∧ (s_.2 ≠ gb728) ∧ (gb729 ≠ s_.2) ∧ (s_.2 ≠ gb729) ∧ (gb730 ≠ s_.2) ∧ (s_.2 ≠ gb730) ∧ (Below w.heap.size w w')) ?_ ?_
             rotate_left
             ·intro hJ2_10
              refine join_ (σ := Value) 5 #[true, true, true, true, true, false, true, true, false, false, false, false] (fun s_ => [(35, s_)]) (fun s_ w' => (w'.cell? ⟨gb728, 0, none⟩ = some (.bool a0_0) ∧ w'.cell? ⟨gb728, 1, none⟩ = some (.bool a0_1) ∧ w'.cell? ⟨gb728, 2, none⟩ = some (.int .i64 a0_2) ∧ w'.cell? ⟨gb728, 3, none⟩ = some (.int .i64 a0_3) ∧ w'.cell? ⟨gb728, 4, none⟩ = some (.int .i64 a0_4) ∧ w'.cell? ⟨gb728, 5, none⟩ = some (.slice A0_5 l0_5.length c0_5) ∧ w'.cell? ⟨gb729, 0, none⟩ = some (.bool a1_0) ∧ w'.cell? ⟨gb729, 1, none⟩ = some (.bool a1_1) ∧ w'.cell? ⟨gb729, 2, none⟩ = some (.int .i64 a1_2) ∧ w'.cell? ⟨gb729, 3, none⟩ = some (.int .i64 a1_3) ∧ w'.cell? ⟨gb729, 4, none⟩ = some (.int .i64 a1_4) ∧ w'.cell? ⟨gb729, 5, none⟩ = some (.slice A1_5 l1_5.length c1_5)) ∧ (Kd.N k33 33 w' w.heap.size (fun k_ => ((P0_5_ k_ ∨ P1_5_ k_) ∨ w.heap.size ≤ k_) ∧ k_ ≠ gb728 ∧ k_ ≠ gb729 ∧ k_ ≠ gb730) s_ y733) ∧ (Kd.V k33 33 w' w.heap.size (fun k_ => ((P0_5_ k_ ∨ P1_5_ k_) ∨ w.heap.size ≤ k_) ∧ some k_ ≠ (s_ : Value).ownBlock ∧ k_ ≠ gb728 ∧ k_ ≠ gb729 ∧ k_ ≠ gb730) (.slice A0_5 l0_5.length c0_5) l0_5) ∧ (Kd.V k33 33 w' w.heap.size (fun k_ => ((P0_5_ k_ ∨ P1_5_ k_) ∨ w.heap.size ≤ k_) ∧ some k_ ≠ (s_ : Value).ownBlock ∧ k_ ≠ gb728 ∧ k_ ≠ gb729 ∧ k_ ≠ gb730) (.slice A1_5 l1_5.length c1_5) l1_5) ∧ (w'.heap[gb728]? = some (.cells #[.bool a0_0, .bool a0_1, .int .i64 a0_2, .int .i64 a0_3, .int .i64 a0_4, .slice A0_5 l0_5.length c0_5] 47 (0, 0))) ∧ (w'.heap[gb729]? = some (.cells #[.bool a1_0, .bool a1_1, .int .i64 a1_2, .int .i64 a1_3, .int .i64 a1_4, .slice A1_5 l1_5.length c1_5] 47 (0, 0))) ∧ (w'.heap[gb730]? = some (.cells #[.bool false, .bool false, .int .i64 0, .int .i64 0, .int .i64 0, .slice none 0 0] 47 (0, 0))) ∧ (Below w.heap.size w w')) ?_ ?_
              rotate_left
              ·intro hJ2
               refine join_ (σ := Nat) 5 #[true, true, false, true, true, false, true, true, false, false, true, false] (fun s_ => [(6, .pointer (some ⟨s_, 0, none⟩))]) (fun s_ w' => (w'.cell? ⟨gb728, 0, none⟩ = some (.bool a0_0) ∧ w'.cell? ⟨gb728, 1, none⟩ = some (.bool a0_1) ∧ w'.cell? ⟨gb728, 2, none⟩ = some (.int .i64 a0_2) ∧ w'.cell? ⟨gb728, 3, none⟩ = some (.int .i64 a0_3) ∧ w'.cell? ⟨gb728, 4, none⟩ = some (.int .i64 a0_4) ∧ w'.cell? ⟨gb728, 5, none⟩ = some (.slice A0_5 l0_5.length c0_5) ∧ w'.cell? ⟨gb729, 0, none⟩ = some (.bool a1_0) ∧ w'.cell? ⟨gb729, 1, none⟩ = some (.bool a1_1) ∧ w'.cell? ⟨gb729, 2, none⟩ = some (.int .i64 a1_2) ∧ w'.cell? ⟨gb729, 3, none⟩ = some (.int .i64 a1_3) ∧ w'.cell? ⟨gb729, 4, none⟩ = some (.int .i64 a1_4) ∧ w'.cell? ⟨gb729, 5, none⟩ = some (.slice A1_5 l1_5.length c1_5)) ∧ (Kd.V k33 33 w' w.heap.size (fun k_ => ((P0_5_ k_ ∨ P1_5_ k_) ∨ w.heap.size ≤ k_) ∧ k_ ≠ gb728 ∧ k_ ≠ gb729 ∧ k_ ≠ gb730 ∧ k_ ≠ s_) (.slice A0_5 l0_5.length c0_5) l0_5) ∧ (Kd.V k33 33 w' w.heap.size (fun k_ => ((P0_5_ k_ ∨ P1_5_ k_) ∨ w.heap.size ≤ k_) ∧ k_ ≠ gb728 ∧ k_ ≠ gb729 ∧ k_ ≠ gb730 ∧ k_ ≠ s_) (.slice A1_5 l1_5.length c1_5) l1_5) ∧ (w'.heap[gb728]? = some (.cells #[.bool a0_0, .bool a0_1, .int .i64 a0_2, .int .i64 a0_3, .int .i64 a0_4, .slice A0_5 l0_5.length c0_5] 47 (0, 0))) ∧ (w'.heap[gb729]? = some (.cells #[.bool a1_0, .bool a1_1, .int .i64 a1_2, .int .i64 a1_3, .int .i64 a1_4, .slice A1_5 l1_5.length c1_5] 47 (0, 0))) ∧ (w'.heap[gb730]? = some (.cells #[.bool false, .bool false, .int .i64 0, .int .i64 0, .int .i64 0, .slice none 0 0] 47 (0, 0))) ∧ (w'.heap[s_]? = some (.cells #[.bool false, .bool false, .int .i64 0, .int .i64 0, .int .i64 0, .slice none 0 0] 47 (0, 0))) ∧ (w.heap.size ≤ s_) ∧ (w.heap.size ≤ s_) ∧ (gb728 ≠ s_) ∧ (s_ ≠ gb728) ∧ (gb729 ≠ s_) ∧ (s_ ≠ gb729) ∧ (gb730 ≠ s_) ∧ (s_ ≠ gb730) ∧ (Below w.heap.size w w')) ?_ ?_
               rotate_left
               ·intro hJ10
                refine two_ (i := 2) (j := 10) (Ni := some 35) (Nj := some 6) #[true, true, true, true, true, false, true, true, false, false, false, false] #[true, true, false, true, true, false, true, true, false, false, true, false] rfl rfl rfl rfl (two_of HT_.out (by kernel_rfl)) (by decide) (by decide) (fun K hK => ?_) (fun K hK => ?_)
                ·skip
                 refine Kd.N_lit_step k33 _ 33 ?hg (N' := 35) ?hd (xs := ([] : List (S33))) (inner := []) (ok := (fun k_ => ((P0_5_ k_ ∨ P1_5_ k_) ∨ w.heap.size ≤ k_) ∧ k_ ≠ gb728 ∧ k_ ≠ gb729 ∧ k_ ≠ gb730)) (okp := (fun k_ => ((P0_5_ k_ ∨ P1_5_ k_) ∨ w.heap.size ≤ k_) ∧ k_ ≠ gb728 ∧ k_ ≠ gb729 ∧ k_ ≠ gb730)) ?hr ?hp (fun _ hk => hk) ((show ∀ k_, w84.heap.size ≤ k_ → (fun k_ => ((P0_5_ k_ ∨ P1_5_ k_) ∨ w.heap.size ≤ k_) ∧ k_ ≠ gb728 ∧ k_ ≠ gb729 ∧ k_ ≠ gb730) k_ from fun k_ hk => ⟨(.inr (Nat.le_trans (below_size zb) hk)), tfB BK728 k_ hk, tfB BK729 k_ hk, tfB BK730 k_ hk⟩) _ (Nat.le_refl _)) (Below.refl _ _) (Nat.le_refl _) (by simp) ?_; (case hd => rfl); (case hg => rfl); (case hr => first | (go_simp; done) | (go_simp; rfl)); (case hp => exact (Reps.none _ _))
                 intro v734 w85 ho86 hb hg_ hnew_
                 clear hg_ hnew_
                 (first | rw [← Ny733.out] at ho86 | (simp only [Int.reduceToNat] at ho86; rw [← Ny733.out] at ho86))
                 replace HO_729005 := tVe HO_729005 ho86 hb
                 replace HO_730005 := tVe HO_730005 ho86 hb
                 have HO735 := tNl ho86 HB
                 replace BK728 := tBb BK728 hb
                 replace BK729 := tBb BK729 hb
                 replace BK730 := tBb BK730 hb
                 replace HB := tBs HB hb
                 clear hb ho86
                 refine hK.out _ _ ⟨(blk_cell BK728.out 0).trans rfl, (blk_cell BK728.out 1).trans rfl, (blk_cell BK728.out 2).trans rfl, (blk_cell BK728.out 3).trans rfl, (blk_cell BK728.out 4).trans rfl, (blk_cell BK728.out 5).trans rfl, (blk_cell BK729.out 0).trans rfl, (blk_cell BK729.out 1).trans rfl, (blk_cell BK729.out 2).trans rfl, (blk_cell BK729.out 3).trans rfl, (blk_cell BK729.out 4).trans rfl, (blk_cell BK729.out 5).trans rfl⟩ (fun hHeld => ?_)
                 clear hK K
                 refine tnm (some 35) ?_
                 exact tnx (hJ2 (v734) _ ⟨hHeld, (tN HO735.out), (tVm HO_729005.out), (tVm HO_730005.out), (tH BK728.out), (tH BK729.out), (tH BK730.out), zb⟩)
                ·skip
                 refine box_step ?hg (N := 6) ?hd (cs := #[.bool false, .bool false, .int .i64 0, .int .i64 0, .int .i64 0, .slice none 0 0]) (t := 47) ?hr ?_; (case hd => rfl); (case hg => rfl); (case hr => first | (go_simp; done) | (go_simp; rfl))
                 intro gb750 hg w85 hbox hb
                 replace HO_729005 := tVB HO_729005 hg hb
                 replace HO_730005 := tVB HO_730005 hg hb
                 have BK750 := Aside0.mk (hbox)
                 have GW750 := tge HB hg
                 have GE750 := tge HB hg
                 replace HB := tBs HB hb
                 have NB728_750 := tlt BK728 hg
                 have NB750_728 := tgt BK728 hg
                 replace BK728 := tBb BK728 hb
                 have NB729_750 := tlt BK729 hg
                 have NB750_729 := tgt BK729 hg
                 replace BK729 := tBb BK729 hb
                 have NB730_750 := tlt BK730 hg
                 have NB750_730 := tgt BK730 hg
                 replace BK730 := tBb BK730 hb
                 clear hb hbox hg
                 refine hK.out _ _ ⟨(blk_cell BK728.out 0).trans rfl, (blk_cell BK728.out 1).trans rfl, (blk_cell BK728.out 2).trans rfl, (blk_cell BK728.out 3).trans rfl, (blk_cell BK728.out 4).trans rfl, (blk_cell BK728.out 5).trans rfl, (blk_cell BK729.out 0).trans rfl, (blk_cell BK729.out 1).trans rfl, (blk_cell BK729.out 2).trans rfl, (blk_cell BK729.out 3).trans rfl, (blk_cell BK729.out 4).trans rfl, (blk_cell BK729.out 5).trans rfl⟩ (fun hHeld => ?_)
                 clear hK K
                 refine tnm (some 6) ?_
                 exact tnx (hJ10 (gb750) _ ⟨hHeld, (tVm HO_729005.out), (tVm HO_730005.out), (tH BK728.out), (tH BK729.out), (tH BK730.out), (tH BK750.out), GW750.out, GE750.out, NB728_750.out, NB750_728.out, NB729_750.out, NB750_729.out, NB730_750.out, NB750_730.out, zb⟩)
               ·skip
                rintro gb750 w86 ⟨hS_, h0_, h1_, h2_, h3_, h4_, h5_, h6_, h7_, h8_, h9_, h10_, h11_, h12_, h13_, h14_⟩
                have n0_ : Aside0 (Kd.V k33 33 w86 w.heap.size (fun k_ => ((P0_5_ k_ ∨ P1_5_ k_) ∨ w.heap.size ≤ k_) ∧ k_ ≠ gb728 ∧ k_ ≠ gb729 ∧ k_ ≠ gb730 ∧ k_ ≠ gb750) (.slice A0_5 l0_5.length c0_5) l0_5) := ⟨h0_⟩
                have n1_ : Aside0 (Kd.V k33 33 w86 w.heap.size (fun k_ => ((P0_5_ k_ ∨ P1_5_ k_) ∨ w.heap.size ≤ k_) ∧ k_ ≠ gb728 ∧ k_ ≠ gb729 ∧ k_ ≠ gb730 ∧ k_ ≠ gb750) (.slice A1_5 l1_5.length c1_5) l1_5) := ⟨h1_⟩
                have n2_ : Aside0 (w86.heap[gb728]? = some (.cells #[.bool a0_0, .bool a0_1, .int .i64 a0_2, .int .i64 a0_3, .int .i64 a0_4, .slice A0_5 l0_5.length c0_5] 47 (0, 0))) := ⟨h2_⟩
                have n3_ : Aside0 (w86.heap[gb729]? = some (.cells #[.bool a1_0, .bool a1_1, .int .i64 a1_2, .int .i64 a1_3, .int .i64 a1_4, .slice A1_5 l1_5.length c1_5] 47 (0, 0))) := ⟨h3_⟩
                have n4_ : Aside0 (w86.heap[gb730]? = some (.cells #[.bool false, .bool false, .int .i64 0, .int .i64 0, .int .i64 0, .slice none 0 0] 47 (0, 0))) := ⟨h4_⟩
                have n5_ : Aside0 (w86.heap[gb750]? = some (.cells #[.bool false, .bool false, .int .i64 0, .int .i64 0, .int .i64 0, .slice none 0 0] 47 (0, 0))) := ⟨h5_⟩
                have n6_ : Aside0 (w.heap.size ≤ gb750) := ⟨h6_⟩
                have n7_ : Aside0 (w.heap.size ≤ gb750) := ⟨h7_⟩
                have n8_ : Aside0 (gb728 ≠ gb750) := ⟨h8_⟩
                have n9_ : Aside0 (gb750 ≠ gb728) := ⟨h9_⟩
                have n10_ : Aside0 (gb729 ≠ gb750) := ⟨h10_⟩
                have n11_ : Aside0 (gb750 ≠ gb729) := ⟨h11_⟩
                have n12_ : Aside0 (gb730 ≠ gb750) := ⟨h12_⟩
                have n13_ : Aside0 (gb750 ≠ gb730) := ⟨h13_⟩
                have n14_ : Aside0 (Below w.heap.size w w86) := ⟨h14_⟩
                clear HO_729005
                clear HO_730005
                clear BK728
                clear BK729
                clear BK730
                clear HB
                clear h0_ h1_ h2_ h3_ h4_ h5_ h6_ h7_ h8_ h9_ h10_ h11_ h12_ h13_ h14_
                have HO_729005 := n0_
                have HO_730005 := n1_
                have BK728 := n2_
                have BK729 := n3_
                have BK730 := n4_
                have BK750 := n5_
                have GW750 := n6_
                have GE750 := n7_
                have NB728_750 := n8_
                have NB750_728 := n9_
                have NB729_750 := n10_
                have NB750_729 := n11_
                have NB730_750 := n12_
                have NB750_730 := n13_
                have HB := n14_
                clear n0_ n1_ n2_ n3_ n4_ n5_ n6_ n7_ n8_ n9_ n10_ n11_ n12_ n13_ n14_
                have hHeld : w86.cell? ⟨gb728, 0, none⟩ = some (.bool a0_0) ∧ w86.cell? ⟨gb728, 1, none⟩ = some (.bool a0_1) ∧ w86.cell? ⟨gb728, 2, none⟩ = some (.int .i64 a0_2) ∧ w86.cell? ⟨gb728, 3, none⟩ = some (.int .i64 a0_3) ∧ w86.cell? ⟨gb728, 4, none⟩ = some (.int .i64 a0_4) ∧ w86.cell? ⟨gb728, 5, none⟩ = some (.slice A0_5 l0_5.length c0_5) ∧ w86.cell? ⟨gb729, 0, none⟩ = some (.bool a1_0) ∧ w86.cell? ⟨gb729, 1, none⟩ = some (.bool a1_1) ∧ w86.cell? ⟨gb729, 2, none⟩ = some (.int .i64 a1_2) ∧ w86.cell? ⟨gb729, 3, none⟩ = some (.int .i64 a1_3) ∧ w86.cell? ⟨gb729, 4, none⟩ = some (.int .i64 a1_4) ∧ w86.cell? ⟨gb729, 5, none⟩ = some (.slice A1_5 l1_5.length c1_5) := hS_
                refine tnp ?_
                refine one_ (i := 2) (N := some 35) #[true, true, true, true, true, false, true, true, false, false, true, false] rfl rfl (one_of HT_.out (by kernel_rfl)) (by decide) (fun K hK => ?_)
                refine Kd.N_lit_step k33 _ 33 ?hg (N' := 35) ?hd (xs := ([] : List (S33))) (inner := []) (ok := (fun k_ => ((P0_5_ k_ ∨ P1_5_ k_) ∨ w.heap.size ≤ k_) ∧ k_ ≠ gb728 ∧ k_ ≠ gb729 ∧ k_ ≠ gb730 ∧ k_ ≠ gb750)) (okp := (fun k_ => ((P0_5_ k_ ∨ P1_5_ k_) ∨ w.heap.size ≤ k_) ∧ k_ ≠ gb728 ∧ k_ ≠ gb729 ∧ k_ ≠ gb730 ∧ k_ ≠ gb750)) ?hr ?hp (fun _ hk => hk) ((show ∀ k_, w86.heap.size ≤ k_ → (fun k_ => ((P0_5_ k_ ∨ P1_5_ k_) ∨ w.heap.size ≤ k_) ∧ k_ ≠ gb728 ∧ k_ ≠ gb729 ∧ k_ ≠ gb730 ∧ k_ ≠ gb750) k_ from fun k_ hk => ⟨(.inr (Nat.le_trans (below_size zb) hk)), tfB BK728 k_ hk, tfB BK729 k_ hk, tfB BK730 k_ hk, tfB BK750 k_ hk⟩) _ (Nat.le_refl _)) (Below.refl _ _) (Nat.le_refl _) (by simp) ?_; (case hd => rfl); (case hg => rfl); (case hr => first | (go_simp; done) | (go_simp; rfl)); (case hp => exact (Reps.none _ _))
                intro v734 w87 ho88 hb hg_ hnew_
                clear hg_ hnew_
                (first | rw [← Ny733.out] at ho88 | (simp only [Int.reduceToNat] at ho88; rw [← Ny733.out] at ho88))
                replace HO_729005 := tVe HO_729005 ho88 hb
                replace HO_730005 := tVe HO_730005 ho88 hb
                have HO735 := tNl ho88 HB
                replace BK728 := tBb BK728 hb
                replace BK729 := tBb BK729 hb
                replace BK730 := tBb BK730 hb
                replace BK750 := tBb BK750 hb
                replace HB := tBs HB hb
                clear hb ho88
                refine hK.out _ _ ⟨(blk_cell BK728.out 0).trans rfl, (blk_cell BK728.out 1).trans rfl, (blk_cell BK728.out 2).trans rfl, (blk_cell BK728.out 3).trans rfl, (blk_cell BK728.out 4).trans rfl, (blk_cell BK728.out 5).trans rfl, (blk_cell BK729.out 0).trans rfl, (blk_cell BK729.out 1).trans rfl, (blk_cell BK729.out 2).trans rfl, (blk_cell BK729.out 3).trans rfl, (blk_cell BK729.out 4).trans rfl, (blk_cell BK729.out 5).trans rfl⟩ (fun hHeld => ?_)
                clear hK K
                refine tnm (some 35) ?_
                exact tnx (hJ2_10 (v734, gb750) _ ⟨hHeld, (tN HO735.out), (tVm HO_729005.out), (tVm HO_730005.out), (tH BK728.out), (tH BK729.out), (tH BK730.out), (tH BK750.out), GW750.out, GE750.out, NB728_750.out, NB750_728.out, NB729_750.out, NB750_729.out, NB730_750.out, NB750_730.out, zb⟩)
              ·skip
               rintro v734 w87 ⟨hS_, h0_, h1_, h2_, h3_, h4_, h5_, h6_⟩
               have n0_ : Aside0 (Kd.N k33 33 w87 w.heap.size (fun k_ => ((P0_5_ k_ ∨ P1_5_ k_) ∨ w.heap.size ≤ k_) ∧ k_ ≠ gb728 ∧ k_ ≠ gb729 ∧ k_ ≠ gb730) v734 y733) := ⟨h0_⟩
               have n1_ : Aside0 (Kd.V k33 33 w87 w.heap.size (fun k_ => ((P0_5_ k_ ∨ P1_5_ k_) ∨ w.heap.size ≤ k_) ∧ some k_ ≠ (v734 : Value).ownBlock ∧ k_ ≠ gb728 ∧ k_ ≠ gb729 ∧ k_ ≠ gb730) (.slice A0_5 l0_5.length c0_5) l0_5) := ⟨h1_⟩
               have n2_ : Aside0 (Kd.V k33 33 w87 w.heap.size (fun k_ => ((P0_5_ k_ ∨ P1_5_ k_) ∨ w.heap.size ≤ k_) ∧ some k_ ≠ (v734 : Value).ownBlock ∧ k_ ≠ gb728 ∧ k_ ≠ gb729 ∧ k_ ≠ gb730) (.slice A1_5 l1_5.length c1_5) l1_5) := ⟨h2_⟩
               have n3_ : Aside0 (w87.heap[gb728]? = some (.cells #[.bool a0_0, .bool a0_1, .int .i64 a0_2, .int .i64 a0_3, .int .i64 a0_4, .slice A0_5 l0_5.length c0_5] 47 (0, 0))) := ⟨h3_⟩
               have n4_ : Aside0 (w87.heap[gb729]? = some (.cells #[.bool a1_0, .bool a1_1, .int .i64 a1_2, .int .i64 a1_3, .int .i64 a1_4, .slice A1_5 l1_5.length c1_5] 47 (0, 0))) := ⟨h4_⟩
               have n5_ : Aside0 (w87.heap[gb730]? = some (.cells #[.bool false, .bool false, .int .i64 0, .int .i64 0, .int .i64 0, .slice none 0 0] 47 (0, 0))) := ⟨h5_⟩
               have n6_ : Aside0 (Below w.heap.size w w87) := ⟨h6_⟩
               clear HO_729005
               clear HO_730005
               clear BK728
               clear BK729
               clear BK730
               clear HB
               clear h0_ h1_ h2_ h3_ h4_ h5_ h6_
               have HO735 := n0_
               have HO_729005 := n1_
               have HO_730005 := n2_
               have BK728 := n3_
               have BK729 := n4_
               have BK730 := n5_
               have HB := n6_
               clear n0_ n1_ n2_ n3_ n4_ n5_ n6_
               have hHeld : w87.cell? ⟨gb728, 0, none⟩ = some (.bool a0_0) ∧ w87.cell? ⟨gb728, 1, none⟩ = some (.bool a0_1) ∧ w87.cell? ⟨gb728, 2, none⟩ = some (.int .i64 a0_2) ∧ w87.cell? ⟨gb728, 3, none⟩ = some (.int .i64 a0_3) ∧ w87.cell? ⟨gb728, 4, none⟩ = some (.int .i64 a0_4) ∧ w87.cell? ⟨gb728, 5, none⟩ = some (.slice A0_5 l0_5.length c0_5) ∧ w87.cell? ⟨gb729, 0, none⟩ = some (.bool a1_0) ∧ w87.cell? ⟨gb729, 1, none⟩ = some (.bool a1_1) ∧ w87.cell? ⟨gb729, 2, none⟩ = some (.int .i64 a1_2) ∧ w87.cell? ⟨gb729, 3, none⟩ = some (.int .i64 a1_3) ∧ w87.cell? ⟨gb729, 4, none⟩ = some (.int .i64 a1_4) ∧ w87.cell? ⟨gb729, 5, none⟩ = some (.slice A1_5 l1_5.length c1_5) := hS_
               refine tnp ?_
               refine two_ (i := 5) (j := 10) (Ni := some 38) (Nj := some 6) #[true, true, true, true, true, true, true, true, false, false, false, false] #[true, true, true, true, true, false, true, true, false, false, true, false] rfl rfl rfl rfl (two_of HT_.out (by kernel_rfl)) (by decide) (by decide) (fun K hK => ?_) (fun K hK => ?_)
               ·skip
                refine Kd.N_append_rows_step k33 (w0 := w) w.heap.size (by rfl) (.tmp 35) (.tmp 37) 29 33 (.agg #[(.int .i64 0), (.int .i64 0), (.bool false), (.slice none 0 0), (.bool false), (.slice none 0 0)]) 80 rfl Tryd.underlying29 info33 rfl (by decide) (by omega) v734 y733 l0_5 _ _ _ (fun k_ => ((P0_5_ k_ ∨ P1_5_ k_) ∨ w.heap.size ≤ k_) ∧ k_ ≠ gb728 ∧ k_ ≠ gb729 ∧ k_ ≠ gb730) (fun k_ => ((fun k_ => ((P0_5_ k_ ∨ P1_5_ k_) ∨ w.heap.size ≤ k_) ∧ k_ ≠ gb728 ∧ k_ ≠ gb729 ∧ k_ ≠ gb730)) k_ ∧ some k_ ≠ (v734 : Value).ownBlock) rfl rfl ?aO ?aR (fun _ hk => hk) ?aF ?aB ?aS ?aL ?_
                (case aR => exact (by skip; exact Kd.V_F (Kd.V_mono (ok' := (fun k_ => ((fun k_ => ((P0_5_ k_ ∨ P1_5_ k_) ∨ w.heap.size ≤ k_) ∧ k_ ≠ gb728 ∧ k_ ≠ gb729 ∧ k_ ≠ gb730)) k_ ∧ some k_ ≠ (v734 : Value).ownBlock)) (HO_729005.out) (fun k_ hk => ⟨⟨hk.1, ⟨hk.2.2.1, ⟨hk.2.2.2.1, hk.2.2.2.2⟩⟩⟩, hk.2.1⟩))))
                (case aB => exact zb)
                (case aF => exact (fun k_ hk => ⟨(.inr (Nat.le_trans (below_size zb) hk)), tfB BK728 k_ hk, tfB BK729 k_ hk, tfB BK730 k_ hk⟩))
                (case aO => exact (tN HO735.out))
                (case aS => exact (below_size zb))
                (case aL => have := LMc54.out; omega)
                intro v737 w88 ho hb hg hat
                rw [← Ny736.out] at ho
                replace HO_729005 := Aside0.mk (Kd.V_afterv (ok := (fun k_ => ((P0_5_ k_ ∨ P1_5_ k_) ∨ w.heap.size ≤ k_) ∧ k_ ≠ gb728 ∧ k_ ≠ gb729 ∧ k_ ≠ gb730)) (tVm HO_729005.out) hg hat)
                replace HO_730005 := Aside0.mk (Kd.V_afterv (ok := (fun k_ => ((P0_5_ k_ ∨ P1_5_ k_) ∨ w.heap.size ≤ k_) ∧ k_ ≠ gb728 ∧ k_ ≠ gb729 ∧ k_ ≠ gb730)) (tVm HO_730005.out) hg hat)
                replace BK728 := Aside0.mk (blk_grown (tH BK728.out) hg (Kd.N_ne HO735.out BK728.out (by decide)))
                replace BK729 := Aside0.mk (blk_grown (tH BK729.out) hg (Kd.N_ne HO735.out BK729.out (by decide)))
                replace BK730 := Aside0.mk (blk_grown (tH BK730.out) hg (Kd.N_ne HO735.out BK730.out (by decide)))
                replace HB := Aside0.mk (hb)
                have HO738 := Aside0.mk (ho)
                clear HO735
                clear ho hb hg hat
                refine hK.out _ _ ⟨(blk_cell BK728.out 0).trans rfl, (blk_cell BK728.out 1).trans rfl, (blk_cell BK728.out 2).trans rfl, (blk_cell BK728.out 3).trans rfl, (blk_cell BK728.out 4).trans rfl, (blk_cell BK728.out 5).trans rfl, (blk_cell BK729.out 0).trans rfl, (blk_cell BK729.out 1).trans rfl, (blk_cell BK729.out 2).trans rfl, (blk_cell BK729.out 3).trans rfl, (blk_cell BK729.out 4).trans rfl, (blk_cell BK729.out 5).trans rfl⟩ (fun hHeld => ?_)
                clear hK K
                refine tnm (some 38) ?_
                exact tnx (hJ2_5 (v734, v737) _ ⟨hHeld, (tN HO738.out), (tVm HO_729005.out), (tVm HO_730005.out), (tH BK728.out), (tH BK729.out), (tH BK730.out), zb⟩)
               ·skip
                refine box_step ?hg (N := 6) ?hd (cs := #[.bool false, .bool false, .int .i64 0, .int .i64 0, .int .i64 0, .slice none 0 0]) (t := 47) ?hr ?_; (case hd => rfl); (case hg => rfl); (case hr => first | (go_simp; done) | (go_simp; rfl))
                intro gb750 hg w88 hbox hb
                replace HO_729005 := tVB HO_729005 hg hb
                replace HO_730005 := tVB HO_730005 hg hb
                replace HO735 := tNB HO735 hg hb
                have BK750 := Aside0.mk (hbox)
                have GW750 := tge HB hg
                have GE750 := tge HB hg
                replace HB := tBs HB hb
                have NB728_750 := tlt BK728 hg
                have NB750_728 := tgt BK728 hg
                replace BK728 := tBb BK728 hb
                have NB729_750 := tlt BK729 hg
                have NB750_729 := tgt BK729 hg
                replace BK729 := tBb BK729 hb
                have NB730_750 := tlt BK730 hg
                have NB750_730 := tgt BK730 hg
                replace BK730 := tBb BK730 hb
                clear hb hbox hg
                refine hK.out _ _ ⟨(blk_cell BK728.out 0).trans rfl, (blk_cell BK728.out 1).trans rfl, (blk_cell BK728.out 2).trans rfl, (blk_cell BK728.out 3).trans rfl, (blk_cell BK728.out 4).trans rfl, (blk_cell BK728.out 5).trans rfl, (blk_cell BK729.out 0).trans rfl, (blk_cell BK729.out 1).trans rfl, (blk_cell BK729.out 2).trans rfl, (blk_cell BK729.out 3).trans rfl, (blk_cell BK729.out 4).trans rfl, (blk_cell BK729.out 5).trans rfl⟩ (fun hHeld => ?_)
                clear hK K
                refine tnm (some 6) ?_
                exact tnx (hJ2_10 (v734, gb750) _ ⟨hHeld, (tNm HO735.out), (tVm HO_729005.out), (tVm HO_730005.out), (tH BK728.out), (tH BK729.out), (tH BK730.out), (tH BK750.out), GW750.out, GE750.out, NB728_750.out, NB750_728.out, NB729_750.out, NB750_729.out, NB730_750.out, NB750_730.out, zb⟩)
             ·skip
              rintro ⟨v734, gb750⟩ w88 ⟨hS_, h0_, h1_, h2_, h3_, h4_, h5_, h6_, h7_, h8_, h9_, h10_, h11_, h12_, h13_, h14_, h15_⟩
              have n0_ : Aside0 (Kd.N k33 33 w88 w.heap.size (fun k_ => ((P0_5_ k_ ∨ P1_5_ k_) ∨ w.heap.size ≤ k_) ∧ k_ ≠ gb728 ∧ k_ ≠ gb729 ∧ k_ ≠ gb730 ∧ k_ ≠ gb750) v734 y733) := ⟨h0_⟩
              have n1_ : Aside0 (Kd.V k33 33 w88 w.heap.size (fun k_ => ((P0_5_ k_ ∨ P1_5_ k_) ∨ w.heap.size ≤ k_) ∧ some k_ ≠ (v734 : Value).ownBlock ∧ k_ ≠ gb728 ∧ k_ ≠ gb729 ∧ k_ ≠ gb730 ∧ k_ ≠ gb750) (.slice A0_5 l0_5.length c0_5) l0_5) := ⟨h1_⟩
              have n2_ : Aside0 (Kd.V k33 33 w88 w.heap.size (fun k_ => ((P0_5_ k_ ∨ P1_5_ k_) ∨ w.heap.size ≤ k_) ∧ some k_ ≠ (v734 : Value).ownBlock ∧ k_ ≠ gb728 ∧ k_ ≠ gb729 ∧ k_ ≠ gb730 ∧ k_ ≠ gb750) (.slice A1_5 l1_5.length c1_5) l1_5) := ⟨h2_⟩
              have n3_ : Aside0 (w88.heap[gb728]? = some (.cells #[.bool a0_0, .bool a0_1, .int .i64 a0_2, .int .i64 a0_3, .int .i64 a0_4, .slice A0_5 l0_5.length c0_5] 47 (0, 0))) := ⟨h3_⟩
              have n4_ : Aside0 (w88.heap[gb729]? = some (.cells #[.bool a1_0, .bool a1_1, .int .i64 a1_2, .int .i64 a1_3, .int .i64 a1_4, .slice A1_5 l1_5.length c1_5] 47 (0, 0))) := ⟨h4_⟩
              have n5_ : Aside0 (w88.heap[gb730]? = some (.cells #[.bool false, .bool false, .int .i64 0, .int .i64 0, .int .i64 0, .slice none 0 0] 47 (0, 0))) := ⟨h5_⟩
              have n6_ : Aside0 (w88.heap[gb750]? = some (.cells #[.bool false, .bool false, .int .i64 0, .int .i64 0, .int .i64 0, .slice none 0 0] 47 (0, 0))) := ⟨h6_⟩
              have n7_ : Aside0 (w.heap.size ≤ gb750) := ⟨h7_⟩
              have n8_ : Aside0 (w.heap.size ≤ gb750) := ⟨h8_⟩
              have n9_ : Aside0 (gb728 ≠ gb750) := ⟨h9_⟩
              have n10_ : Aside0 (gb750 ≠ gb728) := ⟨h10_⟩
              have n11_ : Aside0 (gb729 ≠ gb750) := ⟨h11_⟩
              have n12_ : Aside0 (gb750 ≠ gb729) := ⟨h12_⟩
              have n13_ : Aside0 (gb730 ≠ gb750) := ⟨h13_⟩
              have n14_ : Aside0 (gb750 ≠ gb730) := ⟨h14_⟩
              have n15_ : Aside0 (Below w.heap.size w w88) := ⟨h15_⟩
              clear HO_729005
              clear HO_730005
              clear BK728
              clear BK729
              clear BK730
              clear HB
              clear h0_ h1_ h2_ h3_ h4_ h5_ h6_ h7_ h8_ h9_ h10_ h11_ h12_ h13_ h14_ h15_
              have HO735 := n0_
              have HO_729005 := n1_
              have HO_730005 := n2_
              have BK728 := n3_
              have BK729 := n4_
              have BK730 := n5_
              have BK750 := n6_
              have GW750 := n7_
              have GE750 := n8_
              have NB728_750 := n9_
              have NB750_728 := n10_
              have NB729_750 := n11_
              have NB750_729 := n12_
              have NB730_750 := n13_
              have NB750_730 := n14_
              have HB := n15_
              clear n0_ n1_ n2_ n3_ n4_ n5_ n6_ n7_ n8_ n9_ n10_ n11_ n12_ n13_ n14_ n15_
              have hHeld : w88.cell? ⟨gb728, 0, none⟩ = some (.bool a0_0) ∧ w88.cell? ⟨gb728, 1, none⟩ = some (.bool a0_1) ∧ w88.cell? ⟨gb728, 2, none⟩ = some (.int .i64 a0_2) ∧ w88.cell? ⟨gb728, 3, none⟩ = some (.int .i64 a0_3) ∧ w88.cell? ⟨gb728, 4, none⟩ = some (.int .i64 a0_4) ∧ w88.cell? ⟨gb728, 5, none⟩ = some (.slice A0_5 l0_5.length c0_5) ∧ w88.cell? ⟨gb729, 0, none⟩ = some (.bool a1_0) ∧ w88.cell? ⟨gb729, 1, none⟩ = some (.bool a1_1) ∧ w88.cell? ⟨gb729, 2, none⟩ = some (.int .i64 a1_2) ∧ w88.cell? ⟨gb729, 3, none⟩ = some (.int .i64 a1_3) ∧ w88.cell? ⟨gb729, 4, none⟩ = some (.int .i64 a1_4) ∧ w88.cell? ⟨gb729, 5, none⟩ = some (.slice A1_5 l1_5.length c1_5) := hS_
              refine tnp ?_
              refine one_ (i := 5) (N := some 38) #[true, true, true, true, true, true, true, true, false, false, true, false] rfl rfl (one_of HT_.out (by kernel_rfl)) (by decide) (fun K hK => ?_)
              refine Kd.N_append_rows_step k33 (w0 := w) w.heap.size (by rfl) (.tmp 35) (.tmp 37) 29 33 (.agg #[(.int .i64 0), (.int .i64 0), (.bool false), (.slice none 0 0), (.bool false), (.slice none 0 0)]) 80 rfl Tryd.underlying29 info33 rfl (by decide) (by omega) v734 y733 l0_5 _ _ _ (fun k_ => ((P0_5_ k_ ∨ P1_5_ k_) ∨ w.heap.size ≤ k_) ∧ k_ ≠ gb728 ∧ k_ ≠ gb729 ∧ k_ ≠ gb730 ∧ k_ ≠ gb750) (fun k_ => ((fun k_ => ((P0_5_ k_ ∨ P1_5_ k_) ∨ w.heap.size ≤ k_) ∧ k_ ≠ gb728 ∧ k_ ≠ gb729 ∧ k_ ≠ gb730 ∧ k_ ≠ gb750)) k_ ∧ some k_ ≠ (v734 : Value).ownBlock) rfl rfl ?aO ?aR (fun _ hk => hk) ?aF ?aB ?aS ?aL ?_
              (case aR => exact (by skip; exact Kd.V_F (Kd.V_mono (ok' := (fun k_ => ((fun k_ => ((P0_5_ k_ ∨ P1_5_ k_) ∨ w.heap.size ≤ k_) ∧ k_ ≠ gb728 ∧ k_ ≠ gb729 ∧ k_ ≠ gb730 ∧ k_ ≠ gb750)) k_ ∧ some k_ ≠ (v734 : Value).ownBlock)) (HO_729005.out) (fun k_ hk => ⟨⟨hk.1, ⟨hk.2.2.1, ⟨hk.2.2.2.1, ⟨hk.2.2.2.2.1, hk.2.2.2.2.2⟩⟩⟩⟩, hk.2.1⟩))))
              (case aB => exact zb)
              (case aF => exact (fun k_ hk => ⟨(.inr (Nat.le_trans (below_size zb) hk)), tfB BK728 k_ hk, tfB BK729 k_ hk, tfB BK730 k_ hk, tfB BK750 k_ hk⟩))
              (case aO => exact (tN HO735.out))
              (case aS => exact (below_size zb))
              (case aL => have := LMc54.out; omega)
              intro v737 w89 ho hb hg hat
              rw [← Ny736.out] at ho
              replace HO_729005 := Aside0.mk (Kd.V_afterv (ok := (fun k_ => ((P0_5_ k_ ∨ P1_5_ k_) ∨ w.heap.size ≤ k_) ∧ k_ ≠ gb728 ∧ k_ ≠ gb729 ∧ k_ ≠ gb730 ∧ k_ ≠ gb750)) (tVm HO_729005.out) hg hat)
              replace HO_730005 := Aside0.mk (Kd.V_afterv (ok := (fun k_ => ((P0_5_ k_ ∨ P1_5_ k_) ∨ w.heap.size ≤ k_) ∧ k_ ≠ gb728 ∧ k_ ≠ gb729 ∧ k_ ≠ gb730 ∧ k_ ≠ gb750)) (tVm HO_730005.out) hg hat)
              replace BK728 := Aside0.mk (blk_grown (tH BK728.out) hg (Kd.N_ne HO735.out BK728.out (by decide)))
              replace BK729 := Aside0.mk (blk_grown (tH BK729.out) hg (Kd.N_ne HO735.out BK729.out (by decide)))
              replace BK730 := Aside0.mk (blk_grown (tH BK730.out) hg (Kd.N_ne HO735.out BK730.out (by decide)))
              replace BK750 := Aside0.mk (blk_grown (tH BK750.out) hg (Kd.N_ne HO735.out BK750.out (by decide)))
              replace HB := Aside0.mk (hb)
              have HO738 := Aside0.mk (ho)
              clear HO735
              clear ho hb hg hat
              refine hK.out _ _ ⟨(blk_cell BK728.out 0).trans rfl, (blk_cell BK728.out 1).trans rfl, (blk_cell BK728.out 2).trans rfl, (blk_cell BK728.out 3).trans rfl, (blk_cell BK728.out 4).trans rfl, (blk_cell BK728.out 5).trans rfl, (blk_cell BK729.out 0).trans rfl, (blk_cell BK729.out 1).trans rfl, (blk_cell BK729.out 2).trans rfl, (blk_cell BK729.out 3).trans rfl, (blk_cell BK729.out 4).trans rfl, (blk_cell BK729.out 5).trans rfl⟩ (fun hHeld => ?_)
              clear hK K
              refine tnm (some 38) ?_
              exact tnx (hJ2_5_10 (v734, v737, gb750) _ ⟨hHeld, (tN HO738.out), (tVm HO_729005.out), (tVm HO_730005.out), (tH BK728.out), (tH BK729.out), (tH BK730.out), (tH BK750.out), GW750.out, GE750.out, NB728_750.out, NB750_728.out, NB729_750.out, NB750_729.out, NB730_750.out, NB750_730.out, zb⟩)
            ·skip
             rintro ⟨v734, v737⟩ w88 ⟨hS_, h0_, h1_, h2_, h3_, h4_, h5_, h6_⟩
             have n0_ : Aside0 (Kd.N k33 33 w88 w.heap.size (fun k_ => ((P0_5_ k_ ∨ P1_5_ k_) ∨ w.heap.size ≤ k_) ∧ k_ ≠ gb728 ∧ k_ ≠ gb729 ∧ k_ ≠ gb730) v737 y736) := ⟨h0_⟩
             have n1_ : Aside0 (Kd.V k33 33 w88 w.heap.size (fun k_ => ((P0_5_ k_ ∨ P1_5_ k_) ∨ w.heap.size ≤ k_) ∧ some k_ ≠ (v737 : Value).ownBlock ∧ k_ ≠ gb728 ∧ k_ ≠ gb729 ∧ k_ ≠ gb730) (.slice A0_5 l0_5.length c0_5) l0_5) := ⟨h1_⟩
             have n2_ : Aside0 (Kd.V k33 33 w88 w.heap.size (fun k_ => ((P0_5_ k_ ∨ P1_5_ k_) ∨ w.heap.size ≤ k_) ∧ some k_ ≠ (v737 : Value).ownBlock ∧ k_ ≠ gb728 ∧ k_ ≠ gb729 ∧ k_ ≠ gb730) (.slice A1_5 l1_5.length c1_5) l1_5) := ⟨h2_⟩
             have n3_ : Aside0 (w88.heap[gb728]? = some (.cells #[.bool a0_0, .bool a0_1, .int .i64 a0_2, .int .i64 a0_3, .int .i64 a0_4, .slice A0_5 l0_5.length c0_5] 47 (0, 0))) := ⟨h3_⟩
             have n4_ : Aside0 (w88.heap[gb729]? = some (.cells #[.bool a1_0, .bool a1_1, .int .i64 a1_2, .int .i64 a1_3, .int .i64 a1_4, .slice A1_5 l1_5.length c1_5] 47 (0, 0))) := ⟨h4_⟩
             have n5_ : Aside0 (w88.heap[gb730]? = some (.cells #[.bool false, .bool false, .int .i64 0, .int .i64 0, .int .i64 0, .slice none 0 0] 47 (0, 0))) := ⟨h5_⟩
             have n6_ : Aside0 (Below w.heap.size w w88) := ⟨h6_⟩
             clear HO_729005
             clear HO_730005
             clear BK728
             clear BK729
             clear BK730
             clear HB
             clear h0_ h1_ h2_ h3_ h4_ h5_ h6_
             have HO738 := n0_
             have HO_729005 := n1_
             have HO_730005 := n2_
             have BK728 := n3_
             have BK729 := n4_
             have BK730 := n5_
             have HB := n6_
             clear n0_ n1_ n2_ n3_ n4_ n5_ n6_
             have hHeld : w88.cell? ⟨gb728, 0, none⟩ = some (.bool a0_0) ∧ w88.cell? ⟨gb728, 1, none⟩ = some (.bool a0_1) ∧ w88.cell? ⟨gb728, 2, none⟩ = some (.int .i64 a0_2) ∧ w88.cell? ⟨gb728, 3, none⟩ = some (.int .i64 a0_3) ∧ w88.cell? ⟨gb728, 4, none⟩ = some (.int .i64 a0_4) ∧ w88.cell? ⟨gb728, 5, none⟩ = some (.slice A0_5 l0_5.length c0_5) ∧ w88.cell? ⟨gb729, 0, none⟩ = some (.bool a1_0) ∧ w88.cell? ⟨gb729, 1, none⟩ = some (.bool a1_1) ∧ w88.cell? ⟨gb729, 2, none⟩ = some (.int .i64 a1_2) ∧ w88.cell? ⟨gb729, 3, none⟩ = some (.int .i64 a1_3) ∧ w88.cell? ⟨gb729, 4, none⟩ = some (.int .i64 a1_4) ∧ w88.cell? ⟨gb729, 5, none⟩ = some (.slice A1_5 l1_5.length c1_5) := hS_
             refine tnp ?_
             refine two_ (i := 8) (j := 10) (Ni := some 41) (Nj := some 6) #[true, true, true, true, true, true, true, true, true, false, false, false] #[true, true, true, true, true, true, true, true, false, false, true, false] rfl rfl rfl rfl (two_of HT_.out (by kernel_rfl)) (by decide) (by decide) (fun K hK => ?_) (fun K hK => ?_)
             ·skip
              refine Kd.N_append_rows_step k33 (w0 := w) w.heap.size (by rfl) (.tmp 38) (.tmp 40) 29 33 (.agg #[(.int .i64 0), (.int .i64 0), (.bool false), (.slice none 0 0), (.bool false), (.slice none 0 0)]) 80 rfl Tryd.underlying29 info33 rfl (by decide) (by omega) v737 y736 l1_5 _ _ _ (fun k_ => ((P0_5_ k_ ∨ P1_5_ k_) ∨ w.heap.size ≤ k_) ∧ k_ ≠ gb728 ∧ k_ ≠ gb729 ∧ k_ ≠ gb730) (fun k_ => ((fun k_ => ((P0_5_ k_ ∨ P1_5_ k_) ∨ w.heap.size ≤ k_) ∧ k_ ≠ gb728 ∧ k_ ≠ gb729 ∧ k_ ≠ gb730)) k_ ∧ some k_ ≠ (v737 : Value).ownBlock) rfl rfl ?aO ?aR (fun _ hk => hk) ?aF ?aB ?aS ?aL ?_
              (case aR => exact (by skip; exact Kd.V_F (Kd.V_mono (ok' := (fun k_ => ((fun k_ => ((P0_5_ k_ ∨ P1_5_ k_) ∨ w.heap.size ≤ k_) ∧ k_ ≠ gb728 ∧ k_ ≠ gb729 ∧ k_ ≠ gb730)) k_ ∧ some k_ ≠ (v737 : Value).ownBlock)) (HO_730005.out) (fun k_ hk => ⟨⟨hk.1, ⟨hk.2.2.1, ⟨hk.2.2.2.1, hk.2.2.2.2⟩⟩⟩, hk.2.1⟩))))
              (case aB => exact zb)
              (case aF => exact (fun k_ hk => ⟨(.inr (Nat.le_trans (below_size zb) hk)), tfB BK728 k_ hk, tfB BK729 k_ hk, tfB BK730 k_ hk⟩))
              (case aO => exact (tN HO738.out))
              (case aS => exact (below_size zb))
              (case aL => have := LMc55.out; omega)
              intro v740 w89 ho hb hg hat
              rw [← Ny739.out] at ho
              replace HO_729005 := Aside0.mk (Kd.V_afterv (ok := (fun k_ => ((P0_5_ k_ ∨ P1_5_ k_) ∨ w.heap.size ≤ k_) ∧ k_ ≠ gb728 ∧ k_ ≠ gb729 ∧ k_ ≠ gb730)) (tVm HO_729005.out) hg hat)
              replace HO_730005 := Aside0.mk (Kd.V_afterv (ok := (fun k_ => ((P0_5_ k_ ∨ P1_5_ k_) ∨ w.heap.size ≤ k_) ∧ k_ ≠ gb728 ∧ k_ ≠ gb729 ∧ k_ ≠ gb730)) (tVm HO_730005.out) hg hat)
              replace BK728 := Aside0.mk (blk_grown (tH BK728.out) hg (Kd.N_ne HO738.out BK728.out (by decide)))
              replace BK729 := Aside0.mk (blk_grown (tH BK729.out) hg (Kd.N_ne HO738.out BK729.out (by decide)))
              replace BK730 := Aside0.mk (blk_grown (tH BK730.out) hg (Kd.N_ne HO738.out BK730.out (by decide)))
              replace HB := Aside0.mk (hb)
              have HO741 := Aside0.mk (ho)
              clear HO738
              clear ho hb hg hat
              refine hK.out _ _ ⟨(blk_cell BK728.out 0).trans rfl, (blk_cell BK728.out 1).trans rfl, (blk_cell BK728.out 2).trans rfl, (blk_cell BK728.out 3).trans rfl, (blk_cell BK728.out 4).trans rfl, (blk_cell BK728.out 5).trans rfl, (blk_cell BK729.out 0).trans rfl, (blk_cell BK729.out 1).trans rfl, (blk_cell BK729.out 2).trans rfl, (blk_cell BK729.out 3).trans rfl, (blk_cell BK729.out 4).trans rfl, (blk_cell BK729.out 5).trans rfl⟩ (fun hHeld => ?_)
              clear hK K
              refine tnm (some 41) ?_
              exact tnx (hJ2_5_8 (v734, v737, v740) _ ⟨hHeld, (tN HO741.out), (tVm HO_729005.out), (tVm HO_730005.out), (tH BK728.out), (tH BK729.out), (tH BK730.out), zb⟩)
             ·skip
              refine box_step ?hg (N := 6) ?hd (cs := #[.bool false, .bool false, .int .i64 0, .int .i64 0, .int .i64 0, .slice none 0 0]) (t := 47) ?hr ?_; (case hd => rfl); (case hg => rfl); (case hr => first | (go_simp; done) | (go_simp; rfl))
              intro gb750 hg w89 hbox hb
              replace HO_729005 := tVB HO_729005 hg hb
              replace HO_730005 := tVB HO_730005 hg hb
              replace HO738 := tNB HO738 hg hb
              have BK750 := Aside0.mk (hbox)
              have GW750 := tge HB hg
              have GE750 := tge HB hg
              replace HB := tBs HB hb
              have NB728_750 := tlt BK728 hg
              have NB750_728 := tgt BK728 hg
              replace BK728 := tBb BK728 hb
              have NB729_750 := tlt BK729 hg
              have NB750_729 := tgt BK729 hg
              replace BK729 := tBb BK729 hb
              have NB730_750 := tlt BK730 hg
              have NB750_730 := tgt BK730 hg
              replace BK730 := tBb BK730 hb
              clear hb hbox hg
              refine hK.out _ _ ⟨(blk_cell BK728.out 0).trans rfl, (blk_cell BK728.out 1).trans rfl, (blk_cell BK728.out 2).trans rfl, (blk_cell BK728.out 3).trans rfl, (blk_cell BK728.out 4).trans rfl, (blk_cell BK728.out 5).trans rfl, (blk_cell BK729.out 0).trans rfl, (blk_cell BK729.out 1).trans rfl, (blk_cell BK729.out 2).trans rfl, (blk_cell BK729.out 3).trans rfl, (blk_cell BK729.out 4).trans rfl, (blk_cell BK729.out 5).trans rfl⟩ (fun hHeld => ?_)
              clear hK K
              refine tnm (some 6) ?_
              exact tnx (hJ2_5_10 (v734, v737, gb750) _ ⟨hHeld, (tNm HO738.out), (tVm HO_729005.out), (tVm HO_730005.out), (tH BK728.out), (tH BK729.out), (tH BK730.out), (tH BK750.out), GW750.out, GE750.out, NB728_750.out, NB750_728.out, NB729_750.out, NB750_729.out, NB730_750.out, NB750_730.out, zb⟩)
           ·skip
            rintro ⟨v734, v737, gb750⟩ w89 ⟨hS_, h0_, h1_, h2_, h3_, h4_, h5_, h6_, h7_, h8_, h9_, h10_, h11_, h12_, h13_, h14_, h15_⟩
            have n0_ : Aside0 (Kd.N k33 33 w89 w.heap.size (fun k_ => ((P0_5_ k_ ∨ P1_5_ k_) ∨ w.heap.size ≤ k_) ∧ k_ ≠ gb728 ∧ k_ ≠ gb729 ∧ k_ ≠ gb730 ∧ k_ ≠ gb750) v737 y736) := ⟨h0_⟩
            have n1_ : Aside0 (Kd.V k33 33 w89 w.heap.size (fun k_ => ((P0_5_ k_ ∨ P1_5_ k_) ∨ w.heap.size ≤ k_) ∧ some k_ ≠ (v737 : Value).ownBlock ∧ k_ ≠ gb728 ∧ k_ ≠ gb729 ∧ k_ ≠ gb730 ∧ k_ ≠ gb750) (.slice A0_5 l0_5.length c0_5) l0_5) := ⟨h1_⟩
            have n2_ : Aside0 (Kd.V k33 33 w89 w.heap.size (fun k_ => ((P0_5_ k_ ∨ P1_5_ k_) ∨ w.heap.size ≤ k_) ∧ some k_ ≠ (v737 : Value).ownBlock ∧ k_ ≠ gb728 ∧ k_ ≠ gb729 ∧ k_ ≠ gb730 ∧ k_ ≠ gb750) (.slice A1_5 l1_5.length c1_5) l1_5) := ⟨h2_⟩
            have n3_ : Aside0 (w89.heap[gb728]? = some (.cells #[.bool a0_0, .bool a0_1, .int .i64 a0_2, .int .i64 a0_3, .int .i64 a0_4, .slice A0_5 l0_5.length c0_5] 47 (0, 0))) := ⟨h3_⟩
            have n4_ : Aside0 (w89.heap[gb729]? = some (.cells #[.bool a1_0, .bool a1_1, .int .i64 a1_2, .int .i64 a1_3, .int .i64 a1_4, .slice A1_5 l1_5.length c1_5] 47 (0, 0))) := ⟨h4_⟩
            have n5_ : Aside0 (w89.heap[gb730]? = some (.cells #[.bool false, .bool false, .int .i64 0, .int .i64 0, .int .i64 0, .slice none 0 0] 47 (0, 0))) := ⟨h5_⟩
            have n6_ : Aside0 (w89.heap[gb750]? = some (.cells #[.bool false, .bool false, .int .i64 0, .int .i64 0, .int .i64 0, .slice none 0 0] 47 (0, 0))) := ⟨h6_⟩
            have n7_ : Aside0 (w.heap.size ≤ gb750) := ⟨h7_⟩
            have n8_ : Aside0 (w.heap.size ≤ gb750) := ⟨h8_⟩
            have n9_ : Aside0 (gb728 ≠ gb750) := ⟨h9_⟩
            have n10_ : Aside0 (gb750 ≠ gb728) := ⟨h10_⟩
            have n11_ : Aside0 (gb729 ≠ gb750) := ⟨h11_⟩
            have n12_ : Aside0 (gb750 ≠ gb729) := ⟨h12_⟩
            have n13_ : Aside0 (gb730 ≠ gb750) := ⟨h13_⟩
            have n14_ : Aside0 (gb750 ≠ gb730) := ⟨h14_⟩
            have n15_ : Aside0 (Below w.heap.size w w89) := ⟨h15_⟩
            clear HO_729005
            clear HO_730005
            clear BK728
            clear BK729
            clear BK730
            clear HB
            clear h0_ h1_ h2_ h3_ h4_ h5_ h6_ h7_ h8_ h9_ h10_ h11_ h12_ h13_ h14_ h15_
            have HO738 := n0_
            have HO_729005 := n1_
            have HO_730005 := n2_
            have BK728 := n3_
            have BK729 := n4_
            have BK730 := n5_
            have BK750 := n6_
            have GW750 := n7_
            have GE750 := n8_
            have NB728_750 := n9_
            have NB750_728 := n10_
            have NB729_750 := n11_
            have NB750_729 := n12_
            have NB730_750 := n13_
            have NB750_730 := n14_
            have HB := n15_
            clear n0_ n1_ n2_ n3_ n4_ n5_ n6_ n7_ n8_ n9_ n10_ n11_ n12_ n13_ n14_ n15_
            have hHeld : w89.cell? ⟨gb728, 0, none⟩ = some (.bool a0_0) ∧ w89.cell? ⟨gb728, 1, none⟩ = some (.bool a0_1) ∧ w89.cell? ⟨gb728, 2, none⟩ = some (.int .i64 a0_2) ∧ w89.cell? ⟨gb728, 3, none⟩ = some (.int .i64 a0_3) ∧ w89.cell? ⟨gb728, 4, none⟩ = some (.int .i64 a0_4) ∧ w89.cell? ⟨gb728, 5, none⟩ = some (.slice A0_5 l0_5.length c0_5) ∧ w89.cell? ⟨gb729, 0, none⟩ = some (.bool a1_0) ∧ w89.cell? ⟨gb729, 1, none⟩ = some (.bool a1_1) ∧ w89.cell? ⟨gb729, 2, none⟩ = some (.int .i64 a1_2) ∧ w89.cell? ⟨gb729, 3, none⟩ = some (.int .i64 a1_3) ∧ w89.cell? ⟨gb729, 4, none⟩ = some (.int .i64 a1_4) ∧ w89.cell? ⟨gb729, 5, none⟩ = some (.slice A1_5 l1_5.length c1_5) := hS_
            refine tnp ?_
            refine one_ (i := 8) (N := some 41) #[true, true, true, true, true, true, true, true, true, false, true, false] rfl rfl (one_of HT_.out (by kernel_rfl)) (by decide) (fun K hK => ?_)
            refine Kd.N_append_rows_step k33 (w0 := w) w.heap.size (by rfl) (.tmp 38) (.tmp 40) 29 33 (.agg #[(.int .i64 0), (.int .i64 0), (.bool false), (.slice none 0 0), (.bool false), (.slice none 0 0)]) 80 rfl Tryd.underlying29 info33 rfl (by decide) (by omega) v737 y736 l1_5 _ _ _ (fun k_ => ((P0_5_ k_ ∨ P1_5_ k_) ∨ w.heap.size ≤ k_) ∧ k_ ≠ gb728 ∧ k_ ≠ gb729 ∧ k_ ≠ gb730 ∧ k_ ≠ gb750) (fun k_ => ((fun k_ => ((P0_5_ k_ ∨ P1_5_ k_) ∨ w.heap.size ≤ k_) ∧ k_ ≠ gb728 ∧ k_ ≠ gb729 ∧ k_ ≠ gb730 ∧ k_ ≠ gb750)) k_ ∧ some k_ ≠ (v737 : Value).ownBlock) rfl rfl ?aO ?aR (fun _ hk => hk) ?aF ?aB ?aS ?aL ?_
            (case aR => exact (by skip; exact Kd.V_F (Kd.V_mono (ok' := (fun k_ => ((fun k_ => ((P0_5_ k_ ∨ P1_5_ k_) ∨ w.heap.size ≤ k_) ∧ k_ ≠ gb728 ∧ k_ ≠ gb729 ∧ k_ ≠ gb730 ∧ k_ ≠ gb750)) k_ ∧ some k_ ≠ (v737 : Value).ownBlock)) (HO_730005.out) (fun k_ hk => ⟨⟨hk.1, ⟨hk.2.2.1, ⟨hk.2.2.2.1, ⟨hk.2.2.2.2.1, hk.2.2.2.2.2⟩⟩⟩⟩, hk.2.1⟩))))
            (case aB => exact zb)
            (case aF => exact (fun k_ hk => ⟨(.inr (Nat.le_trans (below_size zb) hk)), tfB BK728 k_ hk, tfB BK729 k_ hk, tfB BK730 k_ hk, tfB BK750 k_ hk⟩))
            (case aO => exact (tN HO738.out))
            (case aS => exact (below_size zb))
            (case aL => have := LMc55.out; omega)
            intro v740 w90 ho hb hg hat
            rw [← Ny739.out] at ho
            replace HO_729005 := Aside0.mk (Kd.V_afterv (ok := (fun k_ => ((P0_5_ k_ ∨ P1_5_ k_) ∨ w.heap.size ≤ k_) ∧ k_ ≠ gb728 ∧ k_ ≠ gb729 ∧ k_ ≠ gb730 ∧ k_ ≠ gb750)) (tVm HO_729005.out) hg hat)
            replace HO_730005 := Aside0.mk (Kd.V_afterv (ok := (fun k_ => ((P0_5_ k_ ∨ P1_5_ k_) ∨ w.heap.size ≤ k_) ∧ k_ ≠ gb728 ∧ k_ ≠ gb729 ∧ k_ ≠ gb730 ∧ k_ ≠ gb750)) (tVm HO_730005.out) hg hat)
            replace BK728 := Aside0.mk (blk_grown (tH BK728.out) hg (Kd.N_ne HO738.out BK728.out (by decide)))
            replace BK729 := Aside0.mk (blk_grown (tH BK729.out) hg (Kd.N_ne HO738.out BK729.out (by decide)))
            replace BK730 := Aside0.mk (blk_grown (tH BK730.out) hg (Kd.N_ne HO738.out BK730.out (by decide)))
            replace BK750 := Aside0.mk (blk_grown (tH BK750.out) hg (Kd.N_ne HO738.out BK750.out (by decide)))
            replace HB := Aside0.mk (hb)
            have HO741 := Aside0.mk (ho)
            clear HO738
            clear ho hb hg hat
            refine hK.out _ _ ⟨(blk_cell BK728.out 0).trans rfl, (blk_cell BK728.out 1).trans rfl, (blk_cell BK728.out 2).trans rfl, (blk_cell BK728.out 3).trans rfl, (blk_cell BK728.out 4).trans rfl, (blk_cell BK728.out 5).trans rfl, (blk_cell BK729.out 0).trans rfl, (blk_cell BK729.out 1).trans rfl, (blk_cell BK729.out 2).trans rfl, (blk_cell BK729.out 3).trans rfl, (blk_cell BK729.out 4).trans rfl, (blk_cell BK729.out 5).trans rfl⟩ (fun hHeld => ?_)
            clear hK K
            refine tnm (some 41) ?_
            exact tnx (hJ2_5_8_10 (v734, v737, v740, gb750) _ ⟨hHeld, (tN HO741.out), (tVm HO_729005.out), (tVm HO_730005.out), (tH BK728.out), (tH BK729.out), (tH BK730.out), (tH BK750.out), GW750.out, GE750.out, NB728_750.out, NB750_728.out, NB729_750.out, NB750_729.out, NB730_750.out, NB750_730.out, zb⟩)
          ·skip
           rintro ⟨v734, v737, v740⟩ w89 ⟨hS_, h0_, h1_, h2_, h3_, h4_, h5_, h6_⟩
           have n0_ : Aside0 (Kd.N k33 33 w89 w.heap.size (fun k_ => ((P0_5_ k_ ∨ P1_5_ k_) ∨ w.heap.size ≤ k_) ∧ k_ ≠ gb728 ∧ k_ ≠ gb729 ∧ k_ ≠ gb730) v740 y739) := ⟨h0_⟩
           have n1_ : Aside0 (Kd.V k33 33 w89 w.heap.size (fun k_ => ((P0_5_ k_ ∨ P1_5_ k_) ∨ w.heap.size ≤ k_) ∧ some k_ ≠ (v740 : Value).ownBlock ∧ k_ ≠ gb728 ∧ k_ ≠ gb729 ∧ k_ ≠ gb730) (.slice A0_5 l0_5.length c0_5) l0_5) := ⟨h1_⟩
           have n2_ : Aside0 (Kd.V k33 33 w89 w.heap.size (fun k_ => ((P0_5_ k_ ∨ P1_5_ k_) ∨ w.heap.size ≤ k_) ∧ some k_ ≠ (v740 : Value).ownBlock ∧ k_ ≠ gb728 ∧ k_ ≠ gb729 ∧ k_ ≠ gb730) (.slice A1_5 l1_5.length c1_5) l1_5) := ⟨h2_⟩
           have n3_ : Aside0 (w89.heap[gb728]? = some (.cells #[.bool a0_0, .bool a0_1, .int .i64 a0_2, .int .i64 a0_3, .int .i64 a0_4, .slice A0_5 l0_5.length c0_5] 47 (0, 0))) := ⟨h3_⟩
           have n4_ : Aside0 (w89.heap[gb729]? = some (.cells #[.bool a1_0, .bool a1_1, .int .i64 a1_2, .int .i64 a1_3, .int .i64 a1_4, .slice A1_5 l1_5.length c1_5] 47 (0, 0))) := ⟨h4_⟩
           have n5_ : Aside0 (w89.heap[gb730]? = some (.cells #[.bool false, .bool false, .int .i64 0, .int .i64 0, .int .i64 0, .slice none 0 0] 47 (0, 0))) := ⟨h5_⟩
           have n6_ : Aside0 (Below w.heap.size w w89) := ⟨h6_⟩
           clear HO_729005
           clear HO_730005
           clear BK728
           clear BK729
           clear BK730
           clear HB
           clear h0_ h1_ h2_ h3_ h4_ h5_ h6_
           have HO741 := n0_
           have HO_729005 := n1_
           have HO_730005 := n2_
           have BK728 := n3_
           have BK729 := n4_
           have BK730 := n5_
           have HB := n6_
           clear n0_ n1_ n2_ n3_ n4_ n5_ n6_
           have hHeld : w89.cell? ⟨gb728, 0, none⟩ = some (.bool a0_0) ∧ w89.cell? ⟨gb728, 1, none⟩ = some (.bool a0_1) ∧ w89.cell? ⟨gb728, 2, none⟩ = some (.int .i64 a0_2) ∧ w89.cell? ⟨gb728, 3, none⟩ = some (.int .i64 a0_3) ∧ w89.cell? ⟨gb728, 4, none⟩ = some (.int .i64 a0_4) ∧ w89.cell? ⟨gb728, 5, none⟩ = some (.slice A0_5 l0_5.length c0_5) ∧ w89.cell? ⟨gb729, 0, none⟩ = some (.bool a1_0) ∧ w89.cell? ⟨gb729, 1, none⟩ = some (.bool a1_1) ∧ w89.cell? ⟨gb729, 2, none⟩ = some (.int .i64 a1_2) ∧ w89.cell? ⟨gb729, 3, none⟩ = some (.int .i64 a1_3) ∧ w89.cell? ⟨gb729, 4, none⟩ = some (.int .i64 a1_4) ∧ w89.cell? ⟨gb729, 5, none⟩ = some (.slice A1_5 l1_5.length c1_5) := hS_
           obtain ⟨Ao90, co90, eo90⟩ := Kd.N_slice HO741.out
           (first | subst eo90 | (injection eo90 with f1_ f2_ f3_; have f4_ := f1_.symm; have f5_ := f3_.symm; clear f1_ f2_ f3_; subst f4_; subst f5_))
           refine tnp ?_
           refine two_ (i := 9) (j := 10) (Ni := some 42) (Nj := some 6) #[true, true, true, true, true, true, true, true, true, true, false, false] #[true, true, true, true, true, true, true, true, true, false, true, false] rfl rfl rfl rfl (two_of HT_.out (by kernel_rfl)) (by decide) (by decide) (fun K hK => ?_) (fun K hK => ?_)
           ·skip
            refine goes_ Tryd.func63 (by kernel_rfl) rfl #[.bool a0_0, .slice Ao90 y739.length co90] (by rfl) rfl rfl tq ?_
            with_reducible refine (spec_l31Free.calls kj2 a0_0 _ _ y739 t742 t743 t744 t745 t746 t747 _ ?side1 ?side2 A56.out).mono ?_
            (case side1 => repeat (first | exact (Kd.N_reads' HO741.out).2.2 | (with_reducible refine Kd.C_alloc ?_ _) | (with_reducible refine Kd.C_drewN ?_ _) | (with_reducible refine Kd.C_drew ?_)))
            (case side2 => exact (Kd.N_reads' HO741.out).2.1)
            rintro e w91 ⟨v748, rfl, ho0, hb⟩
            refine ⟨_, rfl, ?_⟩
            replace HO_729005 := tVe HO_729005 ho0 hb
            replace HO_730005 := tVe HO_730005 ho0 hb
            have HO749 := Aside0.mk (Kd.N_lower (Kd.N_mono (ok' := fun k_ => ((P0_5_ k_ ∨ P1_5_ k_) ∨ w.heap.size ≤ k_) ∧ some k_ ≠ (.slice Ao90 y739.length co90 : Value).ownBlock ∧ k_ ≠ gb728 ∧ k_ ≠ gb729 ∧ k_ ≠ gb730) (Kd.S_N (Kd.S_bound ho0)) (fun k_ hk_ => ⟨(.inr (Nat.le_trans (below_size zb) hk_.2.1)), (tfr HO741 k_ hk_.2.1), (tfB BK728 k_ hk_.2.1), (tfB BK729 k_ hk_.2.1), (tfB BK730 k_ hk_.2.1)⟩)) (below_size zb))
            replace HO741 := tNe HO741 ho0 hb
            replace BK728 := tBb BK728 hb
            replace BK729 := tBb BK729 hb
            replace BK730 := tBb BK730 hb
            replace HB := tBs HB hb
            (try clear hb)
            (try clear hb2)
            (try clear hk)
            (try clear hi)
            (try clear ho0)
            refine hK.out _ _ ⟨(blk_cell BK728.out 0).trans rfl, (blk_cell BK728.out 1).trans rfl, (blk_cell BK728.out 2).trans rfl, (blk_cell BK728.out 3).trans rfl, (blk_cell BK728.out 4).trans rfl, (blk_cell BK728.out 5).trans rfl, (blk_cell BK729.out 0).trans rfl, (blk_cell BK729.out 1).trans rfl, (blk_cell BK729.out 2).trans rfl, (blk_cell BK729.out 3).trans rfl, (blk_cell BK729.out 4).trans rfl, (blk_cell BK729.out 5).trans rfl⟩ (fun hHeld => ?_)
            clear hK K
            refine tnm (some 42) ?_
            exact tnx (hJ2_5_8_9 (v734, v737, .slice Ao90 y739.length co90, v748) _ ⟨hHeld, (tNm HO741.out), (tN HO749.out), (tVm HO_729005.out), (tVm HO_730005.out), (tH BK728.out), (tH BK729.out), (tH BK730.out), zb⟩)
           ·skip
            refine box_step ?hg (N := 6) ?hd (cs := #[.bool false, .bool false, .int .i64 0, .int .i64 0, .int .i64 0, .slice none 0 0]) (t := 47) ?hr ?_; (case hd => rfl); (case hg => rfl); (case hr => first | (go_simp; done) | (go_simp; rfl))
            intro gb750 hg w90 hbox hb
            replace HO_729005 := tVB HO_729005 hg hb
            replace HO_730005 := tVB HO_730005 hg hb
            replace HO741 := tNB HO741 hg hb
            have BK750 := Aside0.mk (hbox)
            have GW750 := tge HB hg
            have GE750 := tge HB hg
            replace HB := tBs HB hb
            have NB728_750 := tlt BK728 hg
            have NB750_728 := tgt BK728 hg
            replace BK728 := tBb BK728 hb
            have NB729_750 := tlt BK729 hg
            have NB750_729 := tgt BK729 hg
            replace BK729 := tBb BK729 hb
            have NB730_750 := tlt BK730 hg
            have NB750_730 := tgt BK730 hg
            replace BK730 := tBb BK730 hb
            clear hb hbox hg
            refine hK.out _ _ ⟨(blk_cell BK728.out 0).trans rfl, (blk_cell BK728.out 1).trans rfl, (blk_cell BK728.out 2).trans rfl, (blk_cell BK728.out 3).trans rfl, (blk_cell BK728.out 4).trans rfl, (blk_cell BK728.out 5).trans rfl, (blk_cell BK729.out 0).trans rfl, (blk_cell BK729.out 1).trans rfl, (blk_cell BK729.out 2).trans rfl, (blk_cell BK729.out 3).trans rfl, (blk_cell BK729.out 4).trans rfl, (blk_cell BK729.out 5).trans rfl⟩ (fun hHeld => ?_)
            clear hK K
            refine tnm (some 6) ?_
            exact tnx (hJ2_5_8_10 (v734, v737, (.slice Ao90 y739.length co90), gb750) _ ⟨hHeld, (tNm HO741.out), (tVm HO_729005.out), (tVm HO_730005.out), (tH BK728.out), (tH BK729.out), (tH BK730.out), (tH BK750.out), GW750.out, GE750.out, NB728_750.out, NB750_728.out, NB729_750.out, NB750_729.out, NB730_750.out, NB750_730.out, zb⟩)
         ·skip
          rintro ⟨v734, v737, v740, gb750⟩ w90 ⟨hS_, h0_, h1_, h2_, h3_, h4_, h5_, h6_, h7_, h8_, h9_, h10_, h11_, h12_, h13_, h14_, h15_⟩
          have n0_ : Aside0 (Kd.N k33 33 w90 w.heap.size (fun k_ => ((P0_5_ k_ ∨ P1_5_ k_) ∨ w.heap.size ≤ k_) ∧ k_ ≠ gb728 ∧ k_ ≠ gb729 ∧ k_ ≠ gb730 ∧ k_ ≠ gb750) v740 y739) := ⟨h0_⟩
          have n1_ : Aside0 (Kd.V k33 33 w90 w.heap.size (fun k_ => ((P0_5_ k_ ∨ P1_5_ k_) ∨ w.heap.size ≤ k_) ∧ some k_ ≠ (v740 : Value).ownBlock ∧ k_ ≠ gb728 ∧ k_ ≠ gb729 ∧ k_ ≠ gb730 ∧ k_ ≠ gb750) (.slice A0_5 l0_5.length c0_5) l0_5) := ⟨h1_⟩
          have n2_ : Aside0 (Kd.V k33 33 w90 w.heap.size (fun k_ => ((P0_5_ k_ ∨ P1_5_ k_) ∨ w.heap.size ≤ k_) ∧ some k_ ≠ (v740 : Value).ownBlock ∧ k_ ≠ gb728 ∧ k_ ≠ gb729 ∧ k_ ≠ gb730 ∧ k_ ≠ gb750) (.slice A1_5 l1_5.length c1_5) l1_5) := ⟨h2_⟩
          have n3_ : Aside0 (w90.heap[gb728]? = some (.cells #[.bool a0_0, .bool a0_1, .int .i64 a0_2, .int .i64 a0_3, .int .i64 a0_4, .slice A0_5 l0_5.length c0_5] 47 (0, 0))) := ⟨h3_⟩
          have n4_ : Aside0 (w90.heap[gb729]? = some (.cells #[.bool a1_0, .bool a1_1, .int .i64 a1_2, .int .i64 a1_3, .int .i64 a1_4, .slice A1_5 l1_5.length c1_5] 47 (0, 0))) := ⟨h4_⟩
          have n5_ : Aside0 (w90.heap[gb730]? = some (.cells #[.bool false, .bool false, .int .i64 0, .int .i64 0, .int .i64 0, .slice none 0 0] 47 (0, 0))) := ⟨h5_⟩
          have n6_ : Aside0 (w90.heap[gb750]? = some (.cells #[.bool false, .bool false, .int .i64 0, .int .i64 0, .int .i64 0, .slice none 0 0] 47 (0, 0))) := ⟨h6_⟩
          have n7_ : Aside0 (w.heap.size ≤ gb750) := ⟨h7_⟩
          have n8_ : Aside0 (w.heap.size ≤ gb750) := ⟨h8_⟩
          have n9_ : Aside0 (gb728 ≠ gb750) := ⟨h9_⟩
          have n10_ : Aside0 (gb750 ≠ gb728) := ⟨h10_⟩
          have n11_ : Aside0 (gb729 ≠ gb750) := ⟨h11_⟩
          have n12_ : Aside0 (gb750 ≠ gb729) := ⟨h12_⟩
          have n13_ : Aside0 (gb730 ≠ gb750) := ⟨h13_⟩
          have n14_ : Aside0 (gb750 ≠ gb730) := ⟨h14_⟩
          have n15_ : Aside0 (Below w.heap.size w w90) := ⟨h15_⟩
          clear HO_729005
          clear HO_730005
          clear BK728
          clear BK729
          clear BK730
          clear HB
          clear h0_ h1_ h2_ h3_ h4_ h5_ h6_ h7_ h8_ h9_ h10_ h11_ h12_ h13_ h14_ h15_
          have HO741 := n0_
          have HO_729005 := n1_
          have HO_730005 := n2_
          have BK728 := n3_
          have BK729 := n4_
          have BK730 := n5_
          have BK750 := n6_
          have GW750 := n7_
          have GE750 := n8_
          have NB728_750 := n9_
          have NB750_728 := n10_
          have NB729_750 := n11_
          have NB750_729 := n12_
          have NB730_750 := n13_
          have NB750_730 := n14_
          have HB := n15_
          clear n0_ n1_ n2_ n3_ n4_ n5_ n6_ n7_ n8_ n9_ n10_ n11_ n12_ n13_ n14_ n15_
          have hHeld : w90.cell? ⟨gb728, 0, none⟩ = some (.bool a0_0) ∧ w90.cell? ⟨gb728, 1, none⟩ = some (.bool a0_1) ∧ w90.cell? ⟨gb728, 2, none⟩ = some (.int .i64 a0_2) ∧ w90.cell? ⟨gb728, 3, none⟩ = some (.int .i64 a0_3) ∧ w90.cell? ⟨gb728, 4, none⟩ = some (.int .i64 a0_4) ∧ w90.cell? ⟨gb728, 5, none⟩ = some (.slice A0_5 l0_5.length c0_5) ∧ w90.cell? ⟨gb729, 0, none⟩ = some (.bool a1_0) ∧ w90.cell? ⟨gb729, 1, none⟩ = some (.bool a1_1) ∧ w90.cell? ⟨gb729, 2, none⟩ = some (.int .i64 a1_2) ∧ w90.cell? ⟨gb729, 3, none⟩ = some (.int .i64 a1_3) ∧ w90.cell? ⟨gb729, 4, none⟩ = some (.int .i64 a1_4) ∧ w90.cell? ⟨gb729, 5, none⟩ = some (.slice A1_5 l1_5.length c1_5) := hS_
          obtain ⟨Ao91, co91, eo91⟩ := Kd.N_slice HO741.out
          (first | subst eo91 | (injection eo91 with f1_ f2_ f3_; have f4_ := f1_.symm; have f5_ := f3_.symm; clear f1_ f2_ f3_; subst f4_; subst f5_))
          refine tnp ?_
          refine one_ (i := 9) (N := some 42) #[true, true, true, true, true, true, true, true, true, true, true, false] rfl rfl (one_of HT_.out (by kernel_rfl)) (by decide) (fun K hK => ?_)
          refine goes_ Tryd.func63 (by kernel_rfl) rfl #[.bool a0_0, .slice Ao91 y739.length co91] (by rfl) rfl rfl tq ?_
          with_reducible refine (spec_l31Free.calls kj2 a0_0 _ _ y739 t742 t743 t744 t745 t746 t747 _ ?side1 ?side2 A56.out).mono ?_
          (case side1 => repeat (first | exact (Kd.N_reads' HO741.out).2.2 | (with_reducible refine Kd.C_alloc ?_ _) | (with_reducible refine Kd.C_drewN ?_ _) | (with_reducible refine Kd.C_drew ?_)))
          (case side2 => exact (Kd.N_reads' HO741.out).2.1)
          rintro e w92 ⟨v748, rfl, ho0, hb⟩
          refine ⟨_, rfl, ?_⟩
          replace HO_729005 := tVe HO_729005 ho0 hb
          replace HO_730005 := tVe HO_730005 ho0 hb
          have HO749 := Aside0.mk (Kd.N_lower (Kd.N_mono (ok' := fun k_ => ((P0_5_ k_ ∨ P1_5_ k_) ∨ w.heap.size ≤ k_) ∧ some k_ ≠ (.slice Ao91 y739.length co91 : Value).ownBlock ∧ k_ ≠ gb728 ∧ k_ ≠ gb729 ∧ k_ ≠ gb730 ∧ k_ ≠ gb750) (Kd.S_N (Kd.S_bound ho0)) (fun k_ hk_ => ⟨(.inr (Nat.le_trans (below_size zb) hk_.2.1)), (tfr HO741 k_ hk_.2.1), (tfB BK728 k_ hk_.2.1), (tfB BK729 k_ hk_.2.1), (tfB BK730 k_ hk_.2.1), (tfB BK750 k_ hk_.2.1)⟩)) (below_size zb))
          replace HO741 := tNe HO741 ho0 hb
          replace BK728 := tBb BK728 hb
          replace BK729 := tBb BK729 hb
          replace BK730 := tBb BK730 hb
          replace BK750 := tBb BK750 hb
          replace HB := tBs HB hb
          (try clear hb)
          (try clear hb2)
          (try clear hk)
          (try clear hi)
          (try clear ho0)
          refine hK.out _ _ ⟨(blk_cell BK728.out 0).trans rfl, (blk_cell BK728.out 1).trans rfl, (blk_cell BK728.out 2).trans rfl, (blk_cell BK728.out 3).trans rfl, (blk_cell BK728.out 4).trans rfl, (blk_cell BK728.out 5).trans rfl, (blk_cell BK729.out 0).trans rfl, (blk_cell BK729.out 1).trans rfl, (blk_cell BK729.out 2).trans rfl, (blk_cell BK729.out 3).trans rfl, (blk_cell BK729.out 4).trans rfl, (blk_cell BK729.out 5).trans rfl⟩ (fun hHeld => ?_)
          clear hK K
          refine tnm (some 42) ?_
          exact tnx (hJ2_5_8_9_10 (v734, v737, .slice Ao91 y739.length co91, v748, gb750) _ ⟨hHeld, (tNm HO741.out), (tN HO749.out), (tVm HO_729005.out), (tVm HO_730005.out), (tH BK728.out), (tH BK729.out), (tH BK730.out), (tH BK750.out), GW750.out, GE750.out, NB728_750.out, NB750_728.out, NB729_750.out, NB750_729.out, NB730_750.out, NB750_730.out, zb⟩)
        ·skip
         rintro ⟨v734, v737, v740, v748⟩ w91 ⟨hS_, h0_, h1_, h2_, h3_, h4_, h5_, h6_, h7_⟩
         have n0_ : Aside0 (Kd.N k33 33 w91 w.heap.size (fun k_ => ((P0_5_ k_ ∨ P1_5_ k_) ∨ w.heap.size ≤ k_) ∧ some k_ ≠ (v748 : Value).ownBlock ∧ k_ ≠ gb728 ∧ k_ ≠ gb729 ∧ k_ ≠ gb730) v740 y739) := ⟨h0_⟩
         have n1_ : Aside0 (Kd.N k33 33 w91 w.heap.size (fun k_ => ((P0_5_ k_ ∨ P1_5_ k_) ∨ w.heap.size ≤ k_) ∧ some k_ ≠ (v740 : Value).ownBlock ∧ k_ ≠ gb728 ∧ k_ ≠ gb729 ∧ k_ ≠ gb730) v748 t747) := ⟨h1_⟩
         have n2_ : Aside0 (Kd.V k33 33 w91 w.heap.size (fun k_ => ((P0_5_ k_ ∨ P1_5_ k_) ∨ w.heap.size ≤ k_) ∧ some k_ ≠ (v740 : Value).ownBlock ∧ some k_ ≠ (v748 : Value).ownBlock ∧ k_ ≠ gb728 ∧ k_ ≠ gb729 ∧ k_ ≠ gb730) (.slice A0_5 l0_5.length c0_5) l0_5) := ⟨h2_⟩
         have n3_ : Aside0 (Kd.V k33 33 w91 w.heap.size (fun k_ => ((P0_5_ k_ ∨ P1_5_ k_) ∨ w.heap.size ≤ k_) ∧ some k_ ≠ (v740 : Value).ownBlock ∧ some k_ ≠ (v748 : Value).ownBlock ∧ k_ ≠ gb728 ∧ k_ ≠ gb729 ∧ k_ ≠ gb730) (.slice A1_5 l1_5.length c1_5) l1_5) := ⟨h3_⟩
         have n4_ : Aside0 (w91.heap[gb728]? = some (.cells #[.bool a0_0, .bool a0_1, .int .i64 a0_2, .int .i64 a0_3, .int .i64 a0_4, .slice A0_5 l0_5.length c0_5] 47 (0, 0))) := ⟨h4_⟩
         have n5_ : Aside0 (w91.heap[gb729]? = some (.cells #[.bool a1_0, .bool a1_1, .int .i64 a1_2, .int .i64 a1_3, .int .i64 a1_4, .slice A1_5 l1_5.length c1_5] 47 (0, 0))) := ⟨h5_⟩
         have n6_ : Aside0 (w91.heap[gb730]? = some (.cells #[.bool false, .bool false, .int .i64 0, .int .i64 0, .int .i64 0, .slice none 0 0] 47 (0, 0))) := ⟨h6_⟩
         have n7_ : Aside0 (Below w.heap.size w w91) := ⟨h7_⟩
         clear HO_729005
         clear HO_730005
         clear BK728
         clear BK729
         clear BK730
         clear HB
         clear h0_ h1_ h2_ h3_ h4_ h5_ h6_ h7_
         have HO741 := n0_
         have HO749 := n1_
         have HO_729005 := n2_
         have HO_730005 := n3_
         have BK728 := n4_
         have BK729 := n5_
         have BK730 := n6_
         have HB := n7_
         clear n0_ n1_ n2_ n3_ n4_ n5_ n6_ n7_
         have hHeld : w91.cell? ⟨gb728, 0, none⟩ = some (.bool a0_0) ∧ w91.cell? ⟨gb728, 1, none⟩ = some (.bool a0_1) ∧ w91.cell? ⟨gb728, 2, none⟩ = some (.int .i64 a0_2) ∧ w91.cell? ⟨gb728, 3, none⟩ = some (.int .i64 a0_3) ∧ w91.cell? ⟨gb728, 4, none⟩ = some (.int .i64 a0_4) ∧ w91.cell? ⟨gb728, 5, none⟩ = some (.slice A0_5 l0_5.length c0_5) ∧ w91.cell? ⟨gb729, 0, none⟩ = some (.bool a1_0) ∧ w91.cell? ⟨gb729, 1, none⟩ = some (.bool a1_1) ∧ w91.cell? ⟨gb729, 2, none⟩ = some (.int .i64 a1_2) ∧ w91.cell? ⟨gb729, 3, none⟩ = some (.int .i64 a1_3) ∧ w91.cell? ⟨gb729, 4, none⟩ = some (.int .i64 a1_4) ∧ w91.cell? ⟨gb729, 5, none⟩ = some (.slice A1_5 l1_5.length c1_5) := hS_
         refine tnp ?_
         refine one_ (i := 10) (N := some 6) #[true, true, true, true, true, true, true, true, true, true, true, false] rfl rfl (one_of HT_.out (by kernel_rfl)) (by decide) (fun K hK => ?_)
         refine box_step ?hg (N := 6) ?hd (cs := #[.bool false, .bool false, .int .i64 0, .int .i64 0, .int .i64 0, .slice none 0 0]) (t := 47) ?hr ?_; (case hd => rfl); (case hg => rfl); (case hr => first | (go_simp; done) | (go_simp; rfl))
         intro gb750 hg w92 hbox hb
         replace HO_729005 := tVB HO_729005 hg hb
         replace HO_730005 := tVB HO_730005 hg hb
         replace HO741 := tNB HO741 hg hb
         replace HO749 := tNB HO749 hg hb
         have BK750 := Aside0.mk (hbox)
         have GW750 := tge HB hg
         have GE750 := tge HB hg
         replace HB := tBs HB hb
         have NB728_750 := tlt BK728 hg
         have NB750_728 := tgt BK728 hg
         replace BK728 := tBb BK728 hb
         have NB729_750 := tlt BK729 hg
         have NB750_729 := tgt BK729 hg
         replace BK729 := tBb BK729 hb
         have NB730_750 := tlt BK730 hg
         have NB750_730 := tgt BK730 hg
         replace BK730 := tBb BK730 hb
         clear hb hbox hg
         refine hK.out _ _ ⟨(blk_cell BK728.out 0).trans rfl, (blk_cell BK728.out 1).trans rfl, (blk_cell BK728.out 2).trans rfl, (blk_cell BK728.out 3).trans rfl, (blk_cell BK728.out 4).trans rfl, (blk_cell BK728.out 5).trans rfl, (blk_cell BK729.out 0).trans rfl, (blk_cell BK729.out 1).trans rfl, (blk_cell BK729.out 2).trans rfl, (blk_cell BK729.out 3).trans rfl, (blk_cell BK729.out 4).trans rfl, (blk_cell BK729.out 5).trans rfl⟩ (fun hHeld => ?_)
         clear hK K
         refine tnm (some 6) ?_
         exact tnx (hJ2_5_8_9_10 (v734, v737, v740, v748, gb750) _ ⟨hHeld, (tNm HO741.out), (tNm HO749.out), (tVm HO_729005.out), (tVm HO_730005.out), (tH BK728.out), (tH BK729.out), (tH BK730.out), (tH BK750.out), GW750.out, GE750.out, NB728_750.out, NB750_728.out, NB729_750.out, NB750_729.out, NB730_750.out, NB750_730.out, zb⟩)
       rintro ⟨v734, v737, v740, v748, gb750⟩ w92 ⟨hS_, h0_, h1_, h2_, h3_, h4_, h5_, h6_, h7_, h8_, h9_, h10_, h11_, h12_, h13_, h14_, h15_, h16_⟩
       have n0_ : Aside0 (Kd.N k33 33 w92 w.heap.size (fun k_ => ((P0_5_ k_ ∨ P1_5_ k_) ∨ w.heap.size ≤ k_) ∧ some k_ ≠ (v748 : Value).ownBlock ∧ k_ ≠ gb728 ∧ k_ ≠ gb729 ∧ k_ ≠ gb730 ∧ k_ ≠ gb750) v740 y739) := ⟨h0_⟩
       have n1_ : Aside0 (Kd.N k33 33 w92 w.heap.size (fun k_ => ((P0_5_ k_ ∨ P1_5_ k_) ∨ w.heap.size ≤ k_) ∧ some k_ ≠ (v740 : Value).ownBlock ∧ k_ ≠ gb728 ∧ k_ ≠ gb729 ∧ k_ ≠ gb730 ∧ k_ ≠ gb750) v748 t747) := ⟨h1_⟩
       have n2_ : Aside0 (Kd.V k33 33 w92 w.heap.size (fun k_ => ((P0_5_ k_ ∨ P1_5_ k_) ∨ w.heap.size ≤ k_) ∧ some k_ ≠ (v740 : Value).ownBlock ∧ some k_ ≠ (v748 : Value).ownBlock ∧ k_ ≠ gb728 ∧ k_ ≠ gb729 ∧ k_ ≠ gb730 ∧ k_ ≠ gb750) (.slice A0_5 l0_5.length c0_5) l0_5) := ⟨h2_⟩
       have n3_ : Aside0 (Kd.V k33 33 w92 w.heap.size (fun k_ => ((P0_5_ k_ ∨ P1_5_ k_) ∨ w.heap.size ≤ k_) ∧ some k_ ≠ (v740 : Value).ownBlock ∧ some k_ ≠ (v748 : Value).ownBlock ∧ k_ ≠ gb728 ∧ k_ ≠ gb729 ∧ k_ ≠ gb730 ∧ k_ ≠ gb750) (.slice A1_5 l1_5.length c1_5) l1_5) := ⟨h3_⟩
       have n4_ : Aside0 (w92.heap[gb728]? = some (.cells #[.bool a0_0, .bool a0_1, .int .i64 a0_2, .int .i64 a0_3, .int .i64 a0_4, .slice A0_5 l0_5.length c0_5] 47 (0, 0))) := ⟨h4_⟩
       have n5_ : Aside0 (w92.heap[gb729]? = some (.cells #[.bool a1_0, .bool a1_1, .int .i64 a1_2, .int .i64 a1_3, .int .i64 a1_4, .slice A1_5 l1_5.length c1_5] 47 (0, 0))) := ⟨h5_⟩
       have n6_ : Aside0 (w92.heap[gb730]? = some (.cells #[.bool false, .bool false, .int .i64 0, .int .i64 0, .int .i64 0, .slice none 0 0] 47 (0, 0))) := ⟨h6_⟩
       have n7_ : Aside0 (w92.heap[gb750]? = some (.cells #[.bool false, .bool false, .int .i64 0, .int .i64 0, .int .i64 0, .slice none 0 0] 47 (0, 0))) := ⟨h7_⟩
       have n8_ : Aside0 (w.heap.size ≤ gb750) := ⟨h8_⟩
       have n9_ : Aside0 (w.heap.size ≤ gb750) := ⟨h9_⟩
       have n10_ : Aside0 (gb728 ≠ gb750) := ⟨h10_⟩
       have n11_ : Aside0 (gb750 ≠ gb728) := ⟨h11_⟩
       have n12_ : Aside0 (gb729 ≠ gb750) := ⟨h12_⟩
       have n13_ : Aside0 (gb750 ≠ gb729) := ⟨h13_⟩
       have n14_ : Aside0 (gb730 ≠ gb750) := ⟨h14_⟩
       have n15_ : Aside0 (gb750 ≠ gb730) := ⟨h15_⟩
       have n16_ : Aside0 (Below w.heap.size w w92) := ⟨h16_⟩
       clear HO_729005
       clear HO_730005
       clear BK728
       clear BK729
       clear BK730
       clear HB
       clear h0_ h1_ h2_ h3_ h4_ h5_ h6_ h7_ h8_ h9_ h10_ h11_ h12_ h13_ h14_ h15_ h16_
       have HO741 := n0_
       have HO749 := n1_
       have HO_729005 := n2_
       have HO_730005 := n3_
       have BK728 := n4_
       have BK729 := n5_
       have BK730 := n6_
       have BK750 := n7_
       have GW750 := n8_
       have GE750 := n9_
       have NB728_750 := n10_
       have NB750_728 := n11_
       have NB729_750 := n12_
       have NB750_729 := n13_
       have NB730_750 := n14_
       have NB750_730 := n15_
       have HB := n16_
       clear n0_ n1_ n2_ n3_ n4_ n5_ n6_ n7_ n8_ n9_ n10_ n11_ n12_ n13_ n14_ n15_ n16_
       have hHeld : w92.cell? ⟨gb728, 0, none⟩ = some (.bool a0_0) ∧ w92.cell? ⟨gb728, 1, none⟩ = some (.bool a0_1) ∧ w92.cell? ⟨gb728, 2, none⟩ = some (.int .i64 a0_2) ∧ w92.cell? ⟨gb728, 3, none⟩ = some (.int .i64 a0_3) ∧ w92.cell? ⟨gb728, 4, none⟩ = some (.int .i64 a0_4) ∧ w92.cell? ⟨gb728, 5, none⟩ = some (.slice A0_5 l0_5.length c0_5) ∧ w92.cell? ⟨gb729, 0, none⟩ = some (.bool a1_0) ∧ w92.cell? ⟨gb729, 1, none⟩ = some (.bool a1_1) ∧ w92.cell? ⟨gb729, 2, none⟩ = some (.int .i64 a1_2) ∧ w92.cell? ⟨gb729, 3, none⟩ = some (.int .i64 a1_3) ∧ w92.cell? ⟨gb729, 4, none⟩ = some (.int .i64 a1_4) ∧ w92.cell? ⟨gb729, 5, none⟩ = some (.slice A1_5 l1_5.length c1_5) := hS_
       obtain ⟨Ao98, co98, eo98⟩ := Kd.N_slice HO749.out
       (first | subst eo98 | (injection eo98 with f1_ f2_ f3_; have f4_ := f1_.symm; have f5_ := f3_.symm; clear f1_ f2_ f3_; subst f4_; subst f5_))
       refine tnp ?_
       refine one_ (i := 11) (N := none) #[true, true, true, true, true, true, true, true, true, true, true, true] rfl rfl (one_of HT_.out (by kernel_rfl)) (by decide) (fun K hK => ?_)
       have hs93 : w92.cell? ⟨gb750, 0, none⟩ = some (.bool false) := (blk_cell BK750.out 0).trans rfl
       have hfs93 := blk_frozen BK750.out 0
       have hns93_0 := NB728_750.out
       have hns93_1 := NB729_750.out
       have hns93_2 := NB730_750.out
       have hms93_0 := NB750_728.out
       have hms93_1 := NB750_729.out
       have hms93_2 := NB750_730.out
       have hs94 : w92.cell? ⟨gb750, 1, none⟩ = some (.bool false) := (blk_cell BK750.out 1).trans rfl
       have hfs94 := blk_frozen BK750.out 1
       have hns94_0 := NB728_750.out
       have hns94_1 := NB729_750.out
       have hns94_2 := NB730_750.out
       have hms94_0 := NB750_728.out
       have hms94_1 := NB750_729.out
       have hms94_2 := NB750_730.out
       have hs95 : w92.cell? ⟨gb750, 2, none⟩ = some (.int .i64 0) := (blk_cell BK750.out 2).trans rfl
       have hfs95 := blk_frozen BK750.out 2
       have hns95_0 := NB728_750.out
       have hns95_1 := NB729_750.out
       have hns95_2 := NB730_750.out
       have hms95_0 := NB750_728.out
       have hms95_1 := NB750_729.out
       have hms95_2 := NB750_730.out
       have hs96 : w92.cell? ⟨gb750, 3, none⟩ = some (.int .i64 0) := (blk_cell BK750.out 3).trans rfl
       have hfs96 := blk_frozen BK750.out 3
       have hns96_0 := NB728_750.out
       have hns96_1 := NB729_750.out
       have hns96_2 := NB730_750.out
       have hms96_0 := NB750_728.out
       have hms96_1 := NB750_729.out
       have hms96_2 := NB750_730.out
       have hs97 : w92.cell? ⟨gb750, 4, none⟩ = some (.int .i64 0) := (blk_cell BK750.out 4).trans rfl
       have hfs97 := blk_frozen BK750.out 4
       have hns97_0 := NB728_750.out
       have hns97_1 := NB729_750.out
       have hns97_2 := NB730_750.out
       have hms97_0 := NB750_728.out
       have hms97_1 := NB750_729.out
       have hms97_2 := NB750_730.out
       have hs99 : w92.cell? ⟨gb750, 5, none⟩ = some (.slice none 0 0) := (blk_cell BK750.out 5).trans rfl
       have hfs99 := blk_frozen BK750.out 5
       have hns99_0 := NB728_750.out
       have hns99_1 := NB729_750.out
       have hns99_2 := NB730_750.out
       have hms99_0 := NB750_728.out
       have hms99_1 := NB750_729.out
       have hms99_2 := NB750_730.out
       refine tsk ?_
       refine hK.out _ _ ⟨(tcg NB728_750.out hHeld.1), (tcg NB728_750.out hHeld.2.1), (tcg NB728_750.out hHeld.2.2.1), (tcg NB728_750.out hHeld.2.2.2.1), (tcg NB728_750.out hHeld.2.2.2.2.1), (tcg NB728_750.out hHeld.2.2.2.2.2.1), (tcg NB729_750.out hHeld.2.2.2.2.2.2.1), (tcg NB729_750.out hHeld.2.2.2.2.2.2.2.1), (tcg NB729_750.out hHeld.2.2.2.2.2.2.2.2.1), (tcg NB729_750.out hHeld.2.2.2.2.2.2.2.2.2.1), (tcg NB729_750.out hHeld.2.2.2.2.2.2.2.2.2.2.1), (tcg NB729_750.out hHeld.2.2.2.2.2.2.2.2.2.2.2)⟩ (fun hHeld => ?_)
       clear hK K
       refine done_ (done_of HT_.out (by kernel_rfl)) ?_
       have hnb100 := NB750_728.out
       have hnc100 := NB728_750.out
       have hnb101 := NB750_729.out
       have hnc101 := NB729_750.out
       have hnb102 := NB750_730.out
       have hnc102 := NB730_750.out
       obtain ⟨hcz103_0, hcz103_1, hcz103_2, hcz103_3, hcz103_4, hcz103_5, hfz103_0, hfz103_1, hfz103_2, hfz103_3, hfz103_4, hfz103_5⟩ := cells6 BK750.out
       try go_wp2_with (first | ((with_reducible refine gate_callee (f := 59) rfl ?_); refine goesL_ (some 44) rfl rfl Tryd.func59 (by kernel_rfl) rfl #[.agg #[.bool t742, .bool t743, .int .i64 t744, .int .i64 t745, .int .i64 t746, .slice Ao98 t747.length co98]] rfl tq ?_; (with_reducible refine (spec_BatchValid.calls kj2 t742 t743 t744 t745 t746 _ _ t747 false _ ?side1 ?side2 A57.out).mono ?_); (case side1 => exact (Kd.N_reads' (tN HO749.out)).2.2); (case side2 => exact (Kd.N_reads' HO749.out).2.1); rintro e w104 ⟨rfl, hb⟩; refine ⟨_, rfl, ?_⟩; replace HO_729005 := tVb HO_729005 hb; replace HO_730005 := tVb HO_730005 hb; replace HO741 := tNb HO741 hb; replace HO749 := tNb HO749 hb; replace BK728 := tBb BK728 hb; replace BK729 := tBb BK729 hb; replace BK730 := tBb BK730 hb; replace BK750 := tBp (o' := .cells #[.bool t742, .bool t743, .int .i64 t744, .int .i64 t745, .int .i64 t746, .slice Ao98 t747.length co98] 47 (0, 0)) BK750 hb; replace HB := tBs HB hb; (try clear hb); (try clear hb2); (try clear hk); (try clear hi); have hnb105 := NB730_728.out; have hnc105 := NB728_730.out; have hnb106 := NB730_729.out; have hnc106 := NB729_730.out; obtain ⟨hcz107_0, hcz107_1, hcz107_2, hcz107_3, hcz107_4, hcz107_5, hfz107_0, hfz107_1, hfz107_2, hfz107_3, hfz107_4, hfz107_5⟩ := cells6 BK730.out))
       refine bodyPost_ret (results_ct rfl _ _ gb730 47 #[.bool false, .bool false, .int .i64 0, .int .i64 0, .int .i64 0, .slice none 0 0] (0, 0) _ rfl (tP BK730.out) Tryd.underlying47 rfl (by kernel_rfl)) rfl ?_
       exact ⟨_, by first | rfl | (simp [errW_none, errW_some] <;> rfl) | (simp [*, errW_none, errW_some] <;> rfl), by first | exact Kd.S_nil _ _ _ _ _ | exact Kd.N_nil _ _ _ _ _ | exact Kd.V_nil _ _ _ _ _ | exact Kd.Q_nil _ _ _ _ _ | exact Kd.R_nil _ _ _ _ _, zb⟩
     ·rw [if_neg c55] at H
      exact absurd H (by simp)
    ·rw [if_neg c54] at H
     exact absurd H (by simp)

end Go.Proofs.YtbbboachakkgiaaDoor.G

