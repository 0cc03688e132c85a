/- A text of seat YtfjkpdhldeopaaaDoor: what the law FnExactLogEven needs of this repo's texts (by pack.py). Not trusted: Lean checks it. -/
import Derived.Test.YtfjkpdhldeopaaaDoorKFnExactLogEven10
namespace Go.Proofs.YtfjkpdhldeopaaaDoor.G
open Go.RowKit Go.Proofs.YtfjkpdhldeopaaaDoorW.PrintWords Go.Proofs.YtfjkpdhldeopaaaDoorW.PrintLast Go.Proofs.YtfjkpdhldeopaaaDoorW.PrintMore
attribute [local go_sem] max2_int min2_int max_two min_two max_three min_three max_four min_four   -- for this text's walks alone
set_option linter.unusedVariables false
set_option linter.unusedSimpArgs false

set_option maxHeartbeats 8000000 in
set_option maxRecDepth 100000 in
theorem spec_BatchJoin.calls (k : Nat) (a0_0 : Bool) (a0_1 : Bool) (a0_2 : Int) (a0_3 : Int) (a0_4 : Int) (P0_5_ : Nat → Prop) (A0_5 : Option Addr) (c0_5 : Nat) (l0_5 : List (S62)) (a1_0 : Bool) (a1_1 : Bool) (a1_2 : Int) (a1_3 : Int) (a1_4 : Int) (P1_5_ : Nat → Prop) (A1_5 : Option Addr) (c1_5 : Nat) (l1_5 : List (S62)) (r1 : Bool) (r2 : Bool) (r3 : Int) (r4 : Int) (r5 : Int) (r6 : List (S62)) (r7 : Bool) (w : World) (hs0_5 : Kd.V k62 62 w w.heap.size (fun k_ => P0_5_ k_) (.slice A0_5 l0_5.length c0_5) l0_5) (hs1_5 : Kd.V k62 62 w w.heap.size (fun k_ => P1_5_ k_) (.slice A1_5 l1_5.length c1_5) l1_5) (h : spec_BatchJoin.f k a0_0 a0_1 a0_2 a0_3 a0_4 l0_5 a1_0 a1_1 a1_2 a1_3 a1_4 l1_5 = some (r1, r2, r3, r4, r5, r6, r7)) :
  Calls Tryd.prog 8 #[.agg #[.bool a0_0, .bool a0_1, .int .i64 a0_2, .int .i64 a0_3, .int .i64 a0_4, .slice A0_5 l0_5.length c0_5], .agg #[.bool a1_0, .bool a1_1, .int .i64 a1_2, .int .i64 a1_3, .int .i64 a1_4, .slice A1_5 l1_5.length c1_5]] w fun e w' => ∃ v5_ : Value, e = .returned (.tuple #[.agg #[.bool r1, .bool r2, .int .i64 r3, .int .i64 r4, .int .i64 r5, v5_], .bool r7]) ∧ Kd.N k62 62 w' w.heap.size (fun k_ => ((P0_5_ k_ ∨ P1_5_ k_) ∨ w.heap.size ≤ k_)) v5_ r6 ∧ Below w.heap.size w w' := by
 have hu28 := Tryd.underlying28
 have HO0_5 := Aside0.mk (show Kd.V k62 62 w w.heap.size (fun k_ => ((P0_5_ k_ ∨ P1_5_ k_) ∨ w.heap.size ≤ k_)) (.slice A0_5 l0_5.length c0_5) l0_5 from Kd.V_mono hs0_5 (fun k_ hk => .inl (.inl hk)))
 have HO1_5 := Aside0.mk (show Kd.V k62 62 w w.heap.size (fun k_ => ((P0_5_ k_ ∨ P1_5_ k_) ∨ w.heap.size ≤ k_)) (.slice A1_5 l1_5.length c1_5) l1_5 from Kd.V_mono hs1_5 (fun k_ hk => .inl (.inr hk)))
 have HB := Aside0.mk (Below.refl w.heap.size w)
 have H : ((spec_BatchValid.f k a0_0 a0_1 a0_2 a0_3 a0_4 l0_5).bind fun t153 => (if t153 = true then ((spec_BatchValid.f k a1_0 a1_1 a1_2 a1_3 a1_4 l1_5).bind fun t154 => (if t154 = true then (if a0_2 = 255 then (if a1_2 = 255 then (spec_BatchJoin.j0 k (a0_0 != a1_0) a0_0 a0_1 a0_2 a0_3 a0_4 l0_5 a1_0 a1_1 a1_2 a1_3 a1_4 l1_5) else (spec_BatchJoin.j0 k true a0_0 a0_1 a0_2 a0_3 a0_4 l0_5 a1_0 a1_1 a1_2 a1_3 a1_4 l1_5)) else (spec_BatchJoin.j0 k true a0_0 a0_1 a0_2 a0_3 a0_4 l0_5 a1_0 a1_1 a1_2 a1_3 a1_4 l1_5)) else (spec_BatchJoin.j0 k true a0_0 a0_1 a0_2 a0_3 a0_4 l0_5 a1_0 a1_1 a1_2 a1_3 a1_4 l1_5))) else (spec_BatchJoin.j0 k true a0_0 a0_1 a0_2 a0_3 a0_4 l0_5 a1_0 a1_1 a1_2 a1_3 a1_4 l1_5))) = some (r1, r2, r3, r4, r5, r6, r7) := h
 clear h
 have HC3 := Aside0.mk H
 clear H
 go_enter Tryd.func8, Tryd.ntmps8
 go_upto_region 1 with (first | ((with_reducible refine gate_dst (N := 2) rfl ?_); refine box_event ?hg (N := 2) ?hd (cs := #[.bool a0_0, .bool a0_1, .int .i64 a0_2, .int .i64 a0_3, .int .i64 a0_4, .slice A0_5 l0_5.length c0_5]) (t := 28) ?hr ?_; (case hd => rfl); (case hg => rfl); (case hr => first | (go_simp; done) | (go_simp; rfl)); intro gb150 hg w4 hbox hb; replace HO0_5 := tVB HO0_5 hg hb; replace HO1_5 := tVB HO1_5 hg hb; have BK150 := Aside0.mk (hbox); have GW150 := tge HB hg; have GE150 := tge HB hg; replace HB := tBs HB hb; clear hb hbox hg) | ((with_reducible refine gate_dst (N := 3) rfl ?_); refine box_event ?hg (N := 3) ?hd (cs := #[.bool a1_0, .bool a1_1, .int .i64 a1_2, .int .i64 a1_3, .int .i64 a1_4, .slice A1_5 l1_5.length c1_5]) (t := 28) ?hr ?_; (case hd => rfl); (case hg => rfl); (case hr => first | (go_simp; done) | (go_simp; rfl)); intro gb151 hg w5 hbox hb; replace HO0_5 := tVB HO0_5 hg hb; replace HO1_5 := tVB HO1_5 hg hb; have BK151 := Aside0.mk (hbox); have GW151 := tge HB hg; have GE151 := tge HB hg; replace HB := tBs HB hb; have NB150_151 := tlt BK150 hg; have NB151_150 := tgt BK150 hg; replace BK150 := tBb BK150 hb; clear hb hbox hg) | ((with_reducible refine gate_dst (N := 4) rfl ?_); refine box_event ?hg (N := 4) ?hd (cs := #[.bool false, .bool false, .int .i64 0, .int .i64 0, .int .i64 0, .slice none 0 0]) (t := 28) ?hr ?_; (case hd => rfl); (case hg => rfl); (case hr => first | (go_simp; done) | (go_simp; rfl)); intro gb152 hg w6 hbox hb; replace HO0_5 := tVB HO0_5 hg hb; replace HO1_5 := tVB HO1_5 hg hb; have BK152 := Aside0.mk (hbox); have GW152 := tge HB hg; have GE152 := tge HB hg; replace HB := tBs HB hb; have NB150_152 := tlt BK150 hg; have NB152_150 := tgt BK150 hg; replace BK150 := tBb BK150 hb; have NB151_152 := tlt BK151 hg; have NB152_151 := tgt BK151 hg; replace BK151 := tBb BK151 hb; clear hb hbox hg))
 (try simp only [Act.put, List.setIfInBounds_toArray, List.set_cons_zero, List.set_cons_succ])
 go_cut [31] (fun v31 wc => ∃ (kq : Nat) (x31_2 : Bool), v31 = .bool x31_2 ∧ Aside0 (spec_BatchJoin.j0 kq x31_2 a0_0 a0_1 a0_2 a0_3 a0_4 l0_5 a1_0 a1_1 a1_2 a1_3 a1_4 l1_5 = some (r1, r2, r3, r4, r5, r6, r7)) ∧ Aside0 (kq ≤ k) ∧ Aside0 (Kd.V k62 62 wc w.heap.size (fun k_ => ((P0_5_ k_ ∨ P1_5_ k_) ∨ w.heap.size ≤ k_) ∧ k_ ≠ gb150 ∧ k_ ≠ gb151 ∧ k_ ≠ gb152) (.slice A0_5 l0_5.length c0_5) l0_5) ∧ Aside0 (Kd.V k62 62 wc w.heap.size (fun k_ => ((P0_5_ k_ ∨ P1_5_ k_) ∨ w.heap.size ≤ k_) ∧ k_ ≠ gb150 ∧ k_ ≠ gb151 ∧ k_ ≠ gb152) (.slice A1_5 l1_5.length c1_5) l1_5) ∧ Aside0 (wc.heap[gb150]? = some (.cells #[.bool a0_0, .bool a0_1, .int .i64 a0_2, .int .i64 a0_3, .int .i64 a0_4, (.slice A0_5 l0_5.length c0_5)] 28 (0, 0))) ∧ Aside0 (wc.heap[gb151]? = some (.cells #[.bool a1_0, .bool a1_1, .int .i64 a1_2, .int .i64 a1_3, .int .i64 a1_4, (.slice A1_5 l1_5.length c1_5)] 28 (0, 0))) ∧ Aside0 (wc.heap[gb152]? = some (.cells #[.bool false, .bool false, .int .i64 0, .int .i64 0, .int .i64 0, (.slice none 0 0)] 28 (0, 0))) ∧ Aside0 (Below w.heap.size w wc))
 case first =>
  have H := HC3.out
  clear HC3
  replace H := tbe H
  obtain ⟨t153, A7, H⟩ := H
  by_cases c8 : t153 = true
  ·subst c8
   rw [if_pos rfl] at H
   replace H := tbe H
   obtain ⟨t154, A9, H⟩ := H
   by_cases c10 : t154 = true
   ·subst c10
    rw [if_pos rfl] at H
    by_cases c11 : a0_2 = 255
    ·rw [if_pos c11] at H
     have c11b0 : (a0_2 == 255) = true := beq_iff_eq.mpr c11
     have c11b1 : (a0_2 != 255) = false := bne_eq_false_iff_eq.mpr c11
     clear c11
     (first | rw [c11b0] | (simp only [i64_w, i32_w]; rw [c11b0]) | skip)
     by_cases c12 : a1_2 = 255
     ·rw [if_pos c12] at H
      have c12b0 : (a1_2 == 255) = true := beq_iff_eq.mpr c12
      have c12b1 : (a1_2 != 255) = false := bne_eq_false_iff_eq.mpr c12
      clear c12
      have H' := Aside0.mk H
      clear H
      have hnb13 := NB150_151.out
      have hnc13 := NB151_150.out
      have hnb14 := NB150_152.out
      have hnc14 := NB152_150.out
      obtain ⟨hcz15_0, hcz15_1, hcz15_2, hcz15_3, hcz15_4, hcz15_5, hfz15_0, hfz15_1, hfz15_2, hfz15_3, hfz15_4, hfz15_5⟩ := cells6 BK150.out
      go_wp2_with (first | ((with_reducible refine gate_callee (f := 26) rfl ?_); refine goesL_ (some 8) rfl rfl Tryd.func26 (by kernel_rfl) rfl #[.agg #[.bool a0_0, .bool a0_1, .int .i64 a0_2, .int .i64 a0_3, .int .i64 a0_4, .slice A0_5 l0_5.length c0_5]] rfl tq ?_; (with_reducible refine (spec_BatchValid.calls k a0_0 a0_1 a0_2 a0_3 a0_4 _ _ l0_5 true _ ?side1 ?side2 A7.out).mono ?_); (case side1 => repeat (first | exact (Kd.V_reads' HO0_5.out).2.2 | (with_reducible refine Kd.C_alloc ?_ _) | (with_reducible refine Kd.C_drewN ?_ _) | (with_reducible refine Kd.C_drew ?_))); (case side2 => exact (Kd.V_reads' HO0_5.out).2.1); rintro e w16 ⟨rfl, hb⟩; refine ⟨_, rfl, ?_⟩; replace HO0_5 := tVb HO0_5 hb; replace HO1_5 := tVb HO1_5 hb; replace BK150 := tBb BK150 hb; replace BK151 := tBb BK151 hb; replace BK152 := tBb BK152 hb; replace HB := tBs HB hb; (try clear hb); (try clear hb2); (try clear hk); (try clear hi); have hnb17 := NB151_152.out; have hnc17 := NB152_151.out; obtain ⟨hcz18_0, hcz18_1, hcz18_2, hcz18_3, hcz18_4, hcz18_5, hfz18_0, hfz18_1, hfz18_2, hfz18_3, hfz18_4, hfz18_5⟩ := cells6 BK151.out) | (go_at_call 26; (with_reducible refine (spec_BatchValid.calls k a1_0 a1_1 a1_2 a1_3 a1_4 _ _ l1_5 true _ ?side1 ?side2 A9.out).mono ?_); (case side1 => repeat (first | exact (Kd.V_reads' HO1_5.out).2.2 | (with_reducible refine Kd.C_alloc ?_ _) | (with_reducible refine Kd.C_drewN ?_ _) | (with_reducible refine Kd.C_drew ?_))); (case side2 => exact (Kd.V_reads' HO1_5.out).2.1); rintro e w19 ⟨rfl, hb⟩; replace HO0_5 := tVb HO0_5 hb; replace HO1_5 := tVb HO1_5 hb; replace BK150 := tBb BK150 hb; replace BK151 := tBb BK151 hb; replace BK152 := tBb BK152 hb; replace HB := tBs HB hb; (try clear hb); (try clear hb2); (try clear hk); (try clear hi); obtain ⟨hcz20_0, hcz20_1, hcz20_2, hcz20_3, hcz20_4, hcz20_5, hfz20_0, hfz20_1, hfz20_2, hfz20_3, hfz20_4, hfz20_5⟩ := cells6 BK150.out; obtain ⟨hcz21_0, hcz21_1, hcz21_2, hcz21_3, hcz21_4, hcz21_5, hfz21_0, hfz21_1, hfz21_2, hfz21_3, hfz21_4, hfz21_5⟩ := cells6 BK151.out))
      go_meet
      case rel => exact ⟨_, ((a0_0 != a1_0)), tr, H', ⟨by first | omega | exact Nat.le_refl _⟩, ⟨tVm HO0_5.out⟩, ⟨tVm HO1_5.out⟩, ⟨tH BK150.out⟩, ⟨tH BK151.out⟩, ⟨tH BK152.out⟩, ⟨zb⟩⟩
     ·rw [if_neg c12] at H
      have c12b0 : (a1_2 == 255) = false := beq_eq_false_iff_ne.mpr c12
      have c12b1 : (a1_2 != 255) = true := bne_iff_ne.mpr c12
      have H' := Aside0.mk H
      clear H
      have hnb22 := NB150_151.out
      have hnc22 := NB151_150.out
      have hnb23 := NB150_152.out
      have hnc23 := NB152_150.out
      obtain ⟨hcz24_0, hcz24_1, hcz24_2, hcz24_3, hcz24_4, hcz24_5, hfz24_0, hfz24_1, hfz24_2, hfz24_3, hfz24_4, hfz24_5⟩ := cells6 BK150.out
      go_wp2_with (first | ((with_reducible refine gate_callee (f := 26) rfl ?_); refine goesL_ (some 8) rfl rfl Tryd.func26 (by kernel_rfl) rfl #[.agg #[.bool a0_0, .bool a0_1, .int .i64 a0_2, .int .i64 a0_3, .int .i64 a0_4, .slice A0_5 l0_5.length c0_5]] rfl tq ?_; (with_reducible refine (spec_BatchValid.calls k a0_0 a0_1 a0_2 a0_3 a0_4 _ _ l0_5 true _ ?side1 ?side2 A7.out).mono ?_); (case side1 => repeat (first | exact (Kd.V_reads' HO0_5.out).2.2 | (with_reducible refine Kd.C_alloc ?_ _) | (with_reducible refine Kd.C_drewN ?_ _) | (with_reducible refine Kd.C_drew ?_))); (case side2 => exact (Kd.V_reads' HO0_5.out).2.1); rintro e w25 ⟨rfl, hb⟩; refine ⟨_, rfl, ?_⟩; replace HO0_5 := tVb HO0_5 hb; replace HO1_5 := tVb HO1_5 hb; replace BK150 := tBb BK150 hb; replace BK151 := tBb BK151 hb; replace BK152 := tBb BK152 hb; replace HB := tBs HB hb; (try clear hb); (try clear hb2); (try clear hk); (try clear hi); have hnb26 := NB151_152.out; have hnc26 := NB152_151.out; obtain ⟨hcz27_0, hcz27_1, hcz27_2, hcz27_3, hcz27_4, hcz27_5, hfz27_0, hfz27_1, hfz27_2, hfz27_3, hfz27_4, hfz27_5⟩ := cells6 BK151.out) | (go_at_call 26; (with_reducible refine (spec_BatchValid.calls k a1_0 a1_1 a1_2 a1_3 a1_4 _ _ l1_5 true _ ?side1 ?side2 A9.out).mono ?_); (case side1 => repeat (first | exact (Kd.V_reads' HO1_5.out).2.2 | (with_reducible refine Kd.C_alloc ?_ _) | (with_reducible refine Kd.C_drewN ?_ _) | (with_reducible refine Kd.C_drew ?_))); (case side2 => exact (Kd.V_reads' HO1_5.out).2.1); rintro e w28 ⟨rfl, hb⟩; replace HO0_5 := tVb HO0_5 hb; replace HO1_5 := tVb HO1_5 hb; replace BK150 := tBb BK150 hb; replace BK151 := tBb BK151 hb; replace BK152 := tBb BK152 hb; replace HB := tBs HB hb; (try clear hb); (try clear hb2); (try clear hk); (try clear hi); obtain ⟨hcz29_0, hcz29_1, hcz29_2, hcz29_3, hcz29_4, hcz29_5, hfz29_0, hfz29_1, hfz29_2, hfz29_3, hfz29_4, hfz29_5⟩ := cells6 BK150.out; obtain ⟨hcz30_0, hcz30_1, hcz30_2, hcz30_3, hcz30_4, hcz30_5, hfz30_0, hfz30_1, hfz30_2, hfz30_3, hfz30_4, hfz30_5⟩ := cells6 BK151.out))
      go_meet
      case rel => exact ⟨_, (true), tr, H', ⟨by first | omega | exact Nat.le_refl _⟩, ⟨tVm HO0_5.out⟩, ⟨tVm HO1_5.out⟩, ⟨tH BK150.out⟩, ⟨tH BK151.out⟩, ⟨tH BK152.out⟩, ⟨zb⟩⟩
    ·rw [if_neg c11] at H
     have c11b0 : (a0_2 == 255) = false := beq_eq_false_iff_ne.mpr c11
     have c11b1 : (a0_2 != 255) = true := bne_iff_ne.mpr c11
     (first | rw [c11b0] | (simp only [i64_w, i32_w]; rw [c11b0]) | skip)
     have H' := Aside0.mk H
     clear H
     have hnb31 := NB150_151.out
     have hnc31 := NB151_150.out
     have hnb32 := NB150_152.out
     have hnc32 := NB152_150.out
     obtain ⟨hcz33_0, hcz33_1, hcz33_2, hcz33_3, hcz33_4, hcz33_5, hfz33_0, hfz33_1, hfz33_2, hfz33_3, hfz33_4, hfz33_5⟩ := cells6 BK150.out
     go_wp2_with (first | ((with_reducible refine gate_callee (f := 26) rfl ?_); refine goesL_ (some 8) rfl rfl Tryd.func26 (by kernel_rfl) rfl #[.agg #[.bool a0_0, .bool a0_1, .int .i64 a0_2, .int .i64 a0_3, .int .i64 a0_4, .slice A0_5 l0_5.length c0_5]] rfl tq ?_; (with_reducible refine (spec_BatchValid.calls k a0_0 a0_1 a0_2 a0_3 a0_4 _ _ l0_5 true _ ?side1 ?side2 A7.out).mono ?_); (case side1 => repeat (first | exact (Kd.V_reads' HO0_5.out).2.2 | (with_reducible refine Kd.C_alloc ?_ _) | (with_reducible refine Kd.C_drewN ?_ _) | (with_reducible refine Kd.C_drew ?_))); (case side2 => exact (Kd.V_reads' HO0_5.out).2.1); rintro e w34 ⟨rfl, hb⟩; refine ⟨_, rfl, ?_⟩; replace HO0_5 := tVb HO0_5 hb; replace HO1_5 := tVb HO1_5 hb; replace BK150 := tBb BK150 hb; replace BK151 := tBb BK151 hb; replace BK152 := tBb BK152 hb; replace HB := tBs HB hb; (try clear hb); (try clear hb2); (try clear hk); (try clear hi); have hnb35 := NB151_152.out; have hnc35 := NB152_151.out; obtain ⟨hcz36_0, hcz36_1, hcz36_2, hcz36_3, hcz36_4, hcz36_5, hfz36_0, hfz36_1, hfz36_2, hfz36_3, hfz36_4, hfz36_5⟩ := cells6 BK151.out) | (go_at_call 26; (with_reducible refine (spec_BatchValid.calls k a1_0 a1_1 a1_2 a1_3 a1_4 _ _ l1_5 true _ ?side1 ?side2 A9.out).mono ?_); (case side1 => repeat (first | exact (Kd.V_reads' HO1_5.out).2.2 | (with_reducible refine Kd.C_alloc ?_ _) | (with_reducible refine Kd.C_drewN ?_ _) | (with_reducible refine Kd.C_drew ?_))); (case side2 => exact (Kd.V_reads' HO1_5.out).2.1); rintro e w37 ⟨rfl, hb⟩; replace HO0_5 := tVb HO0_5 hb; replace HO1_5 := tVb HO1_5 hb; replace BK150 := tBb BK150 hb; replace BK151 := tBb BK151 hb; replace BK152 := tBb BK152 hb; replace HB := tBs HB hb; (try clear hb); (try clear hb2); (try clear hk); (try clear hi); obtain ⟨hcz38_0, hcz38_1, hcz38_2, hcz38_3, hcz38_4, hcz38_5, hfz38_0, hfz38_1, hfz38_2, hfz38_3, hfz38_4, hfz38_5⟩ := cells6 BK150.out))
     go_meet
     case rel => exact ⟨_, (true), tr, H', ⟨by first | omega | exact Nat.le_refl _⟩, ⟨tVm HO0_5.out⟩, ⟨tVm HO1_5.out⟩, ⟨tH BK150.out⟩, ⟨tH BK151.out⟩, ⟨tH BK152.out⟩, ⟨zb⟩⟩
   ·replace c10 := Bool.eq_false_iff.mpr c10
    subst c10
    rw [if_neg (show ¬ (false = true) by decide)] at H
    have H' := Aside0.mk H
    clear H
    have hnb39 := NB150_151.out
    have hnc39 := NB151_150.out
    have hnb40 := NB150_152.out
    have hnc40 := NB152_150.out
    obtain ⟨hcz41_0, hcz41_1, hcz41_2, hcz41_3, hcz41_4, hcz41_5, hfz41_0, hfz41_1, hfz41_2, hfz41_3, hfz41_4, hfz41_5⟩ := cells6 BK150.out
    go_wp2_with (first | ((with_reducible refine gate_callee (f := 26) rfl ?_); refine goesL_ (some 8) rfl rfl Tryd.func26 (by kernel_rfl) rfl #[.agg #[.bool a0_0, .bool a0_1, .int .i64 a0_2, .int .i64 a0_3, .int .i64 a0_4, .slice A0_5 l0_5.length c0_5]] rfl tq ?_; (with_reducible refine (spec_BatchValid.calls k a0_0 a0_1 a0_2 a0_3 a0_4 _ _ l0_5 true _ ?side1 ?side2 A7.out).mono ?_); (case side1 => repeat (first | exact (Kd.V_reads' HO0_5.out).2.2 | (with_reducible refine Kd.C_alloc ?_ _) | (with_reducible refine Kd.C_drewN ?_ _) | (with_reducible refine Kd.C_drew ?_))); (case side2 => exact (Kd.V_reads' HO0_5.out).2.1); rintro e w42 ⟨rfl, hb⟩; refine ⟨_, rfl, ?_⟩; replace HO0_5 := tVb HO0_5 hb; replace HO1_5 := tVb HO1_5 hb; replace BK150 := tBb BK150 hb; replace BK151 := tBb BK151 hb; replace BK152 := tBb BK152 hb; replace HB := tBs HB hb; (try clear hb); (try clear hb2); (try clear hk); (try clear hi); have hnb43 := NB151_152.out; have hnc43 := NB152_151.out; obtain ⟨hcz44_0, hcz44_1, hcz44_2, hcz44_3, hcz44_4, hcz44_5, hfz44_0, hfz44_1, hfz44_2, hfz44_3, hfz44_4, hfz44_5⟩ := cells6 BK151.out) | (go_at_call 26; (with_reducible refine (spec_BatchValid.calls k a1_0 a1_1 a1_2 a1_3 a1_4 _ _ l1_5 false _ ?side1 ?side2 A9.out).mono ?_); (case side1 => repeat (first | exact (Kd.V_reads' HO1_5.out).2.2 | (with_reducible refine Kd.C_alloc ?_ _) | (with_reducible refine Kd.C_drewN ?_ _) | (with_reducible refine Kd.C_drew ?_))); (case side2 => exact (Kd.V_reads' HO1_5.out).2.1); rintro e w45 ⟨rfl, hb⟩; replace HO0_5 := tVb HO0_5 hb; replace HO1_5 := tVb HO1_5 hb; replace BK150 := tBb BK150 hb; replace BK151 := tBb BK151 hb; replace BK152 := tBb BK152 hb; replace HB := tBs HB hb; (try clear hb); (try clear hb2); (try clear hk); (try clear hi)))
    go_meet
    case rel => exact ⟨_, (true), tr, H', ⟨by first | omega | exact Nat.le_refl _⟩, ⟨tVm HO0_5.out⟩, ⟨tVm HO1_5.out⟩, ⟨tH BK150.out⟩, ⟨tH BK151.out⟩, ⟨tH BK152.out⟩, ⟨zb⟩⟩
  ·replace c8 := Bool.eq_false_iff.mpr c8
   subst c8
   rw [if_neg (show ¬ (false = true) by decide)] at H
   have H' := Aside0.mk H
   clear H
   have hnb46 := NB150_151.out
   have hnc46 := NB151_150.out
   have hnb47 := NB150_152.out
   have hnc47 := NB152_150.out
   obtain ⟨hcz48_0, hcz48_1, hcz48_2, hcz48_3, hcz48_4, hcz48_5, hfz48_0, hfz48_1, hfz48_2, hfz48_3, hfz48_4, hfz48_5⟩ := cells6 BK150.out
   go_wp2_with (first | ((with_reducible refine gate_callee (f := 26) rfl ?_); refine goesL_ (some 8) rfl rfl Tryd.func26 (by kernel_rfl) rfl #[.agg #[.bool a0_0, .bool a0_1, .int .i64 a0_2, .int .i64 a0_3, .int .i64 a0_4, .slice A0_5 l0_5.length c0_5]] rfl tq ?_; (with_reducible refine (spec_BatchValid.calls k a0_0 a0_1 a0_2 a0_3 a0_4 _ _ l0_5 false _ ?side1 ?side2 A7.out).mono ?_); (case side1 => repeat (first | exact (Kd.V_reads' HO0_5.out).2.2 | (with_reducible refine Kd.C_alloc ?_ _) | (with_reducible refine Kd.C_drewN ?_ _) | (with_reducible refine Kd.C_drew ?_))); (case side2 => exact (Kd.V_reads' HO0_5.out).2.1); rintro e w49 ⟨rfl, hb⟩; refine ⟨_, rfl, ?_⟩; replace HO0_5 := tVb HO0_5 hb; replace HO1_5 := tVb HO1_5 hb; replace BK150 := tBb BK150 hb; replace BK151 := tBb BK151 hb; replace BK152 := tBb BK152 hb; replace HB := tBs HB hb; (try clear hb); (try clear hb2); (try clear hk); (try clear hi)))
   go_meet
   case rel => exact ⟨_, (true), tr, H', ⟨by first | omega | exact Nat.le_refl _⟩, ⟨tVm HO0_5.out⟩, ⟨tVm HO1_5.out⟩, ⟨tH BK150.out⟩, ⟨tH BK151.out⟩, ⟨tH BK152.out⟩, ⟨zb⟩⟩
 case rest =>
  clear HC3
  obtain ⟨kq, x31_2, rfl, HA, HJ2, HO_151005, HO_152005, BK150, BK151, BK152, HB⟩ := hcut
  cases kq with
  | zero => exact absurd HA.out (by simp [spec_BatchJoin.j0])
  | succ kj2 =>
   have H := HA.out
   clear HA
   simp only [spec_BatchJoin.j0] at H
   by_cases c50 : x31_2 = true
   ·subst c50
    rw [if_pos rfl] at H
    simp only [Option.some.injEq, Prod.mk.injEq] at H
    obtain ⟨rfl, rfl, rfl, rfl, rfl, rfl, rfl⟩ := H
    have hnb51 := NB152_150.out
    have hnc51 := NB150_152.out
    have hnb52 := NB152_151.out
    have hnc52 := NB151_152.out
    obtain ⟨hcz53_0, hcz53_1, hcz53_2, hcz53_3, hcz53_4, hcz53_5, hfz53_0, hfz53_1, hfz53_2, hfz53_3, hfz53_4, hfz53_5⟩ := cells6 BK152.out
    go_wp2
    refine bodyPost_ret (results_ct rfl _ _ gb152 28 #[.bool false, .bool false, .int .i64 0, .int .i64 0, .int .i64 0, .slice none 0 0] (0, 0) _ rfl (tP BK152.out) Tryd.underlying28 rfl (by kernel_rfl)) rfl ?_
    exact ⟨_, by first | rfl | (simp [errW_none, errW_some] <;> rfl) | (simp [*, errW_none, errW_some] <;> rfl), by first | exact Kd.S_nil _ _ _ _ _ | exact Kd.N_nil _ _ _ _ _ | exact Kd.V_nil _ _ _ _ _ | exact Kd.Q_nil _ _ _ _ _ | exact Kd.R_nil _ _ _ _ _, zb⟩
   ·replace c50 := Bool.eq_false_iff.mpr c50
    subst c50
    rw [if_neg (show ¬ (false = true) by decide)] at H
    obtain ⟨y155, hy155⟩ : ∃ y_ : List (S62), y_ = (([] : List (S62))) := ⟨_, rfl⟩
    replace H : (if y155.length + l0_5.length < 1759218604441 then ((some (y155 ++ l0_5 : List (S62))).bind fun y158 => (if y158.length + l1_5.length < 1759218604441 then ((spec_l31Free.f kj2 a0_0 (y158 ++ l1_5)).bind fun bt164 => ((spec_BatchValid.f kj2 bt164.1 bt164.2.1 bt164.2.2.1 bt164.2.2.2.1 bt164.2.2.2.2.1 bt164.2.2.2.2.2).bind fun t173 => (if t173 = true then (some (bt164.1, bt164.2.1, bt164.2.2.1, bt164.2.2.2.1, bt164.2.2.2.2.1, bt164.2.2.2.2.2, true)) else (some (false, false, 0, 0, 0, ([] : List (S62)), false))))) else (none))) else (none)) = some (r1, r2, r3, r4, r5, r6, r7) := by first | (rw [hy155]; with_reducible exact H) | (have H2_ := (Option.bind_some _ _).symm.trans H; rw [hy155]; with_reducible exact H2_) | (have H2_ := (Option.bind_some _ _).symm.trans H; with_reducible exact H2_) | with_reducible exact H | (rw [hy155]; exact H) | exact H
    have Ny155 := Aside0.mk hy155
    clear hy155
    by_cases c54 : y155.length + l0_5.length < 1759218604441
    ·rw [if_pos c54] at H
     have LMc54 := Aside0.mk c54
     clear c54
     obtain ⟨y158, hy158⟩ : ∃ y_ : List (S62), y_ = (y155 ++ l0_5) := ⟨_, rfl⟩
     replace H : (if y158.length + l1_5.length < 1759218604441 then ((spec_l31Free.f kj2 a0_0 (y158 ++ l1_5)).bind fun bt164 => ((spec_BatchValid.f kj2 bt164.1 bt164.2.1 bt164.2.2.1 bt164.2.2.2.1 bt164.2.2.2.2.1 bt164.2.2.2.2.2).bind fun t173 => (if t173 = true then (some (bt164.1, bt164.2.1, bt164.2.2.1, bt164.2.2.2.1, bt164.2.2.2.2.1, bt164.2.2.2.2.2, true)) else (some (false, false, 0, 0, 0, ([] : List (S62)), false))))) else (none)) = some (r1, r2, r3, r4, r5, r6, r7) := by first | (rw [hy158]; with_reducible exact H) | (have H2_ := (Option.bind_some _ _).symm.trans H; rw [hy158]; with_reducible exact H2_) | (have H2_ := (Option.bind_some _ _).symm.trans H; with_reducible exact H2_) | with_reducible exact H | (rw [hy158]; exact H) | exact H
     have Ny158 := Aside0.mk hy158
     clear hy158
     by_cases c55 : y158.length + l1_5.length < 1759218604441
     ·rw [if_pos c55] at H
      have LMc55 := Aside0.mk c55
      clear c55
      obtain ⟨y161, hy161⟩ : ∃ y_ : List (S62), y_ = (y158 ++ l1_5) := ⟨_, rfl⟩
      replace H : ((spec_l31Free.f kj2 a0_0 y161).bind fun bt164 => ((spec_BatchValid.f kj2 bt164.1 bt164.2.1 bt164.2.2.1 bt164.2.2.2.1 bt164.2.2.2.2.1 bt164.2.2.2.2.2).bind fun t173 => (if t173 = true then (some (bt164.1, bt164.2.1, bt164.2.2.1, bt164.2.2.2.1, bt164.2.2.2.2.1, bt164.2.2.2.2.2, true)) else (some (false, false, 0, 0, 0, ([] : List (S62)), false))))) = some (r1, r2, r3, r4, r5, r6, r7) := by first | (rw [hy161]; with_reducible exact H) | (have H2_ := (Option.bind_some _ _).symm.trans H; rw [hy161]; with_reducible exact H2_) | (have H2_ := (Option.bind_some _ _).symm.trans H; with_reducible exact H2_) | with_reducible exact H | (rw [hy161]; exact H) | exact H
      have Ny161 := Aside0.mk hy161
      clear hy161
      replace H := tbe H
      obtain ⟨⟨t164, t165, t166, t167, t168, t169⟩, A56, H⟩ := H
      dsimp only at H
      replace H := tbe H
      obtain ⟨t173, A57, H⟩ := H
      by_cases c58 : t173 = true
      ·subst c58
       rw [if_pos rfl] at H
       simp only [Option.some.injEq, Prod.mk.injEq] at H
       obtain ⟨rfl, rfl, rfl, rfl, rfl, rfl, rfl⟩ := H
       try go_wp2
       replace HO_151005 := Aside0.mk (Kd.V_drew HO_151005.out)
       replace HO_152005 := Aside0.mk (Kd.V_drew HO_152005.out)
       replace BK150 := Aside0.mk (blk_drew BK150.out)
       replace BK151 := Aside0.mk (blk_drew BK151.out)
       replace BK152 := Aside0.mk (blk_drew BK152.out)
       replace HB := Aside0.mk (below_drew1 HB.out)
       refine start_ (n := 12) (S := fun w' => w'.cell? ⟨gb150, 0, none⟩ = some (.bool a0_0) ∧ w'.cell? ⟨gb150, 1, none⟩ = some (.bool a0_1) ∧ w'.cell? ⟨gb150, 2, none⟩ = some (.int .i64 a0_2) ∧ w'.cell? ⟨gb150, 3, none⟩ = some (.int .i64 a0_3) ∧ w'.cell? ⟨gb150, 4, none⟩ = some (.int .i64 a0_4) ∧ w'.cell? ⟨gb150, 5, none⟩ = some (.slice A0_5 l0_5.length c0_5) ∧ w'.cell? ⟨gb151, 0, none⟩ = some (.bool a1_0) ∧ w'.cell? ⟨gb151, 1, none⟩ = some (.bool a1_1) ∧ w'.cell? ⟨gb151, 2, none⟩ = some (.int .i64 a1_2) ∧ w'.cell? ⟨gb151, 3, none⟩ = some (.int .i64 a1_3) ∧ w'.cell? ⟨gb151, 4, none⟩ = some (.int .i64 a1_4) ∧ w'.cell? ⟨gb151, 5, none⟩ = some (.slice A1_5 l1_5.length c1_5)) (ds := []) #[false, false, false, false, false, false, false, false, false, false, false, false] (by kernel_rfl) rfl rfl ⟨(blk_cell BK150.out 0).trans rfl, (blk_cell BK150.out 1).trans rfl, (blk_cell BK150.out 2).trans rfl, (blk_cell BK150.out 3).trans rfl, (blk_cell BK150.out 4).trans rfl, (blk_cell BK150.out 5).trans rfl, (blk_cell BK151.out 0).trans rfl, (blk_cell BK151.out 1).trans rfl, (blk_cell BK151.out 2).trans rfl, (blk_cell BK151.out 3).trans rfl, (blk_cell BK151.out 4).trans rfl, (blk_cell BK151.out 5).trans rfl⟩ (fun hHeld => ?_); refine with_tabW spec_BatchJoin.tab3 spec_BatchJoin.bits3 (fun HT_ HW_ => ?_)
       generalize wc.drew = w59 at HO_151005 HO_152005 BK150 BK151 BK152 HB hHeld ⊢
       refine tpu 0 (some 33) #[true, false, false, false, false, false, false, false, false, false, false, false] ?_
       refine tpu 3 (some 36) #[true, false, false, true, false, false, false, false, false, false, false, false] ?_
       refine tpu 6 (some 39) #[true, false, false, true, false, false, true, false, false, false, false, false] ?_
       refine tta 1 (some 34) #[true, true, false, true, false, false, true, false, false, false, false, false] hHeld ?_ (hy := by rintro w' ⟨s0, s1, s2, s3, s4, s5, s6, s7, s8, s9, s10, s11⟩; go_simp; with_reducible rfl)
       refine tta 4 (some 37) #[true, true, false, true, true, false, true, false, false, false, false, false] hHeld ?_ (hy := by rintro w' ⟨s0, s1, s2, s3, s4, s5, s6, s7, s8, s9, s10, s11⟩; go_simp; with_reducible rfl)
       refine tta 7 (some 40) #[true, true, false, true, true, false, true, true, false, false, false, false] hHeld ?_ (hy := by rintro w' ⟨s0, s1, s2, s3, s4, s5, s6, s7, s8, s9, s10, s11⟩; go_simp; with_reducible rfl)
       refine join_ (σ := Value × Value × Value × Value × Nat) 1 #[true, true, true, true, true, true, true, true, true, true, true, false] (fun s_ => [(35, s_.1), (38, s_.2.1), (41, s_.2.2.1), (42, .agg #[.bool t164, .bool t165, .int .i64 t166, .int .i64 t167, .int .i64 t168, s_.2.2.2.1]), (6, .pointer (some ⟨s_.2.2.2.2, 0, none⟩))]) (fun s_ w' => (w'.cell? ⟨gb150, 0, none⟩ = some (.bool a0_0) ∧ w'.cell? ⟨gb150, 1, none⟩ = some (.bool a0_1) ∧ w'.cell? ⟨gb150, 2, none⟩ = some (.int .i64 a0_2) ∧ w'.cell? ⟨gb150, 3, none⟩ = some (.int .i64 a0_3) ∧ w'.cell? ⟨gb150, 4, none⟩ = some (.int .i64 a0_4) ∧ w'.cell? ⟨gb150, 5, none⟩ = some (.slice A0_5 l0_5.length c0_5) ∧ w'.cell? ⟨gb151, 0, none⟩ = some (.bool a1_0) ∧ w'.cell? ⟨gb151, 1, none⟩ = some (.bool a1_1) ∧ w'.cell? ⟨gb151, 2, none⟩ = some (.int .i64 a1_2) ∧ w'.cell? ⟨gb151, 3, none⟩ = some (.int .i64 a1_3) ∧ w'.cell? ⟨gb151, 4, none⟩ = some (.int .i64 a1_4) ∧ w'.cell? ⟨gb151, 5, none⟩ = some (.slice A1_5 l1_5.length c1_5)) ∧ (Kd.N k62 62 w' w.heap.size (fun k_ => ((P0_5_ k_ ∨ P1_5_ k_) ∨ w.heap.size ≤ k_) ∧ some k_ ≠ (s_.2.2.2.1 : Value).ownBlock ∧ k_ ≠ gb150 ∧ k_ ≠ gb151 ∧ k_ ≠ gb152 ∧ k_ ≠ s_.2.2.2.2) s_.2.2.1 y161) ∧ (Kd.N k62 62 w' w.heap.size (fun k_ => ((P0_5_ k_ ∨ P1_5_ k_) ∨ w.heap.size ≤ k_) ∧ some k_ ≠ (s_.2.2.1 : Value).ownBlock ∧ k_ ≠ gb150 ∧ k_ ≠ gb151 ∧ k_ ≠ gb152 ∧ k_ ≠ s_.2.2.2.2) s_.2.2.2.1 t169) ∧ (Kd.V k62 62 w' w.heap.size (fun k_ => ((P0_5_ k_ ∨ P1_5_ k_) ∨ w.heap.size ≤ k_) ∧ some k_ ≠ (s_.2.2.1 : Value).ownBlock ∧ some k_ ≠ (s_.2.2.2.1 : Value).ownBlock ∧ k_ ≠ gb150 ∧ k_ ≠ gb151 ∧ k_ ≠ gb152 ∧ k_ ≠ s_.2.2.2.2) (.slice A0_5 l0_5.length c0_5) l0_5) ∧ (Kd.V k62 62 w' w.heap.size (fun k_ => ((P0_5_ k_ ∨ P1_5_ k_) ∨ w.heap.size ≤ k_) ∧ some k_ ≠ (s_.2.2.1 : Value).ownBlock ∧ some k_ ≠ (s_.2.2.2.1 : Value).ownBlock ∧ k_ ≠ gb150 ∧ k_ ≠ gb151 ∧ k_ ≠ gb152 ∧ k_ ≠ s_.2.2.2.2) (.slice A1_5 l1_5.length c1_5) l1_5) ∧ (w'.heap[gb150]? = some (.cells #[.bool a0_0, .bool a0_1, .int .i64 a0_2, .int .i64 a0_3, .int .i64 a0_4, .slice A0_5 l0_5.length c0_5] 28 (0, 0))) ∧ (w'.heap[gb151]? = some (.cells #[.bool a1_0, .bool a1_1, .int .i64 a1_2, .int .i64 a1_3, .int .i64 a1_4, .slice A1_5 l1_5.length c1_5] 28 (0, 0))) ∧ (w'.heap[gb152]? = some (.cells #[.bool false, .bool false, .int .i64 0, .int .i64 0, .int .i64 0, .slice none 0 0] 28 (0, 0))) ∧ (w'.heap[s_.2.2.2.2]? = some (.cells #[.bool false, .bool false, .int .i64 0, .int .i64 0, .int .i64 0, .slice none 0 0] 28 (0, 0))) ∧ (w.heap.size ≤ s_.2.2.2.2) ∧ (w.heap.size ≤ s_.2.2.2.2) ∧ (gb150 ≠ s_.2.2.2.2) ∧ (s_.2.2.2.2 ≠ gb150) ∧ (gb151 ≠ s_.2.2.2.2) ∧ (s_.2.2.2.2 ≠ gb151) ∧ (gb152 ≠ s_.2.2.2.2) ∧ (s_.2.2.2.2 ≠ gb152) ∧ (Below w.heap.size w w')) ?_ ?_
       rotate_left
       ·intro hJ2_5_8_9_10
        refine join_ (σ := Value × Value × Value × Value) 2 #[true, true, true, true, true, true, true, true, true, true, false, false] (fun s_ => [(35, s_.1), (38, s_.2.1), (41, s_.2.2.1), (42, .agg #[.bool t164, .bool t165, .int .i64 t166, .int .i64 t167, .int .i64 t168, s_.2.2.2])]) (fun s_ w' => (w'.cell? ⟨gb150, 0, none⟩ = some (.bool a0_0) ∧ w'.cell? ⟨gb150, 1, none⟩ = some (.bool a0_1) ∧ w'.cell? ⟨gb150, 2, none⟩ = some (.int .i64 a0_2) ∧ w'.cell? ⟨gb150, 3, none⟩ = some (.int .i64 a0_3) ∧ w'.cell? ⟨gb150, 4, none⟩ = some (.int .i64 a0_4) ∧ w'.cell? ⟨gb150, 5, none⟩ = some (.slice A0_5 l0_5.length c0_5) ∧ w'.cell? ⟨gb151, 0, none⟩ = some (.bool a1_0) ∧ w'.cell? ⟨gb151, 1, none⟩ = some (.bool a1_1) ∧ w'.cell? ⟨gb151, 2, none⟩ = some (.int .i64 a1_2) ∧ w'.cell? ⟨gb151, 3, none⟩ = some (.int .i64 a1_3) ∧ w'.cell? ⟨gb151, 4, none⟩ = some (.int .i64 a1_4) ∧ w'.cell? ⟨gb151, 5, none⟩ = some (.slice A1_5 l1_5.length c1_5)) ∧ (Kd.N k62 62 w' w.heap.size (fun k_ => ((P0_5_ k_ ∨ P1_5_ k_) ∨ w.heap.size ≤ k_) ∧ some k_ ≠ (s_.2.2.2 : Value).ownBlock ∧ k_ ≠ gb150 ∧ k_ ≠ gb151 ∧ k_ ≠ gb152) s_.2.2.1 y161) ∧ (Kd.N k62 62 w' w.heap.size (fun k_ => ((P0_5_ k_ ∨ P1_5_ k_) ∨ w.heap.size ≤ k_) ∧ some k_ ≠ (s_.2.2.1 : Value).ownBlock ∧ k_ ≠ gb150 ∧ k_ ≠ gb151 ∧ k_ ≠ gb152) s_.2.2.2 t169) ∧ (Kd.V k62 62 w' w.heap.size (fun k_ => ((P0_5_ k_ ∨ P1_5_ k_) ∨ w.heap.size ≤ k_) ∧ some k_ ≠ (s_.2.2.1 : Value).ownBlock ∧ some k_ ≠ (s_.2.2.2 : Value).ownBlock ∧ k_ ≠ gb150 ∧ k_ ≠ gb151 ∧ k_ ≠ gb152) (.slice A0_5 l0_5.length c0_5) l0_5) ∧ (Kd.V k62 62 w' w.heap.size (fun k_ => ((P0_5_ k_ ∨ P1_5_ k_) ∨ w.heap.size ≤ k_) ∧ some k_ ≠ (s_.2.2.1 : Value).ownBlock ∧ some k_ ≠ (s_.2.2.2 : Value).ownBlock ∧ k_ ≠ gb150 ∧ k_ ≠ gb151 ∧ k_ ≠ gb152) (.slice A1_5 l1_5.length c1_5) l1_5) ∧ (w'.heap[gb150]? = some (.cells #[.bool a0_0, .bool a0_1, .int .i64 a0_2, .int .i64 a0_3, .int .i64 a0_4, .slice A0_5 l0_5.length c0_5] 28 (0, 0))) ∧ (w'.heap[gb151]? = some (.cells #[.bool a1_0, .bool a1_1, .int .i64 a1_2, .int .i64 a1_3, .int .i64 a1_4, .slice A1_5 l1_5.length c1_5] 28 (0, 0))) ∧ (w'.heap[gb152]? = some (.cells #[.bool false, .bool false, .int .i64 0, .int .i64 0, .int .i64 0, .slice none 0 0] 28 (0, 0))) ∧ (Below w.heap.size w w')) ?_ ?_
        rotate_left
        ·intro hJ2_5_8_9
         refine join_ (σ := Value × Value × Value × Nat) 2 #[true, true, true, true, true, true, true, true, true, false, true, false] (fun s_ => [(35, s_.1), (38, s_.2.1), (41, s_.2.2.1), (6, .pointer (some ⟨s_.2.2.2, 0, none⟩))]) (fun s_ w' => (w'.cell? ⟨gb150, 0, none⟩ = some (.bool a0_0) ∧ w'.cell? ⟨gb150, 1, none⟩ = some (.bool a0_1) ∧ w'.cell? ⟨gb150, 2, none⟩ = some (.int .i64 a0_2) ∧ w'.cell? ⟨gb150, 3, none⟩ = some (.int .i64 a0_3) ∧ w'.cell? ⟨gb150, 4, none⟩ = some (.int .i64 a0_4) ∧ w'.cell? ⟨gb150, 5, none⟩ = some (.slice A0_5 l0_5.length c0_5) ∧ w'.cell? ⟨gb151, 0, none⟩ = some (.bool a1_0) ∧ w'.cell? ⟨gb151, 1, none⟩ = some (.bool a1_1) ∧ w'.cell? ⟨gb151, 2, none⟩ = some (.int .i64 a1_2) ∧ w'.cell? ⟨gb151, 3, none⟩ = some (.int .i64 a1_3) ∧ w'.cell? ⟨gb151, 4, none⟩ = some (.int .i64 a1_4) ∧ w'.cell? ⟨gb151, 5, none⟩ = some (.slice A1_5 l1_5.length c1_5)) ∧ (Kd.N k62 62 w' w.heap.size (fun k_ => ((P0_5_ k_ ∨ P1_5_ k_) ∨ w.heap.size ≤ k_) ∧ k_ ≠ gb150 ∧ k_ ≠ gb151 ∧ k_ ≠ gb152 ∧ k_ ≠ s_.2.2.2) s_.2.2.1 y161) ∧ (Kd.V k62 62 w' w.heap.size (fun k_ => ((P0_5_ k_ ∨ P1_5_ k_) ∨ w.heap.size ≤ k_) ∧ some k_ ≠ (s_.2.2.1 : Value).ownBlock ∧ k_ ≠ gb150 ∧ k_ ≠ gb151 ∧ k_ ≠ gb152 ∧ k_ ≠ s_.2.2.2) (.slice A0_5 l0_5.length c0_5) l0_5) ∧ (Kd.V k62 62 w' w.heap.size (fun k_ => ((P0_5_ k_ ∨ P1_5_ k_) ∨ w.heap.size ≤ k_) ∧ some k_ ≠ (s_.2.2.1 : Value).ownBlock ∧ k_ ≠ gb150 ∧ k_ ≠ gb151 ∧ k_ ≠ gb152 ∧ k_ ≠ s_.2.2.2) (.slice A1_5 l1_5.length c1_5) l1_5) ∧ (w'.heap[gb150]? = some (.cells #[.bool a0_0, .bool a0_1, .int .i64 a0_2, .int .i64 a0_3, .int .i64 a0_4, .slice A0_5 l0_5.length c0_5] 28 (0, 0))) ∧ (w'.heap[gb151]? = some (.cells #[.bool a1_0, .bool a1_1, .int .i64 a1_2, .int .i64 a1_3, .int .i64 a1_4, .slice A1_5 l1_5.length c1_5] 28 (0, 0))) ∧ (w'.heap[gb152]? = some (.cells #[.bool false, .bool false, .int .i64 0, .int .i64 0, .int .i64 0, .slice none 0 0] 28 (0, 0))) ∧ (w'.heap[s_.2.2.2]? = some (.cells #[.bool false, .bool false, .int .i64 0, .int .i64 0, .int .i64 0, .slice none 0 0] 28 (0, 0))) ∧ (w.heap.size ≤ s_.2.2.2) ∧ (w.heap.size ≤ s_.2.2.2) ∧ (gb150 ≠ s_.2.2.2) ∧ (s_.2.2.2 ≠ gb150) ∧ (gb151 ≠ s_.2.2.2) ∧ (s_.2.2.2 ≠ gb151) ∧ (gb152 ≠ s_.2.2.2) ∧ (s_.2.2.2 ≠ gb152) ∧ (Below w.heap.size w w')) ?_ ?_
         rotate_left
         ·intro hJ2_5_8_10
          refine join_ (σ := Value × Value × Value) 3 #[true, true, true, true, true, true, true, true, true, false, false, false] (fun s_ => [(35, s_.1), (38, s_.2.1), (41, s_.2.2)]) (fun s_ w' => (w'.cell? ⟨gb150, 0, none⟩ = some (.bool a0_0) ∧ w'.cell? ⟨gb150, 1, none⟩ = some (.bool a0_1) ∧ w'.cell? ⟨gb150, 2, none⟩ = some (.int .i64 a0_2) ∧ w'.cell? ⟨gb150, 3, none⟩ = some (.int .i64 a0_3) ∧ w'.cell? ⟨gb150, 4, none⟩ = some (.int .i64 a0_4) ∧ w'.cell? ⟨gb150, 5, none⟩ = some (.slice A0_5 l0_5.length c0_5) ∧ w'.cell? ⟨gb151, 0, none⟩ = some (.bool a1_0) ∧ w'.cell? ⟨gb151, 1, none⟩ = some (.bool a1_1) ∧ w'.cell? ⟨gb151, 2, none⟩ = some (.int .i64 a1_2) ∧ w'.cell? ⟨gb151, 3, none⟩ = some (.int .i64 a1_3) ∧ w'.cell? ⟨gb151, 4, none⟩ = some (.int .i64 a1_4) ∧ w'.cell? ⟨gb151, 5, none⟩ = some (.slice A1_5 l1_5.length c1_5)) ∧ (Kd.N k62 62 w' w.heap.size (fun k_ => ((P0_5_ k_ ∨ P1_5_ k_) ∨ w.heap.size ≤ k_) ∧ k_ ≠ gb150 ∧ k_ ≠ gb151 ∧ k_ ≠ gb152) s_.2.2 y161) ∧ (Kd.V k62 62 w' w.heap.size (fun k_ => ((P0_5_ k_ ∨ P1_5_ k_) ∨ w.heap.size ≤ k_) ∧ some k_ ≠ (s_.2.2 : Value).ownBlock ∧ k_ ≠ gb150 ∧ k_ ≠ gb151 ∧ k_ ≠ gb152) (.slice A0_5 l0_5.length c0_5) l0_5) ∧ (Kd.V k62 62 w' w.heap.size (fun k_ => ((P0_5_ k_ ∨ P1_5_ k_) ∨ w.heap.size ≤ k_) ∧ some k_ ≠ (s_.2.2 : Value).ownBlock ∧ k_ ≠ gb150 ∧ k_ ≠ gb151 ∧ k_ ≠ gb152) (.slice A1_5 l1_5.length c1_5) l1_5) ∧ (w'.heap[gb150]? = some (.cells #[.bool a0_0, .bool a0_1, .int .i64 a0_2, .int .i64 a0_3, .int .i64 a0_4, .slice A0_5 l0_5.length c0_5] 28 (0, 0))) ∧ (w'.heap[gb151]? = some (.cells #[.bool a1_0, .bool a1_1, .int .i64 a1_2, .int .i64 a1_3, .int .i64 a1_4, .slice A1_5 l1_5.length c1_5] 28 (0, 0))) ∧ (w'.heap[gb152]? = some (.cells #[.bool false, .bool false, .int .i64 0, .int .i64 0, .int .i64 0, .slice none 0 0] 28 (0, 0))) ∧ (Below w.heap.size w w')) ?_ ?_
          rotate_left
          ·intro hJ2_5_8
           refine join_ (σ := Value × Value × Nat) 3 #[true, true, true, true, true, true, true, true, false, false, true, false] (fun s_ => [(35, s_.1), (38, s_.2.1), (6, .pointer (some ⟨s_.2.2, 0, none⟩))]) (fun s_ w' => (w'.cell? ⟨gb150, 0, none⟩ = some (.bool a0_0) ∧ w'.cell? ⟨gb150, 1, none⟩ = some (.bool a0_1) ∧ w'.cell? ⟨gb150, 2, none⟩ = some (.int .i64 a0_2) ∧ w'.cell? ⟨gb150, 3, none⟩ = some (.int .i64 a0_3) ∧ w'.cell? ⟨gb150, 4, none⟩ = some (.int .i64 a0_4) ∧ w'.cell? ⟨gb150, 5, none⟩ = some (.slice A0_5 l0_5.length c0_5) ∧ w'.cell? ⟨gb151, 0, none⟩ = some (.bool a1_0) ∧ w'.cell? ⟨gb151, 1, none⟩ = some (.bool a1_1) ∧ w'.cell? ⟨gb151, 2, none⟩ = some (.int .i64 a1_2) ∧ w'.cell? ⟨gb151, 3, none⟩ = some (.int .i64 a1_3) ∧ w'.cell? ⟨gb151, 4, none⟩ = some (.int .i64 a1_4) ∧ w'.cell? ⟨gb151, 5, none⟩ = some (.slice A1_5 l1_5.length c1_5)) ∧ (Kd.N k62 62 w' w.heap.size (fun k_ => ((P0_5_ k_ ∨ P1_5_ k_) ∨ w.heap.size ≤ k_) ∧ k_ ≠ gb150 ∧ k_ ≠ gb151 ∧ k_ ≠ gb152 ∧ k_ ≠ s_.2.2) s_.2.1 y158) ∧ (Kd.V k62 62 w' w.heap.size (fun k_ => ((P0_5_ k_ ∨ P1_5_ k_) ∨ w.heap.size ≤ k_) ∧ some k_ ≠ (s_.2.1 : Value).ownBlock ∧ k_ ≠ gb150 ∧ k_ ≠ gb151 ∧ k_ ≠ gb152 ∧ k_ ≠ s_.2.2) (.slice A0_5 l0_5.length c0_5) l0_5) ∧ (Kd.V k62 62 w' w.heap.size (fun k_ => ((P0_5_ k_ ∨ P1_5_ k_) ∨ w.heap.size ≤ k_) ∧ some k_ ≠ (s_.2.1 : Value).ownBlock ∧ k_ ≠ gb150 ∧ k_ ≠ gb151 ∧ k_ ≠ gb152 ∧ k_ ≠ s_.2.2) (.slice A1_5 l1_5.length c1_5) l1_5) ∧ (w'.heap[gb150]? = some (.cells #[.bool a0_0, .bool a0_1, .int .i64 a0_2, .int .i64 a0_3, .int .i64 a0_4, .slice A0_5 l0_5.length c0_5] 28 (0, 0))) ∧ (w'.heap[gb151]? = some (.cells #[.bool a1_0, .bool a1_1, .int .i64 a1_2, .int .i64 a1_3, .int .i64 a1_4, .slice A1_5 l1_5.length c1_5] 28 (0, 0))) ∧ (w'.heap[gb152]? = some (.cells #[.bool false, .bool false, .int .i64 0, .int .i64 0, .int .i64 0, .slice none 0 0] 28 (0, 0))) ∧ (w'.heap[s_.2.2]? = some (.cells #[.bool false, .bool false, .int .i64 0, .int .i64 0, .int .i64 0, .slice none 0 0] 28 (0, 0))) ∧ (w.heap.size ≤ s_.2.2) ∧ (w.heap.size ≤ s_.2.2) ∧ (gb150 ≠ s_.2.2) ∧ (s_.2.2 ≠ gb150) ∧ (gb151 ≠ s_.2.2) ∧ (s_.2.2 ≠ gb151) ∧ (gb152 ≠ s_.2.2) ∧ (s_.2.2 ≠ gb152) ∧ (Below w.heap.size w w')) ?_ ?_
           rotate_left
           ·intro hJ2_5_10
            refine join_ (σ := Value × Value) 4 #[true, true, true, true, true, true, true, true, false, false, false, false] (fun s_ => [(35, s_.1), (38, s_.2)]) (fun s_ w' => (w'.cell? ⟨gb150, 0, none⟩ = some (.bool a0_0) ∧ w'.cell? ⟨gb150, 1, none⟩ = some (.bool a0_1) ∧ w'.cell? ⟨gb150, 2, none⟩ = some (.int .i64 a0_2) ∧ w'.cell? ⟨gb150, 3, none⟩ = some (.int .i64 a0_3) ∧ w'.cell? ⟨gb150, 4, none⟩ = some (.int .i64 a0_4) ∧ w'.cell? ⟨gb150, 5, none⟩ = some (.slice A0_5 l0_5.length c0_5) ∧ w'.cell? ⟨gb151, 0, none⟩ = some (.bool a1_0) ∧ w'.cell? ⟨gb151, 1, none⟩ = some (.bool a1_1) ∧ w'.cell? ⟨gb151, 2, none⟩ = some (.int .i64 a1_2) ∧ w'.cell? ⟨gb151, 3, none⟩ = some (.int .i64 a1_3) ∧ w'.cell? ⟨gb151, 4, none⟩ = some (.int .i64 a1_4) ∧ w'.cell? ⟨gb151, 5, none⟩ = some (.slice A1_5 l1_5.length c1_5)) ∧ (Kd.N k62 62 w' w.heap.size (fun k_ => ((P0_5_ k_ ∨ P1_5_ k_) ∨ w.heap.size ≤ k_) ∧ k_ ≠ gb150 ∧ k_ ≠ gb151 ∧ k_ ≠ gb152) s_.2 y158) ∧ (Kd.V k62 62 w' w.heap.size (fun k_ => ((P0_5_ k_ ∨ P1_5_ k_) ∨ w.heap.size ≤ k_) ∧ some k_ ≠ (s_.2 : Value).ownBlock ∧ k_ ≠ gb150 ∧ k_ ≠ gb151 ∧ k_ ≠ gb152) (.slice A0_5 l0_5.length c0_5) l0_5) ∧ (Kd.V k62 62 w' w.heap.size (fun k_ => ((P0_5_ k_ ∨ P1_5_ k_) ∨ w.heap.size ≤ k_) ∧ some k_ ≠ (s_.2 : Value).ownBlock ∧ k_ ≠ gb150 ∧ k_ ≠ gb151 ∧ k_ ≠ gb152) (.slice A1_5 l1_5.length c1_5) l1_5) ∧ (w'.heap[gb150]? = some (.cells #[.bool a0_0, .bool a0_1, .int .i64 a0_2, .int .i64 a0_3, .int .i64 a0_4, .slice A0_5 l0_5.length c0_5] 28 (0, 0))) ∧ (w'.heap[gb151]? = some (.cells #[.bool a1_0, .bool a1_1, .int .i64 a1_2, .int .i64 a1_3, .int .i64 a1_4, .slice A1_5 l1_5.length c1_5] 28 (0, 0))) ∧ (w'.heap[gb152]? = some (.cells #[.bool false, .bool false, .int .i64 0, .int .i64 0, .int .i64 0, .slice none 0 0] 28 (0, 0))) ∧ (Below w.heap.size w w')) ?_ ?_
            rotate_left
            ·intro hJ2_5
             refine join_ (σ := Value × Nat) 4 #[true, true, true, true, true, false, true, true, false, false, true, false] (fun s_ => [(35, s_.1), (6, .pointer (some ⟨s_.2, 0, none⟩))]) (fun s_ w' => (w'.cell? ⟨gb150, 0, none⟩ = some (.bool a0_0) ∧ w'.cell? ⟨gb150, 1, none⟩ = some (.bool a0_1) ∧ w'.cell? ⟨gb150, 2, none⟩ = some (.int .i64 a0_2) ∧ w'.cell? ⟨gb150, 3, none⟩ = some (.int .i64 a0_3) ∧ w'.cell? ⟨gb150, 4, none⟩ = some (.int .i64 a0_4) ∧ w'.cell? ⟨gb150, 5, none⟩ = some (.slice A0_5 l0_5.length c0_5) ∧ w'.cell? ⟨gb151, 0, none⟩ = some (.bool a1_0) ∧ w'.cell? ⟨gb151, 1, none⟩ = some (.bool a1_1) ∧ w'.cell? ⟨gb151, 2, none⟩ = some (.int .i64 a1_2) ∧ w'.cell? ⟨gb151, 3, none⟩ = some (.int .i64 a1_3) ∧ w'.cell? ⟨gb151, 4, none⟩ = some (.int .i64 a1_4) ∧ w'.cell? ⟨gb151, 5, none⟩ = some (.slice A1_5 l1_5.length c1_5)) ∧ (Kd.N k62 62 w' w.heap.size (fun k_ => ((P0_5_ k_ ∨ P1_5_ k_) ∨ w.heap.size ≤ k_) ∧ k_ ≠ gb150 ∧ k_ ≠ gb151 ∧ k_ ≠ gb152 ∧ k_ ≠ s_.2) s_.1 y155) ∧ (Kd.V k62 62 w' w.heap.size (fun k_ => ((P0_5_ k_ ∨ P1_5_ k_) ∨ w.heap.size ≤ k_) ∧ some k_ ≠ (s_.1 : Value).ownBlock ∧ k_ ≠ gb150 ∧ k_ ≠ gb151 ∧ k_ ≠ gb152 ∧ k_ ≠ s_.2) (.slice A0_5 l0_5.length c0_5) l0_5) ∧ (Kd.V k62 62 w' w.heap.size (fun k_ => ((P0_5_ k_ ∨ P1_5_ k_) ∨ w.heap.size ≤ k_) ∧ some k_ ≠ (s_.1 : Value).ownBlock ∧ k_ ≠ gb150 ∧ k_ ≠ gb151 ∧ k_ ≠ gb152 ∧ k_ ≠ s_.2) (.slice A1_5 l1_5.length c1_5) l1_5) ∧ (w'.heap[gb150]? = some (.cells #[.bool a0_0, .bool a0_1, .int .i64 a0_2, .int .i64 a0_3, .int .i64 a0_4, .slice A0_5 l0_5.length c0_5] 28 (0, 0))) ∧ (w'.heap[gb151]? = some (.cells #[.bool a1_0, .bool a1_1, .int .i64 a1_2, .int .i64 a1_3, .int .i64 a1_4, .slice A1_5 l1_5.length c1_5] 28 (0, 0))) ∧ (w'.heap[gb152]? = some (.cells #[.bool false, .bool false, .int .i64 0, .int .i64 0, .int .i64 0, .slice none 0 0] 28 (0, 0))) ∧ (w'.heap[s_.2]? = some (.cells #[.bool false, .bool false, .int .i64 0, .int .i64 0, .int .i64 0, .slice none 0 0] 28 (0, 0))) ∧ (w.heap.size ≤ s_.2) ∧ (w.heap.size ≤ s_.2) ∧ (gb150 ≠ s_.2) ∧ (s_.2 ≠ gb150) ∧ (gb151 ≠ s_.2) ∧ (s_.2 ≠ gb151) ∧ (gb152 ≠ s_.2) ∧ (s_.2 ≠ gb152) ∧ (Below w.heap.size w w')) ?_ ?_
             rotate_left
             ·intro hJ2_10
              refine join_ (σ := Value) 5 #[true, true, true, true, true, false, true, true, false, false, false, false] (fun s_ => [(35, s_)]) (fun s_ w' => (w'.cell? ⟨gb150, 0, none⟩ = some (.bool a0_0) ∧ w'.cell? ⟨gb150, 1, none⟩ = some (.bool a0_1) ∧ w'.cell? ⟨gb150, 2, none⟩ = some (.int .i64 a0_2) ∧ w'.cell? ⟨gb150, 3, none⟩ = some (.int .i64 a0_3) ∧ w'.cell? ⟨gb150, 4, none⟩ = some (.int .i64 a0_4) ∧ w'.cell? ⟨gb150, 5, none⟩ = some (.slice A0_5 l0_5.length c0_5) ∧ w'.cell? ⟨gb151, 0, none⟩ = some (.bool a1_0) ∧ w'.cell? ⟨gb151, 1, none⟩ = some (.bool a1_1) ∧ w'.cell? ⟨gb151, 2, none⟩ = some (.int .i64 a1_2) ∧ w'.cell? ⟨gb151, 3, none⟩ = some (.int .i64 a1_3) ∧ w'.cell? ⟨gb151, 4, none⟩ = some (.int .i64 a1_4) ∧ w'.cell? ⟨gb151, 5, none⟩ = some (.slice A1_5 l1_5.length c1_5)) ∧ (Kd.N k62 62 w' w.heap.size (fun k_ => ((P0_5_ k_ ∨ P1_5_ k_) ∨ w.heap.size ≤ k_) ∧ k_ ≠ gb150 ∧ k_ ≠ gb151 ∧ k_ ≠ gb152) s_ y155) ∧ (Kd.V k62 62 w' w.heap.size (fun k_ => ((P0_5_ k_ ∨ P1_5_ k_) ∨ w.heap.size ≤ k_) ∧ some k_ ≠ (s_ : Value).ownBlock ∧ k_ ≠ gb150 ∧ k_ ≠ gb151 ∧ k_ ≠ gb152) (.slice A0_5 l0_5.length c0_5) l0_5) ∧ (Kd.V k62 62 w' w.heap.size (fun k_ => ((P0_5_ k_ ∨ P1_5_ k_) ∨ w.heap.size ≤ k_) ∧ some k_ ≠ (s_ : Value).ownBlock ∧ k_ ≠ gb150 ∧ k_ ≠ gb151 ∧ k_ ≠ gb152) (.slice A1_5 l1_5.length c1_5) l1_5) ∧ (w'.heap[gb150]? = some (.cells #[.bool a0_0, .bool a0_1, .int .i64 a0_2, .int .i64 a0_3, .int .i64 a0_4, .slice A0_5 l0_5.length c0_5] 28 (0, 0))) ∧ (w'.heap[gb151]? = some (.cells #[.bool a1_0, .bool a1_1, .int .i64 a1_2, .int .i64 a1_3, .int .i64 a1_4, .slice A1_5 l1_5.length c1_5] 28 (0, 0))) ∧ (w'.heap[gb152]? = some (.cells #[.bool false, .bool false, .int .i64 0, .int .i64 0, .int .i64 0, .slice none 0 0] 28 (0, 0))) ∧ (Below w.heap.size w w')) ?_ ?_
              rotate_left
              ·intro hJ2
               refine join_ (σ := Nat) 5 #[true, true, false, true, true, false, true, true, false, false, true, false] (fun s_ => [(6, .pointer (some ⟨s_, 0, none⟩))]) (fun s_ w' => (w'.cell? ⟨gb150, 0, none⟩ = some (.bool a0_0) ∧ w'.cell? ⟨gb150, 1, none⟩ = some (.bool a0_1) ∧ w'.cell? ⟨gb150, 2, none⟩ = some (.int .i64 a0_2) ∧ w'.cell? ⟨gb150, 3, none⟩ = some (.int .i64 a0_3) ∧ w'.cell? ⟨gb150, 4, none⟩ = some (.int .i64 a0_4) ∧ w'.cell? ⟨gb150, 5, none⟩ = some (.slice A0_5 l0_5.length c0_5) ∧ w'.cell? ⟨gb151, 0, none⟩ = some (.bool a1_0) ∧ w'.cell? ⟨gb151, 1, none⟩ = some (.bool a1_1) ∧ w'.cell? ⟨gb151, 2, none⟩ = some (.int .i64 a1_2) ∧ w'.cell? ⟨gb151, 3, none⟩ = some (.int .i64 a1_3) ∧ w'.cell? ⟨gb151, 4, none⟩ = some (.int .i64 a1_4) ∧ w'.cell? ⟨gb151, 5, none⟩ = some (.slice A1_5 l1_5.length c1_5)) ∧ (Kd.V k62 62 w' w.heap.size (fun k_ => ((P0_5_ k_ ∨ P1_5_ k_) ∨ w.heap.size ≤ k_) ∧ k_ ≠ gb150 ∧ k_ ≠ gb151 ∧ k_ ≠ gb152 ∧ k_ ≠ s_) (.slice A0_5 l0_5.length c0_5) l0_5) ∧ (Kd.V k62 62 w' w.heap.size (fun k_ => ((P0_5_ k_ ∨ P1_5_ k_) ∨ w.heap.size ≤ k_) ∧ k_ ≠ gb150 ∧ k_ ≠ gb151 ∧ k_ ≠ gb152 ∧ k_ ≠ s_) (.slice A1_5 l1_5.length c1_5) l1_5) ∧ (w'.heap[gb150]? = some (.cells #[.bool a0_0, .bool a0_1, .int .i64 a0_2, .int .i64 a0_3, .int .i64 a0_4, .slice A0_5 l0_5.length c0_5] 28 (0, 0))) ∧ (w'.heap[gb151]? = some (.cells #[.bool a1_0, .bool a1_1, .int .i64 a1_2, .int .i64 a1_3, .int .i64 a1_4, .slice A1_5 l1_5.length c1_5] 28 (0, 0))) ∧ (w'.heap[gb152]? = some (.cells #[.bool false, .bool false, .int .i64 0, .int .i64 0, .int .i64 0, .slice none 0 0] 28 (0, 0))) ∧ (w'.heap[s_]? = some (.cells #[.bool false, .bool false, .int .i64 0, .int .i64 0, .int .i64 0, .slice none 0 0] 28 (0, 0))) ∧ (w.heap.size ≤ s_) ∧ (w.heap.size ≤ s_) ∧ (gb150 ≠ s_) ∧ (s_ ≠ gb150) ∧ (gb151 ≠ s_) ∧ (s_ ≠ gb151) ∧ (gb152 ≠ s_) ∧ (s_ ≠ gb152) ∧ (Below w.heap.size w w')) ?_ ?_
               rotate_left
               ·intro hJ10
                refine two_ (i := 2) (j := 10) (Ni := some 35) (Nj := some 6) #[true, true, true, true, true, false, true, true, false, false, false, false] #[true, true, false, true, true, false, true, true, false, false, true, false] rfl rfl rfl rfl (two_of HT_.out (by kernel_rfl)) (by decide) (by decide) (fun K hK => ?_) (fun K hK => ?_)
                ·skip
                 refine Kd.N_lit_step k62 _ 62 ?hg (N' := 35) ?hd (xs := ([] : List (S62))) (inner := []) (ok := (fun k_ => ((P0_5_ k_ ∨ P1_5_ k_) ∨ w.heap.size ≤ k_) ∧ k_ ≠ gb150 ∧ k_ ≠ gb151 ∧ k_ ≠ gb152)) (okp := (fun k_ => ((P0_5_ k_ ∨ P1_5_ k_) ∨ w.heap.size ≤ k_) ∧ k_ ≠ gb150 ∧ k_ ≠ gb151 ∧ k_ ≠ gb152)) ?hr ?hp (fun _ hk => hk) ((show ∀ k_, w59.heap.size ≤ k_ → (fun k_ => ((P0_5_ k_ ∨ P1_5_ k_) ∨ w.heap.size ≤ k_) ∧ k_ ≠ gb150 ∧ k_ ≠ gb151 ∧ k_ ≠ gb152) k_ from fun k_ hk => ⟨(.inr (Nat.le_trans (below_size zb) hk)), tfB BK150 k_ hk, tfB BK151 k_ hk, tfB BK152 k_ hk⟩) _ (Nat.le_refl _)) (Below.refl _ _) (Nat.le_refl _) (by simp) ?_; (case hd => rfl); (case hg => rfl); (case hr => first | (go_simp; done) | (go_simp; rfl)); (case hp => exact (Reps.none _ _))
                 intro v156 w60 ho61 hb hg_ hnew_
                 clear hg_ hnew_
                 (first | rw [← Ny155.out] at ho61 | (simp only [Int.reduceToNat] at ho61; rw [← Ny155.out] at ho61))
                 replace HO_151005 := tVe HO_151005 ho61 hb
                 replace HO_152005 := tVe HO_152005 ho61 hb
                 have HO157 := tNl ho61 HB
                 replace BK150 := tBb BK150 hb
                 replace BK151 := tBb BK151 hb
                 replace BK152 := tBb BK152 hb
                 replace HB := tBs HB hb
                 clear hb ho61
                 refine hK.out _ _ ⟨(blk_cell BK150.out 0).trans rfl, (blk_cell BK150.out 1).trans rfl, (blk_cell BK150.out 2).trans rfl, (blk_cell BK150.out 3).trans rfl, (blk_cell BK150.out 4).trans rfl, (blk_cell BK150.out 5).trans rfl, (blk_cell BK151.out 0).trans rfl, (blk_cell BK151.out 1).trans rfl, (blk_cell BK151.out 2).trans rfl, (blk_cell BK151.out 3).trans rfl, (blk_cell BK151.out 4).trans rfl, (blk_cell BK151.out 5).trans rfl⟩ (fun hHeld => ?_)
                 clear hK K
                 refine tnm (some 35) ?_
                 exact tnx (hJ2 (v156) _ ⟨hHeld, (tN HO157.out), (tVm HO_151005.out), (tVm HO_152005.out), (tH BK150.out), (tH BK151.out), (tH BK152.out), zb⟩)
                ·skip
                 refine box_step ?hg (N := 6) ?hd (cs := #[.bool false, .bool false, .int .i64 0, .int .i64 0, .int .i64 0, .slice none 0 0]) (t := 28) ?hr ?_; (case hd => rfl); (case hg => rfl); (case hr => first | (go_simp; done) | (go_simp; rfl))
                 intro gb172 hg w60 hbox hb
                 replace HO_151005 := tVB HO_151005 hg hb
                 replace HO_152005 := tVB HO_152005 hg hb
                 have BK172 := Aside0.mk (hbox)
                 have GW172 := tge HB hg
                 have GE172 := tge HB hg
                 replace HB := tBs HB hb
                 have NB150_172 := tlt BK150 hg
                 have NB172_150 := tgt BK150 hg
                 replace BK150 := tBb BK150 hb
                 have NB151_172 := tlt BK151 hg
                 have NB172_151 := tgt BK151 hg
                 replace BK151 := tBb BK151 hb
                 have NB152_172 := tlt BK152 hg
                 have NB172_152 := tgt BK152 hg
                 replace BK152 := tBb BK152 hb
                 clear hb hbox hg
                 refine hK.out _ _ ⟨(blk_cell BK150.out 0).trans rfl, (blk_cell BK150.out 1).trans rfl, (blk_cell BK150.out 2).trans rfl, (blk_cell BK150.out 3).trans rfl, (blk_cell BK150.out 4).trans rfl, (blk_cell BK150.out 5).trans rfl, (blk_cell BK151.out 0).trans rfl, (blk_cell BK151.out 1).trans rfl, (blk_cell BK151.out 2).trans rfl, (blk_cell BK151.out 3).trans rfl, (blk_cell BK151.out 4).trans rfl, (blk_cell BK151.out 5).trans rfl⟩ (fun hHeld => ?_)
                 clear hK K
                 refine tnm (some 6) ?_
                 exact tnx (hJ10 (gb172) _ ⟨hHeld, (tVm HO_151005.out), (tVm HO_152005.out), (tH BK150.out), (tH BK151.out), (tH BK152.out), (tH BK172.out), GW172.out, GE172.out, NB150_172.out, NB172_150.out, NB151_172.out, NB172_151.out, NB152_172.out, NB172_152.out, zb⟩)
               ·skip
                rintro gb172 w61 ⟨hS_, h0_, h1_, h2_, h3_, h4_, h5_, h6_, h7_, h8_, h9_, h10_, h11_, h12_, h13_, h14_⟩
                try dsimp only at hS_ h0_ h1_ h2_ h3_ h4_ h5_ h6_ h7_ h8_ h9_ h10_ h11_ h12_ h13_ h14_
                clear HO_151005 HO_152005 BK150 BK151 BK152 HB
                have HO_151005 := Aside0.mk h0_
                have HO_152005 := Aside0.mk h1_
                have BK150 := Aside0.mk h2_
                have BK151 := Aside0.mk h3_
                have BK152 := Aside0.mk h4_
                have BK172 := Aside0.mk h5_
                have GW172 := Aside0.mk h6_
                have GE172 := Aside0.mk h7_
                have NB150_172 := Aside0.mk h8_
                have NB172_150 := Aside0.mk h9_
                have NB151_172 := Aside0.mk h10_
                have NB172_151 := Aside0.mk h11_
                have NB152_172 := Aside0.mk h12_
                have NB172_152 := Aside0.mk h13_
                have HB := Aside0.mk h14_
                clear h0_ h1_ h2_ h3_ h4_ h5_ h6_ h7_ h8_ h9_ h10_ h11_ h12_ h13_ h14_
                have hHeld := hS_
                refine tnp ?_
                refine one_ (i := 2) (N := some 35) #[true, true, true, true, true, false, true, true, false, false, true, false] rfl rfl (one_of HT_.out (by kernel_rfl)) (by decide) (fun K hK => ?_)
                refine Kd.N_lit_step k62 _ 62 ?hg (N' := 35) ?hd (xs := ([] : List (S62))) (inner := []) (ok := (fun k_ => ((P0_5_ k_ ∨ P1_5_ k_) ∨ w.heap.size ≤ k_) ∧ k_ ≠ gb150 ∧ k_ ≠ gb151 ∧ k_ ≠ gb152 ∧ k_ ≠ gb172)) (okp := (fun k_ => ((P0_5_ k_ ∨ P1_5_ k_) ∨ w.heap.size ≤ k_) ∧ k_ ≠ gb150 ∧ k_ ≠ gb151 ∧ k_ ≠ gb152 ∧ k_ ≠ gb172)) ?hr ?hp (fun _ hk => hk) ((show ∀ k_, w61.heap.size ≤ k_ → (fun k_ => ((P0_5_ k_ ∨ P1_5_ k_) ∨ w.heap.size ≤ k_) ∧ k_ ≠ gb150 ∧ k_ ≠ gb151 ∧ k_ ≠ gb152 ∧ k_ ≠ gb172) k_ from fun k_ hk => ⟨(.inr (Nat.le_trans (below_size zb) hk)), tfB BK150 k_ hk, tfB BK151 k_ hk, tfB BK152 k_ hk, tfB BK172 k_ hk⟩) _ (Nat.le_refl _)) (Below.refl _ _) (Nat.le_refl _) (by simp) ?_; (case hd => rfl); (case hg => rfl); (case hr => first | (go_simp; done) | (go_simp; rfl)); (case hp => exact (Reps.none _ _))
                intro v156 w62 ho63 hb hg_ hnew_
                clear hg_ hnew_
                (first | rw [← Ny155.out] at ho63 | (simp only [Int.reduceToNat] at ho63; rw [← Ny155.out] at ho63))
                replace HO_151005 := tVe HO_151005 ho63 hb
                replace HO_152005 := tVe HO_152005 ho63 hb
                have HO157 := tNl ho63 HB
                replace BK150 := tBb BK150 hb
                replace BK151 := tBb BK151 hb
                replace BK152 := tBb BK152 hb
                replace BK172 := tBb BK172 hb
                replace HB := tBs HB hb
                clear hb ho63
                refine hK.out _ _ ⟨(blk_cell BK150.out 0).trans rfl, (blk_cell BK150.out 1).trans rfl, (blk_cell BK150.out 2).trans rfl, (blk_cell BK150.out 3).trans rfl, (blk_cell BK150.out 4).trans rfl, (blk_cell BK150.out 5).trans rfl, (blk_cell BK151.out 0).trans rfl, (blk_cell BK151.out 1).trans rfl, (blk_cell BK151.out 2).trans rfl, (blk_cell BK151.out 3).trans rfl, (blk_cell BK151.out 4).trans rfl, (blk_cell BK151.out 5).trans rfl⟩ (fun hHeld => ?_)
                clear hK K
                refine tnm (some 35) ?_
                exact tnx (hJ2_10 (v156, gb172) _ ⟨hHeld, (tN HO157.out), (tVm HO_151005.out), (tVm HO_152005.out), (tH BK150.out), (tH BK151.out), (tH BK152.out), (tH BK172.out), GW172.out, GE172.out, NB150_172.out, NB172_150.out, NB151_172.out, NB172_151.out, NB152_172.out, NB172_152.out, zb⟩)
              ·skip
               rintro v156 w62 ⟨hS_, h0_, h1_, h2_, h3_, h4_, h5_, h6_⟩
               try dsimp only at hS_ h0_ h1_ h2_ h3_ h4_ h5_ h6_
               clear HO_151005 HO_152005 BK150 BK151 BK152 HB
               have HO157 := Aside0.mk h0_
               have HO_151005 := Aside0.mk h1_
               have HO_152005 := Aside0.mk h2_
               have BK150 := Aside0.mk h3_
               have BK151 := Aside0.mk h4_
               have BK152 := Aside0.mk h5_
               have HB := Aside0.mk h6_
               clear h0_ h1_ h2_ h3_ h4_ h5_ h6_
               have hHeld := hS_
               refine tnp ?_
               refine two_ (i := 5) (j := 10) (Ni := some 38) (Nj := some 6) #[true, true, true, true, true, true, true, true, false, false, false, false] #[true, true, true, true, true, false, true, true, false, false, true, false] rfl rfl rfl rfl (two_of HT_.out (by kernel_rfl)) (by decide) (by decide) (fun K hK => ?_) (fun K hK => ?_)
               ·skip
                refine Kd.N_append_rows_step k62 (w0 := w) w.heap.size (by rfl) (.tmp 35) (.tmp 37) 26 62 (.agg #[(.int .i64 0), (.int .i64 0), (.bool false), (.slice none 0 0), (.bool false), (.slice none 0 0)]) 80 rfl Tryd.underlying26 info62 rfl (by decide) (by omega) v156 y155 l0_5 _ _ _ (fun k_ => ((P0_5_ k_ ∨ P1_5_ k_) ∨ w.heap.size ≤ k_) ∧ k_ ≠ gb150 ∧ k_ ≠ gb151 ∧ k_ ≠ gb152) (fun k_ => ((fun k_ => ((P0_5_ k_ ∨ P1_5_ k_) ∨ w.heap.size ≤ k_) ∧ k_ ≠ gb150 ∧ k_ ≠ gb151 ∧ k_ ≠ gb152)) k_ ∧ some k_ ≠ (v156 : Value).ownBlock) rfl rfl ?aO ?aR (fun _ hk => hk) ?aF ?aB ?aS ?aL ?_
                (case aR => exact (by skip; exact Kd.V_F (Kd.V_mono (ok' := (fun k_ => ((fun k_ => ((P0_5_ k_ ∨ P1_5_ k_) ∨ w.heap.size ≤ k_) ∧ k_ ≠ gb150 ∧ k_ ≠ gb151 ∧ k_ ≠ gb152)) k_ ∧ some k_ ≠ (v156 : Value).ownBlock)) (HO_151005.out) (fun k_ hk => ⟨⟨hk.1, ⟨hk.2.2.1, ⟨hk.2.2.2.1, hk.2.2.2.2⟩⟩⟩, hk.2.1⟩))))
                (case aB => exact zb)
                (case aF => exact (fun k_ hk => ⟨(.inr (Nat.le_trans (below_size zb) hk)), tfB BK150 k_ hk, tfB BK151 k_ hk, tfB BK152 k_ hk⟩))
                (case aO => exact (tN HO157.out))
                (case aS => exact (below_size zb))
                (case aL => have := LMc54.out; omega)
                intro v159 w63 ho hb hg hat
                rw [← Ny158.out] at ho
                replace HO_151005 := Aside0.mk (Kd.V_afterv (ok := (fun k_ => ((P0_5_ k_ ∨ P1_5_ k_) ∨ w.heap.size ≤ k_) ∧ k_ ≠ gb150 ∧ k_ ≠ gb151 ∧ k_ ≠ gb152)) (tVm HO_151005.out) hg hat)
                replace HO_152005 := Aside0.mk (Kd.V_afterv (ok := (fun k_ => ((P0_5_ k_ ∨ P1_5_ k_) ∨ w.heap.size ≤ k_) ∧ k_ ≠ gb150 ∧ k_ ≠ gb151 ∧ k_ ≠ gb152)) (tVm HO_152005.out) hg hat)
                replace BK150 := Aside0.mk (blk_grown (tH BK150.out) hg (Kd.N_ne HO157.out BK150.out (by decide)))
                replace BK151 := Aside0.mk (blk_grown (tH BK151.out) hg (Kd.N_ne HO157.out BK151.out (by decide)))
                replace BK152 := Aside0.mk (blk_grown (tH BK152.out) hg (Kd.N_ne HO157.out BK152.out (by decide)))
                replace HB := Aside0.mk (hb)
                have HO160 := Aside0.mk (ho)
                clear HO157
                clear ho hb hg hat
                refine hK.out _ _ ⟨(blk_cell BK150.out 0).trans rfl, (blk_cell BK150.out 1).trans rfl, (blk_cell BK150.out 2).trans rfl, (blk_cell BK150.out 3).trans rfl, (blk_cell BK150.out 4).trans rfl, (blk_cell BK150.out 5).trans rfl, (blk_cell BK151.out 0).trans rfl, (blk_cell BK151.out 1).trans rfl, (blk_cell BK151.out 2).trans rfl, (blk_cell BK151.out 3).trans rfl, (blk_cell BK151.out 4).trans rfl, (blk_cell BK151.out 5).trans rfl⟩ (fun hHeld => ?_)
                clear hK K
                refine tnm (some 38) ?_
                exact tnx (hJ2_5 (v156, v159) _ ⟨hHeld, (tN HO160.out), (tVm HO_151005.out), (tVm HO_152005.out), (tH BK150.out), (tH BK151.out), (tH BK152.out), zb⟩)
               ·skip
                refine box_step ?hg (N := 6) ?hd (cs := #[.bool false, .bool false, .int .i64 0, .int .i64 0, .int .i64 0, .slice none 0 0]) (t := 28) ?hr ?_; (case hd => rfl); (case hg => rfl); (case hr => first | (go_simp; done) | (go_simp; rfl))
                intro gb172 hg w63 hbox hb
                replace HO_151005 := tVB HO_151005 hg hb
                replace HO_152005 := tVB HO_152005 hg hb
                replace HO157 := tNB HO157 hg hb
                have BK172 := Aside0.mk (hbox)
                have GW172 := tge HB hg
                have GE172 := tge HB hg
                replace HB := tBs HB hb
                have NB150_172 := tlt BK150 hg
                have NB172_150 := tgt BK150 hg
                replace BK150 := tBb BK150 hb
                have NB151_172 := tlt BK151 hg
                have NB172_151 := tgt BK151 hg
                replace BK151 := tBb BK151 hb
                have NB152_172 := tlt BK152 hg
                have NB172_152 := tgt BK152 hg
                replace BK152 := tBb BK152 hb
                clear hb hbox hg
                refine hK.out _ _ ⟨(blk_cell BK150.out 0).trans rfl, (blk_cell BK150.out 1).trans rfl, (blk_cell BK150.out 2).trans rfl, (blk_cell BK150.out 3).trans rfl, (blk_cell BK150.out 4).trans rfl, (blk_cell BK150.out 5).trans rfl, (blk_cell BK151.out 0).trans rfl, (blk_cell BK151.out 1).trans rfl, (blk_cell BK151.out 2).trans rfl, (blk_cell BK151.out 3).trans rfl, (blk_cell BK151.out 4).trans rfl, (blk_cell BK151.out 5).trans rfl⟩ (fun hHeld => ?_)
                clear hK K
                refine tnm (some 6) ?_
                exact tnx (hJ2_10 (v156, gb172) _ ⟨hHeld, (tNm HO157.out), (tVm HO_151005.out), (tVm HO_152005.out), (tH BK150.out), (tH BK151.out), (tH BK152.out), (tH BK172.out), GW172.out, GE172.out, NB150_172.out, NB172_150.out, NB151_172.out, NB172_151.out, NB152_172.out, NB172_152.out, zb⟩)
             ·skip
              rintro ⟨v156, gb172⟩ w63 ⟨hS_, h0_, h1_, h2_, h3_, h4_, h5_, h6_, h7_, h8_, h9_, h10_, h11_, h12_, h13_, h14_, h15_⟩
              try dsimp only at hS_ h0_ h1_ h2_ h3_ h4_ h5_ h6_ h7_ h8_ h9_ h10_ h11_ h12_ h13_ h14_ h15_
              clear HO_151005 HO_152005 BK150 BK151 BK152 HB
              have HO157 := Aside0.mk h0_
              have HO_151005 := Aside0.mk h1_
              have HO_152005 := Aside0.mk h2_
              have BK150 := Aside0.mk h3_
              have BK151 := Aside0.mk h4_
              have BK152 := Aside0.mk h5_
              have BK172 := Aside0.mk h6_
              have GW172 := Aside0.mk h7_
              have GE172 := Aside0.mk h8_
              have NB150_172 := Aside0.mk h9_
              have NB172_150 := Aside0.mk h10_
              have NB151_172 := Aside0.mk h11_
              have NB172_151 := Aside0.mk h12_
              have NB152_172 := Aside0.mk h13_
              have NB172_152 := Aside0.mk h14_
              have HB := Aside0.mk h15_
              clear h0_ h1_ h2_ h3_ h4_ h5_ h6_ h7_ h8_ h9_ h10_ h11_ h12_ h13_ h14_ h15_
              have hHeld := hS_
              refine tnp ?_
              refine one_ (i := 5) (N := some 38) #[true, true, true, true, true, true, true, true, false, false, true, false] rfl rfl (one_of HT_.out (by kernel_rfl)) (by decide) (fun K hK => ?_)
              refine Kd.N_append_rows_step k62 (w0 := w) w.heap.size (by rfl) (.tmp 35) (.tmp 37) 26 62 (.agg #[(.int .i64 0), (.int .i64 0), (.bool false), (.slice none 0 0), (.bool false), (.slice none 0 0)]) 80 rfl Tryd.underlying26 info62 rfl (by decide) (by omega) v156 y155 l0_5 _ _ _ (fun k_ => ((P0_5_ k_ ∨ P1_5_ k_) ∨ w.heap.size ≤ k_) ∧ k_ ≠ gb150 ∧ k_ ≠ gb151 ∧ k_ ≠ gb152 ∧ k_ ≠ gb172) (fun k_ => ((fun k_ => ((P0_5_ k_ ∨ P1_5_ k_) ∨ w.heap.size ≤ k_) ∧ k_ ≠ gb150 ∧ k_ ≠ gb151 ∧ k_ ≠ gb152 ∧ k_ ≠ gb172)) k_ ∧ some k_ ≠ (v156 : Value).ownBlock) rfl rfl ?aO ?aR (fun _ hk => hk) ?aF ?aB ?aS ?aL ?_
              (case aR => exact (by skip; exact Kd.V_F (Kd.V_mono (ok' := (fun k_ => ((fun k_ => ((P0_5_ k_ ∨ P1_5_ k_) ∨ w.heap.size ≤ k_) ∧ k_ ≠ gb150 ∧ k_ ≠ gb151 ∧ k_ ≠ gb152 ∧ k_ ≠ gb172)) k_ ∧ some k_ ≠ (v156 : Value).ownBlock)) (HO_151005.out) (fun k_ hk => ⟨⟨hk.1, ⟨hk.2.2.1, ⟨hk.2.2.2.1, ⟨hk.2.2.2.2.1, hk.2.2.2.2.2⟩⟩⟩⟩, hk.2.1⟩))))
              (case aB => exact zb)
              (case aF => exact (fun k_ hk => ⟨(.inr (Nat.le_trans (below_size zb) hk)), tfB BK150 k_ hk, tfB BK151 k_ hk, tfB BK152 k_ hk, tfB BK172 k_ hk⟩))
              (case aO => exact (tN HO157.out))
              (case aS => exact (below_size zb))
              (case aL => have := LMc54.out; omega)
              intro v159 w64 ho hb hg hat
              rw [← Ny158.out] at ho
              replace HO_151005 := Aside0.mk (Kd.V_afterv (ok := (fun k_ => ((P0_5_ k_ ∨ P1_5_ k_) ∨ w.heap.size ≤ k_) ∧ k_ ≠ gb150 ∧ k_ ≠ gb151 ∧ k_ ≠ gb152 ∧ k_ ≠ gb172)) (tVm HO_151005.out) hg hat)
              replace HO_152005 := Aside0.mk (Kd.V_afterv (ok := (fun k_ => ((P0_5_ k_ ∨ P1_5_ k_) ∨ w.heap.size ≤ k_) ∧ k_ ≠ gb150 ∧ k_ ≠ gb151 ∧ k_ ≠ gb152 ∧ k_ ≠ gb172)) (tVm HO_152005.out) hg hat)
              replace BK150 := Aside0.mk (blk_grown (tH BK150.out) hg (Kd.N_ne HO157.out BK150.out (by decide)))
              replace BK151 := Aside0.mk (blk_grown (tH BK151.out) hg (Kd.N_ne HO157.out BK151.out (by decide)))
              replace BK152 := Aside0.mk (blk_grown (tH BK152.out) hg (Kd.N_ne HO157.out BK152.out (by decide)))
              replace BK172 := Aside0.mk (blk_grown (tH BK172.out) hg (Kd.N_ne HO157.out BK172.out (by decide)))
              replace HB := Aside0.mk (hb)
              have HO160 := Aside0.mk (ho)
              clear HO157
              clear ho hb hg hat
              refine hK.out _ _ ⟨(blk_cell BK150.out 0).trans rfl, (blk_cell BK150.out 1).trans rfl, (blk_cell BK150.out 2).trans rfl, (blk_cell BK150.out 3).trans rfl, (blk_cell BK150.out 4).trans rfl, (blk_cell BK150.out 5).trans rfl, (blk_cell BK151.out 0).trans rfl, (blk_cell BK151.out 1).trans rfl, (blk_cell BK151.out 2).trans rfl, (blk_cell BK151.out 3).trans rfl, (blk_cell BK151.out 4).trans rfl, (blk_cell BK151.out 5).trans rfl⟩ (fun hHeld => ?_)
              clear hK K
              refine tnm (some 38) ?_
              exact tnx (hJ2_5_10 (v156, v159, gb172) _ ⟨hHeld, (tN HO160.out), (tVm HO_151005.out), (tVm HO_152005.out), (tH BK150.out), (tH BK151.out), (tH BK152.out), (tH BK172.out), GW172.out, GE172.out, NB150_172.out, NB172_150.out, NB151_172.out, NB172_151.out, NB152_172.out, NB172_152.out, zb⟩)
            ·skip
             rintro ⟨v156, v159⟩ w63 ⟨hS_, h0_, h1_, h2_, h3_, h4_, h5_, h6_⟩
             try dsimp only at hS_ h0_ h1_ h2_ h3_ h4_ h5_ h6_
             clear HO_151005 HO_152005 BK150 BK151 BK152 HB
             have HO160 := Aside0.mk h0_
             have HO_151005 := Aside0.mk h1_
             have HO_152005 := Aside0.mk h2_
             have BK150 := Aside0.mk h3_
             have BK151 := Aside0.mk h4_
             have BK152 := Aside0.mk h5_
             have HB := Aside0.mk h6_
             clear h0_ h1_ h2_ h3_ h4_ h5_ h6_
             have hHeld := hS_
             refine tnp ?_
             refine two_ (i := 8) (j := 10) (Ni := some 41) (Nj := some 6) #[true, true, true, true, true, true, true, true, true, false, false, false] #[true, true, true, true, true, true, true, true, false, false, true, false] rfl rfl rfl rfl (two_of HT_.out (by kernel_rfl)) (by decide) (by decide) (fun K hK => ?_) (fun K hK => ?_)
             ·skip
              refine Kd.N_append_rows_step k62 (w0 := w) w.heap.size (by rfl) (.tmp 38) (.tmp 40) 26 62 (.agg #[(.int .i64 0), (.int .i64 0), (.bool false), (.slice none 0 0), (.bool false), (.slice none 0 0)]) 80 rfl Tryd.underlying26 info62 rfl (by decide) (by omega) v159 y158 l1_5 _ _ _ (fun k_ => ((P0_5_ k_ ∨ P1_5_ k_) ∨ w.heap.size ≤ k_) ∧ k_ ≠ gb150 ∧ k_ ≠ gb151 ∧ k_ ≠ gb152) (fun k_ => ((fun k_ => ((P0_5_ k_ ∨ P1_5_ k_) ∨ w.heap.size ≤ k_) ∧ k_ ≠ gb150 ∧ k_ ≠ gb151 ∧ k_ ≠ gb152)) k_ ∧ some k_ ≠ (v159 : Value).ownBlock) rfl rfl ?aO ?aR (fun _ hk => hk) ?aF ?aB ?aS ?aL ?_
              (case aR => exact (by skip; exact Kd.V_F (Kd.V_mono (ok' := (fun k_ => ((fun k_ => ((P0_5_ k_ ∨ P1_5_ k_) ∨ w.heap.size ≤ k_) ∧ k_ ≠ gb150 ∧ k_ ≠ gb151 ∧ k_ ≠ gb152)) k_ ∧ some k_ ≠ (v159 : Value).ownBlock)) (HO_152005.out) (fun k_ hk => ⟨⟨hk.1, ⟨hk.2.2.1, ⟨hk.2.2.2.1, hk.2.2.2.2⟩⟩⟩, hk.2.1⟩))))
              (case aB => exact zb)
              (case aF => exact (fun k_ hk => ⟨(.inr (Nat.le_trans (below_size zb) hk)), tfB BK150 k_ hk, tfB BK151 k_ hk, tfB BK152 k_ hk⟩))
              (case aO => exact (tN HO160.out))
              (case aS => exact (below_size zb))
              (case aL => have := LMc55.out; omega)
              intro v162 w64 ho hb hg hat
              rw [← Ny161.out] at ho
              replace HO_151005 := Aside0.mk (Kd.V_afterv (ok := (fun k_ => ((P0_5_ k_ ∨ P1_5_ k_) ∨ w.heap.size ≤ k_) ∧ k_ ≠ gb150 ∧ k_ ≠ gb151 ∧ k_ ≠ gb152)) (tVm HO_151005.out) hg hat)
              replace HO_152005 := Aside0.mk (Kd.V_afterv (ok := (fun k_ => ((P0_5_ k_ ∨ P1_5_ k_) ∨ w.heap.size ≤ k_) ∧ k_ ≠ gb150 ∧ k_ ≠ gb151 ∧ k_ ≠ gb152)) (tVm HO_152005.out) hg hat)
              replace BK150 := Aside0.mk (blk_grown (tH BK150.out) hg (Kd.N_ne HO160.out BK150.out (by decide)))
              replace BK151 := Aside0.mk (blk_grown (tH BK151.out) hg (Kd.N_ne HO160.out BK151.out (by decide)))
              replace BK152 := Aside0.mk (blk_grown (tH BK152.out) hg (Kd.N_ne HO160.out BK152.out (by decide)))
              replace HB := Aside0.mk (hb)
              have HO163 := Aside0.mk (ho)
              clear HO160
              clear ho hb hg hat
              refine hK.out _ _ ⟨(blk_cell BK150.out 0).trans rfl, (blk_cell BK150.out 1).trans rfl, (blk_cell BK150.out 2).trans rfl, (blk_cell BK150.out 3).trans rfl, (blk_cell BK150.out 4).trans rfl, (blk_cell BK150.out 5).trans rfl, (blk_cell BK151.out 0).trans rfl, (blk_cell BK151.out 1).trans rfl, (blk_cell BK151.out 2).trans rfl, (blk_cell BK151.out 3).trans rfl, (blk_cell BK151.out 4).trans rfl, (blk_cell BK151.out 5).trans rfl⟩ (fun hHeld => ?_)
              clear hK K
              refine tnm (some 41) ?_
              exact tnx (hJ2_5_8 (v156, v159, v162) _ ⟨hHeld, (tN HO163.out), (tVm HO_151005.out), (tVm HO_152005.out), (tH BK150.out), (tH BK151.out), (tH BK152.out), zb⟩)
             ·skip
              refine box_step ?hg (N := 6) ?hd (cs := #[.bool false, .bool false, .int .i64 0, .int .i64 0, .int .i64 0, .slice none 0 0]) (t := 28) ?hr ?_; (case hd => rfl); (case hg => rfl); (case hr => first | (go_simp; done) | (go_simp; rfl))
              intro gb172 hg w64 hbox hb
              replace HO_151005 := tVB HO_151005 hg hb
              replace HO_152005 := tVB HO_152005 hg hb
              replace HO160 := tNB HO160 hg hb
              have BK172 := Aside0.mk (hbox)
              have GW172 := tge HB hg
              have GE172 := tge HB hg
              replace HB := tBs HB hb
              have NB150_172 := tlt BK150 hg
              have NB172_150 := tgt BK150 hg
              replace BK150 := tBb BK150 hb
              have NB151_172 := tlt BK151 hg
              have NB172_151 := tgt BK151 hg
              replace BK151 := tBb BK151 hb
              have NB152_172 := tlt BK152 hg
              have NB172_152 := tgt BK152 hg
              replace BK152 := tBb BK152 hb
              clear hb hbox hg
              refine hK.out _ _ ⟨(blk_cell BK150.out 0).trans rfl, (blk_cell BK150.out 1).trans rfl, (blk_cell BK150.out 2).trans rfl, (blk_cell BK150.out 3).trans rfl, (blk_cell BK150.out 4).trans rfl, (blk_cell BK150.out 5).trans rfl, (blk_cell BK151.out 0).trans rfl, (blk_cell BK151.out 1).trans rfl, (blk_cell BK151.out 2).trans rfl, (blk_cell BK151.out 3).trans rfl, (blk_cell BK151.out 4).trans rfl, (blk_cell BK151.out 5).trans rfl⟩ (fun hHeld => ?_)
              clear hK K
              refine tnm (some 6) ?_
              exact tnx (hJ2_5_10 (v156, v159, gb172) _ ⟨hHeld, (tNm HO160.out), (tVm HO_151005.out), (tVm HO_152005.out), (tH BK150.out), (tH BK151.out), (tH BK152.out), (tH BK172.out), GW172.out, GE172.out, NB150_172.out, NB172_150.out, NB151_172.out, NB172_151.out, NB152_172.out, NB172_152.out, zb⟩)
           ·skip
            rintro ⟨v156, v159, gb172⟩ w64 ⟨hS_, h0_, h1_, h2_, h3_, h4_, h5_, h6_, h7_, h8_, h9_, h10_, h11_, h12_, h13_, h14_, h15_⟩
            try dsimp only at hS_ h0_ h1_ h2_ h3_ h4_ h5_ h6_ h7_ h8_ h9_ h10_ h11_ h12_ h13_ h14_ h15_
            clear HO_151005 HO_152005 BK150 BK151 BK152 HB
            have HO160 := Aside0.mk h0_
            have HO_151005 := Aside0.mk h1_
            have HO_152005 := Aside0.mk h2_
            have BK150 := Aside0.mk h3_
            have BK151 := Aside0.mk h4_
            have BK152 := Aside0.mk h5_
            have BK172 := Aside0.mk h6_
            have GW172 := Aside0.mk h7_
            have GE172 := Aside0.mk h8_
            have NB150_172 := Aside0.mk h9_
            have NB172_150 := Aside0.mk h10_
            have NB151_172 := Aside0.mk h11_
            have NB172_151 := Aside0.mk h12_
            have NB152_172 := Aside0.mk h13_
            have NB172_152 := Aside0.mk h14_
            have HB := Aside0.mk h15_
            clear h0_ h1_ h2_ h3_ h4_ h5_ h6_ h7_ h8_ h9_ h10_ h11_ h12_ h13_ h14_ h15_
            have hHeld := hS_
            refine tnp ?_
            refine one_ (i := 8) (N := some 41) #[true, true, true, true, true, true, true, true, true, false, true, false] rfl rfl (one_of HT_.out (by kernel_rfl)) (by decide) (fun K hK => ?_)
            refine Kd.N_append_rows_step k62 (w0 := w) w.heap.size (by rfl) (.tmp 38) (.tmp 40) 26 62 (.agg #[(.int .i64 0), (.int .i64 0), (.bool false), (.slice none 0 0), (.bool false), (.slice none 0 0)]) 80 rfl Tryd.underlying26 info62 rfl (by decide) (by omega) v159 y158 l1_5 _ _ _ (fun k_ => ((P0_5_ k_ ∨ P1_5_ k_) ∨ w.heap.size ≤ k_) ∧ k_ ≠ gb150 ∧ k_ ≠ gb151 ∧ k_ ≠ gb152 ∧ k_ ≠ gb172) (fun k_ => ((fun k_ => ((P0_5_ k_ ∨ P1_5_ k_) ∨ w.heap.size ≤ k_) ∧ k_ ≠ gb150 ∧ k_ ≠ gb151 ∧ k_ ≠ gb152 ∧ k_ ≠ gb172)) k_ ∧ some k_ ≠ (v159 : Value).ownBlock) rfl rfl ?aO ?aR (fun _ hk => hk) ?aF ?aB ?aS ?aL ?_
            (case aR => exact (by skip; exact Kd.V_F (Kd.V_mono (ok' := (fun k_ => ((fun k_ => ((P0_5_ k_ ∨ P1_5_ k_) ∨ w.heap.size ≤ k_) ∧ k_ ≠ gb150 ∧ k_ ≠ gb151 ∧ k_ ≠ gb152 ∧ k_ ≠ gb172)) k_ ∧ some k_ ≠ (v159 : Value).ownBlock)) (HO_152005.out) (fun k_ hk => ⟨⟨hk.1, ⟨hk.2.2.1, ⟨hk.2.2.2.1, ⟨hk.2.2.2.2.1, hk.2.2.2.2.2⟩⟩⟩⟩, hk.2.1⟩))))
            (case aB => exact zb)
            (case aF => exact (fun k_ hk => ⟨(.inr (Nat.le_trans (below_size zb) hk)), tfB BK150 k_ hk, tfB BK151 k_ hk, tfB BK152 k_ hk, tfB BK172 k_ hk⟩))
            (case aO => exact (tN HO160.out))
            (case aS => exact (below_size zb))
            (case aL => have := LMc55.out; omega)
            intro v162 w65 ho hb hg hat
            rw [← Ny161.out] at ho
            replace HO_151005 := Aside0.mk (Kd.V_afterv (ok := (fun k_ => ((P0_5_ k_ ∨ P1_5_ k_) ∨ w.heap.size ≤ k_) ∧ k_ ≠ gb150 ∧ k_ ≠ gb151 ∧ k_ ≠ gb152 ∧ k_ ≠ gb172)) (tVm HO_151005.out) hg hat)
            replace HO_152005 := Aside0.mk (Kd.V_afterv (ok := (fun k_ => ((P0_5_ k_ ∨ P1_5_ k_) ∨ w.heap.size ≤ k_) ∧ k_ ≠ gb150 ∧ k_ ≠ gb151 ∧ k_ ≠ gb152 ∧ k_ ≠ gb172)) (tVm HO_152005.out) hg hat)
            replace BK150 := Aside0.mk (blk_grown (tH BK150.out) hg (Kd.N_ne HO160.out BK150.out (by decide)))
            replace BK151 := Aside0.mk (blk_grown (tH BK151.out) hg (Kd.N_ne HO160.out BK151.out (by decide)))
            replace BK152 := Aside0.mk (blk_grown (tH BK152.out) hg (Kd.N_ne HO160.out BK152.out (by decide)))
            replace BK172 := Aside0.mk (blk_grown (tH BK172.out) hg (Kd.N_ne HO160.out BK172.out (by decide)))
            replace HB := Aside0.mk (hb)
            have HO163 := Aside0.mk (ho)
            clear HO160
            clear ho hb hg hat
            refine hK.out _ _ ⟨(blk_cell BK150.out 0).trans rfl, (blk_cell BK150.out 1).trans rfl, (blk_cell BK150.out 2).trans rfl, (blk_cell BK150.out 3).trans rfl, (blk_cell BK150.out 4).trans rfl, (blk_cell BK150.out 5).trans rfl, (blk_cell BK151.out 0).trans rfl, (blk_cell BK151.out 1).trans rfl, (blk_cell BK151.out 2).trans rfl, (blk_cell BK151.out 3).trans rfl, (blk_cell BK151.out 4).trans rfl, (blk_cell BK151.out 5).trans rfl⟩ (fun hHeld => ?_)
            clear hK K
            refine tnm (some 41) ?_
            exact tnx (hJ2_5_8_10 (v156, v159, v162, gb172) _ ⟨hHeld, (tN HO163.out), (tVm HO_151005.out), (tVm HO_152005.out), (tH BK150.out), (tH BK151.out), (tH BK152.out), (tH BK172.out), GW172.out, GE172.out, NB150_172.out, NB172_150.out, NB151_172.out, NB172_151.out, NB152_172.out, NB172_152.out, zb⟩)
          ·skip
           rintro ⟨v156, v159, v162⟩ w64 ⟨hS_, h0_, h1_, h2_, h3_, h4_, h5_, h6_⟩
           try dsimp only at hS_ h0_ h1_ h2_ h3_ h4_ h5_ h6_
           clear HO_151005 HO_152005 BK150 BK151 BK152 HB
           have HO163 := Aside0.mk h0_
           have HO_151005 := Aside0.mk h1_
           have HO_152005 := Aside0.mk h2_
           have BK150 := Aside0.mk h3_
           have BK151 := Aside0.mk h4_
           have BK152 := Aside0.mk h5_
           have HB := Aside0.mk h6_
           clear h0_ h1_ h2_ h3_ h4_ h5_ h6_
           have hHeld := hS_
           obtain ⟨Ao65, co65, eo65⟩ := Kd.N_slice HO163.out
           (first | subst eo65 | (injection eo65 with f1_ f2_ f3_; have f4_ := f1_.symm; have f5_ := f3_.symm; clear f1_ f2_ f3_; subst f4_; subst f5_))
           refine tnp ?_
           refine two_ (i := 9) (j := 10) (Ni := some 42) (Nj := some 6) #[true, true, true, true, true, true, true, true, true, true, false, false] #[true, true, true, true, true, true, true, true, true, false, true, false] rfl rfl rfl rfl (two_of HT_.out (by kernel_rfl)) (by decide) (by decide) (fun K hK => ?_) (fun K hK => ?_)
           ·skip
            refine goes_ Tryd.func27 (by kernel_rfl) rfl #[.bool a0_0, .slice Ao65 y161.length co65] (by rfl) rfl rfl tq ?_
            with_reducible refine (spec_l31Free.calls kj2 a0_0 _ _ y161 t164 t165 t166 t167 t168 t169 _ ?side1 ?side2 A56.out).mono ?_
            (case side1 => repeat (first | exact (Kd.N_reads' HO163.out).2.2 | (with_reducible refine Kd.C_alloc ?_ _) | (with_reducible refine Kd.C_drewN ?_ _) | (with_reducible refine Kd.C_drew ?_)))
            (case side2 => exact (Kd.N_reads' HO163.out).2.1)
            rintro e w66 ⟨v170, rfl, ho0, hb⟩
            refine ⟨_, rfl, ?_⟩
            replace HO_151005 := tVe HO_151005 ho0 hb
            replace HO_152005 := tVe HO_152005 ho0 hb
            have HO171 := Aside0.mk (Kd.N_lower (Kd.N_mono (ok' := fun k_ => ((P0_5_ k_ ∨ P1_5_ k_) ∨ w.heap.size ≤ k_) ∧ some k_ ≠ (.slice Ao65 y161.length co65 : Value).ownBlock ∧ k_ ≠ gb150 ∧ k_ ≠ gb151 ∧ k_ ≠ gb152) (Kd.S_N (Kd.S_bound ho0)) (fun k_ hk_ => ⟨(.inr (Nat.le_trans (below_size zb) hk_.2.1)), (tfr HO163 k_ hk_.2.1), (tfB BK150 k_ hk_.2.1), (tfB BK151 k_ hk_.2.1), (tfB BK152 k_ hk_.2.1)⟩)) (below_size zb))
            replace HO163 := tNe HO163 ho0 hb
            replace BK150 := tBb BK150 hb
            replace BK151 := tBb BK151 hb
            replace BK152 := tBb BK152 hb
            replace HB := tBs HB hb
            (try clear hb)
            (try clear hb2)
            (try clear hk)
            (try clear hi)
            (try clear ho0)
            refine hK.out _ _ ⟨(blk_cell BK150.out 0).trans rfl, (blk_cell BK150.out 1).trans rfl, (blk_cell BK150.out 2).trans rfl, (blk_cell BK150.out 3).trans rfl, (blk_cell BK150.out 4).trans rfl, (blk_cell BK150.out 5).trans rfl, (blk_cell BK151.out 0).trans rfl, (blk_cell BK151.out 1).trans rfl, (blk_cell BK151.out 2).trans rfl, (blk_cell BK151.out 3).trans rfl, (blk_cell BK151.out 4).trans rfl, (blk_cell BK151.out 5).trans rfl⟩ (fun hHeld => ?_)
            clear hK K
            refine tnm (some 42) ?_
            exact tnx (hJ2_5_8_9 (v156, v159, .slice Ao65 y161.length co65, v170) _ ⟨hHeld, (tNm HO163.out), (tN HO171.out), (tVm HO_151005.out), (tVm HO_152005.out), (tH BK150.out), (tH BK151.out), (tH BK152.out), zb⟩)
           ·skip
            refine box_step ?hg (N := 6) ?hd (cs := #[.bool false, .bool false, .int .i64 0, .int .i64 0, .int .i64 0, .slice none 0 0]) (t := 28) ?hr ?_; (case hd => rfl); (case hg => rfl); (case hr => first | (go_simp; done) | (go_simp; rfl))
            intro gb172 hg w65 hbox hb
            replace HO_151005 := tVB HO_151005 hg hb
            replace HO_152005 := tVB HO_152005 hg hb
            replace HO163 := tNB HO163 hg hb
            have BK172 := Aside0.mk (hbox)
            have GW172 := tge HB hg
            have GE172 := tge HB hg
            replace HB := tBs HB hb
            have NB150_172 := tlt BK150 hg
            have NB172_150 := tgt BK150 hg
            replace BK150 := tBb BK150 hb
            have NB151_172 := tlt BK151 hg
            have NB172_151 := tgt BK151 hg
            replace BK151 := tBb BK151 hb
            have NB152_172 := tlt BK152 hg
            have NB172_152 := tgt BK152 hg
            replace BK152 := tBb BK152 hb
            clear hb hbox hg
            refine hK.out _ _ ⟨(blk_cell BK150.out 0).trans rfl, (blk_cell BK150.out 1).trans rfl, (blk_cell BK150.out 2).trans rfl, (blk_cell BK150.out 3).trans rfl, (blk_cell BK150.out 4).trans rfl, (blk_cell BK150.out 5).trans rfl, (blk_cell BK151.out 0).trans rfl, (blk_cell BK151.out 1).trans rfl, (blk_cell BK151.out 2).trans rfl, (blk_cell BK151.out 3).trans rfl, (blk_cell BK151.out 4).trans rfl, (blk_cell BK151.out 5).trans rfl⟩ (fun hHeld => ?_)
            clear hK K
            refine tnm (some 6) ?_
            exact tnx (hJ2_5_8_10 (v156, v159, (.slice Ao65 y161.length co65), gb172) _ ⟨hHeld, (tNm HO163.out), (tVm HO_151005.out), (tVm HO_152005.out), (tH BK150.out), (tH BK151.out), (tH BK152.out), (tH BK172.out), GW172.out, GE172.out, NB150_172.out, NB172_150.out, NB151_172.out, NB172_151.out, NB152_172.out, NB172_152.out, zb⟩)
         ·skip
          rintro ⟨v156, v159, v162, gb172⟩ w65 ⟨hS_, h0_, h1_, h2_, h3_, h4_, h5_, h6_, h7_, h8_, h9_, h10_, h11_, h12_, h13_, h14_, h15_⟩
          try dsimp only at hS_ h0_ h1_ h2_ h3_ h4_ h5_ h6_ h7_ h8_ h9_ h10_ h11_ h12_ h13_ h14_ h15_
          clear HO_151005 HO_152005 BK150 BK151 BK152 HB
          have HO163 := Aside0.mk h0_
          have HO_151005 := Aside0.mk h1_
          have HO_152005 := Aside0.mk h2_
          have BK150 := Aside0.mk h3_
          have BK151 := Aside0.mk h4_
          have BK152 := Aside0.mk h5_
          have BK172 := Aside0.mk h6_
          have GW172 := Aside0.mk h7_
          have GE172 := Aside0.mk h8_
          have NB150_172 := Aside0.mk h9_
          have NB172_150 := Aside0.mk h10_
          have NB151_172 := Aside0.mk h11_
          have NB172_151 := Aside0.mk h12_
          have NB152_172 := Aside0.mk h13_
          have NB172_152 := Aside0.mk h14_
          have HB := Aside0.mk h15_
          clear h0_ h1_ h2_ h3_ h4_ h5_ h6_ h7_ h8_ h9_ h10_ h11_ h12_ h13_ h14_ h15_
          have hHeld := hS_
          obtain ⟨Ao66, co66, eo66⟩ := Kd.N_slice HO163.out
          (first | subst eo66 | (injection eo66 with f1_ f2_ f3_; have f4_ := f1_.symm; have f5_ := f3_.symm; clear f1_ f2_ f3_; subst f4_; subst f5_))
          refine tnp ?_
          refine one_ (i := 9) (N := some 42) #[true, true, true, true, true, true, true, true, true, true, true, false] rfl rfl (one_of HT_.out (by kernel_rfl)) (by decide) (fun K hK => ?_)
          refine goes_ Tryd.func27 (by kernel_rfl) rfl #[.bool a0_0, .slice Ao66 y161.length co66] (by rfl) rfl rfl tq ?_
          with_reducible refine (spec_l31Free.calls kj2 a0_0 _ _ y161 t164 t165 t166 t167 t168 t169 _ ?side1 ?side2 A56.out).mono ?_
          (case side1 => repeat (first | exact (Kd.N_reads' HO163.out).2.2 | (with_reducible refine Kd.C_alloc ?_ _) | (with_reducible refine Kd.C_drewN ?_ _) | (with_reducible refine Kd.C_drew ?_)))
          (case side2 => exact (Kd.N_reads' HO163.out).2.1)
          rintro e w67 ⟨v170, rfl, ho0, hb⟩
          refine ⟨_, rfl, ?_⟩
          replace HO_151005 := tVe HO_151005 ho0 hb
          replace HO_152005 := tVe HO_152005 ho0 hb
          have HO171 := Aside0.mk (Kd.N_lower (Kd.N_mono (ok' := fun k_ => ((P0_5_ k_ ∨ P1_5_ k_) ∨ w.heap.size ≤ k_) ∧ some k_ ≠ (.slice Ao66 y161.length co66 : Value).ownBlock ∧ k_ ≠ gb150 ∧ k_ ≠ gb151 ∧ k_ ≠ gb152 ∧ k_ ≠ gb172) (Kd.S_N (Kd.S_bound ho0)) (fun k_ hk_ => ⟨(.inr (Nat.le_trans (below_size zb) hk_.2.1)), (tfr HO163 k_ hk_.2.1), (tfB BK150 k_ hk_.2.1), (tfB BK151 k_ hk_.2.1), (tfB BK152 k_ hk_.2.1), (tfB BK172 k_ hk_.2.1)⟩)) (below_size zb))
          replace HO163 := tNe HO163 ho0 hb
          replace BK150 := tBb BK150 hb
          replace BK151 := tBb BK151 hb
          replace BK152 := tBb BK152 hb
          replace BK172 := tBb BK172 hb
          replace HB := tBs HB hb
          (try clear hb)
          (try clear hb2)
          (try clear hk)
          (try clear hi)
          (try clear ho0)
          refine hK.out _ _ ⟨(blk_cell BK150.out 0).trans rfl, (blk_cell BK150.out 1).trans rfl, (blk_cell BK150.out 2).trans rfl, (blk_cell BK150.out 3).trans rfl, (blk_cell BK150.out 4).trans rfl, (blk_cell BK150.out 5).trans rfl, (blk_cell BK151.out 0).trans rfl, (blk_cell BK151.out 1).trans rfl, (blk_cell BK151.out 2).trans rfl, (blk_cell BK151.out 3).trans rfl, (blk_cell BK151.out 4).trans rfl, (blk_cell BK151.out 5).trans rfl⟩ (fun hHeld => ?_)
          clear hK K
          refine tnm (some 42) ?_
          exact tnx (hJ2_5_8_9_10 (v156, v159, .slice Ao66 y161.length co66, v170, gb172) _ ⟨hHeld, (tNm HO163.out), (tN HO171.out), (tVm HO_151005.out), (tVm HO_152005.out), (tH BK150.out), (tH BK151.out), (tH BK152.out), (tH BK172.out), GW172.out, GE172.out, NB150_172.out, NB172_150.out, NB151_172.out, NB172_151.out, NB152_172.out, NB172_152.out, zb⟩)
        ·skip
         rintro ⟨v156, v159, v162, v170⟩ w66 ⟨hS_, h0_, h1_, h2_, h3_, h4_, h5_, h6_, h7_⟩
         try dsimp only at hS_ h0_ h1_ h2_ h3_ h4_ h5_ h6_ h7_
         clear HO_151005 HO_152005 BK150 BK151 BK152 HB
         have HO163 := Aside0.mk h0_
         have HO171 := Aside0.mk h1_
         have HO_151005 := Aside0.mk h2_
         have HO_152005 := Aside0.mk h3_
         have BK150 := Aside0.mk h4_
         have BK151 := Aside0.mk h5_
         have BK152 := Aside0.mk h6_
         have HB := Aside0.mk h7_
         clear h0_ h1_ h2_ h3_ h4_ h5_ h6_ h7_
         have hHeld := hS_
         refine tnp ?_
         refine one_ (i := 10) (N := some 6) #[true, true, true, true, true, true, true, true, true, true, true, false] rfl rfl (one_of HT_.out (by kernel_rfl)) (by decide) (fun K hK => ?_)
         refine box_step ?hg (N := 6) ?hd (cs := #[.bool false, .bool false, .int .i64 0, .int .i64 0, .int .i64 0, .slice none 0 0]) (t := 28) ?hr ?_; (case hd => rfl); (case hg => rfl); (case hr => first | (go_simp; done) | (go_simp; rfl))
         intro gb172 hg w67 hbox hb
         replace HO_151005 := tVB HO_151005 hg hb
         replace HO_152005 := tVB HO_152005 hg hb
         replace HO163 := tNB HO163 hg hb
         replace HO171 := tNB HO171 hg hb
         have BK172 := Aside0.mk (hbox)
         have GW172 := tge HB hg
         have GE172 := tge HB hg
         replace HB := tBs HB hb
         have NB150_172 := tlt BK150 hg
         have NB172_150 := tgt BK150 hg
         replace BK150 := tBb BK150 hb
         have NB151_172 := tlt BK151 hg
         have NB172_151 := tgt BK151 hg
         replace BK151 := tBb BK151 hb
         have NB152_172 := tlt BK152 hg
         have NB172_152 := tgt BK152 hg
         replace BK152 := tBb BK152 hb
         clear hb hbox hg
         refine hK.out _ _ ⟨(blk_cell BK150.out 0).trans rfl, (blk_cell BK150.out 1).trans rfl, (blk_cell BK150.out 2).trans rfl, (blk_cell BK150.out 3).trans rfl, (blk_cell BK150.out 4).trans rfl, (blk_cell BK150.out 5).trans rfl, (blk_cell BK151.out 0).trans rfl, (blk_cell BK151.out 1).trans rfl, (blk_cell BK151.out 2).trans rfl, (blk_cell BK151.out 3).trans rfl, (blk_cell BK151.out 4).trans rfl, (blk_cell BK151.out 5).trans rfl⟩ (fun hHeld => ?_)
         clear hK K
         refine tnm (some 6) ?_
         exact tnx (hJ2_5_8_9_10 (v156, v159, v162, v170, gb172) _ ⟨hHeld, (tNm HO163.out), (tNm HO171.out), (tVm HO_151005.out), (tVm HO_152005.out), (tH BK150.out), (tH BK151.out), (tH BK152.out), (tH BK172.out), GW172.out, GE172.out, NB150_172.out, NB172_150.out, NB151_172.out, NB172_151.out, NB152_172.out, NB172_152.out, zb⟩)
       rintro ⟨v156, v159, v162, v170, gb172⟩ w67 ⟨hS_, h0_, h1_, h2_, h3_, h4_, h5_, h6_, h7_, h8_, h9_, h10_, h11_, h12_, h13_, h14_, h15_, h16_⟩
       try dsimp only at hS_ h0_ h1_ h2_ h3_ h4_ h5_ h6_ h7_ h8_ h9_ h10_ h11_ h12_ h13_ h14_ h15_ h16_
       clear HO_151005 HO_152005 BK150 BK151 BK152 HB
       have HO163 := Aside0.mk h0_
       have HO171 := Aside0.mk h1_
       have HO_151005 := Aside0.mk h2_
       have HO_152005 := Aside0.mk h3_
       have BK150 := Aside0.mk h4_
       have BK151 := Aside0.mk h5_
       have BK152 := Aside0.mk h6_
       have BK172 := Aside0.mk h7_
       have GW172 := Aside0.mk h8_
       have GE172 := Aside0.mk h9_
       have NB150_172 := Aside0.mk h10_
       have NB172_150 := Aside0.mk h11_
       have NB151_172 := Aside0.mk h12_
       have NB172_151 := Aside0.mk h13_
       have NB152_172 := Aside0.mk h14_
       have NB172_152 := Aside0.mk h15_
       have HB := Aside0.mk h16_
       clear h0_ h1_ h2_ h3_ h4_ h5_ h6_ h7_ h8_ h9_ h10_ h11_ h12_ h13_ h14_ h15_ h16_
       have hHeld := hS_
       obtain ⟨Ao73, co73, eo73⟩ := Kd.N_slice HO171.out
       (first | subst eo73 | (injection eo73 with f1_ f2_ f3_; have f4_ := f1_.symm; have f5_ := f3_.symm; clear f1_ f2_ f3_; subst f4_; subst f5_))
       refine tnp ?_
       refine one_ (i := 11) (N := none) #[true, true, true, true, true, true, true, true, true, true, true, true] rfl rfl (one_of HT_.out (by kernel_rfl)) (by decide) (fun K hK => ?_)
       have hs68 : w67.cell? ⟨gb172, 0, none⟩ = some (.bool false) := (blk_cell BK172.out 0).trans rfl
       have hfs68 := blk_frozen BK172.out 0
       have hns68_0 := NB150_172.out
       have hns68_1 := NB151_172.out
       have hns68_2 := NB152_172.out
       have hms68_0 := NB172_150.out
       have hms68_1 := NB172_151.out
       have hms68_2 := NB172_152.out
       have hs69 : w67.cell? ⟨gb172, 1, none⟩ = some (.bool false) := (blk_cell BK172.out 1).trans rfl
       have hfs69 := blk_frozen BK172.out 1
       have hs70 : w67.cell? ⟨gb172, 2, none⟩ = some (.int .i64 0) := (blk_cell BK172.out 2).trans rfl
       have hfs70 := blk_frozen BK172.out 2
       have hs71 : w67.cell? ⟨gb172, 3, none⟩ = some (.int .i64 0) := (blk_cell BK172.out 3).trans rfl
       have hfs71 := blk_frozen BK172.out 3
       have hs72 : w67.cell? ⟨gb172, 4, none⟩ = some (.int .i64 0) := (blk_cell BK172.out 4).trans rfl
       have hfs72 := blk_frozen BK172.out 4
       have hs74 : w67.cell? ⟨gb172, 5, none⟩ = some (.slice none 0 0) := (blk_cell BK172.out 5).trans rfl
       have hfs74 := blk_frozen BK172.out 5
       refine tsk ?_
       refine hK.out _ _ ⟨(tcg NB150_172.out hHeld.1), (tcg NB150_172.out hHeld.2.1), (tcg NB150_172.out hHeld.2.2.1), (tcg NB150_172.out hHeld.2.2.2.1), (tcg NB150_172.out hHeld.2.2.2.2.1), (tcg NB150_172.out hHeld.2.2.2.2.2.1), (tcg NB151_172.out hHeld.2.2.2.2.2.2.1), (tcg NB151_172.out hHeld.2.2.2.2.2.2.2.1), (tcg NB151_172.out hHeld.2.2.2.2.2.2.2.2.1), (tcg NB151_172.out hHeld.2.2.2.2.2.2.2.2.2.1), (tcg NB151_172.out hHeld.2.2.2.2.2.2.2.2.2.2.1), (tcg NB151_172.out hHeld.2.2.2.2.2.2.2.2.2.2.2)⟩ (fun hHeld => ?_)
       clear hK K
       refine done_ (done_of HT_.out (by kernel_rfl)) ?_
       have hnb75 := NB172_150.out
       have hnc75 := NB150_172.out
       have hnb76 := NB172_151.out
       have hnc76 := NB151_172.out
       have hnb77 := NB172_152.out
       have hnc77 := NB152_172.out
       obtain ⟨hcz78_0, hcz78_1, hcz78_2, hcz78_3, hcz78_4, hcz78_5, hfz78_0, hfz78_1, hfz78_2, hfz78_3, hfz78_4, hfz78_5⟩ := cells6 BK172.out
       try go_wp2_with (first | ((with_reducible refine gate_callee (f := 26) rfl ?_); refine goesL_ (some 44) rfl rfl Tryd.func26 (by kernel_rfl) rfl #[.agg #[.bool t164, .bool t165, .int .i64 t166, .int .i64 t167, .int .i64 t168, .slice Ao73 t169.length co73]] rfl tq ?_; (with_reducible refine (spec_BatchValid.calls kj2 t164 t165 t166 t167 t168 _ _ t169 true _ ?side1 ?side2 A57.out).mono ?_); (case side1 => exact (Kd.N_reads' (tN HO171.out)).2.2); (case side2 => exact (Kd.N_reads' HO171.out).2.1); rintro e w79 ⟨rfl, hb⟩; refine ⟨_, rfl, ?_⟩; replace HO_151005 := tVb HO_151005 hb; replace HO_152005 := tVb HO_152005 hb; replace HO163 := tNb HO163 hb; replace HO171 := tNb HO171 hb; replace BK150 := tBb BK150 hb; replace BK151 := tBb BK151 hb; replace BK152 := tBb BK152 hb; replace BK172 := tBp (o' := .cells #[.bool t164, .bool t165, .int .i64 t166, .int .i64 t167, .int .i64 t168, .slice Ao73 t169.length co73] 28 (0, 0)) BK172 hb; replace HB := tBs HB hb; (try clear hb); (try clear hb2); (try clear hk); (try clear hi); obtain ⟨hcz80_0, hcz80_1, hcz80_2, hcz80_3, hcz80_4, hcz80_5, hfz80_0, hfz80_1, hfz80_2, hfz80_3, hfz80_4, hfz80_5⟩ := cells6 BK172.out; have hnb81 := NB152_150.out; have hnc81 := NB150_152.out; have hnb82 := NB152_151.out; have hnc82 := NB151_152.out; obtain ⟨hcz83_0, hcz83_1, hcz83_2, hcz83_3, hcz83_4, hcz83_5, hfz83_0, hfz83_1, hfz83_2, hfz83_3, hfz83_4, hfz83_5⟩ := cells6 BK152.out))
       refine bodyPost_ret (results_ct rfl _ _ gb152 28 #[.bool t164, .bool t165, .int .i64 t166, .int .i64 t167, .int .i64 t168, .slice Ao73 t169.length co73] (0, 0) _ rfl (tP BK152.out) Tryd.underlying28 rfl (by kernel_rfl)) rfl ?_
       exact ⟨_, by first | rfl | (simp [errW_none, errW_some] <;> rfl) | (simp [*, errW_none, errW_some] <;> rfl), tNm HO171.out, zb⟩
      ·replace c58 := Bool.eq_false_iff.mpr c58
       subst c58
       rw [if_neg (show ¬ (false = true) by decide)] at H
       simp only [Option.some.injEq, Prod.mk.injEq] at H
       obtain ⟨rfl, rfl, rfl, rfl, rfl, rfl, rfl⟩ := H
       try go_wp2
       replace HO_151005 := Aside0.mk (Kd.V_drew HO_151005.out)
       replace HO_152005 := Aside0.mk (Kd.V_drew HO_152005.out)
       replace BK150 := Aside0.mk (blk_drew BK150.out)
       replace BK151 := Aside0.mk (blk_drew BK151.out)
       replace BK152 := Aside0.mk (blk_drew BK152.out)
       replace HB := Aside0.mk (below_drew1 HB.out)
       refine start_ (n := 12) (S := fun w' => w'.cell? ⟨gb150, 0, none⟩ = some (.bool a0_0) ∧ w'.cell? ⟨gb150, 1, none⟩ = some (.bool a0_1) ∧ w'.cell? ⟨gb150, 2, none⟩ = some (.int .i64 a0_2) ∧ w'.cell? ⟨gb150, 3, none⟩ = some (.int .i64 a0_3) ∧ w'.cell? ⟨gb150, 4, none⟩ = some (.int .i64 a0_4) ∧ w'.cell? ⟨gb150, 5, none⟩ = some (.slice A0_5 l0_5.length c0_5) ∧ w'.cell? ⟨gb151, 0, none⟩ = some (.bool a1_0) ∧ w'.cell? ⟨gb151, 1, none⟩ = some (.bool a1_1) ∧ w'.cell? ⟨gb151, 2, none⟩ = some (.int .i64 a1_2) ∧ w'.cell? ⟨gb151, 3, none⟩ = some (.int .i64 a1_3) ∧ w'.cell? ⟨gb151, 4, none⟩ = some (.int .i64 a1_4) ∧ w'.cell? ⟨gb151, 5, none⟩ = some (.slice A1_5 l1_5.length c1_5)) (ds := []) #[false, false, false, false, false, false, false, false, false, false, false, false] (by kernel_rfl) rfl rfl ⟨(blk_cell BK150.out 0).trans rfl, (blk_cell BK150.out 1).trans rfl, (blk_cell BK150.out 2).trans rfl, (blk_cell BK150.out 3).trans rfl, (blk_cell BK150.out 4).trans rfl, (blk_cell BK150.out 5).trans rfl, (blk_cell BK151.out 0).trans rfl, (blk_cell BK151.out 1).trans rfl, (blk_cell BK151.out 2).trans rfl, (blk_cell BK151.out 3).trans rfl, (blk_cell BK151.out 4).trans rfl, (blk_cell BK151.out 5).trans rfl⟩ (fun hHeld => ?_); refine with_tabW spec_BatchJoin.tab3 spec_BatchJoin.bits3 (fun HT_ HW_ => ?_)
       generalize wc.drew = w84 at HO_151005 HO_152005 BK150 BK151 BK152 HB hHeld ⊢
       refine tpu 0 (some 33) #[true, false, false, false, false, false, false, false, false, false, false, false] ?_
       refine tpu 3 (some 36) #[true, false, false, true, false, false, false, false, false, false, false, false] ?_
       refine tpu 6 (some 39) #[true, false, false, true, false, false, true, false, false, false, false, false] ?_
       refine tta 1 (some 34) #[true, true, false, true, false, false, true, false, false, false, false, false] hHeld ?_ (hy := by rintro w' ⟨s0, s1, s2, s3, s4, s5, s6, s7, s8, s9, s10, s11⟩; go_simp; with_reducible rfl)
       refine tta 4 (some 37) #[true, true, false, true, true, false, true, false, false, false, false, false] hHeld ?_ (hy := by rintro w' ⟨s0, s1, s2, s3, s4, s5, s6, s7, s8, s9, s10, s11⟩; go_simp; with_reducible rfl)
       refine tta 7 (some 40) #[true, true, false, true, true, false, true, true, false, false, false, false] hHeld ?_ (hy := by rintro w' ⟨s0, s1, s2, s3, s4, s5, s6, s7, s8, s9, s10, s11⟩; go_simp; with_reducible rfl)
       refine join_ (σ := Value × Value × Value × Value × Nat) 1 #[true, true, true, true, true, true, true, true, true, true, true, false] (fun s_ => [(35, s_.1), (38, s_.2.1), (41, s_.2.2.1), (42, .agg #[.bool t164, .bool t165, .int .i64 t166, .int .i64 t167, .int .i64 t168, s_.2.2.2.1]), (6, .pointer (some ⟨s_.2.2.2.2, 0, none⟩))]) (fun s_ w' => (w'.cell? ⟨gb150, 0, none⟩ = some (.bool a0_0) ∧ w'.cell? ⟨gb150, 1, none⟩ = some (.bool a0_1) ∧ w'.cell? ⟨gb150, 2, none⟩ = some (.int .i64 a0_2) ∧ w'.cell? ⟨gb150, 3, none⟩ = some (.int .i64 a0_3) ∧ w'.cell? ⟨gb150, 4, none⟩ = some (.int .i64 a0_4) ∧ w'.cell? ⟨gb150, 5, none⟩ = some (.slice A0_5 l0_5.length c0_5) ∧ w'.cell? ⟨gb151, 0, none⟩ = some (.bool a1_0) ∧ w'.cell? ⟨gb151, 1, none⟩ = some (.bool a1_1) ∧ w'.cell? ⟨gb151, 2, none⟩ = some (.int .i64 a1_2) ∧ w'.cell? ⟨gb151, 3, none⟩ = some (.int .i64 a1_3) ∧ w'.cell? ⟨gb151, 4, none⟩ = some (.int .i64 a1_4) ∧ w'.cell? ⟨gb151, 5, none⟩ = some (.slice A1_5 l1_5.length c1_5)) ∧ (Kd.N k62 62 w' w.heap.size (fun k_ => ((P0_5_ k_ ∨ P1_5_ k_) ∨ w.heap.size ≤ k_) ∧ some k_ ≠ (s_.2.2.2.1 : Value).ownBlock ∧ k_ ≠ gb150 ∧ k_ ≠ gb151 ∧ k_ ≠ gb152 ∧ k_ ≠ s_.2.2.2.2) s_.2.2.1 y161) ∧ (Kd.N k62 62 w' w.heap.size (fun k_ => ((P0_5_ k_ ∨ P1_5_ k_) ∨ w.heap.size ≤ k_) ∧ some k_ ≠ (s_.2.2.1 : Value).ownBlock ∧ k_ ≠ gb150 ∧ k_ ≠ gb151 ∧ k_ ≠ gb152 ∧ k_ ≠ s_.2.2.2.2) s_.2.2.2.1 t169) ∧ (Kd.V k62 62 w' w.heap.size (fun k_ => ((P0_5_ k_ ∨ P1_5_ k_) ∨ w.heap.size ≤ k_) ∧ some k_ ≠ (s_.2.2.1 : Value).ownBlock ∧ some k_ ≠ (s_.2.2.2.1 : Value).ownBlock ∧ k_ ≠ gb150 ∧ k_ ≠ gb151 ∧ k_ ≠ gb152 ∧ k_ ≠ s_.2.2.2.2) (.slice A0_5 l0_5.length c0_5) l0_5) ∧ (Kd.V k62 62 w' w.heap.size (fun k_ => ((P0_5_ k_ ∨ P1_5_ k_) ∨ w.heap.size ≤ k_) ∧ some k_ ≠ (s_.2.2.1 : Value).ownBlock ∧ some k_ ≠ (s_.2.2.2.1 : Value).ownBlock ∧ k_ ≠ gb150 ∧ k_ ≠ gb151 ∧ k_ ≠ gb152 ∧ k_ ≠ s_.2.2.2.2) (.slice A1_5 l1_5.length c1_5) l1_5) ∧ (w'.heap[gb150]? = some (.cells #[.bool a0_0, .bool a0_1, .int .i64 a0_2, .int .i64 a0_3, .int .i64 a0_4, .slice A0_5 l0_5.length c0_5] 28 (0, 0))) ∧ (w'.heap[gb151]? = some (.cells #[.bool a1_0, .bool a1_1, .int .i64 a1_2, .int .i64 a1_3, .int .i64 a1_4, .slice A1_5 l1_5.length c1_5] 28 (0, 0))) ∧ (w'.heap[gb152]? = some (.cells #[.bool false, .bool false, .int .i64 0, .int .i64 0, .int .i64 0, .slice none 0 0] 28 (0, 0))) ∧ (w'.heap[s_.2.2.2.2]? = some (.cells #[.bool false, .bool false, .int .i64 0, .int .i64 0, .int .i64 0, .slice none 0 0] 28 (0, 0))) ∧ (w.heap.size ≤ s_.2.2.2.2) ∧ (w.heap.size ≤ s_.2.2.2.2) ∧ (gb150 ≠ s_.2.2.2.2) ∧ (s_.2.2.2.2 ≠ gb150) ∧ (gb151 ≠ s_.2.2.2.2) ∧ (s_.2.2.2.2 ≠ gb151) ∧ (gb152 ≠ s_.2.2.2.2) ∧ (s_.2.2.2.2 ≠ gb152) ∧ (Below w.heap.size w w')) ?_ ?_
       rotate_left
       ·intro hJ2_5_8_9_10
        refine join_ (σ := Value × Value × Value × Value) 2 #[true, true, true, true, true, true, true, true, true, true, false, false] (fun s_ => [(35, s_.1), (38, s_.2.1), (41, s_.2.2.1), (42, .agg #[.bool t164, .bool t165, .int .i64 t166, .int .i64 t167, .int .i64 t168, s_.2.2.2])]) (fun s_ w' => (w'.cell? ⟨gb150, 0, none⟩ = some (.bool a0_0) ∧ w'.cell? ⟨gb150, 1, none⟩ = some (.bool a0_1) ∧ w'.cell? ⟨gb150, 2, none⟩ = some (.int .i64 a0_2) ∧ w'.cell? ⟨gb150, 3, none⟩ = some (.int .i64 a0_3) ∧ w'.cell? ⟨gb150, 4, none⟩ = some (.int .i64 a0_4) ∧ w'.cell? ⟨gb150, 5, none⟩ = some (.slice A0_5 l0_5.length c0_5) ∧ w'.cell? ⟨gb151, 0, none⟩ = some (.bool a1_0) ∧ w'.cell? ⟨gb151, 1, none⟩ = some (.bool a1_1) ∧ w'.cell? ⟨gb151, 2, none⟩ = some (.int .i64 a1_2) ∧ w'.cell? ⟨gb151, 3, none⟩ = some (.int .i64 a1_3) ∧ w'.cell? ⟨gb151, 4, none⟩ = some (.int .i64 a1_4) ∧ w'.cell? ⟨gb151, 5, none⟩ = some (.slice A1_5 l1_5.length c1_5)) ∧ (Kd.N k62 62 w' w.heap.size (fun k_ => ((P0_5_ k_ ∨ P1_5_ k_) ∨ w.heap.size ≤ k_) ∧ some k_ ≠ (s_.2.2.2 : Value).ownBlock ∧ k_ ≠ gb150 ∧ k_ ≠ gb151 ∧ k_ ≠ gb152) s_.2.2.1 y161) ∧ (Kd.N k62 62 w' w.heap.size (fun k_ => ((P0_5_ k_ ∨ P1_5_ k_) ∨ w.heap.size ≤ k_) ∧ some k_ ≠ (s_.2.2.1 : Value).ownBlock ∧ k_ ≠ gb150 ∧ k_ ≠ gb151 ∧ k_ ≠ gb152) s_.2.2.2 t169) ∧ (Kd.V k62 62 w' w.heap.size (fun k_ => ((P0_5_ k_ ∨ P1_5_ k_) ∨ w.heap.size ≤ k_) ∧ some k_ ≠ (s_.2.2.1 : Value).ownBlock ∧ some k_ ≠ (s_.2.2.2 : Value).ownBlock ∧ k_ ≠ gb150 ∧ k_ ≠ gb151 ∧ k_ ≠ gb152) (.slice A0_5 l0_5.length c0_5) l0_5) ∧ (Kd.V k62 62 w' w.heap.size (fun k_ => ((P0_5_ k_ ∨ P1_5_ k_) ∨ w.heap.size ≤ k_) ∧ some k_ ≠ (s_.2.2.1 : Value).ownBlock ∧ some k_ ≠ (s_.2.2.2 : Value).ownBlock ∧ k_ ≠ gb150 ∧ k_ ≠ gb151 ∧ k_ ≠ gb152) (.slice A1_5 l1_5.length c1_5) l1_5) ∧ (w'.heap[gb150]? = some (.cells #[.bool a0_0, .bool a0_1, .int .i64 a0_2, .int .i64 a0_3, .int .i64 a0_4, .slice A0_5 l0_5.length c0_5] 28 (0, 0))) ∧ (w'.heap[gb151]? = some (.cells #[.bool a1_0, .bool a1_1, .int .i64 a1_2, .int .i64 a1_3, .int .i64 a1_4, .slice A1_5 l1_5.length c1_5] 28 (0, 0))) ∧ (w'.heap[gb152]? = some (.cells #[.bool false, .bool false, .int .i64 0, .int .i64 0, .int .i64 0, .slice none 0 0] 28 (0, 0))) ∧ (Below w.heap.size w w')) ?_ ?_
        rotate_left
        ·intro hJ2_5_8_9
         refine join_ (σ := Value × Value × Value × Nat) 2 #[true, true, true, true, true, true, true, true, true, false, true, false] (fun s_ => [(35, s_.1), (38, s_.2.1), (41, s_.2.2.1), (6, .pointer (some ⟨s_.2.2.2, 0, none⟩))]) (fun s_ w' => (w'.cell? ⟨gb150, 0, none⟩ = some (.bool a0_0) ∧ w'.cell? ⟨gb150, 1, none⟩ = some (.bool a0_1) ∧ w'.cell? ⟨gb150, 2, none⟩ = some (.int .i64 a0_2) ∧ w'.cell? ⟨gb150, 3, none⟩ = some (.int .i64 a0_3) ∧ w'.cell? ⟨gb150, 4, none⟩ = some (.int .i64 a0_4) ∧ w'.cell? ⟨gb150, 5, none⟩ = some (.slice A0_5 l0_5.length c0_5) ∧ w'.cell? ⟨gb151, 0, none⟩ = some (.bool a1_0) ∧ w'.cell? ⟨gb151, 1, none⟩ = some (.bool a1_1) ∧ w'.cell? ⟨gb151, 2, none⟩ = some (.int .i64 a1_2) ∧ w'.cell? ⟨gb151, 3, none⟩ = some (.int .i64 a1_3) ∧ w'.cell? ⟨gb151, 4, none⟩ = some (.int .i64 a1_4) ∧ w'.cell? ⟨gb151, 5, none⟩ = some (.slice A1_5 l1_5.length c1_5)) ∧ (Kd.N k62 62 w' w.heap.size (fun k_ => ((P0_5_ k_ ∨ P1_5_ k_) ∨ w.heap.size ≤ k_) ∧ k_ ≠ gb150 ∧ k_ ≠ gb151 ∧ k_ ≠ gb152 ∧ k_ ≠ s_.2.2.2) s_.2.2.1 y161) ∧ (Kd.V k62 62 w' w.heap.size (fun k_ => ((P0_5_ k_ ∨ P1_5_ k_) ∨ w.heap.size ≤ k_) ∧ some k_ ≠ (s_.2.2.1 : Value).ownBlock ∧ k_ ≠ gb150 ∧ k_ ≠ gb151 ∧ k_ ≠ gb152 ∧ k_ ≠ s_.2.2.2) (.slice A0_5 l0_5.length c0_5) l0_5) ∧ (Kd.V k62 62 w' w.heap.size (fun k_ => ((P0_5_ k_ ∨ P1_5_ k_) ∨ w.heap.size ≤ k_) ∧ some k_ ≠ (s_.2.2.1 : Value).ownBlock ∧ k_ ≠ gb150 ∧ k_ ≠ gb151 ∧ k_ ≠ gb152 ∧ k_ ≠ s_.2.2.2) (.slice A1_5 l1_5.length c1_5) l1_5) ∧ (w'.heap[gb150]? = some (.cells #[.bool a0_0, .bool a0_1, .int .i64 a0_2, .int .i64 a0_3, .int .i64 a0_4, .slice A0_5 l0_5.length c0_5] 28 (0, 0))) ∧ (w'.heap[gb151]? = some (.cells #[.bool a1_0, .bool a1_1, .int .i64 a1_2, .int .i64 a1_3, .int .i64 a1_4, .slice A1_5 l1_5.length c1_5] 28 (0, 0))) ∧ (w'.heap[gb152]? = some (.cells #[.bool false, .bool false, .int .i64 0, .int .i64 0, .int .i64 0, .slice none 0 0] 28 (0, 0))) ∧ (w'.heap[s_.2.2.2]? = some (.cells #[.bool false, .bool false, .int .i64 0, .int .i64 0, .int .i64 0, .slice none 0 0] 28 (0, 0))) ∧ (w.heap.size ≤ s_.2.2.2) ∧ (w.heap.size ≤ s_.2.2.2) ∧ (gb150 ≠ s_.2.2.2) ∧ (s_.2.2.2 ≠ gb150) ∧ (gb151 ≠ s_.2.2.2) ∧ (s_.2.2.2 ≠ gb151) ∧ (gb152 ≠ s_.2.2.2) ∧ (s_.2.2.2 ≠ gb152) ∧ (Below w.heap.size w w')) ?_ ?_
         rotate_left
         ·intro hJ2_5_8_10
          refine join_ (σ := Value × Value × Value) 3 #[true, true, true, true, true, true, true, true, true, false, false, false] (fun s_ => [(35, s_.1), (38, s_.2.1), (41, s_.2.2)]) (fun s_ w' => (w'.cell? ⟨gb150, 0, none⟩ = some (.bool a0_0) ∧ w'.cell? ⟨gb150, 1, none⟩ = some (.bool a0_1) ∧ w'.cell? ⟨gb150, 2, none⟩ = some (.int .i64 a0_2) ∧ w'.cell? ⟨gb150, 3, none⟩ = some (.int .i64 a0_3) ∧ w'.cell? ⟨gb150, 4, none⟩ = some (.int .i64 a0_4) ∧ w'.cell? ⟨gb150, 5, none⟩ = some (.slice A0_5 l0_5.length c0_5) ∧ w'.cell? ⟨gb151, 0, none⟩ = some (.bool a1_0) ∧ w'.cell? ⟨gb151, 1, none⟩ = some (.bool a1_1) ∧ w'.cell? ⟨gb151, 2, none⟩ = some (.int .i64 a1_2) ∧ w'.cell? ⟨gb151, 3, none⟩ = some (.int .i64 a1_3) ∧ w'.cell? ⟨gb151, 4, none⟩ = some (.int .i64 a1_4) ∧ w'.cell? ⟨gb151, 5, none⟩ = some (.slice A1_5 l1_5.length c1_5)) ∧ (Kd.N k62 62 w' w.heap.size (fun k_ => ((P0_5_ k_ ∨ P1_5_ k_) ∨ w.heap.size ≤ k_) ∧ k_ ≠ gb150 ∧ k_ ≠ gb151 ∧ k_ ≠ gb152) s_.2.2 y161) ∧ (Kd.V k62 62 w' w.heap.size (fun k_ => ((P0_5_ k_ ∨ P1_5_ k_) ∨ w.heap.size ≤ k_) ∧ some k_ ≠ (s_.2.2 : Value).ownBlock ∧ k_ ≠ gb150 ∧ k_ ≠ gb151 ∧ k_ ≠ gb152) (.slice A0_5 l0_5.length c0_5) l0_5) ∧ (Kd.V k62 62 w' w.heap.size (fun k_ => ((P0_5_ k_ ∨ P1_5_ k_) ∨ w.heap.size ≤ k_) ∧ some k_ ≠ (s_.2.2 : Value).ownBlock ∧ k_ ≠ gb150 ∧ k_ ≠ gb151 ∧ k_ ≠ gb152) (.slice A1_5 l1_5.length c1_5) l1_5) ∧ (w'.heap[gb150]? = some (.cells #[.bool a0_0, .bool a0_1, .int .i64 a0_2, .int .i64 a0_3, .int .i64 a0_4, .slice A0_5 l0_5.length c0_5] 28 (0, 0))) ∧ (w'.heap[gb151]? = some (.cells #[.bool a1_0, .bool a1_1, .int .i64 a1_2, .int .i64 a1_3, .int .i64 a1_4, .slice A1_5 l1_5.length c1_5] 28 (0, 0))) ∧ (w'.heap[gb152]? = some (.cells #[.bool false, .bool false, .int .i64 0, .int .i64 0, .int .i64 0, .slice none 0 0] 28 (0, 0))) ∧ (Below w.heap.size w w')) ?_ ?_
          rotate_left
          ·intro hJ2_5_8
           refine join_ (σ := Value × Value × Nat) 3 #[true, true, true, true, true, true, true, true, false, false, true, false] (fun s_ => [(35, s_.1), (38, s_.2.1), (6, .pointer (some ⟨s_.2.2, 0, none⟩))]) (fun s_ w' => (w'.cell? ⟨gb150, 0, none⟩ = some (.bool a0_0) ∧ w'.cell? ⟨gb150, 1, none⟩ = some (.bool a0_1) ∧ w'.cell? ⟨gb150, 2, none⟩ = some (.int .i64 a0_2) ∧ w'.cell? ⟨gb150, 3, none⟩ = some (.int .i64 a0_3) ∧ w'.cell? ⟨gb150, 4, none⟩ = some (.int .i64 a0_4) ∧ w'.cell? ⟨gb150, 5, none⟩ = some (.slice A0_5 l0_5.length c0_5) ∧ w'.cell? ⟨gb151, 0, none⟩ = some (.bool a1_0) ∧ w'.cell? ⟨gb151, 1, none⟩ = some (.bool a1_1) ∧ w'.cell? ⟨gb151, 2, none⟩ = some (.int .i64 a1_2) ∧ w'.cell? ⟨gb151, 3, none⟩ = some (.int .i64 a1_3) ∧ w'.cell? ⟨gb151, 4, none⟩ = some (.int .i64 a1_4) ∧ w'.cell? ⟨gb151, 5, none⟩ = some (.slice A1_5 l1_5.length c1_5)) ∧ (Kd.N k62 62 w' w.heap.size (fun k_ => ((P0_5_ k_ ∨ P1_5_ k_) ∨ w.heap.size ≤ k_) ∧ k_ ≠ gb150 ∧ k_ ≠ gb151 ∧ k_ ≠ gb152 ∧ k_ ≠ s_.2.2) s_.2.1 y158) ∧ (Kd.V k62 62 w' w.heap.size (fun k_ => ((P0_5_ k_ ∨ P1_5_ k_) ∨ w.heap.size ≤ k_) ∧ some k_ ≠ (s_.2.1 : Value).ownBlock ∧ k_ ≠ gb150 ∧ k_ ≠ gb151 ∧ k_ ≠ gb152 ∧ k_ ≠ s_.2.2) (.slice A0_5 l0_5.length c0_5) l0_5) ∧ (Kd.V k62 62 w' w.heap.size (fun k_ => ((P0_5_ k_ ∨ P1_5_ k_) ∨ w.heap.size ≤ k_) ∧ some k_ ≠ (s_.2.1 : Value).ownBlock ∧ k_ ≠ gb150 ∧ k_ ≠ gb151 ∧ k_ ≠ gb152 ∧ k_ ≠ s_.2.2) (.slice A1_5 l1_5.length c1_5) l1_5) ∧ (w'.heap[gb150]? = some (.cells #[.bool a0_0, .bool a0_1, .int .i64 a0_2, .int .i64 a0_3, .int .i64 a0_4, .slice A0_5 l0_5.length c0_5] 28 (0, 0))) ∧ (w'.heap[gb151]? = some (.cells #[.bool a1_0, .bool a1_1, .int .i64 a1_2, .int .i64 a1_3, .int .i64 a1_4, .slice A1_5 l1_5.length c1_5] 28 (0, 0))) ∧ (w'.heap[gb152]? = some (.cells #[.bool false, .bool false, .int .i64 0, .int .i64 0, .int .i64 0, .slice none 0 0] 28 (0, 0))) ∧ (w'.heap[s_.2.2]? = some (.cells #[.bool false, .bool false, .int .i64 0, .int .i64 0, .int .i64 0, .slice none 0 0] 28 (0, 0))) ∧ (w.heap.size ≤ s_.2.2) ∧ (w.heap.size ≤ s_.2.2) ∧ (gb150 ≠ s_.2.2) ∧ (s_.2.2 ≠ gb150) ∧ (gb151 ≠ s_.2.2) ∧ (s_.2.2 ≠ gb151) ∧ (gb152 ≠ s_.2.2) ∧ (s_.2.2 ≠ gb152) ∧ (Below w.heap.size w w')) ?_ ?_
           rotate_left
           ·intro hJ2_5_10
            refine join_ (σ := Value × Value) 4 #[true, true, true, true, true, true, true, true, false, false, false, false] (fun s_ => [(35, s_.1), (38, s_.2)]) (fun s_ w' => (w'.cell? ⟨gb150, 0, none⟩ = some (.bool a0_0) ∧ w'.cell? ⟨gb150, 1, none⟩ = some (.bool a0_1) ∧ w'.cell? ⟨gb150, 2, none⟩ = some (.int .i64 a0_2) ∧ w'.cell? ⟨gb150, 3, none⟩ = some (.int .i64 a0_3) ∧ w'.cell? ⟨gb150, 4, none⟩ = some (.int .i64 a0_4) ∧ w'.cell? ⟨gb150, 5, none⟩ = some (.slice A0_5 l0_5.length c0_5) ∧ w'.cell? ⟨gb151, 0, none⟩ = some (.bool a1_0) ∧ w'.cell? ⟨gb151, 1, none⟩ = some (.bool a1_1) ∧ w'.cell? ⟨gb151, 2, none⟩ = some (.int .i64 a1_2) ∧ w'.cell? ⟨gb151, 3, none⟩ = some (.int .i64 a1_3) ∧ w'.cell? ⟨gb151, 4, none⟩ = some (.int .i64 a1_4) ∧ w'.cell? ⟨gb151, 5, none⟩ = some (.slice A1_5 l1_5.length c1_5)) ∧ (Kd.N k62 62 w' w.heap.size (fun k_ => ((P0_5_ k_ ∨ P1_5_ k_) ∨ w.heap.size ≤ k_) ∧ k_ ≠ gb150 ∧ k_ ≠ gb151 ∧ k_ ≠ gb152) s_.2 y158) ∧ (Kd.V k62 62 w' w.heap.size (fun k_ => ((P0_5_ k_ ∨ P1_5_ k_) ∨ w.heap.size ≤ k_) ∧ some k_ ≠ (s_.2 : Value).ownBlock ∧ k_ ≠ gb150 ∧ k_ ≠ gb151 ∧ k_ ≠ gb152) (.slice A0_5 l0_5.length c0_5) l0_5) ∧ (Kd.V k62 62 w' w.heap.size (fun k_ => ((P0_5_ k_ ∨ P1_5_ k_) ∨ w.heap.size ≤ k_) ∧ some k_ ≠ (s_.2 : Value).ownBlock ∧ k_ ≠ gb150 ∧ k_ ≠ gb151 ∧ k_ ≠ gb152) (.slice A1_5 l1_5.length c1_5) l1_5) ∧ (w'.heap[gb150]? = some (.cells #[.bool a0_0, .bool a0_1, .int .i64 a0_2, .int .i64 a0_3, .int .i64 a0_4, .slice A0_5 l0_5.length c0_5] 28 (0, 0))) ∧ (w'.heap[gb151]? = some (.cells #[.bool a1_0, .bool a1_1, .int .i64 a1_2, .int .i64 a1_3, .int .i64 a1_4, .slice A1_5 l1_5.length c1_5] 28 (0, 0))) ∧ (w'.heap[gb152]? = some (.cells #[.bool false, .bool false, .int .i64 0, .int .i64 0, .int .i64 0, .slice none 0 0] 28 (0, 0))) ∧ (Below w.heap.size w w')) ?_ ?_
            rotate_left
            ·intro hJ2_5
             refine join_ (σ := Value × Nat) 4 #[true, true, true, true, true, false, true, true, false, false, true, false] (fun s_ => [(35, s_.1), (6, .pointer (some ⟨s_.2, 0, none⟩))]) (fun s_ w' => (w'.cell? ⟨gb150, 0, none⟩ = some (.bool a0_0) ∧ w'.cell? ⟨gb150, 1, none⟩ = some (.bool a0_1) ∧ w'.cell? ⟨gb150, 2, none⟩ = some (.int .i64 a0_2) ∧ w'.cell? ⟨gb150, 3, none⟩ = some (.int .i64 a0_3) ∧ w'.cell? ⟨gb150, 4, none⟩ = some (.int .i64 a0_4) ∧ w'.cell? ⟨gb150, 5, none⟩ = some (.slice A0_5 l0_5.length c0_5) ∧ w'.cell? ⟨gb151, 0, none⟩ = some (.bool a1_0) ∧ w'.cell? ⟨gb151, 1, none⟩ = some (.bool a1_1) ∧ w'.cell? ⟨gb151, 2, none⟩ = some (.int .i64 a1_2) ∧ w'.cell? ⟨gb151, 3, none⟩ = some (.int .i64 a1_3) ∧ w'.cell? ⟨gb151, 4, none⟩ = some (.int .i64 a1_4) ∧ w'.cell? ⟨gb151, 5, none⟩ = some (.slice A1_5 l1_5.length c1_5)) ∧ (Kd.N k62 62 w' w.heap.size (fun k_ => ((P0_5_ k_ ∨ P1_5_ k_) ∨ w.heap.size ≤ k_) ∧ k_ ≠ gb150 ∧ k_ ≠ gb151 ∧ k_ ≠ gb152 ∧ k_ ≠ s_.2) s_.1 y155) ∧ (Kd.V k62 62 w' w.heap.size (fun k_ => ((P0_5_ k_ ∨ P1_5_ k_) ∨ w.heap.size ≤ k_) ∧ some k_ ≠ (s_.1 : Value).ownBlock ∧ k_ ≠ gb150 ∧ k_ ≠ gb151 ∧ k_ ≠ gb152 ∧ k_ ≠ s_.2) (.slice A0_5 l0_5.length c0_5) l0_5) ∧ (Kd.V k62 62 w' w.heap.size (fun k_ => ((P0_5_ k_ ∨ P1_5_ k_) ∨ w.heap.size ≤ k_) ∧ some k_ ≠ (s_.1 : Value).ownBlock ∧ k_ ≠ gb150 ∧ k_ ≠ gb151 ∧ k_ ≠ gb152 ∧ k_ ≠ s_.2) (.slice A1_5 l1_5.length c1_5) l1_5) ∧ (w'.heap[gb150]? = some (.cells #[.bool a0_0, .bool a0_1, .int .i64 a0_2, .int .i64 a0_3, .int .i64 a0_4, .slice A0_5 l0_5.length c0_5] 28 (0, 0))) ∧ (w'.heap[gb151]? = some (.cells #[.bool a1_0, .bool a1_1, .int .i64 a1_2, .int .i64 a1_3, .int .i64 a1_4, .slice A1_5 l1_5.length c1_5] 28 (0, 0))) ∧ (w'.heap[gb152]? = some (.cells #[.bool false, .bool false, .int .i64 0, .int .i64 0, .int .i64 0, .slice none 0 0] 28 (0, 0))) ∧ (w'.heap[s_.2]? = some (.cells #[.bool false, .bool false, .int .i64 0, .int .i64 0, .int .i64 0, .slice none 0 0] 28 (0, 0))) ∧ (w.heap.size ≤ s_.2) ∧ (w.heap.size ≤ s_.2) ∧ (gb150 ≠ s_.2) ∧ (s_.2 ≠ gb150) ∧ (gb151 ≠ s_.2) ∧ (s_.2 ≠ gb151) ∧ (gb152 ≠ s_.2) ∧ (s_.2 ≠ gb152) ∧ (Below w.heap.size w w')) ?_ ?_
             rotate_left
             ·intro hJ2_10
              refine join_ (σ := Value) 5 #[true, true, true, true, true, false, true, true, false, false, false, false] (fun s_ => [(35, s_)]) (fun s_ w' => (w'.cell? ⟨gb150, 0, none⟩ = some (.bool a0_0) ∧ w'.cell? ⟨gb150, 1, none⟩ = some (.bool a0_1) ∧ w'.cell? ⟨gb150, 2, none⟩ = some (.int .i64 a0_2) ∧ w'.cell? ⟨gb150, 3, none⟩ = some (.int .i64 a0_3) ∧ w'.cell? ⟨gb150, 4, none⟩ = some (.int .i64 a0_4) ∧ w'.cell? ⟨gb150, 5, none⟩ = some (.slice A0_5 l0_5.length c0_5) ∧ w'.cell? ⟨gb151, 0, none⟩ = some (.bool a1_0) ∧ w'.cell? ⟨gb151, 1, none⟩ = some (.bool a1_1) ∧ w'.cell? ⟨gb151, 2, none⟩ = some (.int .i64 a1_2) ∧ w'.cell? ⟨gb151, 3, none⟩ = some (.int .i64 a1_3) ∧ w'.cell? ⟨gb151, 4, none⟩ = some (.int .i64 a1_4) ∧ w'.cell? ⟨gb151, 5, none⟩ = some (.slice A1_5 l1_5.length c1_5)) ∧ (Kd.N k62 62 w' w.heap.size (fun k_ => ((P0_5_ k_ ∨ P1_5_ k_) ∨ w.heap.size ≤ k_) ∧ k_ ≠ gb150 ∧ k_ ≠ gb151 ∧ k_ ≠ gb152) s_ y155) ∧ (Kd.V k62 62 w' w.heap.size (fun k_ => ((P0_5_ k_ ∨ P1_5_ k_) ∨ w.heap.size ≤ k_) ∧ some k_ ≠ (s_ : Value).ownBlock ∧ k_ ≠ gb150 ∧ k_ ≠ gb151 ∧ k_ ≠ gb152) (.slice A0_5 l0_5.length c0_5) l0_5) ∧ (Kd.V k62 62 w' w.heap.size (fun k_ => ((P0_5_ k_ ∨ P1_5_ k_) ∨ w.heap.size ≤ k_) ∧ some k_ ≠ (s_ : Value).ownBlock ∧ k_ ≠ gb150 ∧ k_ ≠ gb151 ∧ k_ ≠ gb152) (.slice A1_5 l1_5.length c1_5) l1_5) ∧ (w'.heap[gb150]? = some (.cells #[.bool a0_0, .bool a0_1, .int .i64 a0_2, .int .i64 a0_3, .int .i64 a0_4, .slice A0_5 l0_5.length c0_5] 28 (0, 0))) ∧ (w'.heap[gb151]? = some (.cells #[.bool a1_0, .bool a1_1, .int .i64 a1_2, .int .i64 a1_3, .int .i64 a1_4, .slice A1_5 l1_5.length c1_5] 28 (0, 0))) ∧ (w'.heap[gb152]? = some (.cells #[.bool false, .bool false, .int .i64 0, .int .i64 0, .int .i64 0, .slice none 0 0] 28 (0, 0))) ∧ (Below w.heap.size w w')) ?_ ?_
              rotate_left
              ·intro hJ2
               refine join_ (σ := Nat) 5 #[true, true, false, true, true, false, true, true, false, false, true, false] (fun s_ => [(6, .pointer (some ⟨s_, 0, none⟩))]) (fun s_ w' => (w'.cell? ⟨gb150, 0, none⟩ = some (.bool a0_0) ∧ w'.cell? ⟨gb150, 1, none⟩ = some (.bool a0_1) ∧ w'.cell? ⟨gb150, 2, none⟩ = some (.int .i64 a0_2) ∧ w'.cell? ⟨gb150, 3, none⟩ = some (.int .i64 a0_3) ∧ w'.cell? ⟨gb150, 4, none⟩ = some (.int .i64 a0_4) ∧ w'.cell? ⟨gb150, 5, none⟩ = some (.slice A0_5 l0_5.length c0_5) ∧ w'.cell? ⟨gb151, 0, none⟩ = some (.bool a1_0) ∧ w'.cell? ⟨gb151, 1, none⟩ = some (.bool a1_1) ∧ w'.cell? ⟨gb151, 2, none⟩ = some (.int .i64 a1_2) ∧ w'.cell? ⟨gb151, 3, none⟩ = some (.int .i64 a1_3) ∧ w'.cell? ⟨gb151, 4, none⟩ = some (.int .i64 a1_4) ∧ w'.cell? ⟨gb151, 5, none⟩ = some (.slice A1_5 l1_5.length c1_5)) ∧ (Kd.V k62 62 w' w.heap.size (fun k_ => ((P0_5_ k_ ∨ P1_5_ k_) ∨ w.heap.size ≤ k_) ∧ k_ ≠ gb150 ∧ k_ ≠ gb151 ∧ k_ ≠ gb152 ∧ k_ ≠ s_) (.slice A0_5 l0_5.length c0_5) l0_5) ∧ (Kd.V k62 62 w' w.heap.size (fun k_ => ((P0_5_ k_ ∨ P1_5_ k_) ∨ w.heap.size ≤ k_) ∧ k_ ≠ gb150 ∧ k_ ≠ gb151 ∧ k_ ≠ gb152 ∧ k_ ≠ s_) (.slice A1_5 l1_5.length c1_5) l1_5) ∧ (w'.heap[gb150]? = some (.cells #[.bool a0_0, .bool a0_1, .int .i64 a0_2, .int .i64 a0_3, .int .i64 a0_4, .slice A0_5 l0_5.length c0_5] 28 (0, 0))) ∧ (w'.heap[gb151]? = some (.cells #[.bool a1_0, .bool a1_1, .int .i64 a1_2, .int .i64 a1_3, .int .i64 a1_4, .slice A1_5 l1_5.length c1_5] 28 (0, 0))) ∧ (w'.heap[gb152]? = some (.cells #[.bool false, .bool false, .int .i64 0, .int .i64 0, .int .i64 0, .slice none 0 0] 28 (0, 0))) ∧ (w'.heap[s_]? = some (.cells #[.bool false, .bool false, .int .i64 0, .int .i64 0, .int .i64 0, .slice none 0 0] 28 (0, 0))) ∧ (w.heap.size ≤ s_) ∧ (w.heap.size ≤ s_) ∧ (gb150 ≠ s_) ∧ (s_ ≠ gb150) ∧ (gb151 ≠ s_) ∧ (s_ ≠ gb151) ∧ (gb152 ≠ s_) ∧ (s_ ≠ gb152) ∧ (Below w.heap.size w w')) ?_ ?_
               rotate_left
               ·intro hJ10
                refine two_ (i := 2) (j := 10) (Ni := some 35) (Nj := some 6) #[true, true, true, true, true, false, true, true, false, false, false, false] #[true, true, false, true, true, false, true, true, false, false, true, false] rfl rfl rfl rfl (two_of HT_.out (by kernel_rfl)) (by decide) (by decide) (fun K hK => ?_) (fun K hK => ?_)
                ·skip
                 refine Kd.N_lit_step k62 _ 62 ?hg (N' := 35) ?hd (xs := ([] : List (S62))) (inner := []) (ok := (fun k_ => ((P0_5_ k_ ∨ P1_5_ k_) ∨ w.heap.size ≤ k_) ∧ k_ ≠ gb150 ∧ k_ ≠ gb151 ∧ k_ ≠ gb152)) (okp := (fun k_ => ((P0_5_ k_ ∨ P1_5_ k_) ∨ w.heap.size ≤ k_) ∧ k_ ≠ gb150 ∧ k_ ≠ gb151 ∧ k_ ≠ gb152)) ?hr ?hp (fun _ hk => hk) ((show ∀ k_, w84.heap.size ≤ k_ → (fun k_ => ((P0_5_ k_ ∨ P1_5_ k_) ∨ w.heap.size ≤ k_) ∧ k_ ≠ gb150 ∧ k_ ≠ gb151 ∧ k_ ≠ gb152) k_ from fun k_ hk => ⟨(.inr (Nat.le_trans (below_size zb) hk)), tfB BK150 k_ hk, tfB BK151 k_ hk, tfB BK152 k_ hk⟩) _ (Nat.le_refl _)) (Below.refl _ _) (Nat.le_refl _) (by simp) ?_; (case hd => rfl); (case hg => rfl); (case hr => first | (go_simp; done) | (go_simp; rfl)); (case hp => exact (Reps.none _ _))
                 intro v156 w85 ho86 hb hg_ hnew_
                 clear hg_ hnew_
                 (first | rw [← Ny155.out] at ho86 | (simp only [Int.reduceToNat] at ho86; rw [← Ny155.out] at ho86))
                 replace HO_151005 := tVe HO_151005 ho86 hb
                 replace HO_152005 := tVe HO_152005 ho86 hb
                 have HO157 := tNl ho86 HB
                 replace BK150 := tBb BK150 hb
                 replace BK151 := tBb BK151 hb
                 replace BK152 := tBb BK152 hb
                 replace HB := tBs HB hb
                 clear hb ho86
                 refine hK.out _ _ ⟨(blk_cell BK150.out 0).trans rfl, (blk_cell BK150.out 1).trans rfl, (blk_cell BK150.out 2).trans rfl, (blk_cell BK150.out 3).trans rfl, (blk_cell BK150.out 4).trans rfl, (blk_cell BK150.out 5).trans rfl, (blk_cell BK151.out 0).trans rfl, (blk_cell BK151.out 1).trans rfl, (blk_cell BK151.out 2).trans rfl, (blk_cell BK151.out 3).trans rfl, (blk_cell BK151.out 4).trans rfl, (blk_cell BK151.out 5).trans rfl⟩ (fun hHeld => ?_)
                 clear hK K
                 refine tnm (some 35) ?_
                 exact tnx (hJ2 (v156) _ ⟨hHeld, (tN HO157.out), (tVm HO_151005.out), (tVm HO_152005.out), (tH BK150.out), (tH BK151.out), (tH BK152.out), zb⟩)
                ·skip
                 refine box_step ?hg (N := 6) ?hd (cs := #[.bool false, .bool false, .int .i64 0, .int .i64 0, .int .i64 0, .slice none 0 0]) (t := 28) ?hr ?_; (case hd => rfl); (case hg => rfl); (case hr => first | (go_simp; done) | (go_simp; rfl))
                 intro gb172 hg w85 hbox hb
                 replace HO_151005 := tVB HO_151005 hg hb
                 replace HO_152005 := tVB HO_152005 hg hb
                 have BK172 := Aside0.mk (hbox)
                 have GW172 := tge HB hg
                 have GE172 := tge HB hg
                 replace HB := tBs HB hb
                 have NB150_172 := tlt BK150 hg
                 have NB172_150 := tgt BK150 hg
                 replace BK150 := tBb BK150 hb
                 have NB151_172 := tlt BK151 hg
                 have NB172_151 := tgt BK151 hg
                 replace BK151 := tBb BK151 hb
                 have NB152_172 := tlt BK152 hg
                 have NB172_152 := tgt BK152 hg
                 replace BK152 := tBb BK152 hb
                 clear hb hbox hg
                 refine hK.out _ _ ⟨(blk_cell BK150.out 0).trans rfl, (blk_cell BK150.out 1).trans rfl, (blk_cell BK150.out 2).trans rfl, (blk_cell BK150.out 3).trans rfl, (blk_cell BK150.out 4).trans rfl, (blk_cell BK150.out 5).trans rfl, (blk_cell BK151.out 0).trans rfl, (blk_cell BK151.out 1).trans rfl, (blk_cell BK151.out 2).trans rfl, (blk_cell BK151.out 3).trans rfl, (blk_cell BK151.out 4).trans rfl, (blk_cell BK151.out 5).trans rfl⟩ (fun hHeld => ?_)
                 clear hK K
                 refine tnm (some 6) ?_
                 exact tnx (hJ10 (gb172) _ ⟨hHeld, (tVm HO_151005.out), (tVm HO_152005.out), (tH BK150.out), (tH BK151.out), (tH BK152.out), (tH BK172.out), GW172.out, GE172.out, NB150_172.out, NB172_150.out, NB151_172.out, NB172_151.out, NB152_172.out, NB172_152.out, zb⟩)
               ·skip
                rintro gb172 w86 ⟨hS_, h0_, h1_, h2_, h3_, h4_, h5_, h6_, h7_, h8_, h9_, h10_, h11_, h12_, h13_, h14_⟩
                try dsimp only at hS_ h0_ h1_ h2_ h3_ h4_ h5_ h6_ h7_ h8_ h9_ h10_ h11_ h12_ h13_ h14_
                clear HO_151005 HO_152005 BK150 BK151 BK152 HB
                have HO_151005 := Aside0.mk h0_
                have HO_152005 := Aside0.mk h1_
                have BK150 := Aside0.mk h2_
                have BK151 := Aside0.mk h3_
                have BK152 := Aside0.mk h4_
                have BK172 := Aside0.mk h5_
                have GW172 := Aside0.mk h6_
                have GE172 := Aside0.mk h7_
                have NB150_172 := Aside0.mk h8_
                have NB172_150 := Aside0.mk h9_
                have NB151_172 := Aside0.mk h10_
                have NB172_151 := Aside0.mk h11_
                have NB152_172 := Aside0.mk h12_
                have NB172_152 := Aside0.mk h13_
                have HB := Aside0.mk h14_
                clear h0_ h1_ h2_ h3_ h4_ h5_ h6_ h7_ h8_ h9_ h10_ h11_ h12_ h13_ h14_
                have hHeld := hS_
                refine tnp ?_
                refine one_ (i := 2) (N := some 35) #[true, true, true, true, true, false, true, true, false, false, true, false] rfl rfl (one_of HT_.out (by kernel_rfl)) (by decide) (fun K hK => ?_)
                refine Kd.N_lit_step k62 _ 62 ?hg (N' := 35) ?hd (xs := ([] : List (S62))) (inner := []) (ok := (fun k_ => ((P0_5_ k_ ∨ P1_5_ k_) ∨ w.heap.size ≤ k_) ∧ k_ ≠ gb150 ∧ k_ ≠ gb151 ∧ k_ ≠ gb152 ∧ k_ ≠ gb172)) (okp := (fun k_ => ((P0_5_ k_ ∨ P1_5_ k_) ∨ w.heap.size ≤ k_) ∧ k_ ≠ gb150 ∧ k_ ≠ gb151 ∧ k_ ≠ gb152 ∧ k_ ≠ gb172)) ?hr ?hp (fun _ hk => hk) ((show ∀ k_, w86.heap.size ≤ k_ → (fun k_ => ((P0_5_ k_ ∨ P1_5_ k_) ∨ w.heap.size ≤ k_) ∧ k_ ≠ gb150 ∧ k_ ≠ gb151 ∧ k_ ≠ gb152 ∧ k_ ≠ gb172) k_ from fun k_ hk => ⟨(.inr (Nat.le_trans (below_size zb) hk)), tfB BK150 k_ hk, tfB BK151 k_ hk, tfB BK152 k_ hk, tfB BK172 k_ hk⟩) _ (Nat.le_refl _)) (Below.refl _ _) (Nat.le_refl _) (by simp) ?_; (case hd => rfl); (case hg => rfl); (case hr => first | (go_simp; done) | (go_simp; rfl)); (case hp => exact (Reps.none _ _))
                intro v156 w87 ho88 hb hg_ hnew_
                clear hg_ hnew_
                (first | rw [← Ny155.out] at ho88 | (simp only [Int.reduceToNat] at ho88; rw [← Ny155.out] at ho88))
                replace HO_151005 := tVe HO_151005 ho88 hb
                replace HO_152005 := tVe HO_152005 ho88 hb
                have HO157 := tNl ho88 HB
                replace BK150 := tBb BK150 hb
                replace BK151 := tBb BK151 hb
                replace BK152 := tBb BK152 hb
                replace BK172 := tBb BK172 hb
                replace HB := tBs HB hb
                clear hb ho88
                refine hK.out _ _ ⟨(blk_cell BK150.out 0).trans rfl, (blk_cell BK150.out 1).trans rfl, (blk_cell BK150.out 2).trans rfl, (blk_cell BK150.out 3).trans rfl, (blk_cell BK150.out 4).trans rfl, (blk_cell BK150.out 5).trans rfl, (blk_cell BK151.out 0).trans rfl, (blk_cell BK151.out 1).trans rfl, (blk_cell BK151.out 2).trans rfl, (blk_cell BK151.out 3).trans rfl, (blk_cell BK151.out 4).trans rfl, (blk_cell BK151.out 5).trans rfl⟩ (fun hHeld => ?_)
                clear hK K
                refine tnm (some 35) ?_
                exact tnx (hJ2_10 (v156, gb172) _ ⟨hHeld, (tN HO157.out), (tVm HO_151005.out), (tVm HO_152005.out), (tH BK150.out), (tH BK151.out), (tH BK152.out), (tH BK172.out), GW172.out, GE172.out, NB150_172.out, NB172_150.out, NB151_172.out, NB172_151.out, NB152_172.out, NB172_152.out, zb⟩)
              ·skip
               rintro v156 w87 ⟨hS_, h0_, h1_, h2_, h3_, h4_, h5_, h6_⟩
               try dsimp only at hS_ h0_ h1_ h2_ h3_ h4_ h5_ h6_
               clear HO_151005 HO_152005 BK150 BK151 BK152 HB
               have HO157 := Aside0.mk h0_
               have HO_151005 := Aside0.mk h1_
               have HO_152005 := Aside0.mk h2_
               have BK150 := Aside0.mk h3_
               have BK151 := Aside0.mk h4_
               have BK152 := Aside0.mk h5_
               have HB := Aside0.mk h6_
               clear h0_ h1_ h2_ h3_ h4_ h5_ h6_
               have hHeld := hS_
               refine tnp ?_
               refine two_ (i := 5) (j := 10) (Ni := some 38) (Nj := some 6) #[true, true, true, true, true, true, true, true, false, false, false, false] #[true, true, true, true, true, false, true, true, false, false, true, false] rfl rfl rfl rfl (two_of HT_.out (by kernel_rfl)) (by decide) (by decide) (fun K hK => ?_) (fun K hK => ?_)
               ·skip
                refine Kd.N_append_rows_step k62 (w0 := w) w.heap.size (by rfl) (.tmp 35) (.tmp 37) 26 62 (.agg #[(.int .i64 0), (.int .i64 0), (.bool false), (.slice none 0 0), (.bool false), (.slice none 0 0)]) 80 rfl Tryd.underlying26 info62 rfl (by decide) (by omega) v156 y155 l0_5 _ _ _ (fun k_ => ((P0_5_ k_ ∨ P1_5_ k_) ∨ w.heap.size ≤ k_) ∧ k_ ≠ gb150 ∧ k_ ≠ gb151 ∧ k_ ≠ gb152) (fun k_ => ((fun k_ => ((P0_5_ k_ ∨ P1_5_ k_) ∨ w.heap.size ≤ k_) ∧ k_ ≠ gb150 ∧ k_ ≠ gb151 ∧ k_ ≠ gb152)) k_ ∧ some k_ ≠ (v156 : Value).ownBlock) rfl rfl ?aO ?aR (fun _ hk => hk) ?aF ?aB ?aS ?aL ?_
                (case aR => exact (by skip; exact Kd.V_F (Kd.V_mono (ok' := (fun k_ => ((fun k_ => ((P0_5_ k_ ∨ P1_5_ k_) ∨ w.heap.size ≤ k_) ∧ k_ ≠ gb150 ∧ k_ ≠ gb151 ∧ k_ ≠ gb152)) k_ ∧ some k_ ≠ (v156 : Value).ownBlock)) (HO_151005.out) (fun k_ hk => ⟨⟨hk.1, ⟨hk.2.2.1, ⟨hk.2.2.2.1, hk.2.2.2.2⟩⟩⟩, hk.2.1⟩))))
                (case aB => exact zb)
                (case aF => exact (fun k_ hk => ⟨(.inr (Nat.le_trans (below_size zb) hk)), tfB BK150 k_ hk, tfB BK151 k_ hk, tfB BK152 k_ hk⟩))
                (case aO => exact (tN HO157.out))
                (case aS => exact (below_size zb))
                (case aL => have := LMc54.out; omega)
                intro v159 w88 ho hb hg hat
                rw [← Ny158.out] at ho
                replace HO_151005 := Aside0.mk (Kd.V_afterv (ok := (fun k_ => ((P0_5_ k_ ∨ P1_5_ k_) ∨ w.heap.size ≤ k_) ∧ k_ ≠ gb150 ∧ k_ ≠ gb151 ∧ k_ ≠ gb152)) (tVm HO_151005.out) hg hat)
                replace HO_152005 := Aside0.mk (Kd.V_afterv (ok := (fun k_ => ((P0_5_ k_ ∨ P1_5_ k_) ∨ w.heap.size ≤ k_) ∧ k_ ≠ gb150 ∧ k_ ≠ gb151 ∧ k_ ≠ gb152)) (tVm HO_152005.out) hg hat)
                replace BK150 := Aside0.mk (blk_grown (tH BK150.out) hg (Kd.N_ne HO157.out BK150.out (by decide)))
                replace BK151 := Aside0.mk (blk_grown (tH BK151.out) hg (Kd.N_ne HO157.out BK151.out (by decide)))
                replace BK152 := Aside0.mk (blk_grown (tH BK152.out) hg (Kd.N_ne HO157.out BK152.out (by decide)))
                replace HB := Aside0.mk (hb)
                have HO160 := Aside0.mk (ho)
                clear HO157
                clear ho hb hg hat
                refine hK.out _ _ ⟨(blk_cell BK150.out 0).trans rfl, (blk_cell BK150.out 1).trans rfl, (blk_cell BK150.out 2).trans rfl, (blk_cell BK150.out 3).trans rfl, (blk_cell BK150.out 4).trans rfl, (blk_cell BK150.out 5).trans rfl, (blk_cell BK151.out 0).trans rfl, (blk_cell BK151.out 1).trans rfl, (blk_cell BK151.out 2).trans rfl, (blk_cell BK151.out 3).trans rfl, (blk_cell BK151.out 4).trans rfl, (blk_cell BK151.out 5).trans rfl⟩ (fun hHeld => ?_)
                clear hK K
                refine tnm (some 38) ?_
                exact tnx (hJ2_5 (v156, v159) _ ⟨hHeld, (tN HO160.out), (tVm HO_151005.out), (tVm HO_152005.out), (tH BK150.out), (tH BK151.out), (tH BK152.out), zb⟩)
               ·skip
                refine box_step ?hg (N := 6) ?hd (cs := #[.bool false, .bool false, .int .i64 0, .int .i64 0, .int .i64 0, .slice none 0 0]) (t := 28) ?hr ?_; (case hd => rfl); (case hg => rfl); (case hr => first | (go_simp; done) | (go_simp; rfl))
                intro gb172 hg w88 hbox hb
                replace HO_151005 := tVB HO_151005 hg hb
                replace HO_152005 := tVB HO_152005 hg hb
                replace HO157 := tNB HO157 hg hb
                have BK172 := Aside0.mk (hbox)
                have GW172 := tge HB hg
                have GE172 := tge HB hg
                replace HB := tBs HB hb
                have NB150_172 := tlt BK150 hg
                have NB172_150 := tgt BK150 hg
                replace BK150 := tBb BK150 hb
                have NB151_172 := tlt BK151 hg
                have NB172_151 := tgt BK151 hg
                replace BK151 := tBb BK151 hb
                have NB152_172 := tlt BK152 hg
                have NB172_152 := tgt BK152 hg
                replace BK152 := tBb BK152 hb
                clear hb hbox hg
                refine hK.out _ _ ⟨(blk_cell BK150.out 0).trans rfl, (blk_cell BK150.out 1).trans rfl, (blk_cell BK150.out 2).trans rfl, (blk_cell BK150.out 3).trans rfl, (blk_cell BK150.out 4).trans rfl, (blk_cell BK150.out 5).trans rfl, (blk_cell BK151.out 0).trans rfl, (blk_cell BK151.out 1).trans rfl, (blk_cell BK151.out 2).trans rfl, (blk_cell BK151.out 3).trans rfl, (blk_cell BK151.out 4).trans rfl, (blk_cell BK151.out 5).trans rfl⟩ (fun hHeld => ?_)
                clear hK K
                refine tnm (some 6) ?_
                exact tnx (hJ2_10 (v156, gb172) _ ⟨hHeld, (tNm HO157.out), (tVm HO_151005.out), (tVm HO_152005.out), (tH BK150.out), (tH BK151.out), (tH BK152.out), (tH BK172.out), GW172.out, GE172.out, NB150_172.out, NB172_150.out, NB151_172.out, NB172_151.out, NB152_172.out, NB172_152.out, zb⟩)
             ·skip
              rintro ⟨v156, gb172⟩ w88 ⟨hS_, h0_, h1_, h2_, h3_, h4_, h5_, h6_, h7_, h8_, h9_, h10_, h11_, h12_, h13_, h14_, h15_⟩
              try dsimp only at hS_ h0_ h1_ h2_ h3_ h4_ h5_ h6_ h7_ h8_ h9_ h10_ h11_ h12_ h13_ h14_ h15_
              clear HO_151005 HO_152005 BK150 BK151 BK152 HB
              have HO157 := Aside0.mk h0_
              have HO_151005 := Aside0.mk h1_
              have HO_152005 := Aside0.mk h2_
              have BK150 := Aside0.mk h3_
              have BK151 := Aside0.mk h4_
              have BK152 := Aside0.mk h5_
              have BK172 := Aside0.mk h6_
              have GW172 := Aside0.mk h7_
              have GE172 := Aside0.mk h8_
              have NB150_172 := Aside0.mk h9_
              have NB172_150 := Aside0.mk h10_
              have NB151_172 := Aside0.mk h11_
              have NB172_151 := Aside0.mk h12_
              have NB152_172 := Aside0.mk h13_
              have NB172_152 := Aside0.mk h14_
              have HB := Aside0.mk h15_
              clear h0_ h1_ h2_ h3_ h4_ h5_ h6_ h7_ h8_ h9_ h10_ h11_ h12_ h13_ h14_ h15_
              have hHeld := hS_
              refine tnp ?_
              refine one_ (i := 5) (N := some 38) #[true, true, true, true, true, true, true, true, false, false, true, false] rfl rfl (one_of HT_.out (by kernel_rfl)) (by decide) (fun K hK => ?_)
              refine Kd.N_append_rows_step k62 (w0 := w) w.heap.size (by rfl) (.tmp 35) (.tmp 37) 26 62 (.agg #[(.int .i64 0), (.int .i64 0), (.bool false), (.slice none 0 0), (.bool false), (.slice none 0 0)]) 80 rfl Tryd.underlying26 info62 rfl (by decide) (by omega) v156 y155 l0_5 _ _ _ (fun k_ => ((P0_5_ k_ ∨ P1_5_ k_) ∨ w.heap.size ≤ k_) ∧ k_ ≠ gb150 ∧ k_ ≠ gb151 ∧ k_ ≠ gb152 ∧ k_ ≠ gb172) (fun k_ => ((fun k_ => ((P0_5_ k_ ∨ P1_5_ k_) ∨ w.heap.size ≤ k_) ∧ k_ ≠ gb150 ∧ k_ ≠ gb151 ∧ k_ ≠ gb152 ∧ k_ ≠ gb172)) k_ ∧ some k_ ≠ (v156 : Value).ownBlock) rfl rfl ?aO ?aR (fun _ hk => hk) ?aF ?aB ?aS ?aL ?_
              (case aR => exact (by skip; exact Kd.V_F (Kd.V_mono (ok' := (fun k_ => ((fun k_ => ((P0_5_ k_ ∨ P1_5_ k_) ∨ w.heap.size ≤ k_) ∧ k_ ≠ gb150 ∧ k_ ≠ gb151 ∧ k_ ≠ gb152 ∧ k_ ≠ gb172)) k_ ∧ some k_ ≠ (v156 : Value).ownBlock)) (HO_151005.out) (fun k_ hk => ⟨⟨hk.1, ⟨hk.2.2.1, ⟨hk.2.2.2.1, ⟨hk.2.2.2.2.1, hk.2.2.2.2.2⟩⟩⟩⟩, hk.2.1⟩))))
              (case aB => exact zb)
              (case aF => exact (fun k_ hk => ⟨(.inr (Nat.le_trans (below_size zb) hk)), tfB BK150 k_ hk, tfB BK151 k_ hk, tfB BK152 k_ hk, tfB BK172 k_ hk⟩))
              (case aO => exact (tN HO157.out))
              (case aS => exact (below_size zb))
              (case aL => have := LMc54.out; omega)
              intro v159 w89 ho hb hg hat
              rw [← Ny158.out] at ho
              replace HO_151005 := Aside0.mk (Kd.V_afterv (ok := (fun k_ => ((P0_5_ k_ ∨ P1_5_ k_) ∨ w.heap.size ≤ k_) ∧ k_ ≠ gb150 ∧ k_ ≠ gb151 ∧ k_ ≠ gb152 ∧ k_ ≠ gb172)) (tVm HO_151005.out) hg hat)
              replace HO_152005 := Aside0.mk (Kd.V_afterv (ok := (fun k_ => ((P0_5_ k_ ∨ P1_5_ k_) ∨ w.heap.size ≤ k_) ∧ k_ ≠ gb150 ∧ k_ ≠ gb151 ∧ k_ ≠ gb152 ∧ k_ ≠ gb172)) (tVm HO_152005.out) hg hat)
              replace BK150 := Aside0.mk (blk_grown (tH BK150.out) hg (Kd.N_ne HO157.out BK150.out (by decide)))
              replace BK151 := Aside0.mk (blk_grown (tH BK151.out) hg (Kd.N_ne HO157.out BK151.out (by decide)))
              replace BK152 := Aside0.mk (blk_grown (tH BK152.out) hg (Kd.N_ne HO157.out BK152.out (by decide)))
              replace BK172 := Aside0.mk (blk_grown (tH BK172.out) hg (Kd.N_ne HO157.out BK172.out (by decide)))
              replace HB := Aside0.mk (hb)
              have HO160 := Aside0.mk (ho)
              clear HO157
              clear ho hb hg hat
              refine hK.out _ _ ⟨(blk_cell BK150.out 0).trans rfl, (blk_cell BK150.out 1).trans rfl, (blk_cell BK150.out 2).trans rfl, (blk_cell BK150.out 3).trans rfl, (blk_cell BK150.out 4).trans rfl, (blk_cell BK150.out 5).trans rfl, (blk_cell BK151.out 0).trans rfl, (blk_cell BK151.out 1).trans rfl, (blk_cell BK151.out 2).trans rfl, (blk_cell BK151.out 3).trans rfl, (blk_cell BK151.out 4).trans rfl, (blk_cell BK151.out 5).trans rfl⟩ (fun hHeld => ?_)
              clear hK K
              refine tnm (some 38) ?_
              exact tnx (hJ2_5_10 (v156, v159, gb172) _ ⟨hHeld, (tN HO160.out), (tVm HO_151005.out), (tVm HO_152005.out), (tH BK150.out), (tH BK151.out), (tH BK152.out), (tH BK172.out), GW172.out, GE172.out, NB150_172.out, NB172_150.out, NB151_172.out, NB172_151.out, NB152_172.out, NB172_152.out, zb⟩)
            ·skip
             rintro ⟨v156, v159⟩ w88 ⟨hS_, h0_, h1_, h2_, h3_, h4_, h5_, h6_⟩
             try dsimp only at hS_ h0_ h1_ h2_ h3_ h4_ h5_ h6_
             clear HO_151005 HO_152005 BK150 BK151 BK152 HB
             have HO160 := Aside0.mk h0_
             have HO_151005 := Aside0.mk h1_
             have HO_152005 := Aside0.mk h2_
             have BK150 := Aside0.mk h3_
             have BK151 := Aside0.mk h4_
             have BK152 := Aside0.mk h5_
             have HB := Aside0.mk h6_
             clear h0_ h1_ h2_ h3_ h4_ h5_ h6_
             have hHeld := hS_
             refine tnp ?_
             refine two_ (i := 8) (j := 10) (Ni := some 41) (Nj := some 6) #[true, true, true, true, true, true, true, true, true, false, false, false] #[true, true, true, true, true, true, true, true, false, false, true, false] rfl rfl rfl rfl (two_of HT_.out (by kernel_rfl)) (by decide) (by decide) (fun K hK => ?_) (fun K hK => ?_)
             ·skip
              refine Kd.N_append_rows_step k62 (w0 := w) w.heap.size (by rfl) (.tmp 38) (.tmp 40) 26 62 (.agg #[(.int .i64 0), (.int .i64 0), (.bool false), (.slice none 0 0), (.bool false), (.slice none 0 0)]) 80 rfl Tryd.underlying26 info62 rfl (by decide) (by omega) v159 y158 l1_5 _ _ _ (fun k_ => ((P0_5_ k_ ∨ P1_5_ k_) ∨ w.heap.size ≤ k_) ∧ k_ ≠ gb150 ∧ k_ ≠ gb151 ∧ k_ ≠ gb152) (fun k_ => ((fun k_ => ((P0_5_ k_ ∨ P1_5_ k_) ∨ w.heap.size ≤ k_) ∧ k_ ≠ gb150 ∧ k_ ≠ gb151 ∧ k_ ≠ gb152)) k_ ∧ some k_ ≠ (v159 : Value).ownBlock) rfl rfl ?aO ?aR (fun _ hk => hk) ?aF ?aB ?aS ?aL ?_
              (case aR => exact (by skip; exact Kd.V_F (Kd.V_mono (ok' := (fun k_ => ((fun k_ => ((P0_5_ k_ ∨ P1_5_ k_) ∨ w.heap.size ≤ k_) ∧ k_ ≠ gb150 ∧ k_ ≠ gb151 ∧ k_ ≠ gb152)) k_ ∧ some k_ ≠ (v159 : Value).ownBlock)) (HO_152005.out) (fun k_ hk => ⟨⟨hk.1, ⟨hk.2.2.1, ⟨hk.2.2.2.1, hk.2.2.2.2⟩⟩⟩, hk.2.1⟩))))
              (case aB => exact zb)
              (case aF => exact (fun k_ hk => ⟨(.inr (Nat.le_trans (below_size zb) hk)), tfB BK150 k_ hk, tfB BK151 k_ hk, tfB BK152 k_ hk⟩))
              (case aO => exact (tN HO160.out))
              (case aS => exact (below_size zb))
              (case aL => have := LMc55.out; omega)
              intro v162 w89 ho hb hg hat
              rw [← Ny161.out] at ho
              replace HO_151005 := Aside0.mk (Kd.V_afterv (ok := (fun k_ => ((P0_5_ k_ ∨ P1_5_ k_) ∨ w.heap.size ≤ k_) ∧ k_ ≠ gb150 ∧ k_ ≠ gb151 ∧ k_ ≠ gb152)) (tVm HO_151005.out) hg hat)
              replace HO_152005 := Aside0.mk (Kd.V_afterv (ok := (fun k_ => ((P0_5_ k_ ∨ P1_5_ k_) ∨ w.heap.size ≤ k_) ∧ k_ ≠ gb150 ∧ k_ ≠ gb151 ∧ k_ ≠ gb152)) (tVm HO_152005.out) hg hat)
              replace BK150 := Aside0.mk (blk_grown (tH BK150.out) hg (Kd.N_ne HO160.out BK150.out (by decide)))
              replace BK151 := Aside0.mk (blk_grown (tH BK151.out) hg (Kd.N_ne HO160.out BK151.out (by decide)))
              replace BK152 := Aside0.mk (blk_grown (tH BK152.out) hg (Kd.N_ne HO160.out BK152.out (by decide)))
              replace HB := Aside0.mk (hb)
              have HO163 := Aside0.mk (ho)
              clear HO160
              clear ho hb hg hat
              refine hK.out _ _ ⟨(blk_cell BK150.out 0).trans rfl, (blk_cell BK150.out 1).trans rfl, (blk_cell BK150.out 2).trans rfl, (blk_cell BK150.out 3).trans rfl, (blk_cell BK150.out 4).trans rfl, (blk_cell BK150.out 5).trans rfl, (blk_cell BK151.out 0).trans rfl, (blk_cell BK151.out 1).trans rfl, (blk_cell BK151.out 2).trans rfl, (blk_cell BK151.out 3).trans rfl, (blk_cell BK151.out 4).trans rfl, (blk_cell BK151.out 5).trans rfl⟩ (fun hHeld => ?_)
              clear hK K
              refine tnm (some 41) ?_
              exact tnx (hJ2_5_8 (v156, v159, v162) _ ⟨hHeld, (tN HO163.out), (tVm HO_151005.out), (tVm HO_152005.out), (tH BK150.out), (tH BK151.out), (tH BK152.out), zb⟩)
             ·skip
              refine box_step ?hg (N := 6) ?hd (cs := #[.bool false, .bool false, .int .i64 0, .int .i64 0, .int .i64 0, .slice none 0 0]) (t := 28) ?hr ?_; (case hd => rfl); (case hg => rfl); (case hr => first | (go_simp; done) | (go_simp; rfl))
              intro gb172 hg w89 hbox hb
              replace HO_151005 := tVB HO_151005 hg hb
              replace HO_152005 := tVB HO_152005 hg hb
              replace HO160 := tNB HO160 hg hb
              have BK172 := Aside0.mk (hbox)
              have GW172 := tge HB hg
              have GE172 := tge HB hg
              replace HB := tBs HB hb
              have NB150_172 := tlt BK150 hg
              have NB172_150 := tgt BK150 hg
              replace BK150 := tBb BK150 hb
              have NB151_172 := tlt BK151 hg
              have NB172_151 := tgt BK151 hg
              replace BK151 := tBb BK151 hb
              have NB152_172 := tlt BK152 hg
              have NB172_152 := tgt BK152 hg
              replace BK152 := tBb BK152 hb
              clear hb hbox hg
              refine hK.out _ _ ⟨(blk_cell BK150.out 0).trans rfl, (blk_cell BK150.out 1).trans rfl, (blk_cell BK150.out 2).trans rfl, (blk_cell BK150.out 3).trans rfl, (blk_cell BK150.out 4).trans rfl, (blk_cell BK150.out 5).trans rfl, (blk_cell BK151.out 0).trans rfl, (blk_cell BK151.out 1).trans rfl, (blk_cell BK151.out 2).trans rfl, (blk_cell BK151.out 3).trans rfl, (blk_cell BK151.out 4).trans rfl, (blk_cell BK151.out 5).trans rfl⟩ (fun hHeld => ?_)
              clear hK K
              refine tnm (some 6) ?_
              exact tnx (hJ2_5_10 (v156, v159, gb172) _ ⟨hHeld, (tNm HO160.out), (tVm HO_151005.out), (tVm HO_152005.out), (tH BK150.out), (tH BK151.out), (tH BK152.out), (tH BK172.out), GW172.out, GE172.out, NB150_172.out, NB172_150.out, NB151_172.out, NB172_151.out, NB152_172.out, NB172_152.out, zb⟩)
           ·skip
            rintro ⟨v156, v159, gb172⟩ w89 ⟨hS_, h0_, h1_, h2_, h3_, h4_, h5_, h6_, h7_, h8_, h9_, h10_, h11_, h12_, h13_, h14_, h15_⟩
            try dsimp only at hS_ h0_ h1_ h2_ h3_ h4_ h5_ h6_ h7_ h8_ h9_ h10_ h11_ h12_ h13_ h14_ h15_
            clear HO_151005 HO_152005 BK150 BK151 BK152 HB
            have HO160 := Aside0.mk h0_
            have HO_151005 := Aside0.mk h1_
            have HO_152005 := Aside0.mk h2_
            have BK150 := Aside0.mk h3_
            have BK151 := Aside0.mk h4_
            have BK152 := Aside0.mk h5_
            have BK172 := Aside0.mk h6_
            have GW172 := Aside0.mk h7_
            have GE172 := Aside0.mk h8_
            have NB150_172 := Aside0.mk h9_
            have NB172_150 := Aside0.mk h10_
            have NB151_172 := Aside0.mk h11_
            have NB172_151 := Aside0.mk h12_
            have NB152_172 := Aside0.mk h13_
            have NB172_152 := Aside0.mk h14_
            have HB := Aside0.mk h15_
            clear h0_ h1_ h2_ h3_ h4_ h5_ h6_ h7_ h8_ h9_ h10_ h11_ h12_ h13_ h14_ h15_
            have hHeld := hS_
            refine tnp ?_
            refine one_ (i := 8) (N := some 41) #[true, true, true, true, true, true, true, true, true, false, true, false] rfl rfl (one_of HT_.out (by kernel_rfl)) (by decide) (fun K hK => ?_)
            refine Kd.N_append_rows_step k62 (w0 := w) w.heap.size (by rfl) (.tmp 38) (.tmp 40) 26 62 (.agg #[(.int .i64 0), (.int .i64 0), (.bool false), (.slice none 0 0), (.bool false), (.slice none 0 0)]) 80 rfl Tryd.underlying26 info62 rfl (by decide) (by omega) v159 y158 l1_5 _ _ _ (fun k_ => ((P0_5_ k_ ∨ P1_5_ k_) ∨ w.heap.size ≤ k_) ∧ k_ ≠ gb150 ∧ k_ ≠ gb151 ∧ k_ ≠ gb152 ∧ k_ ≠ gb172) (fun k_ => ((fun k_ => ((P0_5_ k_ ∨ P1_5_ k_) ∨ w.heap.size ≤ k_) ∧ k_ ≠ gb150 ∧ k_ ≠ gb151 ∧ k_ ≠ gb152 ∧ k_ ≠ gb172)) k_ ∧ some k_ ≠ (v159 : Value).ownBlock) rfl rfl ?aO ?aR (fun _ hk => hk) ?aF ?aB ?aS ?aL ?_
            (case aR => exact (by skip; exact Kd.V_F (Kd.V_mono (ok' := (fun k_ => ((fun k_ => ((P0_5_ k_ ∨ P1_5_ k_) ∨ w.heap.size ≤ k_) ∧ k_ ≠ gb150 ∧ k_ ≠ gb151 ∧ k_ ≠ gb152 ∧ k_ ≠ gb172)) k_ ∧ some k_ ≠ (v159 : Value).ownBlock)) (HO_152005.out) (fun k_ hk => ⟨⟨hk.1, ⟨hk.2.2.1, ⟨hk.2.2.2.1, ⟨hk.2.2.2.2.1, hk.2.2.2.2.2⟩⟩⟩⟩, hk.2.1⟩))))
            (case aB => exact zb)
            (case aF => exact (fun k_ hk => ⟨(.inr (Nat.le_trans (below_size zb) hk)), tfB BK150 k_ hk, tfB BK151 k_ hk, tfB BK152 k_ hk, tfB BK172 k_ hk⟩))
            (case aO => exact (tN HO160.out))
            (case aS => exact (below_size zb))
            (case aL => have := LMc55.out; omega)
            intro v162 w90 ho hb hg hat
            rw [← Ny161.out] at ho
            replace HO_151005 := Aside0.mk (Kd.V_afterv (ok := (fun k_ => ((P0_5_ k_ ∨ P1_5_ k_) ∨ w.heap.size ≤ k_) ∧ k_ ≠ gb150 ∧ k_ ≠ gb151 ∧ k_ ≠ gb152 ∧ k_ ≠ gb172)) (tVm HO_151005.out) hg hat)
            replace HO_152005 := Aside0.mk (Kd.V_afterv (ok := (fun k_ => ((P0_5_ k_ ∨ P1_5_ k_) ∨ w.heap.size ≤ k_) ∧ k_ ≠ gb150 ∧ k_ ≠ gb151 ∧ k_ ≠ gb152 ∧ k_ ≠ gb172)) (tVm HO_152005.out) hg hat)
            replace BK150 := Aside0.mk (blk_grown (tH BK150.out) hg (Kd.N_ne HO160.out BK150.out (by decide)))
            replace BK151 := Aside0.mk (blk_grown (tH BK151.out) hg (Kd.N_ne HO160.out BK151.out (by decide)))
            replace BK152 := Aside0.mk (blk_grown (tH BK152.out) hg (Kd.N_ne HO160.out BK152.out (by decide)))
            replace BK172 := Aside0.mk (blk_grown (tH BK172.out) hg (Kd.N_ne HO160.out BK172.out (by decide)))
            replace HB := Aside0.mk (hb)
            have HO163 := Aside0.mk (ho)
            clear HO160
            clear ho hb hg hat
            refine hK.out _ _ ⟨(blk_cell BK150.out 0).trans rfl, (blk_cell BK150.out 1).trans rfl, (blk_cell BK150.out 2).trans rfl, (blk_cell BK150.out 3).trans rfl, (blk_cell BK150.out 4).trans rfl, (blk_cell BK150.out 5).trans rfl, (blk_cell BK151.out 0).trans rfl, (blk_cell BK151.out 1).trans rfl, (blk_cell BK151.out 2).trans rfl, (blk_cell BK151.out 3).trans rfl, (blk_cell BK151.out 4).trans rfl, (blk_cell BK151.out 5).trans rfl⟩ (fun hHeld => ?_)
            clear hK K
            refine tnm (some 41) ?_
            exact tnx (hJ2_5_8_10 (v156, v159, v162, gb172) _ ⟨hHeld, (tN HO163.out), (tVm HO_151005.out), (tVm HO_152005.out), (tH BK150.out), (tH BK151.out), (tH BK152.out), (tH BK172.out), GW172.out, GE172.out, NB150_172.out, NB172_150.out, NB151_172.out, NB172_151.out, NB152_172.out, NB172_152.out, zb⟩)
          ·skip
           rintro ⟨v156, v159, v162⟩ w89 ⟨hS_, h0_, h1_, h2_, h3_, h4_, h5_, h6_⟩
           try dsimp only at hS_ h0_ h1_ h2_ h3_ h4_ h5_ h6_
           clear HO_151005 HO_152005 BK150 BK151 BK152 HB
           have HO163 := Aside0.mk h0_
           have HO_151005 := Aside0.mk h1_
           have HO_152005 := Aside0.mk h2_
           have BK150 := Aside0.mk h3_
           have BK151 := Aside0.mk h4_
           have BK152 := Aside0.mk h5_
           have HB := Aside0.mk h6_
           clear h0_ h1_ h2_ h3_ h4_ h5_ h6_
           have hHeld := hS_
           obtain ⟨Ao90, co90, eo90⟩ := Kd.N_slice HO163.out
           (first | subst eo90 | (injection eo90 with f1_ f2_ f3_; have f4_ := f1_.symm; have f5_ := f3_.symm; clear f1_ f2_ f3_; subst f4_; subst f5_))
           refine tnp ?_
           refine two_ (i := 9) (j := 10) (Ni := some 42) (Nj := some 6) #[true, true, true, true, true, true, true, true, true, true, false, false] #[true, true, true, true, true, true, true, true, true, false, true, false] rfl rfl rfl rfl (two_of HT_.out (by kernel_rfl)) (by decide) (by decide) (fun K hK => ?_) (fun K hK => ?_)
           ·skip
            refine goes_ Tryd.func27 (by kernel_rfl) rfl #[.bool a0_0, .slice Ao90 y161.length co90] (by rfl) rfl rfl tq ?_
            with_reducible refine (spec_l31Free.calls kj2 a0_0 _ _ y161 t164 t165 t166 t167 t168 t169 _ ?side1 ?side2 A56.out).mono ?_
            (case side1 => repeat (first | exact (Kd.N_reads' HO163.out).2.2 | (with_reducible refine Kd.C_alloc ?_ _) | (with_reducible refine Kd.C_drewN ?_ _) | (with_reducible refine Kd.C_drew ?_)))
            (case side2 => exact (Kd.N_reads' HO163.out).2.1)
            rintro e w91 ⟨v170, rfl, ho0, hb⟩
            refine ⟨_, rfl, ?_⟩
            replace HO_151005 := tVe HO_151005 ho0 hb
            replace HO_152005 := tVe HO_152005 ho0 hb
            have HO171 := Aside0.mk (Kd.N_lower (Kd.N_mono (ok' := fun k_ => ((P0_5_ k_ ∨ P1_5_ k_) ∨ w.heap.size ≤ k_) ∧ some k_ ≠ (.slice Ao90 y161.length co90 : Value).ownBlock ∧ k_ ≠ gb150 ∧ k_ ≠ gb151 ∧ k_ ≠ gb152) (Kd.S_N (Kd.S_bound ho0)) (fun k_ hk_ => ⟨(.inr (Nat.le_trans (below_size zb) hk_.2.1)), (tfr HO163 k_ hk_.2.1), (tfB BK150 k_ hk_.2.1), (tfB BK151 k_ hk_.2.1), (tfB BK152 k_ hk_.2.1)⟩)) (below_size zb))
            replace HO163 := tNe HO163 ho0 hb
            replace BK150 := tBb BK150 hb
            replace BK151 := tBb BK151 hb
            replace BK152 := tBb BK152 hb
            replace HB := tBs HB hb
            (try clear hb)
            (try clear hb2)
            (try clear hk)
            (try clear hi)
            (try clear ho0)
            refine hK.out _ _ ⟨(blk_cell BK150.out 0).trans rfl, (blk_cell BK150.out 1).trans rfl, (blk_cell BK150.out 2).trans rfl, (blk_cell BK150.out 3).trans rfl, (blk_cell BK150.out 4).trans rfl, (blk_cell BK150.out 5).trans rfl, (blk_cell BK151.out 0).trans rfl, (blk_cell BK151.out 1).trans rfl, (blk_cell BK151.out 2).trans rfl, (blk_cell BK151.out 3).trans rfl, (blk_cell BK151.out 4).trans rfl, (blk_cell BK151.out 5).trans rfl⟩ (fun hHeld => ?_)
            clear hK K
            refine tnm (some 42) ?_
            exact tnx (hJ2_5_8_9 (v156, v159, .slice Ao90 y161.length co90, v170) _ ⟨hHeld, (tNm HO163.out), (tN HO171.out), (tVm HO_151005.out), (tVm HO_152005.out), (tH BK150.out), (tH BK151.out), (tH BK152.out), zb⟩)
           ·skip
            refine box_step ?hg (N := 6) ?hd (cs := #[.bool false, .bool false, .int .i64 0, .int .i64 0, .int .i64 0, .slice none 0 0]) (t := 28) ?hr ?_; (case hd => rfl); (case hg => rfl); (case hr => first | (go_simp; done) | (go_simp; rfl))
            intro gb172 hg w90 hbox hb
            replace HO_151005 := tVB HO_151005 hg hb
            replace HO_152005 := tVB HO_152005 hg hb
            replace HO163 := tNB HO163 hg hb
            have BK172 := Aside0.mk (hbox)
            have GW172 := tge HB hg
            have GE172 := tge HB hg
            replace HB := tBs HB hb
            have NB150_172 := tlt BK150 hg
            have NB172_150 := tgt BK150 hg
            replace BK150 := tBb BK150 hb
            have NB151_172 := tlt BK151 hg
            have NB172_151 := tgt BK151 hg
            replace BK151 := tBb BK151 hb
            have NB152_172 := tlt BK152 hg
            have NB172_152 := tgt BK152 hg
            replace BK152 := tBb BK152 hb
            clear hb hbox hg
            refine hK.out _ _ ⟨(blk_cell BK150.out 0).trans rfl, (blk_cell BK150.out 1).trans rfl, (blk_cell BK150.out 2).trans rfl, (blk_cell BK150.out 3).trans rfl, (blk_cell BK150.out 4).trans rfl, (blk_cell BK150.out 5).trans rfl, (blk_cell BK151.out 0).trans rfl, (blk_cell BK151.out 1).trans rfl, (blk_cell BK151.out 2).trans rfl, (blk_cell BK151.out 3).trans rfl, (blk_cell BK151.out 4).trans rfl, (blk_cell BK151.out 5).trans rfl⟩ (fun hHeld => ?_)
            clear hK K
            refine tnm (some 6) ?_
            exact tnx (hJ2_5_8_10 (v156, v159, (.slice Ao90 y161.length co90), gb172) _ ⟨hHeld, (tNm HO163.out), (tVm HO_151005.out), (tVm HO_152005.out), (tH BK150.out), (tH BK151.out), (tH BK152.out), (tH BK172.out), GW172.out, GE172.out, NB150_172.out, NB172_150.out, NB151_172.out, NB172_151.out, NB152_172.out, NB172_152.out, zb⟩)
         ·skip
          rintro ⟨v156, v159, v162, gb172⟩ w90 ⟨hS_, h0_, h1_, h2_, h3_, h4_, h5_, h6_, h7_, h8_, h9_, h10_, h11_, h12_, h13_, h14_, h15_⟩
          try dsimp only at hS_ h0_ h1_ h2_ h3_ h4_ h5_ h6_ h7_ h8_ h9_ h10_ h11_ h12_ h13_ h14_ h15_
          clear HO_151005 HO_152005 BK150 BK151 BK152 HB
          have HO163 := Aside0.mk h0_
          have HO_151005 := Aside0.mk h1_
          have HO_152005 := Aside0.mk h2_
          have BK150 := Aside0.mk h3_
          have BK151 := Aside0.mk h4_
          have BK152 := Aside0.mk h5_
          have BK172 := Aside0.mk h6_
          have GW172 := Aside0.mk h7_
          have GE172 := Aside0.mk h8_
          have NB150_172 := Aside0.mk h9_
          have NB172_150 := Aside0.mk h10_
          have NB151_172 := Aside0.mk h11_
          have NB172_151 := Aside0.mk h12_
          have NB152_172 := Aside0.mk h13_
          have NB172_152 := Aside0.mk h14_
          have HB := Aside0.mk h15_
          clear h0_ h1_ h2_ h3_ h4_ h5_ h6_ h7_ h8_ h9_ h10_ h11_ h12_ h13_ h14_ h15_
          have hHeld := hS_
          obtain ⟨Ao91, co91, eo91⟩ := Kd.N_slice HO163.out
          (first | subst eo91 | (injection eo91 with f1_ f2_ f3_; have f4_ := f1_.symm; have f5_ := f3_.symm; clear f1_ f2_ f3_; subst f4_; subst f5_))
          refine tnp ?_
          refine one_ (i := 9) (N := some 42) #[true, true, true, true, true, true, true, true, true, true, true, false] rfl rfl (one_of HT_.out (by kernel_rfl)) (by decide) (fun K hK => ?_)
          refine goes_ Tryd.func27 (by kernel_rfl) rfl #[.bool a0_0, .slice Ao91 y161.length co91] (by rfl) rfl rfl tq ?_
          with_reducible refine (spec_l31Free.calls kj2 a0_0 _ _ y161 t164 t165 t166 t167 t168 t169 _ ?side1 ?side2 A56.out).mono ?_
          (case side1 => repeat (first | exact (Kd.N_reads' HO163.out).2.2 | (with_reducible refine Kd.C_alloc ?_ _) | (with_reducible refine Kd.C_drewN ?_ _) | (with_reducible refine Kd.C_drew ?_)))
          (case side2 => exact (Kd.N_reads' HO163.out).2.1)
          rintro e w92 ⟨v170, rfl, ho0, hb⟩
          refine ⟨_, rfl, ?_⟩
          replace HO_151005 := tVe HO_151005 ho0 hb
          replace HO_152005 := tVe HO_152005 ho0 hb
          have HO171 := Aside0.mk (Kd.N_lower (Kd.N_mono (ok' := fun k_ => ((P0_5_ k_ ∨ P1_5_ k_) ∨ w.heap.size ≤ k_) ∧ some k_ ≠ (.slice Ao91 y161.length co91 : Value).ownBlock ∧ k_ ≠ gb150 ∧ k_ ≠ gb151 ∧ k_ ≠ gb152 ∧ k_ ≠ gb172) (Kd.S_N (Kd.S_bound ho0)) (fun k_ hk_ => ⟨(.inr (Nat.le_trans (below_size zb) hk_.2.1)), (tfr HO163 k_ hk_.2.1), (tfB BK150 k_ hk_.2.1), (tfB BK151 k_ hk_.2.1), (tfB BK152 k_ hk_.2.1), (tfB BK172 k_ hk_.2.1)⟩)) (below_size zb))
          replace HO163 := tNe HO163 ho0 hb
          replace BK150 := tBb BK150 hb
          replace BK151 := tBb BK151 hb
          replace BK152 := tBb BK152 hb
          replace BK172 := tBb BK172 hb
          replace HB := tBs HB hb
          (try clear hb)
          (try clear hb2)
          (try clear hk)
          (try clear hi)
          (try clear ho0)
          refine hK.out _ _ ⟨(blk_cell BK150.out 0).trans rfl, (blk_cell BK150.out 1).trans rfl, (blk_cell BK150.out 2).trans rfl, (blk_cell BK150.out 3).trans rfl, (blk_cell BK150.out 4).trans rfl, (blk_cell BK150.out 5).trans rfl, (blk_cell BK151.out 0).trans rfl, (blk_cell BK151.out 1).trans rfl, (blk_cell BK151.out 2).trans rfl, (blk_cell BK151.out 3).trans rfl, (blk_cell BK151.out 4).trans rfl, (blk_cell BK151.out 5).trans rfl⟩ (fun hHeld => ?_)
          clear hK K
          refine tnm (some 42) ?_
          exact tnx (hJ2_5_8_9_10 (v156, v159, .slice Ao91 y161.length co91, v170, gb172) _ ⟨hHeld, (tNm HO163.out), (tN HO171.out), (tVm HO_151005.out), (tVm HO_152005.out), (tH BK150.out), (tH BK151.out), (tH BK152.out), (tH BK172.out), GW172.out, GE172.out, NB150_172.out, NB172_150.out, NB151_172.out, NB172_151.out, NB152_172.out, NB172_152.out, zb⟩)
        ·skip
         rintro ⟨v156, v159, v162, v170⟩ w91 ⟨hS_, h0_, h1_, h2_, h3_, h4_, h5_, h6_, h7_⟩
         try dsimp only at hS_ h0_ h1_ h2_ h3_ h4_ h5_ h6_ h7_
         clear HO_151005 HO_152005 BK150 BK151 BK152 HB
         have HO163 := Aside0.mk h0_
         have HO171 := Aside0.mk h1_
         have HO_151005 := Aside0.mk h2_
         have HO_152005 := Aside0.mk h3_
         have BK150 := Aside0.mk h4_
         have BK151 := Aside0.mk h5_
         have BK152 := Aside0.mk h6_
         have HB := Aside0.mk h7_
         clear h0_ h1_ h2_ h3_ h4_ h5_ h6_ h7_
         have hHeld := hS_
         refine tnp ?_
         refine one_ (i := 10) (N := some 6) #[true, true, true, true, true, true, true, true, true, true, true, false] rfl rfl (one_of HT_.out (by kernel_rfl)) (by decide) (fun K hK => ?_)
         refine box_step ?hg (N := 6) ?hd (cs := #[.bool false, .bool false, .int .i64 0, .int .i64 0, .int .i64 0, .slice none 0 0]) (t := 28) ?hr ?_; (case hd => rfl); (case hg => rfl); (case hr => first | (go_simp; done) | (go_simp; rfl))
         intro gb172 hg w92 hbox hb
         replace HO_151005 := tVB HO_151005 hg hb
         replace HO_152005 := tVB HO_152005 hg hb
         replace HO163 := tNB HO163 hg hb
         replace HO171 := tNB HO171 hg hb
         have BK172 := Aside0.mk (hbox)
         have GW172 := tge HB hg
         have GE172 := tge HB hg
         replace HB := tBs HB hb
         have NB150_172 := tlt BK150 hg
         have NB172_150 := tgt BK150 hg
         replace BK150 := tBb BK150 hb
         have NB151_172 := tlt BK151 hg
         have NB172_151 := tgt BK151 hg
         replace BK151 := tBb BK151 hb
         have NB152_172 := tlt BK152 hg
         have NB172_152 := tgt BK152 hg
         replace BK152 := tBb BK152 hb
         clear hb hbox hg
         refine hK.out _ _ ⟨(blk_cell BK150.out 0).trans rfl, (blk_cell BK150.out 1).trans rfl, (blk_cell BK150.out 2).trans rfl, (blk_cell BK150.out 3).trans rfl, (blk_cell BK150.out 4).trans rfl, (blk_cell BK150.out 5).trans rfl, (blk_cell BK151.out 0).trans rfl, (blk_cell BK151.out 1).trans rfl, (blk_cell BK151.out 2).trans rfl, (blk_cell BK151.out 3).trans rfl, (blk_cell BK151.out 4).trans rfl, (blk_cell BK151.out 5).trans rfl⟩ (fun hHeld => ?_)
         clear hK K
         refine tnm (some 6) ?_
         exact tnx (hJ2_5_8_9_10 (v156, v159, v162, v170, gb172) _ ⟨hHeld, (tNm HO163.out), (tNm HO171.out), (tVm HO_151005.out), (tVm HO_152005.out), (tH BK150.out), (tH BK151.out), (tH BK152.out), (tH BK172.out), GW172.out, GE172.out, NB150_172.out, NB172_150.out, NB151_172.out, NB172_151.out, NB152_172.out, NB172_152.out, zb⟩)
       rintro ⟨v156, v159, v162, v170, gb172⟩ w92 ⟨hS_, h0_, h1_, h2_, h3_, h4_, h5_, h6_, h7_, h8_, h9_, h10_, h11_, h12_, h13_, h14_, h15_, h16_⟩
       try dsimp only at hS_ h0_ h1_ h2_ h3_ h4_ h5_ h6_ h7_ h8_ h9_ h10_ h11_ h12_ h13_ h14_ h15_ h16_
       clear HO_151005 HO_152005 BK150 BK151 BK152 HB
       have HO163 := Aside0.mk h0_
       have HO171 := Aside0.mk h1_
       have HO_151005 := Aside0.mk h2_
       have HO_152005 := Aside0.mk h3_
       have BK150 := Aside0.mk h4_
       have BK151 := Aside0.mk h5_
       have BK152 := Aside0.mk h6_
       have BK172 := Aside0.mk h7_
       have GW172 := Aside0.mk h8_
       have GE172 := Aside0.mk h9_
       have NB150_172 := Aside0.mk h10_
       have NB172_150 := Aside0.mk h11_
       have NB151_172 := Aside0.mk h12_
       have NB172_151 := Aside0.mk h13_
       have NB152_172 := Aside0.mk h14_
       have NB172_152 := Aside0.mk h15_
       have HB := Aside0.mk h16_
       clear h0_ h1_ h2_ h3_ h4_ h5_ h6_ h7_ h8_ h9_ h10_ h11_ h12_ h13_ h14_ h15_ h16_
       have hHeld := hS_
       obtain ⟨Ao98, co98, eo98⟩ := Kd.N_slice HO171.out
       (first | subst eo98 | (injection eo98 with f1_ f2_ f3_; have f4_ := f1_.symm; have f5_ := f3_.symm; clear f1_ f2_ f3_; subst f4_; subst f5_))
       refine tnp ?_
       refine one_ (i := 11) (N := none) #[true, true, true, true, true, true, true, true, true, true, true, true] rfl rfl (one_of HT_.out (by kernel_rfl)) (by decide) (fun K hK => ?_)
       have hs93 : w92.cell? ⟨gb172, 0, none⟩ = some (.bool false) := (blk_cell BK172.out 0).trans rfl
       have hfs93 := blk_frozen BK172.out 0
       have hns93_0 := NB150_172.out
       have hns93_1 := NB151_172.out
       have hns93_2 := NB152_172.out
       have hms93_0 := NB172_150.out
       have hms93_1 := NB172_151.out
       have hms93_2 := NB172_152.out
       have hs94 : w92.cell? ⟨gb172, 1, none⟩ = some (.bool false) := (blk_cell BK172.out 1).trans rfl
       have hfs94 := blk_frozen BK172.out 1
       have hs95 : w92.cell? ⟨gb172, 2, none⟩ = some (.int .i64 0) := (blk_cell BK172.out 2).trans rfl
       have hfs95 := blk_frozen BK172.out 2
       have hs96 : w92.cell? ⟨gb172, 3, none⟩ = some (.int .i64 0) := (blk_cell BK172.out 3).trans rfl
       have hfs96 := blk_frozen BK172.out 3
       have hs97 : w92.cell? ⟨gb172, 4, none⟩ = some (.int .i64 0) := (blk_cell BK172.out 4).trans rfl
       have hfs97 := blk_frozen BK172.out 4
       have hs99 : w92.cell? ⟨gb172, 5, none⟩ = some (.slice none 0 0) := (blk_cell BK172.out 5).trans rfl
       have hfs99 := blk_frozen BK172.out 5
       refine tsk ?_
       refine hK.out _ _ ⟨(tcg NB150_172.out hHeld.1), (tcg NB150_172.out hHeld.2.1), (tcg NB150_172.out hHeld.2.2.1), (tcg NB150_172.out hHeld.2.2.2.1), (tcg NB150_172.out hHeld.2.2.2.2.1), (tcg NB150_172.out hHeld.2.2.2.2.2.1), (tcg NB151_172.out hHeld.2.2.2.2.2.2.1), (tcg NB151_172.out hHeld.2.2.2.2.2.2.2.1), (tcg NB151_172.out hHeld.2.2.2.2.2.2.2.2.1), (tcg NB151_172.out hHeld.2.2.2.2.2.2.2.2.2.1), (tcg NB151_172.out hHeld.2.2.2.2.2.2.2.2.2.2.1), (tcg NB151_172.out hHeld.2.2.2.2.2.2.2.2.2.2.2)⟩ (fun hHeld => ?_)
       clear hK K
       refine done_ (done_of HT_.out (by kernel_rfl)) ?_
       have hnb100 := NB172_150.out
       have hnc100 := NB150_172.out
       have hnb101 := NB172_151.out
       have hnc101 := NB151_172.out
       have hnb102 := NB172_152.out
       have hnc102 := NB152_172.out
       obtain ⟨hcz103_0, hcz103_1, hcz103_2, hcz103_3, hcz103_4, hcz103_5, hfz103_0, hfz103_1, hfz103_2, hfz103_3, hfz103_4, hfz103_5⟩ := cells6 BK172.out
       try go_wp2_with (first | ((with_reducible refine gate_callee (f := 26) rfl ?_); refine goesL_ (some 44) rfl rfl Tryd.func26 (by kernel_rfl) rfl #[.agg #[.bool t164, .bool t165, .int .i64 t166, .int .i64 t167, .int .i64 t168, .slice Ao98 t169.length co98]] rfl tq ?_; (with_reducible refine (spec_BatchValid.calls kj2 t164 t165 t166 t167 t168 _ _ t169 false _ ?side1 ?side2 A57.out).mono ?_); (case side1 => exact (Kd.N_reads' (tN HO171.out)).2.2); (case side2 => exact (Kd.N_reads' HO171.out).2.1); rintro e w104 ⟨rfl, hb⟩; refine ⟨_, rfl, ?_⟩; replace HO_151005 := tVb HO_151005 hb; replace HO_152005 := tVb HO_152005 hb; replace HO163 := tNb HO163 hb; replace HO171 := tNb HO171 hb; replace BK150 := tBb BK150 hb; replace BK151 := tBb BK151 hb; replace BK152 := tBb BK152 hb; replace BK172 := tBp (o' := .cells #[.bool t164, .bool t165, .int .i64 t166, .int .i64 t167, .int .i64 t168, .slice Ao98 t169.length co98] 28 (0, 0)) BK172 hb; replace HB := tBs HB hb; (try clear hb); (try clear hb2); (try clear hk); (try clear hi); have hnb105 := NB152_150.out; have hnc105 := NB150_152.out; have hnb106 := NB152_151.out; have hnc106 := NB151_152.out; obtain ⟨hcz107_0, hcz107_1, hcz107_2, hcz107_3, hcz107_4, hcz107_5, hfz107_0, hfz107_1, hfz107_2, hfz107_3, hfz107_4, hfz107_5⟩ := cells6 BK152.out))
       refine bodyPost_ret (results_ct rfl _ _ gb152 28 #[.bool false, .bool false, .int .i64 0, .int .i64 0, .int .i64 0, .slice none 0 0] (0, 0) _ rfl (tP BK152.out) Tryd.underlying28 rfl (by kernel_rfl)) rfl ?_
       exact ⟨_, by first | rfl | (simp [errW_none, errW_some] <;> rfl) | (simp [*, errW_none, errW_some] <;> rfl), by first | exact Kd.S_nil _ _ _ _ _ | exact Kd.N_nil _ _ _ _ _ | exact Kd.V_nil _ _ _ _ _ | exact Kd.Q_nil _ _ _ _ _ | exact Kd.R_nil _ _ _ _ _, zb⟩
     ·rw [if_neg c55] at H
      exact absurd H (by simp)
    ·rw [if_neg c54] at H
     exact absurd H (by simp)

end Go.Proofs.YtfjkpdhldeopaaaDoor.G

