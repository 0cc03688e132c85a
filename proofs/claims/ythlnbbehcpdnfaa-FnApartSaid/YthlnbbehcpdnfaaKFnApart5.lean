/- A text of seat Ythlnbbehcpdnfaa: what the law FnApart needs of this repo's texts (by pack.py). Not trusted: Lean checks it. -/
import Derived.Test.YthlnbbehcpdnfaaKFnApart4
namespace Go.Proofs.Ythlnbbehcpdnfaa.G
open Go.RowKit Go.Proofs.YthlnbbehcpdnfaaW.PrintWords Go.Proofs.YthlnbbehcpdnfaaW.PrintLast Go.Proofs.YthlnbbehcpdnfaaW.PrintMore
attribute [local go_sem] max2_int min2_int max_two min_two max_three min_three max_four min_four   -- for this text's walks alone
set_option linter.unusedVariables false
set_option linter.unusedSimpArgs false

def laws_FnApart.j0 : Nat → List (S41) → List (S41) → Int → Int → Bool → Option (Bool)
 | 0, _, _, _, _, _ => none
 | k + 1, x3, x4, x5, x6, x29 => if x29 = true then (some (x5 == x6)) else ((impl_RecordsCommon.f k x3 x4).bind fun t459 => (if t459 < (x3.length : Int) then (if 0 ≤ t459 then (if t459 < (x4.length : Int) then (if ((rd_T41 x3 t459).f0) < 0 then (if x5 = ((rd_T41 x4 t459).f0) then ((impl_RecordsApart.f k x4 x3).bind fun t462 => (some (t462 == x5))) else (some false)) else (if ((rd_T41 x4 t459).f0) < ((rd_T41 x3 t459).f0) then (if x5 = ((rd_T41 x4 t459).f0) then ((impl_RecordsApart.f k x4 x3).bind fun t465 => (some (t465 == x5))) else (some false)) else (if x5 = ((rd_T41 x3 t459).f0) then ((impl_RecordsApart.f k x4 x3).bind fun t466 => (some (t466 == x5))) else (some false)))) else (if x5 = ((rd_T41 x3 t459).f0) then ((impl_RecordsApart.f k x4 x3).bind fun t467 => (some (t467 == x5))) else (some false))) else (none)) else (if t459 < (x4.length : Int) then (if (-1) < 0 then (if 0 ≤ t459 then (if x5 = ((rd_T41 x4 t459).f0) then ((impl_RecordsApart.f k x4 x3).bind fun t469 => (some (t469 == x5))) else (some false)) else (none)) else (if 0 ≤ t459 then (if ((rd_T41 x4 t459).f0) < (-1) then (if x5 = ((rd_T41 x4 t459).f0) then ((impl_RecordsApart.f k x4 x3).bind fun t472 => (some (t472 == x5))) else (some false)) else (if x5 = (-1) then ((impl_RecordsApart.f k x4 x3).bind fun t473 => (some (t473 == x5))) else (some false))) else (none))) else (if x5 = (-1) then ((impl_RecordsApart.f k x4 x3).bind fun t474 => (some (t474 == x5))) else (some false)))))
def laws_FnApart.f (k : Nat) (l0 : List Int) : Option (Bool) := if (l0.length : Int) > 1048576 then (some true) else ((spec_DrawRecordsApart.f k l0).bind fun bt451 => ((impl_RecordsApart.f k bt451.1 bt451.2).bind fun t457 => ((spec_RecordsApart.f k bt451.1 bt451.2).bind fun t458 => (if t457 = t458 then (laws_FnApart.j0 k bt451.1 bt451.2 t457 t458 (decide (t458 < 0))) else (laws_FnApart.j0 k bt451.1 bt451.2 t457 t458 true)))))
set_option maxHeartbeats 8000000 in
set_option maxRecDepth 100000 in
theorem laws_FnApart.calls (k : Nat) (A0 : Option Addr) (c0 : Nat) (l0 : List Int) (r : Bool) (w : World) (hr0 : Kd.C (Kd.int .u8) w A0 l0.length l0) (hc0 : l0.length ≤ c0) (h : laws_FnApart.f k l0 = some r) :
  Calls Try.prog 7 #[.slice A0 l0.length c0] w fun e w' => e = .returned (.bool r) ∧ Below w.heap.size w w' := by
 have HR0 := Aside0.mk hr0
 have HC0 := Aside0.mk hc0
 clear hr0 hc0
 have HB := Aside0.mk (Below.refl w.heap.size w)
 have H : (if (l0.length : Int) > 1048576 then (some true) else ((spec_DrawRecordsApart.f k l0).bind fun bt451 => ((impl_RecordsApart.f k bt451.1 bt451.2).bind fun t457 => ((spec_RecordsApart.f k bt451.1 bt451.2).bind fun t458 => (if t457 = t458 then (laws_FnApart.j0 k bt451.1 bt451.2 t457 t458 (decide (t458 < 0))) else (laws_FnApart.j0 k bt451.1 bt451.2 t457 t458 true)))))) = some r := h
 clear h
 by_cases c2 : (l0.length : Int) > 1048576
 ·rw [if_pos c2] at H
  have c2b0 : decide (1048576 < (l0.length : Int)) = true := decide_eq_true c2
  have c2b1 : decide (1048576 < l0.length) = true := decide_eq_true (by omega)
  clear c2
  obtain rfl := Option.some.inj H
  go_enter Try.func7, Try.ntmps7
  go_wp2
  all_goals go_ret
  all_goals exact ⟨by first | rfl | (simp [errW_none, errW_some] <;> rfl) | (simp [*, errW_none, errW_some] <;> rfl), by repeat (first | (with_reducible first | exact HB.out | apply below_alloc | apply pw_below_drewN | apply below_drew1) | exact HB.out)⟩
 ·rw [if_neg c2] at H
  have c2b0 : decide (1048576 < (l0.length : Int)) = false := decide_eq_false c2
  have c2b1 : decide (1048576 < l0.length) = false := decide_eq_false (by omega)
  clear c2
  replace H := Option.bind_eq_some_iff.mp H
  obtain ⟨⟨t451, t454⟩, A30, H⟩ := H
  replace H : ((impl_RecordsApart.f k t451 t454).bind fun t457 => ((spec_RecordsApart.f k t451 t454).bind fun t458 => (if t457 = t458 then (laws_FnApart.j0 k t451 t454 t457 t458 (decide (t458 < 0))) else (laws_FnApart.j0 k t451 t454 t457 t458 true)))) = some r := H
  have A3 := Aside0.mk A30
  clear A30
  replace H := Option.bind_eq_some_iff.mp H
  obtain ⟨t457, A40, H⟩ := H
  replace H : ((spec_RecordsApart.f k t451 t454).bind fun t458 => (if t457 = t458 then (laws_FnApart.j0 k t451 t454 t457 t458 (decide (t458 < 0))) else (laws_FnApart.j0 k t451 t454 t457 t458 true))) = some r := H
  have A4 := Aside0.mk A40
  clear A40
  replace H := Option.bind_eq_some_iff.mp H
  obtain ⟨t458, A50, H⟩ := H
  replace H : (if t457 = t458 then (laws_FnApart.j0 k t451 t454 t457 t458 (decide (t458 < 0))) else (laws_FnApart.j0 k t451 t454 t457 t458 true)) = some r := H
  have A5 := Aside0.mk A50
  clear A50
  have HC6 := Aside0.mk H
  clear H
  go_enter Try.func7, Try.ntmps7
  go_upto_region 6 with (first | ((with_reducible refine gate_callee (f := 26) rfl ?_); refine goesL_ (some 14) rfl rfl Try.func26 (by kernel_rfl) rfl #[.slice A0 l0.length c0] rfl (by (try simp only [List.map_toArray, List.map_cons, List.map_nil]); first | done | rfl | (simp only [List.length_drop, List.length_take]; rfl)) ?_; (with_reducible refine (spec_DrawRecordsApart.calls k _ _ l0 t451 t454 _ ?side1 ?side2 A3.out).mono ?_); (case side1 => repeat (first | exact HR0.out | (with_reducible refine Kd.C_alloc ?_ _) | (with_reducible refine Kd.C_drewN ?_ _) | (with_reducible refine Kd.C_drew ?_))); (case side2 => exact HC0.out); rintro e w7 ⟨v452, v455, rfl, ho0, ho1, hb⟩; have u_v452 : ∀ (a_ : Addr) (m_ : Mode) (W_ : World), (store a_ v452 m_).run Try.prog W_ = stored Try.prog W_ a_ v452 m_ := fun a_ m_ W_ => run_store _ W_ a_ _ m_ (by first | (obtain ⟨_, _, e_⟩ := Kd.R_slice ho0; rw [e_]; rfl) | (obtain ⟨_, _, e_⟩ := Kd.S_slice ho0; rw [e_]; rfl) | (obtain ⟨_, _, e_, _⟩ := Kd.Q_slice ho0; rw [e_]; rfl) | (obtain ⟨_, _, e_⟩ := Kd.N_slice ho0; rw [e_]; rfl) | (obtain ⟨_, _, e_⟩ := Kd.V_slice ho0; rw [e_]; rfl)); have u_v455 : ∀ (a_ : Addr) (m_ : Mode) (W_ : World), (store a_ v455 m_).run Try.prog W_ = stored Try.prog W_ a_ v455 m_ := fun a_ m_ W_ => run_store _ W_ a_ _ m_ (by first | (obtain ⟨_, _, e_⟩ := Kd.R_slice ho1; rw [e_]; rfl) | (obtain ⟨_, _, e_⟩ := Kd.S_slice ho1; rw [e_]; rfl) | (obtain ⟨_, _, e_, _⟩ := Kd.Q_slice ho1; rw [e_]; rfl) | (obtain ⟨_, _, e_⟩ := Kd.N_slice ho1; rw [e_]; rfl) | (obtain ⟨_, _, e_⟩ := Kd.V_slice ho1; rw [e_]; rfl)); refine ⟨_, rfl, ?_⟩; have n0_ := Aside0.mk (Kd.V_lower (Kd.V_mono (ok' := fun k_ => True) ho0 (fun k_ hk_ => trivial)) (below_size (by repeat (first | (with_reducible first | exact HB.out | apply below_alloc | apply pw_below_drewN | apply below_drew1) | exact HB.out)))); have n1_ := Aside0.mk (Kd.V_lower (Kd.V_mono (ok' := fun k_ => True) ho1 (fun k_ hk_ => trivial)) (below_size (by repeat (first | (with_reducible first | exact HB.out | apply below_alloc | apply pw_below_drewN | apply below_drew1) | exact HB.out)))); have n2_ := Aside0.mk (below_step (by repeat (first | (with_reducible first | exact HB.out | apply below_alloc | apply pw_below_drewN | apply below_drew1) | exact HB.out)) hb); clear HB; have HO453 := n0_; have HO456 := n1_; have HB := n2_; clear n0_ n1_ n2_; (try clear hb); (try clear hb2); (try clear hk); (try clear hi); (try clear ho0); (try clear ho1); obtain ⟨Ao8, co8, eo8⟩ := Kd.V_slice HO453.out; subst eo8; obtain ⟨Ao9, co9, eo9⟩ := Kd.V_slice HO456.out; subst eo9) | ((with_reducible refine gate_callee (f := 27) rfl ?_); refine goesL_ (some 19) rfl rfl Try.func27 (by kernel_rfl) rfl #[.slice Ao8 t451.length co8, .slice Ao9 t454.length co9] rfl (by (try simp only [List.map_toArray, List.map_cons, List.map_nil]); first | done | rfl | (simp only [List.length_drop, List.length_take]; rfl)) ?_; (with_reducible refine (impl_RecordsApart.calls k _ _ t451 _ _ t454 t457 _ ?side1 ?side2 ?side3 ?side4 A4.out).mono ?_); (case side1 => repeat (first | exact (Kd.V_reads' HO453.out).2.2 | (with_reducible refine Kd.C_alloc ?_ _) | (with_reducible refine Kd.C_drewN ?_ _) | (with_reducible refine Kd.C_drew ?_))); (case side2 => exact (Kd.V_reads' HO453.out).2.1); (case side3 => repeat (first | exact (Kd.V_reads' HO456.out).2.2 | (with_reducible refine Kd.C_alloc ?_ _) | (with_reducible refine Kd.C_drewN ?_ _) | (with_reducible refine Kd.C_drew ?_))); (case side4 => exact (Kd.V_reads' HO456.out).2.1); rintro e w10 ⟨rfl, hb⟩; refine ⟨_, rfl, ?_⟩; have n0_ := Aside0.mk (Kd.V_below (by (with_reducible repeat (first | apply Kd.V_alloc | apply Kd.V_drewN | apply Kd.V_drew)); exact HO453.out) hb); have n1_ := Aside0.mk (Kd.V_below (by (with_reducible repeat (first | apply Kd.V_alloc | apply Kd.V_drewN | apply Kd.V_drew)); exact HO456.out) hb); have n2_ := Aside0.mk (below_step (by repeat (first | (with_reducible first | exact HB.out | apply below_alloc | apply pw_below_drewN | apply below_drew1) | exact HB.out)) hb); clear HO453; clear HO456; clear HB; have HO453 := n0_; have HO456 := n1_; have HB := n2_; clear n0_ n1_ n2_; (try clear hb); (try clear hb2); (try clear hk); (try clear hi)) | ((with_reducible refine gate_callee (f := 28) rfl ?_); refine goesL_ (some 22) rfl rfl Try.func28 (by kernel_rfl) rfl #[.slice Ao8 t451.length co8, .slice Ao9 t454.length co9] rfl (by (try simp only [List.map_toArray, List.map_cons, List.map_nil]); first | done | rfl | (simp only [List.length_drop, List.length_take]; rfl)) ?_; (with_reducible refine (spec_RecordsApart.calls k _ _ t451 _ _ t454 t458 _ ?side1 ?side2 ?side3 ?side4 A5.out).mono ?_); (case side1 => repeat (first | exact (Kd.V_reads' HO453.out).2.2 | (with_reducible refine Kd.C_alloc ?_ _) | (with_reducible refine Kd.C_drewN ?_ _) | (with_reducible refine Kd.C_drew ?_))); (case side2 => exact (Kd.V_reads' HO453.out).2.1); (case side3 => repeat (first | exact (Kd.V_reads' HO456.out).2.2 | (with_reducible refine Kd.C_alloc ?_ _) | (with_reducible refine Kd.C_drewN ?_ _) | (with_reducible refine Kd.C_drew ?_))); (case side4 => exact (Kd.V_reads' HO456.out).2.1); rintro e w11 ⟨rfl, hb⟩; refine ⟨_, rfl, ?_⟩; have n0_ := Aside0.mk (Kd.V_below (by (with_reducible repeat (first | apply Kd.V_alloc | apply Kd.V_drewN | apply Kd.V_drew)); exact HO453.out) hb); have n1_ := Aside0.mk (Kd.V_below (by (with_reducible repeat (first | apply Kd.V_alloc | apply Kd.V_drewN | apply Kd.V_drew)); exact HO456.out) hb); have n2_ := Aside0.mk (below_step (by repeat (first | (with_reducible first | exact HB.out | apply below_alloc | apply pw_below_drewN | apply below_drew1) | exact HB.out)) hb); clear HO453; clear HO456; clear HB; have HO453 := n0_; have HO456 := n1_; have HB := n2_; clear n0_ n1_ n2_; (try clear hb); (try clear hb2); (try clear hk); (try clear hi)))
  (try simp only [Act.put, List.setIfInBounds_toArray, List.set_cons_zero, List.set_cons_succ])
  go_cut [29] (fun v29 wc => ∃ (kq : Nat) (x29_5 : Bool), v29 = .bool x29_5 ∧ Aside0 (laws_FnApart.j0 kq t451 t454 t457 t458 x29_5 = some r) ∧ Aside0 (kq ≤ k) ∧ Aside0 (Kd.V k41 41 wc w.heap.size (fun _ => True) (.slice Ao8 t451.length co8) t451) ∧ Aside0 (Kd.V k41 41 wc w.heap.size (fun _ => True) (.slice Ao9 t454.length co9) t454) ∧ Aside0 (Below w.heap.size w wc))
  case first =>
   have H := HC6.out
   clear HC6
   by_cases c12 : t457 = t458
   ·rw [if_pos c12] at H
    have c12b0 : (t457 == t458) = true := beq_iff_eq.mpr c12
    have c12b1 : (t457 != t458) = false := bne_eq_false_iff_eq.mpr c12
    clear c12
    (first | rw [c12b0] | (simp only [i64_w, i32_w]; rw [c12b0]) | skip)
    have H' := Aside0.mk H
    clear H
    go_wp2
    go_meet
    case rel => exact ⟨_, (decide (t458 < 0)), (by first | rfl | (simp; done) | (simp [*]; done)), H', ⟨by first | omega | exact Nat.le_refl _⟩, ⟨by (with_reducible repeat (first | apply Kd.V_alloc | apply Kd.V_drewN | apply Kd.V_drew)); exact HO453.out⟩, ⟨by (with_reducible repeat (first | apply Kd.V_alloc | apply Kd.V_drewN | apply Kd.V_drew)); exact HO456.out⟩, ⟨by repeat (first | (with_reducible first | exact HB.out | apply below_alloc | apply pw_below_drewN | apply below_drew1) | exact HB.out)⟩⟩
   ·rw [if_neg c12] at H
    have c12b0 : (t457 == t458) = false := beq_eq_false_iff_ne.mpr c12
    have c12b1 : (t457 != t458) = true := bne_iff_ne.mpr c12
    (first | rw [c12b0] | (simp only [i64_w, i32_w]; rw [c12b0]) | skip)
    have H' := Aside0.mk H
    clear H
    go_wp2
    go_meet
    case rel => exact ⟨_, (true), (by first | rfl | (simp; done) | (simp [*]; done)), H', ⟨by first | omega | exact Nat.le_refl _⟩, ⟨by (with_reducible repeat (first | apply Kd.V_alloc | apply Kd.V_drewN | apply Kd.V_drew)); exact HO453.out⟩, ⟨by (with_reducible repeat (first | apply Kd.V_alloc | apply Kd.V_drewN | apply Kd.V_drew)); exact HO456.out⟩, ⟨by repeat (first | (with_reducible first | exact HB.out | apply below_alloc | apply pw_below_drewN | apply below_drew1) | exact HB.out)⟩⟩
  case rest =>
   clear HC6
   try clear c1
   try clear c2
   try clear c2b0
   try clear c2b1
   try clear p2
   try clear c7
   try clear c12
   try clear c12b0
   try clear c12b1
   obtain ⟨kq, x29_5, rfl, HA, HJ5, HO_3, HO_4, HB⟩ := hcut
   cases kq with
   | zero => exact absurd HA.out (by simp [laws_FnApart.j0])
   | succ kj5 =>
    have H := HA.out
    clear HA
    simp only [laws_FnApart.j0] at H
    by_cases c13 : x29_5 = true
    ·subst c13
     have H1 : (some (t457 == t458)) = some r := by rw [if_pos rfl] at H; exact H
     clear H
     have H := H1
     clear H1
     obtain rfl := Option.some.inj H
     go_wp2
     all_goals go_ret
     all_goals exact ⟨by first | rfl | (simp [errW_none, errW_some] <;> rfl) | (simp [*, errW_none, errW_some] <;> rfl), by repeat (first | (with_reducible first | exact HB.out | apply below_alloc | apply pw_below_drewN | apply below_drew1) | exact HB.out)⟩
    ·replace c13 := Bool.eq_false_iff.mpr c13
     subst c13
     have H1 : ((impl_RecordsCommon.f kj5 t451 t454).bind fun t459 => (if t459 < (t451.length : Int) then (if 0 ≤ t459 then (if t459 < (t454.length : Int) then (if ((rd_T41 t451 t459).f0) < 0 then (if t457 = ((rd_T41 t454 t459).f0) then ((impl_RecordsApart.f kj5 t454 t451).bind fun t462 => (some (t462 == t457))) else (some false)) else (if ((rd_T41 t454 t459).f0) < ((rd_T41 t451 t459).f0) then (if t457 = ((rd_T41 t454 t459).f0) then ((impl_RecordsApart.f kj5 t454 t451).bind fun t465 => (some (t465 == t457))) else (some false)) else (if t457 = ((rd_T41 t451 t459).f0) then ((impl_RecordsApart.f kj5 t454 t451).bind fun t466 => (some (t466 == t457))) else (some false)))) else (if t457 = ((rd_T41 t451 t459).f0) then ((impl_RecordsApart.f kj5 t454 t451).bind fun t467 => (some (t467 == t457))) else (some false))) else (none)) else (if t459 < (t454.length : Int) then (if (-1) < 0 then (if 0 ≤ t459 then (if t457 = ((rd_T41 t454 t459).f0) then ((impl_RecordsApart.f kj5 t454 t451).bind fun t469 => (some (t469 == t457))) else (some false)) else (none)) else (if 0 ≤ t459 then (if ((rd_T41 t454 t459).f0) < (-1) then (if t457 = ((rd_T41 t454 t459).f0) then ((impl_RecordsApart.f kj5 t454 t451).bind fun t472 => (some (t472 == t457))) else (some false)) else (if t457 = (-1) then ((impl_RecordsApart.f kj5 t454 t451).bind fun t473 => (some (t473 == t457))) else (some false))) else (none))) else (if t457 = (-1) then ((impl_RecordsApart.f kj5 t454 t451).bind fun t474 => (some (t474 == t457))) else (some false))))) = some r := by rw [if_neg (show ¬ (false = true) by decide)] at H; exact H
     clear H
     have H := H1
     clear H1
     replace H := Option.bind_eq_some_iff.mp H
     obtain ⟨t459, A140, H⟩ := H
     replace H : (if t459 < (t451.length : Int) then (if 0 ≤ t459 then (if t459 < (t454.length : Int) then (if ((rd_T41 t451 t459).f0) < 0 then (if t457 = ((rd_T41 t454 t459).f0) then ((impl_RecordsApart.f kj5 t454 t451).bind fun t462 => (some (t462 == t457))) else (some false)) else (if ((rd_T41 t454 t459).f0) < ((rd_T41 t451 t459).f0) then (if t457 = ((rd_T41 t454 t459).f0) then ((impl_RecordsApart.f kj5 t454 t451).bind fun t465 => (some (t465 == t457))) else (some false)) else (if t457 = ((rd_T41 t451 t459).f0) then ((impl_RecordsApart.f kj5 t454 t451).bind fun t466 => (some (t466 == t457))) else (some false)))) else (if t457 = ((rd_T41 t451 t459).f0) then ((impl_RecordsApart.f kj5 t454 t451).bind fun t467 => (some (t467 == t457))) else (some false))) else (none)) else (if t459 < (t454.length : Int) then (if (-1) < 0 then (if 0 ≤ t459 then (if t457 = ((rd_T41 t454 t459).f0) then ((impl_RecordsApart.f kj5 t454 t451).bind fun t469 => (some (t469 == t457))) else (some false)) else (none)) else (if 0 ≤ t459 then (if ((rd_T41 t454 t459).f0) < (-1) then (if t457 = ((rd_T41 t454 t459).f0) then ((impl_RecordsApart.f kj5 t454 t451).bind fun t472 => (some (t472 == t457))) else (some false)) else (if t457 = (-1) then ((impl_RecordsApart.f kj5 t454 t451).bind fun t473 => (some (t473 == t457))) else (some false))) else (none))) else (if t457 = (-1) then ((impl_RecordsApart.f kj5 t454 t451).bind fun t474 => (some (t474 == t457))) else (some false)))) = some r := H
     have A14 := Aside0.mk A140
     clear A140
     by_cases c15 : t459 < (t451.length : Int)
     ·rw [if_pos c15] at H
      have c15b0 : decide (t459 < (t451.length : Int)) = true := decide_eq_true c15
      clear c15
      by_cases c16 : 0 ≤ t459
      ·rw [if_pos c16] at H
       have c16b0 : decide (0 ≤ t459) = true := decide_eq_true c16
       clear c16
       by_cases c17 : t459 < (t454.length : Int)
       ·rw [if_pos c17] at H
        have c17b0 : decide (t459 < (t454.length : Int)) = true := decide_eq_true c17
        clear c17
        by_cases c18 : ((rd_T41 t451 t459).f0) < 0
        ·rw [if_pos c18] at H
         have c18b0 : decide (((rd_T41 t451 t459).f0) < 0) = true := decide_eq_true c18
         clear c18
         by_cases c19 : t457 = ((rd_T41 t454 t459).f0)
         ·rw [if_pos c19] at H
          have c19b0 : (t457 == ((rd_T41 t454 t459).f0)) = true := beq_iff_eq.mpr c19
          have c19b1 : (t457 != ((rd_T41 t454 t459).f0)) = false := bne_eq_false_iff_eq.mpr c19
          clear c19
          replace H := Option.bind_eq_some_iff.mp H
          obtain ⟨t462, A200, H⟩ := H
          replace H : (some (t462 == t457)) = some r := H
          have A20 := Aside0.mk A200
          clear A200
          obtain rfl := Option.some.inj H
          go_wp2_with (first | ((with_reducible refine gate_callee (f := 22) rfl ?_); refine goesL_ (some 35) rfl rfl Try.func22 (by kernel_rfl) rfl #[.slice Ao8 t451.length co8, .slice Ao9 t454.length co9] rfl (by (try simp only [List.map_toArray, List.map_cons, List.map_nil]); first | done | rfl | (simp only [List.length_drop, List.length_take]; rfl)) ?_; (with_reducible refine (impl_RecordsCommon.calls kj5 _ _ t451 _ _ t454 t459 _ ?side1 ?side2 ?side3 ?side4 A14.out).mono ?_); (case side1 => repeat (first | exact (Kd.V_reads' HO_3.out).2.2 | (with_reducible refine Kd.C_alloc ?_ _) | (with_reducible refine Kd.C_drewN ?_ _) | (with_reducible refine Kd.C_drew ?_))); (case side2 => exact (Kd.V_reads' HO_3.out).2.1); (case side3 => repeat (first | exact (Kd.V_reads' HO_4.out).2.2 | (with_reducible refine Kd.C_alloc ?_ _) | (with_reducible refine Kd.C_drewN ?_ _) | (with_reducible refine Kd.C_drew ?_))); (case side4 => exact (Kd.V_reads' HO_4.out).2.1); rintro e w21 ⟨rfl, hb⟩; refine ⟨_, rfl, ?_⟩; have n0_ := Aside0.mk (Kd.V_below (by (with_reducible repeat (first | apply Kd.V_alloc | apply Kd.V_drewN | apply Kd.V_drew)); exact HO_3.out) hb); have n1_ := Aside0.mk (Kd.V_below (by (with_reducible repeat (first | apply Kd.V_alloc | apply Kd.V_drewN | apply Kd.V_drew)); exact HO_4.out) hb); have n2_ := Aside0.mk (below_step (by repeat (first | (with_reducible first | exact HB.out | apply below_alloc | apply pw_below_drewN | apply below_drew1) | exact HB.out)) hb); clear HO_3; clear HO_4; clear HB; have HO_3 := n0_; have HO_4 := n1_; have HB := n2_; clear n0_ n1_ n2_; (try clear hb); (try clear hb2); (try clear hk); (try clear hi); have p460 : 0 ≤ (t459 : Int) := of_decide_eq_true (by first | (with_reducible assumption) | assumption); have q460 : t459 < (t451.length : Int) := of_decide_eq_true (by first | (with_reducible assumption) | assumption); obtain ⟨ad460, A460_3, c460_3, A460_5, c460_5, e460, hx460_0, hx460_1, hx460_2, hx460_3, hx460_4, hx460_5, hl460_3, hi460_3, hl460_5, hi460_5⟩ := at_T41 (Kd.V_reads' HO_3.out).2.2 t459 p460 q460; cases e460; obtain ⟨ce460, hce460, hMe460, hcc460⟩ := Kd.V_get HO_3.out z41 t459 p460 (by first | exact q460 | exact of_decide_eq_true (by first | (with_reducible assumption) | assumption) | (have e_ := (Kd.V_reads' HO_3.out).1; omega)); obtain ⟨ua460_3, uc460_3, ua460_5, uc460_5, rfl, ul460_3, ge460_3, ul460_5, ge460_5⟩ := k41_openF hMe460; have hv460_3 := hcc460 3 _ rfl; rw [add_field _ _ 3 (by omega)] at hv460_3; replace hv460_3 := Option.some.inj (hv460_3.symm.trans hx460_3); injection hv460_3 with hva_ hvn_ hvc_; rw [hva_] at ge460_3; rw [hvc_] at ul460_3; have HL460_3 := Aside0.mk (show Kd.V (Kd.int .i64) 3 _ w.heap.size _ _ ((rd_T41 t451 t459).f3) from Kd.V_mk ul460_3 ge460_3); clear hva_ hvn_ hvc_ ge460_3 ul460_3; have hv460_5 := hcc460 5 _ rfl; rw [add_field _ _ 5 (by omega)] at hv460_5; replace hv460_5 := Option.some.inj (hv460_5.symm.trans hx460_5); injection hv460_5 with hva_ hvn_ hvc_; rw [hva_] at ge460_5; rw [hvc_] at ul460_5; have HL460_5 := Aside0.mk (show Kd.V (Kd.int .i64) 3 _ w.heap.size _ _ ((rd_T41 t451 t459).f5) from Kd.V_mk ul460_5 ge460_5); clear hva_ hvn_ hvc_ ge460_5 ul460_5; clear hcc460 hce460; have HR460_3 := Aside0.mk hi460_3; have HC460_3 := Aside0.mk hl460_3; clear hi460_3 hl460_3; have HR460_5 := Aside0.mk hi460_5; have HC460_5 := Aside0.mk hl460_5; clear hi460_5 hl460_5; replace p460 := eq_true p460; replace q460 := eq_true q460; have p461 : 0 ≤ (t459 : Int) := of_decide_eq_true (by first | (with_reducible assumption) | assumption); have q461 : t459 < (t454.length : Int) := of_decide_eq_true (by first | (with_reducible assumption) | assumption); obtain ⟨ad461, A461_3, c461_3, A461_5, c461_5, e461, hx461_0, hx461_1, hx461_2, hx461_3, hx461_4, hx461_5, hl461_3, hi461_3, hl461_5, hi461_5⟩ := at_T41 (Kd.V_reads' HO_4.out).2.2 t459 p461 q461; cases e461; obtain ⟨ce461, hce461, hMe461, hcc461⟩ := Kd.V_get HO_4.out z41 t459 p461 (by first | exact q461 | exact of_decide_eq_true (by first | (with_reducible assumption) | assumption) | (have e_ := (Kd.V_reads' HO_4.out).1; omega)); obtain ⟨ua461_3, uc461_3, ua461_5, uc461_5, rfl, ul461_3, ge461_3, ul461_5, ge461_5⟩ := k41_openF hMe461; have hv461_3 := hcc461 3 _ rfl; rw [add_field _ _ 3 (by omega)] at hv461_3; replace hv461_3 := Option.some.inj (hv461_3.symm.trans hx461_3); injection hv461_3 with hva_ hvn_ hvc_; rw [hva_] at ge461_3; rw [hvc_] at ul461_3; have HL461_3 := Aside0.mk (show Kd.V (Kd.int .i64) 3 _ w.heap.size _ _ ((rd_T41 t454 t459).f3) from Kd.V_mk ul461_3 ge461_3); clear hva_ hvn_ hvc_ ge461_3 ul461_3; have hv461_5 := hcc461 5 _ rfl; rw [add_field _ _ 5 (by omega)] at hv461_5; replace hv461_5 := Option.some.inj (hv461_5.symm.trans hx461_5); injection hv461_5 with hva_ hvn_ hvc_; rw [hva_] at ge461_5; rw [hvc_] at ul461_5; have HL461_5 := Aside0.mk (show Kd.V (Kd.int .i64) 3 _ w.heap.size _ _ ((rd_T41 t454 t459).f5) from Kd.V_mk ul461_5 ge461_5); clear hva_ hvn_ hvc_ ge461_5 ul461_5; clear hcc461 hce461; have HR461_3 := Aside0.mk hi461_3; have HC461_3 := Aside0.mk hl461_3; clear hi461_3 hl461_3; have HR461_5 := Aside0.mk hi461_5; have HC461_5 := Aside0.mk hl461_5; clear hi461_5 hl461_5; replace p461 := eq_true p461; replace q461 := eq_true q461) | (go_at_call 27; (with_reducible refine (impl_RecordsApart.calls kj5 _ _ t454 _ _ t451 t462 _ ?side1 ?side2 ?side3 ?side4 A20.out).mono ?_); (case side1 => repeat (first | exact (Kd.V_reads' HO_4.out).2.2 | (with_reducible refine Kd.C_alloc ?_ _) | (with_reducible refine Kd.C_drewN ?_ _) | (with_reducible refine Kd.C_drew ?_))); (case side2 => exact (Kd.V_reads' HO_4.out).2.1); (case side3 => repeat (first | exact (Kd.V_reads' HO_3.out).2.2 | (with_reducible refine Kd.C_alloc ?_ _) | (with_reducible refine Kd.C_drewN ?_ _) | (with_reducible refine Kd.C_drew ?_))); (case side4 => exact (Kd.V_reads' HO_3.out).2.1); rintro e w22 ⟨rfl, hb⟩; have n0_ := Aside0.mk (Kd.V_below (by (with_reducible repeat (first | apply Kd.V_alloc | apply Kd.V_drewN | apply Kd.V_drew)); exact HO_3.out) hb); have n1_ := Aside0.mk (Kd.V_below (by (with_reducible repeat (first | apply Kd.V_alloc | apply Kd.V_drewN | apply Kd.V_drew)); exact HO_4.out) hb); have n2_ := Aside0.mk (Kd.V_below (by (with_reducible repeat (first | apply Kd.V_alloc | apply Kd.V_drewN | apply Kd.V_drew)); exact HL460_3.out) hb); have n3_ := Aside0.mk (Kd.V_below (by (with_reducible repeat (first | apply Kd.V_alloc | apply Kd.V_drewN | apply Kd.V_drew)); exact HL460_5.out) hb); have n4_ := Aside0.mk (Kd.V_below (by (with_reducible repeat (first | apply Kd.V_alloc | apply Kd.V_drewN | apply Kd.V_drew)); exact HL461_3.out) hb); have n5_ := Aside0.mk (Kd.V_below (by (with_reducible repeat (first | apply Kd.V_alloc | apply Kd.V_drewN | apply Kd.V_drew)); exact HL461_5.out) hb); have n6_ := Aside0.mk (Kd.C_below (by repeat (first | (with_reducible exact HR460_3.out) | (with_reducible refine Kd.C_alloc ?_ _) | (with_reducible refine Kd.C_drewN ?_ _) | (with_reducible refine Kd.C_drew ?_) | exact HR460_3.out)) hb); have n7_ := Aside0.mk (Kd.C_below (by repeat (first | (with_reducible exact HR460_5.out) | (with_reducible refine Kd.C_alloc ?_ _) | (with_reducible refine Kd.C_drewN ?_ _) | (with_reducible refine Kd.C_drew ?_) | exact HR460_5.out)) hb); have n8_ := Aside0.mk (Kd.C_below (by repeat (first | (with_reducible exact HR461_3.out) | (with_reducible refine Kd.C_alloc ?_ _) | (with_reducible refine Kd.C_drewN ?_ _) | (with_reducible refine Kd.C_drew ?_) | exact HR461_3.out)) hb); have n9_ := Aside0.mk (Kd.C_below (by repeat (first | (with_reducible exact HR461_5.out) | (with_reducible refine Kd.C_alloc ?_ _) | (with_reducible refine Kd.C_drewN ?_ _) | (with_reducible refine Kd.C_drew ?_) | exact HR461_5.out)) hb); have n10_ := Aside0.mk (below_step (by repeat (first | (with_reducible first | exact HB.out | apply below_alloc | apply pw_below_drewN | apply below_drew1) | exact HB.out)) hb); clear HO_3; clear HO_4; clear HL460_3; clear HL460_5; clear HL461_3; clear HL461_5; clear HR460_3; clear HR460_5; clear HR461_3; clear HR461_5; clear HB; have HO_3 := n0_; have HO_4 := n1_; have HL460_3 := n2_; have HL460_5 := n3_; have HL461_3 := n4_; have HL461_5 := n5_; have HR460_3 := n6_; have HR460_5 := n7_; have HR461_3 := n8_; have HR461_5 := n9_; have HB := n10_; clear n0_ n1_ n2_ n3_ n4_ n5_ n6_ n7_ n8_ n9_ n10_; (try clear hb); (try clear hb2); (try clear hk); (try clear hi)))
          all_goals go_ret
          all_goals exact ⟨by first | rfl | (simp [errW_none, errW_some] <;> rfl) | (simp [*, errW_none, errW_some] <;> rfl), by repeat (first | (with_reducible first | exact HB.out | apply below_alloc | apply pw_below_drewN | apply below_drew1) | exact HB.out)⟩
         ·rw [if_neg c19] at H
          have c19b0 : (t457 == ((rd_T41 t454 t459).f0)) = false := beq_eq_false_iff_ne.mpr c19
          have c19b1 : (t457 != ((rd_T41 t454 t459).f0)) = true := bne_iff_ne.mpr c19
          obtain rfl := Option.some.inj H
          go_wp2_with (first | ((with_reducible refine gate_callee (f := 22) rfl ?_); refine goesL_ (some 35) rfl rfl Try.func22 (by kernel_rfl) rfl #[.slice Ao8 t451.length co8, .slice Ao9 t454.length co9] rfl (by (try simp only [List.map_toArray, List.map_cons, List.map_nil]); first | done | rfl | (simp only [List.length_drop, List.length_take]; rfl)) ?_; (with_reducible refine (impl_RecordsCommon.calls kj5 _ _ t451 _ _ t454 t459 _ ?side1 ?side2 ?side3 ?side4 A14.out).mono ?_); (case side1 => repeat (first | exact (Kd.V_reads' HO_3.out).2.2 | (with_reducible refine Kd.C_alloc ?_ _) | (with_reducible refine Kd.C_drewN ?_ _) | (with_reducible refine Kd.C_drew ?_))); (case side2 => exact (Kd.V_reads' HO_3.out).2.1); (case side3 => repeat (first | exact (Kd.V_reads' HO_4.out).2.2 | (with_reducible refine Kd.C_alloc ?_ _) | (with_reducible refine Kd.C_drewN ?_ _) | (with_reducible refine Kd.C_drew ?_))); (case side4 => exact (Kd.V_reads' HO_4.out).2.1); rintro e w23 ⟨rfl, hb⟩; refine ⟨_, rfl, ?_⟩; have n0_ := Aside0.mk (Kd.V_below (by (with_reducible repeat (first | apply Kd.V_alloc | apply Kd.V_drewN | apply Kd.V_drew)); exact HO_3.out) hb); have n1_ := Aside0.mk (Kd.V_below (by (with_reducible repeat (first | apply Kd.V_alloc | apply Kd.V_drewN | apply Kd.V_drew)); exact HO_4.out) hb); have n2_ := Aside0.mk (below_step (by repeat (first | (with_reducible first | exact HB.out | apply below_alloc | apply pw_below_drewN | apply below_drew1) | exact HB.out)) hb); clear HO_3; clear HO_4; clear HB; have HO_3 := n0_; have HO_4 := n1_; have HB := n2_; clear n0_ n1_ n2_; (try clear hb); (try clear hb2); (try clear hk); (try clear hi); have p460 : 0 ≤ (t459 : Int) := of_decide_eq_true (by first | (with_reducible assumption) | assumption); have q460 : t459 < (t451.length : Int) := of_decide_eq_true (by first | (with_reducible assumption) | assumption); obtain ⟨ad460, A460_3, c460_3, A460_5, c460_5, e460, hx460_0, hx460_1, hx460_2, hx460_3, hx460_4, hx460_5, hl460_3, hi460_3, hl460_5, hi460_5⟩ := at_T41 (Kd.V_reads' HO_3.out).2.2 t459 p460 q460; cases e460; obtain ⟨ce460, hce460, hMe460, hcc460⟩ := Kd.V_get HO_3.out z41 t459 p460 (by first | exact q460 | exact of_decide_eq_true (by first | (with_reducible assumption) | assumption) | (have e_ := (Kd.V_reads' HO_3.out).1; omega)); obtain ⟨ua460_3, uc460_3, ua460_5, uc460_5, rfl, ul460_3, ge460_3, ul460_5, ge460_5⟩ := k41_openF hMe460; have hv460_3 := hcc460 3 _ rfl; rw [add_field _ _ 3 (by omega)] at hv460_3; replace hv460_3 := Option.some.inj (hv460_3.symm.trans hx460_3); injection hv460_3 with hva_ hvn_ hvc_; rw [hva_] at ge460_3; rw [hvc_] at ul460_3; have HL460_3 := Aside0.mk (show Kd.V (Kd.int .i64) 3 _ w.heap.size _ _ ((rd_T41 t451 t459).f3) from Kd.V_mk ul460_3 ge460_3); clear hva_ hvn_ hvc_ ge460_3 ul460_3; have hv460_5 := hcc460 5 _ rfl; rw [add_field _ _ 5 (by omega)] at hv460_5; replace hv460_5 := Option.some.inj (hv460_5.symm.trans hx460_5); injection hv460_5 with hva_ hvn_ hvc_; rw [hva_] at ge460_5; rw [hvc_] at ul460_5; have HL460_5 := Aside0.mk (show Kd.V (Kd.int .i64) 3 _ w.heap.size _ _ ((rd_T41 t451 t459).f5) from Kd.V_mk ul460_5 ge460_5); clear hva_ hvn_ hvc_ ge460_5 ul460_5; clear hcc460 hce460; have HR460_3 := Aside0.mk hi460_3; have HC460_3 := Aside0.mk hl460_3; clear hi460_3 hl460_3; have HR460_5 := Aside0.mk hi460_5; have HC460_5 := Aside0.mk hl460_5; clear hi460_5 hl460_5; replace p460 := eq_true p460; replace q460 := eq_true q460; have p461 : 0 ≤ (t459 : Int) := of_decide_eq_true (by first | (with_reducible assumption) | assumption); have q461 : t459 < (t454.length : Int) := of_decide_eq_true (by first | (with_reducible assumption) | assumption); obtain ⟨ad461, A461_3, c461_3, A461_5, c461_5, e461, hx461_0, hx461_1, hx461_2, hx461_3, hx461_4, hx461_5, hl461_3, hi461_3, hl461_5, hi461_5⟩ := at_T41 (Kd.V_reads' HO_4.out).2.2 t459 p461 q461; cases e461; obtain ⟨ce461, hce461, hMe461, hcc461⟩ := Kd.V_get HO_4.out z41 t459 p461 (by first | exact q461 | exact of_decide_eq_true (by first | (with_reducible assumption) | assumption) | (have e_ := (Kd.V_reads' HO_4.out).1; omega)); obtain ⟨ua461_3, uc461_3, ua461_5, uc461_5, rfl, ul461_3, ge461_3, ul461_5, ge461_5⟩ := k41_openF hMe461; have hv461_3 := hcc461 3 _ rfl; rw [add_field _ _ 3 (by omega)] at hv461_3; replace hv461_3 := Option.some.inj (hv461_3.symm.trans hx461_3); injection hv461_3 with hva_ hvn_ hvc_; rw [hva_] at ge461_3; rw [hvc_] at ul461_3; have HL461_3 := Aside0.mk (show Kd.V (Kd.int .i64) 3 _ w.heap.size _ _ ((rd_T41 t454 t459).f3) from Kd.V_mk ul461_3 ge461_3); clear hva_ hvn_ hvc_ ge461_3 ul461_3; have hv461_5 := hcc461 5 _ rfl; rw [add_field _ _ 5 (by omega)] at hv461_5; replace hv461_5 := Option.some.inj (hv461_5.symm.trans hx461_5); injection hv461_5 with hva_ hvn_ hvc_; rw [hva_] at ge461_5; rw [hvc_] at ul461_5; have HL461_5 := Aside0.mk (show Kd.V (Kd.int .i64) 3 _ w.heap.size _ _ ((rd_T41 t454 t459).f5) from Kd.V_mk ul461_5 ge461_5); clear hva_ hvn_ hvc_ ge461_5 ul461_5; clear hcc461 hce461; have HR461_3 := Aside0.mk hi461_3; have HC461_3 := Aside0.mk hl461_3; clear hi461_3 hl461_3; have HR461_5 := Aside0.mk hi461_5; have HC461_5 := Aside0.mk hl461_5; clear hi461_5 hl461_5; replace p461 := eq_true p461; replace q461 := eq_true q461))
          all_goals go_ret
          all_goals exact ⟨by first | rfl | (simp [errW_none, errW_some] <;> rfl) | (simp [*, errW_none, errW_some] <;> rfl), by repeat (first | (with_reducible first | exact HB.out | apply below_alloc | apply pw_below_drewN | apply below_drew1) | exact HB.out)⟩
        ·rw [if_neg c18] at H
         have c18b0 : decide (((rd_T41 t451 t459).f0) < 0) = false := decide_eq_false c18
         clear c18
         by_cases c24 : ((rd_T41 t454 t459).f0) < ((rd_T41 t451 t459).f0)
         ·rw [if_pos c24] at H
          have c24b0 : decide (((rd_T41 t454 t459).f0) < ((rd_T41 t451 t459).f0)) = true := decide_eq_true c24
          clear c24
          by_cases c25 : t457 = ((rd_T41 t454 t459).f0)
          ·rw [if_pos c25] at H
           have c25b0 : (t457 == ((rd_T41 t454 t459).f0)) = true := beq_iff_eq.mpr c25
           have c25b1 : (t457 != ((rd_T41 t454 t459).f0)) = false := bne_eq_false_iff_eq.mpr c25
           clear c25
           replace H := Option.bind_eq_some_iff.mp H
           obtain ⟨t465, A260, H⟩ := H
           replace H : (some (t465 == t457)) = some r := H
           have A26 := Aside0.mk A260
           clear A260
           obtain rfl := Option.some.inj H
           go_wp2_with (first | ((with_reducible refine gate_callee (f := 22) rfl ?_); refine goesL_ (some 35) rfl rfl Try.func22 (by kernel_rfl) rfl #[.slice Ao8 t451.length co8, .slice Ao9 t454.length co9] rfl (by (try simp only [List.map_toArray, List.map_cons, List.map_nil]); first | done | rfl | (simp only [List.length_drop, List.length_take]; rfl)) ?_; (with_reducible refine (impl_RecordsCommon.calls kj5 _ _ t451 _ _ t454 t459 _ ?side1 ?side2 ?side3 ?side4 A14.out).mono ?_); (case side1 => repeat (first | exact (Kd.V_reads' HO_3.out).2.2 | (with_reducible refine Kd.C_alloc ?_ _) | (with_reducible refine Kd.C_drewN ?_ _) | (with_reducible refine Kd.C_drew ?_))); (case side2 => exact (Kd.V_reads' HO_3.out).2.1); (case side3 => repeat (first | exact (Kd.V_reads' HO_4.out).2.2 | (with_reducible refine Kd.C_alloc ?_ _) | (with_reducible refine Kd.C_drewN ?_ _) | (with_reducible refine Kd.C_drew ?_))); (case side4 => exact (Kd.V_reads' HO_4.out).2.1); rintro e w27 ⟨rfl, hb⟩; refine ⟨_, rfl, ?_⟩; have n0_ := Aside0.mk (Kd.V_below (by (with_reducible repeat (first | apply Kd.V_alloc | apply Kd.V_drewN | apply Kd.V_drew)); exact HO_3.out) hb); have n1_ := Aside0.mk (Kd.V_below (by (with_reducible repeat (first | apply Kd.V_alloc | apply Kd.V_drewN | apply Kd.V_drew)); exact HO_4.out) hb); have n2_ := Aside0.mk (below_step (by repeat (first | (with_reducible first | exact HB.out | apply below_alloc | apply pw_below_drewN | apply below_drew1) | exact HB.out)) hb); clear HO_3; clear HO_4; clear HB; have HO_3 := n0_; have HO_4 := n1_; have HB := n2_; clear n0_ n1_ n2_; (try clear hb); (try clear hb2); (try clear hk); (try clear hi); have p460 : 0 ≤ (t459 : Int) := of_decide_eq_true (by first | (with_reducible assumption) | assumption); have q460 : t459 < (t451.length : Int) := of_decide_eq_true (by first | (with_reducible assumption) | assumption); obtain ⟨ad460, A460_3, c460_3, A460_5, c460_5, e460, hx460_0, hx460_1, hx460_2, hx460_3, hx460_4, hx460_5, hl460_3, hi460_3, hl460_5, hi460_5⟩ := at_T41 (Kd.V_reads' HO_3.out).2.2 t459 p460 q460; cases e460; obtain ⟨ce460, hce460, hMe460, hcc460⟩ := Kd.V_get HO_3.out z41 t459 p460 (by first | exact q460 | exact of_decide_eq_true (by first | (with_reducible assumption) | assumption) | (have e_ := (Kd.V_reads' HO_3.out).1; omega)); obtain ⟨ua460_3, uc460_3, ua460_5, uc460_5, rfl, ul460_3, ge460_3, ul460_5, ge460_5⟩ := k41_openF hMe460; have hv460_3 := hcc460 3 _ rfl; rw [add_field _ _ 3 (by omega)] at hv460_3; replace hv460_3 := Option.some.inj (hv460_3.symm.trans hx460_3); injection hv460_3 with hva_ hvn_ hvc_; rw [hva_] at ge460_3; rw [hvc_] at ul460_3; have HL460_3 := Aside0.mk (show Kd.V (Kd.int .i64) 3 _ w.heap.size _ _ ((rd_T41 t451 t459).f3) from Kd.V_mk ul460_3 ge460_3); clear hva_ hvn_ hvc_ ge460_3 ul460_3; have hv460_5 := hcc460 5 _ rfl; rw [add_field _ _ 5 (by omega)] at hv460_5; replace hv460_5 := Option.some.inj (hv460_5.symm.trans hx460_5); injection hv460_5 with hva_ hvn_ hvc_; rw [hva_] at ge460_5; rw [hvc_] at ul460_5; have HL460_5 := Aside0.mk (show Kd.V (Kd.int .i64) 3 _ w.heap.size _ _ ((rd_T41 t451 t459).f5) from Kd.V_mk ul460_5 ge460_5); clear hva_ hvn_ hvc_ ge460_5 ul460_5; clear hcc460 hce460; have HR460_3 := Aside0.mk hi460_3; have HC460_3 := Aside0.mk hl460_3; clear hi460_3 hl460_3; have HR460_5 := Aside0.mk hi460_5; have HC460_5 := Aside0.mk hl460_5; clear hi460_5 hl460_5; replace p460 := eq_true p460; replace q460 := eq_true q460; have p463 : 0 ≤ (t459 : Int) := of_decide_eq_true (by first | (with_reducible assumption) | assumption); have q463 : t459 < (t454.length : Int) := of_decide_eq_true (by first | (with_reducible assumption) | assumption); obtain ⟨ad463, A463_3, c463_3, A463_5, c463_5, e463, hx463_0, hx463_1, hx463_2, hx463_3, hx463_4, hx463_5, hl463_3, hi463_3, hl463_5, hi463_5⟩ := at_T41 (Kd.V_reads' HO_4.out).2.2 t459 p463 q463; cases e463; obtain ⟨ce463, hce463, hMe463, hcc463⟩ := Kd.V_get HO_4.out z41 t459 p463 (by first | exact q463 | exact of_decide_eq_true (by first | (with_reducible assumption) | assumption) | (have e_ := (Kd.V_reads' HO_4.out).1; omega)); obtain ⟨ua463_3, uc463_3, ua463_5, uc463_5, rfl, ul463_3, ge463_3, ul463_5, ge463_5⟩ := k41_openF hMe463; have hv463_3 := hcc463 3 _ rfl; rw [add_field _ _ 3 (by omega)] at hv463_3; replace hv463_3 := Option.some.inj (hv463_3.symm.trans hx463_3); injection hv463_3 with hva_ hvn_ hvc_; rw [hva_] at ge463_3; rw [hvc_] at ul463_3; have HL463_3 := Aside0.mk (show Kd.V (Kd.int .i64) 3 _ w.heap.size _ _ ((rd_T41 t454 t459).f3) from Kd.V_mk ul463_3 ge463_3); clear hva_ hvn_ hvc_ ge463_3 ul463_3; have hv463_5 := hcc463 5 _ rfl; rw [add_field _ _ 5 (by omega)] at hv463_5; replace hv463_5 := Option.some.inj (hv463_5.symm.trans hx463_5); injection hv463_5 with hva_ hvn_ hvc_; rw [hva_] at ge463_5; rw [hvc_] at ul463_5; have HL463_5 := Aside0.mk (show Kd.V (Kd.int .i64) 3 _ w.heap.size _ _ ((rd_T41 t454 t459).f5) from Kd.V_mk ul463_5 ge463_5); clear hva_ hvn_ hvc_ ge463_5 ul463_5; clear hcc463 hce463; have HR463_3 := Aside0.mk hi463_3; have HC463_3 := Aside0.mk hl463_3; clear hi463_3 hl463_3; have HR463_5 := Aside0.mk hi463_5; have HC463_5 := Aside0.mk hl463_5; clear hi463_5 hl463_5; replace p463 := eq_true p463; replace q463 := eq_true q463; have p464 : 0 ≤ (t459 : Int) := of_decide_eq_true (by first | (with_reducible assumption) | assumption); have q464 : t459 < (t454.length : Int) := of_decide_eq_true (by first | (with_reducible assumption) | assumption); obtain ⟨ad464, A464_3, c464_3, A464_5, c464_5, e464, hx464_0, hx464_1, hx464_2, hx464_3, hx464_4, hx464_5, hl464_3, hi464_3, hl464_5, hi464_5⟩ := at_T41 (Kd.V_reads' HO_4.out).2.2 t459 p464 q464; obtain rfl : ad463 = ad464 := (by injection e464); obtain ⟨ce464, hce464, hMe464, hcc464⟩ := Kd.V_get HO_4.out z41 t459 p464 (by first | exact q464 | exact of_decide_eq_true (by first | (with_reducible assumption) | assumption) | (have e_ := (Kd.V_reads' HO_4.out).1; omega)); obtain ⟨ua464_3, uc464_3, ua464_5, uc464_5, rfl, ul464_3, ge464_3, ul464_5, ge464_5⟩ := k41_openF hMe464; have hv464_3 := hcc464 3 _ rfl; rw [add_field _ _ 3 (by omega)] at hv464_3; replace hv464_3 := Option.some.inj (hv464_3.symm.trans hx464_3); injection hv464_3 with hva_ hvn_ hvc_; rw [hva_] at ge464_3; rw [hvc_] at ul464_3; have HL464_3 := Aside0.mk (show Kd.V (Kd.int .i64) 3 _ w.heap.size _ _ ((rd_T41 t454 t459).f3) from Kd.V_mk ul464_3 ge464_3); clear hva_ hvn_ hvc_ ge464_3 ul464_3; have hv464_5 := hcc464 5 _ rfl; rw [add_field _ _ 5 (by omega)] at hv464_5; replace hv464_5 := Option.some.inj (hv464_5.symm.trans hx464_5); injection hv464_5 with hva_ hvn_ hvc_; rw [hva_] at ge464_5; rw [hvc_] at ul464_5; have HL464_5 := Aside0.mk (show Kd.V (Kd.int .i64) 3 _ w.heap.size _ _ ((rd_T41 t454 t459).f5) from Kd.V_mk ul464_5 ge464_5); clear hva_ hvn_ hvc_ ge464_5 ul464_5; clear hcc464 hce464; have HR464_3 := Aside0.mk hi464_3; have HC464_3 := Aside0.mk hl464_3; clear hi464_3 hl464_3; have HR464_5 := Aside0.mk hi464_5; have HC464_5 := Aside0.mk hl464_5; clear hi464_5 hl464_5; replace p464 := eq_true p464; replace q464 := eq_true q464; have ea_ := Option.some.inj (hx463_3.symm.trans hx464_3); injection ea_ with ea_ en_ ec_; subst ea_; subst ec_; clear en_; have ea_ := Option.some.inj (hx463_5.symm.trans hx464_5); injection ea_ with ea_ en_ ec_; subst ea_; subst ec_; clear en_) | (go_at_call 27; (with_reducible refine (impl_RecordsApart.calls kj5 _ _ t454 _ _ t451 t465 _ ?side1 ?side2 ?side3 ?side4 A26.out).mono ?_); (case side1 => repeat (first | exact (Kd.V_reads' HO_4.out).2.2 | (with_reducible refine Kd.C_alloc ?_ _) | (with_reducible refine Kd.C_drewN ?_ _) | (with_reducible refine Kd.C_drew ?_))); (case side2 => exact (Kd.V_reads' HO_4.out).2.1); (case side3 => repeat (first | exact (Kd.V_reads' HO_3.out).2.2 | (with_reducible refine Kd.C_alloc ?_ _) | (with_reducible refine Kd.C_drewN ?_ _) | (with_reducible refine Kd.C_drew ?_))); (case side4 => exact (Kd.V_reads' HO_3.out).2.1); rintro e w28 ⟨rfl, hb⟩; have n0_ := Aside0.mk (Kd.V_below (by (with_reducible repeat (first | apply Kd.V_alloc | apply Kd.V_drewN | apply Kd.V_drew)); exact HO_3.out) hb); have n1_ := Aside0.mk (Kd.V_below (by (with_reducible repeat (first | apply Kd.V_alloc | apply Kd.V_drewN | apply Kd.V_drew)); exact HO_4.out) hb); have n2_ := Aside0.mk (Kd.V_below (by (with_reducible repeat (first | apply Kd.V_alloc | apply Kd.V_drewN | apply Kd.V_drew)); exact HL460_3.out) hb); have n3_ := Aside0.mk (Kd.V_below (by (with_reducible repeat (first | apply Kd.V_alloc | apply Kd.V_drewN | apply Kd.V_drew)); exact HL460_5.out) hb); have n4_ := Aside0.mk (Kd.V_below (by (with_reducible repeat (first | apply Kd.V_alloc | apply Kd.V_drewN | apply Kd.V_drew)); exact HL463_3.out) hb); have n5_ := Aside0.mk (Kd.V_below (by (with_reducible repeat (first | apply Kd.V_alloc | apply Kd.V_drewN | apply Kd.V_drew)); exact HL463_5.out) hb); have n6_ := Aside0.mk (Kd.V_below (by (with_reducible repeat (first | apply Kd.V_alloc | apply Kd.V_drewN | apply Kd.V_drew)); exact HL464_3.out) hb); have n7_ := Aside0.mk (Kd.V_below (by (with_reducible repeat (first | apply Kd.V_alloc | apply Kd.V_drewN | apply Kd.V_drew)); exact HL464_5.out) hb); have n8_ := Aside0.mk (Kd.C_below (by repeat (first | (with_reducible exact HR460_3.out) | (with_reducible refine Kd.C_alloc ?_ _) | (with_reducible refine Kd.C_drewN ?_ _) | (with_reducible refine Kd.C_drew ?_) | exact HR460_3.out)) hb); have n9_ := Aside0.mk (Kd.C_below (by repeat (first | (with_reducible exact HR460_5.out) | (with_reducible refine Kd.C_alloc ?_ _) | (with_reducible refine Kd.C_drewN ?_ _) | (with_reducible refine Kd.C_drew ?_) | exact HR460_5.out)) hb); have n10_ := Aside0.mk (Kd.C_below (by repeat (first | (with_reducible exact HR463_3.out) | (with_reducible refine Kd.C_alloc ?_ _) | (with_reducible refine Kd.C_drewN ?_ _) | (with_reducible refine Kd.C_drew ?_) | exact HR463_3.out)) hb); have n11_ := Aside0.mk (Kd.C_below (by repeat (first | (with_reducible exact HR463_5.out) | (with_reducible refine Kd.C_alloc ?_ _) | (with_reducible refine Kd.C_drewN ?_ _) | (with_reducible refine Kd.C_drew ?_) | exact HR463_5.out)) hb); have n12_ := Aside0.mk (Kd.C_below (by repeat (first | (with_reducible exact HR464_3.out) | (with_reducible refine Kd.C_alloc ?_ _) | (with_reducible refine Kd.C_drewN ?_ _) | (with_reducible refine Kd.C_drew ?_) | exact HR464_3.out)) hb); have n13_ := Aside0.mk (Kd.C_below (by repeat (first | (with_reducible exact HR464_5.out) | (with_reducible refine Kd.C_alloc ?_ _) | (with_reducible refine Kd.C_drewN ?_ _) | (with_reducible refine Kd.C_drew ?_) | exact HR464_5.out)) hb); have n14_ := Aside0.mk (below_step (by repeat (first | (with_reducible first | exact HB.out | apply below_alloc | apply pw_below_drewN | apply below_drew1) | exact HB.out)) hb); clear HO_3; clear HO_4; clear HL460_3; clear HL460_5; clear HL463_3; clear HL463_5; clear HL464_3; clear HL464_5; clear HR460_3; clear HR460_5; clear HR463_3; clear HR463_5; clear HR464_3; clear HR464_5; clear HB; have HO_3 := n0_; have HO_4 := n1_; have HL460_3 := n2_; have HL460_5 := n3_; have HL463_3 := n4_; have HL463_5 := n5_; have HL464_3 := n6_; have HL464_5 := n7_; have HR460_3 := n8_; have HR460_5 := n9_; have HR463_3 := n10_; have HR463_5 := n11_; have HR464_3 := n12_; have HR464_5 := n13_; have HB := n14_; clear n0_ n1_ n2_ n3_ n4_ n5_ n6_ n7_ n8_ n9_ n10_ n11_ n12_ n13_ n14_; (try clear hb); (try clear hb2); (try clear hk); (try clear hi)))
           all_goals go_ret
           all_goals exact ⟨by first | rfl | (simp [errW_none, errW_some] <;> rfl) | (simp [*, errW_none, errW_some] <;> rfl), by repeat (first | (with_reducible first | exact HB.out | apply below_alloc | apply pw_below_drewN | apply below_drew1) | exact HB.out)⟩
          ·rw [if_neg c25] at H
           have c25b0 : (t457 == ((rd_T41 t454 t459).f0)) = false := beq_eq_false_iff_ne.mpr c25
           have c25b1 : (t457 != ((rd_T41 t454 t459).f0)) = true := bne_iff_ne.mpr c25
           obtain rfl := Option.some.inj H
           go_wp2_with (first | ((with_reducible refine gate_callee (f := 22) rfl ?_); refine goesL_ (some 35) rfl rfl Try.func22 (by kernel_rfl) rfl #[.slice Ao8 t451.length co8, .slice Ao9 t454.length co9] rfl (by (try simp only [List.map_toArray, List.map_cons, List.map_nil]); first | done | rfl | (simp only [List.length_drop, List.length_take]; rfl)) ?_; (with_reducible refine (impl_RecordsCommon.calls kj5 _ _ t451 _ _ t454 t459 _ ?side1 ?side2 ?side3 ?side4 A14.out).mono ?_); (case side1 => repeat (first | exact (Kd.V_reads' HO_3.out).2.2 | (with_reducible refine Kd.C_alloc ?_ _) | (with_reducible refine Kd.C_drewN ?_ _) | (with_reducible refine Kd.C_drew ?_))); (case side2 => exact (Kd.V_reads' HO_3.out).2.1); (case side3 => repeat (first | exact (Kd.V_reads' HO_4.out).2.2 | (with_reducible refine Kd.C_alloc ?_ _) | (with_reducible refine Kd.C_drewN ?_ _) | (with_reducible refine Kd.C_drew ?_))); (case side4 => exact (Kd.V_reads' HO_4.out).2.1); rintro e w29 ⟨rfl, hb⟩; refine ⟨_, rfl, ?_⟩; have n0_ := Aside0.mk (Kd.V_below (by (with_reducible repeat (first | apply Kd.V_alloc | apply Kd.V_drewN | apply Kd.V_drew)); exact HO_3.out) hb); have n1_ := Aside0.mk (Kd.V_below (by (with_reducible repeat (first | apply Kd.V_alloc | apply Kd.V_drewN | apply Kd.V_drew)); exact HO_4.out) hb); have n2_ := Aside0.mk (below_step (by repeat (first | (with_reducible first | exact HB.out | apply below_alloc | apply pw_below_drewN | apply below_drew1) | exact HB.out)) hb); clear HO_3; clear HO_4; clear HB; have HO_3 := n0_; have HO_4 := n1_; have HB := n2_; clear n0_ n1_ n2_; (try clear hb); (try clear hb2); (try clear hk); (try clear hi); have p460 : 0 ≤ (t459 : Int) := of_decide_eq_true (by first | (with_reducible assumption) | assumption); have q460 : t459 < (t451.length : Int) := of_decide_eq_true (by first | (with_reducible assumption) | assumption); obtain ⟨ad460, A460_3, c460_3, A460_5, c460_5, e460, hx460_0, hx460_1, hx460_2, hx460_3, hx460_4, hx460_5, hl460_3, hi460_3, hl460_5, hi460_5⟩ := at_T41 (Kd.V_reads' HO_3.out).2.2 t459 p460 q460; cases e460; obtain ⟨ce460, hce460, hMe460, hcc460⟩ := Kd.V_get HO_3.out z41 t459 p460 (by first | exact q460 | exact of_decide_eq_true (by first | (with_reducible assumption) | assumption) | (have e_ := (Kd.V_reads' HO_3.out).1; omega)); obtain ⟨ua460_3, uc460_3, ua460_5, uc460_5, rfl, ul460_3, ge460_3, ul460_5, ge460_5⟩ := k41_openF hMe460; have hv460_3 := hcc460 3 _ rfl; rw [add_field _ _ 3 (by omega)] at hv460_3; replace hv460_3 := Option.some.inj (hv460_3.symm.trans hx460_3); injection hv460_3 with hva_ hvn_ hvc_; rw [hva_] at ge460_3; rw [hvc_] at ul460_3; have HL460_3 := Aside0.mk (show Kd.V (Kd.int .i64) 3 _ w.heap.size _ _ ((rd_T41 t451 t459).f3) from Kd.V_mk ul460_3 ge460_3); clear hva_ hvn_ hvc_ ge460_3 ul460_3; have hv460_5 := hcc460 5 _ rfl; rw [add_field _ _ 5 (by omega)] at hv460_5; replace hv460_5 := Option.some.inj (hv460_5.symm.trans hx460_5); injection hv460_5 with hva_ hvn_ hvc_; rw [hva_] at ge460_5; rw [hvc_] at ul460_5; have HL460_5 := Aside0.mk (show Kd.V (Kd.int .i64) 3 _ w.heap.size _ _ ((rd_T41 t451 t459).f5) from Kd.V_mk ul460_5 ge460_5); clear hva_ hvn_ hvc_ ge460_5 ul460_5; clear hcc460 hce460; have HR460_3 := Aside0.mk hi460_3; have HC460_3 := Aside0.mk hl460_3; clear hi460_3 hl460_3; have HR460_5 := Aside0.mk hi460_5; have HC460_5 := Aside0.mk hl460_5; clear hi460_5 hl460_5; replace p460 := eq_true p460; replace q460 := eq_true q460; have p463 : 0 ≤ (t459 : Int) := of_decide_eq_true (by first | (with_reducible assumption) | assumption); have q463 : t459 < (t454.length : Int) := of_decide_eq_true (by first | (with_reducible assumption) | assumption); obtain ⟨ad463, A463_3, c463_3, A463_5, c463_5, e463, hx463_0, hx463_1, hx463_2, hx463_3, hx463_4, hx463_5, hl463_3, hi463_3, hl463_5, hi463_5⟩ := at_T41 (Kd.V_reads' HO_4.out).2.2 t459 p463 q463; cases e463; obtain ⟨ce463, hce463, hMe463, hcc463⟩ := Kd.V_get HO_4.out z41 t459 p463 (by first | exact q463 | exact of_decide_eq_true (by first | (with_reducible assumption) | assumption) | (have e_ := (Kd.V_reads' HO_4.out).1; omega)); obtain ⟨ua463_3, uc463_3, ua463_5, uc463_5, rfl, ul463_3, ge463_3, ul463_5, ge463_5⟩ := k41_openF hMe463; have hv463_3 := hcc463 3 _ rfl; rw [add_field _ _ 3 (by omega)] at hv463_3; replace hv463_3 := Option.some.inj (hv463_3.symm.trans hx463_3); injection hv463_3 with hva_ hvn_ hvc_; rw [hva_] at ge463_3; rw [hvc_] at ul463_3; have HL463_3 := Aside0.mk (show Kd.V (Kd.int .i64) 3 _ w.heap.size _ _ ((rd_T41 t454 t459).f3) from Kd.V_mk ul463_3 ge463_3); clear hva_ hvn_ hvc_ ge463_3 ul463_3; have hv463_5 := hcc463 5 _ rfl; rw [add_field _ _ 5 (by omega)] at hv463_5; replace hv463_5 := Option.some.inj (hv463_5.symm.trans hx463_5); injection hv463_5 with hva_ hvn_ hvc_; rw [hva_] at ge463_5; rw [hvc_] at ul463_5; have HL463_5 := Aside0.mk (show Kd.V (Kd.int .i64) 3 _ w.heap.size _ _ ((rd_T41 t454 t459).f5) from Kd.V_mk ul463_5 ge463_5); clear hva_ hvn_ hvc_ ge463_5 ul463_5; clear hcc463 hce463; have HR463_3 := Aside0.mk hi463_3; have HC463_3 := Aside0.mk hl463_3; clear hi463_3 hl463_3; have HR463_5 := Aside0.mk hi463_5; have HC463_5 := Aside0.mk hl463_5; clear hi463_5 hl463_5; replace p463 := eq_true p463; replace q463 := eq_true q463; have p464 : 0 ≤ (t459 : Int) := of_decide_eq_true (by first | (with_reducible assumption) | assumption); have q464 : t459 < (t454.length : Int) := of_decide_eq_true (by first | (with_reducible assumption) | assumption); obtain ⟨ad464, A464_3, c464_3, A464_5, c464_5, e464, hx464_0, hx464_1, hx464_2, hx464_3, hx464_4, hx464_5, hl464_3, hi464_3, hl464_5, hi464_5⟩ := at_T41 (Kd.V_reads' HO_4.out).2.2 t459 p464 q464; obtain rfl : ad463 = ad464 := (by injection e464); obtain ⟨ce464, hce464, hMe464, hcc464⟩ := Kd.V_get HO_4.out z41 t459 p464 (by first | exact q464 | exact of_decide_eq_true (by first | (with_reducible assumption) | assumption) | (have e_ := (Kd.V_reads' HO_4.out).1; omega)); obtain ⟨ua464_3, uc464_3, ua464_5, uc464_5, rfl, ul464_3, ge464_3, ul464_5, ge464_5⟩ := k41_openF hMe464; have hv464_3 := hcc464 3 _ rfl; rw [add_field _ _ 3 (by omega)] at hv464_3; replace hv464_3 := Option.some.inj (hv464_3.symm.trans hx464_3); injection hv464_3 with hva_ hvn_ hvc_; rw [hva_] at ge464_3; rw [hvc_] at ul464_3; have HL464_3 := Aside0.mk (show Kd.V (Kd.int .i64) 3 _ w.heap.size _ _ ((rd_T41 t454 t459).f3) from Kd.V_mk ul464_3 ge464_3); clear hva_ hvn_ hvc_ ge464_3 ul464_3; have hv464_5 := hcc464 5 _ rfl; rw [add_field _ _ 5 (by omega)] at hv464_5; replace hv464_5 := Option.some.inj (hv464_5.symm.trans hx464_5); injection hv464_5 with hva_ hvn_ hvc_; rw [hva_] at ge464_5; rw [hvc_] at ul464_5; have HL464_5 := Aside0.mk (show Kd.V (Kd.int .i64) 3 _ w.heap.size _ _ ((rd_T41 t454 t459).f5) from Kd.V_mk ul464_5 ge464_5); clear hva_ hvn_ hvc_ ge464_5 ul464_5; clear hcc464 hce464; have HR464_3 := Aside0.mk hi464_3; have HC464_3 := Aside0.mk hl464_3; clear hi464_3 hl464_3; have HR464_5 := Aside0.mk hi464_5; have HC464_5 := Aside0.mk hl464_5; clear hi464_5 hl464_5; replace p464 := eq_true p464; replace q464 := eq_true q464; have ea_ := Option.some.inj (hx463_3.symm.trans hx464_3); injection ea_ with ea_ en_ ec_; subst ea_; subst ec_; clear en_; have ea_ := Option.some.inj (hx463_5.symm.trans hx464_5); injection ea_ with ea_ en_ ec_; subst ea_; subst ec_; clear en_))
           all_goals go_ret
           all_goals exact ⟨by first | rfl | (simp [errW_none, errW_some] <;> rfl) | (simp [*, errW_none, errW_some] <;> rfl), by repeat (first | (with_reducible first | exact HB.out | apply below_alloc | apply pw_below_drewN | apply below_drew1) | exact HB.out)⟩
         ·rw [if_neg c24] at H
          have c24b0 : decide (((rd_T41 t454 t459).f0) < ((rd_T41 t451 t459).f0)) = false := decide_eq_false c24
          clear c24
          by_cases c30 : t457 = ((rd_T41 t451 t459).f0)
          ·rw [if_pos c30] at H
           have c30b0 : (t457 == ((rd_T41 t451 t459).f0)) = true := beq_iff_eq.mpr c30
           have c30b1 : (t457 != ((rd_T41 t451 t459).f0)) = false := bne_eq_false_iff_eq.mpr c30
           clear c30
           replace H := Option.bind_eq_some_iff.mp H
           obtain ⟨t466, A310, H⟩ := H
           replace H : (some (t466 == t457)) = some r := H
           have A31 := Aside0.mk A310
           clear A310
           obtain rfl := Option.some.inj H
           go_wp2_with (first | ((with_reducible refine gate_callee (f := 22) rfl ?_); refine goesL_ (some 35) rfl rfl Try.func22 (by kernel_rfl) rfl #[.slice Ao8 t451.length co8, .slice Ao9 t454.length co9] rfl (by (try simp only [List.map_toArray, List.map_cons, List.map_nil]); first | done | rfl | (simp only [List.length_drop, List.length_take]; rfl)) ?_; (with_reducible refine (impl_RecordsCommon.calls kj5 _ _ t451 _ _ t454 t459 _ ?side1 ?side2 ?side3 ?side4 A14.out).mono ?_); (case side1 => repeat (first | exact (Kd.V_reads' HO_3.out).2.2 | (with_reducible refine Kd.C_alloc ?_ _) | (with_reducible refine Kd.C_drewN ?_ _) | (with_reducible refine Kd.C_drew ?_))); (case side2 => exact (Kd.V_reads' HO_3.out).2.1); (case side3 => repeat (first | exact (Kd.V_reads' HO_4.out).2.2 | (with_reducible refine Kd.C_alloc ?_ _) | (with_reducible refine Kd.C_drewN ?_ _) | (with_reducible refine Kd.C_drew ?_))); (case side4 => exact (Kd.V_reads' HO_4.out).2.1); rintro e w32 ⟨rfl, hb⟩; refine ⟨_, rfl, ?_⟩; have n0_ := Aside0.mk (Kd.V_below (by (with_reducible repeat (first | apply Kd.V_alloc | apply Kd.V_drewN | apply Kd.V_drew)); exact HO_3.out) hb); have n1_ := Aside0.mk (Kd.V_below (by (with_reducible repeat (first | apply Kd.V_alloc | apply Kd.V_drewN | apply Kd.V_drew)); exact HO_4.out) hb); have n2_ := Aside0.mk (below_step (by repeat (first | (with_reducible first | exact HB.out | apply below_alloc | apply pw_below_drewN | apply below_drew1) | exact HB.out)) hb); clear HO_3; clear HO_4; clear HB; have HO_3 := n0_; have HO_4 := n1_; have HB := n2_; clear n0_ n1_ n2_; (try clear hb); (try clear hb2); (try clear hk); (try clear hi); have p460 : 0 ≤ (t459 : Int) := of_decide_eq_true (by first | (with_reducible assumption) | assumption); have q460 : t459 < (t451.length : Int) := of_decide_eq_true (by first | (with_reducible assumption) | assumption); obtain ⟨ad460, A460_3, c460_3, A460_5, c460_5, e460, hx460_0, hx460_1, hx460_2, hx460_3, hx460_4, hx460_5, hl460_3, hi460_3, hl460_5, hi460_5⟩ := at_T41 (Kd.V_reads' HO_3.out).2.2 t459 p460 q460; cases e460; obtain ⟨ce460, hce460, hMe460, hcc460⟩ := Kd.V_get HO_3.out z41 t459 p460 (by first | exact q460 | exact of_decide_eq_true (by first | (with_reducible assumption) | assumption) | (have e_ := (Kd.V_reads' HO_3.out).1; omega)); obtain ⟨ua460_3, uc460_3, ua460_5, uc460_5, rfl, ul460_3, ge460_3, ul460_5, ge460_5⟩ := k41_openF hMe460; have hv460_3 := hcc460 3 _ rfl; rw [add_field _ _ 3 (by omega)] at hv460_3; replace hv460_3 := Option.some.inj (hv460_3.symm.trans hx460_3); injection hv460_3 with hva_ hvn_ hvc_; rw [hva_] at ge460_3; rw [hvc_] at ul460_3; have HL460_3 := Aside0.mk (show Kd.V (Kd.int .i64) 3 _ w.heap.size _ _ ((rd_T41 t451 t459).f3) from Kd.V_mk ul460_3 ge460_3); clear hva_ hvn_ hvc_ ge460_3 ul460_3; have hv460_5 := hcc460 5 _ rfl; rw [add_field _ _ 5 (by omega)] at hv460_5; replace hv460_5 := Option.some.inj (hv460_5.symm.trans hx460_5); injection hv460_5 with hva_ hvn_ hvc_; rw [hva_] at ge460_5; rw [hvc_] at ul460_5; have HL460_5 := Aside0.mk (show Kd.V (Kd.int .i64) 3 _ w.heap.size _ _ ((rd_T41 t451 t459).f5) from Kd.V_mk ul460_5 ge460_5); clear hva_ hvn_ hvc_ ge460_5 ul460_5; clear hcc460 hce460; have HR460_3 := Aside0.mk hi460_3; have HC460_3 := Aside0.mk hl460_3; clear hi460_3 hl460_3; have HR460_5 := Aside0.mk hi460_5; have HC460_5 := Aside0.mk hl460_5; clear hi460_5 hl460_5; replace p460 := eq_true p460; replace q460 := eq_true q460; have p463 : 0 ≤ (t459 : Int) := of_decide_eq_true (by first | (with_reducible assumption) | assumption); have q463 : t459 < (t454.length : Int) := of_decide_eq_true (by first | (with_reducible assumption) | assumption); obtain ⟨ad463, A463_3, c463_3, A463_5, c463_5, e463, hx463_0, hx463_1, hx463_2, hx463_3, hx463_4, hx463_5, hl463_3, hi463_3, hl463_5, hi463_5⟩ := at_T41 (Kd.V_reads' HO_4.out).2.2 t459 p463 q463; cases e463; obtain ⟨ce463, hce463, hMe463, hcc463⟩ := Kd.V_get HO_4.out z41 t459 p463 (by first | exact q463 | exact of_decide_eq_true (by first | (with_reducible assumption) | assumption) | (have e_ := (Kd.V_reads' HO_4.out).1; omega)); obtain ⟨ua463_3, uc463_3, ua463_5, uc463_5, rfl, ul463_3, ge463_3, ul463_5, ge463_5⟩ := k41_openF hMe463; have hv463_3 := hcc463 3 _ rfl; rw [add_field _ _ 3 (by omega)] at hv463_3; replace hv463_3 := Option.some.inj (hv463_3.symm.trans hx463_3); injection hv463_3 with hva_ hvn_ hvc_; rw [hva_] at ge463_3; rw [hvc_] at ul463_3; have HL463_3 := Aside0.mk (show Kd.V (Kd.int .i64) 3 _ w.heap.size _ _ ((rd_T41 t454 t459).f3) from Kd.V_mk ul463_3 ge463_3); clear hva_ hvn_ hvc_ ge463_3 ul463_3; have hv463_5 := hcc463 5 _ rfl; rw [add_field _ _ 5 (by omega)] at hv463_5; replace hv463_5 := Option.some.inj (hv463_5.symm.trans hx463_5); injection hv463_5 with hva_ hvn_ hvc_; rw [hva_] at ge463_5; rw [hvc_] at ul463_5; have HL463_5 := Aside0.mk (show Kd.V (Kd.int .i64) 3 _ w.heap.size _ _ ((rd_T41 t454 t459).f5) from Kd.V_mk ul463_5 ge463_5); clear hva_ hvn_ hvc_ ge463_5 ul463_5; clear hcc463 hce463; have HR463_3 := Aside0.mk hi463_3; have HC463_3 := Aside0.mk hl463_3; clear hi463_3 hl463_3; have HR463_5 := Aside0.mk hi463_5; have HC463_5 := Aside0.mk hl463_5; clear hi463_5 hl463_5; replace p463 := eq_true p463; replace q463 := eq_true q463) | (go_at_call 27; (with_reducible refine (impl_RecordsApart.calls kj5 _ _ t454 _ _ t451 t466 _ ?side1 ?side2 ?side3 ?side4 A31.out).mono ?_); (case side1 => repeat (first | exact (Kd.V_reads' HO_4.out).2.2 | (with_reducible refine Kd.C_alloc ?_ _) | (with_reducible refine Kd.C_drewN ?_ _) | (with_reducible refine Kd.C_drew ?_))); (case side2 => exact (Kd.V_reads' HO_4.out).2.1); (case side3 => repeat (first | exact (Kd.V_reads' HO_3.out).2.2 | (with_reducible refine Kd.C_alloc ?_ _) | (with_reducible refine Kd.C_drewN ?_ _) | (with_reducible refine Kd.C_drew ?_))); (case side4 => exact (Kd.V_reads' HO_3.out).2.1); rintro e w33 ⟨rfl, hb⟩; have n0_ := Aside0.mk (Kd.V_below (by (with_reducible repeat (first | apply Kd.V_alloc | apply Kd.V_drewN | apply Kd.V_drew)); exact HO_3.out) hb); have n1_ := Aside0.mk (Kd.V_below (by (with_reducible repeat (first | apply Kd.V_alloc | apply Kd.V_drewN | apply Kd.V_drew)); exact HO_4.out) hb); have n2_ := Aside0.mk (Kd.V_below (by (with_reducible repeat (first | apply Kd.V_alloc | apply Kd.V_drewN | apply Kd.V_drew)); exact HL460_3.out) hb); have n3_ := Aside0.mk (Kd.V_below (by (with_reducible repeat (first | apply Kd.V_alloc | apply Kd.V_drewN | apply Kd.V_drew)); exact HL460_5.out) hb); have n4_ := Aside0.mk (Kd.V_below (by (with_reducible repeat (first | apply Kd.V_alloc | apply Kd.V_drewN | apply Kd.V_drew)); exact HL463_3.out) hb); have n5_ := Aside0.mk (Kd.V_below (by (with_reducible repeat (first | apply Kd.V_alloc | apply Kd.V_drewN | apply Kd.V_drew)); exact HL463_5.out) hb); have n6_ := Aside0.mk (Kd.C_below (by repeat (first | (with_reducible exact HR460_3.out) | (with_reducible refine Kd.C_alloc ?_ _) | (with_reducible refine Kd.C_drewN ?_ _) | (with_reducible refine Kd.C_drew ?_) | exact HR460_3.out)) hb); have n7_ := Aside0.mk (Kd.C_below (by repeat (first | (with_reducible exact HR460_5.out) | (with_reducible refine Kd.C_alloc ?_ _) | (with_reducible refine Kd.C_drewN ?_ _) | (with_reducible refine Kd.C_drew ?_) | exact HR460_5.out)) hb); have n8_ := Aside0.mk (Kd.C_below (by repeat (first | (with_reducible exact HR463_3.out) | (with_reducible refine Kd.C_alloc ?_ _) | (with_reducible refine Kd.C_drewN ?_ _) | (with_reducible refine Kd.C_drew ?_) | exact HR463_3.out)) hb); have n9_ := Aside0.mk (Kd.C_below (by repeat (first | (with_reducible exact HR463_5.out) | (with_reducible refine Kd.C_alloc ?_ _) | (with_reducible refine Kd.C_drewN ?_ _) | (with_reducible refine Kd.C_drew ?_) | exact HR463_5.out)) hb); have n10_ := Aside0.mk (below_step (by repeat (first | (with_reducible first | exact HB.out | apply below_alloc | apply pw_below_drewN | apply below_drew1) | exact HB.out)) hb); clear HO_3; clear HO_4; clear HL460_3; clear HL460_5; clear HL463_3; clear HL463_5; clear HR460_3; clear HR460_5; clear HR463_3; clear HR463_5; clear HB; have HO_3 := n0_; have HO_4 := n1_; have HL460_3 := n2_; have HL460_5 := n3_; have HL463_3 := n4_; have HL463_5 := n5_; have HR460_3 := n6_; have HR460_5 := n7_; have HR463_3 := n8_; have HR463_5 := n9_; have HB := n10_; clear n0_ n1_ n2_ n3_ n4_ n5_ n6_ n7_ n8_ n9_ n10_; (try clear hb); (try clear hb2); (try clear hk); (try clear hi)))
           all_goals go_ret
           all_goals exact ⟨by first | rfl | (simp [errW_none, errW_some] <;> rfl) | (simp [*, errW_none, errW_some] <;> rfl), by repeat (first | (with_reducible first | exact HB.out | apply below_alloc | apply pw_below_drewN | apply below_drew1) | exact HB.out)⟩
          ·rw [if_neg c30] at H
           have c30b0 : (t457 == ((rd_T41 t451 t459).f0)) = false := beq_eq_false_iff_ne.mpr c30
           have c30b1 : (t457 != ((rd_T41 t451 t459).f0)) = true := bne_iff_ne.mpr c30
           obtain rfl := Option.some.inj H
           go_wp2_with (first | ((with_reducible refine gate_callee (f := 22) rfl ?_); refine goesL_ (some 35) rfl rfl Try.func22 (by kernel_rfl) rfl #[.slice Ao8 t451.length co8, .slice Ao9 t454.length co9] rfl (by (try simp only [List.map_toArray, List.map_cons, List.map_nil]); first | done | rfl | (simp only [List.length_drop, List.length_take]; rfl)) ?_; (with_reducible refine (impl_RecordsCommon.calls kj5 _ _ t451 _ _ t454 t459 _ ?side1 ?side2 ?side3 ?side4 A14.out).mono ?_); (case side1 => repeat (first | exact (Kd.V_reads' HO_3.out).2.2 | (with_reducible refine Kd.C_alloc ?_ _) | (with_reducible refine Kd.C_drewN ?_ _) | (with_reducible refine Kd.C_drew ?_))); (case side2 => exact (Kd.V_reads' HO_3.out).2.1); (case side3 => repeat (first | exact (Kd.V_reads' HO_4.out).2.2 | (with_reducible refine Kd.C_alloc ?_ _) | (with_reducible refine Kd.C_drewN ?_ _) | (with_reducible refine Kd.C_drew ?_))); (case side4 => exact (Kd.V_reads' HO_4.out).2.1); rintro e w34 ⟨rfl, hb⟩; refine ⟨_, rfl, ?_⟩; have n0_ := Aside0.mk (Kd.V_below (by (with_reducible repeat (first | apply Kd.V_alloc | apply Kd.V_drewN | apply Kd.V_drew)); exact HO_3.out) hb); have n1_ := Aside0.mk (Kd.V_below (by (with_reducible repeat (first | apply Kd.V_alloc | apply Kd.V_drewN | apply Kd.V_drew)); exact HO_4.out) hb); have n2_ := Aside0.mk (below_step (by repeat (first | (with_reducible first | exact HB.out | apply below_alloc | apply pw_below_drewN | apply below_drew1) | exact HB.out)) hb); clear HO_3; clear HO_4; clear HB; have HO_3 := n0_; have HO_4 := n1_; have HB := n2_; clear n0_ n1_ n2_; (try clear hb); (try clear hb2); (try clear hk); (try clear hi); have p460 : 0 ≤ (t459 : Int) := of_decide_eq_true (by first | (with_reducible assumption) | assumption); have q460 : t459 < (t451.length : Int) := of_decide_eq_true (by first | (with_reducible assumption) | assumption); obtain ⟨ad460, A460_3, c460_3, A460_5, c460_5, e460, hx460_0, hx460_1, hx460_2, hx460_3, hx460_4, hx460_5, hl460_3, hi460_3, hl460_5, hi460_5⟩ := at_T41 (Kd.V_reads' HO_3.out).2.2 t459 p460 q460; cases e460; obtain ⟨ce460, hce460, hMe460, hcc460⟩ := Kd.V_get HO_3.out z41 t459 p460 (by first | exact q460 | exact of_decide_eq_true (by first | (with_reducible assumption) | assumption) | (have e_ := (Kd.V_reads' HO_3.out).1; omega)); obtain ⟨ua460_3, uc460_3, ua460_5, uc460_5, rfl, ul460_3, ge460_3, ul460_5, ge460_5⟩ := k41_openF hMe460; have hv460_3 := hcc460 3 _ rfl; rw [add_field _ _ 3 (by omega)] at hv460_3; replace hv460_3 := Option.some.inj (hv460_3.symm.trans hx460_3); injection hv460_3 with hva_ hvn_ hvc_; rw [hva_] at ge460_3; rw [hvc_] at ul460_3; have HL460_3 := Aside0.mk (show Kd.V (Kd.int .i64) 3 _ w.heap.size _ _ ((rd_T41 t451 t459).f3) from Kd.V_mk ul460_3 ge460_3); clear hva_ hvn_ hvc_ ge460_3 ul460_3; have hv460_5 := hcc460 5 _ rfl; rw [add_field _ _ 5 (by omega)] at hv460_5; replace hv460_5 := Option.some.inj (hv460_5.symm.trans hx460_5); injection hv460_5 with hva_ hvn_ hvc_; rw [hva_] at ge460_5; rw [hvc_] at ul460_5; have HL460_5 := Aside0.mk (show Kd.V (Kd.int .i64) 3 _ w.heap.size _ _ ((rd_T41 t451 t459).f5) from Kd.V_mk ul460_5 ge460_5); clear hva_ hvn_ hvc_ ge460_5 ul460_5; clear hcc460 hce460; have HR460_3 := Aside0.mk hi460_3; have HC460_3 := Aside0.mk hl460_3; clear hi460_3 hl460_3; have HR460_5 := Aside0.mk hi460_5; have HC460_5 := Aside0.mk hl460_5; clear hi460_5 hl460_5; replace p460 := eq_true p460; replace q460 := eq_true q460; have p463 : 0 ≤ (t459 : Int) := of_decide_eq_true (by first | (with_reducible assumption) | assumption); have q463 : t459 < (t454.length : Int) := of_decide_eq_true (by first | (with_reducible assumption) | assumption); obtain ⟨ad463, A463_3, c463_3, A463_5, c463_5, e463, hx463_0, hx463_1, hx463_2, hx463_3, hx463_4, hx463_5, hl463_3, hi463_3, hl463_5, hi463_5⟩ := at_T41 (Kd.V_reads' HO_4.out).2.2 t459 p463 q463; cases e463; obtain ⟨ce463, hce463, hMe463, hcc463⟩ := Kd.V_get HO_4.out z41 t459 p463 (by first | exact q463 | exact of_decide_eq_true (by first | (with_reducible assumption) | assumption) | (have e_ := (Kd.V_reads' HO_4.out).1; omega)); obtain ⟨ua463_3, uc463_3, ua463_5, uc463_5, rfl, ul463_3, ge463_3, ul463_5, ge463_5⟩ := k41_openF hMe463; have hv463_3 := hcc463 3 _ rfl; rw [add_field _ _ 3 (by omega)] at hv463_3; replace hv463_3 := Option.some.inj (hv463_3.symm.trans hx463_3); injection hv463_3 with hva_ hvn_ hvc_; rw [hva_] at ge463_3; rw [hvc_] at ul463_3; have HL463_3 := Aside0.mk (show Kd.V (Kd.int .i64) 3 _ w.heap.size _ _ ((rd_T41 t454 t459).f3) from Kd.V_mk ul463_3 ge463_3); clear hva_ hvn_ hvc_ ge463_3 ul463_3; have hv463_5 := hcc463 5 _ rfl; rw [add_field _ _ 5 (by omega)] at hv463_5; replace hv463_5 := Option.some.inj (hv463_5.symm.trans hx463_5); injection hv463_5 with hva_ hvn_ hvc_; rw [hva_] at ge463_5; rw [hvc_] at ul463_5; have HL463_5 := Aside0.mk (show Kd.V (Kd.int .i64) 3 _ w.heap.size _ _ ((rd_T41 t454 t459).f5) from Kd.V_mk ul463_5 ge463_5); clear hva_ hvn_ hvc_ ge463_5 ul463_5; clear hcc463 hce463; have HR463_3 := Aside0.mk hi463_3; have HC463_3 := Aside0.mk hl463_3; clear hi463_3 hl463_3; have HR463_5 := Aside0.mk hi463_5; have HC463_5 := Aside0.mk hl463_5; clear hi463_5 hl463_5; replace p463 := eq_true p463; replace q463 := eq_true q463))
           all_goals go_ret
           all_goals exact ⟨by first | rfl | (simp [errW_none, errW_some] <;> rfl) | (simp [*, errW_none, errW_some] <;> rfl), by repeat (first | (with_reducible first | exact HB.out | apply below_alloc | apply pw_below_drewN | apply below_drew1) | exact HB.out)⟩
       ·rw [if_neg c17] at H
        have c17b0 : decide (t459 < (t454.length : Int)) = false := decide_eq_false c17
        clear c17
        by_cases c35 : t457 = ((rd_T41 t451 t459).f0)
        ·rw [if_pos c35] at H
         have c35b0 : (t457 == ((rd_T41 t451 t459).f0)) = true := beq_iff_eq.mpr c35
         have c35b1 : (t457 != ((rd_T41 t451 t459).f0)) = false := bne_eq_false_iff_eq.mpr c35
         clear c35
         replace H := Option.bind_eq_some_iff.mp H
         obtain ⟨t467, A360, H⟩ := H
         replace H : (some (t467 == t457)) = some r := H
         have A36 := Aside0.mk A360
         clear A360
         obtain rfl := Option.some.inj H
         go_wp2_with (first | ((with_reducible refine gate_callee (f := 22) rfl ?_); refine goesL_ (some 35) rfl rfl Try.func22 (by kernel_rfl) rfl #[.slice Ao8 t451.length co8, .slice Ao9 t454.length co9] rfl (by (try simp only [List.map_toArray, List.map_cons, List.map_nil]); first | done | rfl | (simp only [List.length_drop, List.length_take]; rfl)) ?_; (with_reducible refine (impl_RecordsCommon.calls kj5 _ _ t451 _ _ t454 t459 _ ?side1 ?side2 ?side3 ?side4 A14.out).mono ?_); (case side1 => repeat (first | exact (Kd.V_reads' HO_3.out).2.2 | (with_reducible refine Kd.C_alloc ?_ _) | (with_reducible refine Kd.C_drewN ?_ _) | (with_reducible refine Kd.C_drew ?_))); (case side2 => exact (Kd.V_reads' HO_3.out).2.1); (case side3 => repeat (first | exact (Kd.V_reads' HO_4.out).2.2 | (with_reducible refine Kd.C_alloc ?_ _) | (with_reducible refine Kd.C_drewN ?_ _) | (with_reducible refine Kd.C_drew ?_))); (case side4 => exact (Kd.V_reads' HO_4.out).2.1); rintro e w37 ⟨rfl, hb⟩; refine ⟨_, rfl, ?_⟩; have n0_ := Aside0.mk (Kd.V_below (by (with_reducible repeat (first | apply Kd.V_alloc | apply Kd.V_drewN | apply Kd.V_drew)); exact HO_3.out) hb); have n1_ := Aside0.mk (Kd.V_below (by (with_reducible repeat (first | apply Kd.V_alloc | apply Kd.V_drewN | apply Kd.V_drew)); exact HO_4.out) hb); have n2_ := Aside0.mk (below_step (by repeat (first | (with_reducible first | exact HB.out | apply below_alloc | apply pw_below_drewN | apply below_drew1) | exact HB.out)) hb); clear HO_3; clear HO_4; clear HB; have HO_3 := n0_; have HO_4 := n1_; have HB := n2_; clear n0_ n1_ n2_; (try clear hb); (try clear hb2); (try clear hk); (try clear hi); have p460 : 0 ≤ (t459 : Int) := of_decide_eq_true (by first | (with_reducible assumption) | assumption); have q460 : t459 < (t451.length : Int) := of_decide_eq_true (by first | (with_reducible assumption) | assumption); obtain ⟨ad460, A460_3, c460_3, A460_5, c460_5, e460, hx460_0, hx460_1, hx460_2, hx460_3, hx460_4, hx460_5, hl460_3, hi460_3, hl460_5, hi460_5⟩ := at_T41 (Kd.V_reads' HO_3.out).2.2 t459 p460 q460; cases e460; obtain ⟨ce460, hce460, hMe460, hcc460⟩ := Kd.V_get HO_3.out z41 t459 p460 (by first | exact q460 | exact of_decide_eq_true (by first | (with_reducible assumption) | assumption) | (have e_ := (Kd.V_reads' HO_3.out).1; omega)); obtain ⟨ua460_3, uc460_3, ua460_5, uc460_5, rfl, ul460_3, ge460_3, ul460_5, ge460_5⟩ := k41_openF hMe460; have hv460_3 := hcc460 3 _ rfl; rw [add_field _ _ 3 (by omega)] at hv460_3; replace hv460_3 := Option.some.inj (hv460_3.symm.trans hx460_3); injection hv460_3 with hva_ hvn_ hvc_; rw [hva_] at ge460_3; rw [hvc_] at ul460_3; have HL460_3 := Aside0.mk (show Kd.V (Kd.int .i64) 3 _ w.heap.size _ _ ((rd_T41 t451 t459).f3) from Kd.V_mk ul460_3 ge460_3); clear hva_ hvn_ hvc_ ge460_3 ul460_3; have hv460_5 := hcc460 5 _ rfl; rw [add_field _ _ 5 (by omega)] at hv460_5; replace hv460_5 := Option.some.inj (hv460_5.symm.trans hx460_5); injection hv460_5 with hva_ hvn_ hvc_; rw [hva_] at ge460_5; rw [hvc_] at ul460_5; have HL460_5 := Aside0.mk (show Kd.V (Kd.int .i64) 3 _ w.heap.size _ _ ((rd_T41 t451 t459).f5) from Kd.V_mk ul460_5 ge460_5); clear hva_ hvn_ hvc_ ge460_5 ul460_5; clear hcc460 hce460; have HR460_3 := Aside0.mk hi460_3; have HC460_3 := Aside0.mk hl460_3; clear hi460_3 hl460_3; have HR460_5 := Aside0.mk hi460_5; have HC460_5 := Aside0.mk hl460_5; clear hi460_5 hl460_5; replace p460 := eq_true p460; replace q460 := eq_true q460) | (go_at_call 27; (with_reducible refine (impl_RecordsApart.calls kj5 _ _ t454 _ _ t451 t467 _ ?side1 ?side2 ?side3 ?side4 A36.out).mono ?_); (case side1 => repeat (first | exact (Kd.V_reads' HO_4.out).2.2 | (with_reducible refine Kd.C_alloc ?_ _) | (with_reducible refine Kd.C_drewN ?_ _) | (with_reducible refine Kd.C_drew ?_))); (case side2 => exact (Kd.V_reads' HO_4.out).2.1); (case side3 => repeat (first | exact (Kd.V_reads' HO_3.out).2.2 | (with_reducible refine Kd.C_alloc ?_ _) | (with_reducible refine Kd.C_drewN ?_ _) | (with_reducible refine Kd.C_drew ?_))); (case side4 => exact (Kd.V_reads' HO_3.out).2.1); rintro e w38 ⟨rfl, hb⟩; have n0_ := Aside0.mk (Kd.V_below (by (with_reducible repeat (first | apply Kd.V_alloc | apply Kd.V_drewN | apply Kd.V_drew)); exact HO_3.out) hb); have n1_ := Aside0.mk (Kd.V_below (by (with_reducible repeat (first | apply Kd.V_alloc | apply Kd.V_drewN | apply Kd.V_drew)); exact HO_4.out) hb); have n2_ := Aside0.mk (Kd.V_below (by (with_reducible repeat (first | apply Kd.V_alloc | apply Kd.V_drewN | apply Kd.V_drew)); exact HL460_3.out) hb); have n3_ := Aside0.mk (Kd.V_below (by (with_reducible repeat (first | apply Kd.V_alloc | apply Kd.V_drewN | apply Kd.V_drew)); exact HL460_5.out) hb); have n4_ := Aside0.mk (Kd.C_below (by repeat (first | (with_reducible exact HR460_3.out) | (with_reducible refine Kd.C_alloc ?_ _) | (with_reducible refine Kd.C_drewN ?_ _) | (with_reducible refine Kd.C_drew ?_) | exact HR460_3.out)) hb); have n5_ := Aside0.mk (Kd.C_below (by repeat (first | (with_reducible exact HR460_5.out) | (with_reducible refine Kd.C_alloc ?_ _) | (with_reducible refine Kd.C_drewN ?_ _) | (with_reducible refine Kd.C_drew ?_) | exact HR460_5.out)) hb); have n6_ := Aside0.mk (below_step (by repeat (first | (with_reducible first | exact HB.out | apply below_alloc | apply pw_below_drewN | apply below_drew1) | exact HB.out)) hb); clear HO_3; clear HO_4; clear HL460_3; clear HL460_5; clear HR460_3; clear HR460_5; clear HB; have HO_3 := n0_; have HO_4 := n1_; have HL460_3 := n2_; have HL460_5 := n3_; have HR460_3 := n4_; have HR460_5 := n5_; have HB := n6_; clear n0_ n1_ n2_ n3_ n4_ n5_ n6_; (try clear hb); (try clear hb2); (try clear hk); (try clear hi)))
         all_goals go_ret
         all_goals exact ⟨by first | rfl | (simp [errW_none, errW_some] <;> rfl) | (simp [*, errW_none, errW_some] <;> rfl), by repeat (first | (with_reducible first | exact HB.out | apply below_alloc | apply pw_below_drewN | apply below_drew1) | exact HB.out)⟩
        ·rw [if_neg c35] at H
         have c35b0 : (t457 == ((rd_T41 t451 t459).f0)) = false := beq_eq_false_iff_ne.mpr c35
         have c35b1 : (t457 != ((rd_T41 t451 t459).f0)) = true := bne_iff_ne.mpr c35
         obtain rfl := Option.some.inj H
         go_wp2_with (first | ((with_reducible refine gate_callee (f := 22) rfl ?_); refine goesL_ (some 35) rfl rfl Try.func22 (by kernel_rfl) rfl #[.slice Ao8 t451.length co8, .slice Ao9 t454.length co9] rfl (by (try simp only [List.map_toArray, List.map_cons, List.map_nil]); first | done | rfl | (simp only [List.length_drop, List.length_take]; rfl)) ?_; (with_reducible refine (impl_RecordsCommon.calls kj5 _ _ t451 _ _ t454 t459 _ ?side1 ?side2 ?side3 ?side4 A14.out).mono ?_); (case side1 => repeat (first | exact (Kd.V_reads' HO_3.out).2.2 | (with_reducible refine Kd.C_alloc ?_ _) | (with_reducible refine Kd.C_drewN ?_ _) | (with_reducible refine Kd.C_drew ?_))); (case side2 => exact (Kd.V_reads' HO_3.out).2.1); (case side3 => repeat (first | exact (Kd.V_reads' HO_4.out).2.2 | (with_reducible refine Kd.C_alloc ?_ _) | (with_reducible refine Kd.C_drewN ?_ _) | (with_reducible refine Kd.C_drew ?_))); (case side4 => exact (Kd.V_reads' HO_4.out).2.1); rintro e w39 ⟨rfl, hb⟩; refine ⟨_, rfl, ?_⟩; have n0_ := Aside0.mk (Kd.V_below (by (with_reducible repeat (first | apply Kd.V_alloc | apply Kd.V_drewN | apply Kd.V_drew)); exact HO_3.out) hb); have n1_ := Aside0.mk (Kd.V_below (by (with_reducible repeat (first | apply Kd.V_alloc | apply Kd.V_drewN | apply Kd.V_drew)); exact HO_4.out) hb); have n2_ := Aside0.mk (below_step (by repeat (first | (with_reducible first | exact HB.out | apply below_alloc | apply pw_below_drewN | apply below_drew1) | exact HB.out)) hb); clear HO_3; clear HO_4; clear HB; have HO_3 := n0_; have HO_4 := n1_; have HB := n2_; clear n0_ n1_ n2_; (try clear hb); (try clear hb2); (try clear hk); (try clear hi); have p460 : 0 ≤ (t459 : Int) := of_decide_eq_true (by first | (with_reducible assumption) | assumption); have q460 : t459 < (t451.length : Int) := of_decide_eq_true (by first | (with_reducible assumption) | assumption); obtain ⟨ad460, A460_3, c460_3, A460_5, c460_5, e460, hx460_0, hx460_1, hx460_2, hx460_3, hx460_4, hx460_5, hl460_3, hi460_3, hl460_5, hi460_5⟩ := at_T41 (Kd.V_reads' HO_3.out).2.2 t459 p460 q460; cases e460; obtain ⟨ce460, hce460, hMe460, hcc460⟩ := Kd.V_get HO_3.out z41 t459 p460 (by first | exact q460 | exact of_decide_eq_true (by first | (with_reducible assumption) | assumption) | (have e_ := (Kd.V_reads' HO_3.out).1; omega)); obtain ⟨ua460_3, uc460_3, ua460_5, uc460_5, rfl, ul460_3, ge460_3, ul460_5, ge460_5⟩ := k41_openF hMe460; have hv460_3 := hcc460 3 _ rfl; rw [add_field _ _ 3 (by omega)] at hv460_3; replace hv460_3 := Option.some.inj (hv460_3.symm.trans hx460_3); injection hv460_3 with hva_ hvn_ hvc_; rw [hva_] at ge460_3; rw [hvc_] at ul460_3; have HL460_3 := Aside0.mk (show Kd.V (Kd.int .i64) 3 _ w.heap.size _ _ ((rd_T41 t451 t459).f3) from Kd.V_mk ul460_3 ge460_3); clear hva_ hvn_ hvc_ ge460_3 ul460_3; have hv460_5 := hcc460 5 _ rfl; rw [add_field _ _ 5 (by omega)] at hv460_5; replace hv460_5 := Option.some.inj (hv460_5.symm.trans hx460_5); injection hv460_5 with hva_ hvn_ hvc_; rw [hva_] at ge460_5; rw [hvc_] at ul460_5; have HL460_5 := Aside0.mk (show Kd.V (Kd.int .i64) 3 _ w.heap.size _ _ ((rd_T41 t451 t459).f5) from Kd.V_mk ul460_5 ge460_5); clear hva_ hvn_ hvc_ ge460_5 ul460_5; clear hcc460 hce460; have HR460_3 := Aside0.mk hi460_3; have HC460_3 := Aside0.mk hl460_3; clear hi460_3 hl460_3; have HR460_5 := Aside0.mk hi460_5; have HC460_5 := Aside0.mk hl460_5; clear hi460_5 hl460_5; replace p460 := eq_true p460; replace q460 := eq_true q460))
         all_goals go_ret
         all_goals exact ⟨by first | rfl | (simp [errW_none, errW_some] <;> rfl) | (simp [*, errW_none, errW_some] <;> rfl), by repeat (first | (with_reducible first | exact HB.out | apply below_alloc | apply pw_below_drewN | apply below_drew1) | exact HB.out)⟩
      ·rw [if_neg c16] at H
       exact absurd H (by simp)
     ·rw [if_neg c15] at H
      have c15b0 : decide (t459 < (t451.length : Int)) = false := decide_eq_false c15
      clear c15
      by_cases c40 : t459 < (t454.length : Int)
      ·rw [if_pos c40] at H
       have c40b0 : decide (t459 < (t454.length : Int)) = true := decide_eq_true c40
       clear c40
       by_cases c41 : (-1) < 0
       ·rw [if_pos c41] at H
        have c41b0 : decide ((-1) < 0) = true := decide_eq_true c41
        clear c41
        by_cases c42 : 0 ≤ t459
        ·rw [if_pos c42] at H
         have c42b0 : decide (0 ≤ t459) = true := decide_eq_true c42
         clear c42
         by_cases c43 : t457 = ((rd_T41 t454 t459).f0)
         ·rw [if_pos c43] at H
          have c43b0 : (t457 == ((rd_T41 t454 t459).f0)) = true := beq_iff_eq.mpr c43
          have c43b1 : (t457 != ((rd_T41 t454 t459).f0)) = false := bne_eq_false_iff_eq.mpr c43
          clear c43
          replace H := Option.bind_eq_some_iff.mp H
          obtain ⟨t469, A440, H⟩ := H
          replace H : (some (t469 == t457)) = some r := H
          have A44 := Aside0.mk A440
          clear A440
          obtain rfl := Option.some.inj H
          go_wp2_with (first | ((with_reducible refine gate_callee (f := 22) rfl ?_); refine goesL_ (some 35) rfl rfl Try.func22 (by kernel_rfl) rfl #[.slice Ao8 t451.length co8, .slice Ao9 t454.length co9] rfl (by (try simp only [List.map_toArray, List.map_cons, List.map_nil]); first | done | rfl | (simp only [List.length_drop, List.length_take]; rfl)) ?_; (with_reducible refine (impl_RecordsCommon.calls kj5 _ _ t451 _ _ t454 t459 _ ?side1 ?side2 ?side3 ?side4 A14.out).mono ?_); (case side1 => repeat (first | exact (Kd.V_reads' HO_3.out).2.2 | (with_reducible refine Kd.C_alloc ?_ _) | (with_reducible refine Kd.C_drewN ?_ _) | (with_reducible refine Kd.C_drew ?_))); (case side2 => exact (Kd.V_reads' HO_3.out).2.1); (case side3 => repeat (first | exact (Kd.V_reads' HO_4.out).2.2 | (with_reducible refine Kd.C_alloc ?_ _) | (with_reducible refine Kd.C_drewN ?_ _) | (with_reducible refine Kd.C_drew ?_))); (case side4 => exact (Kd.V_reads' HO_4.out).2.1); rintro e w45 ⟨rfl, hb⟩; refine ⟨_, rfl, ?_⟩; have n0_ := Aside0.mk (Kd.V_below (by (with_reducible repeat (first | apply Kd.V_alloc | apply Kd.V_drewN | apply Kd.V_drew)); exact HO_3.out) hb); have n1_ := Aside0.mk (Kd.V_below (by (with_reducible repeat (first | apply Kd.V_alloc | apply Kd.V_drewN | apply Kd.V_drew)); exact HO_4.out) hb); have n2_ := Aside0.mk (below_step (by repeat (first | (with_reducible first | exact HB.out | apply below_alloc | apply pw_below_drewN | apply below_drew1) | exact HB.out)) hb); clear HO_3; clear HO_4; clear HB; have HO_3 := n0_; have HO_4 := n1_; have HB := n2_; clear n0_ n1_ n2_; (try clear hb); (try clear hb2); (try clear hk); (try clear hi); have p468 : 0 ≤ (t459 : Int) := of_decide_eq_true (by first | (with_reducible assumption) | assumption); have q468 : t459 < (t454.length : Int) := of_decide_eq_true (by first | (with_reducible assumption) | assumption); obtain ⟨ad468, A468_3, c468_3, A468_5, c468_5, e468, hx468_0, hx468_1, hx468_2, hx468_3, hx468_4, hx468_5, hl468_3, hi468_3, hl468_5, hi468_5⟩ := at_T41 (Kd.V_reads' HO_4.out).2.2 t459 p468 q468; cases e468; obtain ⟨ce468, hce468, hMe468, hcc468⟩ := Kd.V_get HO_4.out z41 t459 p468 (by first | exact q468 | exact of_decide_eq_true (by first | (with_reducible assumption) | assumption) | (have e_ := (Kd.V_reads' HO_4.out).1; omega)); obtain ⟨ua468_3, uc468_3, ua468_5, uc468_5, rfl, ul468_3, ge468_3, ul468_5, ge468_5⟩ := k41_openF hMe468; have hv468_3 := hcc468 3 _ rfl; rw [add_field _ _ 3 (by omega)] at hv468_3; replace hv468_3 := Option.some.inj (hv468_3.symm.trans hx468_3); injection hv468_3 with hva_ hvn_ hvc_; rw [hva_] at ge468_3; rw [hvc_] at ul468_3; have HL468_3 := Aside0.mk (show Kd.V (Kd.int .i64) 3 _ w.heap.size _ _ ((rd_T41 t454 t459).f3) from Kd.V_mk ul468_3 ge468_3); clear hva_ hvn_ hvc_ ge468_3 ul468_3; have hv468_5 := hcc468 5 _ rfl; rw [add_field _ _ 5 (by omega)] at hv468_5; replace hv468_5 := Option.some.inj (hv468_5.symm.trans hx468_5); injection hv468_5 with hva_ hvn_ hvc_; rw [hva_] at ge468_5; rw [hvc_] at ul468_5; have HL468_5 := Aside0.mk (show Kd.V (Kd.int .i64) 3 _ w.heap.size _ _ ((rd_T41 t454 t459).f5) from Kd.V_mk ul468_5 ge468_5); clear hva_ hvn_ hvc_ ge468_5 ul468_5; clear hcc468 hce468; have HR468_3 := Aside0.mk hi468_3; have HC468_3 := Aside0.mk hl468_3; clear hi468_3 hl468_3; have HR468_5 := Aside0.mk hi468_5; have HC468_5 := Aside0.mk hl468_5; clear hi468_5 hl468_5; replace p468 := eq_true p468; replace q468 := eq_true q468) | (go_at_call 27; (with_reducible refine (impl_RecordsApart.calls kj5 _ _ t454 _ _ t451 t469 _ ?side1 ?side2 ?side3 ?side4 A44.out).mono ?_); (case side1 => repeat (first | exact (Kd.V_reads' HO_4.out).2.2 | (with_reducible refine Kd.C_alloc ?_ _) | (with_reducible refine Kd.C_drewN ?_ _) | (with_reducible refine Kd.C_drew ?_))); (case side2 => exact (Kd.V_reads' HO_4.out).2.1); (case side3 => repeat (first | exact (Kd.V_reads' HO_3.out).2.2 | (with_reducible refine Kd.C_alloc ?_ _) | (with_reducible refine Kd.C_drewN ?_ _) | (with_reducible refine Kd.C_drew ?_))); (case side4 => exact (Kd.V_reads' HO_3.out).2.1); rintro e w46 ⟨rfl, hb⟩; have n0_ := Aside0.mk (Kd.V_below (by (with_reducible repeat (first | apply Kd.V_alloc | apply Kd.V_drewN | apply Kd.V_drew)); exact HO_3.out) hb); have n1_ := Aside0.mk (Kd.V_below (by (with_reducible repeat (first | apply Kd.V_alloc | apply Kd.V_drewN | apply Kd.V_drew)); exact HO_4.out) hb); have n2_ := Aside0.mk (Kd.V_below (by (with_reducible repeat (first | apply Kd.V_alloc | apply Kd.V_drewN | apply Kd.V_drew)); exact HL468_3.out) hb); have n3_ := Aside0.mk (Kd.V_below (by (with_reducible repeat (first | apply Kd.V_alloc | apply Kd.V_drewN | apply Kd.V_drew)); exact HL468_5.out) hb); have n4_ := Aside0.mk (Kd.C_below (by repeat (first | (with_reducible exact HR468_3.out) | (with_reducible refine Kd.C_alloc ?_ _) | (with_reducible refine Kd.C_drewN ?_ _) | (with_reducible refine Kd.C_drew ?_) | exact HR468_3.out)) hb); have n5_ := Aside0.mk (Kd.C_below (by repeat (first | (with_reducible exact HR468_5.out) | (with_reducible refine Kd.C_alloc ?_ _) | (with_reducible refine Kd.C_drewN ?_ _) | (with_reducible refine Kd.C_drew ?_) | exact HR468_5.out)) hb); have n6_ := Aside0.mk (below_step (by repeat (first | (with_reducible first | exact HB.out | apply below_alloc | apply pw_below_drewN | apply below_drew1) | exact HB.out)) hb); clear HO_3; clear HO_4; clear HL468_3; clear HL468_5; clear HR468_3; clear HR468_5; clear HB; have HO_3 := n0_; have HO_4 := n1_; have HL468_3 := n2_; have HL468_5 := n3_; have HR468_3 := n4_; have HR468_5 := n5_; have HB := n6_; clear n0_ n1_ n2_ n3_ n4_ n5_ n6_; (try clear hb); (try clear hb2); (try clear hk); (try clear hi)))
          all_goals go_ret
          all_goals exact ⟨by first | rfl | (simp [errW_none, errW_some] <;> rfl) | (simp [*, errW_none, errW_some] <;> rfl), by repeat (first | (with_reducible first | exact HB.out | apply below_alloc | apply pw_below_drewN | apply below_drew1) | exact HB.out)⟩
         ·rw [if_neg c43] at H
          have c43b0 : (t457 == ((rd_T41 t454 t459).f0)) = false := beq_eq_false_iff_ne.mpr c43
          have c43b1 : (t457 != ((rd_T41 t454 t459).f0)) = true := bne_iff_ne.mpr c43
          obtain rfl := Option.some.inj H
          go_wp2_with (first | ((with_reducible refine gate_callee (f := 22) rfl ?_); refine goesL_ (some 35) rfl rfl Try.func22 (by kernel_rfl) rfl #[.slice Ao8 t451.length co8, .slice Ao9 t454.length co9] rfl (by (try simp only [List.map_toArray, List.map_cons, List.map_nil]); first | done | rfl | (simp only [List.length_drop, List.length_take]; rfl)) ?_; (with_reducible refine (impl_RecordsCommon.calls kj5 _ _ t451 _ _ t454 t459 _ ?side1 ?side2 ?side3 ?side4 A14.out).mono ?_); (case side1 => repeat (first | exact (Kd.V_reads' HO_3.out).2.2 | (with_reducible refine Kd.C_alloc ?_ _) | (with_reducible refine Kd.C_drewN ?_ _) | (with_reducible refine Kd.C_drew ?_))); (case side2 => exact (Kd.V_reads' HO_3.out).2.1); (case side3 => repeat (first | exact (Kd.V_reads' HO_4.out).2.2 | (with_reducible refine Kd.C_alloc ?_ _) | (with_reducible refine Kd.C_drewN ?_ _) | (with_reducible refine Kd.C_drew ?_))); (case side4 => exact (Kd.V_reads' HO_4.out).2.1); rintro e w47 ⟨rfl, hb⟩; refine ⟨_, rfl, ?_⟩; have n0_ := Aside0.mk (Kd.V_below (by (with_reducible repeat (first | apply Kd.V_alloc | apply Kd.V_drewN | apply Kd.V_drew)); exact HO_3.out) hb); have n1_ := Aside0.mk (Kd.V_below (by (with_reducible repeat (first | apply Kd.V_alloc | apply Kd.V_drewN | apply Kd.V_drew)); exact HO_4.out) hb); have n2_ := Aside0.mk (below_step (by repeat (first | (with_reducible first | exact HB.out | apply below_alloc | apply pw_below_drewN | apply below_drew1) | exact HB.out)) hb); clear HO_3; clear HO_4; clear HB; have HO_3 := n0_; have HO_4 := n1_; have HB := n2_; clear n0_ n1_ n2_; (try clear hb); (try clear hb2); (try clear hk); (try clear hi); have p468 : 0 ≤ (t459 : Int) := of_decide_eq_true (by first | (with_reducible assumption) | assumption); have q468 : t459 < (t454.length : Int) := of_decide_eq_true (by first | (with_reducible assumption) | assumption); obtain ⟨ad468, A468_3, c468_3, A468_5, c468_5, e468, hx468_0, hx468_1, hx468_2, hx468_3, hx468_4, hx468_5, hl468_3, hi468_3, hl468_5, hi468_5⟩ := at_T41 (Kd.V_reads' HO_4.out).2.2 t459 p468 q468; cases e468; obtain ⟨ce468, hce468, hMe468, hcc468⟩ := Kd.V_get HO_4.out z41 t459 p468 (by first | exact q468 | exact of_decide_eq_true (by first | (with_reducible assumption) | assumption) | (have e_ := (Kd.V_reads' HO_4.out).1; omega)); obtain ⟨ua468_3, uc468_3, ua468_5, uc468_5, rfl, ul468_3, ge468_3, ul468_5, ge468_5⟩ := k41_openF hMe468; have hv468_3 := hcc468 3 _ rfl; rw [add_field _ _ 3 (by omega)] at hv468_3; replace hv468_3 := Option.some.inj (hv468_3.symm.trans hx468_3); injection hv468_3 with hva_ hvn_ hvc_; rw [hva_] at ge468_3; rw [hvc_] at ul468_3; have HL468_3 := Aside0.mk (show Kd.V (Kd.int .i64) 3 _ w.heap.size _ _ ((rd_T41 t454 t459).f3) from Kd.V_mk ul468_3 ge468_3); clear hva_ hvn_ hvc_ ge468_3 ul468_3; have hv468_5 := hcc468 5 _ rfl; rw [add_field _ _ 5 (by omega)] at hv468_5; replace hv468_5 := Option.some.inj (hv468_5.symm.trans hx468_5); injection hv468_5 with hva_ hvn_ hvc_; rw [hva_] at ge468_5; rw [hvc_] at ul468_5; have HL468_5 := Aside0.mk (show Kd.V (Kd.int .i64) 3 _ w.heap.size _ _ ((rd_T41 t454 t459).f5) from Kd.V_mk ul468_5 ge468_5); clear hva_ hvn_ hvc_ ge468_5 ul468_5; clear hcc468 hce468; have HR468_3 := Aside0.mk hi468_3; have HC468_3 := Aside0.mk hl468_3; clear hi468_3 hl468_3; have HR468_5 := Aside0.mk hi468_5; have HC468_5 := Aside0.mk hl468_5; clear hi468_5 hl468_5; replace p468 := eq_true p468; replace q468 := eq_true q468))
          all_goals go_ret
          all_goals exact ⟨by first | rfl | (simp [errW_none, errW_some] <;> rfl) | (simp [*, errW_none, errW_some] <;> rfl), by repeat (first | (with_reducible first | exact HB.out | apply below_alloc | apply pw_below_drewN | apply below_drew1) | exact HB.out)⟩
        ·rw [if_neg c42] at H
         exact absurd H (by simp)
       ·rw [if_neg c41] at H
        have c41b0 : decide ((-1) < 0) = false := decide_eq_false c41
        clear c41
        by_cases c48 : 0 ≤ t459
        ·rw [if_pos c48] at H
         have c48b0 : decide (0 ≤ t459) = true := decide_eq_true c48
         clear c48
         by_cases c49 : ((rd_T41 t454 t459).f0) < (-1)
         ·rw [if_pos c49] at H
          have c49b0 : decide (((rd_T41 t454 t459).f0) < (-1)) = true := decide_eq_true c49
          clear c49
          by_cases c50 : t457 = ((rd_T41 t454 t459).f0)
          ·rw [if_pos c50] at H
           have c50b0 : (t457 == ((rd_T41 t454 t459).f0)) = true := beq_iff_eq.mpr c50
           have c50b1 : (t457 != ((rd_T41 t454 t459).f0)) = false := bne_eq_false_iff_eq.mpr c50
           clear c50
           replace H := Option.bind_eq_some_iff.mp H
           obtain ⟨t472, A510, H⟩ := H
           replace H : (some (t472 == t457)) = some r := H
           have A51 := Aside0.mk A510
           clear A510
           obtain rfl := Option.some.inj H
           go_wp2_with (first | ((with_reducible refine gate_callee (f := 22) rfl ?_); refine goesL_ (some 35) rfl rfl Try.func22 (by kernel_rfl) rfl #[.slice Ao8 t451.length co8, .slice Ao9 t454.length co9] rfl (by (try simp only [List.map_toArray, List.map_cons, List.map_nil]); first | done | rfl | (simp only [List.length_drop, List.length_take]; rfl)) ?_; (with_reducible refine (impl_RecordsCommon.calls kj5 _ _ t451 _ _ t454 t459 _ ?side1 ?side2 ?side3 ?side4 A14.out).mono ?_); (case side1 => repeat (first | exact (Kd.V_reads' HO_3.out).2.2 | (with_reducible refine Kd.C_alloc ?_ _) | (with_reducible refine Kd.C_drewN ?_ _) | (with_reducible refine Kd.C_drew ?_))); (case side2 => exact (Kd.V_reads' HO_3.out).2.1); (case side3 => repeat (first | exact (Kd.V_reads' HO_4.out).2.2 | (with_reducible refine Kd.C_alloc ?_ _) | (with_reducible refine Kd.C_drewN ?_ _) | (with_reducible refine Kd.C_drew ?_))); (case side4 => exact (Kd.V_reads' HO_4.out).2.1); rintro e w52 ⟨rfl, hb⟩; refine ⟨_, rfl, ?_⟩; have n0_ := Aside0.mk (Kd.V_below (by (with_reducible repeat (first | apply Kd.V_alloc | apply Kd.V_drewN | apply Kd.V_drew)); exact HO_3.out) hb); have n1_ := Aside0.mk (Kd.V_below (by (with_reducible repeat (first | apply Kd.V_alloc | apply Kd.V_drewN | apply Kd.V_drew)); exact HO_4.out) hb); have n2_ := Aside0.mk (below_step (by repeat (first | (with_reducible first | exact HB.out | apply below_alloc | apply pw_below_drewN | apply below_drew1) | exact HB.out)) hb); clear HO_3; clear HO_4; clear HB; have HO_3 := n0_; have HO_4 := n1_; have HB := n2_; clear n0_ n1_ n2_; (try clear hb); (try clear hb2); (try clear hk); (try clear hi); have p470 : 0 ≤ (t459 : Int) := of_decide_eq_true (by first | (with_reducible assumption) | assumption); have q470 : t459 < (t454.length : Int) := of_decide_eq_true (by first | (with_reducible assumption) | assumption); obtain ⟨ad470, A470_3, c470_3, A470_5, c470_5, e470, hx470_0, hx470_1, hx470_2, hx470_3, hx470_4, hx470_5, hl470_3, hi470_3, hl470_5, hi470_5⟩ := at_T41 (Kd.V_reads' HO_4.out).2.2 t459 p470 q470; cases e470; obtain ⟨ce470, hce470, hMe470, hcc470⟩ := Kd.V_get HO_4.out z41 t459 p470 (by first | exact q470 | exact of_decide_eq_true (by first | (with_reducible assumption) | assumption) | (have e_ := (Kd.V_reads' HO_4.out).1; omega)); obtain ⟨ua470_3, uc470_3, ua470_5, uc470_5, rfl, ul470_3, ge470_3, ul470_5, ge470_5⟩ := k41_openF hMe470; have hv470_3 := hcc470 3 _ rfl; rw [add_field _ _ 3 (by omega)] at hv470_3; replace hv470_3 := Option.some.inj (hv470_3.symm.trans hx470_3); injection hv470_3 with hva_ hvn_ hvc_; rw [hva_] at ge470_3; rw [hvc_] at ul470_3; have HL470_3 := Aside0.mk (show Kd.V (Kd.int .i64) 3 _ w.heap.size _ _ ((rd_T41 t454 t459).f3) from Kd.V_mk ul470_3 ge470_3); clear hva_ hvn_ hvc_ ge470_3 ul470_3; have hv470_5 := hcc470 5 _ rfl; rw [add_field _ _ 5 (by omega)] at hv470_5; replace hv470_5 := Option.some.inj (hv470_5.symm.trans hx470_5); injection hv470_5 with hva_ hvn_ hvc_; rw [hva_] at ge470_5; rw [hvc_] at ul470_5; have HL470_5 := Aside0.mk (show Kd.V (Kd.int .i64) 3 _ w.heap.size _ _ ((rd_T41 t454 t459).f5) from Kd.V_mk ul470_5 ge470_5); clear hva_ hvn_ hvc_ ge470_5 ul470_5; clear hcc470 hce470; have HR470_3 := Aside0.mk hi470_3; have HC470_3 := Aside0.mk hl470_3; clear hi470_3 hl470_3; have HR470_5 := Aside0.mk hi470_5; have HC470_5 := Aside0.mk hl470_5; clear hi470_5 hl470_5; replace p470 := eq_true p470; replace q470 := eq_true q470; have p471 : 0 ≤ (t459 : Int) := of_decide_eq_true (by first | (with_reducible assumption) | assumption); have q471 : t459 < (t454.length : Int) := of_decide_eq_true (by first | (with_reducible assumption) | assumption); obtain ⟨ad471, A471_3, c471_3, A471_5, c471_5, e471, hx471_0, hx471_1, hx471_2, hx471_3, hx471_4, hx471_5, hl471_3, hi471_3, hl471_5, hi471_5⟩ := at_T41 (Kd.V_reads' HO_4.out).2.2 t459 p471 q471; obtain rfl : ad470 = ad471 := (by injection e471); obtain ⟨ce471, hce471, hMe471, hcc471⟩ := Kd.V_get HO_4.out z41 t459 p471 (by first | exact q471 | exact of_decide_eq_true (by first | (with_reducible assumption) | assumption) | (have e_ := (Kd.V_reads' HO_4.out).1; omega)); obtain ⟨ua471_3, uc471_3, ua471_5, uc471_5, rfl, ul471_3, ge471_3, ul471_5, ge471_5⟩ := k41_openF hMe471; have hv471_3 := hcc471 3 _ rfl; rw [add_field _ _ 3 (by omega)] at hv471_3; replace hv471_3 := Option.some.inj (hv471_3.symm.trans hx471_3); injection hv471_3 with hva_ hvn_ hvc_; rw [hva_] at ge471_3; rw [hvc_] at ul471_3; have HL471_3 := Aside0.mk (show Kd.V (Kd.int .i64) 3 _ w.heap.size _ _ ((rd_T41 t454 t459).f3) from Kd.V_mk ul471_3 ge471_3); clear hva_ hvn_ hvc_ ge471_3 ul471_3; have hv471_5 := hcc471 5 _ rfl; rw [add_field _ _ 5 (by omega)] at hv471_5; replace hv471_5 := Option.some.inj (hv471_5.symm.trans hx471_5); injection hv471_5 with hva_ hvn_ hvc_; rw [hva_] at ge471_5; rw [hvc_] at ul471_5; have HL471_5 := Aside0.mk (show Kd.V (Kd.int .i64) 3 _ w.heap.size _ _ ((rd_T41 t454 t459).f5) from Kd.V_mk ul471_5 ge471_5); clear hva_ hvn_ hvc_ ge471_5 ul471_5; clear hcc471 hce471; have HR471_3 := Aside0.mk hi471_3; have HC471_3 := Aside0.mk hl471_3; clear hi471_3 hl471_3; have HR471_5 := Aside0.mk hi471_5; have HC471_5 := Aside0.mk hl471_5; clear hi471_5 hl471_5; replace p471 := eq_true p471; replace q471 := eq_true q471; have ea_ := Option.some.inj (hx470_3.symm.trans hx471_3); injection ea_ with ea_ en_ ec_; subst ea_; subst ec_; clear en_; have ea_ := Option.some.inj (hx470_5.symm.trans hx471_5); injection ea_ with ea_ en_ ec_; subst ea_; subst ec_; clear en_) | (go_at_call 27; (with_reducible refine (impl_RecordsApart.calls kj5 _ _ t454 _ _ t451 t472 _ ?side1 ?side2 ?side3 ?side4 A51.out).mono ?_); (case side1 => repeat (first | exact (Kd.V_reads' HO_4.out).2.2 | (with_reducible refine Kd.C_alloc ?_ _) | (with_reducible refine Kd.C_drewN ?_ _) | (with_reducible refine Kd.C_drew ?_))); (case side2 => exact (Kd.V_reads' HO_4.out).2.1); (case side3 => repeat (first | exact (Kd.V_reads' HO_3.out).2.2 | (with_reducible refine Kd.C_alloc ?_ _) | (with_reducible refine Kd.C_drewN ?_ _) | (with_reducible refine Kd.C_drew ?_))); (case side4 => exact (Kd.V_reads' HO_3.out).2.1); rintro e w53 ⟨rfl, hb⟩; have n0_ := Aside0.mk (Kd.V_below (by (with_reducible repeat (first | apply Kd.V_alloc | apply Kd.V_drewN | apply Kd.V_drew)); exact HO_3.out) hb); have n1_ := Aside0.mk (Kd.V_below (by (with_reducible repeat (first | apply Kd.V_alloc | apply Kd.V_drewN | apply Kd.V_drew)); exact HO_4.out) hb); have n2_ := Aside0.mk (Kd.V_below (by (with_reducible repeat (first | apply Kd.V_alloc | apply Kd.V_drewN | apply Kd.V_drew)); exact HL470_3.out) hb); have n3_ := Aside0.mk (Kd.V_below (by (with_reducible repeat (first | apply Kd.V_alloc | apply Kd.V_drewN | apply Kd.V_drew)); exact HL470_5.out) hb); have n4_ := Aside0.mk (Kd.V_below (by (with_reducible repeat (first | apply Kd.V_alloc | apply Kd.V_drewN | apply Kd.V_drew)); exact HL471_3.out) hb); have n5_ := Aside0.mk (Kd.V_below (by (with_reducible repeat (first | apply Kd.V_alloc | apply Kd.V_drewN | apply Kd.V_drew)); exact HL471_5.out) hb); have n6_ := Aside0.mk (Kd.C_below (by repeat (first | (with_reducible exact HR470_3.out) | (with_reducible refine Kd.C_alloc ?_ _) | (with_reducible refine Kd.C_drewN ?_ _) | (with_reducible refine Kd.C_drew ?_) | exact HR470_3.out)) hb); have n7_ := Aside0.mk (Kd.C_below (by repeat (first | (with_reducible exact HR470_5.out) | (with_reducible refine Kd.C_alloc ?_ _) | (with_reducible refine Kd.C_drewN ?_ _) | (with_reducible refine Kd.C_drew ?_) | exact HR470_5.out)) hb); have n8_ := Aside0.mk (Kd.C_below (by repeat (first | (with_reducible exact HR471_3.out) | (with_reducible refine Kd.C_alloc ?_ _) | (with_reducible refine Kd.C_drewN ?_ _) | (with_reducible refine Kd.C_drew ?_) | exact HR471_3.out)) hb); have n9_ := Aside0.mk (Kd.C_below (by repeat (first | (with_reducible exact HR471_5.out) | (with_reducible refine Kd.C_alloc ?_ _) | (with_reducible refine Kd.C_drewN ?_ _) | (with_reducible refine Kd.C_drew ?_) | exact HR471_5.out)) hb); have n10_ := Aside0.mk (below_step (by repeat (first | (with_reducible first | exact HB.out | apply below_alloc | apply pw_below_drewN | apply below_drew1) | exact HB.out)) hb); clear HO_3; clear HO_4; clear HL470_3; clear HL470_5; clear HL471_3; clear HL471_5; clear HR470_3; clear HR470_5; clear HR471_3; clear HR471_5; clear HB; have HO_3 := n0_; have HO_4 := n1_; have HL470_3 := n2_; have HL470_5 := n3_; have HL471_3 := n4_; have HL471_5 := n5_; have HR470_3 := n6_; have HR470_5 := n7_; have HR471_3 := n8_; have HR471_5 := n9_; have HB := n10_; clear n0_ n1_ n2_ n3_ n4_ n5_ n6_ n7_ n8_ n9_ n10_; (try clear hb); (try clear hb2); (try clear hk); (try clear hi)))
           all_goals go_ret
           all_goals exact ⟨by first | rfl | (simp [errW_none, errW_some] <;> rfl) | (simp [*, errW_none, errW_some] <;> rfl), by repeat (first | (with_reducible first | exact HB.out | apply below_alloc | apply pw_below_drewN | apply below_drew1) | exact HB.out)⟩
          ·rw [if_neg c50] at H
           have c50b0 : (t457 == ((rd_T41 t454 t459).f0)) = false := beq_eq_false_iff_ne.mpr c50
           have c50b1 : (t457 != ((rd_T41 t454 t459).f0)) = true := bne_iff_ne.mpr c50
           obtain rfl := Option.some.inj H
           go_wp2_with (first | ((with_reducible refine gate_callee (f := 22) rfl ?_); refine goesL_ (some 35) rfl rfl Try.func22 (by kernel_rfl) rfl #[.slice Ao8 t451.length co8, .slice Ao9 t454.length co9] rfl (by (try simp only [List.map_toArray, List.map_cons, List.map_nil]); first | done | rfl | (simp only [List.length_drop, List.length_take]; rfl)) ?_; (with_reducible refine (impl_RecordsCommon.calls kj5 _ _ t451 _ _ t454 t459 _ ?side1 ?side2 ?side3 ?side4 A14.out).mono ?_); (case side1 => repeat (first | exact (Kd.V_reads' HO_3.out).2.2 | (with_reducible refine Kd.C_alloc ?_ _) | (with_reducible refine Kd.C_drewN ?_ _) | (with_reducible refine Kd.C_drew ?_))); (case side2 => exact (Kd.V_reads' HO_3.out).2.1); (case side3 => repeat (first | exact (Kd.V_reads' HO_4.out).2.2 | (with_reducible refine Kd.C_alloc ?_ _) | (with_reducible refine Kd.C_drewN ?_ _) | (with_reducible refine Kd.C_drew ?_))); (case side4 => exact (Kd.V_reads' HO_4.out).2.1); rintro e w54 ⟨rfl, hb⟩; refine ⟨_, rfl, ?_⟩; have n0_ := Aside0.mk (Kd.V_below (by (with_reducible repeat (first | apply Kd.V_alloc | apply Kd.V_drewN | apply Kd.V_drew)); exact HO_3.out) hb); have n1_ := Aside0.mk (Kd.V_below (by (with_reducible repeat (first | apply Kd.V_alloc | apply Kd.V_drewN | apply Kd.V_drew)); exact HO_4.out) hb); have n2_ := Aside0.mk (below_step (by repeat (first | (with_reducible first | exact HB.out | apply below_alloc | apply pw_below_drewN | apply below_drew1) | exact HB.out)) hb); clear HO_3; clear HO_4; clear HB; have HO_3 := n0_; have HO_4 := n1_; have HB := n2_; clear n0_ n1_ n2_; (try clear hb); (try clear hb2); (try clear hk); (try clear hi); have p470 : 0 ≤ (t459 : Int) := of_decide_eq_true (by first | (with_reducible assumption) | assumption); have q470 : t459 < (t454.length : Int) := of_decide_eq_true (by first | (with_reducible assumption) | assumption); obtain ⟨ad470, A470_3, c470_3, A470_5, c470_5, e470, hx470_0, hx470_1, hx470_2, hx470_3, hx470_4, hx470_5, hl470_3, hi470_3, hl470_5, hi470_5⟩ := at_T41 (Kd.V_reads' HO_4.out).2.2 t459 p470 q470; cases e470; obtain ⟨ce470, hce470, hMe470, hcc470⟩ := Kd.V_get HO_4.out z41 t459 p470 (by first | exact q470 | exact of_decide_eq_true (by first | (with_reducible assumption) | assumption) | (have e_ := (Kd.V_reads' HO_4.out).1; omega)); obtain ⟨ua470_3, uc470_3, ua470_5, uc470_5, rfl, ul470_3, ge470_3, ul470_5, ge470_5⟩ := k41_openF hMe470; have hv470_3 := hcc470 3 _ rfl; rw [add_field _ _ 3 (by omega)] at hv470_3; replace hv470_3 := Option.some.inj (hv470_3.symm.trans hx470_3); injection hv470_3 with hva_ hvn_ hvc_; rw [hva_] at ge470_3; rw [hvc_] at ul470_3; have HL470_3 := Aside0.mk (show Kd.V (Kd.int .i64) 3 _ w.heap.size _ _ ((rd_T41 t454 t459).f3) from Kd.V_mk ul470_3 ge470_3); clear hva_ hvn_ hvc_ ge470_3 ul470_3; have hv470_5 := hcc470 5 _ rfl; rw [add_field _ _ 5 (by omega)] at hv470_5; replace hv470_5 := Option.some.inj (hv470_5.symm.trans hx470_5); injection hv470_5 with hva_ hvn_ hvc_; rw [hva_] at ge470_5; rw [hvc_] at ul470_5; have HL470_5 := Aside0.mk (show Kd.V (Kd.int .i64) 3 _ w.heap.size _ _ ((rd_T41 t454 t459).f5) from Kd.V_mk ul470_5 ge470_5); clear hva_ hvn_ hvc_ ge470_5 ul470_5; clear hcc470 hce470; have HR470_3 := Aside0.mk hi470_3; have HC470_3 := Aside0.mk hl470_3; clear hi470_3 hl470_3; have HR470_5 := Aside0.mk hi470_5; have HC470_5 := Aside0.mk hl470_5; clear hi470_5 hl470_5; replace p470 := eq_true p470; replace q470 := eq_true q470; have p471 : 0 ≤ (t459 : Int) := of_decide_eq_true (by first | (with_reducible assumption) | assumption); have q471 : t459 < (t454.length : Int) := of_decide_eq_true (by first | (with_reducible assumption) | assumption); obtain ⟨ad471, A471_3, c471_3, A471_5, c471_5, e471, hx471_0, hx471_1, hx471_2, hx471_3, hx471_4, hx471_5, hl471_3, hi471_3, hl471_5, hi471_5⟩ := at_T41 (Kd.V_reads' HO_4.out).2.2 t459 p471 q471; obtain rfl : ad470 = ad471 := (by injection e471); obtain ⟨ce471, hce471, hMe471, hcc471⟩ := Kd.V_get HO_4.out z41 t459 p471 (by first | exact q471 | exact of_decide_eq_true (by first | (with_reducible assumption) | assumption) | (have e_ := (Kd.V_reads' HO_4.out).1; omega)); obtain ⟨ua471_3, uc471_3, ua471_5, uc471_5, rfl, ul471_3, ge471_3, ul471_5, ge471_5⟩ := k41_openF hMe471; have hv471_3 := hcc471 3 _ rfl; rw [add_field _ _ 3 (by omega)] at hv471_3; replace hv471_3 := Option.some.inj (hv471_3.symm.trans hx471_3); injection hv471_3 with hva_ hvn_ hvc_; rw [hva_] at ge471_3; rw [hvc_] at ul471_3; have HL471_3 := Aside0.mk (show Kd.V (Kd.int .i64) 3 _ w.heap.size _ _ ((rd_T41 t454 t459).f3) from Kd.V_mk ul471_3 ge471_3); clear hva_ hvn_ hvc_ ge471_3 ul471_3; have hv471_5 := hcc471 5 _ rfl; rw [add_field _ _ 5 (by omega)] at hv471_5; replace hv471_5 := Option.some.inj (hv471_5.symm.trans hx471_5); injection hv471_5 with hva_ hvn_ hvc_; rw [hva_] at ge471_5; rw [hvc_] at ul471_5; have HL471_5 := Aside0.mk (show Kd.V (Kd.int .i64) 3 _ w.heap.size _ _ ((rd_T41 t454 t459).f5) from Kd.V_mk ul471_5 ge471_5); clear hva_ hvn_ hvc_ ge471_5 ul471_5; clear hcc471 hce471; have HR471_3 := Aside0.mk hi471_3; have HC471_3 := Aside0.mk hl471_3; clear hi471_3 hl471_3; have HR471_5 := Aside0.mk hi471_5; have HC471_5 := Aside0.mk hl471_5; clear hi471_5 hl471_5; replace p471 := eq_true p471; replace q471 := eq_true q471; have ea_ := Option.some.inj (hx470_3.symm.trans hx471_3); injection ea_ with ea_ en_ ec_; subst ea_; subst ec_; clear en_; have ea_ := Option.some.inj (hx470_5.symm.trans hx471_5); injection ea_ with ea_ en_ ec_; subst ea_; subst ec_; clear en_))
           all_goals go_ret
           all_goals exact ⟨by first | rfl | (simp [errW_none, errW_some] <;> rfl) | (simp [*, errW_none, errW_some] <;> rfl), by repeat (first | (with_reducible first | exact HB.out | apply below_alloc | apply pw_below_drewN | apply below_drew1) | exact HB.out)⟩
         ·rw [if_neg c49] at H
          have c49b0 : decide (((rd_T41 t454 t459).f0) < (-1)) = false := decide_eq_false c49
          clear c49
          by_cases c55 : t457 = (-1)
          ·rw [if_pos c55] at H
           have c55b0 : (t457 == (-1)) = true := beq_iff_eq.mpr c55
           have c55b1 : (t457 != (-1)) = false := bne_eq_false_iff_eq.mpr c55
           clear c55
           replace H := Option.bind_eq_some_iff.mp H
           obtain ⟨t473, A560, H⟩ := H
           replace H : (some (t473 == t457)) = some r := H
           have A56 := Aside0.mk A560
           clear A560
           obtain rfl := Option.some.inj H
           go_wp2_with (first | ((with_reducible refine gate_callee (f := 22) rfl ?_); refine goesL_ (some 35) rfl rfl Try.func22 (by kernel_rfl) rfl #[.slice Ao8 t451.length co8, .slice Ao9 t454.length co9] rfl (by (try simp only [List.map_toArray, List.map_cons, List.map_nil]); first | done | rfl | (simp only [List.length_drop, List.length_take]; rfl)) ?_; (with_reducible refine (impl_RecordsCommon.calls kj5 _ _ t451 _ _ t454 t459 _ ?side1 ?side2 ?side3 ?side4 A14.out).mono ?_); (case side1 => repeat (first | exact (Kd.V_reads' HO_3.out).2.2 | (with_reducible refine Kd.C_alloc ?_ _) | (with_reducible refine Kd.C_drewN ?_ _) | (with_reducible refine Kd.C_drew ?_))); (case side2 => exact (Kd.V_reads' HO_3.out).2.1); (case side3 => repeat (first | exact (Kd.V_reads' HO_4.out).2.2 | (with_reducible refine Kd.C_alloc ?_ _) | (with_reducible refine Kd.C_drewN ?_ _) | (with_reducible refine Kd.C_drew ?_))); (case side4 => exact (Kd.V_reads' HO_4.out).2.1); rintro e w57 ⟨rfl, hb⟩; refine ⟨_, rfl, ?_⟩; have n0_ := Aside0.mk (Kd.V_below (by (with_reducible repeat (first | apply Kd.V_alloc | apply Kd.V_drewN | apply Kd.V_drew)); exact HO_3.out) hb); have n1_ := Aside0.mk (Kd.V_below (by (with_reducible repeat (first | apply Kd.V_alloc | apply Kd.V_drewN | apply Kd.V_drew)); exact HO_4.out) hb); have n2_ := Aside0.mk (below_step (by repeat (first | (with_reducible first | exact HB.out | apply below_alloc | apply pw_below_drewN | apply below_drew1) | exact HB.out)) hb); clear HO_3; clear HO_4; clear HB; have HO_3 := n0_; have HO_4 := n1_; have HB := n2_; clear n0_ n1_ n2_; (try clear hb); (try clear hb2); (try clear hk); (try clear hi); have p470 : 0 ≤ (t459 : Int) := of_decide_eq_true (by first | (with_reducible assumption) | assumption); have q470 : t459 < (t454.length : Int) := of_decide_eq_true (by first | (with_reducible assumption) | assumption); obtain ⟨ad470, A470_3, c470_3, A470_5, c470_5, e470, hx470_0, hx470_1, hx470_2, hx470_3, hx470_4, hx470_5, hl470_3, hi470_3, hl470_5, hi470_5⟩ := at_T41 (Kd.V_reads' HO_4.out).2.2 t459 p470 q470; cases e470; obtain ⟨ce470, hce470, hMe470, hcc470⟩ := Kd.V_get HO_4.out z41 t459 p470 (by first | exact q470 | exact of_decide_eq_true (by first | (with_reducible assumption) | assumption) | (have e_ := (Kd.V_reads' HO_4.out).1; omega)); obtain ⟨ua470_3, uc470_3, ua470_5, uc470_5, rfl, ul470_3, ge470_3, ul470_5, ge470_5⟩ := k41_openF hMe470; have hv470_3 := hcc470 3 _ rfl; rw [add_field _ _ 3 (by omega)] at hv470_3; replace hv470_3 := Option.some.inj (hv470_3.symm.trans hx470_3); injection hv470_3 with hva_ hvn_ hvc_; rw [hva_] at ge470_3; rw [hvc_] at ul470_3; have HL470_3 := Aside0.mk (show Kd.V (Kd.int .i64) 3 _ w.heap.size _ _ ((rd_T41 t454 t459).f3) from Kd.V_mk ul470_3 ge470_3); clear hva_ hvn_ hvc_ ge470_3 ul470_3; have hv470_5 := hcc470 5 _ rfl; rw [add_field _ _ 5 (by omega)] at hv470_5; replace hv470_5 := Option.some.inj (hv470_5.symm.trans hx470_5); injection hv470_5 with hva_ hvn_ hvc_; rw [hva_] at ge470_5; rw [hvc_] at ul470_5; have HL470_5 := Aside0.mk (show Kd.V (Kd.int .i64) 3 _ w.heap.size _ _ ((rd_T41 t454 t459).f5) from Kd.V_mk ul470_5 ge470_5); clear hva_ hvn_ hvc_ ge470_5 ul470_5; clear hcc470 hce470; have HR470_3 := Aside0.mk hi470_3; have HC470_3 := Aside0.mk hl470_3; clear hi470_3 hl470_3; have HR470_5 := Aside0.mk hi470_5; have HC470_5 := Aside0.mk hl470_5; clear hi470_5 hl470_5; replace p470 := eq_true p470; replace q470 := eq_true q470) | (go_at_call 27; (with_reducible refine (impl_RecordsApart.calls kj5 _ _ t454 _ _ t451 t473 _ ?side1 ?side2 ?side3 ?side4 A56.out).mono ?_); (case side1 => repeat (first | exact (Kd.V_reads' HO_4.out).2.2 | (with_reducible refine Kd.C_alloc ?_ _) | (with_reducible refine Kd.C_drewN ?_ _) | (with_reducible refine Kd.C_drew ?_))); (case side2 => exact (Kd.V_reads' HO_4.out).2.1); (case side3 => repeat (first | exact (Kd.V_reads' HO_3.out).2.2 | (with_reducible refine Kd.C_alloc ?_ _) | (with_reducible refine Kd.C_drewN ?_ _) | (with_reducible refine Kd.C_drew ?_))); (case side4 => exact (Kd.V_reads' HO_3.out).2.1); rintro e w58 ⟨rfl, hb⟩; have n0_ := Aside0.mk (Kd.V_below (by (with_reducible repeat (first | apply Kd.V_alloc | apply Kd.V_drewN | apply Kd.V_drew)); exact HO_3.out) hb); have n1_ := Aside0.mk (Kd.V_below (by (with_reducible repeat (first | apply Kd.V_alloc | apply Kd.V_drewN | apply Kd.V_drew)); exact HO_4.out) hb); have n2_ := Aside0.mk (Kd.V_below (by (with_reducible repeat (first | apply Kd.V_alloc | apply Kd.V_drewN | apply Kd.V_drew)); exact HL470_3.out) hb); have n3_ := Aside0.mk (Kd.V_below (by (with_reducible repeat (first | apply Kd.V_alloc | apply Kd.V_drewN | apply Kd.V_drew)); exact HL470_5.out) hb); have n4_ := Aside0.mk (Kd.C_below (by repeat (first | (with_reducible exact HR470_3.out) | (with_reducible refine Kd.C_alloc ?_ _) | (with_reducible refine Kd.C_drewN ?_ _) | (with_reducible refine Kd.C_drew ?_) | exact HR470_3.out)) hb); have n5_ := Aside0.mk (Kd.C_below (by repeat (first | (with_reducible exact HR470_5.out) | (with_reducible refine Kd.C_alloc ?_ _) | (with_reducible refine Kd.C_drewN ?_ _) | (with_reducible refine Kd.C_drew ?_) | exact HR470_5.out)) hb); have n6_ := Aside0.mk (below_step (by repeat (first | (with_reducible first | exact HB.out | apply below_alloc | apply pw_below_drewN | apply below_drew1) | exact HB.out)) hb); clear HO_3; clear HO_4; clear HL470_3; clear HL470_5; clear HR470_3; clear HR470_5; clear HB; have HO_3 := n0_; have HO_4 := n1_; have HL470_3 := n2_; have HL470_5 := n3_; have HR470_3 := n4_; have HR470_5 := n5_; have HB := n6_; clear n0_ n1_ n2_ n3_ n4_ n5_ n6_; (try clear hb); (try clear hb2); (try clear hk); (try clear hi)))
           all_goals go_ret
           all_goals exact ⟨by first | rfl | (simp [errW_none, errW_some] <;> rfl) | (simp [*, errW_none, errW_some] <;> rfl), by repeat (first | (with_reducible first | exact HB.out | apply below_alloc | apply pw_below_drewN | apply below_drew1) | exact HB.out)⟩
          ·rw [if_neg c55] at H
           have c55b0 : (t457 == (-1)) = false := beq_eq_false_iff_ne.mpr c55
           have c55b1 : (t457 != (-1)) = true := bne_iff_ne.mpr c55
           obtain rfl := Option.some.inj H
           go_wp2_with (first | ((with_reducible refine gate_callee (f := 22) rfl ?_); refine goesL_ (some 35) rfl rfl Try.func22 (by kernel_rfl) rfl #[.slice Ao8 t451.length co8, .slice Ao9 t454.length co9] rfl (by (try simp only [List.map_toArray, List.map_cons, List.map_nil]); first | done | rfl | (simp only [List.length_drop, List.length_take]; rfl)) ?_; (with_reducible refine (impl_RecordsCommon.calls kj5 _ _ t451 _ _ t454 t459 _ ?side1 ?side2 ?side3 ?side4 A14.out).mono ?_); (case side1 => repeat (first | exact (Kd.V_reads' HO_3.out).2.2 | (with_reducible refine Kd.C_alloc ?_ _) | (with_reducible refine Kd.C_drewN ?_ _) | (with_reducible refine Kd.C_drew ?_))); (case side2 => exact (Kd.V_reads' HO_3.out).2.1); (case side3 => repeat (first | exact (Kd.V_reads' HO_4.out).2.2 | (with_reducible refine Kd.C_alloc ?_ _) | (with_reducible refine Kd.C_drewN ?_ _) | (with_reducible refine Kd.C_drew ?_))); (case side4 => exact (Kd.V_reads' HO_4.out).2.1); rintro e w59 ⟨rfl, hb⟩; refine ⟨_, rfl, ?_⟩; have n0_ := Aside0.mk (Kd.V_below (by (with_reducible repeat (first | apply Kd.V_alloc | apply Kd.V_drewN | apply Kd.V_drew)); exact HO_3.out) hb); have n1_ := Aside0.mk (Kd.V_below (by (with_reducible repeat (first | apply Kd.V_alloc | apply Kd.V_drewN | apply Kd.V_drew)); exact HO_4.out) hb); have n2_ := Aside0.mk (below_step (by repeat (first | (with_reducible first | exact HB.out | apply below_alloc | apply pw_below_drewN | apply below_drew1) | exact HB.out)) hb); clear HO_3; clear HO_4; clear HB; have HO_3 := n0_; have HO_4 := n1_; have HB := n2_; clear n0_ n1_ n2_; (try clear hb); (try clear hb2); (try clear hk); (try clear hi); have p470 : 0 ≤ (t459 : Int) := of_decide_eq_true (by first | (with_reducible assumption) | assumption); have q470 : t459 < (t454.length : Int) := of_decide_eq_true (by first | (with_reducible assumption) | assumption); obtain ⟨ad470, A470_3, c470_3, A470_5, c470_5, e470, hx470_0, hx470_1, hx470_2, hx470_3, hx470_4, hx470_5, hl470_3, hi470_3, hl470_5, hi470_5⟩ := at_T41 (Kd.V_reads' HO_4.out).2.2 t459 p470 q470; cases e470; obtain ⟨ce470, hce470, hMe470, hcc470⟩ := Kd.V_get HO_4.out z41 t459 p470 (by first | exact q470 | exact of_decide_eq_true (by first | (with_reducible assumption) | assumption) | (have e_ := (Kd.V_reads' HO_4.out).1; omega)); obtain ⟨ua470_3, uc470_3, ua470_5, uc470_5, rfl, ul470_3, ge470_3, ul470_5, ge470_5⟩ := k41_openF hMe470; have hv470_3 := hcc470 3 _ rfl; rw [add_field _ _ 3 (by omega)] at hv470_3; replace hv470_3 := Option.some.inj (hv470_3.symm.trans hx470_3); injection hv470_3 with hva_ hvn_ hvc_; rw [hva_] at ge470_3; rw [hvc_] at ul470_3; have HL470_3 := Aside0.mk (show Kd.V (Kd.int .i64) 3 _ w.heap.size _ _ ((rd_T41 t454 t459).f3) from Kd.V_mk ul470_3 ge470_3); clear hva_ hvn_ hvc_ ge470_3 ul470_3; have hv470_5 := hcc470 5 _ rfl; rw [add_field _ _ 5 (by omega)] at hv470_5; replace hv470_5 := Option.some.inj (hv470_5.symm.trans hx470_5); injection hv470_5 with hva_ hvn_ hvc_; rw [hva_] at ge470_5; rw [hvc_] at ul470_5; have HL470_5 := Aside0.mk (show Kd.V (Kd.int .i64) 3 _ w.heap.size _ _ ((rd_T41 t454 t459).f5) from Kd.V_mk ul470_5 ge470_5); clear hva_ hvn_ hvc_ ge470_5 ul470_5; clear hcc470 hce470; have HR470_3 := Aside0.mk hi470_3; have HC470_3 := Aside0.mk hl470_3; clear hi470_3 hl470_3; have HR470_5 := Aside0.mk hi470_5; have HC470_5 := Aside0.mk hl470_5; clear hi470_5 hl470_5; replace p470 := eq_true p470; replace q470 := eq_true q470))
           all_goals go_ret
           all_goals exact ⟨by first | rfl | (simp [errW_none, errW_some] <;> rfl) | (simp [*, errW_none, errW_some] <;> rfl), by repeat (first | (with_reducible first | exact HB.out | apply below_alloc | apply pw_below_drewN | apply below_drew1) | exact HB.out)⟩
        ·rw [if_neg c48] at H
         exact absurd H (by simp)
      ·rw [if_neg c40] at H
       have c40b0 : decide (t459 < (t454.length : Int)) = false := decide_eq_false c40
       clear c40
       by_cases c60 : t457 = (-1)
       ·rw [if_pos c60] at H
        have c60b0 : (t457 == (-1)) = true := beq_iff_eq.mpr c60
        have c60b1 : (t457 != (-1)) = false := bne_eq_false_iff_eq.mpr c60
        clear c60
        replace H := Option.bind_eq_some_iff.mp H
        obtain ⟨t474, A610, H⟩ := H
        replace H : (some (t474 == t457)) = some r := H
        have A61 := Aside0.mk A610
        clear A610
        obtain rfl := Option.some.inj H
        go_wp2_with (first | ((with_reducible refine gate_callee (f := 22) rfl ?_); refine goesL_ (some 35) rfl rfl Try.func22 (by kernel_rfl) rfl #[.slice Ao8 t451.length co8, .slice Ao9 t454.length co9] rfl (by (try simp only [List.map_toArray, List.map_cons, List.map_nil]); first | done | rfl | (simp only [List.length_drop, List.length_take]; rfl)) ?_; (with_reducible refine (impl_RecordsCommon.calls kj5 _ _ t451 _ _ t454 t459 _ ?side1 ?side2 ?side3 ?side4 A14.out).mono ?_); (case side1 => repeat (first | exact (Kd.V_reads' HO_3.out).2.2 | (with_reducible refine Kd.C_alloc ?_ _) | (with_reducible refine Kd.C_drewN ?_ _) | (with_reducible refine Kd.C_drew ?_))); (case side2 => exact (Kd.V_reads' HO_3.out).2.1); (case side3 => repeat (first | exact (Kd.V_reads' HO_4.out).2.2 | (with_reducible refine Kd.C_alloc ?_ _) | (with_reducible refine Kd.C_drewN ?_ _) | (with_reducible refine Kd.C_drew ?_))); (case side4 => exact (Kd.V_reads' HO_4.out).2.1); rintro e w62 ⟨rfl, hb⟩; refine ⟨_, rfl, ?_⟩; have n0_ := Aside0.mk (Kd.V_below (by (with_reducible repeat (first | apply Kd.V_alloc | apply Kd.V_drewN | apply Kd.V_drew)); exact HO_3.out) hb); have n1_ := Aside0.mk (Kd.V_below (by (with_reducible repeat (first | apply Kd.V_alloc | apply Kd.V_drewN | apply Kd.V_drew)); exact HO_4.out) hb); have n2_ := Aside0.mk (below_step (by repeat (first | (with_reducible first | exact HB.out | apply below_alloc | apply pw_below_drewN | apply below_drew1) | exact HB.out)) hb); clear HO_3; clear HO_4; clear HB; have HO_3 := n0_; have HO_4 := n1_; have HB := n2_; clear n0_ n1_ n2_; (try clear hb); (try clear hb2); (try clear hk); (try clear hi)) | (go_at_call 27; (with_reducible refine (impl_RecordsApart.calls kj5 _ _ t454 _ _ t451 t474 _ ?side1 ?side2 ?side3 ?side4 A61.out).mono ?_); (case side1 => repeat (first | exact (Kd.V_reads' HO_4.out).2.2 | (with_reducible refine Kd.C_alloc ?_ _) | (with_reducible refine Kd.C_drewN ?_ _) | (with_reducible refine Kd.C_drew ?_))); (case side2 => exact (Kd.V_reads' HO_4.out).2.1); (case side3 => repeat (first | exact (Kd.V_reads' HO_3.out).2.2 | (with_reducible refine Kd.C_alloc ?_ _) | (with_reducible refine Kd.C_drewN ?_ _) | (with_reducible refine Kd.C_drew ?_))); (case side4 => exact (Kd.V_reads' HO_3.out).2.1); rintro e w63 ⟨rfl, hb⟩; have n0_ := Aside0.mk (Kd.V_below (by (with_reducible repeat (first | apply Kd.V_alloc | apply Kd.V_drewN | apply Kd.V_drew)); exact HO_3.out) hb); have n1_ := Aside0.mk (Kd.V_below (by (with_reducible repeat (first | apply Kd.V_alloc | apply Kd.V_drewN | apply Kd.V_drew)); exact HO_4.out) hb); have n2_ := Aside0.mk (below_step (by repeat (first | (with_reducible first | exact HB.out | apply below_alloc | apply pw_below_drewN | apply below_drew1) | exact HB.out)) hb); clear HO_3; clear HO_4; clear HB; have HO_3 := n0_; have HO_4 := n1_; have HB := n2_; clear n0_ n1_ n2_; (try clear hb); (try clear hb2); (try clear hk); (try clear hi)))
        all_goals go_ret
        all_goals exact ⟨by first | rfl | (simp [errW_none, errW_some] <;> rfl) | (simp [*, errW_none, errW_some] <;> rfl), by repeat (first | (with_reducible first | exact HB.out | apply below_alloc | apply pw_below_drewN | apply below_drew1) | exact HB.out)⟩
       ·rw [if_neg c60] at H
        have c60b0 : (t457 == (-1)) = false := beq_eq_false_iff_ne.mpr c60
        have c60b1 : (t457 != (-1)) = true := bne_iff_ne.mpr c60
        obtain rfl := Option.some.inj H
        go_wp2_with (first | ((with_reducible refine gate_callee (f := 22) rfl ?_); refine goesL_ (some 35) rfl rfl Try.func22 (by kernel_rfl) rfl #[.slice Ao8 t451.length co8, .slice Ao9 t454.length co9] rfl (by (try simp only [List.map_toArray, List.map_cons, List.map_nil]); first | done | rfl | (simp only [List.length_drop, List.length_take]; rfl)) ?_; (with_reducible refine (impl_RecordsCommon.calls kj5 _ _ t451 _ _ t454 t459 _ ?side1 ?side2 ?side3 ?side4 A14.out).mono ?_); (case side1 => repeat (first | exact (Kd.V_reads' HO_3.out).2.2 | (with_reducible refine Kd.C_alloc ?_ _) | (with_reducible refine Kd.C_drewN ?_ _) | (with_reducible refine Kd.C_drew ?_))); (case side2 => exact (Kd.V_reads' HO_3.out).2.1); (case side3 => repeat (first | exact (Kd.V_reads' HO_4.out).2.2 | (with_reducible refine Kd.C_alloc ?_ _) | (with_reducible refine Kd.C_drewN ?_ _) | (with_reducible refine Kd.C_drew ?_))); (case side4 => exact (Kd.V_reads' HO_4.out).2.1); rintro e w64 ⟨rfl, hb⟩; refine ⟨_, rfl, ?_⟩; have n0_ := Aside0.mk (Kd.V_below (by (with_reducible repeat (first | apply Kd.V_alloc | apply Kd.V_drewN | apply Kd.V_drew)); exact HO_3.out) hb); have n1_ := Aside0.mk (Kd.V_below (by (with_reducible repeat (first | apply Kd.V_alloc | apply Kd.V_drewN | apply Kd.V_drew)); exact HO_4.out) hb); have n2_ := Aside0.mk (below_step (by repeat (first | (with_reducible first | exact HB.out | apply below_alloc | apply pw_below_drewN | apply below_drew1) | exact HB.out)) hb); clear HO_3; clear HO_4; clear HB; have HO_3 := n0_; have HO_4 := n1_; have HB := n2_; clear n0_ n1_ n2_; (try clear hb); (try clear hb2); (try clear hk); (try clear hi)))
        all_goals go_ret
        all_goals exact ⟨by first | rfl | (simp [errW_none, errW_some] <;> rfl) | (simp [*, errW_none, errW_some] <;> rfl), by repeat (first | (with_reducible first | exact HB.out | apply below_alloc | apply pw_below_drewN | apply below_drew1) | exact HB.out)⟩

end Go.Proofs.Ythlnbbehcpdnfaa.G

namespace Go.Proofs.Ythlnbbehcpdnfaa.Rd
open Go.RowKit Go.Proofs.YthlnbbehcpdnfaaW.PrintWords
set_option linter.unusedVariables false
section
variable {H : Type} {enc : TypeId × Value → H} {P : Program} {w : World} {base : Nat} {spare : Nat → Bool} {held : Bool}
/-- What a reading of type t gives: a value of the kind, and what is known of it. -/
def Opens (enc : TypeId × Value → H) (P : Program) (w : World) (base : Nat) (spare : Nat → Bool) (held : Bool) {α : Type} (t : TypeId) (d : Kd α) (ok : α → Prop) : Prop :=
  P.cellsOf t = d.sz ∧ ∀ fuel cs x, DataW.trod enc P w base spare held fuel t cs = some x → ∃ v, d.K w v cs ∧ ok v
theorem opens_int {t : TypeId} {k : IntKind} (ht : P.underlying t = some (.int k)) (hc : P.cellsOf t = 1) : Opens enc P w base spare held t (Kd.int k) (fun n => (Lit.int k n).wf = true) := by
  refine ⟨hc, fun fuel cs x h => ?_⟩
  obtain ⟨n, rfl, _, hw⟩ := DataW.trod_int ht h
  exact ⟨n, rfl, hw⟩
theorem cells_len {base : Nat} {a : Addr} {n : Nat} {cs : List Value} (h : w.cells? base a n = some cs) : cs.length = n ∧ ∀ i u, cs[i]? = some u → w.cell? (a.add i) = some u := by
  unfold World.cells? at h
  split at h
  · rename_i hb
    refine ⟨by simpa using mapM_some_length h, fun i u hu => ?_⟩
    have hi : i < n := by
      have := (List.getElem?_eq_some_iff.1 hu).1
      have h2 : cs.length = n := by simpa using mapM_some_length h
      omega
    have := mapM_some_get h i i (by simp [hi])
    rw [hu] at this
    exact this
  · simp at h
theorem opens_row {α : Type} {t e : TypeId} {d : Kd α} {ok : α → Prop} (ht : P.underlying t = some (.slice e)) (hd : Opens enc P w base spare held e d ok) {fuel : Nat} {cs : List Value} {x : DataW H × List MemPlace}
    (h : DataW.trod enc P w base spare held fuel t cs = some x) : ∃ (A : Option Addr) (c : Nat) (xs : List α), cs = [.slice A xs.length c] ∧ xs.length ≤ c ∧ c ≤ maxLen ∧ d.C w A xs.length xs ∧ ∀ y ∈ xs, ok y := by
  rcases Go.Deep.open_slice ht h with ⟨rfl, _⟩ | ⟨a, len, cap, m, n, D, Pl, rfl, hb, hl, hm, hmm, _, hel⟩
  · exact ⟨none, 0, [], rfl, Nat.le_refl _, by unfold maxLen; omega, ⟨rfl, by simp, fun h0 => absurd h0 (by simp)⟩, by simp⟩
  have hlm : len ≤ m := by rw [hmm]; split <;> omega
  have hx : ∀ i, i < len → ∃ y : α, ok y ∧ ∃ c, c.length = d.sz ∧ d.K w y c ∧ ∀ j u, c[j]? = some u → w.cell? (a.add (i * d.sz + j)) = some u := by
    intro i hi
    obtain ⟨cs', h1, h2⟩ := hel i (by omega)
    obtain ⟨y, hk, ho⟩ := hd.2 _ _ _ h2
    obtain ⟨hl', hc'⟩ := cells_len h1
    refine ⟨y, ho, cs', by rw [hl', hd.1], hk, fun j u hu => ?_⟩
    have := hc' j u hu
    rw [Go.Deep.add_add, hd.1] at this
    exact this
  rcases Nat.eq_zero_or_pos len with h0 | h0
  · subst h0
    exact ⟨some a, cap, [], rfl, Nat.zero_le _, hm, ⟨rfl, by simp, fun h1 => absurd h1 (by simp)⟩, by simp⟩
  obtain ⟨y0, _⟩ := hx 0 h0
  haveI : Inhabited α := ⟨y0⟩
  obtain ⟨g, hg⟩ := Go.Deep.choose_lt hx
  have hlen : ((List.range len).map g).length = len := by simp
  refine ⟨some a, cap, (List.range len).map g, by rw [hlen], by rw [hlen]; exact hl, hm, ⟨rfl, by rw [hlen]; unfold maxLen at hm; omega, fun _ => ⟨a, rfl, fun j p hj => ?_⟩⟩, fun y hy => ?_⟩
  · have hj' : j < len := by
      have := (List.getElem?_eq_some_iff.1 hj).1
      omega
    rw [List.getElem?_map, List.getElem?_range hj'] at hj
    simp at hj
    subst hj
    obtain ⟨_, c, hc1, hc2, hc3⟩ := hg j hj'
    exact ⟨c, hc1, hc2, hc3⟩
  · obtain ⟨i, hi, rfl⟩ := List.mem_map.1 hy
    exact (hg i (List.mem_range.1 hi)).1
end
end Go.Proofs.Ythlnbbehcpdnfaa.Rd

namespace Go.Proofs.Ythlnbbehcpdnfaa.OFnApart
open Go.RowKit Go.Proofs.YthlnbbehcpdnfaaW.PrintWords Go.Proofs.Ythlnbbehcpdnfaa.G
set_option linter.unusedVariables false
def Pure : Prop := ∀ (l0 : List Int), l0.length ≤ maxLen → (∀ y ∈ l0, (Lit.int .u8 y).wf = true) → ∃ k, laws_FnApart.f k l0 = some true
end Go.Proofs.Ythlnbbehcpdnfaa.OFnApart

namespace Go.Proofs.Ythlnbbehcpdnfaa.Pu
open Go.RowKit Go.Proofs.YthlnbbehcpdnfaaW.PrintWords Go.Proofs.YthlnbbehcpdnfaaW.PrintLast
set_option linter.unusedVariables false
set_option linter.unusedSimpArgs false
theorem w64 {a : Int} (h0 : -9223372036854775808 ≤ a) (h1 : a ≤ 9223372036854775807) : wrap64 a = a := by unfold wrap64; omega
/-- (Not by 'rfl': a large number in a test behind it would be counted up by the kernel.) -/
theorem bindS {α β : Type} (x : α) (f : α → Option β) : (some x).bind f = f x := Eq.trans (Option.bind_some x f) (Eq.refl _)
/-- It ends, in something of which P holds. -/
def EndsIn {α : Type} (g : Nat → Option α) (P : α → Prop) : Prop := ∃ r, Ev g r ∧ P r
theorem EndsIn.bind {α β : Type} {g : Nat → Option α} {f : Nat → α → Option β} {P : α → Prop} {Q : β → Prop} (h : EndsIn g P) (k : ∀ a, P a → EndsIn (fun n => f n a) Q) : EndsIn (fun n => (g n).bind (f n)) Q := by
  obtain ⟨a, ha, hp⟩ := h
  obtain ⟨b, hb, hq⟩ := k a hp
  exact ⟨b, Ev.bind ha hb, hq⟩
theorem EndsIn.step {α : Type} {g f : Nat → Option α} {P : α → Prop} (h : ∀ k, g (k + 1) = f k) (k : EndsIn f P) : EndsIn g P := by
  obtain ⟨a, ha, hp⟩ := k
  exact ⟨a, Ev.step h ha, hp⟩
theorem EndsIn.now {α : Type} {P : α → Prop} (r : α) (hp : P r) : EndsIn (fun _ => some r) P := ⟨r, Ev.now r, hp⟩
theorem EndsIn.mono {α : Type} {g : Nat → Option α} {P Q : α → Prop} (h : EndsIn g P) (k : ∀ a, P a → Q a) : EndsIn g Q := by
  obtain ⟨a, ha, hp⟩ := h
  exact ⟨a, ha, k a hp⟩
theorem EndsIn.ev {α : Type} {g : Nat → Option α} {r : α} (h : EndsIn g (fun x => x = r)) : Ev g r := by
  obtain ⟨a, ha, rfl⟩ := h
  exact ha
theorem EndsIn.rounds {α : Type} {g : Nat → Option α} {r : α} (h : EndsIn g (fun x => x = r)) : ∃ k, g k = some r := h.ev.rounds
theorem toList_data (s : ByteArray) : s.toList = s.data.toList := ByteArray.toList_eq s
theorem ba_ext {s t : ByteArray} (h : s.toList = t.toList) : s = t := by
  rw [toList_data, toList_data] at h
  cases s; cases t
  simp only at h
  congr
  exact Array.toList_inj.1 h
theorem u8_range {x : Int} (h : (Lit.int .u8 x).wf = true) : 0 ≤ x ∧ x ≤ 255 := by
  simp only [Lit.wf, Bool.and_eq_true, decide_eq_true_eq] at h
  exact ⟨h.1, h.2⟩
end Go.Proofs.Ythlnbbehcpdnfaa.Pu

namespace Go.Proofs.Ythlnbbehcpdnfaa.Pu
open Go.RowKit Go.Proofs.YthlnbbehcpdnfaaW.PrintWords Go.Proofs.YthlnbbehcpdnfaaW.PrintLast Go.Proofs.Ythlnbbehcpdnfaa.G
set_option linter.unusedVariables false
set_option linter.unusedSimpArgs false
/-- A loop that asks each element, and stops at the first that says no. -/
theorem ev_all {α : Type} (l : List α) (hl : l.length ≤ 9223372036854775807) (L : Nat → Int → Option Bool) (F : Nat → Nat → Option Bool) (p : α → Bool) (last : Bool)
    (hend : ∀ k, L (k + 1) (l.length : Int) = some last)
    (hstep : ∀ k (i : Nat), i < l.length → L (k + 1) (i : Int) = (F k i).bind fun t => if t = true then L k (wrap64 ((i : Int) + 1)) else some false)
    (hF : ∀ i (h : i < l.length), Ev (fun k => F k i) (p l[i])) : ∀ d i, l.length - i = d → i ≤ l.length → Ev (fun k => L k (i : Int)) ((l.drop i).all p && last) := by
  intro d
  induction d with
  | zero =>
    intro i hi hle
    obtain rfl : i = l.length := by omega
    refine Ev.step (fun k => hend k) ?_
    rw [List.drop_length]
    exact Ev.now _
  | succ d ih =>
    intro i hi hle
    have hlt : i < l.length := by omega
    refine Ev.step (fun k => hstep k i hlt) ?_
    refine Ev.bind (hF i hlt) ?_
    rw [List.drop_eq_getElem_cons hlt, List.all_cons]
    cases hp : p l[i]
    · exact Ev.now _
    · simp only [if_true, Bool.true_and, w64 (a := (i : Int) + 1) (by omega) (by omega)]
      exact ih (i + 1) (by omega) (by omega)
theorem rdi_nat (l : List Int) (i : Nat) (h : i < l.length) : rd l (i : Int) = l[i] := by
  unfold rd
  simp [h]
theorem within_ev (a b c : Int) : impl_within.f a b c = some (decide (b ≤ a) && decide (a ≤ c)) := by
  unfold impl_within.f
  by_cases h : a ≥ b
  · rw [if_pos h, show decide (b ≤ a) = true from decide_eq_true h]; rfl
  · rw [if_neg h, show decide (b ≤ a) = false from decide_eq_false h]; rfl
theorem in_ev (a b c : Int) : spec_l6In.f a b c = some (decide (b ≤ a) && decide (a ≤ c)) := by
  unfold spec_l6In.f
  by_cases h : a ≥ b
  · rw [if_pos h, show decide (b ≤ a) = true from decide_eq_true h]; rfl
  · rw [if_neg h, show decide (b ≤ a) = false from decide_eq_false h]; rfl
def isB (x : Int) : Bool := decide (0 ≤ x) && decide (x ≤ 255)
theorem isByte_ev (x : Int) : impl_isByte.f x = some (isB x) := by
  unfold impl_isByte.f isB
  by_cases h : x ≥ 0
  · rw [if_pos h, show decide (0 ≤ x) = true from decide_eq_true h]; rfl
  · rw [if_neg h, show decide (0 ≤ x) = false from decide_eq_false h]; rfl
theorem allBytes_ev (l : List Int) (hl : l.length ≤ 9223372036854775807) : Ev (fun k => impl_allBytes.f k l) (l.all isB) := by
  unfold impl_allBytes.f
  have := ev_all l hl (fun k i => impl_allBytes.l0 k l (l.length : Int) i) (fun k i => some (isB (rd l (i : Int)))) isB true
    (fun k => by simp only [impl_allBytes.l0]; rw [if_neg (by omega)])
    (fun k i h => by simp only [impl_allBytes.l0]; rw [if_pos (by omega), if_pos (by omega), if_pos (by omega), isByte_ev])
    (fun i h => by rw [rdi_nat l i h]; exact Ev.now _) l.length 0 (by omega) (by omega)
  simpa using this
theorem l1Ok_ev (l : List Int) (hl : l.length ≤ 9223372036854775807) : Ev (fun k => spec_l1Ok.f k l) (l.all isB) := by
  unfold spec_l1Ok.f
  have := ev_all l hl (fun k i => spec_l1Ok.l0 k l i) (fun k i => some (isB (rd l (i : Int)))) isB true
    (fun k => by simp only [spec_l1Ok.l0]; rw [if_neg (by omega)])
    (fun k i h => by simp only [spec_l1Ok.l0]; rw [if_pos (by omega), if_pos (by omega), in_ev]; rfl)
    (fun i h => by rw [rdi_nat l i h]; exact Ev.now _) l.length 0 (by omega) (by omega)
  simpa using this
def partOk (has : Bool) (l : List Int) : Bool := if has = true then decide (l.length ≤ 12) && l.all isB else decide (l.length = 0)
theorem partValid_ev (has : Bool) (l : List Int) (hl : l.length ≤ 9223372036854775807) : Ev (fun k => impl_partValid.f k has l) (partOk has l) := by
  unfold impl_partValid.f partOk
  cases has
  · simp only [Bool.false_eq_true, if_false]
    rw [show ((l.length : Int) == 0) = decide (l.length = 0) from by rw [Bool.eq_iff_iff]; simp]
    exact Ev.now _
  · simp only [if_true]
    by_cases h : (l.length : Int) ≤ 12
    · simp only [if_pos h]
      rw [show decide (l.length ≤ 12) = true from decide_eq_true (by omega), Bool.true_and]
      exact Ev.bind (allBytes_ev l hl) (Ev.now _)
    · simp only [if_neg h]
      rw [show decide (l.length ≤ 12) = false from decide_eq_false (by omega)]
      exact Ev.now _
theorem l3Part_ev (has : Bool) (l : List Int) (hl : l.length ≤ 9223372036854775807) : Ev (fun k => spec_l3Part.f k has l) (partOk has l) := by
  unfold spec_l3Part.f partOk
  cases has
  · simp only [Bool.false_eq_true, if_false]
    by_cases h : (l.length : Int) = 0
    · simp only [if_pos h]
      obtain rfl : l = [] := List.length_eq_zero_iff.1 (by omega)
      refine Ev.bind (l1Ok_ev [] (by simp)) ?_
      exact Ev.now _
    · simp only [if_neg h]
      rw [show decide (l.length = 0) = false from decide_eq_false (by omega)]
      exact Ev.now _
  · simp only [if_true]
    refine Ev.bind (l1Ok_ev l hl) ?_
    rw [show decide ((l.length : Int) ≤ 12) = decide (l.length ≤ 12) from decide_eq_decide.2 (by omega)]
    cases l.all isB
    · simp only [Bool.false_eq_true, if_false, Bool.and_false]
      exact Ev.now _
    · simp only [if_true, Bool.and_true]
      exact Ev.now _
def rng (x : Int) : Bool := decide (0 ≤ x) && decide (x ≤ 99999)
def recOk (r : S41) : Bool := (rng r.f0 && rng r.f1) && (partOk r.f2 r.f3 && partOk r.f4 r.f5)
/-- Lengths that can be told. -/
def Lens (r : S41) : Prop := r.f3.length ≤ 9223372036854775807 ∧ r.f5.length ≤ 9223372036854775807
theorem RecordValid_ev (r : S41) (hr : Lens r) : Ev (fun k => impl_RecordValid.f k r.f0 r.f1 r.f2 r.f3 r.f4 r.f5) (recOk r) := by
  unfold impl_RecordValid.f recOk impl_baseValid.f
  simp only [within_ev, Option.bind_some]
  change Ev (fun k => ((if rng r.f0 = true then some (rng r.f1) else some false)).bind _) _
  cases rng r.f0
  · simp only [Bool.false_eq_true, if_false, Option.bind_some, Bool.false_and]
    exact Ev.now _
  · cases rng r.f1
    · simp only [if_true, Option.bind_some, Bool.false_eq_true, if_false, Bool.true_and, Bool.false_and]
      exact Ev.now _
    · simp only [if_true, Option.bind_some, Bool.true_and]
      refine Ev.bind (partValid_ev _ _ hr.1) ?_
      cases partOk r.f2 r.f3
      · exact Ev.now _
      · simp only [if_true, Bool.true_and]
        exact Ev.bind (partValid_ev _ _ hr.2) (Ev.now _)
theorem sRecordValid_ev (r : S41) (hr : Lens r) : Ev (fun k => spec_RecordValid.f k r.f0 r.f1 r.f2 r.f3 r.f4 r.f5) (recOk r) := by
  unfold spec_RecordValid.f recOk
  simp only [in_ev, Option.bind_some]
  change Ev (fun k => if rng r.f0 = true then (if rng r.f1 = true then _ else some false) else some false) _
  cases rng r.f0
  · simp only [Bool.false_eq_true, if_false, Bool.false_and]
    exact Ev.now _
  · cases rng r.f1
    · simp only [if_true, Bool.false_eq_true, if_false, Bool.true_and, Bool.false_and]
      exact Ev.now _
    · simp only [if_true, Bool.true_and]
      refine Ev.bind (l3Part_ev _ _ hr.1) ?_
      cases partOk r.f2 r.f3
      · exact Ev.now _
      · simp only [if_true, Bool.true_and]
        exact Ev.bind (l3Part_ev _ _ hr.2) (Ev.now _)
theorem rdR_nat (l : List S41) (i : Nat) (h : i < l.length) : rd_T41 l (i : Int) = l[i] := by
  unfold rd_T41
  simp [h]
theorem recOk_len {r : S41} (h : recOk r = true) : r.f3.length ≤ 12 ∧ r.f5.length ≤ 12 := by
  unfold recOk partOk at h
  simp only [Bool.and_eq_true] at h
  obtain ⟨_, h1, h2⟩ := h
  constructor
  · cases h3 : r.f2 <;> rw [h3] at h1 <;> simp at h1
    · simp [h1]
    · omega
  · cases h3 : r.f4 <;> rw [h3] at h2 <;> simp at h2
    · simp [h2]
    · omega
end Go.Proofs.Ythlnbbehcpdnfaa.Pu

namespace Go.Proofs.Ythlnbbehcpdnfaa.Pu
open Go.RowKit Go.Proofs.YthlnbbehcpdnfaaW.PrintWords Go.Proofs.YthlnbbehcpdnfaaW.PrintLast Go.Proofs.Ythlnbbehcpdnfaa.G
set_option linter.unusedVariables false
set_option linter.unusedSimpArgs false
def rowOk (l : List S41) : Bool := l.all recOk && decide (l.length ≤ 30)
theorem rowValid_ev (l : List S41) (hl : l.length ≤ 9223372036854775807) (hr : ∀ r ∈ l, Lens r) : Ev (fun k => impl_rowValid.f k l) (rowOk l) := by
  unfold impl_rowValid.f rowOk
  by_cases h : (l.length : Int) > 30
  · simp only [if_pos h]
    rw [show decide (l.length ≤ 30) = false from decide_eq_false (by omega), Bool.and_false]
    exact Ev.now _
  · simp only [if_neg h]
    rw [show decide (l.length ≤ 30) = true from decide_eq_true (by omega)]
    have := ev_all l hl (fun k i => impl_rowValid.l0 k l (l.length : Int) i) (fun k i => impl_RecordValid.f k (rd_T41 l i).f0 (rd_T41 l i).f1 (rd_T41 l i).f2 (rd_T41 l i).f3 (rd_T41 l i).f4 (rd_T41 l i).f5) recOk true
      (fun k => by simp only [impl_rowValid.l0]; rw [if_neg (by omega)])
      (fun k i h => by simp only [impl_rowValid.l0]; rw [if_pos (by omega), if_pos (by omega), if_pos (by omega)])
      (fun i h => by rw [rdR_nat l i h]; exact RecordValid_ev _ (hr _ (List.getElem_mem _))) l.length 0 (by omega) (by omega)
    simpa using this
theorem l42Rows_ev (l : List S41) (hl : l.length ≤ 9223372036854775807) (hr : ∀ r ∈ l, Lens r) : Ev (fun k => spec_l42Rows.f k l) (rowOk l) := by
  unfold spec_l42Rows.f rowOk
  have := ev_all l hl (fun k i => spec_l42Rows.l0 k l i) (fun k i => spec_RecordValid.f k (rd_T41 l i).f0 (rd_T41 l i).f1 (rd_T41 l i).f2 (rd_T41 l i).f3 (rd_T41 l i).f4 (rd_T41 l i).f5) recOk (decide (l.length ≤ 30))
      (fun k => by simp only [spec_l42Rows.l0]; rw [if_neg (by omega)]; congr 1; exact decide_eq_decide.2 (by omega))
      (fun k i h => by simp only [spec_l42Rows.l0]; rw [if_pos (by omega), if_pos (by omega)])
      (fun i h => by rw [rdR_nat l i h]; exact sRecordValid_ev _ (hr _ (List.getElem_mem _))) l.length 0 (by omega) (by omega)
  simpa using this
theorem equal_ev (a b : List Int) (ha : a.length ≤ 9223372036854775807) : Ev (fun k => slices_Equal_int_int.f k a b) (decide (a = b)) := by
  unfold slices_Equal_int_int.f
  by_cases h : (a.length : Int) = (b.length : Int)
  · have hl : a.length = b.length := by omega
    simp only [if_pos h]
    have key : ∀ d i, a.length - i = d → Ev (fun k => slices_Equal_int_int.l0 k a b (a.length : Int) (i : Int)) (decide (a.drop i = b.drop i)) := by
      intro d
      induction d with
      | zero =>
        intro i hi
        refine Ev.step (fun k => by rw [slices_Equal_int_int.l0]) ?_
        simp only [if_neg (show ¬ ((i : Int) < (a.length : Int)) by omega)]
        rw [List.drop_of_length_le (by omega), List.drop_of_length_le (by omega)]
        exact Ev.now _
      | succ d ih =>
        intro i hi
        have h1 : i < a.length := by omega
        have h2 : i < b.length := by omega
        refine Ev.step (fun k => by rw [slices_Equal_int_int.l0]) ?_
        simp only [if_pos (show (i : Int) < (a.length : Int) by omega), if_pos (show (0 : Int) ≤ (i : Int) by omega), if_pos (show (i : Int) < (b.length : Int) by omega), rdi_nat a i h1, rdi_nat b i h2, w64 (a := (i : Int) + 1) (by omega) (by omega)]
        rw [List.drop_eq_getElem_cons h1, List.drop_eq_getElem_cons h2]
        by_cases he : a[i] = b[i]
        · simp only [if_pos he]
          rw [show decide (a[i] :: a.drop (i + 1) = b[i] :: b.drop (i + 1)) = decide (a.drop (i + 1) = b.drop (i + 1)) from decide_eq_decide.2 (by simp only [List.cons.injEq, he, true_and])]
          exact ih (i + 1) (by omega)
        · simp only [if_neg he]
          rw [show decide (a[i] :: a.drop (i + 1) = b[i] :: b.drop (i + 1)) = false from decide_eq_false (by simp only [List.cons.injEq, he, false_and, not_false_eq_true])]
          exact Ev.now _
    have := key a.length 0 (by omega)
    simpa using this
  · simp only [if_neg h]
    rw [show decide (a = b) = false from decide_eq_false (fun e => h (by rw [e]))]
    exact Ev.now _
def sameB (a b : S41) : Bool := decide (a.f0 = b.f0) && (decide (a.f1 = b.f1) && ((a.f2 == b.f2) && ((a.f4 == b.f4) && (decide (a.f3 = b.f3) && decide (a.f5 = b.f5)))))
theorem sameB_iff (a b : S41) : sameB a b = true ↔ a = b := by
  unfold sameB
  simp only [Bool.and_eq_true, decide_eq_true_eq, beq_iff_eq]
  constructor
  · rintro ⟨h0, h1, h2, h4, h3, h5⟩
    cases a; cases b
    simp only at h0 h1 h2 h3 h4 h5
    subst h0 h1 h2 h3 h4 h5
    rfl
  · rintro rfl
    exact ⟨rfl, rfl, rfl, rfl, rfl, rfl⟩
theorem same_ev (a b : S41) (ha : Lens a) : Ev (fun k => impl_Record_same.f k a.f0 a.f1 a.f2 a.f3 a.f4 a.f5 b.f0 b.f1 b.f2 b.f3 b.f4 b.f5) (sameB a b) := by
  unfold impl_Record_same.f sameB
  by_cases h0 : a.f0 = b.f0
  · simp only [if_pos h0, decide_eq_true h0, Bool.true_and]
    by_cases h1 : a.f1 = b.f1
    · simp only [if_pos h1, decide_eq_true h1, Bool.true_and]
      cases h2 : (a.f2 == b.f2)
      · simp only [Bool.false_eq_true, if_false, Bool.false_and]
        exact Ev.now _
      · simp only [if_true, Bool.true_and]
        cases h4 : (a.f4 == b.f4)
        · simp only [Bool.false_eq_true, if_false, Bool.false_and]
          exact Ev.now _
        · simp only [if_true, Bool.true_and]
          refine Ev.bind (equal_ev _ _ ha.1) ?_
          cases decide (a.f3 = b.f3)
          · exact Ev.now _
          · simp only [if_true, Bool.true_and]
            exact Ev.bind (equal_ev _ _ ha.2) (Ev.now _)
    · simp only [if_neg h1, decide_eq_false h1, Bool.false_and]
      exact Ev.now _
  · simp only [if_neg h0, decide_eq_false h0, Bool.false_and]
    exact Ev.now _
def cmn : List S41 → List S41 → Nat
  | a :: xs, b :: ys => if sameB a b = true then cmn xs ys + 1 else 0
  | _, _ => 0
theorem cmn_le : ∀ (a b : List S41), cmn a b ≤ a.length ∧ cmn a b ≤ b.length
  | [], _ => by simp [cmn]
  | _ :: _, [] => by simp [cmn]
  | a :: xs, b :: ys => by
    have := cmn_le xs ys
    unfold cmn
    split <;> simp only [List.length_cons] <;> omega
theorem cmn_nil_left (b : List S41) : cmn [] b = 0 := by cases b <;> rfl
theorem cmn_nil_right (a : List S41) : cmn a [] = 0 := by cases a <;> rfl
theorem common_loop (a b : List S41) (ha : a.length ≤ 9223372036854775807) (hr : ∀ r ∈ a, Lens r) : ∀ d i, a.length - i = d → i ≤ a.length → i ≤ b.length →
    Ev (fun k => impl_common.l0 k a b (i : Int)) ((i + cmn (a.drop i) (b.drop i) : Nat) : Int) := by
  intro d
  induction d with
  | zero =>
    intro i hi h1 h2
    refine Ev.step (fun k => by rw [impl_common.l0]) ?_
    simp only [if_neg (show ¬ ((i : Int) < (a.length : Int)) by omega)]
    rw [List.drop_of_length_le (by omega), cmn_nil_left, Nat.add_zero]
    exact Ev.now _
  | succ d ih =>
    intro i hi h1 h2
    have hlt : i < a.length := by omega
    refine Ev.step (fun k => by rw [impl_common.l0]) ?_
    simp only [if_pos (show (i : Int) < (a.length : Int) by omega)]
    by_cases hb : (i : Int) < (b.length : Int)
    · have hlb : i < b.length := by omega
      simp only [if_pos hb, if_pos (show (0 : Int) ≤ (i : Int) by omega), rdR_nat a i hlt, rdR_nat b i hlb, w64 (a := (i : Int) + 1) (by omega) (by omega)]
      refine Ev.bind (same_ev _ _ (hr _ (List.getElem_mem _))) ?_
      rw [List.drop_eq_getElem_cons hlt, List.drop_eq_getElem_cons hlb]
      unfold cmn
      cases hs : sameB a[i] b[i]
      · simp only [Bool.false_eq_true, if_false, Nat.add_zero]
        exact Ev.now _
      · simp only [if_true]
        have := ih (i + 1) (by omega) (by omega) (by omega)
        rw [show i + (cmn (a.drop (i + 1)) (b.drop (i + 1)) + 1) = i + 1 + cmn (a.drop (i + 1)) (b.drop (i + 1)) by omega]
        exact this
    · simp only [if_neg hb]
      rw [List.drop_of_length_le (l := b) (by omega), cmn_nil_right, Nat.add_zero]
      exact Ev.now _
theorem common_ev (a b : List S41) (ha : a.length ≤ 9223372036854775807) (hr : ∀ r ∈ a, Lens r) : Ev (fun k => impl_common.f k a b) ((cmn a b : Nat) : Int) := by
  unfold impl_common.f
  have := common_loop a b ha hr a.length 0 (by omega) (by omega) (by omega)
  simpa using this
end Go.Proofs.Ythlnbbehcpdnfaa.Pu

