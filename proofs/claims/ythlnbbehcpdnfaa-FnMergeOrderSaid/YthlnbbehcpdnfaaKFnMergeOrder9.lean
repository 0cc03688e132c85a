/- A text of seat Ythlnbbehcpdnfaa: what the law FnMergeOrder needs of this repo's texts (by pack.py). Not trusted: Lean checks it. -/
import Derived.Test.YthlnbbehcpdnfaaKFnMergeOrder8
import Derived.Deep.Slices
import Derived.SizedLaws
import Derived.Laws.BitsLemmas
namespace Go.Proofs.Ythlnbbehcpdnfaa.G
open Go.RowKit Go.Proofs.YthlnbbehcpdnfaaW.PrintWords Go.Proofs.YthlnbbehcpdnfaaW.PrintLast Go.Proofs.YthlnbbehcpdnfaaW.PrintMore
attribute [local go_sem] max2_int min2_int max_two min_two max_three min_three max_four min_four   -- for this text's walks alone
set_option linter.unusedVariables false
set_option linter.unusedSimpArgs false

mutual
def laws_FnMergeOrder.j0 : Nat → List (S41) → List (S41) → List (S41) → Bool → List (S41) → Bool → Bool → Option (Bool)
 | 0, _, _, _, _, _, _, _ => none
 | k + 1, x3, x4, x5, x6, x7, x8, x44 => if x44 = true then (if (x6 == x8) = true then ((laws_sameRecords.f k x5 x7).bind fun t302 => (some t302)) else (some false)) else (laws_FnMergeOrder.l0 k x3 x4 x5 1)
def laws_FnMergeOrder.l0 : Nat → List (S41) → List (S41) → List (S41) → Int → Option (Bool)
 | 0, _, _, _, _ => none
 | k + 1, x3, x4, x5, x9 => if x9 < (x3.length : Int) then (if 0 ≤ (wrap64 (x9 - 1)) then (if (wrap64 (x9 - 1)) < (x3.length : Int) then (if 0 ≤ x9 then (if ((rd_T41 x3 (wrap64 (x9 - 1))).f1) > ((rd_T41 x3 x9).f1) then (some true) else (laws_FnMergeOrder.l0 k x3 x4 x5 (wrap64 (x9 + 1)))) else (none)) else (none)) else (none)) else (laws_FnMergeOrder.l1 k x4 x5 1)
def laws_FnMergeOrder.l1 : Nat → List (S41) → List (S41) → Int → Option (Bool)
 | 0, _, _, _ => none
 | k + 1, x4, x5, x10 => if x10 < (x4.length : Int) then (if 0 ≤ (wrap64 (x10 - 1)) then (if (wrap64 (x10 - 1)) < (x4.length : Int) then (if 0 ≤ x10 then (if ((rd_T41 x4 (wrap64 (x10 - 1))).f1) > ((rd_T41 x4 x10).f1) then (some true) else (laws_FnMergeOrder.l1 k x4 x5 (wrap64 (x10 + 1)))) else (none)) else (none)) else (none)) else (laws_FnMergeOrder.l2 k x5 1)
def laws_FnMergeOrder.l2 : Nat → List (S41) → Int → Option (Bool)
 | 0, _, _ => none
 | k + 1, x5, x11 => if x11 < (x5.length : Int) then (if 0 ≤ (wrap64 (x11 - 1)) then (if (wrap64 (x11 - 1)) < (x5.length : Int) then (if 0 ≤ x11 then (if ((rd_T41 x5 (wrap64 (x11 - 1))).f1) > ((rd_T41 x5 x11).f1) then (some false) else (laws_FnMergeOrder.l2 k x5 (wrap64 (x11 + 1)))) else (none)) else (none)) else (none)) else (some true)
end
def laws_FnMergeOrder.f (k : Nat) (l0 : List Int) : Option (Bool) := if (l0.length : Int) > 1048576 then (some true) else ((spec_DrawRecordsMerge.f k l0).bind fun bt287 => ((impl_RecordsMerge.f k bt287.1 bt287.2).bind fun bt293 => ((spec_RecordsMerge.f k bt287.1 bt287.2).bind fun bt297 => (if (bt293.2 != bt297.2) = true then (laws_FnMergeOrder.j0 k bt287.1 bt287.2 bt293.1 bt293.2 bt297.1 bt297.2 true) else ((laws_sameRecords.f k bt293.1 bt297.1).bind fun t301 => (if t301 = true then (laws_FnMergeOrder.j0 k bt287.1 bt287.2 bt293.1 bt293.2 bt297.1 bt297.2 (!bt293.2)) else (laws_FnMergeOrder.j0 k bt287.1 bt287.2 bt293.1 bt293.2 bt297.1 bt297.2 true)))))))
set_option maxHeartbeats 8000000 in
set_option maxRecDepth 100000 in
theorem laws_FnMergeOrder.calls (k : Nat) (A0 : Option Addr) (c0 : Nat) (l0 : List Int) (r : Bool) (w : World) (hr0 : Kd.C (Kd.int .u8) w A0 l0.length l0) (hc0 : l0.length ≤ c0) (h : laws_FnMergeOrder.f k l0 = some r) :
  Calls Try.prog 13 #[.slice A0 l0.length c0] w fun e w' => e = .returned (.bool r) ∧ Below w.heap.size w w' := by
 have HR0 := Aside0.mk hr0
 have HC0 := Aside0.mk hc0
 clear hr0 hc0
 have HB := Aside0.mk (Below.refl w.heap.size w)
 have H : (if (l0.length : Int) > 1048576 then (some true) else ((spec_DrawRecordsMerge.f k l0).bind fun bt287 => ((impl_RecordsMerge.f k bt287.1 bt287.2).bind fun bt293 => ((spec_RecordsMerge.f k bt287.1 bt287.2).bind fun bt297 => (if (bt293.2 != bt297.2) = true then (laws_FnMergeOrder.j0 k bt287.1 bt287.2 bt293.1 bt293.2 bt297.1 bt297.2 true) else ((laws_sameRecords.f k bt293.1 bt297.1).bind fun t301 => (if t301 = true then (laws_FnMergeOrder.j0 k bt287.1 bt287.2 bt293.1 bt293.2 bt297.1 bt297.2 (!bt293.2)) else (laws_FnMergeOrder.j0 k bt287.1 bt287.2 bt293.1 bt293.2 bt297.1 bt297.2 true)))))))) = some r := h
 clear h
 by_cases c2 : (l0.length : Int) > 1048576
 ·rw [if_pos c2] at H
  have c2b0 : decide (1048576 < (l0.length : Int)) = true := decide_eq_true c2
  have c2b1 : decide (1048576 < l0.length) = true := decide_eq_true (by omega)
  clear c2
  obtain rfl := Option.some.inj H
  go_enter Try.func13, Try.ntmps13
  go_wp2
  repeat (go_quiet (fail); try go_wp2)
  all_goals go_ret
  all_goals exact ⟨by first | rfl | (simp [errW_none, errW_some] <;> rfl) | (simp [*, errW_none, errW_some] <;> rfl), by repeat (first | (with_reducible first | exact HB.out | apply below_alloc | apply pw_below_drewN | apply below_drew1) | exact HB.out)⟩
 ·rw [if_neg c2] at H
  have c2b0 : decide (1048576 < (l0.length : Int)) = false := decide_eq_false c2
  have c2b1 : decide (1048576 < l0.length) = false := decide_eq_false (by omega)
  clear c2
  replace H := Option.bind_eq_some_iff.mp H
  obtain ⟨⟨t287, t288⟩, A30, H⟩ := H
  replace H : ((impl_RecordsMerge.f k t287 t288).bind fun bt293 => ((spec_RecordsMerge.f k t287 t288).bind fun bt297 => (if (bt293.2 != bt297.2) = true then (laws_FnMergeOrder.j0 k t287 t288 bt293.1 bt293.2 bt297.1 bt297.2 true) else ((laws_sameRecords.f k bt293.1 bt297.1).bind fun t301 => (if t301 = true then (laws_FnMergeOrder.j0 k t287 t288 bt293.1 bt293.2 bt297.1 bt297.2 (!bt293.2)) else (laws_FnMergeOrder.j0 k t287 t288 bt293.1 bt293.2 bt297.1 bt297.2 true)))))) = some r := H
  have A3 := Aside0.mk A30
  clear A30
  replace H := Option.bind_eq_some_iff.mp H
  obtain ⟨⟨t293, t296⟩, A40, H⟩ := H
  replace H : ((spec_RecordsMerge.f k t287 t288).bind fun bt297 => (if (t296 != bt297.2) = true then (laws_FnMergeOrder.j0 k t287 t288 t293 t296 bt297.1 bt297.2 true) else ((laws_sameRecords.f k t293 bt297.1).bind fun t301 => (if t301 = true then (laws_FnMergeOrder.j0 k t287 t288 t293 t296 bt297.1 bt297.2 (!t296)) else (laws_FnMergeOrder.j0 k t287 t288 t293 t296 bt297.1 bt297.2 true))))) = some r := H
  have A4 := Aside0.mk A40
  clear A40
  replace H := Option.bind_eq_some_iff.mp H
  obtain ⟨⟨t297, t298⟩, A50, H⟩ := H
  replace H : (if (t296 != t298) = true then (laws_FnMergeOrder.j0 k t287 t288 t293 t296 t297 t298 true) else ((laws_sameRecords.f k t293 t297).bind fun t301 => (if t301 = true then (laws_FnMergeOrder.j0 k t287 t288 t293 t296 t297 t298 (!t296)) else (laws_FnMergeOrder.j0 k t287 t288 t293 t296 t297 t298 true)))) = some r := H
  have A5 := Aside0.mk A50
  clear A50
  have HC6 := Aside0.mk H
  clear H
  go_enter Try.func13, Try.ntmps13
  go_upto_region 6 with (first | (go_at_call 32; (with_reducible refine (spec_DrawRecordsMerge.calls k _ _ l0 t287 t288 _ ?side1 ?side2 A3.out).mono ?_); (case side1 => repeat (first | exact HR0.out | (with_reducible refine Kd.C_alloc ?_ _) | (with_reducible refine Kd.C_drewN ?_ _) | (with_reducible refine Kd.C_drew ?_))); (case side2 => exact HC0.out); rintro e w7 ⟨v289, v291, rfl, ho0, ho1, hb⟩; have u_v289 : ∀ (a_ : Addr) (m_ : Mode) (W_ : World), (store a_ v289 m_).run Try.prog W_ = stored Try.prog W_ a_ v289 m_ := fun a_ m_ W_ => run_store _ W_ a_ _ m_ (by first | (obtain ⟨_, _, e_⟩ := Kd.R_slice ho0; rw [e_]; rfl) | (obtain ⟨_, _, e_⟩ := Kd.S_slice ho0; rw [e_]; rfl) | (obtain ⟨_, _, e_, _⟩ := Kd.Q_slice ho0; rw [e_]; rfl) | (obtain ⟨_, _, e_⟩ := Kd.N_slice ho0; rw [e_]; rfl) | (obtain ⟨_, _, e_⟩ := Kd.V_slice ho0; rw [e_]; rfl)); have u_v291 : ∀ (a_ : Addr) (m_ : Mode) (W_ : World), (store a_ v291 m_).run Try.prog W_ = stored Try.prog W_ a_ v291 m_ := fun a_ m_ W_ => run_store _ W_ a_ _ m_ (by first | (obtain ⟨_, _, e_⟩ := Kd.R_slice ho1; rw [e_]; rfl) | (obtain ⟨_, _, e_⟩ := Kd.S_slice ho1; rw [e_]; rfl) | (obtain ⟨_, _, e_, _⟩ := Kd.Q_slice ho1; rw [e_]; rfl) | (obtain ⟨_, _, e_⟩ := Kd.N_slice ho1; rw [e_]; rfl) | (obtain ⟨_, _, e_⟩ := Kd.V_slice ho1; rw [e_]; rfl)); have n0_ := Aside0.mk (Kd.S_lower ho0 (below_size (by repeat (first | (with_reducible first | exact HB.out | apply below_alloc | apply pw_below_drewN | apply below_drew1) | exact HB.out)))); have n1_ := Aside0.mk (Kd.S_lower ho1 (below_size (by repeat (first | (with_reducible first | exact HB.out | apply below_alloc | apply pw_below_drewN | apply below_drew1) | exact HB.out)))); have n2_ := Aside0.mk (below_step (by repeat (first | (with_reducible first | exact HB.out | apply below_alloc | apply pw_below_drewN | apply below_drew1) | exact HB.out)) hb); clear HB; have HO290 := n0_; have HO292 := n1_; have HB := n2_; clear n0_ n1_ n2_; (try clear hb); (try clear hb2); (try clear hk); (try clear hi); (try clear ho0); (try clear ho1); obtain ⟨Ao8, co8, eo8⟩ := Kd.S_slice HO290.out; subst eo8; obtain ⟨Ao9, co9, eo9⟩ := Kd.S_slice HO292.out; subst eo9) | (go_at_call 33; (with_reducible refine (impl_RecordsMerge.calls k _ _ t287 _ _ t288 t293 t296 _ ?side1 ?side2 ?side3 ?side4 A4.out).mono ?_); (case side1 => repeat (first | exact (Kd.S_reads' HO290.out).2.2 | (with_reducible refine Kd.C_alloc ?_ _) | (with_reducible refine Kd.C_drewN ?_ _) | (with_reducible refine Kd.C_drew ?_))); (case side2 => exact (Kd.S_reads' HO290.out).2.1); (case side3 => repeat (first | exact (Kd.S_reads' HO292.out).2.2 | (with_reducible refine Kd.C_alloc ?_ _) | (with_reducible refine Kd.C_drewN ?_ _) | (with_reducible refine Kd.C_drew ?_))); (case side4 => exact (Kd.S_reads' HO292.out).2.1); rintro e w10 ⟨v294, rfl, ho0, hb⟩; have u_v294 : ∀ (a_ : Addr) (m_ : Mode) (W_ : World), (store a_ v294 m_).run Try.prog W_ = stored Try.prog W_ a_ v294 m_ := fun a_ m_ W_ => run_store _ W_ a_ _ m_ (by first | (obtain ⟨_, _, e_⟩ := Kd.R_slice ho0; rw [e_]; rfl) | (obtain ⟨_, _, e_⟩ := Kd.S_slice ho0; rw [e_]; rfl) | (obtain ⟨_, _, e_, _⟩ := Kd.Q_slice ho0; rw [e_]; rfl) | (obtain ⟨_, _, e_⟩ := Kd.N_slice ho0; rw [e_]; rfl) | (obtain ⟨_, _, e_⟩ := Kd.V_slice ho0; rw [e_]; rfl)); have n0_ := Aside0.mk (Kd.S_below (by (with_reducible repeat (first | apply Kd.S_alloc | apply Kd.S_drewN | apply Kd.S_drew)); exact HO290.out) hb); have n1_ := Aside0.mk (Kd.S_below (by (with_reducible repeat (first | apply Kd.S_alloc | apply Kd.S_drewN | apply Kd.S_drew)); exact HO292.out) hb); have n2_ := Aside0.mk (Kd.V_lower (Kd.V_mono (ok' := fun k_ => some k_ ≠ (.slice Ao8 t287.length co8 : Value).ownBlock ∧ some k_ ≠ (.slice Ao9 t288.length co9 : Value).ownBlock) ho0 (fun k_ hk_ => ⟨(Kd.fresh' (Kd.S_lt (by (with_reducible repeat (first | apply Kd.S_alloc | apply Kd.S_drewN | apply Kd.S_drew)); exact HO290.out)) k_ hk_), (Kd.fresh' (Kd.S_lt (by (with_reducible repeat (first | apply Kd.S_alloc | apply Kd.S_drewN | apply Kd.S_drew)); exact HO292.out)) k_ hk_)⟩)) (below_size (by repeat (first | (with_reducible first | exact HB.out | apply below_alloc | apply pw_below_drewN | apply below_drew1) | exact HB.out)))); have n3_ := Aside0.mk (below_step (by repeat (first | (with_reducible first | exact HB.out | apply below_alloc | apply pw_below_drewN | apply below_drew1) | exact HB.out)) hb); clear HO290; clear HO292; clear HB; have HO290 := n0_; have HO292 := n1_; have HO295 := n2_; have HB := n3_; clear n0_ n1_ n2_ n3_; (try clear hb); (try clear hb2); (try clear hk); (try clear hi); (try clear ho0)) | (go_at_call 34; (with_reducible refine (spec_RecordsMerge.calls k _ _ t287 _ _ t288 t297 t298 _ ?side1 ?side2 ?side3 ?side4 A5.out).mono ?_); (case side1 => repeat (first | exact (Kd.S_reads' HO290.out).2.2 | (with_reducible refine Kd.C_alloc ?_ _) | (with_reducible refine Kd.C_drewN ?_ _) | (with_reducible refine Kd.C_drew ?_))); (case side2 => exact (Kd.S_reads' HO290.out).2.1); (case side3 => repeat (first | exact (Kd.S_reads' HO292.out).2.2 | (with_reducible refine Kd.C_alloc ?_ _) | (with_reducible refine Kd.C_drewN ?_ _) | (with_reducible refine Kd.C_drew ?_))); (case side4 => exact (Kd.S_reads' HO292.out).2.1); rintro e w11 ⟨v299, rfl, ho0, hb⟩; have u_v299 : ∀ (a_ : Addr) (m_ : Mode) (W_ : World), (store a_ v299 m_).run Try.prog W_ = stored Try.prog W_ a_ v299 m_ := fun a_ m_ W_ => run_store _ W_ a_ _ m_ (by first | (obtain ⟨_, _, e_⟩ := Kd.R_slice ho0; rw [e_]; rfl) | (obtain ⟨_, _, e_⟩ := Kd.S_slice ho0; rw [e_]; rfl) | (obtain ⟨_, _, e_, _⟩ := Kd.Q_slice ho0; rw [e_]; rfl) | (obtain ⟨_, _, e_⟩ := Kd.N_slice ho0; rw [e_]; rfl) | (obtain ⟨_, _, e_⟩ := Kd.V_slice ho0; rw [e_]; rfl)); have n0_ := Aside0.mk (Kd.S_elder' (by (with_reducible repeat (first | apply Kd.S_alloc | apply Kd.S_drewN | apply Kd.S_drew)); exact HO290.out) (Kd.S_base ho0) hb); have n1_ := Aside0.mk (Kd.S_elder' (by (with_reducible repeat (first | apply Kd.S_alloc | apply Kd.S_drewN | apply Kd.S_drew)); exact HO292.out) (Kd.S_base ho0) hb); have n2_ := Aside0.mk (Kd.V_elder' (by (with_reducible repeat (first | apply Kd.V_alloc | apply Kd.V_drewN | apply Kd.V_drew)); exact HO295.out) (Kd.S_base ho0) hb); have n3_ := Aside0.mk (Kd.S_lower (Kd.S_new' (Kd.S_new' ho0 (Kd.S_lt (by (with_reducible repeat (first | apply Kd.S_alloc | apply Kd.S_drewN | apply Kd.S_drew)); exact HO290.out))) (Kd.S_lt (by (with_reducible repeat (first | apply Kd.S_alloc | apply Kd.S_drewN | apply Kd.S_drew)); exact HO292.out))) (below_size (by repeat (first | (with_reducible first | exact HB.out | apply below_alloc | apply pw_below_drewN | apply below_drew1) | exact HB.out)))); have n4_ := Aside0.mk (below_step (by repeat (first | (with_reducible first | exact HB.out | apply below_alloc | apply pw_below_drewN | apply below_drew1) | exact HB.out)) hb); clear HO290; clear HO292; clear HO295; clear HB; have HO290 := n0_; have HO292 := n1_; have HO295 := n2_; have HO300 := n3_; have HB := n4_; clear n0_ n1_ n2_ n3_ n4_; (try clear hb); (try clear hb2); (try clear hk); (try clear hi); (try clear ho0)))
  repeat (go_quiet (first | (go_at_call 32; (with_reducible refine (spec_DrawRecordsMerge.calls k _ _ l0 t287 t288 _ ?side1 ?side2 A3.out).mono ?_); (case side1 => repeat (first | exact HR0.out | (with_reducible refine Kd.C_alloc ?_ _) | (with_reducible refine Kd.C_drewN ?_ _) | (with_reducible refine Kd.C_drew ?_))); (case side2 => exact HC0.out); rintro e w7 ⟨v289, v291, rfl, ho0, ho1, hb⟩; have u_v289 : ∀ (a_ : Addr) (m_ : Mode) (W_ : World), (store a_ v289 m_).run Try.prog W_ = stored Try.prog W_ a_ v289 m_ := fun a_ m_ W_ => run_store _ W_ a_ _ m_ (by first | (obtain ⟨_, _, e_⟩ := Kd.R_slice ho0; rw [e_]; rfl) | (obtain ⟨_, _, e_⟩ := Kd.S_slice ho0; rw [e_]; rfl) | (obtain ⟨_, _, e_, _⟩ := Kd.Q_slice ho0; rw [e_]; rfl) | (obtain ⟨_, _, e_⟩ := Kd.N_slice ho0; rw [e_]; rfl) | (obtain ⟨_, _, e_⟩ := Kd.V_slice ho0; rw [e_]; rfl)); have u_v291 : ∀ (a_ : Addr) (m_ : Mode) (W_ : World), (store a_ v291 m_).run Try.prog W_ = stored Try.prog W_ a_ v291 m_ := fun a_ m_ W_ => run_store _ W_ a_ _ m_ (by first | (obtain ⟨_, _, e_⟩ := Kd.R_slice ho1; rw [e_]; rfl) | (obtain ⟨_, _, e_⟩ := Kd.S_slice ho1; rw [e_]; rfl) | (obtain ⟨_, _, e_, _⟩ := Kd.Q_slice ho1; rw [e_]; rfl) | (obtain ⟨_, _, e_⟩ := Kd.N_slice ho1; rw [e_]; rfl) | (obtain ⟨_, _, e_⟩ := Kd.V_slice ho1; rw [e_]; rfl)); have n0_ := Aside0.mk (Kd.S_lower ho0 (below_size (by repeat (first | (with_reducible first | exact HB.out | apply below_alloc | apply pw_below_drewN | apply below_drew1) | exact HB.out)))); have n1_ := Aside0.mk (Kd.S_lower ho1 (below_size (by repeat (first | (with_reducible first | exact HB.out | apply below_alloc | apply pw_below_drewN | apply below_drew1) | exact HB.out)))); have n2_ := Aside0.mk (below_step (by repeat (first | (with_reducible first | exact HB.out | apply below_alloc | apply pw_below_drewN | apply below_drew1) | exact HB.out)) hb); clear HB; have HO290 := n0_; have HO292 := n1_; have HB := n2_; clear n0_ n1_ n2_; (try clear hb); (try clear hb2); (try clear hk); (try clear hi); (try clear ho0); (try clear ho1); obtain ⟨Ao8, co8, eo8⟩ := Kd.S_slice HO290.out; subst eo8; obtain ⟨Ao9, co9, eo9⟩ := Kd.S_slice HO292.out; subst eo9) | (go_at_call 33; (with_reducible refine (impl_RecordsMerge.calls k _ _ t287 _ _ t288 t293 t296 _ ?side1 ?side2 ?side3 ?side4 A4.out).mono ?_); (case side1 => repeat (first | exact (Kd.S_reads' HO290.out).2.2 | (with_reducible refine Kd.C_alloc ?_ _) | (with_reducible refine Kd.C_drewN ?_ _) | (with_reducible refine Kd.C_drew ?_))); (case side2 => exact (Kd.S_reads' HO290.out).2.1); (case side3 => repeat (first | exact (Kd.S_reads' HO292.out).2.2 | (with_reducible refine Kd.C_alloc ?_ _) | (with_reducible refine Kd.C_drewN ?_ _) | (with_reducible refine Kd.C_drew ?_))); (case side4 => exact (Kd.S_reads' HO292.out).2.1); rintro e w10 ⟨v294, rfl, ho0, hb⟩; have u_v294 : ∀ (a_ : Addr) (m_ : Mode) (W_ : World), (store a_ v294 m_).run Try.prog W_ = stored Try.prog W_ a_ v294 m_ := fun a_ m_ W_ => run_store _ W_ a_ _ m_ (by first | (obtain ⟨_, _, e_⟩ := Kd.R_slice ho0; rw [e_]; rfl) | (obtain ⟨_, _, e_⟩ := Kd.S_slice ho0; rw [e_]; rfl) | (obtain ⟨_, _, e_, _⟩ := Kd.Q_slice ho0; rw [e_]; rfl) | (obtain ⟨_, _, e_⟩ := Kd.N_slice ho0; rw [e_]; rfl) | (obtain ⟨_, _, e_⟩ := Kd.V_slice ho0; rw [e_]; rfl)); have n0_ := Aside0.mk (Kd.S_below (by (with_reducible repeat (first | apply Kd.S_alloc | apply Kd.S_drewN | apply Kd.S_drew)); exact HO290.out) hb); have n1_ := Aside0.mk (Kd.S_below (by (with_reducible repeat (first | apply Kd.S_alloc | apply Kd.S_drewN | apply Kd.S_drew)); exact HO292.out) hb); have n2_ := Aside0.mk (Kd.V_lower (Kd.V_mono (ok' := fun k_ => some k_ ≠ (.slice Ao8 t287.length co8 : Value).ownBlock ∧ some k_ ≠ (.slice Ao9 t288.length co9 : Value).ownBlock) ho0 (fun k_ hk_ => ⟨(Kd.fresh' (Kd.S_lt (by (with_reducible repeat (first | apply Kd.S_alloc | apply Kd.S_drewN | apply Kd.S_drew)); exact HO290.out)) k_ hk_), (Kd.fresh' (Kd.S_lt (by (with_reducible repeat (first | apply Kd.S_alloc | apply Kd.S_drewN | apply Kd.S_drew)); exact HO292.out)) k_ hk_)⟩)) (below_size (by repeat (first | (with_reducible first | exact HB.out | apply below_alloc | apply pw_below_drewN | apply below_drew1) | exact HB.out)))); have n3_ := Aside0.mk (below_step (by repeat (first | (with_reducible first | exact HB.out | apply below_alloc | apply pw_below_drewN | apply below_drew1) | exact HB.out)) hb); clear HO290; clear HO292; clear HB; have HO290 := n0_; have HO292 := n1_; have HO295 := n2_; have HB := n3_; clear n0_ n1_ n2_ n3_; (try clear hb); (try clear hb2); (try clear hk); (try clear hi); (try clear ho0)) | (go_at_call 34; (with_reducible refine (spec_RecordsMerge.calls k _ _ t287 _ _ t288 t297 t298 _ ?side1 ?side2 ?side3 ?side4 A5.out).mono ?_); (case side1 => repeat (first | exact (Kd.S_reads' HO290.out).2.2 | (with_reducible refine Kd.C_alloc ?_ _) | (with_reducible refine Kd.C_drewN ?_ _) | (with_reducible refine Kd.C_drew ?_))); (case side2 => exact (Kd.S_reads' HO290.out).2.1); (case side3 => repeat (first | exact (Kd.S_reads' HO292.out).2.2 | (with_reducible refine Kd.C_alloc ?_ _) | (with_reducible refine Kd.C_drewN ?_ _) | (with_reducible refine Kd.C_drew ?_))); (case side4 => exact (Kd.S_reads' HO292.out).2.1); rintro e w11 ⟨v299, rfl, ho0, hb⟩; have u_v299 : ∀ (a_ : Addr) (m_ : Mode) (W_ : World), (store a_ v299 m_).run Try.prog W_ = stored Try.prog W_ a_ v299 m_ := fun a_ m_ W_ => run_store _ W_ a_ _ m_ (by first | (obtain ⟨_, _, e_⟩ := Kd.R_slice ho0; rw [e_]; rfl) | (obtain ⟨_, _, e_⟩ := Kd.S_slice ho0; rw [e_]; rfl) | (obtain ⟨_, _, e_, _⟩ := Kd.Q_slice ho0; rw [e_]; rfl) | (obtain ⟨_, _, e_⟩ := Kd.N_slice ho0; rw [e_]; rfl) | (obtain ⟨_, _, e_⟩ := Kd.V_slice ho0; rw [e_]; rfl)); have n0_ := Aside0.mk (Kd.S_elder' (by (with_reducible repeat (first | apply Kd.S_alloc | apply Kd.S_drewN | apply Kd.S_drew)); exact HO290.out) (Kd.S_base ho0) hb); have n1_ := Aside0.mk (Kd.S_elder' (by (with_reducible repeat (first | apply Kd.S_alloc | apply Kd.S_drewN | apply Kd.S_drew)); exact HO292.out) (Kd.S_base ho0) hb); have n2_ := Aside0.mk (Kd.V_elder' (by (with_reducible repeat (first | apply Kd.V_alloc | apply Kd.V_drewN | apply Kd.V_drew)); exact HO295.out) (Kd.S_base ho0) hb); have n3_ := Aside0.mk (Kd.S_lower (Kd.S_new' (Kd.S_new' ho0 (Kd.S_lt (by (with_reducible repeat (first | apply Kd.S_alloc | apply Kd.S_drewN | apply Kd.S_drew)); exact HO290.out))) (Kd.S_lt (by (with_reducible repeat (first | apply Kd.S_alloc | apply Kd.S_drewN | apply Kd.S_drew)); exact HO292.out))) (below_size (by repeat (first | (with_reducible first | exact HB.out | apply below_alloc | apply pw_below_drewN | apply below_drew1) | exact HB.out)))); have n4_ := Aside0.mk (below_step (by repeat (first | (with_reducible first | exact HB.out | apply below_alloc | apply pw_below_drewN | apply below_drew1) | exact HB.out)) hb); clear HO290; clear HO292; clear HO295; clear HB; have HO290 := n0_; have HO292 := n1_; have HO295 := n2_; have HO300 := n3_; have HB := n4_; clear n0_ n1_ n2_ n3_ n4_; (try clear hb); (try clear hb2); (try clear hk); (try clear hi); (try clear ho0))); go_upto_region 6 with (first | (go_at_call 32; (with_reducible refine (spec_DrawRecordsMerge.calls k _ _ l0 t287 t288 _ ?side1 ?side2 A3.out).mono ?_); (case side1 => repeat (first | exact HR0.out | (with_reducible refine Kd.C_alloc ?_ _) | (with_reducible refine Kd.C_drewN ?_ _) | (with_reducible refine Kd.C_drew ?_))); (case side2 => exact HC0.out); rintro e w7 ⟨v289, v291, rfl, ho0, ho1, hb⟩; have u_v289 : ∀ (a_ : Addr) (m_ : Mode) (W_ : World), (store a_ v289 m_).run Try.prog W_ = stored Try.prog W_ a_ v289 m_ := fun a_ m_ W_ => run_store _ W_ a_ _ m_ (by first | (obtain ⟨_, _, e_⟩ := Kd.R_slice ho0; rw [e_]; rfl) | (obtain ⟨_, _, e_⟩ := Kd.S_slice ho0; rw [e_]; rfl) | (obtain ⟨_, _, e_, _⟩ := Kd.Q_slice ho0; rw [e_]; rfl) | (obtain ⟨_, _, e_⟩ := Kd.N_slice ho0; rw [e_]; rfl) | (obtain ⟨_, _, e_⟩ := Kd.V_slice ho0; rw [e_]; rfl)); have u_v291 : ∀ (a_ : Addr) (m_ : Mode) (W_ : World), (store a_ v291 m_).run Try.prog W_ = stored Try.prog W_ a_ v291 m_ := fun a_ m_ W_ => run_store _ W_ a_ _ m_ (by first | (obtain ⟨_, _, e_⟩ := Kd.R_slice ho1; rw [e_]; rfl) | (obtain ⟨_, _, e_⟩ := Kd.S_slice ho1; rw [e_]; rfl) | (obtain ⟨_, _, e_, _⟩ := Kd.Q_slice ho1; rw [e_]; rfl) | (obtain ⟨_, _, e_⟩ := Kd.N_slice ho1; rw [e_]; rfl) | (obtain ⟨_, _, e_⟩ := Kd.V_slice ho1; rw [e_]; rfl)); have n0_ := Aside0.mk (Kd.S_lower ho0 (below_size (by repeat (first | (with_reducible first | exact HB.out | apply below_alloc | apply pw_below_drewN | apply below_drew1) | exact HB.out)))); have n1_ := Aside0.mk (Kd.S_lower ho1 (below_size (by repeat (first | (with_reducible first | exact HB.out | apply below_alloc | apply pw_below_drewN | apply below_drew1) | exact HB.out)))); have n2_ := Aside0.mk (below_step (by repeat (first | (with_reducible first | exact HB.out | apply below_alloc | apply pw_below_drewN | apply below_drew1) | exact HB.out)) hb); clear HB; have HO290 := n0_; have HO292 := n1_; have HB := n2_; clear n0_ n1_ n2_; (try clear hb); (try clear hb2); (try clear hk); (try clear hi); (try clear ho0); (try clear ho1); obtain ⟨Ao8, co8, eo8⟩ := Kd.S_slice HO290.out; subst eo8; obtain ⟨Ao9, co9, eo9⟩ := Kd.S_slice HO292.out; subst eo9) | (go_at_call 33; (with_reducible refine (impl_RecordsMerge.calls k _ _ t287 _ _ t288 t293 t296 _ ?side1 ?side2 ?side3 ?side4 A4.out).mono ?_); (case side1 => repeat (first | exact (Kd.S_reads' HO290.out).2.2 | (with_reducible refine Kd.C_alloc ?_ _) | (with_reducible refine Kd.C_drewN ?_ _) | (with_reducible refine Kd.C_drew ?_))); (case side2 => exact (Kd.S_reads' HO290.out).2.1); (case side3 => repeat (first | exact (Kd.S_reads' HO292.out).2.2 | (with_reducible refine Kd.C_alloc ?_ _) | (with_reducible refine Kd.C_drewN ?_ _) | (with_reducible refine Kd.C_drew ?_))); (case side4 => exact (Kd.S_reads' HO292.out).2.1); rintro e w10 ⟨v294, rfl, ho0, hb⟩; have u_v294 : ∀ (a_ : Addr) (m_ : Mode) (W_ : World), (store a_ v294 m_).run Try.prog W_ = stored Try.prog W_ a_ v294 m_ := fun a_ m_ W_ => run_store _ W_ a_ _ m_ (by first | (obtain ⟨_, _, e_⟩ := Kd.R_slice ho0; rw [e_]; rfl) | (obtain ⟨_, _, e_⟩ := Kd.S_slice ho0; rw [e_]; rfl) | (obtain ⟨_, _, e_, _⟩ := Kd.Q_slice ho0; rw [e_]; rfl) | (obtain ⟨_, _, e_⟩ := Kd.N_slice ho0; rw [e_]; rfl) | (obtain ⟨_, _, e_⟩ := Kd.V_slice ho0; rw [e_]; rfl)); have n0_ := Aside0.mk (Kd.S_below (by (with_reducible repeat (first | apply Kd.S_alloc | apply Kd.S_drewN | apply Kd.S_drew)); exact HO290.out) hb); have n1_ := Aside0.mk (Kd.S_below (by (with_reducible repeat (first | apply Kd.S_alloc | apply Kd.S_drewN | apply Kd.S_drew)); exact HO292.out) hb); have n2_ := Aside0.mk (Kd.V_lower (Kd.V_mono (ok' := fun k_ => some k_ ≠ (.slice Ao8 t287.length co8 : Value).ownBlock ∧ some k_ ≠ (.slice Ao9 t288.length co9 : Value).ownBlock) ho0 (fun k_ hk_ => ⟨(Kd.fresh' (Kd.S_lt (by (with_reducible repeat (first | apply Kd.S_alloc | apply Kd.S_drewN | apply Kd.S_drew)); exact HO290.out)) k_ hk_), (Kd.fresh' (Kd.S_lt (by (with_reducible repeat (first | apply Kd.S_alloc | apply Kd.S_drewN | apply Kd.S_drew)); exact HO292.out)) k_ hk_)⟩)) (below_size (by repeat (first | (with_reducible first | exact HB.out | apply below_alloc | apply pw_below_drewN | apply below_drew1) | exact HB.out)))); have n3_ := Aside0.mk (below_step (by repeat (first | (with_reducible first | exact HB.out | apply below_alloc | apply pw_below_drewN | apply below_drew1) | exact HB.out)) hb); clear HO290; clear HO292; clear HB; have HO290 := n0_; have HO292 := n1_; have HO295 := n2_; have HB := n3_; clear n0_ n1_ n2_ n3_; (try clear hb); (try clear hb2); (try clear hk); (try clear hi); (try clear ho0)) | (go_at_call 34; (with_reducible refine (spec_RecordsMerge.calls k _ _ t287 _ _ t288 t297 t298 _ ?side1 ?side2 ?side3 ?side4 A5.out).mono ?_); (case side1 => repeat (first | exact (Kd.S_reads' HO290.out).2.2 | (with_reducible refine Kd.C_alloc ?_ _) | (with_reducible refine Kd.C_drewN ?_ _) | (with_reducible refine Kd.C_drew ?_))); (case side2 => exact (Kd.S_reads' HO290.out).2.1); (case side3 => repeat (first | exact (Kd.S_reads' HO292.out).2.2 | (with_reducible refine Kd.C_alloc ?_ _) | (with_reducible refine Kd.C_drewN ?_ _) | (with_reducible refine Kd.C_drew ?_))); (case side4 => exact (Kd.S_reads' HO292.out).2.1); rintro e w11 ⟨v299, rfl, ho0, hb⟩; have u_v299 : ∀ (a_ : Addr) (m_ : Mode) (W_ : World), (store a_ v299 m_).run Try.prog W_ = stored Try.prog W_ a_ v299 m_ := fun a_ m_ W_ => run_store _ W_ a_ _ m_ (by first | (obtain ⟨_, _, e_⟩ := Kd.R_slice ho0; rw [e_]; rfl) | (obtain ⟨_, _, e_⟩ := Kd.S_slice ho0; rw [e_]; rfl) | (obtain ⟨_, _, e_, _⟩ := Kd.Q_slice ho0; rw [e_]; rfl) | (obtain ⟨_, _, e_⟩ := Kd.N_slice ho0; rw [e_]; rfl) | (obtain ⟨_, _, e_⟩ := Kd.V_slice ho0; rw [e_]; rfl)); have n0_ := Aside0.mk (Kd.S_elder' (by (with_reducible repeat (first | apply Kd.S_alloc | apply Kd.S_drewN | apply Kd.S_drew)); exact HO290.out) (Kd.S_base ho0) hb); have n1_ := Aside0.mk (Kd.S_elder' (by (with_reducible repeat (first | apply Kd.S_alloc | apply Kd.S_drewN | apply Kd.S_drew)); exact HO292.out) (Kd.S_base ho0) hb); have n2_ := Aside0.mk (Kd.V_elder' (by (with_reducible repeat (first | apply Kd.V_alloc | apply Kd.V_drewN | apply Kd.V_drew)); exact HO295.out) (Kd.S_base ho0) hb); have n3_ := Aside0.mk (Kd.S_lower (Kd.S_new' (Kd.S_new' ho0 (Kd.S_lt (by (with_reducible repeat (first | apply Kd.S_alloc | apply Kd.S_drewN | apply Kd.S_drew)); exact HO290.out))) (Kd.S_lt (by (with_reducible repeat (first | apply Kd.S_alloc | apply Kd.S_drewN | apply Kd.S_drew)); exact HO292.out))) (below_size (by repeat (first | (with_reducible first | exact HB.out | apply below_alloc | apply pw_below_drewN | apply below_drew1) | exact HB.out)))); have n4_ := Aside0.mk (below_step (by repeat (first | (with_reducible first | exact HB.out | apply below_alloc | apply pw_below_drewN | apply below_drew1) | exact HB.out)) hb); clear HO290; clear HO292; clear HO295; clear HB; have HO290 := n0_; have HO292 := n1_; have HO295 := n2_; have HO300 := n3_; have HB := n4_; clear n0_ n1_ n2_ n3_ n4_; (try clear hb); (try clear hb2); (try clear hk); (try clear hi); (try clear ho0))))
  (try simp only [Act.put, List.setIfInBounds_toArray, List.set_cons_zero, List.set_cons_succ])
  go_cut [44] (fun v44 wc => ∃ (kq : Nat) (x44_5 : Bool), v44 = .bool x44_5 ∧ Aside0 (laws_FnMergeOrder.j0 kq t287 t288 t293 t296 t297 t298 x44_5 = some r) ∧ Aside0 (kq ≤ k) ∧ Aside0 (Kd.S k41 41 wc w.heap.size (fun k_ => some k_ ≠ ((.slice Ao9 t288.length co9) : Value).ownBlock ∧ some k_ ≠ (v299 : Value).ownBlock) (.slice Ao8 t287.length co8) t287) ∧ Aside0 (Kd.S k41 41 wc w.heap.size (fun k_ => some k_ ≠ ((.slice Ao8 t287.length co8) : Value).ownBlock ∧ some k_ ≠ (v299 : Value).ownBlock) (.slice Ao9 t288.length co9) t288) ∧ Aside0 (Kd.V k41 41 wc w.heap.size (fun k_ => some k_ ≠ ((.slice Ao8 t287.length co8) : Value).ownBlock ∧ some k_ ≠ ((.slice Ao9 t288.length co9) : Value).ownBlock ∧ some k_ ≠ (v299 : Value).ownBlock) v294 t293) ∧ Aside0 (Kd.S k41 41 wc w.heap.size (fun k_ => some k_ ≠ ((.slice Ao8 t287.length co8) : Value).ownBlock ∧ some k_ ≠ ((.slice Ao9 t288.length co9) : Value).ownBlock) v299 t297) ∧ Aside0 (Below w.heap.size w wc))
  case first =>
   have H := HC6.out
   clear HC6
   by_cases c12 : (t296 != t298) = true
   ·rw [if_pos c12] at H
    have c12b0 : (t296 != t298) = true := c12
    (try (have c12b1 : decide (t296 = t298) = false := by simpa using c12))
    (try (have c12b2 : (t296 == t298) = false := by simpa using c12))
    (try (have c12b3 : ¬ (t296 = t298) := by simpa using c12))
    clear c12
    (first | rw [c12b0] | (simp only [i64_w, i32_w]; rw [c12b0]) | skip)
    have H' := Aside0.mk H
    clear H
    go_wp2
    repeat (go_quiet (fail); try go_wp2)
    go_meet
    case rel => exact ⟨_, (true), (by first | rfl | (simp; done) | (simp [*]; done)), H', ⟨by first | omega | exact Nat.le_refl _⟩, ⟨by (with_reducible repeat (first | apply Kd.S_alloc | apply Kd.S_drewN | apply Kd.S_drew)); exact HO290.out⟩, ⟨by (with_reducible repeat (first | apply Kd.S_alloc | apply Kd.S_drewN | apply Kd.S_drew)); exact HO292.out⟩, ⟨by (with_reducible repeat (first | apply Kd.V_alloc | apply Kd.V_drewN | apply Kd.V_drew)); exact Kd.V_mono HO295.out (fun _ hk => ⟨hk.1.1, ⟨hk.1.2, hk.2⟩⟩)⟩, ⟨by (with_reducible repeat (first | apply Kd.S_alloc | apply Kd.S_drewN | apply Kd.S_drew)); exact Kd.S_mono HO300.out (fun _ hk => ⟨hk.1.2, hk.2⟩)⟩, ⟨by repeat (first | (with_reducible first | exact HB.out | apply below_alloc | apply pw_below_drewN | apply below_drew1) | exact HB.out)⟩⟩
   ·rw [if_neg c12] at H
    have c12b0 : (t296 != t298) = false := by simpa using c12
    (try (have c12b1 : decide (t296 = t298) = true := by simpa using c12))
    (try (have c12b2 : (t296 == t298) = true := by simpa using c12))
    clear c12
    (first | rw [c12b0] | (simp only [i64_w, i32_w]; rw [c12b0]) | skip)
    replace H := Option.bind_eq_some_iff.mp H
    obtain ⟨t301, A130, H⟩ := H
    replace H : (if t301 = true then (laws_FnMergeOrder.j0 k t287 t288 t293 t296 t297 t298 (!t296)) else (laws_FnMergeOrder.j0 k t287 t288 t293 t296 t297 t298 true)) = some r := H
    have A13 := Aside0.mk A130
    clear A130
    by_cases c14 : t301 = true
    ·subst c14
     have H1 : (laws_FnMergeOrder.j0 k t287 t288 t293 t296 t297 t298 (!t296)) = some r := by rw [if_pos rfl] at H; exact H
     clear H
     have H := H1
     clear H1
     have H' := Aside0.mk H
     clear H
     obtain ⟨Ao15, co15, eo15⟩ := Kd.V_slice HO295.out
     subst eo15
     obtain ⟨Ao16, co16, eo16⟩ := Kd.S_slice HO300.out
     subst eo16
     go_wp2_with (first | (go_at_call 24; (with_reducible refine (laws_sameRecords.calls k _ _ t293 _ _ t297 true _ ?side1 ?side2 ?side3 ?side4 A13.out).mono ?_); (case side1 => repeat (first | exact (Kd.V_reads' HO295.out).2.2 | (with_reducible refine Kd.C_alloc ?_ _) | (with_reducible refine Kd.C_drewN ?_ _) | (with_reducible refine Kd.C_drew ?_))); (case side2 => exact (Kd.V_reads' HO295.out).2.1); (case side3 => repeat (first | exact (Kd.S_reads' HO300.out).2.2 | (with_reducible refine Kd.C_alloc ?_ _) | (with_reducible refine Kd.C_drewN ?_ _) | (with_reducible refine Kd.C_drew ?_))); (case side4 => exact (Kd.S_reads' HO300.out).2.1); rintro e w17 ⟨rfl, hb⟩; have n0_ := Aside0.mk (Kd.S_below (by (with_reducible repeat (first | apply Kd.S_alloc | apply Kd.S_drewN | apply Kd.S_drew)); exact HO290.out) hb); have n1_ := Aside0.mk (Kd.S_below (by (with_reducible repeat (first | apply Kd.S_alloc | apply Kd.S_drewN | apply Kd.S_drew)); exact HO292.out) hb); have n2_ := Aside0.mk (Kd.V_below (by (with_reducible repeat (first | apply Kd.V_alloc | apply Kd.V_drewN | apply Kd.V_drew)); exact HO295.out) hb); have n3_ := Aside0.mk (Kd.S_below (by (with_reducible repeat (first | apply Kd.S_alloc | apply Kd.S_drewN | apply Kd.S_drew)); exact HO300.out) hb); have n4_ := Aside0.mk (below_step (by repeat (first | (with_reducible first | exact HB.out | apply below_alloc | apply pw_below_drewN | apply below_drew1) | exact HB.out)) hb); clear HO290; clear HO292; clear HO295; clear HO300; clear HB; have HO290 := n0_; have HO292 := n1_; have HO295 := n2_; have HO300 := n3_; have HB := n4_; clear n0_ n1_ n2_ n3_ n4_; (try clear hb); (try clear hb2); (try clear hk); (try clear hi)))
     repeat (go_quiet (first | (go_at_call 24; (with_reducible refine (laws_sameRecords.calls k _ _ t293 _ _ t297 true _ ?side1 ?side2 ?side3 ?side4 A13.out).mono ?_); (case side1 => repeat (first | exact (Kd.V_reads' HO295.out).2.2 | (with_reducible refine Kd.C_alloc ?_ _) | (with_reducible refine Kd.C_drewN ?_ _) | (with_reducible refine Kd.C_drew ?_))); (case side2 => exact (Kd.V_reads' HO295.out).2.1); (case side3 => repeat (first | exact (Kd.S_reads' HO300.out).2.2 | (with_reducible refine Kd.C_alloc ?_ _) | (with_reducible refine Kd.C_drewN ?_ _) | (with_reducible refine Kd.C_drew ?_))); (case side4 => exact (Kd.S_reads' HO300.out).2.1); rintro e w17 ⟨rfl, hb⟩; have n0_ := Aside0.mk (Kd.S_below (by (with_reducible repeat (first | apply Kd.S_alloc | apply Kd.S_drewN | apply Kd.S_drew)); exact HO290.out) hb); have n1_ := Aside0.mk (Kd.S_below (by (with_reducible repeat (first | apply Kd.S_alloc | apply Kd.S_drewN | apply Kd.S_drew)); exact HO292.out) hb); have n2_ := Aside0.mk (Kd.V_below (by (with_reducible repeat (first | apply Kd.V_alloc | apply Kd.V_drewN | apply Kd.V_drew)); exact HO295.out) hb); have n3_ := Aside0.mk (Kd.S_below (by (with_reducible repeat (first | apply Kd.S_alloc | apply Kd.S_drewN | apply Kd.S_drew)); exact HO300.out) hb); have n4_ := Aside0.mk (below_step (by repeat (first | (with_reducible first | exact HB.out | apply below_alloc | apply pw_below_drewN | apply below_drew1) | exact HB.out)) hb); clear HO290; clear HO292; clear HO295; clear HO300; clear HB; have HO290 := n0_; have HO292 := n1_; have HO295 := n2_; have HO300 := n3_; have HB := n4_; clear n0_ n1_ n2_ n3_ n4_; (try clear hb); (try clear hb2); (try clear hk); (try clear hi))); try go_wp2_with (first | (go_at_call 24; (with_reducible refine (laws_sameRecords.calls k _ _ t293 _ _ t297 true _ ?side1 ?side2 ?side3 ?side4 A13.out).mono ?_); (case side1 => repeat (first | exact (Kd.V_reads' HO295.out).2.2 | (with_reducible refine Kd.C_alloc ?_ _) | (with_reducible refine Kd.C_drewN ?_ _) | (with_reducible refine Kd.C_drew ?_))); (case side2 => exact (Kd.V_reads' HO295.out).2.1); (case side3 => repeat (first | exact (Kd.S_reads' HO300.out).2.2 | (with_reducible refine Kd.C_alloc ?_ _) | (with_reducible refine Kd.C_drewN ?_ _) | (with_reducible refine Kd.C_drew ?_))); (case side4 => exact (Kd.S_reads' HO300.out).2.1); rintro e w17 ⟨rfl, hb⟩; have n0_ := Aside0.mk (Kd.S_below (by (with_reducible repeat (first | apply Kd.S_alloc | apply Kd.S_drewN | apply Kd.S_drew)); exact HO290.out) hb); have n1_ := Aside0.mk (Kd.S_below (by (with_reducible repeat (first | apply Kd.S_alloc | apply Kd.S_drewN | apply Kd.S_drew)); exact HO292.out) hb); have n2_ := Aside0.mk (Kd.V_below (by (with_reducible repeat (first | apply Kd.V_alloc | apply Kd.V_drewN | apply Kd.V_drew)); exact HO295.out) hb); have n3_ := Aside0.mk (Kd.S_below (by (with_reducible repeat (first | apply Kd.S_alloc | apply Kd.S_drewN | apply Kd.S_drew)); exact HO300.out) hb); have n4_ := Aside0.mk (below_step (by repeat (first | (with_reducible first | exact HB.out | apply below_alloc | apply pw_below_drewN | apply below_drew1) | exact HB.out)) hb); clear HO290; clear HO292; clear HO295; clear HO300; clear HB; have HO290 := n0_; have HO292 := n1_; have HO295 := n2_; have HO300 := n3_; have HB := n4_; clear n0_ n1_ n2_ n3_ n4_; (try clear hb); (try clear hb2); (try clear hk); (try clear hi))))
     go_meet
     case rel => exact ⟨_, (!t296), (by first | rfl | (simp; done) | (simp [*]; done)), H', ⟨by first | omega | exact Nat.le_refl _⟩, ⟨by (with_reducible repeat (first | apply Kd.S_alloc | apply Kd.S_drewN | apply Kd.S_drew)); exact HO290.out⟩, ⟨by (with_reducible repeat (first | apply Kd.S_alloc | apply Kd.S_drewN | apply Kd.S_drew)); exact HO292.out⟩, ⟨by (with_reducible repeat (first | apply Kd.V_alloc | apply Kd.V_drewN | apply Kd.V_drew)); exact Kd.V_mono HO295.out (fun _ hk => ⟨hk.1.1, ⟨hk.1.2, hk.2⟩⟩)⟩, ⟨by (with_reducible repeat (first | apply Kd.S_alloc | apply Kd.S_drewN | apply Kd.S_drew)); exact Kd.S_mono HO300.out (fun _ hk => ⟨hk.1.2, hk.2⟩)⟩, ⟨by repeat (first | (with_reducible first | exact HB.out | apply below_alloc | apply pw_below_drewN | apply below_drew1) | exact HB.out)⟩⟩
    ·replace c14 := Bool.eq_false_iff.mpr c14
     subst c14
     have H1 : (laws_FnMergeOrder.j0 k t287 t288 t293 t296 t297 t298 true) = some r := by rw [if_neg (show ¬ (false = true) by decide)] at H; exact H
     clear H
     have H := H1
     clear H1
     have H' := Aside0.mk H
     clear H
     obtain ⟨Ao18, co18, eo18⟩ := Kd.V_slice HO295.out
     subst eo18
     obtain ⟨Ao19, co19, eo19⟩ := Kd.S_slice HO300.out
     subst eo19
     go_wp2_with (first | (go_at_call 24; (with_reducible refine (laws_sameRecords.calls k _ _ t293 _ _ t297 false _ ?side1 ?side2 ?side3 ?side4 A13.out).mono ?_); (case side1 => repeat (first | exact (Kd.V_reads' HO295.out).2.2 | (with_reducible refine Kd.C_alloc ?_ _) | (with_reducible refine Kd.C_drewN ?_ _) | (with_reducible refine Kd.C_drew ?_))); (case side2 => exact (Kd.V_reads' HO295.out).2.1); (case side3 => repeat (first | exact (Kd.S_reads' HO300.out).2.2 | (with_reducible refine Kd.C_alloc ?_ _) | (with_reducible refine Kd.C_drewN ?_ _) | (with_reducible refine Kd.C_drew ?_))); (case side4 => exact (Kd.S_reads' HO300.out).2.1); rintro e w20 ⟨rfl, hb⟩; have n0_ := Aside0.mk (Kd.S_below (by (with_reducible repeat (first | apply Kd.S_alloc | apply Kd.S_drewN | apply Kd.S_drew)); exact HO290.out) hb); have n1_ := Aside0.mk (Kd.S_below (by (with_reducible repeat (first | apply Kd.S_alloc | apply Kd.S_drewN | apply Kd.S_drew)); exact HO292.out) hb); have n2_ := Aside0.mk (Kd.V_below (by (with_reducible repeat (first | apply Kd.V_alloc | apply Kd.V_drewN | apply Kd.V_drew)); exact HO295.out) hb); have n3_ := Aside0.mk (Kd.S_below (by (with_reducible repeat (first | apply Kd.S_alloc | apply Kd.S_drewN | apply Kd.S_drew)); exact HO300.out) hb); have n4_ := Aside0.mk (below_step (by repeat (first | (with_reducible first | exact HB.out | apply below_alloc | apply pw_below_drewN | apply below_drew1) | exact HB.out)) hb); clear HO290; clear HO292; clear HO295; clear HO300; clear HB; have HO290 := n0_; have HO292 := n1_; have HO295 := n2_; have HO300 := n3_; have HB := n4_; clear n0_ n1_ n2_ n3_ n4_; (try clear hb); (try clear hb2); (try clear hk); (try clear hi)))
     repeat (go_quiet (first | (go_at_call 24; (with_reducible refine (laws_sameRecords.calls k _ _ t293 _ _ t297 false _ ?side1 ?side2 ?side3 ?side4 A13.out).mono ?_); (case side1 => repeat (first | exact (Kd.V_reads' HO295.out).2.2 | (with_reducible refine Kd.C_alloc ?_ _) | (with_reducible refine Kd.C_drewN ?_ _) | (with_reducible refine Kd.C_drew ?_))); (case side2 => exact (Kd.V_reads' HO295.out).2.1); (case side3 => repeat (first | exact (Kd.S_reads' HO300.out).2.2 | (with_reducible refine Kd.C_alloc ?_ _) | (with_reducible refine Kd.C_drewN ?_ _) | (with_reducible refine Kd.C_drew ?_))); (case side4 => exact (Kd.S_reads' HO300.out).2.1); rintro e w20 ⟨rfl, hb⟩; have n0_ := Aside0.mk (Kd.S_below (by (with_reducible repeat (first | apply Kd.S_alloc | apply Kd.S_drewN | apply Kd.S_drew)); exact HO290.out) hb); have n1_ := Aside0.mk (Kd.S_below (by (with_reducible repeat (first | apply Kd.S_alloc | apply Kd.S_drewN | apply Kd.S_drew)); exact HO292.out) hb); have n2_ := Aside0.mk (Kd.V_below (by (with_reducible repeat (first | apply Kd.V_alloc | apply Kd.V_drewN | apply Kd.V_drew)); exact HO295.out) hb); have n3_ := Aside0.mk (Kd.S_below (by (with_reducible repeat (first | apply Kd.S_alloc | apply Kd.S_drewN | apply Kd.S_drew)); exact HO300.out) hb); have n4_ := Aside0.mk (below_step (by repeat (first | (with_reducible first | exact HB.out | apply below_alloc | apply pw_below_drewN | apply below_drew1) | exact HB.out)) hb); clear HO290; clear HO292; clear HO295; clear HO300; clear HB; have HO290 := n0_; have HO292 := n1_; have HO295 := n2_; have HO300 := n3_; have HB := n4_; clear n0_ n1_ n2_ n3_ n4_; (try clear hb); (try clear hb2); (try clear hk); (try clear hi))); try go_wp2_with (first | (go_at_call 24; (with_reducible refine (laws_sameRecords.calls k _ _ t293 _ _ t297 false _ ?side1 ?side2 ?side3 ?side4 A13.out).mono ?_); (case side1 => repeat (first | exact (Kd.V_reads' HO295.out).2.2 | (with_reducible refine Kd.C_alloc ?_ _) | (with_reducible refine Kd.C_drewN ?_ _) | (with_reducible refine Kd.C_drew ?_))); (case side2 => exact (Kd.V_reads' HO295.out).2.1); (case side3 => repeat (first | exact (Kd.S_reads' HO300.out).2.2 | (with_reducible refine Kd.C_alloc ?_ _) | (with_reducible refine Kd.C_drewN ?_ _) | (with_reducible refine Kd.C_drew ?_))); (case side4 => exact (Kd.S_reads' HO300.out).2.1); rintro e w20 ⟨rfl, hb⟩; have n0_ := Aside0.mk (Kd.S_below (by (with_reducible repeat (first | apply Kd.S_alloc | apply Kd.S_drewN | apply Kd.S_drew)); exact HO290.out) hb); have n1_ := Aside0.mk (Kd.S_below (by (with_reducible repeat (first | apply Kd.S_alloc | apply Kd.S_drewN | apply Kd.S_drew)); exact HO292.out) hb); have n2_ := Aside0.mk (Kd.V_below (by (with_reducible repeat (first | apply Kd.V_alloc | apply Kd.V_drewN | apply Kd.V_drew)); exact HO295.out) hb); have n3_ := Aside0.mk (Kd.S_below (by (with_reducible repeat (first | apply Kd.S_alloc | apply Kd.S_drewN | apply Kd.S_drew)); exact HO300.out) hb); have n4_ := Aside0.mk (below_step (by repeat (first | (with_reducible first | exact HB.out | apply below_alloc | apply pw_below_drewN | apply below_drew1) | exact HB.out)) hb); clear HO290; clear HO292; clear HO295; clear HO300; clear HB; have HO290 := n0_; have HO292 := n1_; have HO295 := n2_; have HO300 := n3_; have HB := n4_; clear n0_ n1_ n2_ n3_ n4_; (try clear hb); (try clear hb2); (try clear hk); (try clear hi))))
     go_meet
     case rel => exact ⟨_, (true), (by first | rfl | (simp; done) | (simp [*]; done)), H', ⟨by first | omega | exact Nat.le_refl _⟩, ⟨by (with_reducible repeat (first | apply Kd.S_alloc | apply Kd.S_drewN | apply Kd.S_drew)); exact HO290.out⟩, ⟨by (with_reducible repeat (first | apply Kd.S_alloc | apply Kd.S_drewN | apply Kd.S_drew)); exact HO292.out⟩, ⟨by (with_reducible repeat (first | apply Kd.V_alloc | apply Kd.V_drewN | apply Kd.V_drew)); exact Kd.V_mono HO295.out (fun _ hk => ⟨hk.1.1, ⟨hk.1.2, hk.2⟩⟩)⟩, ⟨by (with_reducible repeat (first | apply Kd.S_alloc | apply Kd.S_drewN | apply Kd.S_drew)); exact Kd.S_mono HO300.out (fun _ hk => ⟨hk.1.2, hk.2⟩)⟩, ⟨by repeat (first | (with_reducible first | exact HB.out | apply below_alloc | apply pw_below_drewN | apply below_drew1) | exact HB.out)⟩⟩
  case rest =>
   clear HC6
   try clear c1
   try clear c2
   try clear c2b0
   try clear c2b1
   try clear p2
   try clear c12
   try clear c12b0
   try clear c12b1
   try clear c12b2
   try clear c13
   try clear c14
   obtain ⟨kq, x44_5, rfl, HA, HJ5, HO_3, HO_4, HO_5, HO_7, HB⟩ := hcut
   cases kq with
   | zero => exact absurd HA.out (by simp [laws_FnMergeOrder.j0])
   | succ kj5 =>
    have H := HA.out
    clear HA
    simp only [laws_FnMergeOrder.j0] at H
    by_cases c21 : x44_5 = true
    ·subst c21
     have H1 : (if (t296 == t298) = true then ((laws_sameRecords.f kj5 t293 t297).bind fun t302 => (some t302)) else (some false)) = some r := by rw [if_pos rfl] at H; exact H
     clear H
     have H := H1
     clear H1
     by_cases c22 : (t296 == t298) = true
     ·rw [if_pos c22] at H
      have c22b0 : (t296 == t298) = true := c22
      (try (have c22b1 : decide (t296 = t298) = true := by simpa using c22))
      (try (have c22b2 : (t296 == t298) = true := by simpa using c22))
      clear c22
      replace H := Option.bind_eq_some_iff.mp H
      obtain ⟨t302, A230, H⟩ := H
      replace H : (some t302) = some r := H
      have A23 := Aside0.mk A230
      clear A230
      obtain rfl := Option.some.inj H
      obtain ⟨Ao24, co24, eo24⟩ := Kd.V_slice HO_5.out
      subst eo24
      obtain ⟨Ao25, co25, eo25⟩ := Kd.S_slice HO_7.out
      subst eo25
      go_wp2_with (first | (go_at_call 24; (with_reducible refine (laws_sameRecords.calls kj5 _ _ t293 _ _ t297 t302 _ ?side1 ?side2 ?side3 ?side4 A23.out).mono ?_); (case side1 => repeat (first | exact (Kd.V_reads' HO_5.out).2.2 | (with_reducible refine Kd.C_alloc ?_ _) | (with_reducible refine Kd.C_drewN ?_ _) | (with_reducible refine Kd.C_drew ?_))); (case side2 => exact (Kd.V_reads' HO_5.out).2.1); (case side3 => repeat (first | exact (Kd.S_reads' HO_7.out).2.2 | (with_reducible refine Kd.C_alloc ?_ _) | (with_reducible refine Kd.C_drewN ?_ _) | (with_reducible refine Kd.C_drew ?_))); (case side4 => exact (Kd.S_reads' HO_7.out).2.1); rintro e w26 ⟨rfl, hb⟩; have n0_ := Aside0.mk (Kd.S_below (by (with_reducible repeat (first | apply Kd.S_alloc | apply Kd.S_drewN | apply Kd.S_drew)); exact HO_3.out) hb); have n1_ := Aside0.mk (Kd.S_below (by (with_reducible repeat (first | apply Kd.S_alloc | apply Kd.S_drewN | apply Kd.S_drew)); exact HO_4.out) hb); have n2_ := Aside0.mk (Kd.V_below (by (with_reducible repeat (first | apply Kd.V_alloc | apply Kd.V_drewN | apply Kd.V_drew)); exact HO_5.out) hb); have n3_ := Aside0.mk (Kd.S_below (by (with_reducible repeat (first | apply Kd.S_alloc | apply Kd.S_drewN | apply Kd.S_drew)); exact HO_7.out) hb); have n4_ := Aside0.mk (below_step (by repeat (first | (with_reducible first | exact HB.out | apply below_alloc | apply pw_below_drewN | apply below_drew1) | exact HB.out)) hb); clear HO_3; clear HO_4; clear HO_5; clear HO_7; clear HB; have HO_3 := n0_; have HO_4 := n1_; have HO_5 := n2_; have HO_7 := n3_; have HB := n4_; clear n0_ n1_ n2_ n3_ n4_; (try clear hb); (try clear hb2); (try clear hk); (try clear hi)))
      repeat (go_quiet (first | (go_at_call 24; (with_reducible refine (laws_sameRecords.calls kj5 _ _ t293 _ _ t297 t302 _ ?side1 ?side2 ?side3 ?side4 A23.out).mono ?_); (case side1 => repeat (first | exact (Kd.V_reads' HO_5.out).2.2 | (with_reducible refine Kd.C_alloc ?_ _) | (with_reducible refine Kd.C_drewN ?_ _) | (with_reducible refine Kd.C_drew ?_))); (case side2 => exact (Kd.V_reads' HO_5.out).2.1); (case side3 => repeat (first | exact (Kd.S_reads' HO_7.out).2.2 | (with_reducible refine Kd.C_alloc ?_ _) | (with_reducible refine Kd.C_drewN ?_ _) | (with_reducible refine Kd.C_drew ?_))); (case side4 => exact (Kd.S_reads' HO_7.out).2.1); rintro e w26 ⟨rfl, hb⟩; have n0_ := Aside0.mk (Kd.S_below (by (with_reducible repeat (first | apply Kd.S_alloc | apply Kd.S_drewN | apply Kd.S_drew)); exact HO_3.out) hb); have n1_ := Aside0.mk (Kd.S_below (by (with_reducible repeat (first | apply Kd.S_alloc | apply Kd.S_drewN | apply Kd.S_drew)); exact HO_4.out) hb); have n2_ := Aside0.mk (Kd.V_below (by (with_reducible repeat (first | apply Kd.V_alloc | apply Kd.V_drewN | apply Kd.V_drew)); exact HO_5.out) hb); have n3_ := Aside0.mk (Kd.S_below (by (with_reducible repeat (first | apply Kd.S_alloc | apply Kd.S_drewN | apply Kd.S_drew)); exact HO_7.out) hb); have n4_ := Aside0.mk (below_step (by repeat (first | (with_reducible first | exact HB.out | apply below_alloc | apply pw_below_drewN | apply below_drew1) | exact HB.out)) hb); clear HO_3; clear HO_4; clear HO_5; clear HO_7; clear HB; have HO_3 := n0_; have HO_4 := n1_; have HO_5 := n2_; have HO_7 := n3_; have HB := n4_; clear n0_ n1_ n2_ n3_ n4_; (try clear hb); (try clear hb2); (try clear hk); (try clear hi))); try go_wp2_with (first | (go_at_call 24; (with_reducible refine (laws_sameRecords.calls kj5 _ _ t293 _ _ t297 t302 _ ?side1 ?side2 ?side3 ?side4 A23.out).mono ?_); (case side1 => repeat (first | exact (Kd.V_reads' HO_5.out).2.2 | (with_reducible refine Kd.C_alloc ?_ _) | (with_reducible refine Kd.C_drewN ?_ _) | (with_reducible refine Kd.C_drew ?_))); (case side2 => exact (Kd.V_reads' HO_5.out).2.1); (case side3 => repeat (first | exact (Kd.S_reads' HO_7.out).2.2 | (with_reducible refine Kd.C_alloc ?_ _) | (with_reducible refine Kd.C_drewN ?_ _) | (with_reducible refine Kd.C_drew ?_))); (case side4 => exact (Kd.S_reads' HO_7.out).2.1); rintro e w26 ⟨rfl, hb⟩; have n0_ := Aside0.mk (Kd.S_below (by (with_reducible repeat (first | apply Kd.S_alloc | apply Kd.S_drewN | apply Kd.S_drew)); exact HO_3.out) hb); have n1_ := Aside0.mk (Kd.S_below (by (with_reducible repeat (first | apply Kd.S_alloc | apply Kd.S_drewN | apply Kd.S_drew)); exact HO_4.out) hb); have n2_ := Aside0.mk (Kd.V_below (by (with_reducible repeat (first | apply Kd.V_alloc | apply Kd.V_drewN | apply Kd.V_drew)); exact HO_5.out) hb); have n3_ := Aside0.mk (Kd.S_below (by (with_reducible repeat (first | apply Kd.S_alloc | apply Kd.S_drewN | apply Kd.S_drew)); exact HO_7.out) hb); have n4_ := Aside0.mk (below_step (by repeat (first | (with_reducible first | exact HB.out | apply below_alloc | apply pw_below_drewN | apply below_drew1) | exact HB.out)) hb); clear HO_3; clear HO_4; clear HO_5; clear HO_7; clear HB; have HO_3 := n0_; have HO_4 := n1_; have HO_5 := n2_; have HO_7 := n3_; have HB := n4_; clear n0_ n1_ n2_ n3_ n4_; (try clear hb); (try clear hb2); (try clear hk); (try clear hi))))
      all_goals go_ret
      all_goals exact ⟨by first | rfl | (simp [errW_none, errW_some] <;> rfl) | (simp [*, errW_none, errW_some] <;> rfl), by repeat (first | (with_reducible first | exact HB.out | apply below_alloc | apply pw_below_drewN | apply below_drew1) | exact HB.out)⟩
     ·rw [if_neg c22] at H
      have c22b0 : (t296 == t298) = false := by simpa using c22
      (try (have c22b1 : decide (t296 = t298) = false := by simpa using c22))
      (try (have c22b2 : (t296 == t298) = false := by simpa using c22))
      (try (have c22b3 : ¬ (t296 = t298) := by simpa using c22))
      clear c22
      obtain rfl := Option.some.inj H
      go_wp2
      repeat (go_quiet (fail); try go_wp2)
      all_goals go_ret
      all_goals exact ⟨by first | rfl | (simp [errW_none, errW_some] <;> rfl) | (simp [*, errW_none, errW_some] <;> rfl), by repeat (first | (with_reducible first | exact HB.out | apply below_alloc | apply pw_below_drewN | apply below_drew1) | exact HB.out)⟩
    ·replace c21 := Bool.eq_false_iff.mpr c21
     subst c21
     have H1 : (laws_FnMergeOrder.l0 kj5 t287 t288 t293 1) = some r := by rw [if_neg (show ¬ (false = true) by decide)] at H; exact H
     clear H
     have H := H1
     clear H1
     have H' := Aside0.mk H
     clear H
     go_wp2
     repeat (go_quiet (fail); try go_wp2)
     go_loopg [9] kj5 (fun kq v9 w' => ∃ (x9_2 : Int), v9 = .int .i64 x9_2 ∧ Aside0 (laws_FnMergeOrder.l0 kq t287 t288 t293 x9_2 = some r) ∧ Aside0 (kq ≤ kj5) ∧ Aside0 (Kd.S k41 41 w' w.heap.size (fun k_ => some k_ ≠ ((.slice Ao9 t288.length co9) : Value).ownBlock) (.slice Ao8 t287.length co8) t287) ∧ Aside0 (Kd.S k41 41 w' w.heap.size (fun k_ => some k_ ≠ ((.slice Ao8 t287.length co8) : Value).ownBlock) (.slice Ao9 t288.length co9) t288) ∧ Aside0 (Kd.V k41 41 w' w.heap.size (fun k_ => some k_ ≠ ((.slice Ao8 t287.length co8) : Value).ownBlock ∧ some k_ ≠ ((.slice Ao9 t288.length co9) : Value).ownBlock) v294 t293) ∧ Aside0 (Below w.heap.size w w'))
     case atStart => exact ⟨(1), (by first | rfl | (simp; done) | (simp [*]; done)), H', ⟨Nat.le_refl _⟩, ⟨by (with_reducible repeat (first | apply Kd.S_alloc | apply Kd.S_drewN | apply Kd.S_drew)); exact Kd.S_mono HO_3.out (fun _ hk => hk.1)⟩, ⟨by (with_reducible repeat (first | apply Kd.S_alloc | apply Kd.S_drewN | apply Kd.S_drew)); exact Kd.S_mono HO_4.out (fun _ hk => hk.1)⟩, ⟨by (with_reducible repeat (first | apply Kd.V_alloc | apply Kd.V_drewN | apply Kd.V_drew)); exact Kd.V_mono HO_5.out (fun _ hk => ⟨hk.1, hk.2.1⟩)⟩, ⟨by repeat (first | (with_reducible first | exact HB.out | apply below_alloc | apply pw_below_drewN | apply below_drew1) | exact HB.out)⟩⟩
     case round =>
      clear H'
      try clear c1
      try clear c2
      try clear c2b0
      try clear c2b1
      try clear p2
      try clear c12
      try clear c12b0
      try clear c12b1
      try clear c12b2
      try clear c13
      try clear c14
      try clear c21
      try clear c22
      try clear c22b0
      try clear c22b1
      try clear c22b2
      try clear p2
      obtain ⟨x9_2, rfl, HA, HK2, HO_3, HO_4, HO_5, HB⟩ := hrel
      cases gk with
      | zero => exact absurd HA.out (by simp [laws_FnMergeOrder.l0])
      | succ k2 =>
       have H := HA.out
       clear HA
       simp only [laws_FnMergeOrder.l0] at H
       by_cases c27 : x9_2 < (t287.length : Int)
       ·rw [if_pos c27] at H
        have c27b0 : decide (x9_2 < (t287.length : Int)) = true := decide_eq_true c27
        clear c27
        obtain ⟨ji28, hji28⟩ : ∃ j_ : Int, (wrap64 (x9_2 - 1)) = j_ := ⟨_, rfl⟩
        replace H : (if 0 ≤ (ji28) then (if (ji28) < (t287.length : Int) then (if 0 ≤ x9_2 then (if ((rd_T41 t287 (ji28)).f1) > ((rd_T41 t287 x9_2).f1) then (some true) else (laws_FnMergeOrder.l0 k2 t287 t288 t293 (wrap64 (x9_2 + 1)))) else (none)) else (none)) else (none)) = some r := by first | (rw [hji28] at H; exact H) | (simp only [hji28] at H ⊢; exact H)
        have hji28w : (IntKind.i64.wrap (x9_2 - 1)) = ji28 := (i64_w _).trans hji28
        by_cases c29 : 0 ≤ (ji28)
        ·rw [if_pos c29] at H
         have c29b0 : decide (0 ≤ (ji28)) = true := decide_eq_true c29
         clear c29
         by_cases c30 : (ji28) < (t287.length : Int)
         ·rw [if_pos c30] at H
          have c30b0 : decide ((ji28) < (t287.length : Int)) = true := decide_eq_true c30
          clear c30
          by_cases c31 : 0 ≤ x9_2
          ·rw [if_pos c31] at H
           have c31b0 : decide (0 ≤ x9_2) = true := decide_eq_true c31
           clear c31
           by_cases c32 : ((rd_T41 t287 (ji28)).f1) > ((rd_T41 t287 x9_2).f1)
           ·rw [if_pos c32] at H
            have c32b0 : decide (((rd_T41 t287 x9_2).f1) < ((rd_T41 t287 (ji28)).f1)) = true := decide_eq_true c32
            clear c32
            obtain rfl := Option.some.inj H
            have p303 : 0 ≤ ((ji28) : Int) := of_decide_eq_true (by first | (with_reducible assumption) | assumption)
            have q303 : (ji28) < (t287.length : Int) := of_decide_eq_true (by first | (with_reducible assumption) | assumption)
            obtain ⟨ad303, A303_3, c303_3, A303_5, c303_5, e303, hx303_0, hx303_1, hx303_2, hx303_3, hx303_4, hx303_5, hl303_3, hi303_3, hl303_5, hi303_5⟩ := at_T41 (Kd.S_reads' HO_3.out).2.2 (ji28) p303 q303
            cases e303
            obtain ⟨ce303, hce303, hMe303, hcc303⟩ := Kd.S_get HO_3.out z41 (ji28) p303 (by first | exact q303 | exact of_decide_eq_true (by first | (with_reducible assumption) | assumption) | (have e_ := (Kd.S_reads' HO_3.out).1; omega))
            obtain ⟨ve303_3, ve303_5, rfl, ge303_3, ge303_5⟩ := k41_openM hMe303
            have hv303_3 := hcc303 3 _ rfl
            rw [add_field _ _ 3 (by omega)] at hv303_3
            replace hv303_3 := Option.some.inj (hv303_3.symm.trans hx303_3)
            rw [hv303_3] at ge303_3
            have HL303_3 := Aside0.mk (show Kd.R (Kd.int .i64) 3 _ _ _ _ ((rd_T41 t287 (ji28)).f3) from ge303_3)
            clear hv303_3 ge303_3
            have hv303_5 := hcc303 5 _ rfl
            rw [add_field _ _ 5 (by omega)] at hv303_5
            replace hv303_5 := Option.some.inj (hv303_5.symm.trans hx303_5)
            rw [hv303_5] at ge303_5
            have HL303_5 := Aside0.mk (show Kd.R (Kd.int .i64) 3 _ _ _ _ ((rd_T41 t287 (ji28)).f5) from ge303_5)
            clear hv303_5 ge303_5
            clear hcc303 hce303
            have HR303_3 := Aside0.mk hi303_3
            have HC303_3 := Aside0.mk hl303_3
            clear hi303_3 hl303_3
            have HR303_5 := Aside0.mk hi303_5
            have HC303_5 := Aside0.mk hl303_5
            clear hi303_5 hl303_5
            replace p303 := eq_true p303
            replace q303 := eq_true q303
            have p304 : 0 ≤ (x9_2 : Int) := of_decide_eq_true (by first | (with_reducible assumption) | assumption)
            have q304 : x9_2 < (t287.length : Int) := of_decide_eq_true (by first | (with_reducible assumption) | assumption)
            obtain ⟨ad304, A304_3, c304_3, A304_5, c304_5, e304, hx304_0, hx304_1, hx304_2, hx304_3, hx304_4, hx304_5, hl304_3, hi304_3, hl304_5, hi304_5⟩ := at_T41 (Kd.S_reads' HO_3.out).2.2 x9_2 p304 q304
            obtain rfl : ad303 = ad304 := (by injection e304)
            obtain ⟨ce304, hce304, hMe304, hcc304⟩ := Kd.S_get HO_3.out z41 x9_2 p304 (by first | exact q304 | exact of_decide_eq_true (by first | (with_reducible assumption) | assumption) | (have e_ := (Kd.S_reads' HO_3.out).1; omega))
            obtain ⟨ve304_3, ve304_5, rfl, ge304_3, ge304_5⟩ := k41_openM hMe304
            have hv304_3 := hcc304 3 _ rfl
            rw [add_field _ _ 3 (by omega)] at hv304_3
            replace hv304_3 := Option.some.inj (hv304_3.symm.trans hx304_3)
            rw [hv304_3] at ge304_3
            have HL304_3 := Aside0.mk (show Kd.R (Kd.int .i64) 3 _ _ _ _ ((rd_T41 t287 x9_2).f3) from ge304_3)
            clear hv304_3 ge304_3
            have hv304_5 := hcc304 5 _ rfl
            rw [add_field _ _ 5 (by omega)] at hv304_5
            replace hv304_5 := Option.some.inj (hv304_5.symm.trans hx304_5)
            rw [hv304_5] at ge304_5
            have HL304_5 := Aside0.mk (show Kd.R (Kd.int .i64) 3 _ _ _ _ ((rd_T41 t287 x9_2).f5) from ge304_5)
            clear hv304_5 ge304_5
            clear hcc304 hce304
            have HR304_3 := Aside0.mk hi304_3
            have HC304_3 := Aside0.mk hl304_3
            clear hi304_3 hl304_3
            have HR304_5 := Aside0.mk hi304_5
            have HC304_5 := Aside0.mk hl304_5
            clear hi304_5 hl304_5
            replace p304 := eq_true p304
            replace q304 := eq_true q304
            go_wp2
            repeat (go_quiet (fail); try go_wp2)
            all_goals go_ret
            all_goals exact ⟨by first | rfl | (simp [errW_none, errW_some] <;> rfl) | (simp only [← hji28]; first | rfl | (simp [errW_none, errW_some] <;> rfl)) | (simp [*, errW_none, errW_some] <;> rfl), by repeat (first | (with_reducible first | exact HB.out | apply below_alloc | apply pw_below_drewN | apply below_drew1) | exact HB.out)⟩
           ·rw [if_neg c32] at H
            have c32b0 : decide (((rd_T41 t287 x9_2).f1) < ((rd_T41 t287 (ji28)).f1)) = false := decide_eq_false c32
            clear c32
            have H' := Aside0.mk H
            clear H
            have p303 : 0 ≤ ((ji28) : Int) := of_decide_eq_true (by first | (with_reducible assumption) | assumption)
            have q303 : (ji28) < (t287.length : Int) := of_decide_eq_true (by first | (with_reducible assumption) | assumption)
            obtain ⟨ad303, A303_3, c303_3, A303_5, c303_5, e303, hx303_0, hx303_1, hx303_2, hx303_3, hx303_4, hx303_5, hl303_3, hi303_3, hl303_5, hi303_5⟩ := at_T41 (Kd.S_reads' HO_3.out).2.2 (ji28) p303 q303
            cases e303
            obtain ⟨ce303, hce303, hMe303, hcc303⟩ := Kd.S_get HO_3.out z41 (ji28) p303 (by first | exact q303 | exact of_decide_eq_true (by first | (with_reducible assumption) | assumption) | (have e_ := (Kd.S_reads' HO_3.out).1; omega))
            obtain ⟨ve303_3, ve303_5, rfl, ge303_3, ge303_5⟩ := k41_openM hMe303
            have hv303_3 := hcc303 3 _ rfl
            rw [add_field _ _ 3 (by omega)] at hv303_3
            replace hv303_3 := Option.some.inj (hv303_3.symm.trans hx303_3)
            rw [hv303_3] at ge303_3
            have HL303_3 := Aside0.mk (show Kd.R (Kd.int .i64) 3 _ _ _ _ ((rd_T41 t287 (ji28)).f3) from ge303_3)
            clear hv303_3 ge303_3
            have hv303_5 := hcc303 5 _ rfl
            rw [add_field _ _ 5 (by omega)] at hv303_5
            replace hv303_5 := Option.some.inj (hv303_5.symm.trans hx303_5)
            rw [hv303_5] at ge303_5
            have HL303_5 := Aside0.mk (show Kd.R (Kd.int .i64) 3 _ _ _ _ ((rd_T41 t287 (ji28)).f5) from ge303_5)
            clear hv303_5 ge303_5
            clear hcc303 hce303
            have HR303_3 := Aside0.mk hi303_3
            have HC303_3 := Aside0.mk hl303_3
            clear hi303_3 hl303_3
            have HR303_5 := Aside0.mk hi303_5
            have HC303_5 := Aside0.mk hl303_5
            clear hi303_5 hl303_5
            replace p303 := eq_true p303
            replace q303 := eq_true q303
            have p304 : 0 ≤ (x9_2 : Int) := of_decide_eq_true (by first | (with_reducible assumption) | assumption)
            have q304 : x9_2 < (t287.length : Int) := of_decide_eq_true (by first | (with_reducible assumption) | assumption)
            obtain ⟨ad304, A304_3, c304_3, A304_5, c304_5, e304, hx304_0, hx304_1, hx304_2, hx304_3, hx304_4, hx304_5, hl304_3, hi304_3, hl304_5, hi304_5⟩ := at_T41 (Kd.S_reads' HO_3.out).2.2 x9_2 p304 q304
            obtain rfl : ad303 = ad304 := (by injection e304)
            obtain ⟨ce304, hce304, hMe304, hcc304⟩ := Kd.S_get HO_3.out z41 x9_2 p304 (by first | exact q304 | exact of_decide_eq_true (by first | (with_reducible assumption) | assumption) | (have e_ := (Kd.S_reads' HO_3.out).1; omega))
            obtain ⟨ve304_3, ve304_5, rfl, ge304_3, ge304_5⟩ := k41_openM hMe304
            have hv304_3 := hcc304 3 _ rfl
            rw [add_field _ _ 3 (by omega)] at hv304_3
            replace hv304_3 := Option.some.inj (hv304_3.symm.trans hx304_3)
            rw [hv304_3] at ge304_3
            have HL304_3 := Aside0.mk (show Kd.R (Kd.int .i64) 3 _ _ _ _ ((rd_T41 t287 x9_2).f3) from ge304_3)
            clear hv304_3 ge304_3
            have hv304_5 := hcc304 5 _ rfl
            rw [add_field _ _ 5 (by omega)] at hv304_5
            replace hv304_5 := Option.some.inj (hv304_5.symm.trans hx304_5)
            rw [hv304_5] at ge304_5
            have HL304_5 := Aside0.mk (show Kd.R (Kd.int .i64) 3 _ _ _ _ ((rd_T41 t287 x9_2).f5) from ge304_5)
            clear hv304_5 ge304_5
            clear hcc304 hce304
            have HR304_3 := Aside0.mk hi304_3
            have HC304_3 := Aside0.mk hl304_3
            clear hi304_3 hl304_3
            have HR304_5 := Aside0.mk hi304_5
            have HC304_5 := Aside0.mk hl304_5
            clear hi304_5 hl304_5
            replace p304 := eq_true p304
            replace q304 := eq_true q304
            go_wp2
            repeat (go_quiet (fail); try go_wp2)
            go_roundg k2
            case measure => have := HJ5.out; have := HK2.out; omega
            case rel => exact ⟨(wrap64 (x9_2 + 1)), (by first | rfl | (simp; done) | (simp [*]; done)), H', ⟨by have := HJ5.out; have := HK2.out; omega⟩, ⟨by (with_reducible repeat (first | apply Kd.S_alloc | apply Kd.S_drewN | apply Kd.S_drew)); exact HO_3.out⟩, ⟨by (with_reducible repeat (first | apply Kd.S_alloc | apply Kd.S_drewN | apply Kd.S_drew)); exact HO_4.out⟩, ⟨by (with_reducible repeat (first | apply Kd.V_alloc | apply Kd.V_drewN | apply Kd.V_drew)); exact HO_5.out⟩, ⟨by repeat (first | (with_reducible first | exact HB.out | apply below_alloc | apply pw_below_drewN | apply below_drew1) | exact HB.out)⟩⟩
          ·rw [if_neg c31] at H
           exact absurd H (by simp)
         ·rw [if_neg c30] at H
          exact absurd H (by simp)
        ·rw [if_neg c29] at H
         exact absurd H (by simp)
       ·rw [if_neg c27] at H
        have c27b0 : decide (x9_2 < (t287.length : Int)) = false := decide_eq_false c27
        clear c27
        have H' := Aside0.mk H
        clear H
        go_wp2
        repeat (go_quiet (fail); try go_wp2)
        go_loopg [10] k2 (fun kq v10 w' => ∃ (x10_3 : Int), v10 = .int .i64 x10_3 ∧ Aside0 (laws_FnMergeOrder.l1 kq t288 t293 x10_3 = some r) ∧ Aside0 (kq ≤ k2) ∧ Aside0 (Kd.S k41 41 w' w.heap.size (fun _ => True) (.slice Ao9 t288.length co9) t288) ∧ Aside0 (Kd.V k41 41 w' w.heap.size (fun k_ => some k_ ≠ ((.slice Ao9 t288.length co9) : Value).ownBlock) v294 t293) ∧ Aside0 (Below w.heap.size w w'))
        case atStart => exact ⟨(1), (by first | rfl | (simp; done) | (simp [*]; done)), H', ⟨Nat.le_refl _⟩, ⟨by (with_reducible repeat (first | apply Kd.S_alloc | apply Kd.S_drewN | apply Kd.S_drew)); exact Kd.S_mono HO_4.out (fun _ hk => trivial)⟩, ⟨by (with_reducible repeat (first | apply Kd.V_alloc | apply Kd.V_drewN | apply Kd.V_drew)); exact Kd.V_mono HO_5.out (fun _ hk => hk.2)⟩, ⟨by repeat (first | (with_reducible first | exact HB.out | apply below_alloc | apply pw_below_drewN | apply below_drew1) | exact HB.out)⟩⟩
        case round =>
         clear H'
         try clear c1
         try clear c2
         try clear c2b0
         try clear c2b1
         try clear p2
         try clear c3
         try clear p3
         try clear q3
         try clear hx3
         try clear p6
         try clear c12
         try clear c12b0
         try clear c12b1
         try clear c12b2
         try clear c13
         try clear c14
         try clear c21
         try clear c22
         try clear c22b0
         try clear c22b1
         try clear c22b2
         try clear c27
         try clear c27b0
         try clear c29
         try clear c29b0
         try clear c30
         try clear c30b0
         try clear p30
         try clear q30
         try clear hx30
         try clear c31
         try clear c31b0
         try clear c32
         try clear c32b0
         try clear hx303_0
         try clear hx303_1
         try clear hx303_2
         try clear hx303_3
         try clear hx303_4
         try clear hx303_5
         try clear hx304_0
         try clear hx304_1
         try clear hx304_2
         try clear hx304_3
         try clear hx304_4
         try clear hx304_5
         try clear p2
         try clear p303
         try clear p304
         try clear q303
         try clear q304
         obtain ⟨x10_3, rfl, HA, HK3, HO_4, HO_5, HB⟩ := hrel
         cases gk with
         | zero => exact absurd HA.out (by simp [laws_FnMergeOrder.l1])
         | succ k3 =>
          have H := HA.out
          clear HA
          simp only [laws_FnMergeOrder.l1] at H
          by_cases c33 : x10_3 < (t288.length : Int)
          ·rw [if_pos c33] at H
           have c33b0 : decide (x10_3 < (t288.length : Int)) = true := decide_eq_true c33
           clear c33
           obtain ⟨ji34, hji34⟩ : ∃ j_ : Int, (wrap64 (x10_3 - 1)) = j_ := ⟨_, rfl⟩
           replace H : (if 0 ≤ (ji34) then (if (ji34) < (t288.length : Int) then (if 0 ≤ x10_3 then (if ((rd_T41 t288 (ji34)).f1) > ((rd_T41 t288 x10_3).f1) then (some true) else (laws_FnMergeOrder.l1 k3 t288 t293 (wrap64 (x10_3 + 1)))) else (none)) else (none)) else (none)) = some r := by first | (rw [hji34] at H; exact H) | (simp only [hji34] at H ⊢; exact H)
           have hji34w : (IntKind.i64.wrap (x10_3 - 1)) = ji34 := (i64_w _).trans hji34
           by_cases c35 : 0 ≤ (ji34)
           ·rw [if_pos c35] at H
            have c35b0 : decide (0 ≤ (ji34)) = true := decide_eq_true c35
            clear c35
            by_cases c36 : (ji34) < (t288.length : Int)
            ·rw [if_pos c36] at H
             have c36b0 : decide ((ji34) < (t288.length : Int)) = true := decide_eq_true c36
             clear c36
             by_cases c37 : 0 ≤ x10_3
             ·rw [if_pos c37] at H
              have c37b0 : decide (0 ≤ x10_3) = true := decide_eq_true c37
              clear c37
              by_cases c38 : ((rd_T41 t288 (ji34)).f1) > ((rd_T41 t288 x10_3).f1)
              ·rw [if_pos c38] at H
               have c38b0 : decide (((rd_T41 t288 x10_3).f1) < ((rd_T41 t288 (ji34)).f1)) = true := decide_eq_true c38
               clear c38
               obtain rfl := Option.some.inj H
               have p305 : 0 ≤ ((ji34) : Int) := of_decide_eq_true (by first | (with_reducible assumption) | assumption)
               have q305 : (ji34) < (t288.length : Int) := of_decide_eq_true (by first | (with_reducible assumption) | assumption)
               obtain ⟨ad305, A305_3, c305_3, A305_5, c305_5, e305, hx305_0, hx305_1, hx305_2, hx305_3, hx305_4, hx305_5, hl305_3, hi305_3, hl305_5, hi305_5⟩ := at_T41 (Kd.S_reads' HO_4.out).2.2 (ji34) p305 q305
               cases e305
               obtain ⟨ce305, hce305, hMe305, hcc305⟩ := Kd.S_get HO_4.out z41 (ji34) p305 (by first | exact q305 | exact of_decide_eq_true (by first | (with_reducible assumption) | assumption) | (have e_ := (Kd.S_reads' HO_4.out).1; omega))
               obtain ⟨ve305_3, ve305_5, rfl, ge305_3, ge305_5⟩ := k41_openM hMe305
               have hv305_3 := hcc305 3 _ rfl
               rw [add_field _ _ 3 (by omega)] at hv305_3
               replace hv305_3 := Option.some.inj (hv305_3.symm.trans hx305_3)
               rw [hv305_3] at ge305_3
               have HL305_3 := Aside0.mk (show Kd.R (Kd.int .i64) 3 _ _ _ _ ((rd_T41 t288 (ji34)).f3) from ge305_3)
               clear hv305_3 ge305_3
               have hv305_5 := hcc305 5 _ rfl
               rw [add_field _ _ 5 (by omega)] at hv305_5
               replace hv305_5 := Option.some.inj (hv305_5.symm.trans hx305_5)
               rw [hv305_5] at ge305_5
               have HL305_5 := Aside0.mk (show Kd.R (Kd.int .i64) 3 _ _ _ _ ((rd_T41 t288 (ji34)).f5) from ge305_5)
               clear hv305_5 ge305_5
               clear hcc305 hce305
               have HR305_3 := Aside0.mk hi305_3
               have HC305_3 := Aside0.mk hl305_3
               clear hi305_3 hl305_3
               have HR305_5 := Aside0.mk hi305_5
               have HC305_5 := Aside0.mk hl305_5
               clear hi305_5 hl305_5
               replace p305 := eq_true p305
               replace q305 := eq_true q305
               have p306 : 0 ≤ (x10_3 : Int) := of_decide_eq_true (by first | (with_reducible assumption) | assumption)
               have q306 : x10_3 < (t288.length : Int) := of_decide_eq_true (by first | (with_reducible assumption) | assumption)
               obtain ⟨ad306, A306_3, c306_3, A306_5, c306_5, e306, hx306_0, hx306_1, hx306_2, hx306_3, hx306_4, hx306_5, hl306_3, hi306_3, hl306_5, hi306_5⟩ := at_T41 (Kd.S_reads' HO_4.out).2.2 x10_3 p306 q306
               obtain rfl : ad305 = ad306 := (by injection e306)
               obtain ⟨ce306, hce306, hMe306, hcc306⟩ := Kd.S_get HO_4.out z41 x10_3 p306 (by first | exact q306 | exact of_decide_eq_true (by first | (with_reducible assumption) | assumption) | (have e_ := (Kd.S_reads' HO_4.out).1; omega))
               obtain ⟨ve306_3, ve306_5, rfl, ge306_3, ge306_5⟩ := k41_openM hMe306
               have hv306_3 := hcc306 3 _ rfl
               rw [add_field _ _ 3 (by omega)] at hv306_3
               replace hv306_3 := Option.some.inj (hv306_3.symm.trans hx306_3)
               rw [hv306_3] at ge306_3
               have HL306_3 := Aside0.mk (show Kd.R (Kd.int .i64) 3 _ _ _ _ ((rd_T41 t288 x10_3).f3) from ge306_3)
               clear hv306_3 ge306_3
               have hv306_5 := hcc306 5 _ rfl
               rw [add_field _ _ 5 (by omega)] at hv306_5
               replace hv306_5 := Option.some.inj (hv306_5.symm.trans hx306_5)
               rw [hv306_5] at ge306_5
               have HL306_5 := Aside0.mk (show Kd.R (Kd.int .i64) 3 _ _ _ _ ((rd_T41 t288 x10_3).f5) from ge306_5)
               clear hv306_5 ge306_5
               clear hcc306 hce306
               have HR306_3 := Aside0.mk hi306_3
               have HC306_3 := Aside0.mk hl306_3
               clear hi306_3 hl306_3
               have HR306_5 := Aside0.mk hi306_5
               have HC306_5 := Aside0.mk hl306_5
               clear hi306_5 hl306_5
               replace p306 := eq_true p306
               replace q306 := eq_true q306
               go_wp2
               repeat (go_quiet (fail); try go_wp2)
               all_goals go_ret
               all_goals exact ⟨by first | rfl | (simp [errW_none, errW_some] <;> rfl) | (simp only [← hji34]; first | rfl | (simp [errW_none, errW_some] <;> rfl)) | (simp [*, errW_none, errW_some] <;> rfl), by repeat (first | (with_reducible first | exact HB.out | apply below_alloc | apply pw_below_drewN | apply below_drew1) | exact HB.out)⟩
              ·rw [if_neg c38] at H
               have c38b0 : decide (((rd_T41 t288 x10_3).f1) < ((rd_T41 t288 (ji34)).f1)) = false := decide_eq_false c38
               clear c38
               have H' := Aside0.mk H
               clear H
               have p305 : 0 ≤ ((ji34) : Int) := of_decide_eq_true (by first | (with_reducible assumption) | assumption)
               have q305 : (ji34) < (t288.length : Int) := of_decide_eq_true (by first | (with_reducible assumption) | assumption)
               obtain ⟨ad305, A305_3, c305_3, A305_5, c305_5, e305, hx305_0, hx305_1, hx305_2, hx305_3, hx305_4, hx305_5, hl305_3, hi305_3, hl305_5, hi305_5⟩ := at_T41 (Kd.S_reads' HO_4.out).2.2 (ji34) p305 q305
               cases e305
               obtain ⟨ce305, hce305, hMe305, hcc305⟩ := Kd.S_get HO_4.out z41 (ji34) p305 (by first | exact q305 | exact of_decide_eq_true (by first | (with_reducible assumption) | assumption) | (have e_ := (Kd.S_reads' HO_4.out).1; omega))
               obtain ⟨ve305_3, ve305_5, rfl, ge305_3, ge305_5⟩ := k41_openM hMe305
               have hv305_3 := hcc305 3 _ rfl
               rw [add_field _ _ 3 (by omega)] at hv305_3
               replace hv305_3 := Option.some.inj (hv305_3.symm.trans hx305_3)
               rw [hv305_3] at ge305_3
               have HL305_3 := Aside0.mk (show Kd.R (Kd.int .i64) 3 _ _ _ _ ((rd_T41 t288 (ji34)).f3) from ge305_3)
               clear hv305_3 ge305_3
               have hv305_5 := hcc305 5 _ rfl
               rw [add_field _ _ 5 (by omega)] at hv305_5
               replace hv305_5 := Option.some.inj (hv305_5.symm.trans hx305_5)
               rw [hv305_5] at ge305_5
               have HL305_5 := Aside0.mk (show Kd.R (Kd.int .i64) 3 _ _ _ _ ((rd_T41 t288 (ji34)).f5) from ge305_5)
               clear hv305_5 ge305_5
               clear hcc305 hce305
               have HR305_3 := Aside0.mk hi305_3
               have HC305_3 := Aside0.mk hl305_3
               clear hi305_3 hl305_3
               have HR305_5 := Aside0.mk hi305_5
               have HC305_5 := Aside0.mk hl305_5
               clear hi305_5 hl305_5
               replace p305 := eq_true p305
               replace q305 := eq_true q305
               have p306 : 0 ≤ (x10_3 : Int) := of_decide_eq_true (by first | (with_reducible assumption) | assumption)
               have q306 : x10_3 < (t288.length : Int) := of_decide_eq_true (by first | (with_reducible assumption) | assumption)
               obtain ⟨ad306, A306_3, c306_3, A306_5, c306_5, e306, hx306_0, hx306_1, hx306_2, hx306_3, hx306_4, hx306_5, hl306_3, hi306_3, hl306_5, hi306_5⟩ := at_T41 (Kd.S_reads' HO_4.out).2.2 x10_3 p306 q306
               obtain rfl : ad305 = ad306 := (by injection e306)
               obtain ⟨ce306, hce306, hMe306, hcc306⟩ := Kd.S_get HO_4.out z41 x10_3 p306 (by first | exact q306 | exact of_decide_eq_true (by first | (with_reducible assumption) | assumption) | (have e_ := (Kd.S_reads' HO_4.out).1; omega))
               obtain ⟨ve306_3, ve306_5, rfl, ge306_3, ge306_5⟩ := k41_openM hMe306
               have hv306_3 := hcc306 3 _ rfl
               rw [add_field _ _ 3 (by omega)] at hv306_3
               replace hv306_3 := Option.some.inj (hv306_3.symm.trans hx306_3)
               rw [hv306_3] at ge306_3
               have HL306_3 := Aside0.mk (show Kd.R (Kd.int .i64) 3 _ _ _ _ ((rd_T41 t288 x10_3).f3) from ge306_3)
               clear hv306_3 ge306_3
               have hv306_5 := hcc306 5 _ rfl
               rw [add_field _ _ 5 (by omega)] at hv306_5
               replace hv306_5 := Option.some.inj (hv306_5.symm.trans hx306_5)
               rw [hv306_5] at ge306_5
               have HL306_5 := Aside0.mk (show Kd.R (Kd.int .i64) 3 _ _ _ _ ((rd_T41 t288 x10_3).f5) from ge306_5)
               clear hv306_5 ge306_5
               clear hcc306 hce306
               have HR306_3 := Aside0.mk hi306_3
               have HC306_3 := Aside0.mk hl306_3
               clear hi306_3 hl306_3
               have HR306_5 := Aside0.mk hi306_5
               have HC306_5 := Aside0.mk hl306_5
               clear hi306_5 hl306_5
               replace p306 := eq_true p306
               replace q306 := eq_true q306
               go_wp2
               repeat (go_quiet (fail); try go_wp2)
               go_roundg k3
               case measure => have := HJ5.out; have := HK2.out; have := HK3.out; omega
               case rel => exact ⟨(wrap64 (x10_3 + 1)), (by first | rfl | (simp; done) | (simp [*]; done)), H', ⟨by have := HJ5.out; have := HK2.out; have := HK3.out; omega⟩, ⟨by (with_reducible repeat (first | apply Kd.S_alloc | apply Kd.S_drewN | apply Kd.S_drew)); exact HO_4.out⟩, ⟨by (with_reducible repeat (first | apply Kd.V_alloc | apply Kd.V_drewN | apply Kd.V_drew)); exact HO_5.out⟩, ⟨by repeat (first | (with_reducible first | exact HB.out | apply below_alloc | apply pw_below_drewN | apply below_drew1) | exact HB.out)⟩⟩
             ·rw [if_neg c37] at H
              exact absurd H (by simp)
            ·rw [if_neg c36] at H
             exact absurd H (by simp)
           ·rw [if_neg c35] at H
            exact absurd H (by simp)
          ·rw [if_neg c33] at H
           have c33b0 : decide (x10_3 < (t288.length : Int)) = false := decide_eq_false c33
           clear c33
           have H' := Aside0.mk H
           clear H
           go_wp2
           repeat (go_quiet (fail); try go_wp2)
           go_loopg [11] k3 (fun kq v11 w' => ∃ (x11_4 : Int), v11 = .int .i64 x11_4 ∧ Aside0 (laws_FnMergeOrder.l2 kq t293 x11_4 = some r) ∧ Aside0 (kq ≤ k3) ∧ Aside0 (Kd.V k41 41 w' w.heap.size (fun _ => True) v294 t293) ∧ Aside0 (Below w.heap.size w w'))
           case atStart => exact ⟨(1), (by first | rfl | (simp; done) | (simp [*]; done)), H', ⟨Nat.le_refl _⟩, ⟨by (with_reducible repeat (first | apply Kd.V_alloc | apply Kd.V_drewN | apply Kd.V_drew)); exact Kd.V_mono HO_5.out (fun _ hk => trivial)⟩, ⟨by repeat (first | (with_reducible first | exact HB.out | apply below_alloc | apply pw_below_drewN | apply below_drew1) | exact HB.out)⟩⟩
           case round =>
            clear H'
            try clear c1
            try clear c2
            try clear c2b0
            try clear c2b1
            try clear p2
            try clear c3
            try clear p3
            try clear q3
            try clear hx3
            try clear p6
            try clear c12
            try clear c12b0
            try clear c12b1
            try clear c12b2
            try clear c13
            try clear c14
            try clear c21
            try clear c22
            try clear c22b0
            try clear c22b1
            try clear c22b2
            try clear c27
            try clear c27b0
            try clear c29
            try clear c29b0
            try clear c30
            try clear c30b0
            try clear p30
            try clear q30
            try clear hx30
            try clear c31
            try clear c31b0
            try clear c32
            try clear c32b0
            try clear c33
            try clear c33b0
            try clear c35
            try clear c35b0
            try clear c36
            try clear c36b0
            try clear c37
            try clear c37b0
            try clear c38
            try clear c38b0
            try clear hx303_0
            try clear hx303_1
            try clear hx303_2
            try clear hx303_3
            try clear hx303_4
            try clear hx303_5
            try clear hx304_0
            try clear hx304_1
            try clear hx304_2
            try clear hx304_3
            try clear hx304_4
            try clear hx304_5
            try clear hx305_0
            try clear hx305_1
            try clear hx305_2
            try clear hx305_3
            try clear hx305_4
            try clear hx305_5
            try clear hx306_0
            try clear hx306_1
            try clear hx306_2
            try clear hx306_3
            try clear hx306_4
            try clear hx306_5
            try clear p2
            try clear p3
            try clear p30
            try clear p303
            try clear p304
            try clear p305
            try clear p306
            try clear p6
            try clear q3
            try clear q30
            try clear q303
            try clear q304
            try clear q305
            try clear q306
            obtain ⟨x11_4, rfl, HA, HK4, HO_5, HB⟩ := hrel
            cases gk with
            | zero => exact absurd HA.out (by simp [laws_FnMergeOrder.l2])
            | succ k4 =>
             have H := HA.out
             clear HA
             simp only [laws_FnMergeOrder.l2] at H
             by_cases c39 : x11_4 < (t293.length : Int)
             ·rw [if_pos c39] at H
              have c39b0 : decide (x11_4 < (t293.length : Int)) = true := decide_eq_true c39
              clear c39
              obtain ⟨ji40, hji40⟩ : ∃ j_ : Int, (wrap64 (x11_4 - 1)) = j_ := ⟨_, rfl⟩
              replace H : (if 0 ≤ (ji40) then (if (ji40) < (t293.length : Int) then (if 0 ≤ x11_4 then (if ((rd_T41 t293 (ji40)).f1) > ((rd_T41 t293 x11_4).f1) then (some false) else (laws_FnMergeOrder.l2 k4 t293 (wrap64 (x11_4 + 1)))) else (none)) else (none)) else (none)) = some r := by first | (rw [hji40] at H; exact H) | (simp only [hji40] at H ⊢; exact H)
              have hji40w : (IntKind.i64.wrap (x11_4 - 1)) = ji40 := (i64_w _).trans hji40
              by_cases c41 : 0 ≤ (ji40)
              ·rw [if_pos c41] at H
               have c41b0 : decide (0 ≤ (ji40)) = true := decide_eq_true c41
               clear c41
               by_cases c42 : (ji40) < (t293.length : Int)
               ·rw [if_pos c42] at H
                have c42b0 : decide ((ji40) < (t293.length : Int)) = true := decide_eq_true c42
                clear c42
                by_cases c43 : 0 ≤ x11_4
                ·rw [if_pos c43] at H
                 have c43b0 : decide (0 ≤ x11_4) = true := decide_eq_true c43
                 clear c43
                 by_cases c44 : ((rd_T41 t293 (ji40)).f1) > ((rd_T41 t293 x11_4).f1)
                 ·rw [if_pos c44] at H
                  have c44b0 : decide (((rd_T41 t293 x11_4).f1) < ((rd_T41 t293 (ji40)).f1)) = true := decide_eq_true c44
                  clear c44
                  obtain rfl := Option.some.inj H
                  obtain ⟨Ao45, co45, eo45⟩ := Kd.V_slice HO_5.out
                  subst eo45
                  have p307 : 0 ≤ ((ji40) : Int) := of_decide_eq_true (by first | (with_reducible assumption) | assumption)
                  have q307 : (ji40) < (t293.length : Int) := of_decide_eq_true (by first | (with_reducible assumption) | assumption)
                  obtain ⟨ad307, A307_3, c307_3, A307_5, c307_5, e307, hx307_0, hx307_1, hx307_2, hx307_3, hx307_4, hx307_5, hl307_3, hi307_3, hl307_5, hi307_5⟩ := at_T41 (Kd.V_reads' HO_5.out).2.2 (ji40) p307 q307
                  cases e307
                  obtain ⟨ce307, hce307, hMe307, hcc307⟩ := Kd.V_get HO_5.out z41 (ji40) p307 (by first | exact q307 | exact of_decide_eq_true (by first | (with_reducible assumption) | assumption) | (have e_ := (Kd.V_reads' HO_5.out).1; omega))
                  obtain ⟨ua307_3, uc307_3, ua307_5, uc307_5, rfl, ul307_3, ge307_3, ul307_5, ge307_5⟩ := k41_openF hMe307
                  have hv307_3 := hcc307 3 _ rfl
                  rw [add_field _ _ 3 (by omega)] at hv307_3
                  replace hv307_3 := Option.some.inj (hv307_3.symm.trans hx307_3)
                  injection hv307_3 with hva_ hvn_ hvc_
                  rw [hva_] at ge307_3
                  rw [hvc_] at ul307_3
                  have HL307_3 := Aside0.mk (show Kd.V (Kd.int .i64) 3 _ w.heap.size _ _ ((rd_T41 t293 (ji40)).f3) from Kd.V_mk ul307_3 ge307_3)
                  clear hva_ hvn_ hvc_ ge307_3 ul307_3
                  have hv307_5 := hcc307 5 _ rfl
                  rw [add_field _ _ 5 (by omega)] at hv307_5
                  replace hv307_5 := Option.some.inj (hv307_5.symm.trans hx307_5)
                  injection hv307_5 with hva_ hvn_ hvc_
                  rw [hva_] at ge307_5
                  rw [hvc_] at ul307_5
                  have HL307_5 := Aside0.mk (show Kd.V (Kd.int .i64) 3 _ w.heap.size _ _ ((rd_T41 t293 (ji40)).f5) from Kd.V_mk ul307_5 ge307_5)
                  clear hva_ hvn_ hvc_ ge307_5 ul307_5
                  clear hcc307 hce307
                  have HR307_3 := Aside0.mk hi307_3
                  have HC307_3 := Aside0.mk hl307_3
                  clear hi307_3 hl307_3
                  have HR307_5 := Aside0.mk hi307_5
                  have HC307_5 := Aside0.mk hl307_5
                  clear hi307_5 hl307_5
                  replace p307 := eq_true p307
                  replace q307 := eq_true q307
                  have p308 : 0 ≤ (x11_4 : Int) := of_decide_eq_true (by first | (with_reducible assumption) | assumption)
                  have q308 : x11_4 < (t293.length : Int) := of_decide_eq_true (by first | (with_reducible assumption) | assumption)
                  obtain ⟨ad308, A308_3, c308_3, A308_5, c308_5, e308, hx308_0, hx308_1, hx308_2, hx308_3, hx308_4, hx308_5, hl308_3, hi308_3, hl308_5, hi308_5⟩ := at_T41 (Kd.V_reads' HO_5.out).2.2 x11_4 p308 q308
                  obtain rfl : ad307 = ad308 := (by injection e308)
                  obtain ⟨ce308, hce308, hMe308, hcc308⟩ := Kd.V_get HO_5.out z41 x11_4 p308 (by first | exact q308 | exact of_decide_eq_true (by first | (with_reducible assumption) | assumption) | (have e_ := (Kd.V_reads' HO_5.out).1; omega))
                  obtain ⟨ua308_3, uc308_3, ua308_5, uc308_5, rfl, ul308_3, ge308_3, ul308_5, ge308_5⟩ := k41_openF hMe308
                  have hv308_3 := hcc308 3 _ rfl
                  rw [add_field _ _ 3 (by omega)] at hv308_3
                  replace hv308_3 := Option.some.inj (hv308_3.symm.trans hx308_3)
                  injection hv308_3 with hva_ hvn_ hvc_
                  rw [hva_] at ge308_3
                  rw [hvc_] at ul308_3
                  have HL308_3 := Aside0.mk (show Kd.V (Kd.int .i64) 3 _ w.heap.size _ _ ((rd_T41 t293 x11_4).f3) from Kd.V_mk ul308_3 ge308_3)
                  clear hva_ hvn_ hvc_ ge308_3 ul308_3
                  have hv308_5 := hcc308 5 _ rfl
                  rw [add_field _ _ 5 (by omega)] at hv308_5
                  replace hv308_5 := Option.some.inj (hv308_5.symm.trans hx308_5)
                  injection hv308_5 with hva_ hvn_ hvc_
                  rw [hva_] at ge308_5
                  rw [hvc_] at ul308_5
                  have HL308_5 := Aside0.mk (show Kd.V (Kd.int .i64) 3 _ w.heap.size _ _ ((rd_T41 t293 x11_4).f5) from Kd.V_mk ul308_5 ge308_5)
                  clear hva_ hvn_ hvc_ ge308_5 ul308_5
                  clear hcc308 hce308
                  have HR308_3 := Aside0.mk hi308_3
                  have HC308_3 := Aside0.mk hl308_3
                  clear hi308_3 hl308_3
                  have HR308_5 := Aside0.mk hi308_5
                  have HC308_5 := Aside0.mk hl308_5
                  clear hi308_5 hl308_5
                  replace p308 := eq_true p308
                  replace q308 := eq_true q308
                  go_wp2
                  repeat (go_quiet (fail); try go_wp2)
                  all_goals go_ret
                  all_goals exact ⟨by first | rfl | (simp [errW_none, errW_some] <;> rfl) | (simp only [← hji40]; first | rfl | (simp [errW_none, errW_some] <;> rfl)) | (simp [*, errW_none, errW_some] <;> rfl), by repeat (first | (with_reducible first | exact HB.out | apply below_alloc | apply pw_below_drewN | apply below_drew1) | exact HB.out)⟩
                 ·rw [if_neg c44] at H
                  have c44b0 : decide (((rd_T41 t293 x11_4).f1) < ((rd_T41 t293 (ji40)).f1)) = false := decide_eq_false c44
                  clear c44
                  have H' := Aside0.mk H
                  clear H
                  obtain ⟨Ao46, co46, eo46⟩ := Kd.V_slice HO_5.out
                  subst eo46
                  have p307 : 0 ≤ ((ji40) : Int) := of_decide_eq_true (by first | (with_reducible assumption) | assumption)
                  have q307 : (ji40) < (t293.length : Int) := of_decide_eq_true (by first | (with_reducible assumption) | assumption)
                  obtain ⟨ad307, A307_3, c307_3, A307_5, c307_5, e307, hx307_0, hx307_1, hx307_2, hx307_3, hx307_4, hx307_5, hl307_3, hi307_3, hl307_5, hi307_5⟩ := at_T41 (Kd.V_reads' HO_5.out).2.2 (ji40) p307 q307
                  cases e307
                  obtain ⟨ce307, hce307, hMe307, hcc307⟩ := Kd.V_get HO_5.out z41 (ji40) p307 (by first | exact q307 | exact of_decide_eq_true (by first | (with_reducible assumption) | assumption) | (have e_ := (Kd.V_reads' HO_5.out).1; omega))
                  obtain ⟨ua307_3, uc307_3, ua307_5, uc307_5, rfl, ul307_3, ge307_3, ul307_5, ge307_5⟩ := k41_openF hMe307
                  have hv307_3 := hcc307 3 _ rfl
                  rw [add_field _ _ 3 (by omega)] at hv307_3
                  replace hv307_3 := Option.some.inj (hv307_3.symm.trans hx307_3)
                  injection hv307_3 with hva_ hvn_ hvc_
                  rw [hva_] at ge307_3
                  rw [hvc_] at ul307_3
                  have HL307_3 := Aside0.mk (show Kd.V (Kd.int .i64) 3 _ w.heap.size _ _ ((rd_T41 t293 (ji40)).f3) from Kd.V_mk ul307_3 ge307_3)
                  clear hva_ hvn_ hvc_ ge307_3 ul307_3
                  have hv307_5 := hcc307 5 _ rfl
                  rw [add_field _ _ 5 (by omega)] at hv307_5
                  replace hv307_5 := Option.some.inj (hv307_5.symm.trans hx307_5)
                  injection hv307_5 with hva_ hvn_ hvc_
                  rw [hva_] at ge307_5
                  rw [hvc_] at ul307_5
                  have HL307_5 := Aside0.mk (show Kd.V (Kd.int .i64) 3 _ w.heap.size _ _ ((rd_T41 t293 (ji40)).f5) from Kd.V_mk ul307_5 ge307_5)
                  clear hva_ hvn_ hvc_ ge307_5 ul307_5
                  clear hcc307 hce307
                  have HR307_3 := Aside0.mk hi307_3
                  have HC307_3 := Aside0.mk hl307_3
                  clear hi307_3 hl307_3
                  have HR307_5 := Aside0.mk hi307_5
                  have HC307_5 := Aside0.mk hl307_5
                  clear hi307_5 hl307_5
                  replace p307 := eq_true p307
                  replace q307 := eq_true q307
                  have p308 : 0 ≤ (x11_4 : Int) := of_decide_eq_true (by first | (with_reducible assumption) | assumption)
                  have q308 : x11_4 < (t293.length : Int) := of_decide_eq_true (by first | (with_reducible assumption) | assumption)
                  obtain ⟨ad308, A308_3, c308_3, A308_5, c308_5, e308, hx308_0, hx308_1, hx308_2, hx308_3, hx308_4, hx308_5, hl308_3, hi308_3, hl308_5, hi308_5⟩ := at_T41 (Kd.V_reads' HO_5.out).2.2 x11_4 p308 q308
                  obtain rfl : ad307 = ad308 := (by injection e308)
                  obtain ⟨ce308, hce308, hMe308, hcc308⟩ := Kd.V_get HO_5.out z41 x11_4 p308 (by first | exact q308 | exact of_decide_eq_true (by first | (with_reducible assumption) | assumption) | (have e_ := (Kd.V_reads' HO_5.out).1; omega))
                  obtain ⟨ua308_3, uc308_3, ua308_5, uc308_5, rfl, ul308_3, ge308_3, ul308_5, ge308_5⟩ := k41_openF hMe308
                  have hv308_3 := hcc308 3 _ rfl
                  rw [add_field _ _ 3 (by omega)] at hv308_3
                  replace hv308_3 := Option.some.inj (hv308_3.symm.trans hx308_3)
                  injection hv308_3 with hva_ hvn_ hvc_
                  rw [hva_] at ge308_3
                  rw [hvc_] at ul308_3
                  have HL308_3 := Aside0.mk (show Kd.V (Kd.int .i64) 3 _ w.heap.size _ _ ((rd_T41 t293 x11_4).f3) from Kd.V_mk ul308_3 ge308_3)
                  clear hva_ hvn_ hvc_ ge308_3 ul308_3
                  have hv308_5 := hcc308 5 _ rfl
                  rw [add_field _ _ 5 (by omega)] at hv308_5
                  replace hv308_5 := Option.some.inj (hv308_5.symm.trans hx308_5)
                  injection hv308_5 with hva_ hvn_ hvc_
                  rw [hva_] at ge308_5
                  rw [hvc_] at ul308_5
                  have HL308_5 := Aside0.mk (show Kd.V (Kd.int .i64) 3 _ w.heap.size _ _ ((rd_T41 t293 x11_4).f5) from Kd.V_mk ul308_5 ge308_5)
                  clear hva_ hvn_ hvc_ ge308_5 ul308_5
                  clear hcc308 hce308
                  have HR308_3 := Aside0.mk hi308_3
                  have HC308_3 := Aside0.mk hl308_3
                  clear hi308_3 hl308_3
                  have HR308_5 := Aside0.mk hi308_5
                  have HC308_5 := Aside0.mk hl308_5
                  clear hi308_5 hl308_5
                  replace p308 := eq_true p308
                  replace q308 := eq_true q308
                  go_wp2
                  repeat (go_quiet (fail); try go_wp2)
                  go_roundg k4
                  case measure => have := HJ5.out; have := HK2.out; have := HK3.out; have := HK4.out; omega
                  case rel => exact ⟨(wrap64 (x11_4 + 1)), (by first | rfl | (simp; done) | (simp [*]; done)), H', ⟨by have := HJ5.out; have := HK2.out; have := HK3.out; have := HK4.out; omega⟩, ⟨by (with_reducible repeat (first | apply Kd.V_alloc | apply Kd.V_drewN | apply Kd.V_drew)); exact HO_5.out⟩, ⟨by repeat (first | (with_reducible first | exact HB.out | apply below_alloc | apply pw_below_drewN | apply below_drew1) | exact HB.out)⟩⟩
                ·rw [if_neg c43] at H
                 exact absurd H (by simp)
               ·rw [if_neg c42] at H
                exact absurd H (by simp)
              ·rw [if_neg c41] at H
               exact absurd H (by simp)
             ·rw [if_neg c39] at H
              have c39b0 : decide (x11_4 < (t293.length : Int)) = false := decide_eq_false c39
              clear c39
              obtain rfl := Option.some.inj H
              obtain ⟨Ao47, co47, eo47⟩ := Kd.V_slice HO_5.out
              subst eo47
              go_wp2
              repeat (go_quiet (fail); try go_wp2)
              all_goals go_ret
              all_goals exact ⟨by first | rfl | (simp [errW_none, errW_some] <;> rfl) | (simp [*, errW_none, errW_some] <;> rfl), by repeat (first | (with_reducible first | exact HB.out | apply below_alloc | apply pw_below_drewN | apply below_drew1) | exact HB.out)⟩

end Go.Proofs.Ythlnbbehcpdnfaa.G

namespace Go.Proofs.Ythlnbbehcpdnfaa.Rd
open Go.RowKit Go.Proofs.YthlnbbehcpdnfaaW.PrintWords
set_option linter.unusedVariables false
section
variable {H : Type} {enc : TypeId × Value → H} {P : Program} {w : World} {base : Nat} {spare : Nat → Bool} {held : Bool}
/-- What a reading of type t gives: a value of the kind, and what is known of it. -/
def Opens (enc : TypeId × Value → H) (P : Program) (w : World) (base : Nat) (spare : Nat → Bool) (held : Bool) {α : Type} (t : TypeId) (d : Kd α) (ok : α → Prop) : Prop :=
  P.cellsOf t = d.sz ∧ ∀ fuel cs x, DataW.trod enc P w base spare held fuel t cs = some x → ∃ v, d.K w v cs ∧ ok v
theorem Opens.imp_ {α : Type} {t : TypeId} {d : Kd α} {ok ok' : α → Prop} (h : Opens enc P w base spare held t d ok) (hi : ∀ v, ok v → ok' v) : Opens enc P w base spare held t d ok' :=
  ⟨h.1, fun fuel cs x hx => by
    obtain ⟨v, hk, ho⟩ := h.2 fuel cs x hx
    exact ⟨v, hk, hi v ho⟩⟩
theorem opens_int {t : TypeId} {k : IntKind} (ht : P.underlying t = some (.int k)) (hc : P.cellsOf t = 1) : Opens enc P w base spare held t (Kd.int k) (fun n => (Lit.int k n).wf = true) := by
  refine ⟨hc, fun fuel cs x h => ?_⟩
  obtain ⟨n, rfl, _, hw⟩ := DataW.trod_int ht h
  exact ⟨n, rfl, hw⟩
theorem cells_len {base : Nat} {a : Addr} {n : Nat} {cs : List Value} (h : w.cells? base a n = some cs) : cs.length = n ∧ ∀ i u, cs[i]? = some u → w.cell? (a.add i) = some u := by
  unfold World.cells? at h
  split at h
  · rename_i hb
    refine ⟨by simpa using mapM_some_length h, fun i u hu => ?_⟩
    have hi : i < n := by
      have := (List.getElem?_eq_some_iff.1 hu).1
      have h2 : cs.length = n := by simpa using mapM_some_length h
      omega
    have := mapM_some_get h i i (by simp [hi])
    rw [hu] at this
    exact this
  · simp at h
theorem opens_row {α : Type} {t e : TypeId} {d : Kd α} {ok : α → Prop} (ht : P.underlying t = some (.slice e)) (hd : Opens enc P w base spare held e d ok) {fuel : Nat} {cs : List Value} {x : DataW H × List MemPlace}
    (h : DataW.trod enc P w base spare held fuel t cs = some x) : ∃ (A : Option Addr) (c : Nat) (xs : List α), cs = [.slice A xs.length c] ∧ xs.length ≤ c ∧ c ≤ maxLen ∧ d.C w A xs.length xs ∧ ∀ y ∈ xs, ok y := by
  rcases Go.Deep.open_slice ht h with ⟨rfl, _⟩ | ⟨a, len, cap, m, n, D, Pl, rfl, hb, hl, hm, hmm, _, hel⟩
  · exact ⟨none, 0, [], rfl, Nat.le_refl _, by unfold maxLen; omega, ⟨rfl, by simp, fun h0 => absurd h0 (by simp)⟩, by simp⟩
  have hlm : len ≤ m := by rw [hmm]; split <;> omega
  have hx : ∀ i, i < len → ∃ y : α, ok y ∧ ∃ c, c.length = d.sz ∧ d.K w y c ∧ ∀ j u, c[j]? = some u → w.cell? (a.add (i * d.sz + j)) = some u := by
    intro i hi
    obtain ⟨cs', h1, h2⟩ := hel i (by omega)
    obtain ⟨y, hk, ho⟩ := hd.2 _ _ _ h2
    obtain ⟨hl', hc'⟩ := cells_len h1
    refine ⟨y, ho, cs', by rw [hl', hd.1], hk, fun j u hu => ?_⟩
    have := hc' j u hu
    rw [Go.Deep.add_add, hd.1] at this
    exact this
  rcases Nat.eq_zero_or_pos len with h0 | h0
  · subst h0
    exact ⟨some a, cap, [], rfl, Nat.zero_le _, hm, ⟨rfl, by simp, fun h1 => absurd h1 (by simp)⟩, by simp⟩
  obtain ⟨y0, _⟩ := hx 0 h0
  haveI : Inhabited α := ⟨y0⟩
  obtain ⟨g, hg⟩ := Go.Deep.choose_lt hx
  have hlen : ((List.range len).map g).length = len := by simp
  refine ⟨some a, cap, (List.range len).map g, by rw [hlen], by rw [hlen]; exact hl, hm, ⟨rfl, by rw [hlen]; unfold maxLen at hm; omega, fun _ => ⟨a, rfl, fun j p hj => ?_⟩⟩, fun y hy => ?_⟩
  · have hj' : j < len := by
      have := (List.getElem?_eq_some_iff.1 hj).1
      omega
    rw [List.getElem?_map, List.getElem?_range hj'] at hj
    simp at hj
    subst hj
    obtain ⟨_, c, hc1, hc2, hc3⟩ := hg j hj'
    exact ⟨c, hc1, hc2, hc3⟩
  · obtain ⟨i, hi, rfl⟩ := List.mem_map.1 hy
    exact (hg i (List.mem_range.1 hi)).1
end
end Go.Proofs.Ythlnbbehcpdnfaa.Rd

namespace Go.Proofs.Ythlnbbehcpdnfaa.OFnMergeOrder
open Go.RowKit Go.Proofs.YthlnbbehcpdnfaaW.PrintWords Go.Proofs.Ythlnbbehcpdnfaa.G
set_option linter.unusedVariables false
def Pure : Prop := ∀ (l0 : List Int), l0.length ≤ maxLen → (∀ y ∈ l0, (Lit.int .u8 y).wf = true) → ∃ k, laws_FnMergeOrder.f k l0 = some true
end Go.Proofs.Ythlnbbehcpdnfaa.OFnMergeOrder

namespace Go.Proofs.Ythlnbbehcpdnfaa.Pu
open Go.RowKit Go.Proofs.YthlnbbehcpdnfaaW.PrintWords Go.Proofs.YthlnbbehcpdnfaaW.PrintLast
set_option linter.unusedVariables false
set_option linter.unusedSimpArgs false
theorem w64 {a : Int} (h0 : -9223372036854775808 ≤ a) (h1 : a ≤ 9223372036854775807) : wrap64 a = a := by unfold wrap64; omega
/-- (Not by 'rfl': a large number in a test behind it would be counted up by the kernel.) -/
theorem bindS {α β : Type} (x : α) (f : α → Option β) : (some x).bind f = f x := Eq.trans (Option.bind_some x f) (Eq.refl _)
/-- It ends, in something of which P holds. -/
def EndsIn {α : Type} (g : Nat → Option α) (P : α → Prop) : Prop := ∃ r, Ev g r ∧ P r
theorem EndsIn.bind {α β : Type} {g : Nat → Option α} {f : Nat → α → Option β} {P : α → Prop} {Q : β → Prop} (h : EndsIn g P) (k : ∀ a, P a → EndsIn (fun n => f n a) Q) : EndsIn (fun n => (g n).bind (f n)) Q := by
  obtain ⟨a, ha, hp⟩ := h
  obtain ⟨b, hb, hq⟩ := k a hp
  exact ⟨b, Ev.bind ha hb, hq⟩
theorem EndsIn.step {α : Type} {g f : Nat → Option α} {P : α → Prop} (h : ∀ k, g (k + 1) = f k) (k : EndsIn f P) : EndsIn g P := by
  obtain ⟨a, ha, hp⟩ := k
  exact ⟨a, Ev.step h ha, hp⟩
theorem EndsIn.now {α : Type} {P : α → Prop} (r : α) (hp : P r) : EndsIn (fun _ => some r) P := ⟨r, Ev.now r, hp⟩
theorem EndsIn.mono {α : Type} {g : Nat → Option α} {P Q : α → Prop} (h : EndsIn g P) (k : ∀ a, P a → Q a) : EndsIn g Q := by
  obtain ⟨a, ha, hp⟩ := h
  exact ⟨a, ha, k a hp⟩
theorem EndsIn.ev {α : Type} {g : Nat → Option α} {r : α} (h : EndsIn g (fun x => x = r)) : Ev g r := by
  obtain ⟨a, ha, rfl⟩ := h
  exact ha
theorem EndsIn.rounds {α : Type} {g : Nat → Option α} {r : α} (h : EndsIn g (fun x => x = r)) : ∃ k, g k = some r := h.ev.rounds
theorem u8_range {x : Int} (h : (Lit.int .u8 x).wf = true) : 0 ≤ x ∧ x ≤ 255 := by
  simp only [Lit.wf, Bool.and_eq_true, decide_eq_true_eq] at h
  exact ⟨h.1, h.2⟩
end Go.Proofs.Ythlnbbehcpdnfaa.Pu

namespace Go.Proofs.Ythlnbbehcpdnfaa.Pu
open Go.RowKit Go.Proofs.YthlnbbehcpdnfaaW.PrintWords Go.Proofs.YthlnbbehcpdnfaaW.PrintLast Go.Proofs.Ythlnbbehcpdnfaa.G
set_option linter.unusedVariables false
set_option linter.unusedSimpArgs false
/-- A loop that asks each element, and stops at the first that says no. -/
theorem ev_all {α : Type} (l : List α) (hl : l.length ≤ 9223372036854775807) (L : Nat → Int → Option Bool) (F : Nat → Nat → Option Bool) (p : α → Bool) (last : Bool)
    (hend : ∀ k, L (k + 1) (l.length : Int) = some last)
    (hstep : ∀ k (i : Nat), i < l.length → L (k + 1) (i : Int) = (F k i).bind fun t => if t = true then L k (wrap64 ((i : Int) + 1)) else some false)
    (hF : ∀ i (h : i < l.length), Ev (fun k => F k i) (p l[i])) : ∀ d i, l.length - i = d → i ≤ l.length → Ev (fun k => L k (i : Int)) ((l.drop i).all p && last) := by
  intro d
  induction d with
  | zero =>
    intro i hi hle
    obtain rfl : i = l.length := by omega
    refine Ev.step (fun k => hend k) ?_
    rw [List.drop_length]
    exact Ev.now _
  | succ d ih =>
    intro i hi hle
    have hlt : i < l.length := by omega
    refine Ev.step (fun k => hstep k i hlt) ?_
    refine Ev.bind (hF i hlt) ?_
    rw [List.drop_eq_getElem_cons hlt, List.all_cons]
    cases hp : p l[i]
    · exact Ev.now _
    · simp only [if_true, Bool.true_and, w64 (a := (i : Int) + 1) (by omega) (by omega)]
      exact ih (i + 1) (by omega) (by omega)
theorem rdi_nat (l : List Int) (i : Nat) (h : i < l.length) : rd l (i : Int) = l[i] := by
  unfold rd
  simp [h]
theorem within_ev (a b c : Int) : impl_within.f a b c = some (decide (b ≤ a) && decide (a ≤ c)) := by
  unfold impl_within.f
  by_cases h : a ≥ b
  · rw [if_pos h, show decide (b ≤ a) = true from decide_eq_true h]; rfl
  · rw [if_neg h, show decide (b ≤ a) = false from decide_eq_false h]; rfl
theorem in_ev (a b c : Int) : spec_l6In.f a b c = some (decide (b ≤ a) && decide (a ≤ c)) := by
  unfold spec_l6In.f
  by_cases h : a ≥ b
  · rw [if_pos h, show decide (b ≤ a) = true from decide_eq_true h]; rfl
  · rw [if_neg h, show decide (b ≤ a) = false from decide_eq_false h]; rfl
def isB (x : Int) : Bool := decide (0 ≤ x) && decide (x ≤ 255)
theorem isByte_ev (x : Int) : impl_isByte.f x = some (isB x) := by
  unfold impl_isByte.f isB
  by_cases h : x ≥ 0
  · rw [if_pos h, show decide (0 ≤ x) = true from decide_eq_true h]; rfl
  · rw [if_neg h, show decide (0 ≤ x) = false from decide_eq_false h]; rfl
theorem allBytes_ev (l : List Int) (hl : l.length ≤ 9223372036854775807) : Ev (fun k => impl_allBytes.f k l) (l.all isB) := by
  unfold impl_allBytes.f
  have := ev_all l hl (fun k i => impl_allBytes.l0 k l (l.length : Int) i) (fun k i => some (isB (rd l (i : Int)))) isB true
    (fun k => by simp only [impl_allBytes.l0]; rw [if_neg (by omega)])
    (fun k i h => by simp only [impl_allBytes.l0]; rw [if_pos (by omega), if_pos (by omega), if_pos (by omega), isByte_ev])
    (fun i h => by rw [rdi_nat l i h]; exact Ev.now _) l.length 0 (by omega) (by omega)
  simpa using this
theorem l1Ok_ev (l : List Int) (hl : l.length ≤ 9223372036854775807) : Ev (fun k => spec_l1Ok.f k l) (l.all isB) := by
  unfold spec_l1Ok.f
  have := ev_all l hl (fun k i => spec_l1Ok.l0 k l i) (fun k i => some (isB (rd l (i : Int)))) isB true
    (fun k => by simp only [spec_l1Ok.l0]; rw [if_neg (by omega)])
    (fun k i h => by simp only [spec_l1Ok.l0]; rw [if_pos (by omega), if_pos (by omega), in_ev]; rfl)
    (fun i h => by rw [rdi_nat l i h]; exact Ev.now _) l.length 0 (by omega) (by omega)
  simpa using this
def partOk (has : Bool) (l : List Int) : Bool := if has = true then decide (l.length ≤ 12) && l.all isB else decide (l.length = 0)
theorem partValid_ev (has : Bool) (l : List Int) (hl : l.length ≤ 9223372036854775807) : Ev (fun k => impl_partValid.f k has l) (partOk has l) := by
  unfold impl_partValid.f partOk
  cases has
  · simp only [Bool.false_eq_true, if_false]
    rw [show ((l.length : Int) == 0) = decide (l.length = 0) from by rw [Bool.eq_iff_iff]; simp]
    exact Ev.now _
  · simp only [if_true]
    by_cases h : (l.length : Int) ≤ 12
    · simp only [if_pos h]
      rw [show decide (l.length ≤ 12) = true from decide_eq_true (by omega), Bool.true_and]
      exact Ev.bind (allBytes_ev l hl) (Ev.now _)
    · simp only [if_neg h]
      rw [show decide (l.length ≤ 12) = false from decide_eq_false (by omega)]
      exact Ev.now _
theorem l3Part_ev (has : Bool) (l : List Int) (hl : l.length ≤ 9223372036854775807) : Ev (fun k => spec_l3Part.f k has l) (partOk has l) := by
  unfold spec_l3Part.f partOk
  cases has
  · simp only [Bool.false_eq_true, if_false]
    by_cases h : (l.length : Int) = 0
    · simp only [if_pos h]
      obtain rfl : l = [] := List.length_eq_zero_iff.1 (by omega)
      refine Ev.bind (l1Ok_ev [] (by simp)) ?_
      exact Ev.now _
    · simp only [if_neg h]
      rw [show decide (l.length = 0) = false from decide_eq_false (by omega)]
      exact Ev.now _
  · simp only [if_true]
    refine Ev.bind (l1Ok_ev l hl) ?_
    rw [show decide ((l.length : Int) ≤ 12) = decide (l.length ≤ 12) from decide_eq_decide.2 (by omega)]
    cases l.all isB
    · simp only [Bool.false_eq_true, if_false, Bool.and_false]
      exact Ev.now _
    · simp only [if_true, Bool.and_true]
      exact Ev.now _
def rng (x : Int) : Bool := decide (0 ≤ x) && decide (x ≤ 99999)
def recOk (r : S41) : Bool := (rng r.f0 && rng r.f1) && (partOk r.f2 r.f3 && partOk r.f4 r.f5)
/-- Lengths that can be told. -/
def Lens (r : S41) : Prop := r.f3.length ≤ 9223372036854775807 ∧ r.f5.length ≤ 9223372036854775807
theorem RecordValid_ev (r : S41) (hr : Lens r) : Ev (fun k => impl_RecordValid.f k r.f0 r.f1 r.f2 r.f3 r.f4 r.f5) (recOk r) := by
  unfold impl_RecordValid.f recOk impl_baseValid.f
  simp only [within_ev, Option.bind_some]
  change Ev (fun k => ((if rng r.f0 = true then some (rng r.f1) else some false)).bind _) _
  cases rng r.f0
  · simp only [Bool.false_eq_true, if_false, Option.bind_some, Bool.false_and]
    exact Ev.now _
  · cases rng r.f1
    · simp only [if_true, Option.bind_some, Bool.false_eq_true, if_false, Bool.true_and, Bool.false_and]
      exact Ev.now _
    · simp only [if_true, Option.bind_some, Bool.true_and]
      refine Ev.bind (partValid_ev _ _ hr.1) ?_
      cases partOk r.f2 r.f3
      · exact Ev.now _
      · simp only [if_true, Bool.true_and]
        exact Ev.bind (partValid_ev _ _ hr.2) (Ev.now _)
theorem sRecordValid_ev (r : S41) (hr : Lens r) : Ev (fun k => spec_RecordValid.f k r.f0 r.f1 r.f2 r.f3 r.f4 r.f5) (recOk r) := by
  unfold spec_RecordValid.f recOk
  simp only [in_ev, Option.bind_some]
  change Ev (fun k => if rng r.f0 = true then (if rng r.f1 = true then _ else some false) else some false) _
  cases rng r.f0
  · simp only [Bool.false_eq_true, if_false, Bool.false_and]
    exact Ev.now _
  · cases rng r.f1
    · simp only [if_true, Bool.false_eq_true, if_false, Bool.true_and, Bool.false_and]
      exact Ev.now _
    · simp only [if_true, Bool.true_and]
      refine Ev.bind (l3Part_ev _ _ hr.1) ?_
      cases partOk r.f2 r.f3
      · exact Ev.now _
      · simp only [if_true, Bool.true_and]
        exact Ev.bind (l3Part_ev _ _ hr.2) (Ev.now _)
theorem rdR_nat (l : List S41) (i : Nat) (h : i < l.length) : rd_T41 l (i : Int) = l[i] := by
  unfold rd_T41
  simp [h]
theorem recOk_len {r : S41} (h : recOk r = true) : r.f3.length ≤ 12 ∧ r.f5.length ≤ 12 := by
  unfold recOk partOk at h
  simp only [Bool.and_eq_true] at h
  obtain ⟨_, h1, h2⟩ := h
  constructor
  · cases h3 : r.f2 <;> rw [h3] at h1 <;> simp at h1
    · simp [h1]
    · omega
  · cases h3 : r.f4 <;> rw [h3] at h2 <;> simp at h2
    · simp [h2]
    · omega
end Go.Proofs.Ythlnbbehcpdnfaa.Pu

namespace Go.Proofs.Ythlnbbehcpdnfaa.Pu
open Go.RowKit Go.Proofs.YthlnbbehcpdnfaaW.PrintWords Go.Proofs.YthlnbbehcpdnfaaW.PrintLast Go.Proofs.Ythlnbbehcpdnfaa.G
set_option linter.unusedVariables false
set_option linter.unusedSimpArgs false
def rowOk (l : List S41) : Bool := l.all recOk && decide (l.length ≤ 30)
theorem rowValid_ev (l : List S41) (hl : l.length ≤ 9223372036854775807) (hr : ∀ r ∈ l, Lens r) : Ev (fun k => impl_rowValid.f k l) (rowOk l) := by
  unfold impl_rowValid.f rowOk
  by_cases h : (l.length : Int) > 30
  · simp only [if_pos h]
    rw [show decide (l.length ≤ 30) = false from decide_eq_false (by omega), Bool.and_false]
    exact Ev.now _
  · simp only [if_neg h]
    rw [show decide (l.length ≤ 30) = true from decide_eq_true (by omega)]
    have := ev_all l hl (fun k i => impl_rowValid.l0 k l (l.length : Int) i) (fun k i => impl_RecordValid.f k (rd_T41 l i).f0 (rd_T41 l i).f1 (rd_T41 l i).f2 (rd_T41 l i).f3 (rd_T41 l i).f4 (rd_T41 l i).f5) recOk true
      (fun k => by simp only [impl_rowValid.l0]; rw [if_neg (by omega)])
      (fun k i h => by simp only [impl_rowValid.l0]; rw [if_pos (by omega), if_pos (by omega), if_pos (by omega)])
      (fun i h => by rw [rdR_nat l i h]; exact RecordValid_ev _ (hr _ (List.getElem_mem _))) l.length 0 (by omega) (by omega)
    simpa using this
theorem l42Rows_ev (l : List S41) (hl : l.length ≤ 9223372036854775807) (hr : ∀ r ∈ l, Lens r) : Ev (fun k => spec_l42Rows.f k l) (rowOk l) := by
  unfold spec_l42Rows.f rowOk
  have := ev_all l hl (fun k i => spec_l42Rows.l0 k l i) (fun k i => spec_RecordValid.f k (rd_T41 l i).f0 (rd_T41 l i).f1 (rd_T41 l i).f2 (rd_T41 l i).f3 (rd_T41 l i).f4 (rd_T41 l i).f5) recOk (decide (l.length ≤ 30))
      (fun k => by simp only [spec_l42Rows.l0]; rw [if_neg (by omega)]; congr 1; exact decide_eq_decide.2 (by omega))
      (fun k i h => by simp only [spec_l42Rows.l0]; rw [if_pos (by omega), if_pos (by omega)])
      (fun i h => by rw [rdR_nat l i h]; exact sRecordValid_ev _ (hr _ (List.getElem_mem _))) l.length 0 (by omega) (by omega)
  simpa using this
def sameB (a b : S41) : Bool := decide (a.f0 = b.f0) && (decide (a.f1 = b.f1) && ((a.f2 == b.f2) && ((a.f4 == b.f4) && (decide (a.f3 = b.f3) && decide (a.f5 = b.f5)))))
theorem sameB_iff (a b : S41) : sameB a b = true ↔ a = b := by
  unfold sameB
  simp only [Bool.and_eq_true, decide_eq_true_eq, beq_iff_eq]
  constructor
  · rintro ⟨h0, h1, h2, h4, h3, h5⟩
    cases a; cases b
    simp only at h0 h1 h2 h3 h4 h5
    subst h0 h1 h2 h3 h4 h5
    rfl
  · rintro rfl
    exact ⟨rfl, rfl, rfl, rfl, rfl, rfl⟩
end Go.Proofs.Ythlnbbehcpdnfaa.Pu

namespace Go.Proofs.Ythlnbbehcpdnfaa.Pu
open Go.RowKit Go.Proofs.YthlnbbehcpdnfaaW.PrintWords Go.Proofs.YthlnbbehcpdnfaaW.PrintLast Go.Proofs.Ythlnbbehcpdnfaa.G
set_option linter.unusedVariables false
set_option linter.unusedSimpArgs false
/-- Digits of base 16. -/
def hx (n : Nat) : UInt8 := if n < 10 then UInt8.ofNat (48 + n) else UInt8.ofNat (87 + n)
end Go.Proofs.Ythlnbbehcpdnfaa.Pu

namespace Go.Proofs.Ythlnbbehcpdnfaa.Pu
open Go.RowKit Go.Proofs.YthlnbbehcpdnfaaW.PrintWords Go.Proofs.YthlnbbehcpdnfaaW.PrintLast Go.Proofs.YthlnbbehcpdnfaaW.PrintMore Go.Proofs.Ythlnbbehcpdnfaa.G
set_option linter.unusedVariables false
set_option linter.unusedSimpArgs false
/-- Rows that can be told. -/
def RowL (l : List S41) : Prop := l.length ≤ 9223372036854775807 ∧ ∀ r ∈ l, Lens r
theorem rowOk_all {l : List S41} (h : rowOk l = true) : (∀ r ∈ l, recOk r = true) ∧ l.length ≤ 30 := by
  unfold rowOk at h
  simp only [Bool.and_eq_true, decide_eq_true_eq, List.all_eq_true] at h
  exact h
end Go.Proofs.Ythlnbbehcpdnfaa.Pu

namespace Go.Proofs.Ythlnbbehcpdnfaa.Pu
open Go.RowKit Go.Proofs.YthlnbbehcpdnfaaW.PrintWords Go.Proofs.YthlnbbehcpdnfaaW.PrintLast Go.Proofs.Ythlnbbehcpdnfaa.G
set_option linter.unusedVariables false
set_option linter.unusedSimpArgs false
theorem xor_i64 (a b : Int) (h0 : 0 ≤ a) (h1 : a < 4611686018427387904) (k0 : 0 ≤ b) (k1 : b < 4611686018427387904) : 0 ≤ bits .xor .i64 a b := by
  obtain ⟨a, rfl⟩ := Int.eq_ofNat_of_zero_le h0
  obtain ⟨b, rfl⟩ := Int.eq_ofNat_of_zero_le k0
  have ha : a < 2 ^ 62 := by omega
  have hb : b < 2 ^ 62 := by omega
  have hx := Nat.xor_lt_two_pow ha hb
  have ha' : a % 2 ^ 64 = a := Nat.mod_eq_of_lt (by omega)
  have hb' : b % 2 ^ 64 = b := Nat.mod_eq_of_lt (by omega)
  show 0 ≤ IntKind.i64.wrap ((BitVec.ofInt 64 (a : Int) ^^^ BitVec.ofInt 64 (b : Int)).toNat : Int)
  rw [BitVec.ofInt_natCast, BitVec.ofInt_natCast, BitVec.toNat_xor, BitVec.toNat_ofNat, BitVec.toNat_ofNat, ha', hb', IntKind.wrap_i64]
  omega
theorem rd_range {b : List Int} (hb : ∀ x ∈ b, 0 ≤ x ∧ x ≤ 255) (i : Int) : 0 ≤ rd b i ∧ rd b i ≤ 255 := by
  unfold rd
  rw [List.getD_eq_getElem?_getD]
  rcases h : b[i.toNat]? with _ | x
  · simp
  · exact hb x (List.mem_of_getElem? h)
theorem mod_range {x n : Int} (h0 : 0 ≤ x) (h1 : 1 ≤ n) : 0 ≤ Int.tmod x n ∧ Int.tmod x n < n := by
  rw [Int.tmod_eq_emod_of_nonneg h0]
  exact ⟨Int.emod_nonneg _ (by omega), Int.emod_lt_of_pos _ (by omega)⟩
/-- A code that is read: bytes, and a place that is no great number. -/
def CodeOk (b : List Int) : Prop := b.length ≤ 2000 ∧ ∀ x ∈ b, 0 ≤ x ∧ x ≤ 255
theorem pick_ends {b : List Int} (hb : CodeOk b) (p n : Int) (h0 : 0 ≤ p) (h1 : p ≤ 1000000000) (hn : n ≤ 4611686018427387904) :
    EndsIn (fun k => spec_l6Rd_pick.f k b p n) (fun r => r.2 = p + 1 ∧ 0 ≤ r.1 ∧ (1 ≤ n → r.1 < n) ∧ (n < 1 → r.1 = 0)) := by
  obtain ⟨hl, hr⟩ := hb
  unfold spec_l6Rd_pick.f
  rw [w64 (a := p + 1) (by omega) (by omega)]
  by_cases hn1 : n < 1
  · simp only [if_pos hn1]
    refine EndsIn.step (fun k => by rw [spec_l6Rd_pick.j0]) ?_
    simp only [if_true]
    exact EndsIn.now _ ⟨rfl, by omega, by omega, fun _ => rfl⟩
  · simp only [if_neg hn1]
    refine EndsIn.step (fun k => by rw [spec_l6Rd_pick.j0]) ?_
    rw [show p + 1 - 1 = p by omega, w64 (a := p) (by omega) (by omega)]
    by_cases hz : (b.length : Int) = 0
    · have : ((b.length : Int) == 0) = true := by simpa using hz
      simp only [this, if_true]
      exact EndsIn.now _ ⟨rfl, by omega, by omega, fun h => by omega⟩
    · have hz' : ((b.length : Int) == 0) = false := by simpa using hz
      simp only [hz', Bool.false_eq_true, if_false]
      by_cases hp : p < (b.length : Int)
      · have hx := rd_range hr p
        simp only [if_pos hp, if_pos h0, if_neg (show ¬ n = 0 by omega)]
        rw [w64 (a := rd b p) (by omega) (by omega)]
        have hm := mod_range (x := rd b p) (n := n) hx.1 (by omega)
        exact EndsIn.now _ ⟨rfl, hm.1, fun _ => hm.2, fun h => by omega⟩
      · have hm1 := mod_range (x := p) (n := (b.length : Int)) h0 (by omega)
        have h7 : wrap64 (wrap64 (p * 7) + 3) = p * 7 + 3 := by
          rw [w64 (a := p * 7) (by omega) (by omega), w64 (by omega) (by omega)]
        have hm2 := mod_range (x := p * 7 + 3) (n := (b.length : Int)) (by omega) (by omega)
        simp only [if_neg hp, if_neg hz, h7, if_pos hm1.1, if_pos hm1.2, if_pos hm2.1, if_pos hm2.2, if_neg (show ¬ n = 0 by omega)]
        have hx1 := rd_range hr (Int.tmod p b.length)
        have hx2 := rd_range hr (Int.tmod (p * 7 + 3) b.length)
        generalize rd b (Int.tmod p b.length) = x1 at hx1 ⊢
        generalize rd b (Int.tmod (p * 7 + 3) b.length) = x2 at hx2 ⊢
        have hd : 0 ≤ Int.tdiv p (b.length : Int) ∧ Int.tdiv p (b.length : Int) ≤ p := by
          rw [Int.tdiv_eq_ediv_of_nonneg h0]
          exact ⟨Int.ediv_nonneg h0 (by omega), Int.ediv_le_self _ h0⟩
        generalize Int.tdiv p (b.length : Int) = q at hd ⊢
        have e1 : wrap64 x1 = x1 := w64 (by omega) (by omega)
        have e2 : wrap64 x2 = x2 := w64 (by omega) (by omega)
        have e3 : wrap64 (x1 * 131) = x1 * 131 := w64 (by omega) (by omega)
        have e4 : wrap64 (x2 * 1117) = x2 * 1117 := w64 (by omega) (by omega)
        have e5 : wrap64 (x1 * 131 + x2 * 1117) = x1 * 131 + x2 * 1117 := w64 (by omega) (by omega)
        have e6 : wrap64 (p * 29) = p * 29 := w64 (by omega) (by omega)
        have e7 : wrap64 (x1 * 131 + x2 * 1117 + p * 29) = x1 * 131 + x2 * 1117 + p * 29 := w64 (by omega) (by omega)
        have e8 : wrap64 q = q := w64 (by omega) (by omega)
        have e9 : wrap64 (q * 53) = q * 53 := w64 (by omega) (by omega)
        have e10 : wrap64 (x1 * 131 + x2 * 1117 + p * 29 + q * 53) = x1 * 131 + x2 * 1117 + p * 29 + q * 53 := w64 (by omega) (by omega)
        simp only [e1, e2, e3, e4, e5, e6, e7, e8, e9, e10]
        have hX : 0 ≤ x1 * 131 + x2 * 1117 + p * 29 + q * 53 ∧ x1 * 131 + x2 * 1117 + p * 29 + q * 53 < 4611686018427387904 := ⟨by omega, by omega⟩
        generalize x1 * 131 + x2 * 1117 + p * 29 + q * 53 = X at hX ⊢
        have e11 : wrap64 (Int.tdiv X 64) = X / 64 := by
          rw [Int.tdiv_eq_ediv_of_nonneg hX.1]
          exact w64 (by omega) (by omega)
        rw [e11]
        have hxx := xor_i64 X (X / 64) hX.1 hX.2 (by omega) (by omega)
        have hm := mod_range (n := n) hxx (by omega)
        exact EndsIn.now _ ⟨rfl, hm.1, fun _ => hm.2, fun h => by omega⟩
end Go.Proofs.Ythlnbbehcpdnfaa.Pu

namespace Go.Proofs.Ythlnbbehcpdnfaa.Pu
open Go.RowKit Go.Proofs.YthlnbbehcpdnfaaW.PrintWords Go.Proofs.YthlnbbehcpdnfaaW.PrintLast Go.Proofs.YthlnbbehcpdnfaaW.PrintMore Go.Proofs.Ythlnbbehcpdnfaa.G
set_option linter.unusedVariables false
set_option linter.unusedSimpArgs false
def RecD (r : S41) : Prop := r.f3.length ≤ 1 ∧ r.f5.length = 0 ∧ 0 ≤ r.f0 ∧ r.f0 ≤ 16 ∧ -1 ≤ r.f1 ∧ r.f1 ≤ 1000
def DrR (l : List S41) : Prop := l.length ≤ 16 ∧ ∀ r ∈ l, RecD r
theorem DrR.rowL {l : List S41} (h : DrR l) : RowL l := ⟨by have := h.1; omega, fun r hr => by have := h.2 r hr; unfold RecD at this; exact ⟨by omega, by omega⟩⟩
theorem rdR_mem (l : List S41) (i : Int) (h0 : 0 ≤ i) (h1 : i < (l.length : Int)) : rd_T41 l i ∈ l := by
  unfold rd_T41
  rw [List.getD_eq_getElem?_getD, List.getElem?_eq_getElem (by omega)]
  exact List.getElem_mem _
theorem drawRow_loop {b : List Int} (hb : CodeOk b) (n : Int) (hn : n ≤ 16) : ∀ d (i : Nat) (l : List S41) (t p : Int), 16 - i = d → l.length = i → i ≤ 16 → (∀ r ∈ l, RecD r) → 0 ≤ t → t ≤ 40 + 12 * (i : Int) → 0 ≤ p → p ≤ 100000000 + 2 * (i : Int) →
    EndsIn (fun k => spec_l92Row.l0 k l n t (i : Int) b p) (fun r => DrR r.1 ∧ p ≤ r.2 ∧ r.2 ≤ p + 2 * (16 - (i : Int)) + 2) := by
  have fin : ∀ (i : Nat) (l : List S41) (t p : Int), l.length = i → i ≤ 16 → (∀ r ∈ l, RecD r) → 0 ≤ p → p ≤ 100000000 + 2 * (i : Int) → ¬ (i : Int) < n →
    EndsIn (fun k => spec_l92Row.l0 k l n t (i : Int) b p) (fun r => DrR r.1 ∧ p ≤ r.2 ∧ r.2 ≤ p + 2 * (16 - (i : Int)) + 2) := by
    intro i l t p hl hi hr p0 p1 h
    refine EndsIn.step (fun k => by rw [spec_l92Row.l0]) ?_
    simp only [if_neg h]
    by_cases hz : n > 0
    · simp only [if_pos hz]
      refine EndsIn.bind (pick_ends hb p 24 p0 (by omega) (by omega)) fun q hq => ?_
      obtain ⟨q2, q3, q4, _⟩ := hq
      rw [q2]
      by_cases hq0 : q.1 = 0
      · simp only [if_pos hq0]
        refine EndsIn.bind (pick_ends hb (p + 1) n (by omega) (by omega) (by omega)) fun s hs => ?_
        obtain ⟨s2, s3, s4, _⟩ := hs
        have s5 := s4 (by omega)
        simp only [if_pos s3, if_pos (show s.1 < (l.length : Int) by omega)]
        refine EndsIn.now _ ⟨⟨by rw [List.length_set]; omega, fun r hx => ?_⟩, by omega, by omega⟩
        rcases List.mem_or_eq_of_mem_set hx with hx | rfl
        · exact hr r hx
        · have := hr _ (rdR_mem l s.1 s3 (by omega))
          exact ⟨this.1, this.2.1, this.2.2.1, this.2.2.2.1, by show (-1 : Int) ≤ -1; omega, by show (-1 : Int) ≤ 1000; omega⟩
      · simp only [if_neg hq0]
        exact EndsIn.now _ ⟨⟨by show l.length ≤ 16; omega, hr⟩, by omega, by omega⟩
    · simp only [if_neg hz]
      exact EndsIn.now _ ⟨⟨by show l.length ≤ 16; omega, hr⟩, by omega, by omega⟩
  intro d
  induction d with
  | zero =>
    intro i l t p hd hl hi hr t0 t1 p0 p1
    exact fin i l t p hl hi hr p0 p1 (by omega)
  | succ d ih =>
    intro i l t p hd hl hi hr t0 t1 p0 p1
    by_cases h : (i : Int) < n
    · refine EndsIn.step (fun k => by rw [spec_l92Row.l0]) ?_
      simp only [if_pos h]
      refine EndsIn.bind (pick_ends hb p 3 p0 (by omega) (by omega)) fun q hq => ?_
      obtain ⟨q2, q3, q4, _⟩ := hq
      simp only [if_pos (show l.length < 1759218604441 by omega)]
      rw [q2]
      refine EndsIn.bind (pick_ends hb (p + 1) 12 (by omega) (by omega) (by omega)) fun s hs => ?_
      obtain ⟨s2, s3, s4, _⟩ := hs
      have s5 := s4 (by omega)
      rw [s2, w64 (a := t + s.1) (by omega) (by omega), w64 (a := (i : Int) + 1) (by omega) (by omega)]
      refine (ih (i + 1) _ (t + s.1) (p + 1 + 1) (by omega) (by rw [List.length_append]; simp [hl]) (by omega) (fun r hx => ?_) (by omega) (by omega) (by omega) (by omega)).mono fun r hr => ⟨hr.1, by omega, by omega⟩
      rcases List.mem_append.1 hx with hx | hx
      · exact hr r hx
      · rw [List.mem_singleton] at hx
        subst hx
        exact ⟨by simp, by simp, by show (0 : Int) ≤ i; omega, by show (i : Int) ≤ 16; omega, by show (-1 : Int) ≤ t; omega, by show t ≤ 1000; omega⟩
    · exact fin i l t p hl hi hr p0 p1 h
theorem drawRow_ends {b : List Int} (hb : CodeOk b) (p : Int) (h0 : 0 ≤ p) (h1 : p ≤ 99999000) : EndsIn (fun k => spec_l92Row.f k b p) (fun r => DrR r.1 ∧ p ≤ r.2 ∧ r.2 ≤ p + 100) := by
  have st : ∀ (n q : Int), n ≤ 16 → p ≤ q → q ≤ p + 10 → EndsIn (fun k => spec_l92Row.j0 k [] n b q) (fun r => DrR r.1 ∧ p ≤ r.2 ∧ r.2 ≤ p + 100) := by
    intro n q hn hq0 hq1
    refine EndsIn.step (fun k => by rw [spec_l92Row.j0]) ?_
    refine EndsIn.bind (pick_ends hb q 40 (by omega) (by omega) (by omega)) fun t ht => ?_
    obtain ⟨t2, t3, t4, _⟩ := ht
    have t5 := t4 (by omega)
    rw [t2]
    have := drawRow_loop hb n hn 16 0 [] t.1 (q + 1) (by omega) (by simp) (by omega) (by simp) t3 (by omega) (by omega) (by omega)
    exact this.mono fun r hr => ⟨hr.1, by omega, by omega⟩
  unfold spec_l92Row.f
  simp only [bindS]
  refine EndsIn.bind (pick_ends hb p 5 h0 (by omega) (by omega)) fun q hq => ?_
  obtain ⟨q2, q3, q4, _⟩ := hq
  have q5 := q4 (by omega)
  rw [q2]
  refine EndsIn.bind (pick_ends hb (p + 1) 24 (by omega) (by omega) (by omega)) fun s hs => ?_
  obtain ⟨s2, s3, s4, _⟩ := hs
  rw [s2]
  by_cases hz : s.1 = 0
  · simp only [if_pos hz]
    refine EndsIn.bind (pick_ends hb (p + 1 + 1) 2 (by omega) (by omega) (by omega)) fun u hu => ?_
    obtain ⟨u2, u3, u4, _⟩ := hu
    have u5 := u4 (by omega)
    rw [u2, w64 (a := 15 + u.1) (by omega) (by omega)]
    exact st _ _ (by omega) (by omega) (by omega)
  · simp only [if_neg hz]
    exact st _ _ (by omega) (by omega) (by omega)
end Go.Proofs.Ythlnbbehcpdnfaa.Pu

namespace Go.Proofs.Ythlnbbehcpdnfaa.Pu
open Go.RowKit Go.Proofs.YthlnbbehcpdnfaaW.PrintWords Go.Proofs.YthlnbbehcpdnfaaW.PrintLast Go.Proofs.YthlnbbehcpdnfaaW.PrintMore Go.Proofs.Ythlnbbehcpdnfaa.G
set_option linter.unusedVariables false
set_option linter.unusedSimpArgs false
theorem sameInts_ev (a b : List Int) (ha : a.length ≤ 9223372036854775807) : Ev (fun k => laws_sameInts.f k a b) (decide (a = b)) := by
  unfold laws_sameInts.f
  by_cases h : (a.length : Int) = (b.length : Int)
  · have hl : a.length = b.length := by omega
    simp only [if_pos h]
    have key : ∀ d i, a.length - i = d → Ev (fun k => laws_sameInts.l0 k a b (i : Int)) (decide (a.drop i = b.drop i)) := by
      intro d
      induction d with
      | zero =>
        intro i hi
        refine Ev.step (fun k => by rw [laws_sameInts.l0]) ?_
        simp only [if_neg (show ¬ ((i : Int) < (a.length : Int)) by omega)]
        rw [List.drop_of_length_le (by omega), List.drop_of_length_le (by omega)]
        exact Ev.now _
      | succ d ih =>
        intro i hi
        have h1 : i < a.length := by omega
        have h2 : i < b.length := by omega
        refine Ev.step (fun k => by rw [laws_sameInts.l0]) ?_
        simp only [if_pos (show (i : Int) < (a.length : Int) by omega), if_pos (show (0 : Int) ≤ (i : Int) by omega), if_pos (show (i : Int) < (b.length : Int) by omega), rdi_nat a i h1, rdi_nat b i h2, w64 (a := (i : Int) + 1) (by omega) (by omega)]
        rw [List.drop_eq_getElem_cons h1, List.drop_eq_getElem_cons h2]
        by_cases he : a[i] = b[i]
        · simp only [if_pos he]
          rw [show decide (a[i] :: a.drop (i + 1) = b[i] :: b.drop (i + 1)) = decide (a.drop (i + 1) = b.drop (i + 1)) from decide_eq_decide.2 (by simp only [List.cons.injEq, he, true_and])]
          exact ih (i + 1) (by omega)
        · simp only [if_neg he]
          rw [show decide (a[i] :: a.drop (i + 1) = b[i] :: b.drop (i + 1)) = false from decide_eq_false (by simp only [List.cons.injEq, he, false_and, not_false_eq_true])]
          exact Ev.now _
    have := key a.length 0 (by omega)
    simpa using this
  · simp only [if_neg h]
    rw [show decide (a = b) = false from decide_eq_false (fun e => h (by rw [e]))]
    exact Ev.now _
theorem sameRecord_ev (a b : S41) (ha : Lens a) : Ev (fun k => laws_sameRecord.f k a.f0 a.f1 a.f2 a.f3 a.f4 a.f5 b.f0 b.f1 b.f2 b.f3 b.f4 b.f5) (sameB a b) := by
  unfold laws_sameRecord.f sameB
  by_cases h0 : a.f0 = b.f0
  · simp only [if_pos h0, decide_eq_true h0, Bool.true_and]
    by_cases h1 : a.f1 = b.f1
    · simp only [if_pos h1, decide_eq_true h1, Bool.true_and]
      cases h2 : (a.f2 == b.f2)
      · simp only [Bool.false_eq_true, if_false, Bool.false_and]
        exact Ev.now _
      · simp only [if_true, Bool.true_and]
        cases h4 : (a.f4 == b.f4)
        · simp only [Bool.false_eq_true, if_false, Bool.false_and]
          exact Ev.now _
        · simp only [if_true, Bool.true_and]
          refine Ev.bind (sameInts_ev _ _ ha.1) ?_
          cases decide (a.f3 = b.f3)
          · exact Ev.now _
          · simp only [if_true, Bool.true_and]
            exact Ev.bind (sameInts_ev _ _ ha.2) (Ev.now _)
    · simp only [if_neg h1, decide_eq_false h1, Bool.false_and]
      exact Ev.now _
  · simp only [if_neg h0, decide_eq_false h0, Bool.false_and]
    exact Ev.now _
instance decR : DecidableEq S41 := fun a b => if h : sameB a b = true then .isTrue ((sameB_iff a b).1 h) else .isFalse (fun e => h ((sameB_iff a b).2 e))
theorem sameRecords_ev (a b : List S41) (ha : RowL a) : Ev (fun k => laws_sameRecords.f k a b) (decide (a = b)) := by
  have ha0 := ha.1
  unfold laws_sameRecords.f
  by_cases h : (a.length : Int) = (b.length : Int)
  · have hl : a.length = b.length := by omega
    simp only [if_pos h]
    have key : ∀ d i, a.length - i = d → Ev (fun k => laws_sameRecords.l0 k a b (i : Int)) (decide (a.drop i = b.drop i)) := by
      intro d
      induction d with
      | zero =>
        intro i hi
        refine Ev.step (fun k => by rw [laws_sameRecords.l0]) ?_
        simp only [if_neg (show ¬ ((i : Int) < (a.length : Int)) by omega)]
        rw [List.drop_of_length_le (by omega), List.drop_of_length_le (by omega)]
        exact Ev.now _
      | succ d ih =>
        intro i hi
        have h1 : i < a.length := by omega
        have h2 : i < b.length := by omega
        refine Ev.step (fun k => by rw [laws_sameRecords.l0]) ?_
        simp only [if_pos (show (i : Int) < (a.length : Int) by omega), if_pos (show (0 : Int) ≤ (i : Int) by omega), if_pos (show (i : Int) < (b.length : Int) by omega), rdR_nat a i h1, rdR_nat b i h2, w64 (a := (i : Int) + 1) (by omega) (by omega)]
        refine Ev.bind (sameRecord_ev _ _ (ha.2 _ (List.getElem_mem _))) ?_
        rw [List.drop_eq_getElem_cons h1, List.drop_eq_getElem_cons h2]
        cases hs : sameB a[i] b[i]
        · have he : a[i] ≠ b[i] := fun e => by rw [(sameB_iff _ _).2 e] at hs; exact Bool.noConfusion hs
          simp only [Bool.false_eq_true, if_false]
          rw [show decide (a[i] :: a.drop (i + 1) = b[i] :: b.drop (i + 1)) = false from decide_eq_false (by simp only [List.cons.injEq, he, false_and, not_false_eq_true])]
          exact Ev.now _
        · have he := (sameB_iff _ _).1 hs
          simp only [if_true]
          rw [show decide (a[i] :: a.drop (i + 1) = b[i] :: b.drop (i + 1)) = decide (a.drop (i + 1) = b.drop (i + 1)) from decide_eq_decide.2 (by simp only [List.cons.injEq, he, true_and])]
          exact ih (i + 1) (by omega)
    have := key a.length 0 (by omega)
    simpa using this
  · simp only [if_neg h]
    rw [show decide (a = b) = false from decide_eq_false (fun e => h (by rw [e]))]
    exact Ev.now _
end Go.Proofs.Ythlnbbehcpdnfaa.Pu

namespace Go.Proofs.Ythlnbbehcpdnfaa.Pu
open Go.RowKit Go.Proofs.YthlnbbehcpdnfaaW.PrintWords Go.Proofs.YthlnbbehcpdnfaaW.PrintLast Go.Proofs.Ythlnbbehcpdnfaa.G
set_option linter.unusedVariables false
set_option linter.unusedSimpArgs false
theorem open_some (l0 : List Int) (hr : ∀ x ∈ l0, 0 ≤ x ∧ x ≤ 255) : ∃ b, spec_l6Open.f l0 = some (b, 0) ∧ CodeOk b := by
  unfold spec_l6Open.f
  by_cases h : (l0.length : Int) > 2000
  · rw [if_pos h, if_pos (by omega)]
    exact ⟨_, rfl, by rw [List.length_take]; omega, fun x hx => hr x (List.mem_of_mem_take hx)⟩
  · rw [if_neg h]
    exact ⟨_, rfl, by omega, hr⟩
end Go.Proofs.Ythlnbbehcpdnfaa.Pu

namespace Go.Proofs.Ythlnbbehcpdnfaa.Pu
open Go.RowKit Go.Proofs.YthlnbbehcpdnfaaW.PrintWords Go.Proofs.YthlnbbehcpdnfaaW.PrintLast Go.Proofs.YthlnbbehcpdnfaaW.PrintMore Go.Proofs.Ythlnbbehcpdnfaa.G
set_option linter.unusedVariables false
set_option linter.unusedSimpArgs false
abbrev RT := S41
def mergV (a b : List RT) : List RT × Bool := if ((rowOk a && rowOk b) && decide (a.length + b.length ≤ 30)) = true then (mgR a b, true) else ([], false)
theorem small_ok {l : List RT} (h : rowOk l = true) : smallR l = true := by
  unfold smallR
  rw [List.all_eq_true]
  intro x hx
  have := recOk_len ((rowOk_all h).1 x hx)
  simp only [Bool.and_eq_true, decide_eq_true_eq]
  omega
theorem RecordsMerge_ev (a b : List RT) (ha : RowL a) (hb : RowL b) : Ev (fun k => impl_RecordsMerge.f k a b) (mergV a b) := by
  unfold impl_RecordsMerge.f mergV
  refine Ev.bind (rowValid_ev a ha.1 ha.2) ?_
  cases hra : rowOk a
  · exact Ev.now _
  · simp only [if_true, Bool.true_and]
    refine Ev.bind (rowValid_ev b hb.1 hb.2) ?_
    cases hrb : rowOk b
    · exact Ev.now _
    · simp only [if_true, Bool.true_and, small_ok hra, small_ok hrb]
      by_cases h : a.length + b.length ≤ 30
      · simp only [if_neg (show ¬ 30 < a.length + b.length by omega), decide_eq_true h, if_true]
        exact Ev.now _
      · simp only [if_pos (show 30 < a.length + b.length by omega), decide_eq_false h, Bool.false_eq_true, if_false]
        exact Ev.now _
theorem l12Copy_ev (x : RT) (h : x.f3.length ≤ 12 ∧ x.f5.length ≤ 12) : spec_l12Copy.f x.f0 x.f1 x.f2 x.f3 x.f4 x.f5 = some (x.f0, x.f1, x.f2, x.f3, x.f4, x.f5) := by
  unfold spec_l12Copy.f
  simp only [bindS, List.length_nil, List.nil_append]
  rw [if_pos (by omega), if_pos (by omega)]
theorem sMerge_loop (a b : List RT) (oa : ∀ r ∈ a, recOk r = true) (ob : ∀ r ∈ b, recOk r = true) (la : a.length ≤ 30) (lb : b.length ≤ 30) :
    ∀ d i j (xs : List RT), (a.length - i) + (b.length - j) = d → i ≤ a.length → j ≤ b.length → xs.length + d ≤ 60 → Ev (fun k => spec_RecordsMerge.l0 k a b xs (i : Int) (j : Int)) (xs ++ mgR (a.drop i) (b.drop j), true) := by
  intro d
  induction d with
  | zero =>
    intro i j xs hd hi hj hx
    refine Ev.step (fun k => by rw [spec_RecordsMerge.l0]) ?_
    simp only [if_neg (show ¬ (i : Int) < (a.length : Int) by omega), decide_eq_false (show ¬ (j : Int) < (b.length : Int) by omega)]
    refine Ev.step (fun k => by rw [spec_RecordsMerge.j2]) ?_
    simp only [Bool.false_eq_true, if_false]
    rw [List.drop_of_length_le (by omega), List.drop_of_length_le (by omega), mg_nil, List.append_nil]
    exact Ev.now _
  | succ d ih =>
    intro i j xs hd hi hj hx
    have A : ∀ (h : i < a.length), (∀ (h2 : j < b.length), a[i].f1 ≤ b[j].f1) → Ev (fun k => spec_RecordsMerge.j3 k a b xs (i : Int) (j : Int) true) (xs ++ mgR (a.drop i) (b.drop j), true) := by
      intro h hle
      refine Ev.step (fun k => by rw [spec_RecordsMerge.j3]) ?_
      simp only [if_true, if_pos (show (0 : Int) ≤ (i : Int) by omega), if_pos (show (i : Int) < (a.length : Int) by omega), rdR_nat a i h, l12Copy_ev _ (recOk_len (oa _ (List.getElem_mem h))), bindS, if_pos (show xs.length < 1759218604441 by omega), w64 (a := (i : Int) + 1) (by omega) (by omega)]
      have := ih (i + 1) j (xs ++ [a[i]]) (by omega) (by omega) hj (by simp; omega)
      have e : xs ++ mgR (a.drop i) (b.drop j) = (xs ++ [a[i]]) ++ mgR (a.drop (i + 1)) (b.drop j) := by
        rw [List.drop_eq_getElem_cons h, List.append_assoc]
        by_cases h2 : j < b.length
        · rw [List.drop_eq_getElem_cons h2, mg_cons, if_pos (hle h2)]
          rfl
        · rw [List.drop_of_length_le (l := b) (by omega), mg_nil', mg_nil']
          rfl
      rw [e]
      exact this
    have B : ∀ (h : j < b.length), (∀ (h2 : i < a.length), ¬ a[i].f1 ≤ b[j].f1) → Ev (fun k => spec_RecordsMerge.j3 k a b xs (i : Int) (j : Int) false) (xs ++ mgR (a.drop i) (b.drop j), true) := by
      intro h hle
      refine Ev.step (fun k => by rw [spec_RecordsMerge.j3]) ?_
      simp only [Bool.false_eq_true, if_false, if_pos (show (0 : Int) ≤ (j : Int) by omega), if_pos (show (j : Int) < (b.length : Int) by omega), rdR_nat b j h, l12Copy_ev _ (recOk_len (ob _ (List.getElem_mem h))), bindS, if_pos (show xs.length < 1759218604441 by omega), w64 (a := (j : Int) + 1) (by omega) (by omega)]
      have := ih i (j + 1) (xs ++ [b[j]]) (by omega) hi (by omega) (by simp; omega)
      have e : xs ++ mgR (a.drop i) (b.drop j) = (xs ++ [b[j]]) ++ mgR (a.drop i) (b.drop (j + 1)) := by
        rw [List.drop_eq_getElem_cons h, List.append_assoc]
        by_cases h2 : i < a.length
        · rw [List.drop_eq_getElem_cons h2, mg_cons, if_neg (hle h2)]
          rfl
        · rw [List.drop_of_length_le (l := a) (by omega), mg_nil, mg_nil]
          rfl
      rw [e]
      exact this
    have J : Ev (fun k => spec_RecordsMerge.j2 k a b xs (i : Int) (j : Int) true) (xs ++ mgR (a.drop i) (b.drop j), true) := by
      refine Ev.step (fun k => by rw [spec_RecordsMerge.j2]) ?_
      simp only [if_true]
      by_cases hjb : j < b.length
      · simp only [if_neg (show ¬ (j : Int) = (b.length : Int) by omega)]
        by_cases hia : i < a.length
        · simp only [if_pos (show (i : Int) < (a.length : Int) by omega), if_pos (show (0 : Int) ≤ (i : Int) by omega), if_pos (show (0 : Int) ≤ (j : Int) by omega), if_pos (show (j : Int) < (b.length : Int) by omega), rdR_nat a i hia, rdR_nat b j hjb]
          by_cases hc : a[i].f1 ≤ b[j].f1
          · simp only [decide_eq_true hc]
            exact A hia (fun _ => hc)
          · simp only [decide_eq_false hc]
            exact B hjb (fun _ => hc)
        · simp only [if_neg (show ¬ (i : Int) < (a.length : Int) by omega)]
          exact B hjb (fun h => absurd h hia)
      · simp only [if_pos (show (j : Int) = (b.length : Int) by omega)]
        exact A (by omega) (fun h => absurd h hjb)
    refine Ev.step (fun k => by rw [spec_RecordsMerge.l0]) ?_
    by_cases hia : i < a.length
    · simp only [if_pos (show (i : Int) < (a.length : Int) by omega)]
      exact J
    · simp only [if_neg (show ¬ (i : Int) < (a.length : Int) by omega), decide_eq_true (show (j : Int) < (b.length : Int) by omega)]
      exact J
theorem sRecordsMerge_ev (a b : List RT) (ha : RowL a) (hb : RowL b) : Ev (fun k => spec_RecordsMerge.f k a b) (mergV a b) := by
  unfold spec_RecordsMerge.f mergV
  simp only [bindS]
  refine Ev.bind (l42Rows_ev a ha.1 ha.2) ?_
  cases hra : rowOk a
  · refine Ev.step (fun k => by rw [spec_RecordsMerge.j0]) ?_
    exact Ev.now _
  · simp only [if_true, Bool.true_and]
    refine Ev.bind (l42Rows_ev b hb.1 hb.2) ?_
    cases hrb : rowOk b
    · refine Ev.step (fun k => by rw [spec_RecordsMerge.j0]) ?_
      exact Ev.now _
    · have l1 := (rowOk_all hra).2
      have l2 := (rowOk_all hrb).2
      simp only [if_true, Bool.true_and, w64 (a := (a.length : Int) + (b.length : Int)) (by omega) (by omega)]
      refine Ev.step (fun k => by rw [spec_RecordsMerge.j0]) ?_
      by_cases h : a.length + b.length ≤ 30
      · simp only [decide_eq_false (show ¬ (a.length : Int) + (b.length : Int) > 30 by omega), Bool.false_eq_true, if_false, decide_eq_true h, if_true]
        have := sMerge_loop a b (rowOk_all hra).1 (rowOk_all hrb).1 l1 l2 _ 0 0 [] rfl (by omega) (by omega) (by simp; omega)
        simpa using this
      · simp only [decide_eq_true (show (a.length : Int) + (b.length : Int) > 30 by omega), if_true, decide_eq_false h, Bool.false_eq_true, if_false]
        exact Ev.now _
theorem mg_len : ∀ (n : Nat) (a b : List RT), a.length + b.length = n → (mgR a b).length = n
  | _, [], b, h => by rw [mg_nil]; simpa using h
  | _, x :: a, [], h => by rw [mg_nil']; simpa using h
  | 0, x :: a, y :: b, h => by simp at h
  | n + 1, x :: a, y :: b, h => by
    rw [mg_cons]
    split
    · rw [List.length_cons, mg_len n a (y :: b) (by simp at h ⊢; omega)]
    · rw [List.length_cons, mg_len n (x :: a) b (by simp at h ⊢; omega)]
theorem mg_mem {x : RT} : ∀ (n : Nat) (a b : List RT), a.length + b.length = n → x ∈ mgR a b → x ∈ a ∨ x ∈ b
  | _, [], b, _, h => by rw [mg_nil] at h; exact .inr h
  | _, y :: a, [], _, h => by rw [mg_nil'] at h; exact .inl h
  | 0, _ :: a, y :: b, h, _ => by simp at h
  | n + 1, z :: a, y :: b, h, hx => by
    rw [mg_cons] at hx
    split at hx
    · rcases List.mem_cons.1 hx with rfl | hx
      · exact .inl List.mem_cons_self
      · rcases mg_mem n a (y :: b) (by simp at h ⊢; omega) hx with h1 | h1
        · exact .inl (List.mem_cons_of_mem _ h1)
        · exact .inr h1
    · rcases List.mem_cons.1 hx with rfl | hx
      · exact .inr List.mem_cons_self
      · rcases mg_mem n (z :: a) b (by simp at h ⊢; omega) hx with h1 | h1
        · exact .inl h1
        · exact .inr (List.mem_cons_of_mem _ h1)
theorem mg_row {a b : List RT} (ha : DrR a) (hb : DrR b) : RowL (mgR a b) := by
  refine ⟨?_, fun r hr => ?_⟩
  · rw [mg_len _ a b rfl]
    have := ha.1
    have := hb.1
    omega
  · rcases mg_mem _ a b rfl hr with h | h
    · exact ha.rowL.2 r h
    · exact hb.rowL.2 r h
/-- What is not before t. -/
def Lo (t : Int) (l : List RT) : Prop := ∀ x l', l = x :: l' → t ≤ x.f1
def Adj : List RT → Prop
  | [] => True
  | x :: l => Lo x.f1 l ∧ Adj l
theorem lo_mg {t : Int} {a b : List RT} (ha : Lo t a) (hb : Lo t b) : Lo t (mgR a b) := by
  cases a with
  | nil => rw [mg_nil]; exact hb
  | cons x a =>
    cases b with
    | nil => rw [mg_nil']; exact ha
    | cons y b =>
      rw [mg_cons]
      split
      · rintro z l' h
        injection h with h
        subst h
        exact ha _ _ rfl
      · rintro z l' h
        injection h with h
        subst h
        exact hb _ _ rfl
theorem adj_mg : ∀ (n : Nat) (a b : List RT), a.length + b.length = n → Adj a → Adj b → Adj (mgR a b)
  | _, [], b, _, _, hb => by rw [mg_nil]; exact hb
  | _, x :: a, [], _, ha, _ => by rw [mg_nil']; exact ha
  | 0, x :: a, y :: b, h, _, _ => by simp at h
  | n + 1, x :: a, y :: b, h, ha, hb => by
    rw [mg_cons]
    split
    · rename_i hc
      refine ⟨lo_mg ha.1 ?_, adj_mg n a (y :: b) (by simp at h ⊢; omega) ha.2 hb⟩
      rintro z l' h
      injection h with h
      subst h
      exact hc
    · rename_i hc
      refine ⟨lo_mg ?_ hb.1, adj_mg n (x :: a) b (by simp at h ⊢; omega) ha hb.2⟩
      rintro z l' h
      injection h with h
      subst h
      omega
theorem adj_of : ∀ (l : List RT), (∀ i (h : i + 1 < l.length), l[i].f1 ≤ l[i + 1].f1) → Adj l
  | [], _ => trivial
  | x :: l, h => by
    refine ⟨fun y l' e => ?_, adj_of l fun i hi => ?_⟩
    · subst e
      exact h 0 (by simp)
    · exact h (i + 1) (by simp only [List.length_cons]; omega)
theorem adj_at : ∀ (l : List RT), Adj l → ∀ i (h : i + 1 < l.length), l[i].f1 ≤ l[i + 1].f1
  | [], _, i, hi => by simp at hi
  | x :: l, h, 0, hi => by
    cases l with
    | nil => simp at hi
    | cons y l => exact h.1 y l rfl
  | x :: l, h, i + 1, hi => adj_at l h.2 i (by simp only [List.length_cons] at hi; omega)
theorem drawM_ends {b : List Int} (hb : CodeOk b) : EndsIn (fun k => (spec_l92Row.f k b 0).bind fun bt148 => ((spec_l92Row.f k b bt148.2).bind fun bt152 => (some (bt148.1, bt152.1)))) (fun r => DrR r.1 ∧ DrR r.2) := by
  refine EndsIn.bind (drawRow_ends hb 0 (by omega) (by omega)) fun r hr => ?_
  refine EndsIn.bind (drawRow_ends hb r.2 (by omega) (by omega)) fun s hs => ?_
  exact EndsIn.now _ ⟨hr.1, hs.1⟩
end Go.Proofs.Ythlnbbehcpdnfaa.Pu

namespace Go.Proofs.Ythlnbbehcpdnfaa.Pure
open Go.RowKit Go.Proofs.Ythlnbbehcpdnfaa.G Go.Proofs.YthlnbbehcpdnfaaW.PrintWords Go.Proofs.YthlnbbehcpdnfaaW.PrintLast Go.Proofs.YthlnbbehcpdnfaaW.PrintMore Go.Proofs.Ythlnbbehcpdnfaa.Pu
set_option linter.unusedSimpArgs false
set_option linter.unusedVariables false
theorem order_l2 (out : List RT) (hl : out.length ≤ 60) (ho : Adj out) : ∀ d i, out.length - i = d → 1 ≤ i → Ev (fun k => laws_FnMergeOrder.l2 k out (i : Int)) true := by
  intro d
  induction d with
  | zero =>
    intro i hd h1
    refine Ev.step (fun k => by rw [laws_FnMergeOrder.l2]) ?_
    simp only [if_neg (show ¬ (i : Int) < (out.length : Int) by omega)]
    exact Ev.now _
  | succ d ih =>
    intro i hd h1
    obtain ⟨j, rfl⟩ : ∃ j, i = j + 1 := ⟨i - 1, by omega⟩
    have hlt : j + 1 < out.length := by omega
    refine Ev.step (fun k => by rw [laws_FnMergeOrder.l2]) ?_
    have e1 : wrap64 (((j + 1 : Nat) : Int) - 1) = (j : Int) := by rw [w64 (by omega) (by omega)]; omega
    have e2 : wrap64 (((j + 1 : Nat) : Int) + 1) = ((j + 1 + 1 : Nat) : Int) := by rw [w64 (by omega) (by omega)]; omega
    simp only [e1, e2, if_pos (show ((j + 1 : Nat) : Int) < (out.length : Int) by omega), if_pos (show (0 : Int) ≤ (j : Int) by omega), if_pos (show (j : Int) < (out.length : Int) by omega), if_pos (show (0 : Int) ≤ ((j + 1 : Nat) : Int) by omega), rdR_nat out j (by omega), rdR_nat out (j + 1) hlt, if_neg (show ¬ out[j].f1 > out[j + 1].f1 by have := adj_at out ho j hlt; omega)]
    exact ih (j + 1 + 1) (by omega) (by omega)
theorem order_l1 (b out : List RT) (hb : b.length ≤ 60) (hl : out.length ≤ 60) (ho : Adj b → Adj out) : ∀ d i, b.length - i = d → 1 ≤ i → (∀ j (h : j + 1 < b.length), j + 1 < i → b[j].f1 ≤ b[j + 1].f1) → Ev (fun k => laws_FnMergeOrder.l1 k b out (i : Int)) true := by
  intro d
  induction d with
  | zero =>
    intro i hd h1 hs
    refine Ev.step (fun k => by rw [laws_FnMergeOrder.l1]) ?_
    simp only [if_neg (show ¬ (i : Int) < (b.length : Int) by omega)]
    exact order_l2 out hl (ho (adj_of b fun j h => hs j h (by omega))) _ 1 rfl (by omega)
  | succ d ih =>
    intro i hd h1 hs
    obtain ⟨j, rfl⟩ : ∃ j, i = j + 1 := ⟨i - 1, by omega⟩
    have hlt : j + 1 < b.length := by omega
    refine Ev.step (fun k => by rw [laws_FnMergeOrder.l1]) ?_
    have e1 : wrap64 (((j + 1 : Nat) : Int) - 1) = (j : Int) := by rw [w64 (by omega) (by omega)]; omega
    have e2 : wrap64 (((j + 1 : Nat) : Int) + 1) = ((j + 1 + 1 : Nat) : Int) := by rw [w64 (by omega) (by omega)]; omega
    simp only [e1, e2, if_pos (show ((j + 1 : Nat) : Int) < (b.length : Int) by omega), if_pos (show (0 : Int) ≤ (j : Int) by omega), if_pos (show (j : Int) < (b.length : Int) by omega), if_pos (show (0 : Int) ≤ ((j + 1 : Nat) : Int) by omega), rdR_nat b j (by omega), rdR_nat b (j + 1) hlt]
    by_cases hc : b[j].f1 > b[j + 1].f1
    · simp only [if_pos hc]
      exact Ev.now _
    · simp only [if_neg hc]
      refine ih (j + 1 + 1) (by omega) (by omega) fun q h hq => ?_
      by_cases hqj : q = j
      · subst hqj
        omega
      · exact hs q h (by omega)
theorem order_l0 (a b out : List RT) (ha : a.length ≤ 60) (hb : b.length ≤ 60) (hl : out.length ≤ 60) (ho : Adj a → Adj b → Adj out) : ∀ d i, a.length - i = d → 1 ≤ i → (∀ j (h : j + 1 < a.length), j + 1 < i → a[j].f1 ≤ a[j + 1].f1) → Ev (fun k => laws_FnMergeOrder.l0 k a b out (i : Int)) true := by
  intro d
  induction d with
  | zero =>
    intro i hd h1 hs
    refine Ev.step (fun k => by rw [laws_FnMergeOrder.l0]) ?_
    simp only [if_neg (show ¬ (i : Int) < (a.length : Int) by omega)]
    exact order_l1 b out hb hl (ho (adj_of a fun j h => hs j h (by omega))) _ 1 rfl (by omega) (fun j h hj => by omega)
  | succ d ih =>
    intro i hd h1 hs
    obtain ⟨j, rfl⟩ : ∃ j, i = j + 1 := ⟨i - 1, by omega⟩
    have hlt : j + 1 < a.length := by omega
    refine Ev.step (fun k => by rw [laws_FnMergeOrder.l0]) ?_
    have e1 : wrap64 (((j + 1 : Nat) : Int) - 1) = (j : Int) := by rw [w64 (by omega) (by omega)]; omega
    have e2 : wrap64 (((j + 1 : Nat) : Int) + 1) = ((j + 1 + 1 : Nat) : Int) := by rw [w64 (by omega) (by omega)]; omega
    simp only [e1, e2, if_pos (show ((j + 1 : Nat) : Int) < (a.length : Int) by omega), if_pos (show (0 : Int) ≤ (j : Int) by omega), if_pos (show (j : Int) < (a.length : Int) by omega), if_pos (show (0 : Int) ≤ ((j + 1 : Nat) : Int) by omega), rdR_nat a j (by omega), rdR_nat a (j + 1) hlt]
    by_cases hc : a[j].f1 > a[j + 1].f1
    · simp only [if_pos hc]
      exact Ev.now _
    · simp only [if_neg hc]
      refine ih (j + 1 + 1) (by omega) (by omega) fun q h hq => ?_
      by_cases hqj : q = j
      · subst hqj
        omega
      · exact hs q h (by omega)
theorem FnMergeOrder : OFnMergeOrder.Pure := by
  intro l0 hl0 ho0
  refine EndsIn.rounds ?_
  unfold laws_FnMergeOrder.f
  have hr := fun x hx => u8_range (ho0 x hx)
  by_cases h : (l0.length : Int) > 1048576
  · simp only [if_pos h]
    exact EndsIn.now _ rfl
  · simp only [if_neg h]
    obtain ⟨c, hc, hok⟩ := open_some l0 hr
    unfold spec_DrawRecordsMerge.f
    simp only [hc, bindS]
    refine EndsIn.bind (P := fun r => DrR r.1 ∧ DrR r.2) (drawM_ends hok) fun q hq => ?_
    obtain ⟨a, b⟩ := q
    obtain ⟨da, db⟩ := hq
    have ra := DrR.rowL da
    have rb := DrR.rowL db
    refine ⟨true, ?_, rfl⟩
    refine Ev.bind (RecordsMerge_ev _ _ ra rb) (Ev.bind (sRecordsMerge_ev _ _ ra rb) ?_)
    simp only [bne_self_eq_false, Bool.false_eq_true, if_false]
    have rm : RowL (mergV a b).1 := by
      unfold mergV
      split
      · exact mg_row da db
      · exact ⟨by simp, by simp⟩
    refine Ev.bind (sameRecords_ev _ _ rm) ?_
    simp only [decide_true, if_true]
    refine Ev.step (fun k => by rw [laws_FnMergeOrder.j0]) ?_
    by_cases hv : ((rowOk a && rowOk b) && decide (a.length + b.length ≤ 30)) = true
    · rw [show mergV a b = (mgR a b, true) by unfold mergV; rw [if_pos hv]]
      simp only [Bool.not_true, Bool.false_eq_true, if_false]
      simp only [Bool.and_eq_true, decide_eq_true_eq] at hv
      exact order_l0 a b (mgR a b) (by omega) (by omega) (by rw [mg_len _ a b rfl]; omega) (fun h1 h2 => adj_mg _ a b rfl h1 h2) _ 1 rfl (by omega) (fun j h hj => by omega)
    · rw [show mergV a b = ([], false) by unfold mergV; rw [if_neg hv]]
      simp only [Bool.not_false, if_true, beq_self_eq_true]
      exact Ev.bind (sameRecords_ev _ _ ⟨by simp, by simp⟩) (by simp only [decide_true]; exact Ev.now _)
end Go.Proofs.Ythlnbbehcpdnfaa.Pure

