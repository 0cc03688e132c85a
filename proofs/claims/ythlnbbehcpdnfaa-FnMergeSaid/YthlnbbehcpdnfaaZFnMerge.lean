/- A text of seat Ythlnbbehcpdnfaa: what the law FnMerge needs of this repo's texts (by pack.py). Not trusted: Lean checks it. -/
import Derived.Test.YthlnbbehcpdnfaaKFnMerge8
import Derived.Deep.Slices
import Derived.SizedLaws
import Derived.Laws.BitsLemmas
import Derived.Test.YthlnbbehcpdnfaaRows
import Derived.WalkKit
import Derived.ProofKit
import Derived.OpenShut
import Derived.ShutString
import Derived.ChangeOld
import Derived.Below
import Derived.Lib.SmallJoins
import Derived.Laws.StructEq
import Derived.ChangeSlices
namespace Go.Proofs.Ythlnbbehcpdnfaa.G
open Go.RowKit Go.Proofs.YthlnbbehcpdnfaaW.PrintWords Go.Proofs.YthlnbbehcpdnfaaW.PrintLast Go.Proofs.YthlnbbehcpdnfaaW.PrintMore
attribute [local go_sem] max2_int min2_int max_two min_two max_three min_three max_four min_four   -- for this text's walks alone
set_option linter.unusedVariables false
set_option linter.unusedSimpArgs false

mutual
def laws_FnMerge.j0 : Nat → List (S41) → List (S41) → List (S41) → Bool → List (S41) → Bool → Bool → Option (Bool)
 | 0, _, _, _, _, _, _, _ => none
 | k + 1, x3, x4, x5, x6, x7, x8, x43 => if x43 = true then (if (x6 == x8) = true then ((laws_sameRecords.f k x5 x7).bind fun t251 => (some t251)) else (some false)) else (laws_FnMerge.l0 k x3 x4 x5 0 0)
def laws_FnMerge.l0 : Nat → List (S41) → List (S41) → List (S41) → Int → Int → Option (Bool)
 | 0, _, _, _, _, _ => none
 | k + 1, x3, x4, x5, x9, x10 => if x10 < (x5.length : Int) then (laws_FnMerge.j2 k x3 x4 x5 x9 x10 (decide (x9 < (x3.length : Int)))) else (laws_FnMerge.j2 k x3 x4 x5 x9 x10 false)
def laws_FnMerge.j2 : Nat → List (S41) → List (S41) → List (S41) → Int → Int → Bool → Option (Bool)
 | 0, _, _, _, _, _, _ => none
 | k + 1, x3, x4, x5, x9, x10, x61 => if x61 = true then (if 0 ≤ x10 then (if x10 < (x5.length : Int) then (if 0 ≤ x9 then (if x9 < (x3.length : Int) then ((laws_sameRecord.f k ((rd_T41 x5 x10).f0) ((rd_T41 x5 x10).f1) ((rd_T41 x5 x10).f2) ((rd_T41 x5 x10).f3) ((rd_T41 x5 x10).f4) ((rd_T41 x5 x10).f5) ((rd_T41 x3 x9).f0) ((rd_T41 x3 x9).f1) ((rd_T41 x3 x9).f2) ((rd_T41 x3 x9).f3) ((rd_T41 x3 x9).f4) ((rd_T41 x3 x9).f5)).bind fun t254 => (if t254 = true then (laws_FnMerge.l0 k x3 x4 x5 (wrap64 (x9 + 1)) (wrap64 (x10 + 1))) else (laws_FnMerge.l0 k x3 x4 x5 x9 (wrap64 (x10 + 1))))) else (none)) else (none)) else (none)) else (none)) else (if x9 = (x3.length : Int) then (some ((x5.length : Int) == (wrap64 ((x3.length : Int) + (x4.length : Int))))) else (some false))
end
def laws_FnMerge.f (k : Nat) (l0 : List Int) : Option (Bool) := if (l0.length : Int) > 1048576 then (some true) else ((spec_DrawRecordsMerge.f k l0).bind fun bt236 => ((impl_RecordsMerge.f k bt236.1 bt236.2).bind fun bt242 => ((spec_RecordsMerge.f k bt236.1 bt236.2).bind fun bt246 => (if (bt242.2 != bt246.2) = true then (laws_FnMerge.j0 k bt236.1 bt236.2 bt242.1 bt242.2 bt246.1 bt246.2 true) else ((laws_sameRecords.f k bt242.1 bt246.1).bind fun t250 => (if t250 = true then (laws_FnMerge.j0 k bt236.1 bt236.2 bt242.1 bt242.2 bt246.1 bt246.2 (!bt242.2)) else (laws_FnMerge.j0 k bt236.1 bt236.2 bt242.1 bt242.2 bt246.1 bt246.2 true)))))))
def laws_FnMerge.T12 : Bool × List (List Nat × List Nat) := (true, [([], []), ([], []), ([0, 1], [0, 1]), ([2], [2]), ([], []), ([], []), ([4, 5], [4, 5]), ([6], [6]), ([3, 7], [3, 7])])
def laws_FnMerge.B12 : List Nat := [0, 0, 3, 7, 0, 0, 48, 112, 255]
theorem laws_FnMerge.tab12 : rtab .any (opsOf Try.f11 12) = laws_FnMerge.T12 := by kernel_rfl
theorem laws_FnMerge.bits12 : waitsOk laws_FnMerge.T12.2 laws_FnMerge.B12 = true := by kernel_rfl
set_option maxHeartbeats 8000000 in
set_option maxRecDepth 100000 in
theorem laws_FnMerge.calls (k : Nat) (A0 : Option Addr) (c0 : Nat) (l0 : List Int) (r : Bool) (w : World) (hr0 : Kd.C (Kd.int .u8) w A0 l0.length l0) (hc0 : l0.length ≤ c0) (h : laws_FnMerge.f k l0 = some r) :
  Calls Try.prog 11 #[.slice A0 l0.length c0] w fun e w' => e = .returned (.bool r) ∧ Below w.heap.size w w' := by
 have hu41 := Try.underlying41
 have HR0 := Aside0.mk hr0
 have HC0 := Aside0.mk hc0
 clear hr0 hc0
 have HB := Aside0.mk (Below.refl w.heap.size w)
 have H : (if (l0.length : Int) > 1048576 then (some true) else ((spec_DrawRecordsMerge.f k l0).bind fun bt236 => ((impl_RecordsMerge.f k bt236.1 bt236.2).bind fun bt242 => ((spec_RecordsMerge.f k bt236.1 bt236.2).bind fun bt246 => (if (bt242.2 != bt246.2) = true then (laws_FnMerge.j0 k bt236.1 bt236.2 bt242.1 bt242.2 bt246.1 bt246.2 true) else ((laws_sameRecords.f k bt242.1 bt246.1).bind fun t250 => (if t250 = true then (laws_FnMerge.j0 k bt236.1 bt236.2 bt242.1 bt242.2 bt246.1 bt246.2 (!bt242.2)) else (laws_FnMerge.j0 k bt236.1 bt236.2 bt242.1 bt242.2 bt246.1 bt246.2 true)))))))) = some r := h
 clear h
 by_cases c2 : (l0.length : Int) > 1048576
 ·rw [if_pos c2] at H
  have c2b0 : decide (1048576 < (l0.length : Int)) = true := decide_eq_true c2
  have c2b1 : decide (1048576 < l0.length) = true := decide_eq_true (by omega)
  clear c2
  obtain rfl := Option.some.inj H
  go_enter Try.func11, Try.ntmps11
  go_wp2
  all_goals go_ret
  all_goals exact ⟨by first | rfl | (simp [errW_none, errW_some] <;> rfl) | (simp [*, errW_none, errW_some] <;> rfl), by repeat (first | (with_reducible first | exact HB.out | apply below_alloc | apply pw_below_drewN | apply below_drew1) | exact HB.out)⟩
 ·rw [if_neg c2] at H
  have c2b0 : decide (1048576 < (l0.length : Int)) = false := decide_eq_false c2
  have c2b1 : decide (1048576 < l0.length) = false := decide_eq_false (by omega)
  clear c2
  replace H := Option.bind_eq_some_iff.mp H
  obtain ⟨⟨t236, t237⟩, A30, H⟩ := H
  replace H : ((impl_RecordsMerge.f k t236 t237).bind fun bt242 => ((spec_RecordsMerge.f k t236 t237).bind fun bt246 => (if (bt242.2 != bt246.2) = true then (laws_FnMerge.j0 k t236 t237 bt242.1 bt242.2 bt246.1 bt246.2 true) else ((laws_sameRecords.f k bt242.1 bt246.1).bind fun t250 => (if t250 = true then (laws_FnMerge.j0 k t236 t237 bt242.1 bt242.2 bt246.1 bt246.2 (!bt242.2)) else (laws_FnMerge.j0 k t236 t237 bt242.1 bt242.2 bt246.1 bt246.2 true)))))) = some r := H
  have A3 := Aside0.mk A30
  clear A30
  replace H := Option.bind_eq_some_iff.mp H
  obtain ⟨⟨t242, t245⟩, A40, H⟩ := H
  replace H : ((spec_RecordsMerge.f k t236 t237).bind fun bt246 => (if (t245 != bt246.2) = true then (laws_FnMerge.j0 k t236 t237 t242 t245 bt246.1 bt246.2 true) else ((laws_sameRecords.f k t242 bt246.1).bind fun t250 => (if t250 = true then (laws_FnMerge.j0 k t236 t237 t242 t245 bt246.1 bt246.2 (!t245)) else (laws_FnMerge.j0 k t236 t237 t242 t245 bt246.1 bt246.2 true))))) = some r := H
  have A4 := Aside0.mk A40
  clear A40
  replace H := Option.bind_eq_some_iff.mp H
  obtain ⟨⟨t246, t247⟩, A50, H⟩ := H
  replace H : (if (t245 != t247) = true then (laws_FnMerge.j0 k t236 t237 t242 t245 t246 t247 true) else ((laws_sameRecords.f k t242 t246).bind fun t250 => (if t250 = true then (laws_FnMerge.j0 k t236 t237 t242 t245 t246 t247 (!t245)) else (laws_FnMerge.j0 k t236 t237 t242 t245 t246 t247 true)))) = some r := H
  have A5 := Aside0.mk A50
  clear A50
  have HC6 := Aside0.mk H
  clear H
  go_enter Try.func11, Try.ntmps11
  go_upto_region 6 with (first | ((with_reducible refine gate_callee (f := 32) rfl ?_); refine goesL_ (some 16) rfl rfl Try.func32 (by kernel_rfl) rfl #[.slice A0 l0.length c0] rfl (by (try simp only [List.map_toArray, List.map_cons, List.map_nil]); first | done | rfl | (simp only [List.length_drop, List.length_take]; rfl)) ?_; (with_reducible refine (spec_DrawRecordsMerge.calls k _ _ l0 t236 t237 _ ?side1 ?side2 A3.out).mono ?_); (case side1 => repeat (first | exact HR0.out | (with_reducible refine Kd.C_alloc ?_ _) | (with_reducible refine Kd.C_drewN ?_ _) | (with_reducible refine Kd.C_drew ?_))); (case side2 => exact HC0.out); rintro e w7 ⟨v238, v240, rfl, ho0, ho1, hb⟩; have u_v238 : ∀ (a_ : Addr) (m_ : Mode) (W_ : World), (store a_ v238 m_).run Try.prog W_ = stored Try.prog W_ a_ v238 m_ := fun a_ m_ W_ => run_store _ W_ a_ _ m_ (by first | (obtain ⟨_, _, e_⟩ := Kd.R_slice ho0; rw [e_]; rfl) | (obtain ⟨_, _, e_⟩ := Kd.S_slice ho0; rw [e_]; rfl) | (obtain ⟨_, _, e_, _⟩ := Kd.Q_slice ho0; rw [e_]; rfl) | (obtain ⟨_, _, e_⟩ := Kd.N_slice ho0; rw [e_]; rfl) | (obtain ⟨_, _, e_⟩ := Kd.V_slice ho0; rw [e_]; rfl)); have u_v240 : ∀ (a_ : Addr) (m_ : Mode) (W_ : World), (store a_ v240 m_).run Try.prog W_ = stored Try.prog W_ a_ v240 m_ := fun a_ m_ W_ => run_store _ W_ a_ _ m_ (by first | (obtain ⟨_, _, e_⟩ := Kd.R_slice ho1; rw [e_]; rfl) | (obtain ⟨_, _, e_⟩ := Kd.S_slice ho1; rw [e_]; rfl) | (obtain ⟨_, _, e_, _⟩ := Kd.Q_slice ho1; rw [e_]; rfl) | (obtain ⟨_, _, e_⟩ := Kd.N_slice ho1; rw [e_]; rfl) | (obtain ⟨_, _, e_⟩ := Kd.V_slice ho1; rw [e_]; rfl)); refine ⟨_, rfl, ?_⟩; have n0_ := Aside0.mk (Kd.S_lower ho0 (below_size (by repeat (first | (with_reducible first | exact HB.out | apply below_alloc | apply pw_below_drewN | apply below_drew1) | exact HB.out)))); have n1_ := Aside0.mk (Kd.S_lower ho1 (below_size (by repeat (first | (with_reducible first | exact HB.out | apply below_alloc | apply pw_below_drewN | apply below_drew1) | exact HB.out)))); have n2_ := Aside0.mk (below_step (by repeat (first | (with_reducible first | exact HB.out | apply below_alloc | apply pw_below_drewN | apply below_drew1) | exact HB.out)) hb); clear HB; have HO239 := n0_; have HO241 := n1_; have HB := n2_; clear n0_ n1_ n2_; (try clear hb); (try clear hb2); (try clear hk); (try clear hi); (try clear ho0); (try clear ho1); obtain ⟨Ao8, co8, eo8⟩ := Kd.S_slice HO239.out; subst eo8; obtain ⟨Ao9, co9, eo9⟩ := Kd.S_slice HO241.out; subst eo9) | ((with_reducible refine gate_callee (f := 33) rfl ?_); refine goesL_ (some 22) rfl rfl Try.func33 (by kernel_rfl) rfl #[.slice Ao8 t236.length co8, .slice Ao9 t237.length co9] rfl (by (try simp only [List.map_toArray, List.map_cons, List.map_nil]); first | done | rfl | (simp only [List.length_drop, List.length_take]; rfl)) ?_; (with_reducible refine (impl_RecordsMerge.calls k _ _ t236 _ _ t237 t242 t245 _ ?side1 ?side2 ?side3 ?side4 A4.out).mono ?_); (case side1 => repeat (first | exact (Kd.S_reads' HO239.out).2.2 | (with_reducible refine Kd.C_alloc ?_ _) | (with_reducible refine Kd.C_drewN ?_ _) | (with_reducible refine Kd.C_drew ?_))); (case side2 => exact (Kd.S_reads' HO239.out).2.1); (case side3 => repeat (first | exact (Kd.S_reads' HO241.out).2.2 | (with_reducible refine Kd.C_alloc ?_ _) | (with_reducible refine Kd.C_drewN ?_ _) | (with_reducible refine Kd.C_drew ?_))); (case side4 => exact (Kd.S_reads' HO241.out).2.1); rintro e w10 ⟨v243, rfl, ho0, hb⟩; have u_v243 : ∀ (a_ : Addr) (m_ : Mode) (W_ : World), (store a_ v243 m_).run Try.prog W_ = stored Try.prog W_ a_ v243 m_ := fun a_ m_ W_ => run_store _ W_ a_ _ m_ (by first | (obtain ⟨_, _, e_⟩ := Kd.R_slice ho0; rw [e_]; rfl) | (obtain ⟨_, _, e_⟩ := Kd.S_slice ho0; rw [e_]; rfl) | (obtain ⟨_, _, e_, _⟩ := Kd.Q_slice ho0; rw [e_]; rfl) | (obtain ⟨_, _, e_⟩ := Kd.N_slice ho0; rw [e_]; rfl) | (obtain ⟨_, _, e_⟩ := Kd.V_slice ho0; rw [e_]; rfl)); refine ⟨_, rfl, ?_⟩; have n0_ := Aside0.mk (Kd.S_below (by (with_reducible repeat (first | apply Kd.S_alloc | apply Kd.S_drewN | apply Kd.S_drew)); exact HO239.out) hb); have n1_ := Aside0.mk (Kd.S_below (by (with_reducible repeat (first | apply Kd.S_alloc | apply Kd.S_drewN | apply Kd.S_drew)); exact HO241.out) hb); have n2_ := Aside0.mk (Kd.V_lower (Kd.V_mono (ok' := fun k_ => some k_ ≠ (.slice Ao8 t236.length co8 : Value).ownBlock ∧ some k_ ≠ (.slice Ao9 t237.length co9 : Value).ownBlock) ho0 (fun k_ hk_ => ⟨(Kd.fresh' (Kd.S_lt (by (with_reducible repeat (first | apply Kd.S_alloc | apply Kd.S_drewN | apply Kd.S_drew)); exact HO239.out)) k_ hk_), (Kd.fresh' (Kd.S_lt (by (with_reducible repeat (first | apply Kd.S_alloc | apply Kd.S_drewN | apply Kd.S_drew)); exact HO241.out)) k_ hk_)⟩)) (below_size (by repeat (first | (with_reducible first | exact HB.out | apply below_alloc | apply pw_below_drewN | apply below_drew1) | exact HB.out)))); have n3_ := Aside0.mk (below_step (by repeat (first | (with_reducible first | exact HB.out | apply below_alloc | apply pw_below_drewN | apply below_drew1) | exact HB.out)) hb); clear HO239; clear HO241; clear HB; have HO239 := n0_; have HO241 := n1_; have HO244 := n2_; have HB := n3_; clear n0_ n1_ n2_ n3_; (try clear hb); (try clear hb2); (try clear hk); (try clear hi); (try clear ho0)) | ((with_reducible refine gate_callee (f := 34) rfl ?_); refine goesL_ (some 28) rfl rfl Try.func34 (by kernel_rfl) rfl #[.slice Ao8 t236.length co8, .slice Ao9 t237.length co9] rfl (by (try simp only [List.map_toArray, List.map_cons, List.map_nil]); first | done | rfl | (simp only [List.length_drop, List.length_take]; rfl)) ?_; (with_reducible refine (spec_RecordsMerge.calls k _ _ t236 _ _ t237 t246 t247 _ ?side1 ?side2 ?side3 ?side4 A5.out).mono ?_); (case side1 => repeat (first | exact (Kd.S_reads' HO239.out).2.2 | (with_reducible refine Kd.C_alloc ?_ _) | (with_reducible refine Kd.C_drewN ?_ _) | (with_reducible refine Kd.C_drew ?_))); (case side2 => exact (Kd.S_reads' HO239.out).2.1); (case side3 => repeat (first | exact (Kd.S_reads' HO241.out).2.2 | (with_reducible refine Kd.C_alloc ?_ _) | (with_reducible refine Kd.C_drewN ?_ _) | (with_reducible refine Kd.C_drew ?_))); (case side4 => exact (Kd.S_reads' HO241.out).2.1); rintro e w11 ⟨v248, rfl, ho0, hb⟩; have u_v248 : ∀ (a_ : Addr) (m_ : Mode) (W_ : World), (store a_ v248 m_).run Try.prog W_ = stored Try.prog W_ a_ v248 m_ := fun a_ m_ W_ => run_store _ W_ a_ _ m_ (by first | (obtain ⟨_, _, e_⟩ := Kd.R_slice ho0; rw [e_]; rfl) | (obtain ⟨_, _, e_⟩ := Kd.S_slice ho0; rw [e_]; rfl) | (obtain ⟨_, _, e_, _⟩ := Kd.Q_slice ho0; rw [e_]; rfl) | (obtain ⟨_, _, e_⟩ := Kd.N_slice ho0; rw [e_]; rfl) | (obtain ⟨_, _, e_⟩ := Kd.V_slice ho0; rw [e_]; rfl)); refine ⟨_, rfl, ?_⟩; have n0_ := Aside0.mk (Kd.S_elder' (by (with_reducible repeat (first | apply Kd.S_alloc | apply Kd.S_drewN | apply Kd.S_drew)); exact HO239.out) (Kd.S_base ho0) hb); have n1_ := Aside0.mk (Kd.S_elder' (by (with_reducible repeat (first | apply Kd.S_alloc | apply Kd.S_drewN | apply Kd.S_drew)); exact HO241.out) (Kd.S_base ho0) hb); have n2_ := Aside0.mk (Kd.V_elder' (by (with_reducible repeat (first | apply Kd.V_alloc | apply Kd.V_drewN | apply Kd.V_drew)); exact HO244.out) (Kd.S_base ho0) hb); have n3_ := Aside0.mk (Kd.S_lower (Kd.S_new' (Kd.S_new' ho0 (Kd.S_lt (by (with_reducible repeat (first | apply Kd.S_alloc | apply Kd.S_drewN | apply Kd.S_drew)); exact HO239.out))) (Kd.S_lt (by (with_reducible repeat (first | apply Kd.S_alloc | apply Kd.S_drewN | apply Kd.S_drew)); exact HO241.out))) (below_size (by repeat (first | (with_reducible first | exact HB.out | apply below_alloc | apply pw_below_drewN | apply below_drew1) | exact HB.out)))); have n4_ := Aside0.mk (below_step (by repeat (first | (with_reducible first | exact HB.out | apply below_alloc | apply pw_below_drewN | apply below_drew1) | exact HB.out)) hb); clear HO239; clear HO241; clear HO244; clear HB; have HO239 := n0_; have HO241 := n1_; have HO244 := n2_; have HO249 := n3_; have HB := n4_; clear n0_ n1_ n2_ n3_ n4_; (try clear hb); (try clear hb2); (try clear hk); (try clear hi); (try clear ho0)))
  (try simp only [Act.put, List.setIfInBounds_toArray, List.set_cons_zero, List.set_cons_succ])
  go_cut [43] (fun v43 wc => ∃ (kq : Nat) (x43_5 : Bool), v43 = .bool x43_5 ∧ Aside0 (laws_FnMerge.j0 kq t236 t237 t242 t245 t246 t247 x43_5 = some r) ∧ Aside0 (kq ≤ k) ∧ Aside0 (Kd.S k41 41 wc w.heap.size (fun k_ => some k_ ≠ ((.slice Ao9 t237.length co9) : Value).ownBlock ∧ some k_ ≠ (v248 : Value).ownBlock) (.slice Ao8 t236.length co8) t236) ∧ Aside0 (Kd.S k41 41 wc w.heap.size (fun k_ => some k_ ≠ ((.slice Ao8 t236.length co8) : Value).ownBlock ∧ some k_ ≠ (v248 : Value).ownBlock) (.slice Ao9 t237.length co9) t237) ∧ Aside0 (Kd.V k41 41 wc w.heap.size (fun k_ => some k_ ≠ ((.slice Ao8 t236.length co8) : Value).ownBlock ∧ some k_ ≠ ((.slice Ao9 t237.length co9) : Value).ownBlock ∧ some k_ ≠ (v248 : Value).ownBlock) v243 t242) ∧ Aside0 (Kd.S k41 41 wc w.heap.size (fun k_ => some k_ ≠ ((.slice Ao8 t236.length co8) : Value).ownBlock ∧ some k_ ≠ ((.slice Ao9 t237.length co9) : Value).ownBlock) v248 t246) ∧ Aside0 (Below w.heap.size w wc))
  case first =>
   have H := HC6.out
   clear HC6
   by_cases c12 : (t245 != t247) = true
   ·rw [if_pos c12] at H
    have c12b0 : (t245 != t247) = true := c12
    (try (have c12b1 : decide (t245 = t247) = false := by simpa using c12))
    (try (have c12b2 : (t245 == t247) = false := by simpa using c12))
    (try (have c12b3 : ¬ (t245 = t247) := by simpa using c12))
    clear c12
    (first | rw [c12b0] | (simp only [i64_w, i32_w]; rw [c12b0]) | skip)
    have H' := Aside0.mk H
    clear H
    go_wp2
    go_meet
    case rel => exact ⟨_, (true), (by first | rfl | (simp; done) | (simp [*]; done)), H', ⟨by first | omega | exact Nat.le_refl _⟩, ⟨by (with_reducible repeat (first | apply Kd.S_alloc | apply Kd.S_drewN | apply Kd.S_drew)); exact HO239.out⟩, ⟨by (with_reducible repeat (first | apply Kd.S_alloc | apply Kd.S_drewN | apply Kd.S_drew)); exact HO241.out⟩, ⟨by (with_reducible repeat (first | apply Kd.V_alloc | apply Kd.V_drewN | apply Kd.V_drew)); exact Kd.V_mono HO244.out (fun _ hk => ⟨hk.1.1, ⟨hk.1.2, hk.2⟩⟩)⟩, ⟨by (with_reducible repeat (first | apply Kd.S_alloc | apply Kd.S_drewN | apply Kd.S_drew)); exact Kd.S_mono HO249.out (fun _ hk => ⟨hk.1.2, hk.2⟩)⟩, ⟨by repeat (first | (with_reducible first | exact HB.out | apply below_alloc | apply pw_below_drewN | apply below_drew1) | exact HB.out)⟩⟩
   ·rw [if_neg c12] at H
    have c12b0 : (t245 != t247) = false := by simpa using c12
    (try (have c12b1 : decide (t245 = t247) = true := by simpa using c12))
    (try (have c12b2 : (t245 == t247) = true := by simpa using c12))
    clear c12
    (first | rw [c12b0] | (simp only [i64_w, i32_w]; rw [c12b0]) | skip)
    replace H := Option.bind_eq_some_iff.mp H
    obtain ⟨t250, A130, H⟩ := H
    replace H : (if t250 = true then (laws_FnMerge.j0 k t236 t237 t242 t245 t246 t247 (!t245)) else (laws_FnMerge.j0 k t236 t237 t242 t245 t246 t247 true)) = some r := H
    have A13 := Aside0.mk A130
    clear A130
    by_cases c14 : t250 = true
    ·subst c14
     have H1 : (laws_FnMerge.j0 k t236 t237 t242 t245 t246 t247 (!t245)) = some r := by rw [if_pos rfl] at H; exact H
     clear H
     have H := H1
     clear H1
     have H' := Aside0.mk H
     clear H
     obtain ⟨Ao15, co15, eo15⟩ := Kd.V_slice HO244.out
     subst eo15
     obtain ⟨Ao16, co16, eo16⟩ := Kd.S_slice HO249.out
     subst eo16
     go_wp2_with (first | (go_at_call 24; (with_reducible refine (laws_sameRecords.calls k _ _ t242 _ _ t246 true _ ?side1 ?side2 ?side3 ?side4 A13.out).mono ?_); (case side1 => repeat (first | exact (Kd.V_reads' HO244.out).2.2 | (with_reducible refine Kd.C_alloc ?_ _) | (with_reducible refine Kd.C_drewN ?_ _) | (with_reducible refine Kd.C_drew ?_))); (case side2 => exact (Kd.V_reads' HO244.out).2.1); (case side3 => repeat (first | exact (Kd.S_reads' HO249.out).2.2 | (with_reducible refine Kd.C_alloc ?_ _) | (with_reducible refine Kd.C_drewN ?_ _) | (with_reducible refine Kd.C_drew ?_))); (case side4 => exact (Kd.S_reads' HO249.out).2.1); rintro e w17 ⟨rfl, hb⟩; have n0_ := Aside0.mk (Kd.S_below (by (with_reducible repeat (first | apply Kd.S_alloc | apply Kd.S_drewN | apply Kd.S_drew)); exact HO239.out) hb); have n1_ := Aside0.mk (Kd.S_below (by (with_reducible repeat (first | apply Kd.S_alloc | apply Kd.S_drewN | apply Kd.S_drew)); exact HO241.out) hb); have n2_ := Aside0.mk (Kd.V_below (by (with_reducible repeat (first | apply Kd.V_alloc | apply Kd.V_drewN | apply Kd.V_drew)); exact HO244.out) hb); have n3_ := Aside0.mk (Kd.S_below (by (with_reducible repeat (first | apply Kd.S_alloc | apply Kd.S_drewN | apply Kd.S_drew)); exact HO249.out) hb); have n4_ := Aside0.mk (below_step (by repeat (first | (with_reducible first | exact HB.out | apply below_alloc | apply pw_below_drewN | apply below_drew1) | exact HB.out)) hb); clear HO239; clear HO241; clear HO244; clear HO249; clear HB; have HO239 := n0_; have HO241 := n1_; have HO244 := n2_; have HO249 := n3_; have HB := n4_; clear n0_ n1_ n2_ n3_ n4_; (try clear hb); (try clear hb2); (try clear hk); (try clear hi)))
     go_meet
     case rel => exact ⟨_, (!t245), (by first | rfl | (simp; done) | (simp [*]; done)), H', ⟨by first | omega | exact Nat.le_refl _⟩, ⟨by (with_reducible repeat (first | apply Kd.S_alloc | apply Kd.S_drewN | apply Kd.S_drew)); exact HO239.out⟩, ⟨by (with_reducible repeat (first | apply Kd.S_alloc | apply Kd.S_drewN | apply Kd.S_drew)); exact HO241.out⟩, ⟨by (with_reducible repeat (first | apply Kd.V_alloc | apply Kd.V_drewN | apply Kd.V_drew)); exact Kd.V_mono HO244.out (fun _ hk => ⟨hk.1.1, ⟨hk.1.2, hk.2⟩⟩)⟩, ⟨by (with_reducible repeat (first | apply Kd.S_alloc | apply Kd.S_drewN | apply Kd.S_drew)); exact Kd.S_mono HO249.out (fun _ hk => ⟨hk.1.2, hk.2⟩)⟩, ⟨by repeat (first | (with_reducible first | exact HB.out | apply below_alloc | apply pw_below_drewN | apply below_drew1) | exact HB.out)⟩⟩
    ·replace c14 := Bool.eq_false_iff.mpr c14
     subst c14
     have H1 : (laws_FnMerge.j0 k t236 t237 t242 t245 t246 t247 true) = some r := by rw [if_neg (show ¬ (false = true) by decide)] at H; exact H
     clear H
     have H := H1
     clear H1
     have H' := Aside0.mk H
     clear H
     obtain ⟨Ao18, co18, eo18⟩ := Kd.V_slice HO244.out
     subst eo18
     obtain ⟨Ao19, co19, eo19⟩ := Kd.S_slice HO249.out
     subst eo19
     go_wp2_with (first | (go_at_call 24; (with_reducible refine (laws_sameRecords.calls k _ _ t242 _ _ t246 false _ ?side1 ?side2 ?side3 ?side4 A13.out).mono ?_); (case side1 => repeat (first | exact (Kd.V_reads' HO244.out).2.2 | (with_reducible refine Kd.C_alloc ?_ _) | (with_reducible refine Kd.C_drewN ?_ _) | (with_reducible refine Kd.C_drew ?_))); (case side2 => exact (Kd.V_reads' HO244.out).2.1); (case side3 => repeat (first | exact (Kd.S_reads' HO249.out).2.2 | (with_reducible refine Kd.C_alloc ?_ _) | (with_reducible refine Kd.C_drewN ?_ _) | (with_reducible refine Kd.C_drew ?_))); (case side4 => exact (Kd.S_reads' HO249.out).2.1); rintro e w20 ⟨rfl, hb⟩; have n0_ := Aside0.mk (Kd.S_below (by (with_reducible repeat (first | apply Kd.S_alloc | apply Kd.S_drewN | apply Kd.S_drew)); exact HO239.out) hb); have n1_ := Aside0.mk (Kd.S_below (by (with_reducible repeat (first | apply Kd.S_alloc | apply Kd.S_drewN | apply Kd.S_drew)); exact HO241.out) hb); have n2_ := Aside0.mk (Kd.V_below (by (with_reducible repeat (first | apply Kd.V_alloc | apply Kd.V_drewN | apply Kd.V_drew)); exact HO244.out) hb); have n3_ := Aside0.mk (Kd.S_below (by (with_reducible repeat (first | apply Kd.S_alloc | apply Kd.S_drewN | apply Kd.S_drew)); exact HO249.out) hb); have n4_ := Aside0.mk (below_step (by repeat (first | (with_reducible first | exact HB.out | apply below_alloc | apply pw_below_drewN | apply below_drew1) | exact HB.out)) hb); clear HO239; clear HO241; clear HO244; clear HO249; clear HB; have HO239 := n0_; have HO241 := n1_; have HO244 := n2_; have HO249 := n3_; have HB := n4_; clear n0_ n1_ n2_ n3_ n4_; (try clear hb); (try clear hb2); (try clear hk); (try clear hi)))
     go_meet
     case rel => exact ⟨_, (true), (by first | rfl | (simp; done) | (simp [*]; done)), H', ⟨by first | omega | exact Nat.le_refl _⟩, ⟨by (with_reducible repeat (first | apply Kd.S_alloc | apply Kd.S_drewN | apply Kd.S_drew)); exact HO239.out⟩, ⟨by (with_reducible repeat (first | apply Kd.S_alloc | apply Kd.S_drewN | apply Kd.S_drew)); exact HO241.out⟩, ⟨by (with_reducible repeat (first | apply Kd.V_alloc | apply Kd.V_drewN | apply Kd.V_drew)); exact Kd.V_mono HO244.out (fun _ hk => ⟨hk.1.1, ⟨hk.1.2, hk.2⟩⟩)⟩, ⟨by (with_reducible repeat (first | apply Kd.S_alloc | apply Kd.S_drewN | apply Kd.S_drew)); exact Kd.S_mono HO249.out (fun _ hk => ⟨hk.1.2, hk.2⟩)⟩, ⟨by repeat (first | (with_reducible first | exact HB.out | apply below_alloc | apply pw_below_drewN | apply below_drew1) | exact HB.out)⟩⟩
  case rest =>
   clear HC6
   try clear c1
   try clear c2
   try clear c2b0
   try clear c2b1
   try clear p2
   try clear c3
   try clear c11
   try clear c12
   try clear c12b0
   try clear c12b1
   try clear c12b2
   try clear c14
   obtain ⟨kq, x43_5, rfl, HA, HJ5, HO_3, HO_4, HO_5, HO_7, HB⟩ := hcut
   cases kq with
   | zero => exact absurd HA.out (by simp [laws_FnMerge.j0])
   | succ kj5 =>
    have H := HA.out
    clear HA
    simp only [laws_FnMerge.j0] at H
    by_cases c21 : x43_5 = true
    ·subst c21
     have H1 : (if (t245 == t247) = true then ((laws_sameRecords.f kj5 t242 t246).bind fun t251 => (some t251)) else (some false)) = some r := by rw [if_pos rfl] at H; exact H
     clear H
     have H := H1
     clear H1
     by_cases c22 : (t245 == t247) = true
     ·rw [if_pos c22] at H
      have c22b0 : (t245 == t247) = true := c22
      (try (have c22b1 : decide (t245 = t247) = true := by simpa using c22))
      (try (have c22b2 : (t245 == t247) = true := by simpa using c22))
      clear c22
      replace H := Option.bind_eq_some_iff.mp H
      obtain ⟨t251, A230, H⟩ := H
      replace H : (some t251) = some r := H
      have A23 := Aside0.mk A230
      clear A230
      obtain rfl := Option.some.inj H
      obtain ⟨Ao24, co24, eo24⟩ := Kd.V_slice HO_5.out
      subst eo24
      obtain ⟨Ao25, co25, eo25⟩ := Kd.S_slice HO_7.out
      subst eo25
      go_wp2_with (first | (go_at_call 24; (with_reducible refine (laws_sameRecords.calls kj5 _ _ t242 _ _ t246 t251 _ ?side1 ?side2 ?side3 ?side4 A23.out).mono ?_); (case side1 => repeat (first | exact (Kd.V_reads' HO_5.out).2.2 | (with_reducible refine Kd.C_alloc ?_ _) | (with_reducible refine Kd.C_drewN ?_ _) | (with_reducible refine Kd.C_drew ?_))); (case side2 => exact (Kd.V_reads' HO_5.out).2.1); (case side3 => repeat (first | exact (Kd.S_reads' HO_7.out).2.2 | (with_reducible refine Kd.C_alloc ?_ _) | (with_reducible refine Kd.C_drewN ?_ _) | (with_reducible refine Kd.C_drew ?_))); (case side4 => exact (Kd.S_reads' HO_7.out).2.1); rintro e w26 ⟨rfl, hb⟩; have n0_ := Aside0.mk (Kd.S_below (by (with_reducible repeat (first | apply Kd.S_alloc | apply Kd.S_drewN | apply Kd.S_drew)); exact HO_3.out) hb); have n1_ := Aside0.mk (Kd.S_below (by (with_reducible repeat (first | apply Kd.S_alloc | apply Kd.S_drewN | apply Kd.S_drew)); exact HO_4.out) hb); have n2_ := Aside0.mk (Kd.V_below (by (with_reducible repeat (first | apply Kd.V_alloc | apply Kd.V_drewN | apply Kd.V_drew)); exact HO_5.out) hb); have n3_ := Aside0.mk (Kd.S_below (by (with_reducible repeat (first | apply Kd.S_alloc | apply Kd.S_drewN | apply Kd.S_drew)); exact HO_7.out) hb); have n4_ := Aside0.mk (below_step (by repeat (first | (with_reducible first | exact HB.out | apply below_alloc | apply pw_below_drewN | apply below_drew1) | exact HB.out)) hb); clear HO_3; clear HO_4; clear HO_5; clear HO_7; clear HB; have HO_3 := n0_; have HO_4 := n1_; have HO_5 := n2_; have HO_7 := n3_; have HB := n4_; clear n0_ n1_ n2_ n3_ n4_; (try clear hb); (try clear hb2); (try clear hk); (try clear hi)))
      all_goals go_ret
      all_goals exact ⟨by first | rfl | (simp [errW_none, errW_some] <;> rfl) | (simp [*, errW_none, errW_some] <;> rfl), by repeat (first | (with_reducible first | exact HB.out | apply below_alloc | apply pw_below_drewN | apply below_drew1) | exact HB.out)⟩
     ·rw [if_neg c22] at H
      have c22b0 : (t245 == t247) = false := by simpa using c22
      (try (have c22b1 : decide (t245 = t247) = false := by simpa using c22))
      (try (have c22b2 : (t245 == t247) = false := by simpa using c22))
      (try (have c22b3 : ¬ (t245 = t247) := by simpa using c22))
      clear c22
      obtain rfl := Option.some.inj H
      go_wp2
      all_goals go_ret
      all_goals exact ⟨by first | rfl | (simp [errW_none, errW_some] <;> rfl) | (simp [*, errW_none, errW_some] <;> rfl), by repeat (first | (with_reducible first | exact HB.out | apply below_alloc | apply pw_below_drewN | apply below_drew1) | exact HB.out)⟩
    ·replace c21 := Bool.eq_false_iff.mpr c21
     subst c21
     have H1 : (laws_FnMerge.l0 kj5 t236 t237 t242 0 0) = some r := by rw [if_neg (show ¬ (false = true) by decide)] at H; exact H
     clear H
     have H := H1
     clear H1
     have H' := Aside0.mk H
     clear H
     go_wp2
     go_loopg [9, 10] kj5 (fun kq v9 v10 w' => ∃ (x9_2 : Int) (x10_2 : Int), v9 = .int .i64 x9_2 ∧ v10 = .int .i64 x10_2 ∧ Aside0 (laws_FnMerge.l0 kq t236 t237 t242 x9_2 x10_2 = some r) ∧ Aside0 (kq ≤ kj5) ∧ Aside0 (Kd.S k41 41 w' w.heap.size (fun k_ => some k_ ≠ ((.slice Ao9 t237.length co9) : Value).ownBlock) (.slice Ao8 t236.length co8) t236) ∧ Aside0 (Kd.S k41 41 w' w.heap.size (fun k_ => some k_ ≠ ((.slice Ao8 t236.length co8) : Value).ownBlock) (.slice Ao9 t237.length co9) t237) ∧ Aside0 (Kd.V k41 41 w' w.heap.size (fun k_ => some k_ ≠ ((.slice Ao8 t236.length co8) : Value).ownBlock ∧ some k_ ≠ ((.slice Ao9 t237.length co9) : Value).ownBlock) v243 t242) ∧ Aside0 (Below w.heap.size w w'))
     case atStart => exact ⟨(0), (0), (by first | rfl | (simp; done) | (simp [*]; done)), (by first | rfl | (simp; done) | (simp [*]; done)), H', ⟨Nat.le_refl _⟩, ⟨by (with_reducible repeat (first | apply Kd.S_alloc | apply Kd.S_drewN | apply Kd.S_drew)); exact Kd.S_mono HO_3.out (fun _ hk => hk.1)⟩, ⟨by (with_reducible repeat (first | apply Kd.S_alloc | apply Kd.S_drewN | apply Kd.S_drew)); exact Kd.S_mono HO_4.out (fun _ hk => hk.1)⟩, ⟨by (with_reducible repeat (first | apply Kd.V_alloc | apply Kd.V_drewN | apply Kd.V_drew)); exact Kd.V_mono HO_5.out (fun _ hk => ⟨hk.1, hk.2.1⟩)⟩, ⟨by repeat (first | (with_reducible first | exact HB.out | apply below_alloc | apply pw_below_drewN | apply below_drew1) | exact HB.out)⟩⟩
     case round =>
      clear H'
      try clear c1
      try clear c2
      try clear c2b0
      try clear c2b1
      try clear p2
      try clear c3
      try clear c11
      try clear c12
      try clear c12b0
      try clear c12b1
      try clear c12b2
      try clear c14
      try clear c21
      try clear c22
      try clear c22b0
      try clear c22b1
      try clear c22b2
      try clear p2
      obtain ⟨x9_2, x10_2, rfl, rfl, HA, HK2, HO_3, HO_4, HO_5, HB⟩ := hrel
      cases gk with
      | zero => exact absurd HA.out (by simp [laws_FnMerge.l0])
      | succ k2 =>
       have H := HA.out
       clear HA
       simp only [laws_FnMerge.l0] at H
       have HC27 := Aside0.mk H
       clear H
       go_upto_region 10 with (fail)
       go_cut [61] (fun v61 wc => ∃ (kq : Nat) (x61_26 : Bool), v61 = .bool x61_26 ∧ Aside0 (laws_FnMerge.j2 kq t236 t237 t242 x9_2 x10_2 x61_26 = some r) ∧ Aside0 (kq ≤ k2) ∧ Aside0 (Kd.S k41 41 wc w.heap.size (fun k_ => some k_ ≠ ((.slice Ao9 t237.length co9) : Value).ownBlock) (.slice Ao8 t236.length co8) t236) ∧ Aside0 (Kd.S k41 41 wc w.heap.size (fun k_ => some k_ ≠ ((.slice Ao8 t236.length co8) : Value).ownBlock) (.slice Ao9 t237.length co9) t237) ∧ Aside0 (Kd.V k41 41 wc w.heap.size (fun k_ => some k_ ≠ ((.slice Ao8 t236.length co8) : Value).ownBlock ∧ some k_ ≠ ((.slice Ao9 t237.length co9) : Value).ownBlock) v243 t242) ∧ Aside0 (Below w.heap.size w wc))
       case first =>
        have H := HC27.out
        clear HC27
        by_cases c28 : x10_2 < (t242.length : Int)
        ·rw [if_pos c28] at H
         have c28b0 : decide (x10_2 < (t242.length : Int)) = true := decide_eq_true c28
         clear c28
         (first | rw [c28b0] | (simp only [i64_w, i32_w]; rw [c28b0]) | skip)
         have H' := Aside0.mk H
         clear H
         obtain ⟨Ao29, co29, eo29⟩ := Kd.V_slice HO_5.out
         subst eo29
         go_wp2
         go_meet
         case rel => exact ⟨_, (decide (x9_2 < (t236.length : Int))), (by first | rfl | (simp; done) | (simp [*]; done)), H', ⟨by have := HJ5.out; have := HK2.out; first | omega | exact Nat.le_refl _⟩, ⟨by (with_reducible repeat (first | apply Kd.S_alloc | apply Kd.S_drewN | apply Kd.S_drew)); exact HO_3.out⟩, ⟨by (with_reducible repeat (first | apply Kd.S_alloc | apply Kd.S_drewN | apply Kd.S_drew)); exact HO_4.out⟩, ⟨by (with_reducible repeat (first | apply Kd.V_alloc | apply Kd.V_drewN | apply Kd.V_drew)); exact HO_5.out⟩, ⟨by repeat (first | (with_reducible first | exact HB.out | apply below_alloc | apply pw_below_drewN | apply below_drew1) | exact HB.out)⟩⟩
        ·rw [if_neg c28] at H
         have c28b0 : decide (x10_2 < (t242.length : Int)) = false := decide_eq_false c28
         clear c28
         (first | rw [c28b0] | (simp only [i64_w, i32_w]; rw [c28b0]) | skip)
         have H' := Aside0.mk H
         clear H
         obtain ⟨Ao30, co30, eo30⟩ := Kd.V_slice HO_5.out
         subst eo30
         go_wp2
         go_meet
         case rel => exact ⟨_, (false), (by first | rfl | (simp; done) | (simp [*]; done)), H', ⟨by have := HJ5.out; have := HK2.out; first | omega | exact Nat.le_refl _⟩, ⟨by (with_reducible repeat (first | apply Kd.S_alloc | apply Kd.S_drewN | apply Kd.S_drew)); exact HO_3.out⟩, ⟨by (with_reducible repeat (first | apply Kd.S_alloc | apply Kd.S_drewN | apply Kd.S_drew)); exact HO_4.out⟩, ⟨by (with_reducible repeat (first | apply Kd.V_alloc | apply Kd.V_drewN | apply Kd.V_drew)); exact HO_5.out⟩, ⟨by repeat (first | (with_reducible first | exact HB.out | apply below_alloc | apply pw_below_drewN | apply below_drew1) | exact HB.out)⟩⟩
       case rest =>
        clear HC27
        try clear c1
        try clear c2
        try clear c2b0
        try clear c2b1
        try clear p2
        try clear c3
        try clear c11
        try clear c12
        try clear c12b0
        try clear c12b1
        try clear c12b2
        try clear c14
        try clear c21
        try clear c22
        try clear c22b0
        try clear c22b1
        try clear c22b2
        try clear c28
        try clear c28b0
        try clear p2
        obtain ⟨kq, x61_26, rfl, HA, HJ26, HO_3, HO_4, HO_5, HB⟩ := hcut
        cases kq with
        | zero => exact absurd HA.out (by simp [laws_FnMerge.j2])
        | succ kj26 =>
         have H := HA.out
         clear HA
         simp only [laws_FnMerge.j2] at H
         by_cases c31 : x61_26 = true
         ·subst c31
          have H1 : (if 0 ≤ x10_2 then (if x10_2 < (t242.length : Int) then (if 0 ≤ x9_2 then (if x9_2 < (t236.length : Int) then ((laws_sameRecord.f kj26 ((rd_T41 t242 x10_2).f0) ((rd_T41 t242 x10_2).f1) ((rd_T41 t242 x10_2).f2) ((rd_T41 t242 x10_2).f3) ((rd_T41 t242 x10_2).f4) ((rd_T41 t242 x10_2).f5) ((rd_T41 t236 x9_2).f0) ((rd_T41 t236 x9_2).f1) ((rd_T41 t236 x9_2).f2) ((rd_T41 t236 x9_2).f3) ((rd_T41 t236 x9_2).f4) ((rd_T41 t236 x9_2).f5)).bind fun t254 => (if t254 = true then (laws_FnMerge.l0 kj26 t236 t237 t242 (wrap64 (x9_2 + 1)) (wrap64 (x10_2 + 1))) else (laws_FnMerge.l0 kj26 t236 t237 t242 x9_2 (wrap64 (x10_2 + 1))))) else (none)) else (none)) else (none)) else (none)) = some r := by rw [if_pos rfl] at H; exact H
          clear H
          have H := H1
          clear H1
          by_cases c32 : 0 ≤ x10_2
          ·rw [if_pos c32] at H
           have c32b0 : decide (0 ≤ x10_2) = true := decide_eq_true c32
           clear c32
           by_cases c33 : x10_2 < (t242.length : Int)
           ·rw [if_pos c33] at H
            have c33b0 : decide (x10_2 < (t242.length : Int)) = true := decide_eq_true c33
            clear c33
            by_cases c34 : 0 ≤ x9_2
            ·rw [if_pos c34] at H
             have c34b0 : decide (0 ≤ x9_2) = true := decide_eq_true c34
             clear c34
             by_cases c35 : x9_2 < (t236.length : Int)
             ·rw [if_pos c35] at H
              have c35b0 : decide (x9_2 < (t236.length : Int)) = true := decide_eq_true c35
              clear c35
              replace H := Option.bind_eq_some_iff.mp H
              obtain ⟨t254, A360, H⟩ := H
              replace H : (if t254 = true then (laws_FnMerge.l0 kj26 t236 t237 t242 (wrap64 (x9_2 + 1)) (wrap64 (x10_2 + 1))) else (laws_FnMerge.l0 kj26 t236 t237 t242 x9_2 (wrap64 (x10_2 + 1)))) = some r := H
              have A36 := Aside0.mk A360
              clear A360
              by_cases c37 : t254 = true
              ·subst c37
               have H1 : (laws_FnMerge.l0 kj26 t236 t237 t242 (wrap64 (x9_2 + 1)) (wrap64 (x10_2 + 1))) = some r := by rw [if_pos rfl] at H; exact H
               clear H
               have H := H1
               clear H1
               have H' := Aside0.mk H
               clear H
               try go_wp2
               have n0_ := Aside0.mk (Kd.S_drew HO_3.out)
               have n1_ := Aside0.mk (Kd.S_drew HO_4.out)
               have n2_ := Aside0.mk (Kd.V_drew HO_5.out)
               have n3_ := Aside0.mk (below_drew1 HB.out)
               clear HO_3
               clear HO_4
               clear HO_5
               clear HB
               have HO_3 := n0_
               have HO_4 := n1_
               have HO_5 := n2_
               have HB := n3_
               clear n0_ n1_ n2_ n3_
               obtain ⟨Ao39, co39, eo39⟩ := Kd.V_slice HO_5.out
               (first | subst eo39 | (injection eo39 with f1_ f2_ f3_; have f4_ := f1_.symm; have f5_ := f3_.symm; clear f1_ f2_ f3_; subst f4_; subst f5_))
               have p252 : 0 ≤ (x10_2 : Int) := of_decide_eq_true (by first | (with_reducible assumption) | assumption)
               have q252 : x10_2 < (t242.length : Int) := of_decide_eq_true (by first | (with_reducible assumption) | assumption)
               obtain ⟨ad252, A252_3, c252_3, A252_5, c252_5, e252, hx252_0, hx252_1, hx252_2, hx252_3, hx252_4, hx252_5, hl252_3, hi252_3, hl252_5, hi252_5⟩ := at_T41 (Kd.V_reads' HO_5.out).2.2 x10_2 p252 q252
               cases e252
               obtain ⟨ce252, hce252, hMe252, hcc252⟩ := Kd.V_get HO_5.out z41 x10_2 p252 (by first | exact q252 | exact of_decide_eq_true (by first | (with_reducible assumption) | assumption) | (have e_ := (Kd.V_reads' HO_5.out).1; omega))
               obtain ⟨ua252_3, uc252_3, ua252_5, uc252_5, rfl, ul252_3, ge252_3, ul252_5, ge252_5⟩ := k41_openF hMe252
               have hv252_3 := hcc252 3 _ rfl
               rw [add_field _ _ 3 (by omega)] at hv252_3
               replace hv252_3 := Option.some.inj (hv252_3.symm.trans hx252_3)
               injection hv252_3 with hva_ hvn_ hvc_
               rw [hva_] at ge252_3
               rw [hvc_] at ul252_3
               have HL252_3 := Aside0.mk (show Kd.V (Kd.int .i64) 3 _ w.heap.size _ _ ((rd_T41 t242 x10_2).f3) from Kd.V_mk ul252_3 ge252_3)
               clear hva_ hvn_ hvc_ ge252_3 ul252_3
               have hv252_5 := hcc252 5 _ rfl
               rw [add_field _ _ 5 (by omega)] at hv252_5
               replace hv252_5 := Option.some.inj (hv252_5.symm.trans hx252_5)
               injection hv252_5 with hva_ hvn_ hvc_
               rw [hva_] at ge252_5
               rw [hvc_] at ul252_5
               have HL252_5 := Aside0.mk (show Kd.V (Kd.int .i64) 3 _ w.heap.size _ _ ((rd_T41 t242 x10_2).f5) from Kd.V_mk ul252_5 ge252_5)
               clear hva_ hvn_ hvc_ ge252_5 ul252_5
               clear hcc252 hce252
               have HR252_3 := Aside0.mk hi252_3
               have HC252_3 := Aside0.mk hl252_3
               clear hi252_3 hl252_3
               have HR252_5 := Aside0.mk hi252_5
               have HC252_5 := Aside0.mk hl252_5
               clear hi252_5 hl252_5
               replace p252 := eq_true p252
               replace q252 := eq_true q252
               have p253 : 0 ≤ (x9_2 : Int) := of_decide_eq_true (by first | (with_reducible assumption) | assumption)
               have q253 : x9_2 < (t236.length : Int) := of_decide_eq_true (by first | (with_reducible assumption) | assumption)
               obtain ⟨ad253, A253_3, c253_3, A253_5, c253_5, e253, hx253_0, hx253_1, hx253_2, hx253_3, hx253_4, hx253_5, hl253_3, hi253_3, hl253_5, hi253_5⟩ := at_T41 (Kd.S_reads' HO_3.out).2.2 x9_2 p253 q253
               cases e253
               obtain ⟨ce253, hce253, hMe253, hcc253⟩ := Kd.S_get HO_3.out z41 x9_2 p253 (by first | exact q253 | exact of_decide_eq_true (by first | (with_reducible assumption) | assumption) | (have e_ := (Kd.S_reads' HO_3.out).1; omega))
               obtain ⟨ve253_3, ve253_5, rfl, ge253_3, ge253_5⟩ := k41_openM hMe253
               have hv253_3 := hcc253 3 _ rfl
               rw [add_field _ _ 3 (by omega)] at hv253_3
               replace hv253_3 := Option.some.inj (hv253_3.symm.trans hx253_3)
               rw [hv253_3] at ge253_3
               have HL253_3 := Aside0.mk (show Kd.R (Kd.int .i64) 3 _ _ _ _ ((rd_T41 t236 x9_2).f3) from ge253_3)
               clear hv253_3 ge253_3
               have hv253_5 := hcc253 5 _ rfl
               rw [add_field _ _ 5 (by omega)] at hv253_5
               replace hv253_5 := Option.some.inj (hv253_5.symm.trans hx253_5)
               rw [hv253_5] at ge253_5
               have HL253_5 := Aside0.mk (show Kd.R (Kd.int .i64) 3 _ _ _ _ ((rd_T41 t236 x9_2).f5) from ge253_5)
               clear hv253_5 ge253_5
               clear hcc253 hce253
               have HR253_3 := Aside0.mk hi253_3
               have HC253_3 := Aside0.mk hl253_3
               clear hi253_3 hl253_3
               have HR253_5 := Aside0.mk hi253_5
               have HC253_5 := Aside0.mk hl253_5
               clear hi253_5 hl253_5
               replace p253 := eq_true p253
               replace q253 := eq_true q253
               refine start_ (n := 9) (S := fun w' => w'.cell? (ad252.add ((x10_2).toNat * 6)) = some (.int .i64 ((rd_T41 t242 x10_2).f0)) ∧ w'.cell? ⟨(ad252.add ((x10_2).toNat * 6)).block, (ad252.add ((x10_2).toNat * 6)).off + 1, none⟩ = some (.int .i64 ((rd_T41 t242 x10_2).f1)) ∧ w'.cell? ⟨(ad252.add ((x10_2).toNat * 6)).block, (ad252.add ((x10_2).toNat * 6)).off + 2, none⟩ = some (.bool ((rd_T41 t242 x10_2).f2)) ∧ w'.cell? ⟨(ad252.add ((x10_2).toNat * 6)).block, (ad252.add ((x10_2).toNat * 6)).off + 3, none⟩ = some (.slice A252_3 ((rd_T41 t242 x10_2).f3).length c252_3) ∧ w'.cell? ⟨(ad252.add ((x10_2).toNat * 6)).block, (ad252.add ((x10_2).toNat * 6)).off + 4, none⟩ = some (.bool ((rd_T41 t242 x10_2).f4)) ∧ w'.cell? ⟨(ad252.add ((x10_2).toNat * 6)).block, (ad252.add ((x10_2).toNat * 6)).off + 5, none⟩ = some (.slice A252_5 ((rd_T41 t242 x10_2).f5).length c252_5) ∧ w'.cell? (ad253.add ((x9_2).toNat * 6)) = some (.int .i64 ((rd_T41 t236 x9_2).f0)) ∧ w'.cell? ⟨(ad253.add ((x9_2).toNat * 6)).block, (ad253.add ((x9_2).toNat * 6)).off + 1, none⟩ = some (.int .i64 ((rd_T41 t236 x9_2).f1)) ∧ w'.cell? ⟨(ad253.add ((x9_2).toNat * 6)).block, (ad253.add ((x9_2).toNat * 6)).off + 2, none⟩ = some (.bool ((rd_T41 t236 x9_2).f2)) ∧ w'.cell? ⟨(ad253.add ((x9_2).toNat * 6)).block, (ad253.add ((x9_2).toNat * 6)).off + 3, none⟩ = some (.slice A253_3 ((rd_T41 t236 x9_2).f3).length c253_3) ∧ w'.cell? ⟨(ad253.add ((x9_2).toNat * 6)).block, (ad253.add ((x9_2).toNat * 6)).off + 4, none⟩ = some (.bool ((rd_T41 t236 x9_2).f4)) ∧ w'.cell? ⟨(ad253.add ((x9_2).toNat * 6)).block, (ad253.add ((x9_2).toNat * 6)).off + 5, none⟩ = some (.slice A253_5 ((rd_T41 t236 x9_2).f5).length c253_5)) (ds := []) #[false, false, false, false, false, false, false, false, false] (by kernel_rfl) rfl rfl ⟨hx252_0, hx252_1, hx252_2, hx252_3, hx252_4, hx252_5, hx253_0, hx253_1, hx253_2, hx253_3, hx253_4, hx253_5⟩ (fun hHeld => ?_); refine with_tabW laws_FnMerge.tab12 laws_FnMerge.bits12 (fun HT_ HW_ => ?_)
               generalize wc.drew = w38 at HO_3 HO_4 HO_5 HB HL252_3 HL252_5 HL253_3 HL253_5 HR252_3 HR252_5 HR253_3 HR253_5 hx252_0 hx252_1 hx252_2 hx252_3 hx252_4 hx252_5 hx253_0 hx253_1 hx253_2 hx253_3 hx253_4 hx253_5 hHeld ⊢
               refine pure_ (i := 0) (N := some 64) (v := ?_) (a' := ?_) #[true, false, false, false, false, false, false, false, false] rfl rfl (any_of HT_.out (by kernel_rfl)) (fun _ _ _ h => h) (Or.inl ⟨by rfl, ?_⟩) ?_ ?_
               rotate_left
               ·intro w'
                go_simp
                with_reducible rfl
               rotate_left
               ·simp only [Act.put, List.setIfInBounds_toArray, List.set_cons_zero, List.set_cons_succ, i64_w, i32_w]
                rfl
               refine pure_ (i := 1) (N := some 65) (v := ?_) (a' := ?_) #[true, true, false, false, false, false, false, false, false] rfl rfl (any_of HT_.out (by kernel_rfl)) (fun _ _ _ h => h) (Or.inl ⟨by rfl, ?_⟩) ?_ ?_
               rotate_left
               ·intro w'
                go_simp
                with_reducible rfl
               rotate_left
               ·simp only [Act.put, List.setIfInBounds_toArray, List.set_cons_zero, List.set_cons_succ, i64_w, i32_w]
                rfl
               refine pure_ (i := 2) (N := some 66) (v := ?_) (a' := ?_) #[true, true, true, false, false, false, false, false, false] rfl rfl (any_of HT_.out (by kernel_rfl)) (fun _ _ _ h => h) (Or.inl ⟨by rfl, ?_⟩) ?_ ?_
               rotate_left
               ·intro w'
                go_simp
                with_reducible rfl
               rotate_left
               ·simp only [Act.put, List.setIfInBounds_toArray, List.set_cons_zero, List.set_cons_succ, i64_w, i32_w]
                rfl
               refine pure_ (i := 4) (N := some 68) (v := ?_) (a' := ?_) #[true, true, true, false, true, false, false, false, false] rfl rfl (any_of HT_.out (by kernel_rfl)) (fun _ _ _ h => h) (Or.inl ⟨by rfl, ?_⟩) ?_ ?_
               rotate_left
               ·intro w'
                go_simp
                with_reducible rfl
               rotate_left
               ·simp only [Act.put, List.setIfInBounds_toArray, List.set_cons_zero, List.set_cons_succ, i64_w, i32_w]
                rfl
               refine pure_ (i := 5) (N := some 69) (v := ?_) (a' := ?_) #[true, true, true, false, true, true, false, false, false] rfl rfl (any_of HT_.out (by kernel_rfl)) (fun _ _ _ h => h) (Or.inl ⟨by rfl, ?_⟩) ?_ ?_
               rotate_left
               ·intro w'
                go_simp
                with_reducible rfl
               rotate_left
               ·simp only [Act.put, List.setIfInBounds_toArray, List.set_cons_zero, List.set_cons_succ, i64_w, i32_w]
                rfl
               refine pure_ (i := 6) (N := some 70) (v := ?_) (a' := ?_) #[true, true, true, false, true, true, true, false, false] rfl rfl (any_of HT_.out (by kernel_rfl)) (fun _ _ _ h => h) (Or.inl ⟨by rfl, ?_⟩) ?_ ?_
               rotate_left
               ·intro w'
                go_simp
                with_reducible rfl
               rotate_left
               ·simp only [Act.put, List.setIfInBounds_toArray, List.set_cons_zero, List.set_cons_succ, i64_w, i32_w]
                rfl
               refine take_ (i := 3) (N := some 67) (v := ?_) (a' := ?_) #[true, true, true, true, true, true, true, false, false] rfl rfl (take_ofW HT_.out HW_.out (by kernel_rfl)) (fun _ _ _ h => h) (Or.inl ⟨by rfl, ?_⟩) hHeld ?_ ?_
               rotate_left
               ·rintro w' ⟨s0, s1, s2, s3, s4, s5, s6, s7, s8, s9, s10, s11⟩
                go_simp
                with_reducible rfl
               rotate_left
               ·simp only [Act.put, List.setIfInBounds_toArray, List.set_cons_zero, List.set_cons_succ, i64_w, i32_w]
                rfl
               refine take_ (i := 7) (N := some 71) (v := ?_) (a' := ?_) #[true, true, true, true, true, true, true, true, false] rfl rfl (take_ofW HT_.out HW_.out (by kernel_rfl)) (fun _ _ _ h => h) (Or.inl ⟨by rfl, ?_⟩) hHeld ?_ ?_
               rotate_left
               ·rintro w' ⟨s0, s1, s2, s3, s4, s5, s6, s7, s8, s9, s10, s11⟩
                go_simp
                with_reducible rfl
               rotate_left
               ·simp only [Act.put, List.setIfInBounds_toArray, List.set_cons_zero, List.set_cons_succ, i64_w, i32_w]
                rfl
               refine one_ (i := 8) (N := some 72) #[true, true, true, true, true, true, true, true, true] rfl rfl (one_of HT_.out (by kernel_rfl)) (by decide) (fun K hK => ?_)
               refine goes_ Try.func25 (by kernel_rfl) rfl #[.agg #[.int .i64 ((rd_T41 t242 x10_2).f0), .int .i64 ((rd_T41 t242 x10_2).f1), .bool ((rd_T41 t242 x10_2).f2), .slice A252_3 ((rd_T41 t242 x10_2).f3).length c252_3, .bool ((rd_T41 t242 x10_2).f4), .slice A252_5 ((rd_T41 t242 x10_2).f5).length c252_5], .agg #[.int .i64 ((rd_T41 t236 x9_2).f0), .int .i64 ((rd_T41 t236 x9_2).f1), .bool ((rd_T41 t236 x9_2).f2), .slice A253_3 ((rd_T41 t236 x9_2).f3).length c253_3, .bool ((rd_T41 t236 x9_2).f4), .slice A253_5 ((rd_T41 t236 x9_2).f5).length c253_5]] (by rfl) rfl rfl (by (try simp only [List.map_toArray, List.map_cons, List.map_nil]); first | done | rfl | (simp only [List.length_drop, List.length_take]; rfl)) ?_
               with_reducible refine (laws_sameRecord.calls kj26 ((rd_T41 t242 x10_2).f0) ((rd_T41 t242 x10_2).f1) ((rd_T41 t242 x10_2).f2) _ _ ((rd_T41 t242 x10_2).f3) ((rd_T41 t242 x10_2).f4) _ _ ((rd_T41 t242 x10_2).f5) ((rd_T41 t236 x9_2).f0) ((rd_T41 t236 x9_2).f1) ((rd_T41 t236 x9_2).f2) _ _ ((rd_T41 t236 x9_2).f3) ((rd_T41 t236 x9_2).f4) _ _ ((rd_T41 t236 x9_2).f5) true _ ?side1 ?side2 ?side3 ?side4 ?side5 ?side6 ?side7 ?side8 A36.out).mono ?_
               (case side1 => repeat (first | exact (by repeat (first | (with_reducible exact HR252_3.out) | (with_reducible refine Kd.C_alloc ?_ _) | (with_reducible refine Kd.C_drewN ?_ _) | (with_reducible refine Kd.C_drew ?_) | exact HR252_3.out)) | (with_reducible refine Kd.C_alloc ?_ _) | (with_reducible refine Kd.C_drewN ?_ _) | (with_reducible refine Kd.C_drew ?_)))
               (case side2 => exact HC252_3.out)
               (case side3 => repeat (first | exact (by repeat (first | (with_reducible exact HR252_5.out) | (with_reducible refine Kd.C_alloc ?_ _) | (with_reducible refine Kd.C_drewN ?_ _) | (with_reducible refine Kd.C_drew ?_) | exact HR252_5.out)) | (with_reducible refine Kd.C_alloc ?_ _) | (with_reducible refine Kd.C_drewN ?_ _) | (with_reducible refine Kd.C_drew ?_)))
               (case side4 => exact HC252_5.out)
               (case side5 => repeat (first | exact (by repeat (first | (with_reducible exact HR253_3.out) | (with_reducible refine Kd.C_alloc ?_ _) | (with_reducible refine Kd.C_drewN ?_ _) | (with_reducible refine Kd.C_drew ?_) | exact HR253_3.out)) | (with_reducible refine Kd.C_alloc ?_ _) | (with_reducible refine Kd.C_drewN ?_ _) | (with_reducible refine Kd.C_drew ?_)))
               (case side6 => exact HC253_3.out)
               (case side7 => repeat (first | exact (by repeat (first | (with_reducible exact HR253_5.out) | (with_reducible refine Kd.C_alloc ?_ _) | (with_reducible refine Kd.C_drewN ?_ _) | (with_reducible refine Kd.C_drew ?_) | exact HR253_5.out)) | (with_reducible refine Kd.C_alloc ?_ _) | (with_reducible refine Kd.C_drewN ?_ _) | (with_reducible refine Kd.C_drew ?_)))
               (case side8 => exact HC253_5.out)
               rintro e w40 ⟨rfl, hb⟩
               have HS0_ := (hb.cell (World.block_lt_of_cell? _ _ (hHeld.1))).trans (hHeld.1)
               have HS1_ := (hb.cell (World.block_lt_of_cell? _ _ (hHeld.2.1))).trans (hHeld.2.1)
               have HS2_ := (hb.cell (World.block_lt_of_cell? _ _ (hHeld.2.2.1))).trans (hHeld.2.2.1)
               have HS3_ := (hb.cell (World.block_lt_of_cell? _ _ (hHeld.2.2.2.1))).trans (hHeld.2.2.2.1)
               have HS4_ := (hb.cell (World.block_lt_of_cell? _ _ (hHeld.2.2.2.2.1))).trans (hHeld.2.2.2.2.1)
               have HS5_ := (hb.cell (World.block_lt_of_cell? _ _ (hHeld.2.2.2.2.2.1))).trans (hHeld.2.2.2.2.2.1)
               have HS6_ := (hb.cell (World.block_lt_of_cell? _ _ (hHeld.2.2.2.2.2.2.1))).trans (hHeld.2.2.2.2.2.2.1)
               have HS7_ := (hb.cell (World.block_lt_of_cell? _ _ (hHeld.2.2.2.2.2.2.2.1))).trans (hHeld.2.2.2.2.2.2.2.1)
               have HS8_ := (hb.cell (World.block_lt_of_cell? _ _ (hHeld.2.2.2.2.2.2.2.2.1))).trans (hHeld.2.2.2.2.2.2.2.2.1)
               have HS9_ := (hb.cell (World.block_lt_of_cell? _ _ (hHeld.2.2.2.2.2.2.2.2.2.1))).trans (hHeld.2.2.2.2.2.2.2.2.2.1)
               have HS10_ := (hb.cell (World.block_lt_of_cell? _ _ (hHeld.2.2.2.2.2.2.2.2.2.2.1))).trans (hHeld.2.2.2.2.2.2.2.2.2.2.1)
               have HS11_ := (hb.cell (World.block_lt_of_cell? _ _ (hHeld.2.2.2.2.2.2.2.2.2.2.2))).trans (hHeld.2.2.2.2.2.2.2.2.2.2.2)
               refine ⟨_, rfl, ?_⟩
               have n0_ := Aside0.mk (Kd.S_below (by (with_reducible repeat (first | apply Kd.S_alloc | apply Kd.S_drewN | apply Kd.S_drew)); exact HO_3.out) hb)
               have n1_ := Aside0.mk (Kd.S_below (by (with_reducible repeat (first | apply Kd.S_alloc | apply Kd.S_drewN | apply Kd.S_drew)); exact HO_4.out) hb)
               have n2_ := Aside0.mk (Kd.V_below (by (with_reducible repeat (first | apply Kd.V_alloc | apply Kd.V_drewN | apply Kd.V_drew)); exact HO_5.out) hb)
               have n3_ := Aside0.mk (Kd.V_below (by (with_reducible repeat (first | apply Kd.V_alloc | apply Kd.V_drewN | apply Kd.V_drew)); exact HL252_3.out) hb)
               have n4_ := Aside0.mk (Kd.V_below (by (with_reducible repeat (first | apply Kd.V_alloc | apply Kd.V_drewN | apply Kd.V_drew)); exact HL252_5.out) hb)
               have n5_ := Aside0.mk (Kd.R_below (by (with_reducible repeat (first | apply Kd.R_alloc | apply Kd.R_drewN | apply Kd.R_drew)); exact HL253_3.out) hb)
               have n6_ := Aside0.mk (Kd.R_below (by (with_reducible repeat (first | apply Kd.R_alloc | apply Kd.R_drewN | apply Kd.R_drew)); exact HL253_5.out) hb)
               have n7_ := Aside0.mk (Kd.C_below (by repeat (first | (with_reducible exact HR252_3.out) | (with_reducible refine Kd.C_alloc ?_ _) | (with_reducible refine Kd.C_drewN ?_ _) | (with_reducible refine Kd.C_drew ?_) | exact HR252_3.out)) hb)
               have n8_ := Aside0.mk (Kd.C_below (by repeat (first | (with_reducible exact HR252_5.out) | (with_reducible refine Kd.C_alloc ?_ _) | (with_reducible refine Kd.C_drewN ?_ _) | (with_reducible refine Kd.C_drew ?_) | exact HR252_5.out)) hb)
               have n9_ := Aside0.mk (Kd.C_below (by repeat (first | (with_reducible exact HR253_3.out) | (with_reducible refine Kd.C_alloc ?_ _) | (with_reducible refine Kd.C_drewN ?_ _) | (with_reducible refine Kd.C_drew ?_) | exact HR253_3.out)) hb)
               have n10_ := Aside0.mk (Kd.C_below (by repeat (first | (with_reducible exact HR253_5.out) | (with_reducible refine Kd.C_alloc ?_ _) | (with_reducible refine Kd.C_drewN ?_ _) | (with_reducible refine Kd.C_drew ?_) | exact HR253_5.out)) hb)
               have n11_ := Aside0.mk (below_step (by repeat (first | (with_reducible first | exact HB.out | apply below_alloc | apply pw_below_drewN | apply below_drew1) | exact HB.out)) hb)
               clear HO_3
               clear HO_4
               clear HO_5
               clear HL252_3
               clear HL252_5
               clear HL253_3
               clear HL253_5
               clear HR252_3
               clear HR252_5
               clear HR253_3
               clear HR253_5
               clear HB
               have HO_3 := n0_
               have HO_4 := n1_
               have HO_5 := n2_
               have HL252_3 := n3_
               have HL252_5 := n4_
               have HL253_3 := n5_
               have HL253_5 := n6_
               have HR252_3 := n7_
               have HR252_5 := n8_
               have HR253_3 := n9_
               have HR253_5 := n10_
               have HB := n11_
               clear n0_ n1_ n2_ n3_ n4_ n5_ n6_ n7_ n8_ n9_ n10_ n11_
               (try clear hb)
               (try clear hb2)
               (try clear hk)
               (try clear hi)
               refine hK.out _ _ ⟨HS0_, HS1_, HS2_, HS3_, HS4_, HS5_, HS6_, HS7_, HS8_, HS9_, HS10_, HS11_⟩ (fun hHeld => ?_)
               clear hK K
               refine norm_ (a' := ?_) ?_ ?_
               rotate_left
               ·show Act.put _ (some 72) _ = _
                simp only [Act.put, List.setIfInBounds_toArray, List.set_cons_zero, List.set_cons_succ, i64_w, i32_w]
                rfl
               refine done_ (done_of HT_.out (by kernel_rfl)) ?_
               try go_wp2
               go_roundg kj26
               case measure => have := HJ5.out; have := HK2.out; have := HJ26.out; omega
               case rel => exact ⟨(wrap64 (x9_2 + 1)), (wrap64 (x10_2 + 1)), (by first | rfl | (simp; done) | (simp [*]; done)), (by first | rfl | (simp; done) | (simp [*]; done)), H', ⟨by have := HJ5.out; have := HK2.out; have := HJ26.out; omega⟩, ⟨by (with_reducible repeat (first | apply Kd.S_alloc | apply Kd.S_drewN | apply Kd.S_drew)); exact HO_3.out⟩, ⟨by (with_reducible repeat (first | apply Kd.S_alloc | apply Kd.S_drewN | apply Kd.S_drew)); exact HO_4.out⟩, ⟨by (with_reducible repeat (first | apply Kd.V_alloc | apply Kd.V_drewN | apply Kd.V_drew)); exact HO_5.out⟩, ⟨by repeat (first | (with_reducible first | exact HB.out | apply below_alloc | apply pw_below_drewN | apply below_drew1) | exact HB.out)⟩⟩
              ·replace c37 := Bool.eq_false_iff.mpr c37
               subst c37
               have H1 : (laws_FnMerge.l0 kj26 t236 t237 t242 x9_2 (wrap64 (x10_2 + 1))) = some r := by rw [if_neg (show ¬ (false = true) by decide)] at H; exact H
               clear H
               have H := H1
               clear H1
               have H' := Aside0.mk H
               clear H
               try go_wp2
               have n0_ := Aside0.mk (Kd.S_drew HO_3.out)
               have n1_ := Aside0.mk (Kd.S_drew HO_4.out)
               have n2_ := Aside0.mk (Kd.V_drew HO_5.out)
               have n3_ := Aside0.mk (below_drew1 HB.out)
               clear HO_3
               clear HO_4
               clear HO_5
               clear HB
               have HO_3 := n0_
               have HO_4 := n1_
               have HO_5 := n2_
               have HB := n3_
               clear n0_ n1_ n2_ n3_
               obtain ⟨Ao42, co42, eo42⟩ := Kd.V_slice HO_5.out
               (first | subst eo42 | (injection eo42 with f1_ f2_ f3_; have f4_ := f1_.symm; have f5_ := f3_.symm; clear f1_ f2_ f3_; subst f4_; subst f5_))
               have p252 : 0 ≤ (x10_2 : Int) := of_decide_eq_true (by first | (with_reducible assumption) | assumption)
               have q252 : x10_2 < (t242.length : Int) := of_decide_eq_true (by first | (with_reducible assumption) | assumption)
               obtain ⟨ad252, A252_3, c252_3, A252_5, c252_5, e252, hx252_0, hx252_1, hx252_2, hx252_3, hx252_4, hx252_5, hl252_3, hi252_3, hl252_5, hi252_5⟩ := at_T41 (Kd.V_reads' HO_5.out).2.2 x10_2 p252 q252
               cases e252
               obtain ⟨ce252, hce252, hMe252, hcc252⟩ := Kd.V_get HO_5.out z41 x10_2 p252 (by first | exact q252 | exact of_decide_eq_true (by first | (with_reducible assumption) | assumption) | (have e_ := (Kd.V_reads' HO_5.out).1; omega))
               obtain ⟨ua252_3, uc252_3, ua252_5, uc252_5, rfl, ul252_3, ge252_3, ul252_5, ge252_5⟩ := k41_openF hMe252
               have hv252_3 := hcc252 3 _ rfl
               rw [add_field _ _ 3 (by omega)] at hv252_3
               replace hv252_3 := Option.some.inj (hv252_3.symm.trans hx252_3)
               injection hv252_3 with hva_ hvn_ hvc_
               rw [hva_] at ge252_3
               rw [hvc_] at ul252_3
               have HL252_3 := Aside0.mk (show Kd.V (Kd.int .i64) 3 _ w.heap.size _ _ ((rd_T41 t242 x10_2).f3) from Kd.V_mk ul252_3 ge252_3)
               clear hva_ hvn_ hvc_ ge252_3 ul252_3
               have hv252_5 := hcc252 5 _ rfl
               rw [add_field _ _ 5 (by omega)] at hv252_5
               replace hv252_5 := Option.some.inj (hv252_5.symm.trans hx252_5)
               injection hv252_5 with hva_ hvn_ hvc_
               rw [hva_] at ge252_5
               rw [hvc_] at ul252_5
               have HL252_5 := Aside0.mk (show Kd.V (Kd.int .i64) 3 _ w.heap.size _ _ ((rd_T41 t242 x10_2).f5) from Kd.V_mk ul252_5 ge252_5)
               clear hva_ hvn_ hvc_ ge252_5 ul252_5
               clear hcc252 hce252
               have HR252_3 := Aside0.mk hi252_3
               have HC252_3 := Aside0.mk hl252_3
               clear hi252_3 hl252_3
               have HR252_5 := Aside0.mk hi252_5
               have HC252_5 := Aside0.mk hl252_5
               clear hi252_5 hl252_5
               replace p252 := eq_true p252
               replace q252 := eq_true q252
               have p253 : 0 ≤ (x9_2 : Int) := of_decide_eq_true (by first | (with_reducible assumption) | assumption)
               have q253 : x9_2 < (t236.length : Int) := of_decide_eq_true (by first | (with_reducible assumption) | assumption)
               obtain ⟨ad253, A253_3, c253_3, A253_5, c253_5, e253, hx253_0, hx253_1, hx253_2, hx253_3, hx253_4, hx253_5, hl253_3, hi253_3, hl253_5, hi253_5⟩ := at_T41 (Kd.S_reads' HO_3.out).2.2 x9_2 p253 q253
               cases e253
               obtain ⟨ce253, hce253, hMe253, hcc253⟩ := Kd.S_get HO_3.out z41 x9_2 p253 (by first | exact q253 | exact of_decide_eq_true (by first | (with_reducible assumption) | assumption) | (have e_ := (Kd.S_reads' HO_3.out).1; omega))
               obtain ⟨ve253_3, ve253_5, rfl, ge253_3, ge253_5⟩ := k41_openM hMe253
               have hv253_3 := hcc253 3 _ rfl
               rw [add_field _ _ 3 (by omega)] at hv253_3
               replace hv253_3 := Option.some.inj (hv253_3.symm.trans hx253_3)
               rw [hv253_3] at ge253_3
               have HL253_3 := Aside0.mk (show Kd.R (Kd.int .i64) 3 _ _ _ _ ((rd_T41 t236 x9_2).f3) from ge253_3)
               clear hv253_3 ge253_3
               have hv253_5 := hcc253 5 _ rfl
               rw [add_field _ _ 5 (by omega)] at hv253_5
               replace hv253_5 := Option.some.inj (hv253_5.symm.trans hx253_5)
               rw [hv253_5] at ge253_5
               have HL253_5 := Aside0.mk (show Kd.R (Kd.int .i64) 3 _ _ _ _ ((rd_T41 t236 x9_2).f5) from ge253_5)
               clear hv253_5 ge253_5
               clear hcc253 hce253
               have HR253_3 := Aside0.mk hi253_3
               have HC253_3 := Aside0.mk hl253_3
               clear hi253_3 hl253_3
               have HR253_5 := Aside0.mk hi253_5
               have HC253_5 := Aside0.mk hl253_5
               clear hi253_5 hl253_5
               replace p253 := eq_true p253
               replace q253 := eq_true q253
               refine start_ (n := 9) (S := fun w' => w'.cell? (ad252.add ((x10_2).toNat * 6)) = some (.int .i64 ((rd_T41 t242 x10_2).f0)) ∧ w'.cell? ⟨(ad252.add ((x10_2).toNat * 6)).block, (ad252.add ((x10_2).toNat * 6)).off + 1, none⟩ = some (.int .i64 ((rd_T41 t242 x10_2).f1)) ∧ w'.cell? ⟨(ad252.add ((x10_2).toNat * 6)).block, (ad252.add ((x10_2).toNat * 6)).off + 2, none⟩ = some (.bool ((rd_T41 t242 x10_2).f2)) ∧ w'.cell? ⟨(ad252.add ((x10_2).toNat * 6)).block, (ad252.add ((x10_2).toNat * 6)).off + 3, none⟩ = some (.slice A252_3 ((rd_T41 t242 x10_2).f3).length c252_3) ∧ w'.cell? ⟨(ad252.add ((x10_2).toNat * 6)).block, (ad252.add ((x10_2).toNat * 6)).off + 4, none⟩ = some (.bool ((rd_T41 t242 x10_2).f4)) ∧ w'.cell? ⟨(ad252.add ((x10_2).toNat * 6)).block, (ad252.add ((x10_2).toNat * 6)).off + 5, none⟩ = some (.slice A252_5 ((rd_T41 t242 x10_2).f5).length c252_5) ∧ w'.cell? (ad253.add ((x9_2).toNat * 6)) = some (.int .i64 ((rd_T41 t236 x9_2).f0)) ∧ w'.cell? ⟨(ad253.add ((x9_2).toNat * 6)).block, (ad253.add ((x9_2).toNat * 6)).off + 1, none⟩ = some (.int .i64 ((rd_T41 t236 x9_2).f1)) ∧ w'.cell? ⟨(ad253.add ((x9_2).toNat * 6)).block, (ad253.add ((x9_2).toNat * 6)).off + 2, none⟩ = some (.bool ((rd_T41 t236 x9_2).f2)) ∧ w'.cell? ⟨(ad253.add ((x9_2).toNat * 6)).block, (ad253.add ((x9_2).toNat * 6)).off + 3, none⟩ = some (.slice A253_3 ((rd_T41 t236 x9_2).f3).length c253_3) ∧ w'.cell? ⟨(ad253.add ((x9_2).toNat * 6)).block, (ad253.add ((x9_2).toNat * 6)).off + 4, none⟩ = some (.bool ((rd_T41 t236 x9_2).f4)) ∧ w'.cell? ⟨(ad253.add ((x9_2).toNat * 6)).block, (ad253.add ((x9_2).toNat * 6)).off + 5, none⟩ = some (.slice A253_5 ((rd_T41 t236 x9_2).f5).length c253_5)) (ds := []) #[false, false, false, false, false, false, false, false, false] (by kernel_rfl) rfl rfl ⟨hx252_0, hx252_1, hx252_2, hx252_3, hx252_4, hx252_5, hx253_0, hx253_1, hx253_2, hx253_3, hx253_4, hx253_5⟩ (fun hHeld => ?_); refine with_tabW laws_FnMerge.tab12 laws_FnMerge.bits12 (fun HT_ HW_ => ?_)
               generalize wc.drew = w41 at HO_3 HO_4 HO_5 HB HL252_3 HL252_5 HL253_3 HL253_5 HR252_3 HR252_5 HR253_3 HR253_5 hx252_0 hx252_1 hx252_2 hx252_3 hx252_4 hx252_5 hx253_0 hx253_1 hx253_2 hx253_3 hx253_4 hx253_5 hHeld ⊢
               refine pure_ (i := 0) (N := some 64) (v := ?_) (a' := ?_) #[true, false, false, false, false, false, false, false, false] rfl rfl (any_of HT_.out (by kernel_rfl)) (fun _ _ _ h => h) (Or.inl ⟨by rfl, ?_⟩) ?_ ?_
               rotate_left
               ·intro w'
                go_simp
                with_reducible rfl
               rotate_left
               ·simp only [Act.put, List.setIfInBounds_toArray, List.set_cons_zero, List.set_cons_succ, i64_w, i32_w]
                rfl
               refine pure_ (i := 1) (N := some 65) (v := ?_) (a' := ?_) #[true, true, false, false, false, false, false, false, false] rfl rfl (any_of HT_.out (by kernel_rfl)) (fun _ _ _ h => h) (Or.inl ⟨by rfl, ?_⟩) ?_ ?_
               rotate_left
               ·intro w'
                go_simp
                with_reducible rfl
               rotate_left
               ·simp only [Act.put, List.setIfInBounds_toArray, List.set_cons_zero, List.set_cons_succ, i64_w, i32_w]
                rfl
               refine pure_ (i := 2) (N := some 66) (v := ?_) (a' := ?_) #[true, true, true, false, false, false, false, false, false] rfl rfl (any_of HT_.out (by kernel_rfl)) (fun _ _ _ h => h) (Or.inl ⟨by rfl, ?_⟩) ?_ ?_
               rotate_left
               ·intro w'
                go_simp
                with_reducible rfl
               rotate_left
               ·simp only [Act.put, List.setIfInBounds_toArray, List.set_cons_zero, List.set_cons_succ, i64_w, i32_w]
                rfl
               refine pure_ (i := 4) (N := some 68) (v := ?_) (a' := ?_) #[true, true, true, false, true, false, false, false, false] rfl rfl (any_of HT_.out (by kernel_rfl)) (fun _ _ _ h => h) (Or.inl ⟨by rfl, ?_⟩) ?_ ?_
               rotate_left
               ·intro w'
                go_simp
                with_reducible rfl
               rotate_left
               ·simp only [Act.put, List.setIfInBounds_toArray, List.set_cons_zero, List.set_cons_succ, i64_w, i32_w]
                rfl
               refine pure_ (i := 5) (N := some 69) (v := ?_) (a' := ?_) #[true, true, true, false, true, true, false, false, false] rfl rfl (any_of HT_.out (by kernel_rfl)) (fun _ _ _ h => h) (Or.inl ⟨by rfl, ?_⟩) ?_ ?_
               rotate_left
               ·intro w'
                go_simp
                with_reducible rfl
               rotate_left
               ·simp only [Act.put, List.setIfInBounds_toArray, List.set_cons_zero, List.set_cons_succ, i64_w, i32_w]
                rfl
               refine pure_ (i := 6) (N := some 70) (v := ?_) (a' := ?_) #[true, true, true, false, true, true, true, false, false] rfl rfl (any_of HT_.out (by kernel_rfl)) (fun _ _ _ h => h) (Or.inl ⟨by rfl, ?_⟩) ?_ ?_
               rotate_left
               ·intro w'
                go_simp
                with_reducible rfl
               rotate_left
               ·simp only [Act.put, List.setIfInBounds_toArray, List.set_cons_zero, List.set_cons_succ, i64_w, i32_w]
                rfl
               refine take_ (i := 3) (N := some 67) (v := ?_) (a' := ?_) #[true, true, true, true, true, true, true, false, false] rfl rfl (take_ofW HT_.out HW_.out (by kernel_rfl)) (fun _ _ _ h => h) (Or.inl ⟨by rfl, ?_⟩) hHeld ?_ ?_
               rotate_left
               ·rintro w' ⟨s0, s1, s2, s3, s4, s5, s6, s7, s8, s9, s10, s11⟩
                go_simp
                with_reducible rfl
               rotate_left
               ·simp only [Act.put, List.setIfInBounds_toArray, List.set_cons_zero, List.set_cons_succ, i64_w, i32_w]
                rfl
               refine take_ (i := 7) (N := some 71) (v := ?_) (a' := ?_) #[true, true, true, true, true, true, true, true, false] rfl rfl (take_ofW HT_.out HW_.out (by kernel_rfl)) (fun _ _ _ h => h) (Or.inl ⟨by rfl, ?_⟩) hHeld ?_ ?_
               rotate_left
               ·rintro w' ⟨s0, s1, s2, s3, s4, s5, s6, s7, s8, s9, s10, s11⟩
                go_simp
                with_reducible rfl
               rotate_left
               ·simp only [Act.put, List.setIfInBounds_toArray, List.set_cons_zero, List.set_cons_succ, i64_w, i32_w]
                rfl
               refine one_ (i := 8) (N := some 72) #[true, true, true, true, true, true, true, true, true] rfl rfl (one_of HT_.out (by kernel_rfl)) (by decide) (fun K hK => ?_)
               refine goes_ Try.func25 (by kernel_rfl) rfl #[.agg #[.int .i64 ((rd_T41 t242 x10_2).f0), .int .i64 ((rd_T41 t242 x10_2).f1), .bool ((rd_T41 t242 x10_2).f2), .slice A252_3 ((rd_T41 t242 x10_2).f3).length c252_3, .bool ((rd_T41 t242 x10_2).f4), .slice A252_5 ((rd_T41 t242 x10_2).f5).length c252_5], .agg #[.int .i64 ((rd_T41 t236 x9_2).f0), .int .i64 ((rd_T41 t236 x9_2).f1), .bool ((rd_T41 t236 x9_2).f2), .slice A253_3 ((rd_T41 t236 x9_2).f3).length c253_3, .bool ((rd_T41 t236 x9_2).f4), .slice A253_5 ((rd_T41 t236 x9_2).f5).length c253_5]] (by rfl) rfl rfl (by (try simp only [List.map_toArray, List.map_cons, List.map_nil]); first | done | rfl | (simp only [List.length_drop, List.length_take]; rfl)) ?_
               with_reducible refine (laws_sameRecord.calls kj26 ((rd_T41 t242 x10_2).f0) ((rd_T41 t242 x10_2).f1) ((rd_T41 t242 x10_2).f2) _ _ ((rd_T41 t242 x10_2).f3) ((rd_T41 t242 x10_2).f4) _ _ ((rd_T41 t242 x10_2).f5) ((rd_T41 t236 x9_2).f0) ((rd_T41 t236 x9_2).f1) ((rd_T41 t236 x9_2).f2) _ _ ((rd_T41 t236 x9_2).f3) ((rd_T41 t236 x9_2).f4) _ _ ((rd_T41 t236 x9_2).f5) false _ ?side1 ?side2 ?side3 ?side4 ?side5 ?side6 ?side7 ?side8 A36.out).mono ?_
               (case side1 => repeat (first | exact (by repeat (first | (with_reducible exact HR252_3.out) | (with_reducible refine Kd.C_alloc ?_ _) | (with_reducible refine Kd.C_drewN ?_ _) | (with_reducible refine Kd.C_drew ?_) | exact HR252_3.out)) | (with_reducible refine Kd.C_alloc ?_ _) | (with_reducible refine Kd.C_drewN ?_ _) | (with_reducible refine Kd.C_drew ?_)))
               (case side2 => exact HC252_3.out)
               (case side3 => repeat (first | exact (by repeat (first | (with_reducible exact HR252_5.out) | (with_reducible refine Kd.C_alloc ?_ _) | (with_reducible refine Kd.C_drewN ?_ _) | (with_reducible refine Kd.C_drew ?_) | exact HR252_5.out)) | (with_reducible refine Kd.C_alloc ?_ _) | (with_reducible refine Kd.C_drewN ?_ _) | (with_reducible refine Kd.C_drew ?_)))
               (case side4 => exact HC252_5.out)
               (case side5 => repeat (first | exact (by repeat (first | (with_reducible exact HR253_3.out) | (with_reducible refine Kd.C_alloc ?_ _) | (with_reducible refine Kd.C_drewN ?_ _) | (with_reducible refine Kd.C_drew ?_) | exact HR253_3.out)) | (with_reducible refine Kd.C_alloc ?_ _) | (with_reducible refine Kd.C_drewN ?_ _) | (with_reducible refine Kd.C_drew ?_)))
               (case side6 => exact HC253_3.out)
               (case side7 => repeat (first | exact (by repeat (first | (with_reducible exact HR253_5.out) | (with_reducible refine Kd.C_alloc ?_ _) | (with_reducible refine Kd.C_drewN ?_ _) | (with_reducible refine Kd.C_drew ?_) | exact HR253_5.out)) | (with_reducible refine Kd.C_alloc ?_ _) | (with_reducible refine Kd.C_drewN ?_ _) | (with_reducible refine Kd.C_drew ?_)))
               (case side8 => exact HC253_5.out)
               rintro e w43 ⟨rfl, hb⟩
               have HS0_ := (hb.cell (World.block_lt_of_cell? _ _ (hHeld.1))).trans (hHeld.1)
               have HS1_ := (hb.cell (World.block_lt_of_cell? _ _ (hHeld.2.1))).trans (hHeld.2.1)
               have HS2_ := (hb.cell (World.block_lt_of_cell? _ _ (hHeld.2.2.1))).trans (hHeld.2.2.1)
               have HS3_ := (hb.cell (World.block_lt_of_cell? _ _ (hHeld.2.2.2.1))).trans (hHeld.2.2.2.1)
               have HS4_ := (hb.cell (World.block_lt_of_cell? _ _ (hHeld.2.2.2.2.1))).trans (hHeld.2.2.2.2.1)
               have HS5_ := (hb.cell (World.block_lt_of_cell? _ _ (hHeld.2.2.2.2.2.1))).trans (hHeld.2.2.2.2.2.1)
               have HS6_ := (hb.cell (World.block_lt_of_cell? _ _ (hHeld.2.2.2.2.2.2.1))).trans (hHeld.2.2.2.2.2.2.1)
               have HS7_ := (hb.cell (World.block_lt_of_cell? _ _ (hHeld.2.2.2.2.2.2.2.1))).trans (hHeld.2.2.2.2.2.2.2.1)
               have HS8_ := (hb.cell (World.block_lt_of_cell? _ _ (hHeld.2.2.2.2.2.2.2.2.1))).trans (hHeld.2.2.2.2.2.2.2.2.1)
               have HS9_ := (hb.cell (World.block_lt_of_cell? _ _ (hHeld.2.2.2.2.2.2.2.2.2.1))).trans (hHeld.2.2.2.2.2.2.2.2.2.1)
               have HS10_ := (hb.cell (World.block_lt_of_cell? _ _ (hHeld.2.2.2.2.2.2.2.2.2.2.1))).trans (hHeld.2.2.2.2.2.2.2.2.2.2.1)
               have HS11_ := (hb.cell (World.block_lt_of_cell? _ _ (hHeld.2.2.2.2.2.2.2.2.2.2.2))).trans (hHeld.2.2.2.2.2.2.2.2.2.2.2)
               refine ⟨_, rfl, ?_⟩
               have n0_ := Aside0.mk (Kd.S_below (by (with_reducible repeat (first | apply Kd.S_alloc | apply Kd.S_drewN | apply Kd.S_drew)); exact HO_3.out) hb)
               have n1_ := Aside0.mk (Kd.S_below (by (with_reducible repeat (first | apply Kd.S_alloc | apply Kd.S_drewN | apply Kd.S_drew)); exact HO_4.out) hb)
               have n2_ := Aside0.mk (Kd.V_below (by (with_reducible repeat (first | apply Kd.V_alloc | apply Kd.V_drewN | apply Kd.V_drew)); exact HO_5.out) hb)
               have n3_ := Aside0.mk (Kd.V_below (by (with_reducible repeat (first | apply Kd.V_alloc | apply Kd.V_drewN | apply Kd.V_drew)); exact HL252_3.out) hb)
               have n4_ := Aside0.mk (Kd.V_below (by (with_reducible repeat (first | apply Kd.V_alloc | apply Kd.V_drewN | apply Kd.V_drew)); exact HL252_5.out) hb)
               have n5_ := Aside0.mk (Kd.R_below (by (with_reducible repeat (first | apply Kd.R_alloc | apply Kd.R_drewN | apply Kd.R_drew)); exact HL253_3.out) hb)
               have n6_ := Aside0.mk (Kd.R_below (by (with_reducible repeat (first | apply Kd.R_alloc | apply Kd.R_drewN | apply Kd.R_drew)); exact HL253_5.out) hb)
               have n7_ := Aside0.mk (Kd.C_below (by repeat (first | (with_reducible exact HR252_3.out) | (with_reducible refine Kd.C_alloc ?_ _) | (with_reducible refine Kd.C_drewN ?_ _) | (with_reducible refine Kd.C_drew ?_) | exact HR252_3.out)) hb)
               have n8_ := Aside0.mk (Kd.C_below (by repeat (first | (with_reducible exact HR252_5.out) | (with_reducible refine Kd.C_alloc ?_ _) | (with_reducible refine Kd.C_drewN ?_ _) | (with_reducible refine Kd.C_drew ?_) | exact HR252_5.out)) hb)
               have n9_ := Aside0.mk (Kd.C_below (by repeat (first | (with_reducible exact HR253_3.out) | (with_reducible refine Kd.C_alloc ?_ _) | (with_reducible refine Kd.C_drewN ?_ _) | (with_reducible refine Kd.C_drew ?_) | exact HR253_3.out)) hb)
               have n10_ := Aside0.mk (Kd.C_below (by repeat (first | (with_reducible exact HR253_5.out) | (with_reducible refine Kd.C_alloc ?_ _) | (with_reducible refine Kd.C_drewN ?_ _) | (with_reducible refine Kd.C_drew ?_) | exact HR253_5.out)) hb)
               have n11_ := Aside0.mk (below_step (by repeat (first | (with_reducible first | exact HB.out | apply below_alloc | apply pw_below_drewN | apply below_drew1) | exact HB.out)) hb)
               clear HO_3
               clear HO_4
               clear HO_5
               clear HL252_3
               clear HL252_5
               clear HL253_3
               clear HL253_5
               clear HR252_3
               clear HR252_5
               clear HR253_3
               clear HR253_5
               clear HB
               have HO_3 := n0_
               have HO_4 := n1_
               have HO_5 := n2_
               have HL252_3 := n3_
               have HL252_5 := n4_
               have HL253_3 := n5_
               have HL253_5 := n6_
               have HR252_3 := n7_
               have HR252_5 := n8_
               have HR253_3 := n9_
               have HR253_5 := n10_
               have HB := n11_
               clear n0_ n1_ n2_ n3_ n4_ n5_ n6_ n7_ n8_ n9_ n10_ n11_
               (try clear hb)
               (try clear hb2)
               (try clear hk)
               (try clear hi)
               refine hK.out _ _ ⟨HS0_, HS1_, HS2_, HS3_, HS4_, HS5_, HS6_, HS7_, HS8_, HS9_, HS10_, HS11_⟩ (fun hHeld => ?_)
               clear hK K
               refine norm_ (a' := ?_) ?_ ?_
               rotate_left
               ·show Act.put _ (some 72) _ = _
                simp only [Act.put, List.setIfInBounds_toArray, List.set_cons_zero, List.set_cons_succ, i64_w, i32_w]
                rfl
               refine done_ (done_of HT_.out (by kernel_rfl)) ?_
               try go_wp2
               go_roundg kj26
               case measure => have := HJ5.out; have := HK2.out; have := HJ26.out; omega
               case rel => exact ⟨(x9_2), (wrap64 (x10_2 + 1)), (by first | rfl | (simp; done) | (simp [*]; done)), (by first | rfl | (simp; done) | (simp [*]; done)), H', ⟨by have := HJ5.out; have := HK2.out; have := HJ26.out; omega⟩, ⟨by (with_reducible repeat (first | apply Kd.S_alloc | apply Kd.S_drewN | apply Kd.S_drew)); exact HO_3.out⟩, ⟨by (with_reducible repeat (first | apply Kd.S_alloc | apply Kd.S_drewN | apply Kd.S_drew)); exact HO_4.out⟩, ⟨by (with_reducible repeat (first | apply Kd.V_alloc | apply Kd.V_drewN | apply Kd.V_drew)); exact HO_5.out⟩, ⟨by repeat (first | (with_reducible first | exact HB.out | apply below_alloc | apply pw_below_drewN | apply below_drew1) | exact HB.out)⟩⟩
             ·rw [if_neg c35] at H
              exact absurd H (by simp)
            ·rw [if_neg c34] at H
             exact absurd H (by simp)
           ·rw [if_neg c33] at H
            exact absurd H (by simp)
          ·rw [if_neg c32] at H
           exact absurd H (by simp)
         ·replace c31 := Bool.eq_false_iff.mpr c31
          subst c31
          have H1 : (if x9_2 = (t236.length : Int) then (some ((t242.length : Int) == (wrap64 ((t236.length : Int) + (t237.length : Int))))) else (some false)) = some r := by rw [if_neg (show ¬ (false = true) by decide)] at H; exact H
          clear H
          have H := H1
          clear H1
          by_cases c44 : x9_2 = (t236.length : Int)
          ·rw [if_pos c44] at H
           have c44b0 : (x9_2 == (t236.length : Int)) = true := beq_iff_eq.mpr c44
           have c44b1 : (x9_2 != (t236.length : Int)) = false := bne_eq_false_iff_eq.mpr c44
           clear c44
           obtain rfl := Option.some.inj H
           obtain ⟨Ao45, co45, eo45⟩ := Kd.V_slice HO_5.out
           subst eo45
           go_wp2
           all_goals go_ret
           all_goals exact ⟨by first | rfl | (simp [errW_none, errW_some] <;> rfl) | (simp [*, errW_none, errW_some] <;> rfl), by repeat (first | (with_reducible first | exact HB.out | apply below_alloc | apply pw_below_drewN | apply below_drew1) | exact HB.out)⟩
          ·rw [if_neg c44] at H
           have c44b0 : (x9_2 == (t236.length : Int)) = false := beq_eq_false_iff_ne.mpr c44
           have c44b1 : (x9_2 != (t236.length : Int)) = true := bne_iff_ne.mpr c44
           obtain rfl := Option.some.inj H
           go_wp2
           all_goals go_ret
           all_goals exact ⟨by first | rfl | (simp [errW_none, errW_some] <;> rfl) | (simp [*, errW_none, errW_some] <;> rfl), by repeat (first | (with_reducible first | exact HB.out | apply below_alloc | apply pw_below_drewN | apply below_drew1) | exact HB.out)⟩

end Go.Proofs.Ythlnbbehcpdnfaa.G

namespace Go.Proofs.Ythlnbbehcpdnfaa.Rd
open Go.RowKit Go.Proofs.YthlnbbehcpdnfaaW.PrintWords
set_option linter.unusedVariables false
section
variable {H : Type} {enc : TypeId × Value → H} {P : Program} {w : World} {base : Nat} {spare : Nat → Bool} {held : Bool}
/-- What a reading of type t gives: a value of the kind, and what is known of it. -/
def Opens (enc : TypeId × Value → H) (P : Program) (w : World) (base : Nat) (spare : Nat → Bool) (held : Bool) {α : Type} (t : TypeId) (d : Kd α) (ok : α → Prop) : Prop :=
  P.cellsOf t = d.sz ∧ ∀ fuel cs x, DataW.trod enc P w base spare held fuel t cs = some x → ∃ v, d.K w v cs ∧ ok v
theorem Opens.imp_ {α : Type} {t : TypeId} {d : Kd α} {ok ok' : α → Prop} (h : Opens enc P w base spare held t d ok) (hi : ∀ v, ok v → ok' v) : Opens enc P w base spare held t d ok' :=
  ⟨h.1, fun fuel cs x hx => by
    obtain ⟨v, hk, ho⟩ := h.2 fuel cs x hx
    exact ⟨v, hk, hi v ho⟩⟩
theorem opens_int {t : TypeId} {k : IntKind} (ht : P.underlying t = some (.int k)) (hc : P.cellsOf t = 1) : Opens enc P w base spare held t (Kd.int k) (fun n => (Lit.int k n).wf = true) := by
  refine ⟨hc, fun fuel cs x h => ?_⟩
  obtain ⟨n, rfl, _, hw⟩ := DataW.trod_int ht h
  exact ⟨n, rfl, hw⟩
theorem cells_len {base : Nat} {a : Addr} {n : Nat} {cs : List Value} (h : w.cells? base a n = some cs) : cs.length = n ∧ ∀ i u, cs[i]? = some u → w.cell? (a.add i) = some u := by
  unfold World.cells? at h
  split at h
  · rename_i hb
    refine ⟨by simpa using mapM_some_length h, fun i u hu => ?_⟩
    have hi : i < n := by
      have := (List.getElem?_eq_some_iff.1 hu).1
      have h2 : cs.length = n := by simpa using mapM_some_length h
      omega
    have := mapM_some_get h i i (by simp [hi])
    rw [hu] at this
    exact this
  · simp at h
theorem opens_row {α : Type} {t e : TypeId} {d : Kd α} {ok : α → Prop} (ht : P.underlying t = some (.slice e)) (hd : Opens enc P w base spare held e d ok) {fuel : Nat} {cs : List Value} {x : DataW H × List MemPlace}
    (h : DataW.trod enc P w base spare held fuel t cs = some x) : ∃ (A : Option Addr) (c : Nat) (xs : List α), cs = [.slice A xs.length c] ∧ xs.length ≤ c ∧ c ≤ maxLen ∧ d.C w A xs.length xs ∧ ∀ y ∈ xs, ok y := by
  rcases Go.Deep.open_slice ht h with ⟨rfl, _⟩ | ⟨a, len, cap, m, n, D, Pl, rfl, hb, hl, hm, hmm, _, hel⟩
  · exact ⟨none, 0, [], rfl, Nat.le_refl _, by unfold maxLen; omega, ⟨rfl, by simp, fun h0 => absurd h0 (by simp)⟩, by simp⟩
  have hlm : len ≤ m := by rw [hmm]; split <;> omega
  have hx : ∀ i, i < len → ∃ y : α, ok y ∧ ∃ c, c.length = d.sz ∧ d.K w y c ∧ ∀ j u, c[j]? = some u → w.cell? (a.add (i * d.sz + j)) = some u := by
    intro i hi
    obtain ⟨cs', h1, h2⟩ := hel i (by omega)
    obtain ⟨y, hk, ho⟩ := hd.2 _ _ _ h2
    obtain ⟨hl', hc'⟩ := cells_len h1
    refine ⟨y, ho, cs', by rw [hl', hd.1], hk, fun j u hu => ?_⟩
    have := hc' j u hu
    rw [Go.Deep.add_add, hd.1] at this
    exact this
  rcases Nat.eq_zero_or_pos len with h0 | h0
  · subst h0
    exact ⟨some a, cap, [], rfl, Nat.zero_le _, hm, ⟨rfl, by simp, fun h1 => absurd h1 (by simp)⟩, by simp⟩
  obtain ⟨y0, _⟩ := hx 0 h0
  haveI : Inhabited α := ⟨y0⟩
  obtain ⟨g, hg⟩ := Go.Deep.choose_lt hx
  have hlen : ((List.range len).map g).length = len := by simp
  refine ⟨some a, cap, (List.range len).map g, by rw [hlen], by rw [hlen]; exact hl, hm, ⟨rfl, by rw [hlen]; unfold maxLen at hm; omega, fun _ => ⟨a, rfl, fun j p hj => ?_⟩⟩, fun y hy => ?_⟩
  · have hj' : j < len := by
      have := (List.getElem?_eq_some_iff.1 hj).1
      omega
    rw [List.getElem?_map, List.getElem?_range hj'] at hj
    simp at hj
    subst hj
    obtain ⟨_, c, hc1, hc2, hc3⟩ := hg j hj'
    exact ⟨c, hc1, hc2, hc3⟩
  · obtain ⟨i, hi, rfl⟩ := List.mem_map.1 hy
    exact (hg i (List.mem_range.1 hi)).1
end
end Go.Proofs.Ythlnbbehcpdnfaa.Rd

namespace Go.Proofs.Ythlnbbehcpdnfaa.OFnMerge
open Go.RowKit Go.Proofs.YthlnbbehcpdnfaaW.PrintWords Go.Proofs.Ythlnbbehcpdnfaa.G
set_option linter.unusedVariables false
def Pure : Prop := ∀ (l0 : List Int), l0.length ≤ maxLen → (∀ y ∈ l0, (Lit.int .u8 y).wf = true) → ∃ k, laws_FnMerge.f k l0 = some true
end Go.Proofs.Ythlnbbehcpdnfaa.OFnMerge

namespace Go.Proofs.Ythlnbbehcpdnfaa.Pu
open Go.RowKit Go.Proofs.YthlnbbehcpdnfaaW.PrintWords Go.Proofs.YthlnbbehcpdnfaaW.PrintLast
set_option linter.unusedVariables false
set_option linter.unusedSimpArgs false
theorem w64 {a : Int} (h0 : -9223372036854775808 ≤ a) (h1 : a ≤ 9223372036854775807) : wrap64 a = a := by unfold wrap64; omega
/-- (Not by 'rfl': a large number in a test behind it would be counted up by the kernel.) -/
theorem bindS {α β : Type} (x : α) (f : α → Option β) : (some x).bind f = f x := Eq.trans (Option.bind_some x f) (Eq.refl _)
/-- It ends, in something of which P holds. -/
def EndsIn {α : Type} (g : Nat → Option α) (P : α → Prop) : Prop := ∃ r, Ev g r ∧ P r
theorem EndsIn.bind {α β : Type} {g : Nat → Option α} {f : Nat → α → Option β} {P : α → Prop} {Q : β → Prop} (h : EndsIn g P) (k : ∀ a, P a → EndsIn (fun n => f n a) Q) : EndsIn (fun n => (g n).bind (f n)) Q := by
  obtain ⟨a, ha, hp⟩ := h
  obtain ⟨b, hb, hq⟩ := k a hp
  exact ⟨b, Ev.bind ha hb, hq⟩
theorem EndsIn.step {α : Type} {g f : Nat → Option α} {P : α → Prop} (h : ∀ k, g (k + 1) = f k) (k : EndsIn f P) : EndsIn g P := by
  obtain ⟨a, ha, hp⟩ := k
  exact ⟨a, Ev.step h ha, hp⟩
theorem EndsIn.now {α : Type} {P : α → Prop} (r : α) (hp : P r) : EndsIn (fun _ => some r) P := ⟨r, Ev.now r, hp⟩
theorem EndsIn.mono {α : Type} {g : Nat → Option α} {P Q : α → Prop} (h : EndsIn g P) (k : ∀ a, P a → Q a) : EndsIn g Q := by
  obtain ⟨a, ha, hp⟩ := h
  exact ⟨a, ha, k a hp⟩
theorem EndsIn.ev {α : Type} {g : Nat → Option α} {r : α} (h : EndsIn g (fun x => x = r)) : Ev g r := by
  obtain ⟨a, ha, rfl⟩ := h
  exact ha
theorem EndsIn.rounds {α : Type} {g : Nat → Option α} {r : α} (h : EndsIn g (fun x => x = r)) : ∃ k, g k = some r := h.ev.rounds
theorem u8_range {x : Int} (h : (Lit.int .u8 x).wf = true) : 0 ≤ x ∧ x ≤ 255 := by
  simp only [Lit.wf, Bool.and_eq_true, decide_eq_true_eq] at h
  exact ⟨h.1, h.2⟩
end Go.Proofs.Ythlnbbehcpdnfaa.Pu

namespace Go.Proofs.Ythlnbbehcpdnfaa.Pu
open Go.RowKit Go.Proofs.YthlnbbehcpdnfaaW.PrintWords Go.Proofs.YthlnbbehcpdnfaaW.PrintLast Go.Proofs.Ythlnbbehcpdnfaa.G
set_option linter.unusedVariables false
set_option linter.unusedSimpArgs false
/-- A loop that asks each element, and stops at the first that says no. -/
theorem ev_all {α : Type} (l : List α) (hl : l.length ≤ 9223372036854775807) (L : Nat → Int → Option Bool) (F : Nat → Nat → Option Bool) (p : α → Bool) (last : Bool)
    (hend : ∀ k, L (k + 1) (l.length : Int) = some last)
    (hstep : ∀ k (i : Nat), i < l.length → L (k + 1) (i : Int) = (F k i).bind fun t => if t = true then L k (wrap64 ((i : Int) + 1)) else some false)
    (hF : ∀ i (h : i < l.length), Ev (fun k => F k i) (p l[i])) : ∀ d i, l.length - i = d → i ≤ l.length → Ev (fun k => L k (i : Int)) ((l.drop i).all p && last) := by
  intro d
  induction d with
  | zero =>
    intro i hi hle
    obtain rfl : i = l.length := by omega
    refine Ev.step (fun k => hend k) ?_
    rw [List.drop_length]
    exact Ev.now _
  | succ d ih =>
    intro i hi hle
    have hlt : i < l.length := by omega
    refine Ev.step (fun k => hstep k i hlt) ?_
    refine Ev.bind (hF i hlt) ?_
    rw [List.drop_eq_getElem_cons hlt, List.all_cons]
    cases hp : p l[i]
    · exact Ev.now _
    · simp only [if_true, Bool.true_and, w64 (a := (i : Int) + 1) (by omega) (by omega)]
      exact ih (i + 1) (by omega) (by omega)
theorem rdi_nat (l : List Int) (i : Nat) (h : i < l.length) : rd l (i : Int) = l[i] := by
  unfold rd
  simp [h]
theorem within_ev (a b c : Int) : impl_within.f a b c = some (decide (b ≤ a) && decide (a ≤ c)) := by
  unfold impl_within.f
  by_cases h : a ≥ b
  · rw [if_pos h, show decide (b ≤ a) = true from decide_eq_true h]; rfl
  · rw [if_neg h, show decide (b ≤ a) = false from decide_eq_false h]; rfl
theorem in_ev (a b c : Int) : spec_l6In.f a b c = some (decide (b ≤ a) && decide (a ≤ c)) := by
  unfold spec_l6In.f
  by_cases h : a ≥ b
  · rw [if_pos h, show decide (b ≤ a) = true from decide_eq_true h]; rfl
  · rw [if_neg h, show decide (b ≤ a) = false from decide_eq_false h]; rfl
def isB (x : Int) : Bool := decide (0 ≤ x) && decide (x ≤ 255)
theorem isByte_ev (x : Int) : impl_isByte.f x = some (isB x) := by
  unfold impl_isByte.f isB
  by_cases h : x ≥ 0
  · rw [if_pos h, show decide (0 ≤ x) = true from decide_eq_true h]; rfl
  · rw [if_neg h, show decide (0 ≤ x) = false from decide_eq_false h]; rfl
theorem allBytes_ev (l : List Int) (hl : l.length ≤ 9223372036854775807) : Ev (fun k => impl_allBytes.f k l) (l.all isB) := by
  unfold impl_allBytes.f
  have := ev_all l hl (fun k i => impl_allBytes.l0 k l (l.length : Int) i) (fun k i => some (isB (rd l (i : Int)))) isB true
    (fun k => by simp only [impl_allBytes.l0]; rw [if_neg (by omega)])
    (fun k i h => by simp only [impl_allBytes.l0]; rw [if_pos (by omega), if_pos (by omega), if_pos (by omega), isByte_ev])
    (fun i h => by rw [rdi_nat l i h]; exact Ev.now _) l.length 0 (by omega) (by omega)
  simpa using this
theorem l1Ok_ev (l : List Int) (hl : l.length ≤ 9223372036854775807) : Ev (fun k => spec_l1Ok.f k l) (l.all isB) := by
  unfold spec_l1Ok.f
  have := ev_all l hl (fun k i => spec_l1Ok.l0 k l i) (fun k i => some (isB (rd l (i : Int)))) isB true
    (fun k => by simp only [spec_l1Ok.l0]; rw [if_neg (by omega)])
    (fun k i h => by simp only [spec_l1Ok.l0]; rw [if_pos (by omega), if_pos (by omega), in_ev]; rfl)
    (fun i h => by rw [rdi_nat l i h]; exact Ev.now _) l.length 0 (by omega) (by omega)
  simpa using this
def partOk (has : Bool) (l : List Int) : Bool := if has = true then decide (l.length ≤ 12) && l.all isB else decide (l.length = 0)
theorem partValid_ev (has : Bool) (l : List Int) (hl : l.length ≤ 9223372036854775807) : Ev (fun k => impl_partValid.f k has l) (partOk has l) := by
  unfold impl_partValid.f partOk
  cases has
  · simp only [Bool.false_eq_true, if_false]
    rw [show ((l.length : Int) == 0) = decide (l.length = 0) from by rw [Bool.eq_iff_iff]; simp]
    exact Ev.now _
  · simp only [if_true]
    by_cases h : (l.length : Int) ≤ 12
    · simp only [if_pos h]
      rw [show decide (l.length ≤ 12) = true from decide_eq_true (by omega), Bool.true_and]
      exact Ev.bind (allBytes_ev l hl) (Ev.now _)
    · simp only [if_neg h]
      rw [show decide (l.length ≤ 12) = false from decide_eq_false (by omega)]
      exact Ev.now _
theorem l3Part_ev (has : Bool) (l : List Int) (hl : l.length ≤ 9223372036854775807) : Ev (fun k => spec_l3Part.f k has l) (partOk has l) := by
  unfold spec_l3Part.f partOk
  cases has
  · simp only [Bool.false_eq_true, if_false]
    by_cases h : (l.length : Int) = 0
    · simp only [if_pos h]
      obtain rfl : l = [] := List.length_eq_zero_iff.1 (by omega)
      refine Ev.bind (l1Ok_ev [] (by simp)) ?_
      exact Ev.now _
    · simp only [if_neg h]
      rw [show decide (l.length = 0) = false from decide_eq_false (by omega)]
      exact Ev.now _
  · simp only [if_true]
    refine Ev.bind (l1Ok_ev l hl) ?_
    rw [show decide ((l.length : Int) ≤ 12) = decide (l.length ≤ 12) from decide_eq_decide.2 (by omega)]
    cases l.all isB
    · simp only [Bool.false_eq_true, if_false, Bool.and_false]
      exact Ev.now _
    · simp only [if_true, Bool.and_true]
      exact Ev.now _
def rng (x : Int) : Bool := decide (0 ≤ x) && decide (x ≤ 99999)
def recOk (r : S41) : Bool := (rng r.f0 && rng r.f1) && (partOk r.f2 r.f3 && partOk r.f4 r.f5)
/-- Lengths that can be told. -/
def Lens (r : S41) : Prop := r.f3.length ≤ 9223372036854775807 ∧ r.f5.length ≤ 9223372036854775807
theorem RecordValid_ev (r : S41) (hr : Lens r) : Ev (fun k => impl_RecordValid.f k r.f0 r.f1 r.f2 r.f3 r.f4 r.f5) (recOk r) := by
  unfold impl_RecordValid.f recOk impl_baseValid.f
  simp only [within_ev, Option.bind_some]
  change Ev (fun k => ((if rng r.f0 = true then some (rng r.f1) else some false)).bind _) _
  cases rng r.f0
  · simp only [Bool.false_eq_true, if_false, Option.bind_some, Bool.false_and]
    exact Ev.now _
  · cases rng r.f1
    · simp only [if_true, Option.bind_some, Bool.false_eq_true, if_false, Bool.true_and, Bool.false_and]
      exact Ev.now _
    · simp only [if_true, Option.bind_some, Bool.true_and]
      refine Ev.bind (partValid_ev _ _ hr.1) ?_
      cases partOk r.f2 r.f3
      · exact Ev.now _
      · simp only [if_true, Bool.true_and]
        exact Ev.bind (partValid_ev _ _ hr.2) (Ev.now _)
theorem sRecordValid_ev (r : S41) (hr : Lens r) : Ev (fun k => spec_RecordValid.f k r.f0 r.f1 r.f2 r.f3 r.f4 r.f5) (recOk r) := by
  unfold spec_RecordValid.f recOk
  simp only [in_ev, Option.bind_some]
  change Ev (fun k => if rng r.f0 = true then (if rng r.f1 = true then _ else some false) else some false) _
  cases rng r.f0
  · simp only [Bool.false_eq_true, if_false, Bool.false_and]
    exact Ev.now _
  · cases rng r.f1
    · simp only [if_true, Bool.false_eq_true, if_false, Bool.true_and, Bool.false_and]
      exact Ev.now _
    · simp only [if_true, Bool.true_and]
      refine Ev.bind (l3Part_ev _ _ hr.1) ?_
      cases partOk r.f2 r.f3
      · exact Ev.now _
      · simp only [if_true, Bool.true_and]
        exact Ev.bind (l3Part_ev _ _ hr.2) (Ev.now _)
theorem rdR_nat (l : List S41) (i : Nat) (h : i < l.length) : rd_T41 l (i : Int) = l[i] := by
  unfold rd_T41
  simp [h]
theorem recOk_len {r : S41} (h : recOk r = true) : r.f3.length ≤ 12 ∧ r.f5.length ≤ 12 := by
  unfold recOk partOk at h
  simp only [Bool.and_eq_true] at h
  obtain ⟨_, h1, h2⟩ := h
  constructor
  · cases h3 : r.f2 <;> rw [h3] at h1 <;> simp at h1
    · simp [h1]
    · omega
  · cases h3 : r.f4 <;> rw [h3] at h2 <;> simp at h2
    · simp [h2]
    · omega
end Go.Proofs.Ythlnbbehcpdnfaa.Pu

namespace Go.Proofs.Ythlnbbehcpdnfaa.Pu
open Go.RowKit Go.Proofs.YthlnbbehcpdnfaaW.PrintWords Go.Proofs.YthlnbbehcpdnfaaW.PrintLast Go.Proofs.Ythlnbbehcpdnfaa.G
set_option linter.unusedVariables false
set_option linter.unusedSimpArgs false
def rowOk (l : List S41) : Bool := l.all recOk && decide (l.length ≤ 30)
theorem rowValid_ev (l : List S41) (hl : l.length ≤ 9223372036854775807) (hr : ∀ r ∈ l, Lens r) : Ev (fun k => impl_rowValid.f k l) (rowOk l) := by
  unfold impl_rowValid.f rowOk
  by_cases h : (l.length : Int) > 30
  · simp only [if_pos h]
    rw [show decide (l.length ≤ 30) = false from decide_eq_false (by omega), Bool.and_false]
    exact Ev.now _
  · simp only [if_neg h]
    rw [show decide (l.length ≤ 30) = true from decide_eq_true (by omega)]
    have := ev_all l hl (fun k i => impl_rowValid.l0 k l (l.length : Int) i) (fun k i => impl_RecordValid.f k (rd_T41 l i).f0 (rd_T41 l i).f1 (rd_T41 l i).f2 (rd_T41 l i).f3 (rd_T41 l i).f4 (rd_T41 l i).f5) recOk true
      (fun k => by simp only [impl_rowValid.l0]; rw [if_neg (by omega)])
      (fun k i h => by simp only [impl_rowValid.l0]; rw [if_pos (by omega), if_pos (by omega), if_pos (by omega)])
      (fun i h => by rw [rdR_nat l i h]; exact RecordValid_ev _ (hr _ (List.getElem_mem _))) l.length 0 (by omega) (by omega)
    simpa using this
theorem l42Rows_ev (l : List S41) (hl : l.length ≤ 9223372036854775807) (hr : ∀ r ∈ l, Lens r) : Ev (fun k => spec_l42Rows.f k l) (rowOk l) := by
  unfold spec_l42Rows.f rowOk
  have := ev_all l hl (fun k i => spec_l42Rows.l0 k l i) (fun k i => spec_RecordValid.f k (rd_T41 l i).f0 (rd_T41 l i).f1 (rd_T41 l i).f2 (rd_T41 l i).f3 (rd_T41 l i).f4 (rd_T41 l i).f5) recOk (decide (l.length ≤ 30))
      (fun k => by simp only [spec_l42Rows.l0]; rw [if_neg (by omega)]; congr 1; exact decide_eq_decide.2 (by omega))
      (fun k i h => by simp only [spec_l42Rows.l0]; rw [if_pos (by omega), if_pos (by omega)])
      (fun i h => by rw [rdR_nat l i h]; exact sRecordValid_ev _ (hr _ (List.getElem_mem _))) l.length 0 (by omega) (by omega)
  simpa using this
def sameB (a b : S41) : Bool := decide (a.f0 = b.f0) && (decide (a.f1 = b.f1) && ((a.f2 == b.f2) && ((a.f4 == b.f4) && (decide (a.f3 = b.f3) && decide (a.f5 = b.f5)))))
theorem sameB_iff (a b : S41) : sameB a b = true ↔ a = b := by
  unfold sameB
  simp only [Bool.and_eq_true, decide_eq_true_eq, beq_iff_eq]
  constructor
  · rintro ⟨h0, h1, h2, h4, h3, h5⟩
    cases a; cases b
    simp only at h0 h1 h2 h3 h4 h5
    subst h0 h1 h2 h3 h4 h5
    rfl
  · rintro rfl
    exact ⟨rfl, rfl, rfl, rfl, rfl, rfl⟩
end Go.Proofs.Ythlnbbehcpdnfaa.Pu

namespace Go.Proofs.Ythlnbbehcpdnfaa.Pu
open Go.RowKit Go.Proofs.YthlnbbehcpdnfaaW.PrintWords Go.Proofs.YthlnbbehcpdnfaaW.PrintLast Go.Proofs.Ythlnbbehcpdnfaa.G
set_option linter.unusedVariables false
set_option linter.unusedSimpArgs false
/-- Digits of base 16. -/
def hx (n : Nat) : UInt8 := if n < 10 then UInt8.ofNat (48 + n) else UInt8.ofNat (87 + n)
end Go.Proofs.Ythlnbbehcpdnfaa.Pu

namespace Go.Proofs.Ythlnbbehcpdnfaa.Pu
open Go.RowKit Go.Proofs.YthlnbbehcpdnfaaW.PrintWords Go.Proofs.YthlnbbehcpdnfaaW.PrintLast Go.Proofs.YthlnbbehcpdnfaaW.PrintMore Go.Proofs.Ythlnbbehcpdnfaa.G
set_option linter.unusedVariables false
set_option linter.unusedSimpArgs false
/-- Rows that can be told. -/
def RowL (l : List S41) : Prop := l.length ≤ 9223372036854775807 ∧ ∀ r ∈ l, Lens r
theorem rowOk_all {l : List S41} (h : rowOk l = true) : (∀ r ∈ l, recOk r = true) ∧ l.length ≤ 30 := by
  unfold rowOk at h
  simp only [Bool.and_eq_true, decide_eq_true_eq, List.all_eq_true] at h
  exact h
end Go.Proofs.Ythlnbbehcpdnfaa.Pu

namespace Go.Proofs.Ythlnbbehcpdnfaa.Pu
open Go.RowKit Go.Proofs.YthlnbbehcpdnfaaW.PrintWords Go.Proofs.YthlnbbehcpdnfaaW.PrintLast Go.Proofs.Ythlnbbehcpdnfaa.G
set_option linter.unusedVariables false
set_option linter.unusedSimpArgs false
theorem xor_i64 (a b : Int) (h0 : 0 ≤ a) (h1 : a < 4611686018427387904) (k0 : 0 ≤ b) (k1 : b < 4611686018427387904) : 0 ≤ bits .xor .i64 a b := by
  obtain ⟨a, rfl⟩ := Int.eq_ofNat_of_zero_le h0
  obtain ⟨b, rfl⟩ := Int.eq_ofNat_of_zero_le k0
  have ha : a < 2 ^ 62 := by omega
  have hb : b < 2 ^ 62 := by omega
  have hx := Nat.xor_lt_two_pow ha hb
  have ha' : a % 2 ^ 64 = a := Nat.mod_eq_of_lt (by omega)
  have hb' : b % 2 ^ 64 = b := Nat.mod_eq_of_lt (by omega)
  show 0 ≤ IntKind.i64.wrap ((BitVec.ofInt 64 (a : Int) ^^^ BitVec.ofInt 64 (b : Int)).toNat : Int)
  rw [BitVec.ofInt_natCast, BitVec.ofInt_natCast, BitVec.toNat_xor, BitVec.toNat_ofNat, BitVec.toNat_ofNat, ha', hb', IntKind.wrap_i64]
  omega
theorem rd_range {b : List Int} (hb : ∀ x ∈ b, 0 ≤ x ∧ x ≤ 255) (i : Int) : 0 ≤ rd b i ∧ rd b i ≤ 255 := by
  unfold rd
  rw [List.getD_eq_getElem?_getD]
  rcases h : b[i.toNat]? with _ | x
  · simp
  · exact hb x (List.mem_of_getElem? h)
theorem mod_range {x n : Int} (h0 : 0 ≤ x) (h1 : 1 ≤ n) : 0 ≤ Int.tmod x n ∧ Int.tmod x n < n := by
  rw [Int.tmod_eq_emod_of_nonneg h0]
  exact ⟨Int.emod_nonneg _ (by omega), Int.emod_lt_of_pos _ (by omega)⟩
/-- A code that is read: bytes, and a place that is no great number. -/
def CodeOk (b : List Int) : Prop := b.length ≤ 2000 ∧ ∀ x ∈ b, 0 ≤ x ∧ x ≤ 255
theorem pick_ends {b : List Int} (hb : CodeOk b) (p n : Int) (h0 : 0 ≤ p) (h1 : p ≤ 1000000000) (hn : n ≤ 4611686018427387904) :
    EndsIn (fun k => spec_l6Rd_pick.f k b p n) (fun r => r.2 = p + 1 ∧ 0 ≤ r.1 ∧ (1 ≤ n → r.1 < n) ∧ (n < 1 → r.1 = 0)) := by
  obtain ⟨hl, hr⟩ := hb
  unfold spec_l6Rd_pick.f
  rw [w64 (a := p + 1) (by omega) (by omega)]
  by_cases hn1 : n < 1
  · simp only [if_pos hn1]
    refine EndsIn.step (fun k => by rw [spec_l6Rd_pick.j0]) ?_
    simp only [if_true]
    exact EndsIn.now _ ⟨rfl, by omega, by omega, fun _ => rfl⟩
  · simp only [if_neg hn1]
    refine EndsIn.step (fun k => by rw [spec_l6Rd_pick.j0]) ?_
    rw [show p + 1 - 1 = p by omega, w64 (a := p) (by omega) (by omega)]
    by_cases hz : (b.length : Int) = 0
    · have : ((b.length : Int) == 0) = true := by simpa using hz
      simp only [this, if_true]
      exact EndsIn.now _ ⟨rfl, by omega, by omega, fun h => by omega⟩
    · have hz' : ((b.length : Int) == 0) = false := by simpa using hz
      simp only [hz', Bool.false_eq_true, if_false]
      by_cases hp : p < (b.length : Int)
      · have hx := rd_range hr p
        simp only [if_pos hp, if_pos h0, if_neg (show ¬ n = 0 by omega)]
        rw [w64 (a := rd b p) (by omega) (by omega)]
        have hm := mod_range (x := rd b p) (n := n) hx.1 (by omega)
        exact EndsIn.now _ ⟨rfl, hm.1, fun _ => hm.2, fun h => by omega⟩
      · have hm1 := mod_range (x := p) (n := (b.length : Int)) h0 (by omega)
        have h7 : wrap64 (wrap64 (p * 7) + 3) = p * 7 + 3 := by
          rw [w64 (a := p * 7) (by omega) (by omega), w64 (by omega) (by omega)]
        have hm2 := mod_range (x := p * 7 + 3) (n := (b.length : Int)) (by omega) (by omega)
        simp only [if_neg hp, if_neg hz, h7, if_pos hm1.1, if_pos hm1.2, if_pos hm2.1, if_pos hm2.2, if_neg (show ¬ n = 0 by omega)]
        have hx1 := rd_range hr (Int.tmod p b.length)
        have hx2 := rd_range hr (Int.tmod (p * 7 + 3) b.length)
        generalize rd b (Int.tmod p b.length) = x1 at hx1 ⊢
        generalize rd b (Int.tmod (p * 7 + 3) b.length) = x2 at hx2 ⊢
        have hd : 0 ≤ Int.tdiv p (b.length : Int) ∧ Int.tdiv p (b.length : Int) ≤ p := by
          rw [Int.tdiv_eq_ediv_of_nonneg h0]
          exact ⟨Int.ediv_nonneg h0 (by omega), Int.ediv_le_self _ h0⟩
        generalize Int.tdiv p (b.length : Int) = q at hd ⊢
        have e1 : wrap64 x1 = x1 := w64 (by omega) (by omega)
        have e2 : wrap64 x2 = x2 := w64 (by omega) (by omega)
        have e3 : wrap64 (x1 * 131) = x1 * 131 := w64 (by omega) (by omega)
        have e4 : wrap64 (x2 * 1117) = x2 * 1117 := w64 (by omega) (by omega)
        have e5 : wrap64 (x1 * 131 + x2 * 1117) = x1 * 131 + x2 * 1117 := w64 (by omega) (by omega)
        have e6 : wrap64 (p * 29) = p * 29 := w64 (by omega) (by omega)
        have e7 : wrap64 (x1 * 131 + x2 * 1117 + p * 29) = x1 * 131 + x2 * 1117 + p * 29 := w64 (by omega) (by omega)
        have e8 : wrap64 q = q := w64 (by omega) (by omega)
        have e9 : wrap64 (q * 53) = q * 53 := w64 (by omega) (by omega)
        have e10 : wrap64 (x1 * 131 + x2 * 1117 + p * 29 + q * 53) = x1 * 131 + x2 * 1117 + p * 29 + q * 53 := w64 (by omega) (by omega)
        simp only [e1, e2, e3, e4, e5, e6, e7, e8, e9, e10]
        have hX : 0 ≤ x1 * 131 + x2 * 1117 + p * 29 + q * 53 ∧ x1 * 131 + x2 * 1117 + p * 29 + q * 53 < 4611686018427387904 := ⟨by omega, by omega⟩
        generalize x1 * 131 + x2 * 1117 + p * 29 + q * 53 = X at hX ⊢
        have e11 : wrap64 (Int.tdiv X 64) = X / 64 := by
          rw [Int.tdiv_eq_ediv_of_nonneg hX.1]
          exact w64 (by omega) (by omega)
        rw [e11]
        have hxx := xor_i64 X (X / 64) hX.1 hX.2 (by omega) (by omega)
        have hm := mod_range (n := n) hxx (by omega)
        exact EndsIn.now _ ⟨rfl, hm.1, fun _ => hm.2, fun h => by omega⟩
end Go.Proofs.Ythlnbbehcpdnfaa.Pu

namespace Go.Proofs.Ythlnbbehcpdnfaa.Pu
open Go.RowKit Go.Proofs.YthlnbbehcpdnfaaW.PrintWords Go.Proofs.YthlnbbehcpdnfaaW.PrintLast Go.Proofs.YthlnbbehcpdnfaaW.PrintMore Go.Proofs.Ythlnbbehcpdnfaa.G
set_option linter.unusedVariables false
set_option linter.unusedSimpArgs false
def RecD (r : S41) : Prop := r.f3.length ≤ 1 ∧ r.f5.length = 0 ∧ 0 ≤ r.f0 ∧ r.f0 ≤ 16 ∧ -1 ≤ r.f1 ∧ r.f1 ≤ 1000
def DrR (l : List S41) : Prop := l.length ≤ 16 ∧ ∀ r ∈ l, RecD r
theorem DrR.rowL {l : List S41} (h : DrR l) : RowL l := ⟨by have := h.1; omega, fun r hr => by have := h.2 r hr; unfold RecD at this; exact ⟨by omega, by omega⟩⟩
theorem rdR_mem (l : List S41) (i : Int) (h0 : 0 ≤ i) (h1 : i < (l.length : Int)) : rd_T41 l i ∈ l := by
  unfold rd_T41
  rw [List.getD_eq_getElem?_getD, List.getElem?_eq_getElem (by omega)]
  exact List.getElem_mem _
theorem drawRow_loop {b : List Int} (hb : CodeOk b) (n : Int) (hn : n ≤ 16) : ∀ d (i : Nat) (l : List S41) (t p : Int), 16 - i = d → l.length = i → i ≤ 16 → (∀ r ∈ l, RecD r) → 0 ≤ t → t ≤ 40 + 12 * (i : Int) → 0 ≤ p → p ≤ 100000000 + 2 * (i : Int) →
    EndsIn (fun k => spec_l92Row.l0 k l n t (i : Int) b p) (fun r => DrR r.1 ∧ p ≤ r.2 ∧ r.2 ≤ p + 2 * (16 - (i : Int)) + 2) := by
  have fin : ∀ (i : Nat) (l : List S41) (t p : Int), l.length = i → i ≤ 16 → (∀ r ∈ l, RecD r) → 0 ≤ p → p ≤ 100000000 + 2 * (i : Int) → ¬ (i : Int) < n →
    EndsIn (fun k => spec_l92Row.l0 k l n t (i : Int) b p) (fun r => DrR r.1 ∧ p ≤ r.2 ∧ r.2 ≤ p + 2 * (16 - (i : Int)) + 2) := by
    intro i l t p hl hi hr p0 p1 h
    refine EndsIn.step (fun k => by rw [spec_l92Row.l0]) ?_
    simp only [if_neg h]
    by_cases hz : n > 0
    · simp only [if_pos hz]
      refine EndsIn.bind (pick_ends hb p 24 p0 (by omega) (by omega)) fun q hq => ?_
      obtain ⟨q2, q3, q4, _⟩ := hq
      rw [q2]
      by_cases hq0 : q.1 = 0
      · simp only [if_pos hq0]
        refine EndsIn.bind (pick_ends hb (p + 1) n (by omega) (by omega) (by omega)) fun s hs => ?_
        obtain ⟨s2, s3, s4, _⟩ := hs
        have s5 := s4 (by omega)
        simp only [if_pos s3, if_pos (show s.1 < (l.length : Int) by omega)]
        refine EndsIn.now _ ⟨⟨by rw [List.length_set]; omega, fun r hx => ?_⟩, by omega, by omega⟩
        rcases List.mem_or_eq_of_mem_set hx with hx | rfl
        · exact hr r hx
        · have := hr _ (rdR_mem l s.1 s3 (by omega))
          exact ⟨this.1, this.2.1, this.2.2.1, this.2.2.2.1, by show (-1 : Int) ≤ -1; omega, by show (-1 : Int) ≤ 1000; omega⟩
      · simp only [if_neg hq0]
        exact EndsIn.now _ ⟨⟨by show l.length ≤ 16; omega, hr⟩, by omega, by omega⟩
    · simp only [if_neg hz]
      exact EndsIn.now _ ⟨⟨by show l.length ≤ 16; omega, hr⟩, by omega, by omega⟩
  intro d
  induction d with
  | zero =>
    intro i l t p hd hl hi hr t0 t1 p0 p1
    exact fin i l t p hl hi hr p0 p1 (by omega)
  | succ d ih =>
    intro i l t p hd hl hi hr t0 t1 p0 p1
    by_cases h : (i : Int) < n
    · refine EndsIn.step (fun k => by rw [spec_l92Row.l0]) ?_
      simp only [if_pos h]
      refine EndsIn.bind (pick_ends hb p 3 p0 (by omega) (by omega)) fun q hq => ?_
      obtain ⟨q2, q3, q4, _⟩ := hq
      simp only [if_pos (show l.length < 1759218604441 by omega)]
      rw [q2]
      refine EndsIn.bind (pick_ends hb (p + 1) 12 (by omega) (by omega) (by omega)) fun s hs => ?_
      obtain ⟨s2, s3, s4, _⟩ := hs
      have s5 := s4 (by omega)
      rw [s2, w64 (a := t + s.1) (by omega) (by omega), w64 (a := (i : Int) + 1) (by omega) (by omega)]
      refine (ih (i + 1) _ (t + s.1) (p + 1 + 1) (by omega) (by rw [List.length_append]; simp [hl]) (by omega) (fun r hx => ?_) (by omega) (by omega) (by omega) (by omega)).mono fun r hr => ⟨hr.1, by omega, by omega⟩
      rcases List.mem_append.1 hx with hx | hx
      · exact hr r hx
      · rw [List.mem_singleton] at hx
        subst hx
        exact ⟨by simp, by simp, by show (0 : Int) ≤ i; omega, by show (i : Int) ≤ 16; omega, by show (-1 : Int) ≤ t; omega, by show t ≤ 1000; omega⟩
    · exact fin i l t p hl hi hr p0 p1 h
theorem drawRow_ends {b : List Int} (hb : CodeOk b) (p : Int) (h0 : 0 ≤ p) (h1 : p ≤ 99999000) : EndsIn (fun k => spec_l92Row.f k b p) (fun r => DrR r.1 ∧ p ≤ r.2 ∧ r.2 ≤ p + 100) := by
  have st : ∀ (n q : Int), n ≤ 16 → p ≤ q → q ≤ p + 10 → EndsIn (fun k => spec_l92Row.j0 k [] n b q) (fun r => DrR r.1 ∧ p ≤ r.2 ∧ r.2 ≤ p + 100) := by
    intro n q hn hq0 hq1
    refine EndsIn.step (fun k => by rw [spec_l92Row.j0]) ?_
    refine EndsIn.bind (pick_ends hb q 40 (by omega) (by omega) (by omega)) fun t ht => ?_
    obtain ⟨t2, t3, t4, _⟩ := ht
    have t5 := t4 (by omega)
    rw [t2]
    have := drawRow_loop hb n hn 16 0 [] t.1 (q + 1) (by omega) (by simp) (by omega) (by simp) t3 (by omega) (by omega) (by omega)
    exact this.mono fun r hr => ⟨hr.1, by omega, by omega⟩
  unfold spec_l92Row.f
  simp only [bindS]
  refine EndsIn.bind (pick_ends hb p 5 h0 (by omega) (by omega)) fun q hq => ?_
  obtain ⟨q2, q3, q4, _⟩ := hq
  have q5 := q4 (by omega)
  rw [q2]
  refine EndsIn.bind (pick_ends hb (p + 1) 24 (by omega) (by omega) (by omega)) fun s hs => ?_
  obtain ⟨s2, s3, s4, _⟩ := hs
  rw [s2]
  by_cases hz : s.1 = 0
  · simp only [if_pos hz]
    refine EndsIn.bind (pick_ends hb (p + 1 + 1) 2 (by omega) (by omega) (by omega)) fun u hu => ?_
    obtain ⟨u2, u3, u4, _⟩ := hu
    have u5 := u4 (by omega)
    rw [u2, w64 (a := 15 + u.1) (by omega) (by omega)]
    exact st _ _ (by omega) (by omega) (by omega)
  · simp only [if_neg hz]
    exact st _ _ (by omega) (by omega) (by omega)
end Go.Proofs.Ythlnbbehcpdnfaa.Pu

namespace Go.Proofs.Ythlnbbehcpdnfaa.Pu
open Go.RowKit Go.Proofs.YthlnbbehcpdnfaaW.PrintWords Go.Proofs.YthlnbbehcpdnfaaW.PrintLast Go.Proofs.YthlnbbehcpdnfaaW.PrintMore Go.Proofs.Ythlnbbehcpdnfaa.G
set_option linter.unusedVariables false
set_option linter.unusedSimpArgs false
theorem sameInts_ev (a b : List Int) (ha : a.length ≤ 9223372036854775807) : Ev (fun k => laws_sameInts.f k a b) (decide (a = b)) := by
  unfold laws_sameInts.f
  by_cases h : (a.length : Int) = (b.length : Int)
  · have hl : a.length = b.length := by omega
    simp only [if_pos h]
    have key : ∀ d i, a.length - i = d → Ev (fun k => laws_sameInts.l0 k a b (i : Int)) (decide (a.drop i = b.drop i)) := by
      intro d
      induction d with
      | zero =>
        intro i hi
        refine Ev.step (fun k => by rw [laws_sameInts.l0]) ?_
        simp only [if_neg (show ¬ ((i : Int) < (a.length : Int)) by omega)]
        rw [List.drop_of_length_le (by omega), List.drop_of_length_le (by omega)]
        exact Ev.now _
      | succ d ih =>
        intro i hi
        have h1 : i < a.length := by omega
        have h2 : i < b.length := by omega
        refine Ev.step (fun k => by rw [laws_sameInts.l0]) ?_
        simp only [if_pos (show (i : Int) < (a.length : Int) by omega), if_pos (show (0 : Int) ≤ (i : Int) by omega), if_pos (show (i : Int) < (b.length : Int) by omega), rdi_nat a i h1, rdi_nat b i h2, w64 (a := (i : Int) + 1) (by omega) (by omega)]
        rw [List.drop_eq_getElem_cons h1, List.drop_eq_getElem_cons h2]
        by_cases he : a[i] = b[i]
        · simp only [if_pos he]
          rw [show decide (a[i] :: a.drop (i + 1) = b[i] :: b.drop (i + 1)) = decide (a.drop (i + 1) = b.drop (i + 1)) from decide_eq_decide.2 (by simp only [List.cons.injEq, he, true_and])]
          exact ih (i + 1) (by omega)
        · simp only [if_neg he]
          rw [show decide (a[i] :: a.drop (i + 1) = b[i] :: b.drop (i + 1)) = false from decide_eq_false (by simp only [List.cons.injEq, he, false_and, not_false_eq_true])]
          exact Ev.now _
    have := key a.length 0 (by omega)
    simpa using this
  · simp only [if_neg h]
    rw [show decide (a = b) = false from decide_eq_false (fun e => h (by rw [e]))]
    exact Ev.now _
theorem sameRecord_ev (a b : S41) (ha : Lens a) : Ev (fun k => laws_sameRecord.f k a.f0 a.f1 a.f2 a.f3 a.f4 a.f5 b.f0 b.f1 b.f2 b.f3 b.f4 b.f5) (sameB a b) := by
  unfold laws_sameRecord.f sameB
  by_cases h0 : a.f0 = b.f0
  · simp only [if_pos h0, decide_eq_true h0, Bool.true_and]
    by_cases h1 : a.f1 = b.f1
    · simp only [if_pos h1, decide_eq_true h1, Bool.true_and]
      cases h2 : (a.f2 == b.f2)
      · simp only [Bool.false_eq_true, if_false, Bool.false_and]
        exact Ev.now _
      · simp only [if_true, Bool.true_and]
        cases h4 : (a.f4 == b.f4)
        · simp only [Bool.false_eq_true, if_false, Bool.false_and]
          exact Ev.now _
        · simp only [if_true, Bool.true_and]
          refine Ev.bind (sameInts_ev _ _ ha.1) ?_
          cases decide (a.f3 = b.f3)
          · exact Ev.now _
          · simp only [if_true, Bool.true_and]
            exact Ev.bind (sameInts_ev _ _ ha.2) (Ev.now _)
    · simp only [if_neg h1, decide_eq_false h1, Bool.false_and]
      exact Ev.now _
  · simp only [if_neg h0, decide_eq_false h0, Bool.false_and]
    exact Ev.now _
instance decR : DecidableEq S41 := fun a b => if h : sameB a b = true then .isTrue ((sameB_iff a b).1 h) else .isFalse (fun e => h ((sameB_iff a b).2 e))
theorem sameRecords_ev (a b : List S41) (ha : RowL a) : Ev (fun k => laws_sameRecords.f k a b) (decide (a = b)) := by
  have ha0 := ha.1
  unfold laws_sameRecords.f
  by_cases h : (a.length : Int) = (b.length : Int)
  · have hl : a.length = b.length := by omega
    simp only [if_pos h]
    have key : ∀ d i, a.length - i = d → Ev (fun k => laws_sameRecords.l0 k a b (i : Int)) (decide (a.drop i = b.drop i)) := by
      intro d
      induction d with
      | zero =>
        intro i hi
        refine Ev.step (fun k => by rw [laws_sameRecords.l0]) ?_
        simp only [if_neg (show ¬ ((i : Int) < (a.length : Int)) by omega)]
        rw [List.drop_of_length_le (by omega), List.drop_of_length_le (by omega)]
        exact Ev.now _
      | succ d ih =>
        intro i hi
        have h1 : i < a.length := by omega
        have h2 : i < b.length := by omega
        refine Ev.step (fun k => by rw [laws_sameRecords.l0]) ?_
        simp only [if_pos (show (i : Int) < (a.length : Int) by omega), if_pos (show (0 : Int) ≤ (i : Int) by omega), if_pos (show (i : Int) < (b.length : Int) by omega), rdR_nat a i h1, rdR_nat b i h2, w64 (a := (i : Int) + 1) (by omega) (by omega)]
        refine Ev.bind (sameRecord_ev _ _ (ha.2 _ (List.getElem_mem _))) ?_
        rw [List.drop_eq_getElem_cons h1, List.drop_eq_getElem_cons h2]
        cases hs : sameB a[i] b[i]
        · have he : a[i] ≠ b[i] := fun e => by rw [(sameB_iff _ _).2 e] at hs; exact Bool.noConfusion hs
          simp only [Bool.false_eq_true, if_false]
          rw [show decide (a[i] :: a.drop (i + 1) = b[i] :: b.drop (i + 1)) = false from decide_eq_false (by simp only [List.cons.injEq, he, false_and, not_false_eq_true])]
          exact Ev.now _
        · have he := (sameB_iff _ _).1 hs
          simp only [if_true]
          rw [show decide (a[i] :: a.drop (i + 1) = b[i] :: b.drop (i + 1)) = decide (a.drop (i + 1) = b.drop (i + 1)) from decide_eq_decide.2 (by simp only [List.cons.injEq, he, true_and])]
          exact ih (i + 1) (by omega)
    have := key a.length 0 (by omega)
    simpa using this
  · simp only [if_neg h]
    rw [show decide (a = b) = false from decide_eq_false (fun e => h (by rw [e]))]
    exact Ev.now _
end Go.Proofs.Ythlnbbehcpdnfaa.Pu

namespace Go.Proofs.Ythlnbbehcpdnfaa.Pu
open Go.RowKit Go.Proofs.YthlnbbehcpdnfaaW.PrintWords Go.Proofs.YthlnbbehcpdnfaaW.PrintLast Go.Proofs.Ythlnbbehcpdnfaa.G
set_option linter.unusedVariables false
set_option linter.unusedSimpArgs false
theorem open_some (l0 : List Int) (hr : ∀ x ∈ l0, 0 ≤ x ∧ x ≤ 255) : ∃ b, spec_l6Open.f l0 = some (b, 0) ∧ CodeOk b := by
  unfold spec_l6Open.f
  by_cases h : (l0.length : Int) > 2000
  · rw [if_pos h, if_pos (by omega)]
    exact ⟨_, rfl, by rw [List.length_take]; omega, fun x hx => hr x (List.mem_of_mem_take hx)⟩
  · rw [if_neg h]
    exact ⟨_, rfl, by omega, hr⟩
end Go.Proofs.Ythlnbbehcpdnfaa.Pu

namespace Go.Proofs.Ythlnbbehcpdnfaa.Pu
open Go.RowKit Go.Proofs.YthlnbbehcpdnfaaW.PrintWords Go.Proofs.YthlnbbehcpdnfaaW.PrintLast Go.Proofs.YthlnbbehcpdnfaaW.PrintMore Go.Proofs.Ythlnbbehcpdnfaa.G
set_option linter.unusedVariables false
set_option linter.unusedSimpArgs false
abbrev RT := S41
def mergV (a b : List RT) : List RT × Bool := if ((rowOk a && rowOk b) && decide (a.length + b.length ≤ 30)) = true then (mgR a b, true) else ([], false)
theorem small_ok {l : List RT} (h : rowOk l = true) : smallR l = true := by
  unfold smallR
  rw [List.all_eq_true]
  intro x hx
  have := recOk_len ((rowOk_all h).1 x hx)
  simp only [Bool.and_eq_true, decide_eq_true_eq]
  omega
theorem RecordsMerge_ev (a b : List RT) (ha : RowL a) (hb : RowL b) : Ev (fun k => impl_RecordsMerge.f k a b) (mergV a b) := by
  unfold impl_RecordsMerge.f mergV
  refine Ev.bind (rowValid_ev a ha.1 ha.2) ?_
  cases hra : rowOk a
  · exact Ev.now _
  · simp only [if_true, Bool.true_and]
    refine Ev.bind (rowValid_ev b hb.1 hb.2) ?_
    cases hrb : rowOk b
    · exact Ev.now _
    · simp only [if_true, Bool.true_and, small_ok hra, small_ok hrb]
      by_cases h : a.length + b.length ≤ 30
      · simp only [if_neg (show ¬ 30 < a.length + b.length by omega), decide_eq_true h, if_true]
        exact Ev.now _
      · simp only [if_pos (show 30 < a.length + b.length by omega), decide_eq_false h, Bool.false_eq_true, if_false]
        exact Ev.now _
theorem l12Copy_ev (x : RT) (h : x.f3.length ≤ 12 ∧ x.f5.length ≤ 12) : spec_l12Copy.f x.f0 x.f1 x.f2 x.f3 x.f4 x.f5 = some (x.f0, x.f1, x.f2, x.f3, x.f4, x.f5) := by
  unfold spec_l12Copy.f
  simp only [bindS, List.length_nil, List.nil_append]
  rw [if_pos (by omega), if_pos (by omega)]
theorem sMerge_loop (a b : List RT) (oa : ∀ r ∈ a, recOk r = true) (ob : ∀ r ∈ b, recOk r = true) (la : a.length ≤ 30) (lb : b.length ≤ 30) :
    ∀ d i j (xs : List RT), (a.length - i) + (b.length - j) = d → i ≤ a.length → j ≤ b.length → xs.length + d ≤ 60 → Ev (fun k => spec_RecordsMerge.l0 k a b xs (i : Int) (j : Int)) (xs ++ mgR (a.drop i) (b.drop j), true) := by
  intro d
  induction d with
  | zero =>
    intro i j xs hd hi hj hx
    refine Ev.step (fun k => by rw [spec_RecordsMerge.l0]) ?_
    simp only [if_neg (show ¬ (i : Int) < (a.length : Int) by omega), decide_eq_false (show ¬ (j : Int) < (b.length : Int) by omega)]
    refine Ev.step (fun k => by rw [spec_RecordsMerge.j2]) ?_
    simp only [Bool.false_eq_true, if_false]
    rw [List.drop_of_length_le (by omega), List.drop_of_length_le (by omega), mg_nil, List.append_nil]
    exact Ev.now _
  | succ d ih =>
    intro i j xs hd hi hj hx
    have A : ∀ (h : i < a.length), (∀ (h2 : j < b.length), a[i].f1 ≤ b[j].f1) → Ev (fun k => spec_RecordsMerge.j3 k a b xs (i : Int) (j : Int) true) (xs ++ mgR (a.drop i) (b.drop j), true) := by
      intro h hle
      refine Ev.step (fun k => by rw [spec_RecordsMerge.j3]) ?_
      simp only [if_true, if_pos (show (0 : Int) ≤ (i : Int) by omega), if_pos (show (i : Int) < (a.length : Int) by omega), rdR_nat a i h, l12Copy_ev _ (recOk_len (oa _ (List.getElem_mem h))), bindS, if_pos (show xs.length < 1759218604441 by omega), w64 (a := (i : Int) + 1) (by omega) (by omega)]
      have := ih (i + 1) j (xs ++ [a[i]]) (by omega) (by omega) hj (by simp; omega)
      have e : xs ++ mgR (a.drop i) (b.drop j) = (xs ++ [a[i]]) ++ mgR (a.drop (i + 1)) (b.drop j) := by
        rw [List.drop_eq_getElem_cons h, List.append_assoc]
        by_cases h2 : j < b.length
        · rw [List.drop_eq_getElem_cons h2, mg_cons, if_pos (hle h2)]
          rfl
        · rw [List.drop_of_length_le (l := b) (by omega), mg_nil', mg_nil']
          rfl
      rw [e]
      exact this
    have B : ∀ (h : j < b.length), (∀ (h2 : i < a.length), ¬ a[i].f1 ≤ b[j].f1) → Ev (fun k => spec_RecordsMerge.j3 k a b xs (i : Int) (j : Int) false) (xs ++ mgR (a.drop i) (b.drop j), true) := by
      intro h hle
      refine Ev.step (fun k => by rw [spec_RecordsMerge.j3]) ?_
      simp only [Bool.false_eq_true, if_false, if_pos (show (0 : Int) ≤ (j : Int) by omega), if_pos (show (j : Int) < (b.length : Int) by omega), rdR_nat b j h, l12Copy_ev _ (recOk_len (ob _ (List.getElem_mem h))), bindS, if_pos (show xs.length < 1759218604441 by omega), w64 (a := (j : Int) + 1) (by omega) (by omega)]
      have := ih i (j + 1) (xs ++ [b[j]]) (by omega) hi (by omega) (by simp; omega)
      have e : xs ++ mgR (a.drop i) (b.drop j) = (xs ++ [b[j]]) ++ mgR (a.drop i) (b.drop (j + 1)) := by
        rw [List.drop_eq_getElem_cons h, List.append_assoc]
        by_cases h2 : i < a.length
        · rw [List.drop_eq_getElem_cons h2, mg_cons, if_neg (hle h2)]
          rfl
        · rw [List.drop_of_length_le (l := a) (by omega), mg_nil, mg_nil]
          rfl
      rw [e]
      exact this
    have J : Ev (fun k => spec_RecordsMerge.j2 k a b xs (i : Int) (j : Int) true) (xs ++ mgR (a.drop i) (b.drop j), true) := by
      refine Ev.step (fun k => by rw [spec_RecordsMerge.j2]) ?_
      simp only [if_true]
      by_cases hjb : j < b.length
      · simp only [if_neg (show ¬ (j : Int) = (b.length : Int) by omega)]
        by_cases hia : i < a.length
        · simp only [if_pos (show (i : Int) < (a.length : Int) by omega), if_pos (show (0 : Int) ≤ (i : Int) by omega), if_pos (show (0 : Int) ≤ (j : Int) by omega), if_pos (show (j : Int) < (b.length : Int) by omega), rdR_nat a i hia, rdR_nat b j hjb]
          by_cases hc : a[i].f1 ≤ b[j].f1
          · simp only [decide_eq_true hc]
            exact A hia (fun _ => hc)
          · simp only [decide_eq_false hc]
            exact B hjb (fun _ => hc)
        · simp only [if_neg (show ¬ (i : Int) < (a.length : Int) by omega)]
          exact B hjb (fun h => absurd h hia)
      · simp only [if_pos (show (j : Int) = (b.length : Int) by omega)]
        exact A (by omega) (fun h => absurd h hjb)
    refine Ev.step (fun k => by rw [spec_RecordsMerge.l0]) ?_
    by_cases hia : i < a.length
    · simp only [if_pos (show (i : Int) < (a.length : Int) by omega)]
      exact J
    · simp only [if_neg (show ¬ (i : Int) < (a.length : Int) by omega), decide_eq_true (show (j : Int) < (b.length : Int) by omega)]
      exact J
theorem sRecordsMerge_ev (a b : List RT) (ha : RowL a) (hb : RowL b) : Ev (fun k => spec_RecordsMerge.f k a b) (mergV a b) := by
  unfold spec_RecordsMerge.f mergV
  simp only [bindS]
  refine Ev.bind (l42Rows_ev a ha.1 ha.2) ?_
  cases hra : rowOk a
  · refine Ev.step (fun k => by rw [spec_RecordsMerge.j0]) ?_
    exact Ev.now _
  · simp only [if_true, Bool.true_and]
    refine Ev.bind (l42Rows_ev b hb.1 hb.2) ?_
    cases hrb : rowOk b
    · refine Ev.step (fun k => by rw [spec_RecordsMerge.j0]) ?_
      exact Ev.now _
    · have l1 := (rowOk_all hra).2
      have l2 := (rowOk_all hrb).2
      simp only [if_true, Bool.true_and, w64 (a := (a.length : Int) + (b.length : Int)) (by omega) (by omega)]
      refine Ev.step (fun k => by rw [spec_RecordsMerge.j0]) ?_
      by_cases h : a.length + b.length ≤ 30
      · simp only [decide_eq_false (show ¬ (a.length : Int) + (b.length : Int) > 30 by omega), Bool.false_eq_true, if_false, decide_eq_true h, if_true]
        have := sMerge_loop a b (rowOk_all hra).1 (rowOk_all hrb).1 l1 l2 _ 0 0 [] rfl (by omega) (by omega) (by simp; omega)
        simpa using this
      · simp only [decide_eq_true (show (a.length : Int) + (b.length : Int) > 30 by omega), if_true, decide_eq_false h, Bool.false_eq_true, if_false]
        exact Ev.now _
theorem mg_sub : ∀ (n : Nat) (a b : List RT), a.length + b.length = n → List.Sublist a (mgR a b)
  | _, [], b, _ => List.nil_sublist _
  | _, x :: a, [], _ => by rw [mg_nil']; exact List.Sublist.refl _
  | 0, x :: a, y :: b, h => by simp at h
  | n + 1, x :: a, y :: b, h => by
    rw [mg_cons]
    split
    · exact List.Sublist.cons_cons _ (mg_sub n a (y :: b) (by simp at h ⊢; omega))
    · exact List.Sublist.cons _ (mg_sub n (x :: a) b (by simp at h ⊢; omega))
theorem mg_len : ∀ (n : Nat) (a b : List RT), a.length + b.length = n → (mgR a b).length = n
  | _, [], b, h => by rw [mg_nil]; simpa using h
  | _, x :: a, [], h => by rw [mg_nil']; simpa using h
  | 0, x :: a, y :: b, h => by simp at h
  | n + 1, x :: a, y :: b, h => by
    rw [mg_cons]
    split
    · rw [List.length_cons, mg_len n a (y :: b) (by simp at h ⊢; omega)]
    · rw [List.length_cons, mg_len n (x :: a) b (by simp at h ⊢; omega)]
theorem mg_mem {x : RT} : ∀ (n : Nat) (a b : List RT), a.length + b.length = n → x ∈ mgR a b → x ∈ a ∨ x ∈ b
  | _, [], b, _, h => by rw [mg_nil] at h; exact .inr h
  | _, y :: a, [], _, h => by rw [mg_nil'] at h; exact .inl h
  | 0, _ :: a, y :: b, h, _ => by simp at h
  | n + 1, z :: a, y :: b, h, hx => by
    rw [mg_cons] at hx
    split at hx
    · rcases List.mem_cons.1 hx with rfl | hx
      · exact .inl List.mem_cons_self
      · rcases mg_mem n a (y :: b) (by simp at h ⊢; omega) hx with h1 | h1
        · exact .inl (List.mem_cons_of_mem _ h1)
        · exact .inr h1
    · rcases List.mem_cons.1 hx with rfl | hx
      · exact .inr List.mem_cons_self
      · rcases mg_mem n (z :: a) b (by simp at h ⊢; omega) hx with h1 | h1
        · exact .inl h1
        · exact .inr (List.mem_cons_of_mem _ h1)
theorem mg_row {a b : List RT} (ha : DrR a) (hb : DrR b) : RowL (mgR a b) := by
  refine ⟨?_, fun r hr => ?_⟩
  · rw [mg_len _ a b rfl]
    have := ha.1
    have := hb.1
    omega
  · rcases mg_mem _ a b rfl hr with h | h
    · exact ha.rowL.2 r h
    · exact hb.rowL.2 r h
theorem drawM_ends {b : List Int} (hb : CodeOk b) : EndsIn (fun k => (spec_l92Row.f k b 0).bind fun bt148 => ((spec_l92Row.f k b bt148.2).bind fun bt152 => (some (bt148.1, bt152.1)))) (fun r => DrR r.1 ∧ DrR r.2) := by
  refine EndsIn.bind (drawRow_ends hb 0 (by omega) (by omega)) fun r hr => ?_
  refine EndsIn.bind (drawRow_ends hb r.2 (by omega) (by omega)) fun s hs => ?_
  exact EndsIn.now _ ⟨hr.1, hs.1⟩
end Go.Proofs.Ythlnbbehcpdnfaa.Pu

namespace Go.Proofs.Ythlnbbehcpdnfaa.Pure
open Go.RowKit Go.Proofs.Ythlnbbehcpdnfaa.G Go.Proofs.YthlnbbehcpdnfaaW.PrintWords Go.Proofs.YthlnbbehcpdnfaaW.PrintLast Go.Proofs.YthlnbbehcpdnfaaW.PrintMore Go.Proofs.Ythlnbbehcpdnfaa.Pu
set_option linter.unusedSimpArgs false
set_option linter.unusedVariables false
theorem sub_ne {x y : RT} {l m : List RT} (h : List.Sublist (x :: l) (y :: m)) (hne : y ≠ x) : List.Sublist (x :: l) m := by
  cases h with
  | cons _ h => exact h
  | cons_cons _ h => exact absurd rfl hne
theorem merge_loop (a b out : List RT) (hlen : out.length = a.length + b.length) (hl : out.length ≤ 60) (ho : RowL out) : ∀ d n i, out.length - i = d → n ≤ a.length → i ≤ out.length → List.Sublist (a.drop n) (out.drop i) →
    Ev (fun k => laws_FnMerge.l0 k a b out (n : Int) (i : Int)) true := by
  have fin : ∀ (n i : Nat), n = a.length → Ev (fun k => laws_FnMerge.j2 k a b out (n : Int) (i : Int) false) true := by
    intro n i hn
    subst hn
    refine Ev.step (fun k => by rw [laws_FnMerge.j2]) ?_
    simp only [Bool.false_eq_true, if_false, if_true, w64 (a := (a.length : Int) + (b.length : Int)) (by omega) (by omega)]
    rw [show ((out.length : Int) == (a.length : Int) + (b.length : Int)) = true by rw [beq_iff_eq]; omega]
    exact Ev.now _
  intro d
  induction d with
  | zero =>
    intro n i hd hn hi hs
    refine Ev.step (fun k => by rw [laws_FnMerge.l0]) ?_
    simp only [if_neg (show ¬ (i : Int) < (out.length : Int) by omega)]
    refine fin n i ?_
    rw [List.drop_of_length_le (l := out) (by omega)] at hs
    have := List.eq_nil_of_sublist_nil hs
    have := congrArg List.length this
    simp at this
    omega
  | succ d ih =>
    intro n i hd hn hi hs
    have hlt : i < out.length := by omega
    refine Ev.step (fun k => by rw [laws_FnMerge.l0]) ?_
    simp only [if_pos (show (i : Int) < (out.length : Int) by omega)]
    by_cases hna : n < a.length
    · simp only [decide_eq_true (show (n : Int) < (a.length : Int) by omega)]
      refine Ev.step (fun k => by rw [laws_FnMerge.j2]) ?_
      simp only [if_true, if_pos (show (0 : Int) ≤ (i : Int) by omega), if_pos (show (i : Int) < (out.length : Int) by omega), if_pos (show (0 : Int) ≤ (n : Int) by omega), if_pos (show (n : Int) < (a.length : Int) by omega), rdR_nat out i hlt, rdR_nat a n hna, w64 (a := (i : Int) + 1) (by omega) (by omega), w64 (a := (n : Int) + 1) (by omega) (by omega)]
      refine Ev.bind (sameRecord_ev _ _ (ho.2 _ (List.getElem_mem _))) ?_
      rw [List.drop_eq_getElem_cons hna, List.drop_eq_getElem_cons hlt] at hs
      cases hb : sameB out[i] a[n]
      · simp only [Bool.false_eq_true, if_false]
        refine ih n (i + 1) (by omega) hn (by omega) ?_
        rw [List.drop_eq_getElem_cons hna]
        exact sub_ne hs (fun he => by rw [(sameB_iff _ _).2 he] at hb; cases hb)
      · simp only [if_true]
        have he := (sameB_iff _ _).1 hb
        rw [he] at hs
        exact ih (n + 1) (i + 1) (by omega) (by omega) (by omega) (List.cons_sublist_cons.1 hs)
    · simp only [decide_eq_false (show ¬ (n : Int) < (a.length : Int) by omega)]
      exact fin n i (by omega)
theorem FnMerge : OFnMerge.Pure := by
  intro l0 hl0 ho0
  refine EndsIn.rounds ?_
  unfold laws_FnMerge.f
  have hr := fun x hx => u8_range (ho0 x hx)
  by_cases h : (l0.length : Int) > 1048576
  · simp only [if_pos h]
    exact EndsIn.now _ rfl
  · simp only [if_neg h]
    obtain ⟨c, hc, hok⟩ := open_some l0 hr
    unfold spec_DrawRecordsMerge.f
    simp only [hc, bindS]
    refine EndsIn.bind (P := fun r => DrR r.1 ∧ DrR r.2) (drawM_ends hok) fun q hq => ?_
    obtain ⟨a, b⟩ := q
    obtain ⟨da, db⟩ := hq
    have ra := DrR.rowL da
    have rb := DrR.rowL db
    refine ⟨true, ?_, rfl⟩
    refine Ev.bind (RecordsMerge_ev _ _ ra rb) (Ev.bind (sRecordsMerge_ev _ _ ra rb) ?_)
    simp only [bne_self_eq_false, Bool.false_eq_true, if_false]
    have rm : RowL (mergV a b).1 := by
      unfold mergV
      split
      · exact mg_row da db
      · exact ⟨by simp, by simp⟩
    refine Ev.bind (sameRecords_ev _ _ rm) ?_
    simp only [decide_true, if_true]
    refine Ev.step (fun k => by rw [laws_FnMerge.j0]) ?_
    by_cases hv : ((rowOk a && rowOk b) && decide (a.length + b.length ≤ 30)) = true
    · rw [show mergV a b = (mgR a b, true) by unfold mergV; rw [if_pos hv]]
      simp only [Bool.not_true, Bool.false_eq_true, if_false]
      simp only [Bool.and_eq_true, decide_eq_true_eq] at hv
      have := merge_loop a b (mgR a b) (mg_len _ a b rfl) (by rw [mg_len _ a b rfl]; omega) (mg_row da db) _ 0 0 rfl (by omega) (by omega) (by simpa using mg_sub _ a b rfl)
      exact this
    · rw [show mergV a b = ([], false) by unfold mergV; rw [if_neg hv]]
      simp only [Bool.not_false, if_true, beq_self_eq_true]
      exact Ev.bind (sameRecords_ev _ _ ⟨by simp, by simp⟩) (by simp only [decide_true]; exact Ev.now _)
end Go.Proofs.Ythlnbbehcpdnfaa.Pure

namespace Go.Proofs.Ythlnbbehcpdnfaa.fnMerge
open Go.ChangeShapes Go.WideShapes Go.ChangeAt Go.RowKit Go.Proofs.Ythlnbbehcpdnfaa.OFnMerge Go.Proofs.Ythlnbbehcpdnfaa.G Go.Joins
open Go.ChangeMaps (open_string shut_string)
set_option linter.unusedVariables false
theorem own : ownKnob Try.prog.godebug = none := by kernel_rfl
theorem laidOut : laidOutB Try.prog = true := by kernel_rfl
set_option maxRecDepth 100000 in
theorem lifted (os : Os) (started : os.Started) (H : Type) (enc : TypeId × Value → H) :
    ReturnsInHanded {} Try.checked os 11 .any (Rows.fnMergeSpec.pre6 enc Try.prog Try.f11 Rows.fnMergeRow.domain false) (Rows.fnMergeSpec.post enc Try.prog Try.f11 false true false false) := by
  refine returnsInHanded_of_change_sized (C := Try.checked) own started (by kernel_rfl) Try.func11
    (ChangeSpec.witness6 (enc := enc) (C := Try.checked) false ⟨#[], #[.slice none 0 0], []⟩ 8 (by kernel_rfl) (by kernel_rfl) (by kernel_rfl) (by kernel_rfl)) ?_
  intro W base args ds gs before hval0 hW hcnd hsz0 _
  have hsz : (DataW.weightsEach Try.prog (Try.f11.params.toList ++ Rows.fnMergeSpec.plain.varTypes Try.prog) (ds ++ gs)).all (· ≤ reachBytes) = true := hsz0
  have hval : ∀ (j : Nat) t v, Try.f11.params[j]? = some t → args[j]? = some v → Value.okWide Try.prog W .any base t v := hval0
  have hW' := hW
  obtain ⟨p, q, hA0, hV, rfl, hfz, hnd⟩ := hW
  have hA : DataW.TrodAll enc Try.prog W 0 (fun _ => true) true Try.f11.params.toList args.toList ds p := hA0
  rw [Try.params11] at hA hval hsz
  obtain ⟨v0, vs0, d0, ds0, p0, q0, hargs, rfl, rfl, h0, r0⟩ := trodAll_cons hA
  obtain ⟨rfl, rfl, rfl⟩ := trodAll_nil r0
  obtain rfl : args = #[v0] := by cases args; simp_all
  obtain ⟨rfl, rfl⟩ := trodVars_none hV
  obtain ⟨a0, len0, cap0, rfl⟩ := okWide_slice Try.underlying29 (hval 0 29 v0 rfl rfl)
  have k0 := h0
  have lt0 : ∀ x ∈ p0, x.block < W.heap.size := by obtain ⟨m, hm⟩ := k0; exact DataW.trod_lt m _ _ _ hm
  obtain ⟨fuel0, hf0⟩ := h0
  obtain ⟨A0, c0, l0, hcs0, hlc0, hm0, hC0, ho0⟩ := Rd.opens_row Try.underlying29 (Rd.opens_int Try.underlying5 (by kernel_rfl)) hf0
  simp [Value.cells] at hcs0
  obtain ⟨rfl, rfl, rfl⟩ := hcs0
  clear hA0 hval0 hsz0 hsz
  obtain ⟨k, h⟩ := Pure.FnMerge l0 (Nat.le_trans hlc0 hm0) ho0
  refine (laws_FnMerge.calls k _ _ l0 true W hC0 hlc0 h).mono fun e W' ⟨he, bel0⟩ => ?_
  subst he
  have bel : Below W.heap.size W W' := bel0
  exact ⟨_, rfl, _, _, _, [], _, [], hW', trodAll_mk1 (shut_bool Try.underlying4 _), (trodAll_cons_mk (Below.trod laidOut (by kernel_rfl) (of_decide_eq_true (by kernel_rfl)) k0 bel lt0) trodAll_mk0), rfl, bel.frame _, fun h => by cases h⟩
theorem over : Rows.fnMergeRow.holds Try.pinned (OpenSpec.ofChange Rows.fnMergeSpec) :=
  OpenClaim.holds_of_wide 11 Try.f11 rfl rfl rfl rfl rfl rfl rfl ⟨rfl, rfl, rfl, rfl, rfl⟩ rfl rfl rfl rfl rfl (by kernel_rfl) Try.func11 (by kernel_rfl)
    (of_decide_eq_true (by kernel_rfl)) (by unfold Func.isWrapper; first | (rw [if_pos (by decide +kernel)]; kernel_rfl) | (rw [if_neg (by decide +kernel)]; exact ⟨rfl, rfl⟩))
    (fun os started H enc _ => lifted os started H enc)
theorem proved : Rows.FnMergeSaid := over
#print axioms proved
end Go.Proofs.Ythlnbbehcpdnfaa.fnMerge
namespace Go.Proofs.Ythlnbbehcpdnfaa
/-- The row, under a short name, for the claim. -/
theorem fnMerge_holds : Rows.FnMergeSaid := fnMerge.proved
end Go.Proofs.Ythlnbbehcpdnfaa

