/- A text of seat Ytahenocndacjeaa: what the law FnKeepTimeFind needs of this repo's texts (by pack.py). Not trusted: Lean checks it. -/
import Derived.Test.YtahenocndacjeaaKFnKeepTimeFind13
import Derived.Deep.Slices
import Derived.SizedLaws
import Derived.Laws.BitsLemmas
import Derived.Test.YtahenocndacjeaaRows
import Derived.WalkKit
import Derived.ProofKit
import Derived.OpenShut
import Derived.ShutString
import Derived.ChangeOld
import Derived.Below
import Derived.Lib.SmallJoins
import Derived.Laws.StructEq
import Derived.ChangeSlices
namespace Go.Proofs.Ytahenocndacjeaa.G
open Go.RowKit Go.Proofs.YtahenocndacjeaaW.PrintWords Go.Proofs.YtahenocndacjeaaW.PrintLast Go.Proofs.YtahenocndacjeaaW.PrintMore
attribute [local go_sem] max2_int min2_int max_two min_two max_three min_three max_four min_four   -- for this text's walks alone
set_option linter.unusedVariables false
set_option linter.unusedSimpArgs false

def impl_BatchSpan.f (k : Nat) (a0_0 : Bool) (a0_1 : Bool) (a0_2 : Int) (a0_3 : Int) (a0_4 : Int) (l0_5 : List (S32)) : Option (Int × Int × Bool) := (impl_BatchValid.f k a0_0 a0_1 a0_2 a0_3 a0_4 l0_5).bind fun t355 => (if t355 = true then ((impl_Batch_first.f a0_0 a0_1 a0_2 a0_3 a0_4 l0_5).bind fun t356 => ((impl_Batch_last.f a0_0 a0_1 a0_2 a0_3 a0_4 l0_5).bind fun t357 => (some (t356, t357, true)))) else (some (0, 0, false)))
set_option maxHeartbeats 8000000 in
set_option maxRecDepth 100000 in
theorem impl_BatchSpan.calls (k : Nat) (a0_0 : Bool) (a0_1 : Bool) (a0_2 : Int) (a0_3 : Int) (a0_4 : Int) (A0_5 : Option Addr) (c0_5 : Nat) (l0_5 : List (S32)) (r1 : Int) (r2 : Int) (r3 : Bool) (w : World) (hr0_5 : Kd.C k32 w A0_5 l0_5.length l0_5) (hc0_5 : l0_5.length ≤ c0_5) (h : impl_BatchSpan.f k a0_0 a0_1 a0_2 a0_3 a0_4 l0_5 = some (r1, r2, r3)) :
  Calls Try.prog 11 #[.agg #[.bool a0_0, .bool a0_1, .int .i64 a0_2, .int .i64 a0_3, .int .i64 a0_4, .slice A0_5 l0_5.length c0_5]] w fun e w' => e = .returned (.tuple #[.int .i64 r1, .int .i64 r2, .bool r3]) ∧ Below w.heap.size w w' := by
 have hu29 := Try.underlying29
 have HR0_5 := Aside0.mk hr0_5
 have HC0_5 := Aside0.mk hc0_5
 clear hr0_5 hc0_5
 have HB := Aside0.mk (Below.refl w.heap.size w)
 have H : ((impl_BatchValid.f k a0_0 a0_1 a0_2 a0_3 a0_4 l0_5).bind fun t355 => (if t355 = true then ((impl_Batch_first.f a0_0 a0_1 a0_2 a0_3 a0_4 l0_5).bind fun t356 => ((impl_Batch_last.f a0_0 a0_1 a0_2 a0_3 a0_4 l0_5).bind fun t357 => (some (t356, t357, true)))) else (some (0, 0, false)))) = some (r1, r2, r3) := h
 clear h
 replace H := Option.bind_eq_some_iff.mp H
 obtain ⟨t355, A20, H⟩ := H
 replace H : (if t355 = true then ((impl_Batch_first.f a0_0 a0_1 a0_2 a0_3 a0_4 l0_5).bind fun t356 => ((impl_Batch_last.f a0_0 a0_1 a0_2 a0_3 a0_4 l0_5).bind fun t357 => (some (t356, t357, true)))) else (some (0, 0, false))) = some (r1, r2, r3) := H
 have A2 := Aside0.mk A20
 clear A20
 by_cases c3 : t355 = true
 ·subst c3
  have H1 : ((impl_Batch_first.f a0_0 a0_1 a0_2 a0_3 a0_4 l0_5).bind fun t356 => ((impl_Batch_last.f a0_0 a0_1 a0_2 a0_3 a0_4 l0_5).bind fun t357 => (some (t356, t357, true)))) = some (r1, r2, r3) := by rw [if_pos rfl] at H; exact H
  clear H
  have H := H1
  clear H1
  replace H := Option.bind_eq_some_iff.mp H
  obtain ⟨t356, A40, H⟩ := H
  replace H : ((impl_Batch_last.f a0_0 a0_1 a0_2 a0_3 a0_4 l0_5).bind fun t357 => (some (t356, t357, true))) = some (r1, r2, r3) := H
  have A4 := Aside0.mk A40
  clear A40
  replace H := Option.bind_eq_some_iff.mp H
  obtain ⟨t357, A50, H⟩ := H
  replace H : (some (t356, t357, true)) = some (r1, r2, r3) := H
  have A5 := Aside0.mk A50
  clear A50
  simp only [Option.some.injEq, Prod.mk.injEq] at H
  obtain ⟨rfl, rfl, rfl⟩ := H
  go_enter Try.func11, Try.ntmps11
  try go_wp2_with (first | ((with_reducible refine gate_dst (N := 1) rfl ?_); refine box_event ?hg (N := 1) ?hd (cs := #[.bool a0_0, .bool a0_1, .int .i64 a0_2, .int .i64 a0_3, .int .i64 a0_4, .slice A0_5 l0_5.length c0_5]) (t := 29) ?hr ?_; (case hd => rfl); (case hg => rfl); (case hr => first | (go_simp; done) | (go_simp; rfl)); intro gb354 hg w6 hbox hb; have n0_ := Aside0.mk (below_step (by repeat (first | (with_reducible first | exact HB.out | apply below_alloc | apply pw_below_drewN | apply below_drew1) | exact HB.out)) hb); have n1_ := Aside0.mk (hbox); have n2_ := Aside0.mk ((by rw [hg]; exact (below_size (by repeat (first | (with_reducible first | exact HB.out | apply below_alloc | apply pw_below_drewN | apply below_drew1) | exact HB.out))) : w.heap.size ≤ gb354)); have n3_ := Aside0.mk ((by rw [hg]; exact (below_size (by repeat (first | (with_reducible first | exact HB.out | apply below_alloc | apply pw_below_drewN | apply below_drew1) | exact HB.out))) : w.heap.size ≤ gb354)); clear HB; have HB := n0_; have BK354 := n1_; have GW354 := n2_; have GE354 := n3_; clear n0_ n1_ n2_ n3_; clear hb hbox hg; have hcz7_0 : w6.cell? ⟨gb354, 0, none⟩ = some (.bool a0_0) := (blk_cell BK354.out 0).trans rfl; have hcz7_1 : w6.cell? ⟨gb354, 1, none⟩ = some (.bool a0_1) := (blk_cell BK354.out 1).trans rfl; have hcz7_2 : w6.cell? ⟨gb354, 2, none⟩ = some (.int .i64 a0_2) := (blk_cell BK354.out 2).trans rfl; have hcz7_3 : w6.cell? ⟨gb354, 3, none⟩ = some (.int .i64 a0_3) := (blk_cell BK354.out 3).trans rfl; have hcz7_4 : w6.cell? ⟨gb354, 4, none⟩ = some (.int .i64 a0_4) := (blk_cell BK354.out 4).trans rfl; have hcz7_5 : w6.cell? ⟨gb354, 5, none⟩ = some (.slice A0_5 l0_5.length c0_5) := (blk_cell BK354.out 5).trans rfl; have hfz7_0 := blk_frozen BK354.out 0; have hfz7_1 := blk_frozen BK354.out 1; have hfz7_2 := blk_frozen BK354.out 2; have hfz7_3 := blk_frozen BK354.out 3; have hfz7_4 := blk_frozen BK354.out 4; have hfz7_5 := blk_frozen BK354.out 5) | ((with_reducible refine gate_callee (f := 24) rfl ?_); refine goesL_ (some 6) rfl rfl Try.func24 (by kernel_rfl) rfl #[.agg #[.bool a0_0, .bool a0_1, .int .i64 a0_2, .int .i64 a0_3, .int .i64 a0_4, .slice A0_5 l0_5.length c0_5]] rfl (by (try simp only [List.map_toArray, List.map_cons, List.map_nil]); first | done | rfl | (simp only [List.length_drop, List.length_take]; rfl)) ?_; (with_reducible refine (impl_BatchValid.calls k a0_0 a0_1 a0_2 a0_3 a0_4 _ _ l0_5 true _ ?side1 ?side2 A2.out).mono ?_); (case side1 => repeat (first | exact (Kd.C_below HR0_5.out HB.out) | (with_reducible refine Kd.C_alloc ?_ _) | (with_reducible refine Kd.C_drewN ?_ _) | (with_reducible refine Kd.C_drew ?_))); (case side2 => exact HC0_5.out); rintro e w8 ⟨rfl, hb⟩; refine ⟨_, rfl, ?_⟩; have n0_ := Aside0.mk (blk_below (g := gb354) (o := .cells #[.bool a0_0, .bool a0_1, .int .i64 a0_2, .int .i64 a0_3, .int .i64 a0_4, .slice A0_5 l0_5.length c0_5] 29 (0, 0)) (by (with_reducible repeat (first | refine blk_drewN ?_ _ | refine blk_drew ?_ | refine blk_alloc ?_ _)); exact BK354.out) hb); have n1_ := Aside0.mk (below_step (by repeat (first | (with_reducible first | exact HB.out | apply below_alloc | apply pw_below_drewN | apply below_drew1 | refine below_set ?_ GE354.out) | exact HB.out)) hb); clear BK354; clear HB; have BK354 := n0_; have HB := n1_; clear n0_ n1_; (try clear hb); (try clear hb2); (try clear hk); (try clear hi)))
  have n0_ := Aside0.mk (blk_drew BK354.out)
  have n1_ := Aside0.mk (below_drew1 HB.out)
  clear BK354
  clear HB
  have BK354 := n0_
  have HB := n1_
  clear n0_ n1_
  refine start_ (n := 7) (S := fun w' => w'.cell? ⟨gb354, 0, none⟩ = some (.bool a0_0) ∧ w'.cell? ⟨gb354, 1, none⟩ = some (.bool a0_1) ∧ w'.cell? ⟨gb354, 2, none⟩ = some (.int .i64 a0_2) ∧ w'.cell? ⟨gb354, 3, none⟩ = some (.int .i64 a0_3) ∧ w'.cell? ⟨gb354, 4, none⟩ = some (.int .i64 a0_4) ∧ w'.cell? ⟨gb354, 5, none⟩ = some (.slice A0_5 l0_5.length c0_5)) (ds := []) #[false, false, false, false, false, false, false] (by kernel_rfl) rfl rfl ⟨(blk_cell BK354.out 0).trans rfl, (blk_cell BK354.out 1).trans rfl, (blk_cell BK354.out 2).trans rfl, (blk_cell BK354.out 3).trans rfl, (blk_cell BK354.out 4).trans rfl, (blk_cell BK354.out 5).trans rfl⟩ (fun hHeld => ?_)
  generalize w8.drew = w9 at BK354 HB hHeld ⊢
  refine take_ (i := 0) (N := some 8) (v := ?_) (a' := ?_) #[true, false, false, false, false, false, false] rfl rfl (by kernel_rfl) (fun _ _ _ h => h) (Or.inl ⟨by rfl, ?_⟩) hHeld ?_ ?_
  rotate_left
  ·rintro w' ⟨s0, s1, s2, s3, s4, s5⟩
   go_simp
   with_reducible rfl
  rotate_left
  ·simp only [Act.put, List.setIfInBounds_toArray, List.set_cons_zero, List.set_cons_succ, i64_w, i32_w]
   rfl
  refine take_ (i := 2) (N := some 10) (v := ?_) (a' := ?_) #[true, false, true, false, false, false, false] rfl rfl (by kernel_rfl) (fun _ _ _ h => h) (Or.inl ⟨by rfl, ?_⟩) hHeld ?_ ?_
  rotate_left
  ·rintro w' ⟨s0, s1, s2, s3, s4, s5⟩
   go_simp
   with_reducible rfl
  rotate_left
  ·simp only [Act.put, List.setIfInBounds_toArray, List.set_cons_zero, List.set_cons_succ, i64_w, i32_w]
   rfl
  refine one_ (i := 1) (N := some 9) #[true, true, true, false, false, false, false] rfl rfl (by kernel_rfl) (by decide) (fun K hK => ?_)
  refine goes_ Try.func25 (by kernel_rfl) rfl #[.agg #[.bool a0_0, .bool a0_1, .int .i64 a0_2, .int .i64 a0_3, .int .i64 a0_4, .slice A0_5 l0_5.length c0_5]] (by rfl) rfl rfl (by (try simp only [List.map_toArray, List.map_cons, List.map_nil]); first | done | rfl | (simp only [List.length_drop, List.length_take]; rfl)) ?_
  with_reducible refine (impl_Batch_first.calls a0_0 a0_1 a0_2 a0_3 a0_4 _ _ l0_5 t356 _ ?side1 ?side2 A4.out).mono ?_
  (case side1 => repeat (first | exact (Kd.C_below HR0_5.out HB.out) | (with_reducible refine Kd.C_alloc ?_ _) | (with_reducible refine Kd.C_drewN ?_ _) | (with_reducible refine Kd.C_drew ?_)))
  (case side2 => exact HC0_5.out)
  rintro e w10 ⟨rfl, hb⟩
  refine ⟨_, rfl, ?_⟩
  have n0_ := Aside0.mk (blk_below (g := gb354) (o := .cells #[.bool a0_0, .bool a0_1, .int .i64 a0_2, .int .i64 a0_3, .int .i64 a0_4, .slice A0_5 l0_5.length c0_5] 29 (0, 0)) (by (with_reducible repeat (first | refine blk_drewN ?_ _ | refine blk_drew ?_ | refine blk_alloc ?_ _)); exact BK354.out) hb)
  have n1_ := Aside0.mk (below_step (by repeat (first | (with_reducible first | exact HB.out | apply below_alloc | apply pw_below_drewN | apply below_drew1 | refine below_set ?_ GE354.out) | exact HB.out)) hb)
  clear BK354
  clear HB
  have BK354 := n0_
  have HB := n1_
  clear n0_ n1_
  (try clear hb)
  (try clear hb2)
  (try clear hk)
  (try clear hi)
  refine hK.out _ _ ⟨(blk_cell BK354.out 0).trans rfl, (blk_cell BK354.out 1).trans rfl, (blk_cell BK354.out 2).trans rfl, (blk_cell BK354.out 3).trans rfl, (blk_cell BK354.out 4).trans rfl, (blk_cell BK354.out 5).trans rfl⟩ (fun hHeld => ?_)
  clear hK K
  refine norm_ (a' := ?_) ?_ ?_
  rotate_left
  ·show Act.put _ (some 9) _ = _
   simp only [Act.put, List.setIfInBounds_toArray, List.set_cons_zero, List.set_cons_succ, i64_w, i32_w]
   rfl
  refine one_ (i := 3) (N := some 11) #[true, true, true, true, false, false, false] rfl rfl (by kernel_rfl) (by decide) (fun K hK => ?_)
  refine goes_ Try.func26 (by kernel_rfl) rfl #[.agg #[.bool a0_0, .bool a0_1, .int .i64 a0_2, .int .i64 a0_3, .int .i64 a0_4, .slice A0_5 l0_5.length c0_5]] (by rfl) rfl rfl (by (try simp only [List.map_toArray, List.map_cons, List.map_nil]); first | done | rfl | (simp only [List.length_drop, List.length_take]; rfl)) ?_
  with_reducible refine (impl_Batch_last.calls a0_0 a0_1 a0_2 a0_3 a0_4 _ _ l0_5 t357 _ ?side1 ?side2 A5.out).mono ?_
  (case side1 => repeat (first | exact (Kd.C_below HR0_5.out HB.out) | (with_reducible refine Kd.C_alloc ?_ _) | (with_reducible refine Kd.C_drewN ?_ _) | (with_reducible refine Kd.C_drew ?_)))
  (case side2 => exact HC0_5.out)
  rintro e w11 ⟨rfl, hb⟩
  refine ⟨_, rfl, ?_⟩
  have n0_ := Aside0.mk (blk_below (g := gb354) (o := .cells #[.bool a0_0, .bool a0_1, .int .i64 a0_2, .int .i64 a0_3, .int .i64 a0_4, .slice A0_5 l0_5.length c0_5] 29 (0, 0)) (by (with_reducible repeat (first | refine blk_drewN ?_ _ | refine blk_drew ?_ | refine blk_alloc ?_ _)); exact BK354.out) hb)
  have n1_ := Aside0.mk (below_step (by repeat (first | (with_reducible first | exact HB.out | apply below_alloc | apply pw_below_drewN | apply below_drew1 | refine below_set ?_ GE354.out) | exact HB.out)) hb)
  clear BK354
  clear HB
  have BK354 := n0_
  have HB := n1_
  clear n0_ n1_
  (try clear hb)
  (try clear hb2)
  (try clear hk)
  (try clear hi)
  refine hK.out _ _ ⟨(blk_cell BK354.out 0).trans rfl, (blk_cell BK354.out 1).trans rfl, (blk_cell BK354.out 2).trans rfl, (blk_cell BK354.out 3).trans rfl, (blk_cell BK354.out 4).trans rfl, (blk_cell BK354.out 5).trans rfl⟩ (fun hHeld => ?_)
  clear hK K
  refine norm_ (a' := ?_) ?_ ?_
  rotate_left
  ·show Act.put _ (some 11) _ = _
   simp only [Act.put, List.setIfInBounds_toArray, List.set_cons_zero, List.set_cons_succ, i64_w, i32_w]
   rfl
  refine pure_ (i := 4) (N := some 2) (v := ?_) (a' := ?_) #[true, true, true, true, true, false, false] rfl rfl (by kernel_rfl) (fun _ _ _ h => h) (Or.inl ⟨by rfl, ?_⟩) ?_ ?_
  rotate_left
  ·intro w'
   go_simp
   with_reducible rfl
  rotate_left
  ·simp only [Act.put, List.setIfInBounds_toArray, List.set_cons_zero, List.set_cons_succ, i64_w, i32_w]
   rfl
  refine pure_ (i := 5) (N := some 3) (v := ?_) (a' := ?_) #[true, true, true, true, true, true, false] rfl rfl (by kernel_rfl) (fun _ _ _ h => h) (Or.inl ⟨by rfl, ?_⟩) ?_ ?_
  rotate_left
  ·intro w'
   go_simp
   with_reducible rfl
  rotate_left
  ·simp only [Act.put, List.setIfInBounds_toArray, List.set_cons_zero, List.set_cons_succ, i64_w, i32_w]
   rfl
  refine pure_ (i := 6) (N := some 4) (v := ?_) (a' := ?_) #[true, true, true, true, true, true, true] rfl rfl (by kernel_rfl) (fun _ _ _ h => h) (Or.inl ⟨by rfl, ?_⟩) ?_ ?_
  rotate_left
  ·intro w'
   go_simp
   with_reducible rfl
  rotate_left
  ·simp only [Act.put, List.setIfInBounds_toArray, List.set_cons_zero, List.set_cons_succ, i64_w, i32_w]
   rfl
  refine done_ (by kernel_rfl) ?_
  try go_wp2
  go_ret3
  exact ⟨by first | rfl | (simp [errW_none, errW_some] <;> rfl) | (simp [*, errW_none, errW_some] <;> rfl), by repeat (first | (with_reducible first | exact HB.out | apply below_alloc | apply pw_below_drewN | apply below_drew1 | refine below_set ?_ GE354.out) | exact HB.out)⟩
 ·replace c3 := Bool.eq_false_iff.mpr c3
  subst c3
  have H1 : (some (0, 0, false)) = some (r1, r2, r3) := by rw [if_neg (show ¬ (false = true) by decide)] at H; exact H
  clear H
  have H := H1
  clear H1
  simp only [Option.some.injEq, Prod.mk.injEq] at H
  obtain ⟨rfl, rfl, rfl⟩ := H
  go_enter Try.func11, Try.ntmps11
  go_wp2_with (first | ((with_reducible refine gate_dst (N := 1) rfl ?_); refine box_event ?hg (N := 1) ?hd (cs := #[.bool a0_0, .bool a0_1, .int .i64 a0_2, .int .i64 a0_3, .int .i64 a0_4, .slice A0_5 l0_5.length c0_5]) (t := 29) ?hr ?_; (case hd => rfl); (case hg => rfl); (case hr => first | (go_simp; done) | (go_simp; rfl)); intro gb354 hg w12 hbox hb; have n0_ := Aside0.mk (below_step (by repeat (first | (with_reducible first | exact HB.out | apply below_alloc | apply pw_below_drewN | apply below_drew1) | exact HB.out)) hb); have n1_ := Aside0.mk (hbox); have n2_ := Aside0.mk ((by rw [hg]; exact (below_size (by repeat (first | (with_reducible first | exact HB.out | apply below_alloc | apply pw_below_drewN | apply below_drew1) | exact HB.out))) : w.heap.size ≤ gb354)); have n3_ := Aside0.mk ((by rw [hg]; exact (below_size (by repeat (first | (with_reducible first | exact HB.out | apply below_alloc | apply pw_below_drewN | apply below_drew1) | exact HB.out))) : w.heap.size ≤ gb354)); clear HB; have HB := n0_; have BK354 := n1_; have GW354 := n2_; have GE354 := n3_; clear n0_ n1_ n2_ n3_; clear hb hbox hg; have hcz13_0 : w12.cell? ⟨gb354, 0, none⟩ = some (.bool a0_0) := (blk_cell BK354.out 0).trans rfl; have hcz13_1 : w12.cell? ⟨gb354, 1, none⟩ = some (.bool a0_1) := (blk_cell BK354.out 1).trans rfl; have hcz13_2 : w12.cell? ⟨gb354, 2, none⟩ = some (.int .i64 a0_2) := (blk_cell BK354.out 2).trans rfl; have hcz13_3 : w12.cell? ⟨gb354, 3, none⟩ = some (.int .i64 a0_3) := (blk_cell BK354.out 3).trans rfl; have hcz13_4 : w12.cell? ⟨gb354, 4, none⟩ = some (.int .i64 a0_4) := (blk_cell BK354.out 4).trans rfl; have hcz13_5 : w12.cell? ⟨gb354, 5, none⟩ = some (.slice A0_5 l0_5.length c0_5) := (blk_cell BK354.out 5).trans rfl; have hfz13_0 := blk_frozen BK354.out 0; have hfz13_1 := blk_frozen BK354.out 1; have hfz13_2 := blk_frozen BK354.out 2; have hfz13_3 := blk_frozen BK354.out 3; have hfz13_4 := blk_frozen BK354.out 4; have hfz13_5 := blk_frozen BK354.out 5) | ((with_reducible refine gate_callee (f := 24) rfl ?_); refine goesL_ (some 6) rfl rfl Try.func24 (by kernel_rfl) rfl #[.agg #[.bool a0_0, .bool a0_1, .int .i64 a0_2, .int .i64 a0_3, .int .i64 a0_4, .slice A0_5 l0_5.length c0_5]] rfl (by (try simp only [List.map_toArray, List.map_cons, List.map_nil]); first | done | rfl | (simp only [List.length_drop, List.length_take]; rfl)) ?_; (with_reducible refine (impl_BatchValid.calls k a0_0 a0_1 a0_2 a0_3 a0_4 _ _ l0_5 false _ ?side1 ?side2 A2.out).mono ?_); (case side1 => repeat (first | exact (Kd.C_below HR0_5.out HB.out) | (with_reducible refine Kd.C_alloc ?_ _) | (with_reducible refine Kd.C_drewN ?_ _) | (with_reducible refine Kd.C_drew ?_))); (case side2 => exact HC0_5.out); rintro e w14 ⟨rfl, hb⟩; refine ⟨_, rfl, ?_⟩; have n0_ := Aside0.mk (blk_below (g := gb354) (o := .cells #[.bool a0_0, .bool a0_1, .int .i64 a0_2, .int .i64 a0_3, .int .i64 a0_4, .slice A0_5 l0_5.length c0_5] 29 (0, 0)) (by (with_reducible repeat (first | refine blk_drewN ?_ _ | refine blk_drew ?_ | refine blk_alloc ?_ _)); exact BK354.out) hb); have n1_ := Aside0.mk (below_step (by repeat (first | (with_reducible first | exact HB.out | apply below_alloc | apply pw_below_drewN | apply below_drew1 | refine below_set ?_ GE354.out) | exact HB.out)) hb); clear BK354; clear HB; have BK354 := n0_; have HB := n1_; clear n0_ n1_; (try clear hb); (try clear hb2); (try clear hk); (try clear hi)))
  go_ret3
  exact ⟨by first | rfl | (simp [errW_none, errW_some] <;> rfl) | (simp [*, errW_none, errW_some] <;> rfl), by repeat (first | (with_reducible first | exact HB.out | apply below_alloc | apply pw_below_drewN | apply below_drew1 | refine below_set ?_ GE354.out) | exact HB.out)⟩

def laws_FnKeepTimeFind.j0 : Nat → List (S29) → Int → Int → Int → Bool → Option (Bool)
 | 0, _, _, _, _, _ => none
 | k + 1, x3, x4, x5, x6, x31 => if x31 = true then (some (x5 == x6)) else ((impl_TimesFind.f k x3 x4).bind fun t364 => (if t364 < 0 then (some true) else (if 0 ≤ x5 then (if x5 < (x3.length : Int) then ((impl_BatchSpan.f k ((rd_T29 x3 x5).f0) ((rd_T29 x3 x5).f1) ((rd_T29 x3 x5).f2) ((rd_T29 x3 x5).f3) ((rd_T29 x3 x5).f4) ((rd_T29 x3 x5).f5)).bind fun bt366 => (if bt366.2.2 = true then (some (decide (t364 ≥ bt366.1))) else (some false))) else (none)) else (none))))
def laws_FnKeepTimeFind.f (k : Nat) (l0 : List Int) : Option (Bool) := if (l0.length : Int) > 1048576 then (some true) else ((spec_DrawKeepTime.f k l0).bind fun bt358 => ((impl_KeepTime.f k bt358.1 bt358.2).bind fun t362 => ((spec_KeepTime.f k bt358.1 bt358.2).bind fun t363 => (if t362 = t363 then (laws_FnKeepTimeFind.j0 k bt358.1 bt358.2 t362 t363 (decide (t363 < 0))) else (laws_FnKeepTimeFind.j0 k bt358.1 bt358.2 t362 t363 true)))))
set_option maxHeartbeats 8000000 in
set_option maxRecDepth 100000 in
theorem laws_FnKeepTimeFind.calls (k : Nat) (A0 : Option Addr) (c0 : Nat) (l0 : List Int) (r : Bool) (w : World) (hr0 : Kd.C (Kd.int .u8) w A0 l0.length l0) (hc0 : l0.length ≤ c0) (h : laws_FnKeepTimeFind.f k l0 = some r) :
  Calls Try.prog 5 #[.slice A0 l0.length c0] w fun e w' => e = .returned (.bool r) ∧ Below w.heap.size w w' := by
 have hu29 := Try.underlying29
 have HR0 := Aside0.mk hr0
 have HC0 := Aside0.mk hc0
 clear hr0 hc0
 have HB := Aside0.mk (Below.refl w.heap.size w)
 have H : (if (l0.length : Int) > 1048576 then (some true) else ((spec_DrawKeepTime.f k l0).bind fun bt358 => ((impl_KeepTime.f k bt358.1 bt358.2).bind fun t362 => ((spec_KeepTime.f k bt358.1 bt358.2).bind fun t363 => (if t362 = t363 then (laws_FnKeepTimeFind.j0 k bt358.1 bt358.2 t362 t363 (decide (t363 < 0))) else (laws_FnKeepTimeFind.j0 k bt358.1 bt358.2 t362 t363 true)))))) = some r := h
 clear h
 by_cases c2 : (l0.length : Int) > 1048576
 ·rw [if_pos c2] at H
  have c2b0 : decide (1048576 < (l0.length : Int)) = true := decide_eq_true c2
  have c2b1 : decide (1048576 < l0.length) = true := decide_eq_true (by omega)
  clear c2
  obtain rfl := Option.some.inj H
  go_enter Try.func5, Try.ntmps5
  go_wp2
  all_goals go_ret
  all_goals exact ⟨by first | rfl | (simp [errW_none, errW_some] <;> rfl) | (simp [*, errW_none, errW_some] <;> rfl), by repeat (first | (with_reducible first | exact HB.out | apply below_alloc | apply pw_below_drewN | apply below_drew1) | exact HB.out)⟩
 ·rw [if_neg c2] at H
  have c2b0 : decide (1048576 < (l0.length : Int)) = false := decide_eq_false c2
  have c2b1 : decide (1048576 < l0.length) = false := decide_eq_false (by omega)
  clear c2
  replace H := Option.bind_eq_some_iff.mp H
  obtain ⟨⟨t358, t361⟩, A30, H⟩ := H
  replace H : ((impl_KeepTime.f k t358 t361).bind fun t362 => ((spec_KeepTime.f k t358 t361).bind fun t363 => (if t362 = t363 then (laws_FnKeepTimeFind.j0 k t358 t361 t362 t363 (decide (t363 < 0))) else (laws_FnKeepTimeFind.j0 k t358 t361 t362 t363 true)))) = some r := H
  have A3 := Aside0.mk A30
  clear A30
  replace H := Option.bind_eq_some_iff.mp H
  obtain ⟨t362, A40, H⟩ := H
  replace H : ((spec_KeepTime.f k t358 t361).bind fun t363 => (if t362 = t363 then (laws_FnKeepTimeFind.j0 k t358 t361 t362 t363 (decide (t363 < 0))) else (laws_FnKeepTimeFind.j0 k t358 t361 t362 t363 true))) = some r := H
  have A4 := Aside0.mk A40
  clear A40
  replace H := Option.bind_eq_some_iff.mp H
  obtain ⟨t363, A50, H⟩ := H
  replace H : (if t362 = t363 then (laws_FnKeepTimeFind.j0 k t358 t361 t362 t363 (decide (t363 < 0))) else (laws_FnKeepTimeFind.j0 k t358 t361 t362 t363 true)) = some r := H
  have A5 := Aside0.mk A50
  clear A50
  have HC6 := Aside0.mk H
  clear H
  go_enter Try.func5, Try.ntmps5
  go_upto_region 6 with (first | ((with_reducible refine gate_callee (f := 7) rfl ?_); refine goesL_ (some 16) rfl rfl Try.func7 (by kernel_rfl) rfl #[.slice A0 l0.length c0] rfl (by (try simp only [List.map_toArray, List.map_cons, List.map_nil]); first | done | rfl | (simp only [List.length_drop, List.length_take]; rfl)) ?_; (with_reducible refine (spec_DrawKeepTime.calls k _ _ l0 t358 t361 _ ?side1 ?side2 A3.out).mono ?_); (case side1 => repeat (first | exact HR0.out | (with_reducible refine Kd.C_alloc ?_ _) | (with_reducible refine Kd.C_drewN ?_ _) | (with_reducible refine Kd.C_drew ?_))); (case side2 => exact HC0.out); rintro e w7 ⟨v359, rfl, ho0, hb⟩; have u_v359 : ∀ (a_ : Addr) (m_ : Mode) (W_ : World), (store a_ v359 m_).run Try.prog W_ = stored Try.prog W_ a_ v359 m_ := fun a_ m_ W_ => run_store _ W_ a_ _ m_ (by first | (obtain ⟨_, _, e_⟩ := Kd.R_slice ho0; rw [e_]; rfl) | (obtain ⟨_, _, e_⟩ := Kd.S_slice ho0; rw [e_]; rfl) | (obtain ⟨_, _, e_, _⟩ := Kd.Q_slice ho0; rw [e_]; rfl) | (obtain ⟨_, _, e_⟩ := Kd.N_slice ho0; rw [e_]; rfl) | (obtain ⟨_, _, e_⟩ := Kd.V_slice ho0; rw [e_]; rfl)); refine ⟨_, rfl, ?_⟩; have n0_ := Aside0.mk (Kd.N_lower (Kd.N_mono (ok' := fun k_ => True) ho0 (fun k_ hk_ => trivial)) (below_size (by repeat (first | (with_reducible first | exact HB.out | apply below_alloc | apply pw_below_drewN | apply below_drew1) | exact HB.out)))); have n1_ := Aside0.mk (below_step (by repeat (first | (with_reducible first | exact HB.out | apply below_alloc | apply pw_below_drewN | apply below_drew1) | exact HB.out)) hb); clear HB; have HO360 := n0_; have HB := n1_; clear n0_ n1_; (try clear hb); (try clear hb2); (try clear hk); (try clear hi); (try clear ho0); obtain ⟨Ao8, co8, eo8⟩ := Kd.N_slice HO360.out; subst eo8) | ((with_reducible refine gate_callee (f := 8) rfl ?_); refine goesL_ (some 21) rfl rfl Try.func8 (by kernel_rfl) rfl #[.slice Ao8 t358.length co8, .int .i64 t361] rfl (by (try simp only [List.map_toArray, List.map_cons, List.map_nil]); first | done | rfl | (simp only [List.length_drop, List.length_take]; rfl)) ?_; (with_reducible refine (impl_KeepTime.calls k _ _ t358 t361 t362 _ ?side1 ?side2 A4.out).mono ?_); (case side1 => repeat (first | exact (Kd.N_reads' HO360.out).2.2 | (with_reducible refine Kd.C_alloc ?_ _) | (with_reducible refine Kd.C_drewN ?_ _) | (with_reducible refine Kd.C_drew ?_))); (case side2 => exact (Kd.N_reads' HO360.out).2.1); rintro e w9 ⟨rfl, hb⟩; refine ⟨_, rfl, ?_⟩; have n0_ := Aside0.mk (Kd.N_below (by (with_reducible repeat (first | apply Kd.N_alloc | apply Kd.N_drewN | apply Kd.N_drew)); exact HO360.out) hb); have n1_ := Aside0.mk (below_step (by repeat (first | (with_reducible first | exact HB.out | apply below_alloc | apply pw_below_drewN | apply below_drew1) | exact HB.out)) hb); clear HO360; clear HB; have HO360 := n0_; have HB := n1_; clear n0_ n1_; (try clear hb); (try clear hb2); (try clear hk); (try clear hi)) | ((with_reducible refine gate_callee (f := 9) rfl ?_); refine goesL_ (some 24) rfl rfl Try.func9 (by kernel_rfl) rfl #[.slice Ao8 t358.length co8, .int .i64 t361] rfl (by (try simp only [List.map_toArray, List.map_cons, List.map_nil]); first | done | rfl | (simp only [List.length_drop, List.length_take]; rfl)) ?_; (with_reducible refine (spec_KeepTime.calls k _ _ t358 t361 t363 _ ?side1 ?side2 A5.out).mono ?_); (case side1 => repeat (first | exact (Kd.N_reads' HO360.out).2.2 | (with_reducible refine Kd.C_alloc ?_ _) | (with_reducible refine Kd.C_drewN ?_ _) | (with_reducible refine Kd.C_drew ?_))); (case side2 => exact (Kd.N_reads' HO360.out).2.1); rintro e w10 ⟨rfl, hb⟩; refine ⟨_, rfl, ?_⟩; have n0_ := Aside0.mk (Kd.N_below (by (with_reducible repeat (first | apply Kd.N_alloc | apply Kd.N_drewN | apply Kd.N_drew)); exact HO360.out) hb); have n1_ := Aside0.mk (below_step (by repeat (first | (with_reducible first | exact HB.out | apply below_alloc | apply pw_below_drewN | apply below_drew1) | exact HB.out)) hb); clear HO360; clear HB; have HO360 := n0_; have HB := n1_; clear n0_ n1_; (try clear hb); (try clear hb2); (try clear hk); (try clear hi)))
  (try simp only [Act.put, List.setIfInBounds_toArray, List.set_cons_zero, List.set_cons_succ])
  go_cut [31] (fun v31 wc => ∃ (kq : Nat) (x31_5 : Bool), v31 = .bool x31_5 ∧ Aside0 (laws_FnKeepTimeFind.j0 kq t358 t361 t362 t363 x31_5 = some r) ∧ Aside0 (kq ≤ k) ∧ Aside0 (Kd.N k29 29 wc w.heap.size (fun _ => True) (.slice Ao8 t358.length co8) t358) ∧ Aside0 (Below w.heap.size w wc))
  case first =>
   have H := HC6.out
   clear HC6
   by_cases c11 : t362 = t363
   ·rw [if_pos c11] at H
    have c11b0 : (t362 == t363) = true := beq_iff_eq.mpr c11
    have c11b1 : (t362 != t363) = false := bne_eq_false_iff_eq.mpr c11
    clear c11
    (first | rw [c11b0] | (simp only [i64_w, i32_w]; rw [c11b0]) | skip)
    have H' := Aside0.mk H
    clear H
    go_wp2
    go_meet
    case rel => exact ⟨_, (decide (t363 < 0)), (by first | rfl | (simp; done) | (simp [*]; done)), H', ⟨by first | omega | exact Nat.le_refl _⟩, ⟨by (with_reducible repeat (first | apply Kd.N_alloc | apply Kd.N_drewN | apply Kd.N_drew)); exact HO360.out⟩, ⟨by repeat (first | (with_reducible first | exact HB.out | apply below_alloc | apply pw_below_drewN | apply below_drew1) | exact HB.out)⟩⟩
   ·rw [if_neg c11] at H
    have c11b0 : (t362 == t363) = false := beq_eq_false_iff_ne.mpr c11
    have c11b1 : (t362 != t363) = true := bne_iff_ne.mpr c11
    (first | rw [c11b0] | (simp only [i64_w, i32_w]; rw [c11b0]) | skip)
    have H' := Aside0.mk H
    clear H
    go_wp2
    go_meet
    case rel => exact ⟨_, (true), (by first | rfl | (simp; done) | (simp [*]; done)), H', ⟨by first | omega | exact Nat.le_refl _⟩, ⟨by (with_reducible repeat (first | apply Kd.N_alloc | apply Kd.N_drewN | apply Kd.N_drew)); exact HO360.out⟩, ⟨by repeat (first | (with_reducible first | exact HB.out | apply below_alloc | apply pw_below_drewN | apply below_drew1) | exact HB.out)⟩⟩
  case rest =>
   clear HC6
   try clear c1
   try clear c2
   try clear c2b0
   try clear c2b1
   try clear p2
   try clear c5
   try clear c7
   try clear c8
   try clear c9
   try clear c11
   try clear c11b0
   try clear c11b1
   obtain ⟨kq, x31_5, rfl, HA, HJ5, HO_3, HB⟩ := hcut
   cases kq with
   | zero => exact absurd HA.out (by simp [laws_FnKeepTimeFind.j0])
   | succ kj5 =>
    have H := HA.out
    clear HA
    simp only [laws_FnKeepTimeFind.j0] at H
    by_cases c12 : x31_5 = true
    ·subst c12
     have H1 : (some (t362 == t363)) = some r := by rw [if_pos rfl] at H; exact H
     clear H
     have H := H1
     clear H1
     obtain rfl := Option.some.inj H
     go_wp2
     all_goals go_ret
     all_goals exact ⟨by first | rfl | (simp [errW_none, errW_some] <;> rfl) | (simp [*, errW_none, errW_some] <;> rfl), by repeat (first | (with_reducible first | exact HB.out | apply below_alloc | apply pw_below_drewN | apply below_drew1) | exact HB.out)⟩
    ·replace c12 := Bool.eq_false_iff.mpr c12
     subst c12
     have H1 : ((impl_TimesFind.f kj5 t358 t361).bind fun t364 => (if t364 < 0 then (some true) else (if 0 ≤ t362 then (if t362 < (t358.length : Int) then ((impl_BatchSpan.f kj5 ((rd_T29 t358 t362).f0) ((rd_T29 t358 t362).f1) ((rd_T29 t358 t362).f2) ((rd_T29 t358 t362).f3) ((rd_T29 t358 t362).f4) ((rd_T29 t358 t362).f5)).bind fun bt366 => (if bt366.2.2 = true then (some (decide (t364 ≥ bt366.1))) else (some false))) else (none)) else (none)))) = some r := by rw [if_neg (show ¬ (false = true) by decide)] at H; exact H
     clear H
     have H := H1
     clear H1
     replace H := Option.bind_eq_some_iff.mp H
     obtain ⟨t364, A130, H⟩ := H
     replace H : (if t364 < 0 then (some true) else (if 0 ≤ t362 then (if t362 < (t358.length : Int) then ((impl_BatchSpan.f kj5 ((rd_T29 t358 t362).f0) ((rd_T29 t358 t362).f1) ((rd_T29 t358 t362).f2) ((rd_T29 t358 t362).f3) ((rd_T29 t358 t362).f4) ((rd_T29 t358 t362).f5)).bind fun bt366 => (if bt366.2.2 = true then (some (decide (t364 ≥ bt366.1))) else (some false))) else (none)) else (none))) = some r := H
     have A13 := Aside0.mk A130
     clear A130
     by_cases c14 : t364 < 0
     ·rw [if_pos c14] at H
      have c14b0 : decide (t364 < 0) = true := decide_eq_true c14
      clear c14
      obtain rfl := Option.some.inj H
      go_wp2_with (first | ((with_reducible refine gate_callee (f := 10) rfl ?_); refine goesL_ (some 37) rfl rfl Try.func10 (by kernel_rfl) rfl #[.slice Ao8 t358.length co8, .int .i64 t361] rfl (by (try simp only [List.map_toArray, List.map_cons, List.map_nil]); first | done | rfl | (simp only [List.length_drop, List.length_take]; rfl)) ?_; (with_reducible refine (impl_TimesFind.calls kj5 _ _ t358 t361 t364 _ ?side1 ?side2 A13.out).mono ?_); (case side1 => repeat (first | exact (Kd.N_reads' HO_3.out).2.2 | (with_reducible refine Kd.C_alloc ?_ _) | (with_reducible refine Kd.C_drewN ?_ _) | (with_reducible refine Kd.C_drew ?_))); (case side2 => exact (Kd.N_reads' HO_3.out).2.1); rintro e w15 ⟨rfl, hb⟩; refine ⟨_, rfl, ?_⟩; have n0_ := Aside0.mk (Kd.N_below (by (with_reducible repeat (first | apply Kd.N_alloc | apply Kd.N_drewN | apply Kd.N_drew)); exact HO_3.out) hb); have n1_ := Aside0.mk (below_step (by repeat (first | (with_reducible first | exact HB.out | apply below_alloc | apply pw_below_drewN | apply below_drew1) | exact HB.out)) hb); clear HO_3; clear HB; have HO_3 := n0_; have HB := n1_; clear n0_ n1_; (try clear hb); (try clear hb2); (try clear hk); (try clear hi)))
      all_goals go_ret
      all_goals exact ⟨by first | rfl | (simp [errW_none, errW_some] <;> rfl) | (simp [*, errW_none, errW_some] <;> rfl), by repeat (first | (with_reducible first | exact HB.out | apply below_alloc | apply pw_below_drewN | apply below_drew1) | exact HB.out)⟩
     ·rw [if_neg c14] at H
      have c14b0 : decide (t364 < 0) = false := decide_eq_false c14
      clear c14
      by_cases c16 : 0 ≤ t362
      ·rw [if_pos c16] at H
       have c16b0 : decide (0 ≤ t362) = true := decide_eq_true c16
       clear c16
       by_cases c17 : t362 < (t358.length : Int)
       ·rw [if_pos c17] at H
        have c17b0 : decide (t362 < (t358.length : Int)) = true := decide_eq_true c17
        clear c17
        replace H := Option.bind_eq_some_iff.mp H
        obtain ⟨⟨t366, t367, t368⟩, A180, H⟩ := H
        replace H : (if t368 = true then (some (decide (t364 ≥ t366))) else (some false)) = some r := H
        have A18 := Aside0.mk A180
        clear A180
        by_cases c19 : t368 = true
        ·subst c19
         have H1 : (some (decide (t364 ≥ t366))) = some r := by rw [if_pos rfl] at H; exact H
         clear H
         have H := H1
         clear H1
         obtain rfl := Option.some.inj H
         go_wp2_with (first | ((with_reducible refine gate_callee (f := 10) rfl ?_); refine goesL_ (some 37) rfl rfl Try.func10 (by kernel_rfl) rfl #[.slice Ao8 t358.length co8, .int .i64 t361] rfl (by (try simp only [List.map_toArray, List.map_cons, List.map_nil]); first | done | rfl | (simp only [List.length_drop, List.length_take]; rfl)) ?_; (with_reducible refine (impl_TimesFind.calls kj5 _ _ t358 t361 t364 _ ?side1 ?side2 A13.out).mono ?_); (case side1 => repeat (first | exact (Kd.N_reads' HO_3.out).2.2 | (with_reducible refine Kd.C_alloc ?_ _) | (with_reducible refine Kd.C_drewN ?_ _) | (with_reducible refine Kd.C_drew ?_))); (case side2 => exact (Kd.N_reads' HO_3.out).2.1); rintro e w20 ⟨rfl, hb⟩; refine ⟨_, rfl, ?_⟩; have n0_ := Aside0.mk (Kd.N_below (by (with_reducible repeat (first | apply Kd.N_alloc | apply Kd.N_drewN | apply Kd.N_drew)); exact HO_3.out) hb); have n1_ := Aside0.mk (below_step (by repeat (first | (with_reducible first | exact HB.out | apply below_alloc | apply pw_below_drewN | apply below_drew1) | exact HB.out)) hb); clear HO_3; clear HB; have HO_3 := n0_; have HB := n1_; clear n0_ n1_; (try clear hb); (try clear hb2); (try clear hk); (try clear hi); have p365 : 0 ≤ (t362 : Int) := of_decide_eq_true (by first | (with_reducible assumption) | assumption); have q365 : t362 < (t358.length : Int) := of_decide_eq_true (by first | (with_reducible assumption) | assumption); obtain ⟨ad365, A365_5, c365_5, e365, hx365_0, hx365_1, hx365_2, hx365_3, hx365_4, hx365_5, hl365_5, hi365_5⟩ := at_T29 (Kd.N_reads' HO_3.out).2.2 t362 p365 q365; cases e365; obtain ⟨ce365, hce365, hMe365, hcc365⟩ := Kd.N_get HO_3.out z29 t362 p365 (by first | exact q365 | exact of_decide_eq_true (by first | (with_reducible assumption) | assumption) | (have e_ := (Kd.N_reads' HO_3.out).1; omega)); obtain ⟨ua365_5, uc365_5, rfl, ul365_5, ge365_5⟩ := k29_openF hMe365; have hv365_5 := hcc365 5 _ rfl; rw [add_field _ _ 5 (by omega)] at hv365_5; replace hv365_5 := Option.some.inj (hv365_5.symm.trans hx365_5); injection hv365_5 with hva_ hvn_ hvc_; rw [hva_] at ge365_5; rw [hvc_] at ul365_5; have HL365_5 := Aside0.mk (show Kd.V k32 32 _ w.heap.size _ _ ((rd_T29 t358 t362).f5) from Kd.V_mk ul365_5 ge365_5); clear hva_ hvn_ hvc_ ge365_5 ul365_5; clear hcc365 hce365; have HR365_5 := Aside0.mk hi365_5; have HC365_5 := Aside0.mk hl365_5; clear hi365_5 hl365_5; replace p365 := eq_true p365; replace q365 := eq_true q365) | ((with_reducible refine gate_callee (f := 11) rfl ?_); refine goesL_ (some 45) rfl rfl Try.func11 (by kernel_rfl) rfl #[.agg #[.bool ((rd_T29 t358 t362).f0), .bool ((rd_T29 t358 t362).f1), .int .i64 ((rd_T29 t358 t362).f2), .int .i64 ((rd_T29 t358 t362).f3), .int .i64 ((rd_T29 t358 t362).f4), .slice A365_5 ((rd_T29 t358 t362).f5).length c365_5]] rfl (by (try simp only [List.map_toArray, List.map_cons, List.map_nil]); first | done | rfl | (simp only [List.length_drop, List.length_take]; rfl)) ?_; (with_reducible refine (impl_BatchSpan.calls kj5 ((rd_T29 t358 t362).f0) ((rd_T29 t358 t362).f1) ((rd_T29 t358 t362).f2) ((rd_T29 t358 t362).f3) ((rd_T29 t358 t362).f4) _ _ ((rd_T29 t358 t362).f5) t366 t367 true _ ?side1 ?side2 A18.out).mono ?_); (case side1 => repeat (first | exact (by repeat (first | (with_reducible exact HR365_5.out) | (with_reducible refine Kd.C_alloc ?_ _) | (with_reducible refine Kd.C_drewN ?_ _) | (with_reducible refine Kd.C_drew ?_) | exact HR365_5.out)) | (with_reducible refine Kd.C_alloc ?_ _) | (with_reducible refine Kd.C_drewN ?_ _) | (with_reducible refine Kd.C_drew ?_))); (case side2 => exact HC365_5.out); rintro e w21 ⟨rfl, hb⟩; refine ⟨_, rfl, ?_⟩; have n0_ := Aside0.mk (Kd.N_below (by (with_reducible repeat (first | apply Kd.N_alloc | apply Kd.N_drewN | apply Kd.N_drew)); exact HO_3.out) hb); have n1_ := Aside0.mk (Kd.V_below (by (with_reducible repeat (first | apply Kd.V_alloc | apply Kd.V_drewN | apply Kd.V_drew)); exact HL365_5.out) hb); have n2_ := Aside0.mk (Kd.C_below (by repeat (first | (with_reducible exact HR365_5.out) | (with_reducible refine Kd.C_alloc ?_ _) | (with_reducible refine Kd.C_drewN ?_ _) | (with_reducible refine Kd.C_drew ?_) | exact HR365_5.out)) hb); have n3_ := Aside0.mk (below_step (by repeat (first | (with_reducible first | exact HB.out | apply below_alloc | apply pw_below_drewN | apply below_drew1) | exact HB.out)) hb); clear HO_3; clear HL365_5; clear HR365_5; clear HB; have HO_3 := n0_; have HL365_5 := n1_; have HR365_5 := n2_; have HB := n3_; clear n0_ n1_ n2_ n3_; (try clear hb); (try clear hb2); (try clear hk); (try clear hi)))
         all_goals go_ret
         all_goals exact ⟨by first | rfl | (simp [errW_none, errW_some] <;> rfl) | (simp [*, errW_none, errW_some] <;> rfl), by repeat (first | (with_reducible first | exact HB.out | apply below_alloc | apply pw_below_drewN | apply below_drew1) | exact HB.out)⟩
        ·replace c19 := Bool.eq_false_iff.mpr c19
         subst c19
         have H1 : (some false) = some r := by rw [if_neg (show ¬ (false = true) by decide)] at H; exact H
         clear H
         have H := H1
         clear H1
         obtain rfl := Option.some.inj H
         go_wp2_with (first | ((with_reducible refine gate_callee (f := 10) rfl ?_); refine goesL_ (some 37) rfl rfl Try.func10 (by kernel_rfl) rfl #[.slice Ao8 t358.length co8, .int .i64 t361] rfl (by (try simp only [List.map_toArray, List.map_cons, List.map_nil]); first | done | rfl | (simp only [List.length_drop, List.length_take]; rfl)) ?_; (with_reducible refine (impl_TimesFind.calls kj5 _ _ t358 t361 t364 _ ?side1 ?side2 A13.out).mono ?_); (case side1 => repeat (first | exact (Kd.N_reads' HO_3.out).2.2 | (with_reducible refine Kd.C_alloc ?_ _) | (with_reducible refine Kd.C_drewN ?_ _) | (with_reducible refine Kd.C_drew ?_))); (case side2 => exact (Kd.N_reads' HO_3.out).2.1); rintro e w22 ⟨rfl, hb⟩; refine ⟨_, rfl, ?_⟩; have n0_ := Aside0.mk (Kd.N_below (by (with_reducible repeat (first | apply Kd.N_alloc | apply Kd.N_drewN | apply Kd.N_drew)); exact HO_3.out) hb); have n1_ := Aside0.mk (below_step (by repeat (first | (with_reducible first | exact HB.out | apply below_alloc | apply pw_below_drewN | apply below_drew1) | exact HB.out)) hb); clear HO_3; clear HB; have HO_3 := n0_; have HB := n1_; clear n0_ n1_; (try clear hb); (try clear hb2); (try clear hk); (try clear hi); have p365 : 0 ≤ (t362 : Int) := of_decide_eq_true (by first | (with_reducible assumption) | assumption); have q365 : t362 < (t358.length : Int) := of_decide_eq_true (by first | (with_reducible assumption) | assumption); obtain ⟨ad365, A365_5, c365_5, e365, hx365_0, hx365_1, hx365_2, hx365_3, hx365_4, hx365_5, hl365_5, hi365_5⟩ := at_T29 (Kd.N_reads' HO_3.out).2.2 t362 p365 q365; cases e365; obtain ⟨ce365, hce365, hMe365, hcc365⟩ := Kd.N_get HO_3.out z29 t362 p365 (by first | exact q365 | exact of_decide_eq_true (by first | (with_reducible assumption) | assumption) | (have e_ := (Kd.N_reads' HO_3.out).1; omega)); obtain ⟨ua365_5, uc365_5, rfl, ul365_5, ge365_5⟩ := k29_openF hMe365; have hv365_5 := hcc365 5 _ rfl; rw [add_field _ _ 5 (by omega)] at hv365_5; replace hv365_5 := Option.some.inj (hv365_5.symm.trans hx365_5); injection hv365_5 with hva_ hvn_ hvc_; rw [hva_] at ge365_5; rw [hvc_] at ul365_5; have HL365_5 := Aside0.mk (show Kd.V k32 32 _ w.heap.size _ _ ((rd_T29 t358 t362).f5) from Kd.V_mk ul365_5 ge365_5); clear hva_ hvn_ hvc_ ge365_5 ul365_5; clear hcc365 hce365; have HR365_5 := Aside0.mk hi365_5; have HC365_5 := Aside0.mk hl365_5; clear hi365_5 hl365_5; replace p365 := eq_true p365; replace q365 := eq_true q365) | ((with_reducible refine gate_callee (f := 11) rfl ?_); refine goesL_ (some 45) rfl rfl Try.func11 (by kernel_rfl) rfl #[.agg #[.bool ((rd_T29 t358 t362).f0), .bool ((rd_T29 t358 t362).f1), .int .i64 ((rd_T29 t358 t362).f2), .int .i64 ((rd_T29 t358 t362).f3), .int .i64 ((rd_T29 t358 t362).f4), .slice A365_5 ((rd_T29 t358 t362).f5).length c365_5]] rfl (by (try simp only [List.map_toArray, List.map_cons, List.map_nil]); first | done | rfl | (simp only [List.length_drop, List.length_take]; rfl)) ?_; (with_reducible refine (impl_BatchSpan.calls kj5 ((rd_T29 t358 t362).f0) ((rd_T29 t358 t362).f1) ((rd_T29 t358 t362).f2) ((rd_T29 t358 t362).f3) ((rd_T29 t358 t362).f4) _ _ ((rd_T29 t358 t362).f5) t366 t367 false _ ?side1 ?side2 A18.out).mono ?_); (case side1 => repeat (first | exact (by repeat (first | (with_reducible exact HR365_5.out) | (with_reducible refine Kd.C_alloc ?_ _) | (with_reducible refine Kd.C_drewN ?_ _) | (with_reducible refine Kd.C_drew ?_) | exact HR365_5.out)) | (with_reducible refine Kd.C_alloc ?_ _) | (with_reducible refine Kd.C_drewN ?_ _) | (with_reducible refine Kd.C_drew ?_))); (case side2 => exact HC365_5.out); rintro e w23 ⟨rfl, hb⟩; refine ⟨_, rfl, ?_⟩; have n0_ := Aside0.mk (Kd.N_below (by (with_reducible repeat (first | apply Kd.N_alloc | apply Kd.N_drewN | apply Kd.N_drew)); exact HO_3.out) hb); have n1_ := Aside0.mk (Kd.V_below (by (with_reducible repeat (first | apply Kd.V_alloc | apply Kd.V_drewN | apply Kd.V_drew)); exact HL365_5.out) hb); have n2_ := Aside0.mk (Kd.C_below (by repeat (first | (with_reducible exact HR365_5.out) | (with_reducible refine Kd.C_alloc ?_ _) | (with_reducible refine Kd.C_drewN ?_ _) | (with_reducible refine Kd.C_drew ?_) | exact HR365_5.out)) hb); have n3_ := Aside0.mk (below_step (by repeat (first | (with_reducible first | exact HB.out | apply below_alloc | apply pw_below_drewN | apply below_drew1) | exact HB.out)) hb); clear HO_3; clear HL365_5; clear HR365_5; clear HB; have HO_3 := n0_; have HL365_5 := n1_; have HR365_5 := n2_; have HB := n3_; clear n0_ n1_ n2_ n3_; (try clear hb); (try clear hb2); (try clear hk); (try clear hi)))
         all_goals go_ret
         all_goals exact ⟨by first | rfl | (simp [errW_none, errW_some] <;> rfl) | (simp [*, errW_none, errW_some] <;> rfl), by repeat (first | (with_reducible first | exact HB.out | apply below_alloc | apply pw_below_drewN | apply below_drew1) | exact HB.out)⟩
       ·rw [if_neg c17] at H
        exact absurd H (by simp)
      ·rw [if_neg c16] at H
       exact absurd H (by simp)

end Go.Proofs.Ytahenocndacjeaa.G

namespace Go.Proofs.Ytahenocndacjeaa.Rd
open Go.RowKit Go.Proofs.YtahenocndacjeaaW.PrintWords
set_option linter.unusedVariables false
section
variable {H : Type} {enc : TypeId × Value → H} {P : Program} {w : World} {base : Nat} {spare : Nat → Bool} {held : Bool}
/-- What a reading of type t gives: a value of the kind, and what is known of it. -/
def Opens (enc : TypeId × Value → H) (P : Program) (w : World) (base : Nat) (spare : Nat → Bool) (held : Bool) {α : Type} (t : TypeId) (d : Kd α) (ok : α → Prop) : Prop :=
  P.cellsOf t = d.sz ∧ ∀ fuel cs x, DataW.trod enc P w base spare held fuel t cs = some x → ∃ v, d.K w v cs ∧ ok v
theorem Opens.imp_ {α : Type} {t : TypeId} {d : Kd α} {ok ok' : α → Prop} (h : Opens enc P w base spare held t d ok) (hi : ∀ v, ok v → ok' v) : Opens enc P w base spare held t d ok' :=
  ⟨h.1, fun fuel cs x hx => by
    obtain ⟨v, hk, ho⟩ := h.2 fuel cs x hx
    exact ⟨v, hk, hi v ho⟩⟩
theorem opens_int {t : TypeId} {k : IntKind} (ht : P.underlying t = some (.int k)) (hc : P.cellsOf t = 1) : Opens enc P w base spare held t (Kd.int k) (fun n => (Lit.int k n).wf = true) := by
  refine ⟨hc, fun fuel cs x h => ?_⟩
  obtain ⟨n, rfl, _, hw⟩ := DataW.trod_int ht h
  exact ⟨n, rfl, hw⟩
theorem cells_len {base : Nat} {a : Addr} {n : Nat} {cs : List Value} (h : w.cells? base a n = some cs) : cs.length = n ∧ ∀ i u, cs[i]? = some u → w.cell? (a.add i) = some u := by
  unfold World.cells? at h
  split at h
  · rename_i hb
    refine ⟨by simpa using mapM_some_length h, fun i u hu => ?_⟩
    have hi : i < n := by
      have := (List.getElem?_eq_some_iff.1 hu).1
      have h2 : cs.length = n := by simpa using mapM_some_length h
      omega
    have := mapM_some_get h i i (by simp [hi])
    rw [hu] at this
    exact this
  · simp at h
theorem opens_row {α : Type} {t e : TypeId} {d : Kd α} {ok : α → Prop} (ht : P.underlying t = some (.slice e)) (hd : Opens enc P w base spare held e d ok) {fuel : Nat} {cs : List Value} {x : DataW H × List MemPlace}
    (h : DataW.trod enc P w base spare held fuel t cs = some x) : ∃ (A : Option Addr) (c : Nat) (xs : List α), cs = [.slice A xs.length c] ∧ xs.length ≤ c ∧ c ≤ maxLen ∧ d.C w A xs.length xs ∧ ∀ y ∈ xs, ok y := by
  rcases Go.Deep.open_slice ht h with ⟨rfl, _⟩ | ⟨a, len, cap, m, n, D, Pl, rfl, hb, hl, hm, hmm, _, hel⟩
  · exact ⟨none, 0, [], rfl, Nat.le_refl _, by unfold maxLen; omega, ⟨rfl, by simp, fun h0 => absurd h0 (by simp)⟩, by simp⟩
  have hlm : len ≤ m := by rw [hmm]; split <;> omega
  have hx : ∀ i, i < len → ∃ y : α, ok y ∧ ∃ c, c.length = d.sz ∧ d.K w y c ∧ ∀ j u, c[j]? = some u → w.cell? (a.add (i * d.sz + j)) = some u := by
    intro i hi
    obtain ⟨cs', h1, h2⟩ := hel i (by omega)
    obtain ⟨y, hk, ho⟩ := hd.2 _ _ _ h2
    obtain ⟨hl', hc'⟩ := cells_len h1
    refine ⟨y, ho, cs', by rw [hl', hd.1], hk, fun j u hu => ?_⟩
    have := hc' j u hu
    rw [Go.Deep.add_add, hd.1] at this
    exact this
  rcases Nat.eq_zero_or_pos len with h0 | h0
  · subst h0
    exact ⟨some a, cap, [], rfl, Nat.zero_le _, hm, ⟨rfl, by simp, fun h1 => absurd h1 (by simp)⟩, by simp⟩
  obtain ⟨y0, _⟩ := hx 0 h0
  haveI : Inhabited α := ⟨y0⟩
  obtain ⟨g, hg⟩ := Go.Deep.choose_lt hx
  have hlen : ((List.range len).map g).length = len := by simp
  refine ⟨some a, cap, (List.range len).map g, by rw [hlen], by rw [hlen]; exact hl, hm, ⟨rfl, by rw [hlen]; unfold maxLen at hm; omega, fun _ => ⟨a, rfl, fun j p hj => ?_⟩⟩, fun y hy => ?_⟩
  · have hj' : j < len := by
      have := (List.getElem?_eq_some_iff.1 hj).1
      omega
    rw [List.getElem?_map, List.getElem?_range hj'] at hj
    simp at hj
    subst hj
    obtain ⟨_, c, hc1, hc2, hc3⟩ := hg j hj'
    exact ⟨c, hc1, hc2, hc3⟩
  · obtain ⟨i, hi, rfl⟩ := List.mem_map.1 hy
    exact (hg i (List.mem_range.1 hi)).1
end
end Go.Proofs.Ytahenocndacjeaa.Rd

namespace Go.Proofs.Ytahenocndacjeaa.OFnKeepTimeFind
open Go.RowKit Go.Proofs.YtahenocndacjeaaW.PrintWords Go.Proofs.Ytahenocndacjeaa.G
set_option linter.unusedVariables false
def Pure : Prop := ∀ (l0 : List Int), l0.length ≤ maxLen → (∀ y ∈ l0, (Lit.int .u8 y).wf = true) → ∃ k, laws_FnKeepTimeFind.f k l0 = some true
end Go.Proofs.Ytahenocndacjeaa.OFnKeepTimeFind

namespace Go.Proofs.Ytahenocndacjeaa.Pu
open Go.RowKit Go.Proofs.YtahenocndacjeaaW.PrintWords Go.Proofs.YtahenocndacjeaaW.PrintLast
set_option linter.unusedVariables false
set_option linter.unusedSimpArgs false
theorem w64 {a : Int} (h0 : -9223372036854775808 ≤ a) (h1 : a ≤ 9223372036854775807) : wrap64 a = a := by unfold wrap64; omega
/-- (Not by 'rfl': a large number in a test behind it would be counted up by the kernel.) -/
theorem bindS {α β : Type} (x : α) (f : α → Option β) : (some x).bind f = f x := Eq.trans (Option.bind_some x f) (Eq.refl _)
/-- It ends, in something of which P holds. -/
def EndsIn {α : Type} (g : Nat → Option α) (P : α → Prop) : Prop := ∃ r, Ev g r ∧ P r
theorem EndsIn.bind {α β : Type} {g : Nat → Option α} {f : Nat → α → Option β} {P : α → Prop} {Q : β → Prop} (h : EndsIn g P) (k : ∀ a, P a → EndsIn (fun n => f n a) Q) : EndsIn (fun n => (g n).bind (f n)) Q := by
  obtain ⟨a, ha, hp⟩ := h
  obtain ⟨b, hb, hq⟩ := k a hp
  exact ⟨b, Ev.bind ha hb, hq⟩
theorem EndsIn.step {α : Type} {g f : Nat → Option α} {P : α → Prop} (h : ∀ k, g (k + 1) = f k) (k : EndsIn f P) : EndsIn g P := by
  obtain ⟨a, ha, hp⟩ := k
  exact ⟨a, Ev.step h ha, hp⟩
theorem EndsIn.now {α : Type} {P : α → Prop} (r : α) (hp : P r) : EndsIn (fun _ => some r) P := ⟨r, Ev.now r, hp⟩
theorem EndsIn.mono {α : Type} {g : Nat → Option α} {P Q : α → Prop} (h : EndsIn g P) (k : ∀ a, P a → Q a) : EndsIn g Q := by
  obtain ⟨a, ha, hp⟩ := h
  exact ⟨a, ha, k a hp⟩
theorem EndsIn.ev {α : Type} {g : Nat → Option α} {r : α} (h : EndsIn g (fun x => x = r)) : Ev g r := by
  obtain ⟨a, ha, rfl⟩ := h
  exact ha
theorem EndsIn.rounds {α : Type} {g : Nat → Option α} {r : α} (h : EndsIn g (fun x => x = r)) : ∃ k, g k = some r := h.ev.rounds
theorem u8_range {x : Int} (h : (Lit.int .u8 x).wf = true) : 0 ≤ x ∧ x ≤ 255 := by
  simp only [Lit.wf, Bool.and_eq_true, decide_eq_true_eq] at h
  exact ⟨h.1, h.2⟩
end Go.Proofs.Ytahenocndacjeaa.Pu

namespace Go.Proofs.Ytahenocndacjeaa.Pu
open Go.RowKit Go.Proofs.YtahenocndacjeaaW.PrintWords Go.Proofs.YtahenocndacjeaaW.PrintLast Go.Proofs.Ytahenocndacjeaa.G
set_option linter.unusedVariables false
set_option linter.unusedSimpArgs false
/-- A loop that asks each element, and stops at the first that says no. -/
theorem ev_all {α : Type} (l : List α) (hl : l.length ≤ 9223372036854775807) (L : Nat → Int → Option Bool) (F : Nat → Nat → Option Bool) (p : α → Bool) (last : Bool)
    (hend : ∀ k, L (k + 1) (l.length : Int) = some last)
    (hstep : ∀ k (i : Nat), i < l.length → L (k + 1) (i : Int) = (F k i).bind fun t => if t = true then L k (wrap64 ((i : Int) + 1)) else some false)
    (hF : ∀ i (h : i < l.length), Ev (fun k => F k i) (p l[i])) : ∀ d i, l.length - i = d → i ≤ l.length → Ev (fun k => L k (i : Int)) ((l.drop i).all p && last) := by
  intro d
  induction d with
  | zero =>
    intro i hi hle
    obtain rfl : i = l.length := by omega
    refine Ev.step (fun k => hend k) ?_
    rw [List.drop_length]
    exact Ev.now _
  | succ d ih =>
    intro i hi hle
    have hlt : i < l.length := by omega
    refine Ev.step (fun k => hstep k i hlt) ?_
    refine Ev.bind (hF i hlt) ?_
    rw [List.drop_eq_getElem_cons hlt, List.all_cons]
    cases hp : p l[i]
    · exact Ev.now _
    · simp only [if_true, Bool.true_and, w64 (a := (i : Int) + 1) (by omega) (by omega)]
      exact ih (i + 1) (by omega) (by omega)
theorem rdi_nat (l : List Int) (i : Nat) (h : i < l.length) : rd l (i : Int) = l[i] := by
  unfold rd
  simp [h]
theorem within_ev (a b c : Int) : impl_within.f a b c = some (decide (b ≤ a) && decide (a ≤ c)) := by
  unfold impl_within.f
  by_cases h : a ≥ b
  · rw [if_pos h, show decide (b ≤ a) = true from decide_eq_true h]; rfl
  · rw [if_neg h, show decide (b ≤ a) = false from decide_eq_false h]; rfl
theorem in_ev (a b c : Int) : spec_l6In.f a b c = some (decide (b ≤ a) && decide (a ≤ c)) := by
  unfold spec_l6In.f
  by_cases h : a ≥ b
  · rw [if_pos h, show decide (b ≤ a) = true from decide_eq_true h]; rfl
  · rw [if_neg h, show decide (b ≤ a) = false from decide_eq_false h]; rfl
def isB (x : Int) : Bool := decide (0 ≤ x) && decide (x ≤ 255)
theorem isByte_ev (x : Int) : impl_isByte.f x = some (isB x) := by
  unfold impl_isByte.f isB
  by_cases h : x ≥ 0
  · rw [if_pos h, show decide (0 ≤ x) = true from decide_eq_true h]; rfl
  · rw [if_neg h, show decide (0 ≤ x) = false from decide_eq_false h]; rfl
theorem allBytes_ev (l : List Int) (hl : l.length ≤ 9223372036854775807) : Ev (fun k => impl_allBytes.f k l) (l.all isB) := by
  unfold impl_allBytes.f
  have := ev_all l hl (fun k i => impl_allBytes.l0 k l (l.length : Int) i) (fun k i => some (isB (rd l (i : Int)))) isB true
    (fun k => by simp only [impl_allBytes.l0]; rw [if_neg (by omega)])
    (fun k i h => by simp only [impl_allBytes.l0]; rw [if_pos (by omega), if_pos (by omega), if_pos (by omega), isByte_ev])
    (fun i h => by rw [rdi_nat l i h]; exact Ev.now _) l.length 0 (by omega) (by omega)
  simpa using this
theorem l1Ok_ev (l : List Int) (hl : l.length ≤ 9223372036854775807) : Ev (fun k => spec_l1Ok.f k l) (l.all isB) := by
  unfold spec_l1Ok.f
  have := ev_all l hl (fun k i => spec_l1Ok.l0 k l i) (fun k i => some (isB (rd l (i : Int)))) isB true
    (fun k => by simp only [spec_l1Ok.l0]; rw [if_neg (by omega)])
    (fun k i h => by simp only [spec_l1Ok.l0]; rw [if_pos (by omega), if_pos (by omega), in_ev]; rfl)
    (fun i h => by rw [rdi_nat l i h]; exact Ev.now _) l.length 0 (by omega) (by omega)
  simpa using this
def partOk (has : Bool) (l : List Int) : Bool := if has = true then decide (l.length ≤ 12) && l.all isB else decide (l.length = 0)
theorem partValid_ev (has : Bool) (l : List Int) (hl : l.length ≤ 9223372036854775807) : Ev (fun k => impl_partValid.f k has l) (partOk has l) := by
  unfold impl_partValid.f partOk
  cases has
  · simp only [Bool.false_eq_true, if_false]
    rw [show ((l.length : Int) == 0) = decide (l.length = 0) from by rw [Bool.eq_iff_iff]; simp]
    exact Ev.now _
  · simp only [if_true]
    by_cases h : (l.length : Int) ≤ 12
    · simp only [if_pos h]
      rw [show decide (l.length ≤ 12) = true from decide_eq_true (by omega), Bool.true_and]
      exact Ev.bind (allBytes_ev l hl) (Ev.now _)
    · simp only [if_neg h]
      rw [show decide (l.length ≤ 12) = false from decide_eq_false (by omega)]
      exact Ev.now _
theorem l3Part_ev (has : Bool) (l : List Int) (hl : l.length ≤ 9223372036854775807) : Ev (fun k => spec_l3Part.f k has l) (partOk has l) := by
  unfold spec_l3Part.f partOk
  cases has
  · simp only [Bool.false_eq_true, if_false]
    by_cases h : (l.length : Int) = 0
    · simp only [if_pos h]
      obtain rfl : l = [] := List.length_eq_zero_iff.1 (by omega)
      refine Ev.bind (l1Ok_ev [] (by simp)) ?_
      exact Ev.now _
    · simp only [if_neg h]
      rw [show decide (l.length = 0) = false from decide_eq_false (by omega)]
      exact Ev.now _
  · simp only [if_true]
    refine Ev.bind (l1Ok_ev l hl) ?_
    rw [show decide ((l.length : Int) ≤ 12) = decide (l.length ≤ 12) from decide_eq_decide.2 (by omega)]
    cases l.all isB
    · simp only [Bool.false_eq_true, if_false, Bool.and_false]
      exact Ev.now _
    · simp only [if_true, Bool.and_true]
      exact Ev.now _
def rng (x : Int) : Bool := decide (0 ≤ x) && decide (x ≤ 99999)
def recOk (r : S32) : Bool := (rng r.f0 && rng r.f1) && (partOk r.f2 r.f3 && partOk r.f4 r.f5)
/-- Lengths that can be told. -/
def Lens (r : S32) : Prop := r.f3.length ≤ 9223372036854775807 ∧ r.f5.length ≤ 9223372036854775807
theorem RecordValid_ev (r : S32) (hr : Lens r) : Ev (fun k => impl_RecordValid.f k r.f0 r.f1 r.f2 r.f3 r.f4 r.f5) (recOk r) := by
  unfold impl_RecordValid.f recOk impl_baseValid.f
  simp only [within_ev, Option.bind_some]
  change Ev (fun k => ((if rng r.f0 = true then some (rng r.f1) else some false)).bind _) _
  cases rng r.f0
  · simp only [Bool.false_eq_true, if_false, Option.bind_some, Bool.false_and]
    exact Ev.now _
  · cases rng r.f1
    · simp only [if_true, Option.bind_some, Bool.false_eq_true, if_false, Bool.true_and, Bool.false_and]
      exact Ev.now _
    · simp only [if_true, Option.bind_some, Bool.true_and]
      refine Ev.bind (partValid_ev _ _ hr.1) ?_
      cases partOk r.f2 r.f3
      · exact Ev.now _
      · simp only [if_true, Bool.true_and]
        exact Ev.bind (partValid_ev _ _ hr.2) (Ev.now _)
theorem sRecordValid_ev (r : S32) (hr : Lens r) : Ev (fun k => spec_RecordValid.f k r.f0 r.f1 r.f2 r.f3 r.f4 r.f5) (recOk r) := by
  unfold spec_RecordValid.f recOk
  simp only [in_ev, Option.bind_some]
  change Ev (fun k => if rng r.f0 = true then (if rng r.f1 = true then _ else some false) else some false) _
  cases rng r.f0
  · simp only [Bool.false_eq_true, if_false, Bool.false_and]
    exact Ev.now _
  · cases rng r.f1
    · simp only [if_true, Bool.false_eq_true, if_false, Bool.true_and, Bool.false_and]
      exact Ev.now _
    · simp only [if_true, Bool.true_and]
      refine Ev.bind (l3Part_ev _ _ hr.1) ?_
      cases partOk r.f2 r.f3
      · exact Ev.now _
      · simp only [if_true, Bool.true_and]
        exact Ev.bind (l3Part_ev _ _ hr.2) (Ev.now _)
theorem rdR_nat (l : List S32) (i : Nat) (h : i < l.length) : rd_T32 l (i : Int) = l[i] := by
  unfold rd_T32
  simp [h]
end Go.Proofs.Ytahenocndacjeaa.Pu

namespace Go.Proofs.Ytahenocndacjeaa.Pu
open Go.RowKit Go.Proofs.YtahenocndacjeaaW.PrintWords Go.Proofs.YtahenocndacjeaaW.PrintLast Go.Proofs.YtahenocndacjeaaW.PrintMore Go.Proofs.Ytahenocndacjeaa.G
set_option linter.unusedVariables false
set_option linter.unusedSimpArgs false
/-- A loop over places that asks each one, and stops at the first that says no. -/
theorem ev_idx {n : Nat} (hn : n ≤ 9223372036854775807) (L : Nat → Int → Option Bool) (p : Nat → Bool) (last : Bool) (hend : Ev (fun k => L k (n : Int)) last)
    (hstep : ∀ i r, i < n → (p i = true → Ev (fun k => L k ((i : Int) + 1)) r) → (p i = false → r = false) → Ev (fun k => L k (i : Int)) r) :
    ∀ d i, n - i = d → i ≤ n → Ev (fun k => L k (i : Int)) ((List.range' i d).all p && last) := by
  intro d
  induction d with
  | zero =>
    intro i hd hi
    obtain rfl : i = n := by omega
    exact hend
  | succ d ih =>
    intro i hd hi
    refine hstep i _ (by omega) (fun hp => ?_) (fun hp => ?_)
    · rw [List.range'_succ, List.all_cons, hp, Bool.true_and]
      exact_mod_cast ih (i + 1) (by omega) (by omega)
    · rw [List.range'_succ, List.all_cons, hp, Bool.false_and, Bool.false_and]
def recStep (l : List S32) (i : Nat) : Bool := recOk (rd_T32 l (i : Int)) && (decide (i = 0) || decide ((rd_T32 l ((i : Int) - 1)).f0 < (rd_T32 l (i : Int)).f0))
def recsInc (l : List S32) : Bool := (List.range' 0 l.length).all (recStep l)
def lenOk (l : List S32) : Bool := decide (1 ≤ (l.length : Int)) && decide ((l.length : Int) ≤ 6)
/-- Rows of records that can be told. -/
def RowR (l : List S32) : Prop := l.length ≤ 9223372036854775807 ∧ ∀ r ∈ l, Lens r
theorem RowR.rd {l : List S32} (h : RowR l) (i : Nat) (hi : i < l.length) : Lens (rd_T32 l (i : Int)) := by
  rw [rdR_nat l i hi]
  exact h.2 _ (List.getElem_mem _)
def batOk (b : S29) : Bool :=
  (if b.f2 = 255 then decide (b.f3 = 0) && (decide (b.f4 = 0) && !b.f1) else (decide (0 ≤ b.f2) && decide (b.f2 ≤ 254)) && ((decide (0 ≤ b.f3) && decide (b.f3 ≤ 99)) && (decide (0 ≤ b.f4) && decide (b.f4 ≤ 9999))))
   && (lenOk b.f5 && ((!b.f1 || decide ((b.f5.length : Int) = 1)) && recsInc b.f5))
theorem batchLoop_ev (b : S29) (hb : RowR b.f5) : Ev (fun k => impl_BatchValid.l0 k b.f5 (b.f5.length : Int) 0 b.f0 b.f1 b.f2 b.f3 b.f4 b.f5) (recsInc b.f5) := by
  have hl := hb.1
  have := ev_idx (n := b.f5.length) hb.1 (fun k i => impl_BatchValid.l0 k b.f5 (b.f5.length : Int) i b.f0 b.f1 b.f2 b.f3 b.f4 b.f5) (recStep b.f5) true
    (Ev.step (fun k => by rw [impl_BatchValid.l0]) (by simp only [if_neg (show ¬ ((b.f5.length : Int) < (b.f5.length : Int)) by omega)]; exact Ev.now _))
    (fun i r hi hgo hno => by
      refine Ev.step (fun k => by rw [impl_BatchValid.l0]) ?_
      simp only [if_pos (show (i : Int) < (b.f5.length : Int) by omega), if_pos (show (0 : Int) ≤ (i : Int) by omega)]
      refine Ev.bind (RecordValid_ev _ (hb.rd i hi)) ?_
      unfold recStep at hgo hno
      cases hp : recOk (rd_T32 b.f5 (i : Int))
      · obtain rfl := hno (by rw [hp, Bool.false_and])
        simp only [Bool.false_eq_true, if_false]
        exact Ev.now _
      · simp only [if_true]
        rw [hp, Bool.true_and] at hgo hno
        by_cases h0 : i = 0
        · subst h0
          simp only [if_neg (show ¬ (((0 : Nat) : Int) > 0) by omega), w64 (a := ((0 : Nat) : Int) + 1) (by omega) (by omega)]
          exact hgo (by simp)
        · simp only [if_pos (show (i : Int) > 0 by omega), w64 (a := (i : Int) - 1) (by omega) (by omega), w64 (a := (i : Int) + 1) (by omega) (by omega), if_pos (show (0 : Int) ≤ (i : Int) - 1 by omega), if_pos (show (i : Int) - 1 < (b.f5.length : Int) by omega)]
          by_cases hc : (rd_T32 b.f5 ((i : Int) - 1)).f0 ≥ (rd_T32 b.f5 (i : Int)).f0
          · obtain rfl := hno (by rw [decide_eq_false h0, decide_eq_false (by omega), Bool.or_false])
            simp only [if_pos hc]
            exact Ev.now _
          · simp only [if_neg hc]
            exact hgo (by rw [decide_eq_true (by omega : (rd_T32 b.f5 ((i : Int) - 1)).f0 < (rd_T32 b.f5 (i : Int)).f0), Bool.or_true]))
    b.f5.length 0 (by omega) (by omega)
  rw [Bool.and_true] at this
  exact this
theorem batch_j1 (b : S29) (hb : RowR b.f5) (c : Bool) : Ev (fun k => impl_BatchValid.j1 k c b.f0 b.f1 b.f2 b.f3 b.f4 b.f5) (!c && recsInc b.f5) := by
  refine Ev.step (fun k => by rw [impl_BatchValid.j1]) ?_
  cases c
  · simp only [Bool.false_eq_true, if_false, Bool.not_false, Bool.true_and]
    exact batchLoop_ev b hb
  · simp only [if_true, Bool.not_true, Bool.false_and]
    exact Ev.now _
theorem batch_j0 (b : S29) (hb : RowR b.f5) : Ev (fun k => impl_BatchValid.j0 k b.f0 b.f1 b.f2 b.f3 b.f4 b.f5) (lenOk b.f5 && ((!b.f1 || decide ((b.f5.length : Int) = 1)) && recsInc b.f5)) := by
  refine Ev.step (fun k => by rw [impl_BatchValid.j0]) ?_
  simp only [within_ev, bindS]
  change Ev (fun k => if lenOk b.f5 = true then _ else _) _
  cases lenOk b.f5
  · simp only [Bool.false_eq_true, if_false, Bool.false_and]
    exact batch_j1 b hb true
  · simp only [if_true, Bool.true_and]
    cases hm : b.f1
    · simp only [Bool.false_eq_true, if_false, Bool.not_false, Bool.true_or, Bool.true_and]
      have := batch_j1 b hb false
      rw [hm] at this
      exact this
    · simp only [if_true, Bool.not_true, Bool.false_or]
      have := batch_j1 b hb ((b.f5.length : Int) != 1)
      rw [hm] at this
      have e : (!((b.f5.length : Int) != 1)) = decide ((b.f5.length : Int) = 1) := by
        rw [Bool.eq_iff_iff]
        simp
      rw [e] at this
      exact this
theorem BatchValid_ev (b : S29) (hb : RowR b.f5) : Ev (fun k => impl_BatchValid.f k b.f0 b.f1 b.f2 b.f3 b.f4 b.f5) (batOk b) := by
  unfold impl_BatchValid.f batOk impl_idValid.f
  by_cases h : b.f2 = 255
  · simp only [if_pos h]
    by_cases h3 : b.f3 = 0
    · simp only [if_pos h3, decide_eq_true h3, Bool.true_and]
      by_cases h4 : b.f4 = 0
      · simp only [if_pos h4, decide_eq_true h4, Bool.true_and]
        cases hm : b.f1
        · have := batch_j0 b hb
          rw [hm] at this
          simpa only [Bool.false_eq_true, if_false, Bool.not_false, Bool.true_and] using this
        · simp only [if_true, Bool.not_true, Bool.false_and]
          exact Ev.now _
      · simp only [if_neg h4, decide_eq_false h4, Bool.false_and]
        exact Ev.now _
    · simp only [if_neg h3, decide_eq_false h3, Bool.false_and]
      exact Ev.now _
  · simp only [if_neg h, within_ev, bindS]
    cases (decide (0 ≤ b.f2) && decide (b.f2 ≤ 254))
    · simp only [Bool.false_eq_true, if_false, Bool.false_and]
      exact Ev.now _
    · simp only [if_true, Bool.true_and]
      cases (decide (0 ≤ b.f3) && decide (b.f3 ≤ 99))
      · simp only [Bool.false_eq_true, if_false, Bool.false_and]
        exact Ev.now _
      · simp only [if_true, Bool.true_and]
        cases (decide (0 ≤ b.f4) && decide (b.f4 ≤ 9999))
        · simp only [Bool.false_eq_true, if_false, Bool.false_and]
          exact Ev.now _
        · simp only [if_true, Bool.true_and]
          exact batch_j0 b hb
theorem l5Records_ev (l : List S32) (hb : RowR l) : Ev (fun k => spec_l5Records.f k l) (recsInc l && lenOk l) := by
  have hl := hb.1
  unfold spec_l5Records.f
  have := ev_idx (n := l.length) hb.1 (fun k i => spec_l5Records.l0 k l i) (recStep l) (lenOk l)
    (Ev.step (fun k => by rw [spec_l5Records.l0]) (by simp only [if_neg (show ¬ ((l.length : Int) < (l.length : Int)) by omega), in_ev, bindS]; exact Ev.now _))
    (fun i r hi hgo hno => by
      refine Ev.step (fun k => by rw [spec_l5Records.l0]) ?_
      simp only [if_pos (show (i : Int) < (l.length : Int) by omega), if_pos (show (0 : Int) ≤ (i : Int) by omega)]
      refine Ev.bind (sRecordValid_ev _ (hb.rd i hi)) ?_
      unfold recStep at hgo hno
      cases hp : recOk (rd_T32 l (i : Int))
      · obtain rfl := hno (by rw [hp, Bool.false_and])
        simp only [Bool.false_eq_true, if_false]
        exact Ev.now _
      · simp only [if_true]
        rw [hp, Bool.true_and] at hgo hno
        by_cases h0 : i = 0
        · subst h0
          simp only [if_neg (show ¬ (((0 : Nat) : Int) > 0) by omega), w64 (a := ((0 : Nat) : Int) + 1) (by omega) (by omega)]
          exact hgo (by simp)
        · simp only [if_pos (show (i : Int) > 0 by omega), w64 (a := (i : Int) - 1) (by omega) (by omega), w64 (a := (i : Int) + 1) (by omega) (by omega), if_pos (show (0 : Int) ≤ (i : Int) - 1 by omega), if_pos (show (i : Int) - 1 < (l.length : Int) by omega)]
          by_cases hc : (rd_T32 l ((i : Int) - 1)).f0 ≥ (rd_T32 l (i : Int)).f0
          · obtain rfl := hno (by rw [decide_eq_false h0, decide_eq_false (by omega), Bool.or_false])
            simp only [if_pos hc]
            exact Ev.now _
          · simp only [if_neg hc]
            exact hgo (by rw [decide_eq_true (by omega : (rd_T32 l ((i : Int) - 1)).f0 < (rd_T32 l (i : Int)).f0), Bool.or_true]))
    l.length 0 (by omega) (by omega)
  exact this
def batTail (b : S29) : Bool := if b.f2 = 255 then decide (b.f3 = 0) && (decide (b.f4 = 0) && !b.f1) else (!b.f1 || decide ((b.f5.length : Int) = 1))
theorem sbatch_j0 (b : S29) (c : Bool) : Ev (fun k => spec_BatchValid.j0 k c b.f0 b.f1 b.f2 b.f3 b.f4 b.f5) (!c && batTail b) := by
  refine Ev.step (fun k => by rw [spec_BatchValid.j0]) ?_
  unfold batTail
  cases c
  · simp only [Bool.false_eq_true, if_false, Bool.not_false, Bool.true_and]
    by_cases h : b.f2 = 255
    · simp only [if_pos h]
      by_cases h3 : b.f3 = 0
      · simp only [if_pos h3, decide_eq_true h3, Bool.true_and]
        by_cases h4 : b.f4 = 0
        · simp only [if_pos h4, decide_eq_true h4, Bool.true_and]
          exact Ev.now _
        · simp only [if_neg h4, decide_eq_false h4, Bool.false_and]
          exact Ev.now _
      · simp only [if_neg h3, decide_eq_false h3, Bool.false_and]
        exact Ev.now _
    · simp only [if_neg h]
      cases b.f1
      · exact Ev.now _
      · simp only [if_true, Bool.not_true, Bool.false_or]
        rw [show ((b.f5.length : Int) == 1) = decide ((b.f5.length : Int) = 1) by rw [Bool.eq_iff_iff]; simp]
        exact Ev.now _
  · simp only [if_true, Bool.not_true, Bool.false_and]
    exact Ev.now _
theorem sBatchValid_ev (b : S29) (hb : RowR b.f5) : Ev (fun k => spec_BatchValid.f k b.f0 b.f1 b.f2 b.f3 b.f4 b.f5) (batOk b) := by
  have e : batOk b = ((recsInc b.f5 && lenOk b.f5) && ((decide (0 ≤ b.f2) && decide (b.f2 ≤ 255)) && ((decide (0 ≤ b.f3) && decide (b.f3 ≤ 99)) && ((decide (0 ≤ b.f4) && decide (b.f4 ≤ 9999)) && batTail b)))) := by
    unfold batOk batTail
    by_cases h : b.f2 = 255
    · rw [if_pos h, if_pos h, h]
      cases recsInc b.f5
      · simp
      · rw [Bool.eq_iff_iff]
        simp only [lenOk, Bool.and_eq_true, Bool.or_eq_true, decide_eq_true_eq, Bool.not_eq_true']
        constructor
        · rintro ⟨⟨h3, h4, h1⟩, hl, hm, _⟩
          exact ⟨⟨trivial, hl⟩, ⟨by omega, by omega⟩, ⟨by omega, by omega⟩, ⟨by omega, by omega⟩, h3, h4, h1⟩
        · rintro ⟨⟨_, hl⟩, _, _, _, h3, h4, h1⟩
          exact ⟨⟨h3, h4, h1⟩, hl, .inl h1, trivial⟩
    · rw [if_neg h, if_neg h]
      rw [Bool.eq_iff_iff]
      simp only [Bool.and_eq_true, decide_eq_true_eq]
      constructor
      · rintro ⟨⟨h2, h3, h4⟩, hl, hm, hr⟩
        exact ⟨⟨hr, hl⟩, ⟨by omega, by omega⟩, h3, h4, hm⟩
      · rintro ⟨⟨hr, hl⟩, h2, h3, h4, hm⟩
        exact ⟨⟨⟨by omega, by omega⟩, h3, h4⟩, hl, hm, hr⟩
  rw [e]
  unfold spec_BatchValid.f
  have bad := sbatch_j0 b true
  simp only [Bool.not_true, Bool.false_and] at bad
  refine Ev.bind (l5Records_ev b.f5 hb) ?_
  cases (recsInc b.f5 && lenOk b.f5)
  · exact bad
  · simp only [if_true, Bool.true_and, in_ev, bindS]
    cases (decide (0 ≤ b.f2) && decide (b.f2 ≤ 255))
    · exact bad
    · simp only [if_true, Bool.true_and]
      cases (decide (0 ≤ b.f3) && decide (b.f3 ≤ 99))
      · exact bad
      · simp only [if_true, Bool.true_and]
        have := sbatch_j0 b (!(decide (0 ≤ b.f4) && decide (b.f4 ≤ 9999)))
        rw [Bool.not_not] at this
        exact this
/-! rows of batches -/
theorem rdB_nat (l : List S29) (i : Nat) (h : i < l.length) : rd_T29 l (i : Int) = l[i] := by
  unfold rd_T29
  simp [h]
def lastOf (b : S29) : Int := (rd_T32 b.f5 ((b.f5.length : Int) - 1)).f0
def firstOf (b : S29) : Int := (rd_T32 b.f5 0).f0
def batStep (l : List S29) (i : Nat) : Bool := batOk (rd_T29 l (i : Int)) && (decide (i = 0) || decide (lastOf (rd_T29 l ((i : Int) - 1)) < firstOf (rd_T29 l (i : Int))))
def logOk (l : List S29) : Bool := (List.range' 0 l.length).all (batStep l) && decide ((l.length : Int) ≤ 8)
/-- Rows of batches that can be told. -/
def RowB (l : List S29) : Prop := l.length ≤ 9223372036854775807 ∧ ∀ b ∈ l, RowR b.f5
theorem RowB.rd {l : List S29} (h : RowB l) (i : Nat) (hi : i < l.length) : RowR (rd_T29 l (i : Int)).f5 := by
  rw [rdB_nat l i hi]
  exact h.2 _ (List.getElem_mem _)
theorem batOk_len {b : S29} (h : batOk b = true) : 1 ≤ b.f5.length ∧ b.f5.length ≤ 6 := by
  unfold batOk lenOk at h
  simp only [Bool.and_eq_true, decide_eq_true_eq] at h
  have := h.2.1
  omega
/-- What came so far in a walk over a valid row: the batch ahead is valid. -/
theorem LogValid_loop (l : List S29) (hb : RowB l) (L : Nat → Int → Option Bool) (last : Bool) (hend : Ev (fun k => L k (l.length : Int)) last)
    (hstep : ∀ i r, i < l.length → (i ≠ 0 → 1 ≤ (rd_T29 l ((i : Int) - 1)).f5.length ∧ (rd_T29 l ((i : Int) - 1)).f5.length ≤ 6) → (batStep l i = true → Ev (fun k => L k ((i : Int) + 1)) r) → (batStep l i = false → r = false) → Ev (fun k => L k (i : Int)) r) :
    ∀ d i, l.length - i = d → i ≤ l.length → (i ≠ 0 → 1 ≤ (rd_T29 l ((i : Int) - 1)).f5.length ∧ (rd_T29 l ((i : Int) - 1)).f5.length ≤ 6) → Ev (fun k => L k (i : Int)) ((List.range' i d).all (batStep l) && last) := by
  intro d
  induction d with
  | zero =>
    intro i hd hi _
    obtain rfl : i = l.length := by omega
    exact hend
  | succ d ih =>
    intro i hd hi hbe
    refine hstep i _ (by omega) hbe (fun hp => ?_) (fun hp => ?_)
    · rw [List.range'_succ, List.all_cons, hp, Bool.true_and]
      have ho : batOk (rd_T29 l (i : Int)) = true := by
        unfold batStep at hp
        exact (Bool.and_eq_true_iff.1 hp).1
      have := ih (i + 1) (by omega) (by omega) (fun _ => by rw [show ((i + 1 : Nat) : Int) - 1 = (i : Int) by omega]; exact batOk_len ho)
      exact_mod_cast this
    · rw [List.range'_succ, List.all_cons, hp, Bool.false_and, Bool.false_and]
theorem LogValid_ev (l : List S29) (hb : RowB l) : Ev (fun k => impl_LogValid.f k l) (logOk l) := by
  have hl := hb.1
  unfold impl_LogValid.f logOk
  by_cases h8 : (l.length : Int) > 8
  · simp only [if_pos h8, decide_eq_false (show ¬ ((l.length : Int) ≤ 8) by omega), Bool.and_false]
    exact Ev.now _
  · simp only [if_neg h8, decide_eq_true (show (l.length : Int) ≤ 8 by omega)]
    refine LogValid_loop l hb (fun k i => impl_LogValid.l0 k l l (l.length : Int) i) true
      (Ev.step (fun k => by rw [impl_LogValid.l0]) (by simp only [if_neg (show ¬ ((l.length : Int) < (l.length : Int)) by omega)]; exact Ev.now _))
      (fun i r hi hbe hgo hno => ?_) l.length 0 (by omega) (by omega) (fun h => absurd rfl h)
    refine Ev.step (fun k => by rw [impl_LogValid.l0]) ?_
    simp only [if_pos (show (i : Int) < (l.length : Int) by omega), if_pos (show (0 : Int) ≤ (i : Int) by omega)]
    refine Ev.bind (BatchValid_ev _ (hb.rd i hi)) ?_
    unfold batStep at hgo hno
    cases hp : batOk (rd_T29 l (i : Int))
    · obtain rfl := hno (by rw [hp, Bool.false_and])
      simp only [Bool.false_eq_true, if_false]
      exact Ev.now _
    · simp only [if_true]
      rw [hp, Bool.true_and] at hgo hno
      have hne := batOk_len hp
      by_cases h0 : i = 0
      · subst h0
        simp only [if_neg (show ¬ (((0 : Nat) : Int) > 0) by omega), w64 (a := ((0 : Nat) : Int) + 1) (by omega) (by omega)]
        exact hgo (by simp)
      · obtain ⟨n1, n2⟩ := hbe h0
        simp only [if_pos (show (i : Int) > 0 by omega), w64 (a := (i : Int) - 1) (by omega) (by omega), w64 (a := (i : Int) + 1) (by omega) (by omega), if_pos (show (0 : Int) ≤ (i : Int) - 1 by omega), if_pos (show (i : Int) - 1 < (l.length : Int) by omega)]
        unfold impl_Batch_last.f impl_Batch_first.f
        simp only [w64 (a := ((rd_T29 l ((i : Int) - 1)).f5.length : Int) - 1) (by omega) (by omega), if_pos (show (0 : Int) ≤ ((rd_T29 l ((i : Int) - 1)).f5.length : Int) - 1 by omega), if_pos (show ((rd_T29 l ((i : Int) - 1)).f5.length : Int) - 1 < ((rd_T29 l ((i : Int) - 1)).f5.length : Int) by omega), if_pos (show (0 : Int) < ((rd_T29 l (i : Int)).f5.length : Int) by omega), bindS]
        change Ev (fun k => if lastOf (rd_T29 l ((i : Int) - 1)) ≥ firstOf (rd_T29 l (i : Int)) then _ else _) _
        by_cases hc : lastOf (rd_T29 l ((i : Int) - 1)) ≥ firstOf (rd_T29 l (i : Int))
        · obtain rfl := hno (by rw [decide_eq_false h0, decide_eq_false (by omega), Bool.or_false])
          simp only [if_pos hc]
          exact Ev.now _
        · simp only [if_neg hc]
          exact hgo (by rw [decide_eq_true (by omega : lastOf (rd_T29 l ((i : Int) - 1)) < firstOf (rd_T29 l (i : Int))), Bool.or_true])
theorem sLogValid_ev (l : List S29) (hb : RowB l) : Ev (fun k => spec_LogValid.f k l) (logOk l) := by
  have hl := hb.1
  unfold spec_LogValid.f logOk
  refine LogValid_loop l hb (fun k i => spec_LogValid.l0 k l i) _
    (Ev.step (fun k => by rw [spec_LogValid.l0]) (by simp only [if_neg (show ¬ ((l.length : Int) < (l.length : Int)) by omega)]; exact Ev.now _))
    (fun i r hi hbe hgo hno => ?_) l.length 0 (by omega) (by omega) (fun h => absurd rfl h)
  refine Ev.step (fun k => by rw [spec_LogValid.l0]) ?_
  simp only [if_pos (show (i : Int) < (l.length : Int) by omega), if_pos (show (0 : Int) ≤ (i : Int) by omega)]
  refine Ev.bind (sBatchValid_ev _ (hb.rd i hi)) ?_
  unfold batStep at hgo hno
  cases hp : batOk (rd_T29 l (i : Int))
  · obtain rfl := hno (by rw [hp, Bool.false_and])
    simp only [Bool.false_eq_true, if_false]
    exact Ev.now _
  · simp only [if_true]
    rw [hp, Bool.true_and] at hgo hno
    have hne := batOk_len hp
    by_cases h0 : i = 0
    · subst h0
      simp only [if_neg (show ¬ (((0 : Nat) : Int) > 0) by omega), w64 (a := ((0 : Nat) : Int) + 1) (by omega) (by omega)]
      exact hgo (by simp)
    · obtain ⟨n1, n2⟩ := hbe h0
      simp only [if_pos (show (i : Int) > 0 by omega), w64 (a := (i : Int) - 1) (by omega) (by omega), w64 (a := (i : Int) + 1) (by omega) (by omega), if_pos (show (0 : Int) ≤ (i : Int) - 1 by omega), if_pos (show (i : Int) - 1 < (l.length : Int) by omega)]
      unfold spec_l12Last.f
      simp only [w64 (a := ((rd_T29 l ((i : Int) - 1)).f5.length : Int) - 1) (by omega) (by omega), if_pos (show (0 : Int) ≤ ((rd_T29 l ((i : Int) - 1)).f5.length : Int) - 1 by omega), if_pos (show ((rd_T29 l ((i : Int) - 1)).f5.length : Int) - 1 < ((rd_T29 l ((i : Int) - 1)).f5.length : Int) by omega), if_pos (show (0 : Int) < ((rd_T29 l (i : Int)).f5.length : Int) by omega), bindS]
      change Ev (fun k => if lastOf (rd_T29 l ((i : Int) - 1)) ≥ firstOf (rd_T29 l (i : Int)) then _ else _) _
      by_cases hc : lastOf (rd_T29 l ((i : Int) - 1)) ≥ firstOf (rd_T29 l (i : Int))
      · obtain rfl := hno (by rw [decide_eq_false h0, decide_eq_false (by omega), Bool.or_false])
        simp only [if_pos hc]
        exact Ev.now _
      · simp only [if_neg hc]
        exact hgo (by rw [decide_eq_true (by omega : lastOf (rd_T29 l ((i : Int) - 1)) < firstOf (rd_T29 l (i : Int))), Bool.or_true])
/-! what a valid row is -/
theorem logOk_bat {l : List S29} (h : logOk l = true) (i : Nat) (hi : i < l.length) : batOk l[i] = true := by
  unfold logOk at h
  have := List.all_eq_true.1 (Bool.and_eq_true_iff.1 h).1 i (by simp [List.mem_range']; omega)
  unfold batStep at this
  rw [rdB_nat l i hi] at this
  exact (Bool.and_eq_true_iff.1 this).1
theorem batOk_rec {b : S29} (h : batOk b = true) (i : Nat) (hi : i < b.f5.length) : recOk b.f5[i] = true := by
  unfold batOk at h
  simp only [Bool.and_eq_true] at h
  have := List.all_eq_true.1 h.2.2.2 i (by simp [List.mem_range']; omega)
  unfold recStep at this
  rw [rdR_nat b.f5 i hi] at this
  exact (Bool.and_eq_true_iff.1 this).1
end Go.Proofs.Ytahenocndacjeaa.Pu

namespace Go.Proofs.Ytahenocndacjeaa.Pu
open Go.RowKit Go.Proofs.YtahenocndacjeaaW.PrintWords Go.Proofs.YtahenocndacjeaaW.PrintLast Go.Proofs.YtahenocndacjeaaW.PrintMore Go.Proofs.Ytahenocndacjeaa.G
set_option linter.unusedVariables false
set_option linter.unusedSimpArgs false
def reachR (t : Int) (l : List S32) : Bool := l.any (fun r => decide (r.f1 ≥ t))
theorem reach_loop (t : Int) (l : List S32) (hl : l.length ≤ 9223372036854775807) : ∀ d i, l.length - i = d → i ≤ l.length →
    Ev (fun k => impl_moment_reaches.l0 k t l (l.length : Int) (i : Int)) (reachR t (l.drop i)) := by
  intro d
  induction d with
  | zero =>
    intro i hd hi
    refine Ev.step (fun k => by rw [impl_moment_reaches.l0]) ?_
    simp only [if_neg (show ¬ (i : Int) < (l.length : Int) by omega)]
    rw [List.drop_of_length_le (by omega)]
    exact Ev.now _
  | succ d ih =>
    intro i hd hi
    have hlt : i < l.length := by omega
    refine Ev.step (fun k => by rw [impl_moment_reaches.l0]) ?_
    simp only [if_pos (show (i : Int) < (l.length : Int) by omega), if_pos (show (0 : Int) ≤ (i : Int) by omega), rdR_nat l i hlt, w64 (a := (i : Int) + 1) (by omega) (by omega)]
    rw [List.drop_eq_getElem_cons hlt]
    unfold reachR
    rw [List.any_cons]
    by_cases h : l[i].f1 ≥ t
    · simp only [if_pos h, decide_eq_true h, Bool.true_or]
      exact Ev.now _
    · simp only [if_neg h, decide_eq_false h, Bool.false_or]
      exact ih (i + 1) (by omega) (by omega)
theorem reaches_ev (t : Int) (l : List S29) (hb : RowB l) (i : Nat) (hi : i < l.length) : Ev (fun k => impl_moment_reaches.f k t l (i : Int)) (reachR t l[i].f5) := by
  unfold impl_moment_reaches.f
  simp only [if_pos (show (0 : Int) ≤ (i : Int) by omega), if_pos (show (i : Int) < (l.length : Int) by omega), rdB_nat l i hi]
  have := reach_loop t l[i].f5 (hb.2 _ (List.getElem_mem _)).1 l[i].f5.length 0 (by omega) (by omega)
  exact this
def firstR (t : Int) (l : List S29) : Nat := l.findIdx (fun b => reachR t b.f5)
def keptV (t : Int) (l : List S29) : Nat := min (firstR t l) (l.length - 1)
theorem kept_loop (t : Int) (l : List S29) (hb : RowB l) : ∀ d i, l.length - i = d → i ≤ l.length →
    Ev (fun k => impl_keptFrom.l0 k l t (l.length : Int) (i : Int)) ((min (i + firstR t (l.drop i)) (l.length - 1) : Nat) : Int) := by
  have hl := hb.1
  intro d
  induction d with
  | zero =>
    intro i hd hi
    refine Ev.step (fun k => by rw [impl_keptFrom.l0]) ?_
    simp only [if_neg (show ¬ (i : Int) < (l.length : Int) by omega), w64 (a := (l.length : Int) - 1) (by omega) (by omega)]
    have e : mx ((l.length : Int) - 1) 0 = ((min (i + firstR t (l.drop i)) (l.length - 1) : Nat) : Int) := by
      unfold mx
      split <;> omega
    rw [e]
    exact Ev.now _
  | succ d ih =>
    intro i hd hi
    have hlt : i < l.length := by omega
    refine Ev.step (fun k => by rw [impl_keptFrom.l0]) ?_
    simp only [if_pos (show (i : Int) < (l.length : Int) by omega), w64 (a := (i : Int) + 1) (by omega) (by omega)]
    refine Ev.bind (reaches_ev t l hb i hlt) ?_
    rw [List.drop_eq_getElem_cons hlt]
    unfold firstR
    rw [List.findIdx_cons]
    cases hr : reachR t l[i].f5
    · simp only [Bool.false_eq_true, if_false, cond_false]
      have := ih (i + 1) (by omega) (by omega)
      unfold firstR at this
      rw [show i + (List.findIdx (fun b => reachR t b.f5) (l.drop (i + 1)) + 1) = i + 1 + List.findIdx (fun b => reachR t b.f5) (l.drop (i + 1)) by omega]
      exact this
    · simp only [if_true, cond_true]
      rw [show min (i + 0) (l.length - 1) = i by omega]
      exact Ev.now _
theorem keptFrom_ev (t : Int) (l : List S29) (hb : RowB l) : Ev (fun k => impl_keptFrom.f k l t) ((keptV t l : Nat) : Int) := by
  unfold impl_keptFrom.f keptV
  have := kept_loop t l hb l.length 0 (by omega) (by omega)
  simpa using this
def keepV (t : Int) (l : List S29) : Int := if logOk l = true then ((keptV t l : Nat) : Int) else -1
theorem KeepTime_ev (t : Int) (l : List S29) (hb : RowB l) : Ev (fun k => impl_KeepTime.f k l t) (keepV t l) := by
  unfold impl_KeepTime.f keepV
  refine Ev.bind (LogValid_ev l hb) ?_
  cases logOk l
  · exact Ev.now _
  · simp only [if_true]
    exact Ev.bind (keptFrom_ev t l hb) (Ev.now _)
/-! the reference -/
def mostOf (m : Int) (l : List S32) : Int := l.foldl (fun m r => mx m r.f1) m
theorem most_loop (l : List S32) (hl : l.length ≤ 9223372036854775807) (c0 c1 : Bool) (x y z : Int) : ∀ d i m, l.length - i = d → i ≤ l.length →
    Ev (fun k => spec_l14Most.l0 k m (i : Int) c0 c1 x y z l) (mostOf m (l.drop i)) := by
  intro d
  induction d with
  | zero =>
    intro i m hd hi
    refine Ev.step (fun k => by rw [spec_l14Most.l0]) ?_
    simp only [if_neg (show ¬ (i : Int) < (l.length : Int) by omega)]
    rw [List.drop_of_length_le (by omega)]
    exact Ev.now _
  | succ d ih =>
    intro i m hd hi
    have hlt : i < l.length := by omega
    refine Ev.step (fun k => by rw [spec_l14Most.l0]) ?_
    simp only [if_pos (show (i : Int) < (l.length : Int) by omega), if_pos (show (0 : Int) ≤ (i : Int) by omega), rdR_nat l i hlt, w64 (a := (i : Int) + 1) (by omega) (by omega)]
    rw [List.drop_eq_getElem_cons hlt]
    exact ih (i + 1) _ (by omega) (by omega)
theorem most_ev (b : S29) (hb : RowR b.f5) : Ev (fun k => spec_l14Most.f k b.f0 b.f1 b.f2 b.f3 b.f4 b.f5) (mostOf 0 b.f5) := by
  unfold spec_l14Most.f
  have := most_loop b.f5 hb.1 b.f0 b.f1 b.f2 b.f3 b.f4 b.f5.length 0 0 (by omega) (by omega)
  exact this
theorem mostOf_lt (t : Int) : ∀ (l : List S32) (m : Int), mostOf m l < t ↔ m < t ∧ ∀ r ∈ l, r.f1 < t
  | [], m => by simp [mostOf]
  | r :: l, m => by
    have := mostOf_lt t l (mx m r.f1)
    unfold mostOf at this ⊢
    rw [List.foldl_cons, this, List.forall_mem_cons]
    have e : mx m r.f1 < t ↔ m < t ∧ r.f1 < t := by
      unfold mx
      split <;> omega
    rw [e, and_assoc]
theorem most_reach (t : Int) {b : S29} (h : batOk b = true) : mostOf 0 b.f5 < t ↔ reachR t b.f5 = false := by
  have hn := batOk_len h
  rw [mostOf_lt]
  unfold reachR
  rw [List.any_eq_false]
  constructor
  · rintro ⟨_, hr⟩ r hm
    have := hr r hm
    simp only [decide_eq_true_eq]
    omega
  · intro hr
    have hall : ∀ r ∈ b.f5, r.f1 < t := fun r hm => by
      have := hr r hm
      simp only [decide_eq_true_eq] at this
      omega
    refine ⟨?_, hall⟩
    have h0 := batOk_rec h 0 (by omega)
    have h1 := hall _ (List.getElem_mem (show 0 < b.f5.length by omega))
    unfold recOk rng at h0
    simp only [Bool.and_eq_true, decide_eq_true_eq] at h0
    omega
theorem skeep_loop (t : Int) (l : List S29) (hb : RowB l) (hv : logOk l = true) : ∀ d i, l.length - i = d → i ≤ l.length - 1 →
    Ev (fun k => spec_KeepTime.l0 k l t (i : Int)) ((min (i + firstR t (l.drop i)) (l.length - 1) : Nat) : Int) := by
  have hl := hb.1
  intro d
  induction d with
  | zero =>
    intro i hd hi
    refine Ev.step (fun k => by rw [spec_KeepTime.l0]) ?_
    rw [w64 (a := (i : Int) + 1) (by omega) (by omega)]
    simp only [if_neg (show ¬ (i : Int) + 1 < (l.length : Int) by omega)]
    rw [show min (i + firstR t (l.drop i)) (l.length - 1) = i by omega]
    exact Ev.now _
  | succ d ih =>
    intro i hd hi
    have hlt : i < l.length := by omega
    refine Ev.step (fun k => by rw [spec_KeepTime.l0]) ?_
    rw [w64 (a := (i : Int) + 1) (by omega) (by omega)]
    by_cases h1 : (i : Int) + 1 < (l.length : Int)
    · simp only [if_pos h1, if_pos (show (0 : Int) ≤ (i : Int) by omega), if_pos (show (i : Int) < (l.length : Int) by omega), rdB_nat l i hlt]
      refine Ev.bind (most_ev l[i] (hb.2 _ (List.getElem_mem _))) ?_
      have hm := most_reach t (logOk_bat hv i hlt)
      rw [List.drop_eq_getElem_cons hlt]
      unfold firstR
      rw [List.findIdx_cons]
      cases hr : reachR t l[i].f5
      · simp only [if_pos (hm.2 hr), cond_false]
        have := ih (i + 1) (by omega) (by omega)
        unfold firstR at this
        rw [show i + (List.findIdx (fun b => reachR t b.f5) (l.drop (i + 1)) + 1) = i + 1 + List.findIdx (fun b => reachR t b.f5) (l.drop (i + 1)) by omega]
        exact this
      · simp only [if_neg (show ¬ mostOf 0 l[i].f5 < t from fun h => by rw [hm.1 h] at hr; exact Bool.noConfusion hr), cond_true]
        rw [show min (i + 0) (l.length - 1) = i by omega]
        exact Ev.now _
    · simp only [if_neg h1]
      rw [show min (i + firstR t (l.drop i)) (l.length - 1) = i by omega]
      exact Ev.now _
theorem sKeepTime_ev (t : Int) (l : List S29) (hb : RowB l) : Ev (fun k => spec_KeepTime.f k l t) (keepV t l) := by
  unfold spec_KeepTime.f keepV
  refine Ev.bind (sLogValid_ev l hb) ?_
  cases hv : logOk l
  · exact Ev.now _
  · simp only [if_true]
    have := skeep_loop t l hb hv l.length 0 (by omega) (by omega)
    unfold keptV
    simpa using this
/-! what is kept -/
theorem before_kept {t : Int} {l : List S29} (i : Nat) (h : i < keptV t l) (hi : i < l.length) : reachR t l[i].f5 = false := by
  unfold keptV at h
  exact List.not_of_lt_findIdx (p := fun b : S29 => reachR t b.f5) (by unfold firstR at h; omega)
end Go.Proofs.Ytahenocndacjeaa.Pu

namespace Go.Proofs.Ytahenocndacjeaa.Pu
open Go.RowKit Go.Proofs.YtahenocndacjeaaW.PrintWords Go.Proofs.YtahenocndacjeaaW.PrintLast Go.Proofs.Ytahenocndacjeaa.G
set_option linter.unusedVariables false
set_option linter.unusedSimpArgs false
theorem xor_i64 (a b : Int) (h0 : 0 ≤ a) (h1 : a < 4611686018427387904) (k0 : 0 ≤ b) (k1 : b < 4611686018427387904) : 0 ≤ bits .xor .i64 a b := by
  obtain ⟨a, rfl⟩ := Int.eq_ofNat_of_zero_le h0
  obtain ⟨b, rfl⟩ := Int.eq_ofNat_of_zero_le k0
  have ha : a < 2 ^ 62 := by omega
  have hb : b < 2 ^ 62 := by omega
  have hx := Nat.xor_lt_two_pow ha hb
  have ha' : a % 2 ^ 64 = a := Nat.mod_eq_of_lt (by omega)
  have hb' : b % 2 ^ 64 = b := Nat.mod_eq_of_lt (by omega)
  show 0 ≤ IntKind.i64.wrap ((BitVec.ofInt 64 (a : Int) ^^^ BitVec.ofInt 64 (b : Int)).toNat : Int)
  rw [BitVec.ofInt_natCast, BitVec.ofInt_natCast, BitVec.toNat_xor, BitVec.toNat_ofNat, BitVec.toNat_ofNat, ha', hb', IntKind.wrap_i64]
  omega
theorem rd_range {b : List Int} (hb : ∀ x ∈ b, 0 ≤ x ∧ x ≤ 255) (i : Int) : 0 ≤ rd b i ∧ rd b i ≤ 255 := by
  unfold rd
  rw [List.getD_eq_getElem?_getD]
  rcases h : b[i.toNat]? with _ | x
  · simp
  · exact hb x (List.mem_of_getElem? h)
theorem mod_range {x n : Int} (h0 : 0 ≤ x) (h1 : 1 ≤ n) : 0 ≤ Int.tmod x n ∧ Int.tmod x n < n := by
  rw [Int.tmod_eq_emod_of_nonneg h0]
  exact ⟨Int.emod_nonneg _ (by omega), Int.emod_lt_of_pos _ (by omega)⟩
/-- A code that is read: bytes, and a place that is no great number. -/
def CodeOk (b : List Int) : Prop := b.length ≤ 2000 ∧ ∀ x ∈ b, 0 ≤ x ∧ x ≤ 255
theorem pick_ends {b : List Int} (hb : CodeOk b) (p n : Int) (h0 : 0 ≤ p) (h1 : p ≤ 1000000000) (hn : n ≤ 4611686018427387904) :
    EndsIn (fun k => spec_l6Rd_pick.f k b p n) (fun r => r.2 = p + 1 ∧ 0 ≤ r.1 ∧ (1 ≤ n → r.1 < n) ∧ (n < 1 → r.1 = 0)) := by
  obtain ⟨hl, hr⟩ := hb
  unfold spec_l6Rd_pick.f
  rw [w64 (a := p + 1) (by omega) (by omega)]
  by_cases hn1 : n < 1
  · simp only [if_pos hn1]
    refine EndsIn.step (fun k => by rw [spec_l6Rd_pick.j0]) ?_
    simp only [if_true]
    exact EndsIn.now _ ⟨rfl, by omega, by omega, fun _ => rfl⟩
  · simp only [if_neg hn1]
    refine EndsIn.step (fun k => by rw [spec_l6Rd_pick.j0]) ?_
    rw [show p + 1 - 1 = p by omega, w64 (a := p) (by omega) (by omega)]
    by_cases hz : (b.length : Int) = 0
    · have : ((b.length : Int) == 0) = true := by simpa using hz
      simp only [this, if_true]
      exact EndsIn.now _ ⟨rfl, by omega, by omega, fun h => by omega⟩
    · have hz' : ((b.length : Int) == 0) = false := by simpa using hz
      simp only [hz', Bool.false_eq_true, if_false]
      by_cases hp : p < (b.length : Int)
      · have hx := rd_range hr p
        simp only [if_pos hp, if_pos h0, if_neg (show ¬ n = 0 by omega)]
        rw [w64 (a := rd b p) (by omega) (by omega)]
        have hm := mod_range (x := rd b p) (n := n) hx.1 (by omega)
        exact EndsIn.now _ ⟨rfl, hm.1, fun _ => hm.2, fun h => by omega⟩
      · have hm1 := mod_range (x := p) (n := (b.length : Int)) h0 (by omega)
        have h7 : wrap64 (wrap64 (p * 7) + 3) = p * 7 + 3 := by
          rw [w64 (a := p * 7) (by omega) (by omega), w64 (by omega) (by omega)]
        have hm2 := mod_range (x := p * 7 + 3) (n := (b.length : Int)) (by omega) (by omega)
        simp only [if_neg hp, if_neg hz, h7, if_pos hm1.1, if_pos hm1.2, if_pos hm2.1, if_pos hm2.2, if_neg (show ¬ n = 0 by omega)]
        have hx1 := rd_range hr (Int.tmod p b.length)
        have hx2 := rd_range hr (Int.tmod (p * 7 + 3) b.length)
        generalize rd b (Int.tmod p b.length) = x1 at hx1 ⊢
        generalize rd b (Int.tmod (p * 7 + 3) b.length) = x2 at hx2 ⊢
        have hd : 0 ≤ Int.tdiv p (b.length : Int) ∧ Int.tdiv p (b.length : Int) ≤ p := by
          rw [Int.tdiv_eq_ediv_of_nonneg h0]
          exact ⟨Int.ediv_nonneg h0 (by omega), Int.ediv_le_self _ h0⟩
        generalize Int.tdiv p (b.length : Int) = q at hd ⊢
        have e1 : wrap64 x1 = x1 := w64 (by omega) (by omega)
        have e2 : wrap64 x2 = x2 := w64 (by omega) (by omega)
        have e3 : wrap64 (x1 * 131) = x1 * 131 := w64 (by omega) (by omega)
        have e4 : wrap64 (x2 * 1117) = x2 * 1117 := w64 (by omega) (by omega)
        have e5 : wrap64 (x1 * 131 + x2 * 1117) = x1 * 131 + x2 * 1117 := w64 (by omega) (by omega)
        have e6 : wrap64 (p * 29) = p * 29 := w64 (by omega) (by omega)
        have e7 : wrap64 (x1 * 131 + x2 * 1117 + p * 29) = x1 * 131 + x2 * 1117 + p * 29 := w64 (by omega) (by omega)
        have e8 : wrap64 q = q := w64 (by omega) (by omega)
        have e9 : wrap64 (q * 53) = q * 53 := w64 (by omega) (by omega)
        have e10 : wrap64 (x1 * 131 + x2 * 1117 + p * 29 + q * 53) = x1 * 131 + x2 * 1117 + p * 29 + q * 53 := w64 (by omega) (by omega)
        simp only [e1, e2, e3, e4, e5, e6, e7, e8, e9, e10]
        have hX : 0 ≤ x1 * 131 + x2 * 1117 + p * 29 + q * 53 ∧ x1 * 131 + x2 * 1117 + p * 29 + q * 53 < 4611686018427387904 := ⟨by omega, by omega⟩
        generalize x1 * 131 + x2 * 1117 + p * 29 + q * 53 = X at hX ⊢
        have e11 : wrap64 (Int.tdiv X 64) = X / 64 := by
          rw [Int.tdiv_eq_ediv_of_nonneg hX.1]
          exact w64 (by omega) (by omega)
        rw [e11]
        have hxx := xor_i64 X (X / 64) hX.1 hX.2 (by omega) (by omega)
        have hm := mod_range (n := n) hxx (by omega)
        exact EndsIn.now _ ⟨rfl, hm.1, fun _ => hm.2, fun h => by omega⟩
end Go.Proofs.Ytahenocndacjeaa.Pu

namespace Go.Proofs.Ytahenocndacjeaa.Pu
open Go.RowKit Go.Proofs.YtahenocndacjeaaW.PrintWords Go.Proofs.YtahenocndacjeaaW.PrintLast Go.Proofs.YtahenocndacjeaaW.PrintMore Go.Proofs.Ytahenocndacjeaa.G
set_option linter.unusedVariables false
set_option linter.unusedSimpArgs false
theorem part_loop {b : List Int} (hb : CodeOk b) (n : Int) (hn : n ≤ 12) : ∀ d (i : Nat) (l : List Int) (p : Int), 12 - i = d → l.length = i → i ≤ 12 → 0 ≤ p → p ≤ 900000000 + 2 * (i : Int) →
    EndsIn (fun k => spec_l91Part.l0 k l n (i : Int) b p) (fun r => r.2.1.length ≤ 12 ∧ p ≤ r.2.2 ∧ r.2.2 ≤ p + 2 * (12 - (i : Int))) := by
  intro d
  induction d with
  | zero =>
    intro i l p hd hl hi p0 p1
    refine EndsIn.step (fun k => by rw [spec_l91Part.l0]) ?_
    simp only [if_neg (show ¬ (i : Int) < n by omega)]
    exact EndsIn.now _ ⟨by show l.length ≤ 12; omega, by show p ≤ p; omega, by show p ≤ _; omega⟩
  | succ d ih =>
    intro i l p hd hl hi p0 p1
    refine EndsIn.step (fun k => by rw [spec_l91Part.l0]) ?_
    by_cases h : (i : Int) < n
    · simp only [if_pos h]
      refine EndsIn.bind (pick_ends hb p 256 p0 (by omega) (by omega)) fun q hq => ?_
      obtain ⟨q2, q3, q4, _⟩ := hq
      simp only [bindS]
      rw [q2]
      refine EndsIn.bind (pick_ends hb (p + 1) 4 (by omega) (by omega) (by omega)) fun s hs => ?_
      obtain ⟨s2, s3, s4, _⟩ := hs
      have s5 := s4 (by omega)
      rw [s2]
      simp only [if_pos s3, if_pos (show s.1 < (([1, 2, 3, q.1] : List Int).length : Int) by simpa using s5), if_pos (show l.length < 17592186044416 by omega), w64 (a := (i : Int) + 1) (by omega) (by omega)]
      have := ih (i + 1) (l ++ [rd [1, 2, 3, q.1] s.1]) (p + 1 + 1) (by omega) (by rw [List.length_append, hl]; rfl) (by omega) (by omega) (by omega)
      exact this.mono fun r hr => ⟨hr.1, by omega, by omega⟩
    · simp only [if_neg h]
      exact EndsIn.now _ ⟨by show l.length ≤ 12; omega, by show p ≤ p; omega, by show p ≤ _; omega⟩
theorem part_ends {b : List Int} (hb : CodeOk b) (p : Int) (h0 : 0 ≤ p) (h1 : p ≤ 800000000) : EndsIn (fun k => spec_l91Part.f k b p) (fun r => r.2.1.length ≤ 12 ∧ p ≤ r.2.2 ∧ r.2.2 ≤ p + 30) := by
  have st : ∀ (n q : Int), n ≤ 12 → p ≤ q → q ≤ p + 5 → EndsIn (fun k => spec_l91Part.j0 k [] n b q) (fun r => r.2.1.length ≤ 12 ∧ p ≤ r.2.2 ∧ r.2.2 ≤ p + 30) := by
    intro n q hn q0 q1
    refine EndsIn.step (fun k => by rw [spec_l91Part.j0]) ?_
    have := part_loop hb n hn 12 0 [] q (by omega) rfl (by omega) (by omega) (by omega)
    exact this.mono fun r hr => ⟨hr.1, by omega, by omega⟩
  unfold spec_l91Part.f
  refine EndsIn.bind (pick_ends hb p 4 h0 (by omega) (by omega)) fun q hq => ?_
  obtain ⟨q2, q3, q4, _⟩ := hq
  rw [q2]
  by_cases hz : q.1 = 0
  · simp only [if_pos hz]
    exact EndsIn.now _ ⟨by simp, by show p ≤ p + 1; omega, by show p + 1 ≤ p + 30; omega⟩
  · simp only [if_neg hz, bindS]
    refine EndsIn.bind (pick_ends hb (p + 1) 5 (by omega) (by omega) (by omega)) fun s hs => ?_
    obtain ⟨s2, s3, s4, _⟩ := hs
    have s5 := s4 (by omega)
    rw [s2]
    refine EndsIn.bind (pick_ends hb (p + 1 + 1) 12 (by omega) (by omega) (by omega)) fun u hu => ?_
    obtain ⟨u2, u3, u4, _⟩ := hu
    rw [u2]
    by_cases hu0 : u.1 = 0
    · simp only [if_pos hu0]
      exact st _ _ (by omega) (by omega) (by omega)
    · simp only [if_neg hu0]
      exact st _ _ (by omega) (by omega) (by omega)
def Small (r : S32) : Prop := r.f3.length ≤ 12 ∧ r.f5.length ≤ 12
theorem recs_loop {b : List Int} (hb : CodeOk b) (n : Int) (hn : n ≤ 6) : ∀ d (i : Nat) (l : List S32) (o t p : Int), 6 - i = d → l.length = i → i ≤ 6 → (∀ r ∈ l, Small r) → 0 ≤ p → p ≤ 700000000 + 100 * (i : Int) →
    EndsIn (fun k => spec_l91Records.l0 k o l n t (i : Int) b p) (fun r => (∀ x ∈ r.1, Small x) ∧ (n ≤ (r.1.length : Int)) ∧ r.1.length ≤ 6 ∧ p ≤ r.2 ∧ r.2 ≤ p + 100 * (6 - (i : Int))) := by
  have stop : ∀ (i : Nat) (l : List S32) (o t p : Int), l.length = i → i ≤ 6 → (∀ r ∈ l, Small r) → ¬ (i : Int) < n →
      EndsIn (fun k => spec_l91Records.l0 k o l n t (i : Int) b p) (fun r => (∀ x ∈ r.1, Small x) ∧ (n ≤ (r.1.length : Int)) ∧ r.1.length ≤ 6 ∧ p ≤ r.2 ∧ r.2 ≤ p + 100 * (6 - (i : Int))) := by
    intro i l o t p hl hi hs h
    refine EndsIn.step (fun k => by rw [spec_l91Records.l0]) ?_
    simp only [if_neg h]
    exact EndsIn.now _ ⟨hs, by show n ≤ (l.length : Int); omega, by show l.length ≤ 6; omega, by show p ≤ p; omega, by show p ≤ _; omega⟩
  intro d
  induction d with
  | zero =>
    intro i l o t p hd hl hi hs p0 p1
    exact stop i l o t p hl hi hs (by omega)
  | succ d ih =>
    intro i l o t p hd hl hi hs p0 p1
    by_cases h : (i : Int) < n
    · refine EndsIn.step (fun k => by rw [spec_l91Records.l0]) ?_
      simp only [if_pos h]
      refine EndsIn.bind (part_ends hb p p0 (by omega)) fun q hq => ?_
      obtain ⟨q1, q2, q3⟩ := hq
      refine EndsIn.bind (part_ends hb q.2.2 (by omega) (by omega)) fun s hs' => ?_
      obtain ⟨s1, s2, s3⟩ := hs'
      have st : ∀ (c : Bool) (u : Int), s.2.2 ≤ u → u ≤ s.2.2 + 2 → EndsIn (fun k => spec_l91Records.j1 k o l n t (i : Int) s.1 s.2.1 c b u o t q.1 q.2.1 false) (fun r => (∀ x ∈ r.1, Small x) ∧ (n ≤ (r.1.length : Int)) ∧ r.1.length ≤ 6 ∧ p ≤ r.2 ∧ r.2 ≤ p + 100 * (6 - (i : Int))) := by
        intro c u u0 u1
        refine EndsIn.step (fun k => by rw [spec_l91Records.j1]) ?_
        have nx : ∀ (x : S32) (o' t' v : Int), Small x → u ≤ v → v ≤ u + 5 → EndsIn (fun k => spec_l91Records.l0 k o' (l ++ [x]) n t' ((i : Int) + 1) b v) (fun r => (∀ x ∈ r.1, Small x) ∧ (n ≤ (r.1.length : Int)) ∧ r.1.length ≤ 6 ∧ p ≤ r.2 ∧ r.2 ≤ p + 100 * (6 - (i : Int))) := by
          intro x o' t' v hx v0 v1
          have := ih (i + 1) (l ++ [x]) o' t' v (by omega) (by rw [List.length_append, hl]; rfl) (by omega) (fun r hr => by
            rcases List.mem_append.1 hr with hr | hr
            · exact hs r hr
            · rw [List.mem_singleton] at hr
              rw [hr]
              exact hx) (by omega) (by omega)
          exact this.mono fun r hr => ⟨hr.1, hr.2.1, hr.2.2.1, by omega, by omega⟩
        cases c
        · simp only [Bool.false_eq_true, if_false, if_pos (show l.length < 1759218604441 by omega)]
          refine EndsIn.bind (pick_ends hb u 5 (by omega) (by omega) (by omega)) fun v hv => ?_
          rw [hv.1]
          refine EndsIn.bind (pick_ends hb (u + 1) 30 (by omega) (by omega) (by omega)) fun z hz => ?_
          rw [hz.1, w64 (a := (i : Int) + 1) (by omega) (by omega)]
          exact nx _ _ _ _ ⟨q1, s1⟩ (by omega) (by omega)
        · simp only [if_true, if_pos (show l.length < 1759218604441 by omega)]
          refine EndsIn.bind (pick_ends hb u 3 (by omega) (by omega) (by omega)) fun y hy => ?_
          rw [hy.1]
          refine EndsIn.bind (pick_ends hb (u + 1) 5 (by omega) (by omega) (by omega)) fun v hv => ?_
          rw [hv.1]
          refine EndsIn.bind (pick_ends hb (u + 1 + 1) 30 (by omega) (by omega) (by omega)) fun z hz => ?_
          rw [hz.1, w64 (a := (i : Int) + 1) (by omega) (by omega)]
          exact nx _ _ _ _ ⟨by show 1 ≤ 12; omega, s1⟩ (by omega) (by omega)
      cases hq1 : q.1
      · simp only [Bool.false_eq_true, if_false]
        have := st false s.2.2 (by omega) (by omega)
        rw [hq1] at this
        exact this
      · simp only [if_true]
        refine EndsIn.bind (pick_ends hb s.2.2 2 (by omega) (by omega) (by omega)) fun y hy => ?_
        rw [hy.1]
        have := st (y.1 == 0) (s.2.2 + 1) (by omega) (by omega)
        rw [hq1] at this
        exact this
    · exact stop i l o t p hl hi hs h
/-- Some records: one at least. -/
theorem recs_ends {b : List Int} (hb : CodeOk b) (p a n : Int) (h0 : 0 ≤ p) (h1 : p ≤ 600000000) (hn1 : 1 ≤ n) (hn : n ≤ 5) :
    EndsIn (fun k => spec_l91Records.f k b p a n) (fun r => (∀ x ∈ r.1, Small x) ∧ 1 ≤ r.1.length ∧ r.1.length ≤ 6 ∧ p ≤ r.2 ∧ r.2 ≤ p + 700) := by
  unfold spec_l91Records.f
  refine EndsIn.bind (pick_ends hb p n h0 (by omega) (by omega)) fun q hq => ?_
  obtain ⟨q2, q3, q4, _⟩ := hq
  have q5 := q4 (by omega)
  rw [q2]
  refine EndsIn.bind (pick_ends hb (p + 1) 200 (by omega) (by omega) (by omega)) fun s hs => ?_
  rw [hs.1, w64 (a := 1 + q.1) (by omega) (by omega)]
  have := recs_loop hb (1 + q.1) (by omega) 6 0 [] a s.1 (p + 1 + 1) (by omega) rfl (by omega) (by simp) (by omega) (by omega)
  exact this.mono fun r hr => ⟨hr.1, by omega, hr.2.2.1, by omega, by omega⟩
def BatS (l : List S32) : Prop := (∀ x ∈ l, Small x) ∧ 1 ≤ l.length ∧ l.length ≤ 7
theorem bat_j {b : List Int} (hb : CodeOk b) (p : Int) (h0 : 0 ≤ p) (h1 : p ≤ 600000000) (c0 c1 : Bool) (x y z : Int) (l : List S32) (hl : (∀ x ∈ l, Small x) ∧ 1 ≤ l.length ∧ l.length ≤ 6) :
    EndsIn (fun k => spec_l91Batch.j0 k b p c0 c1 x y z l) (fun r => BatS r.2.2.2.2.2.1 ∧ p ≤ r.2.2.2.2.2.2 ∧ r.2.2.2.2.2.2 ≤ p + 3) := by
  obtain ⟨l1, l2, l3⟩ := hl
  have hB : BatS l := ⟨l1, l2, by omega⟩
  refine EndsIn.step (fun k => by rw [spec_l91Batch.j0]) ?_
  refine EndsIn.bind (pick_ends hb p 40 h0 (by omega) (by omega)) fun q hq => ?_
  rw [hq.1]
  by_cases e0 : q.1 = 0
  · simp only [if_pos e0, bindS]
    refine EndsIn.bind (pick_ends hb (p + 1) 3 (by omega) (by omega) (by omega)) fun s hs => ?_
    obtain ⟨s2, s3, s4, _⟩ := hs
    have s5 := s4 (by omega)
    simp only [if_pos s3, if_pos (show s.1 < (([(-1), 1, 100] : List Int).length : Int) by simpa using s5)]
    exact EndsIn.now _ ⟨hB, by show p ≤ s.2; omega, by show s.2 ≤ p + 3; omega⟩
  · simp only [if_neg e0]
    by_cases e1 : q.1 = 1
    · simp only [if_pos e1, if_pos (show (0 : Int) < (l.length : Int) by omega), if_pos (show l.length < 1759218604441 by omega)]
      refine EndsIn.now _ ⟨⟨fun r hr => ?_, by show 1 ≤ (l ++ [_]).length; rw [List.length_append]; omega, by show (l ++ [_]).length ≤ 7; rw [List.length_append]; simp only [List.length_singleton]; omega⟩, by show p ≤ p + 1; omega, by show p + 1 ≤ p + 3; omega⟩
      rcases List.mem_append.1 hr with hr | hr
      · exact l1 r hr
      · rw [List.mem_singleton] at hr
        rw [hr]
        have := l1 _ (List.getElem_mem (show 0 < l.length by omega))
        rw [← rdR_nat l 0 (by omega)] at this
        exact this
    · simp only [if_neg e1]
      by_cases e2 : q.1 = 2
      · simp only [if_pos e2]
        exact EndsIn.now _ ⟨hB, by show p ≤ p + 1; omega, by show p + 1 ≤ p + 3; omega⟩
      · simp only [if_neg e2]
        exact EndsIn.now _ ⟨hB, by show p ≤ p + 1; omega, by show p + 1 ≤ p + 3; omega⟩
theorem bat_ends {b : List Int} (hb : CodeOk b) (p a : Int) (h0 : 0 ≤ p) (h1 : p ≤ 500000000) :
    EndsIn (fun k => spec_l91Batch.f k b p a) (fun r => BatS r.2.2.2.2.2.1 ∧ p ≤ r.2.2.2.2.2.2 ∧ r.2.2.2.2.2.2 ≤ p + 800) := by
  unfold spec_l91Batch.f
  refine EndsIn.bind (pick_ends hb p 2 h0 (by omega) (by omega)) fun q hq => ?_
  rw [hq.1]
  refine EndsIn.bind (recs_ends hb (p + 1) a 4 (by omega) (by omega) (by omega) (by omega)) fun s hs => ?_
  obtain ⟨s1, s2, s3, s4, s5⟩ := hs
  refine EndsIn.bind (pick_ends hb s.2 3 (by omega) (by omega) (by omega)) fun t ht => ?_
  rw [ht.1]
  by_cases e0 : t.1 = 0
  · simp only [if_pos e0]
    refine EndsIn.bind (pick_ends hb (s.2 + 1) 3 (by omega) (by omega) (by omega)) fun u hu => ?_
    rw [hu.1]
    refine EndsIn.bind (pick_ends hb (s.2 + 1 + 1) 3 (by omega) (by omega) (by omega)) fun v hv => ?_
    rw [hv.1]
    refine EndsIn.bind (pick_ends hb (s.2 + 1 + 1 + 1) 5 (by omega) (by omega) (by omega)) fun x hx => ?_
    rw [hx.1]
    refine EndsIn.bind (pick_ends hb (s.2 + 1 + 1 + 1 + 1) 3 (by omega) (by omega) (by omega)) fun y hy => ?_
    rw [hy.1]
    by_cases ey : y.1 = 0
    · simp only [if_pos ey]
      refine EndsIn.bind (pick_ends hb (s.2 + 1 + 1 + 1 + 1 + 1) 200 (by omega) (by omega) (by omega)) fun z hz => ?_
      rw [hz.1]
      refine EndsIn.bind (pick_ends hb (s.2 + 1 + 1 + 1 + 1 + 1 + 1) 2 (by omega) (by omega) (by omega)) fun m hm => ?_
      rw [hm.1]
      refine (bat_j hb (s.2 + 1 + 1 + 1 + 1 + 1 + 1 + 1) (by omega) (by omega) _ _ _ _ _ _ ⟨fun r hr => ?_, by simp, by simp⟩).mono fun r hr => ⟨hr.1, by omega, by omega⟩
      rw [List.mem_singleton] at hr
      rw [hr]
      exact ⟨by show 0 ≤ 12; omega, by show 1 ≤ 12; omega⟩
    · simp only [if_neg ey]
      exact (bat_j hb (s.2 + 1 + 1 + 1 + 1 + 1) (by omega) (by omega) _ _ _ _ _ _ ⟨s1, s2, s3⟩).mono fun r hr => ⟨hr.1, by omega, by omega⟩
  · simp only [if_neg e0]
    exact (bat_j hb (s.2 + 1) (by omega) (by omega) _ _ _ _ _ _ ⟨s1, s2, s3⟩).mono fun r hr => ⟨hr.1, by omega, by omega⟩
def DrL (l : List S29) : Prop := l.length ≤ 9 ∧ ∀ x ∈ l, BatS x.f5
theorem BatS.rowR {l : List S32} (h : BatS l) : RowR l := ⟨by have := h.2.2; omega, fun r hr => by have := h.1 r hr; unfold Small at this; exact ⟨by omega, by omega⟩⟩
theorem DrL.rowB {l : List S29} (h : DrL l) : RowB l := ⟨by have := h.1; omega, fun x hx => (h.2 x hx).rowR⟩
theorem log_loop {b : List Int} (hb : CodeOk b) (n : Int) (hn : n ≤ 9) : ∀ d (i : Nat) (l : List S29) (o p : Int), 9 - i = d → l.length = i → i ≤ 9 → (∀ x ∈ l, BatS x.f5) → 0 ≤ p → p ≤ 400000000 + 2000 * (i : Int) →
    EndsIn (fun k => spec_l92Log.l0 k l n o (i : Int) b p) (fun r => DrL r.1 ∧ p ≤ r.2 ∧ r.2 ≤ p + 2000 * (9 - (i : Int)) + 10) := by
  have stop : ∀ (i : Nat) (l : List S29) (o p : Int), l.length = i → i ≤ 9 → (∀ x ∈ l, BatS x.f5) → 0 ≤ p → p ≤ 400000000 + 2000 * (i : Int) → ¬ (i : Int) < n →
      EndsIn (fun k => spec_l92Log.l0 k l n o (i : Int) b p) (fun r => DrL r.1 ∧ p ≤ r.2 ∧ r.2 ≤ p + 2000 * (9 - (i : Int)) + 10) := by
    intro i l o p hl hi hs p0 p1 h
    refine EndsIn.step (fun k => by rw [spec_l92Log.l0]) ?_
    simp only [if_neg h]
    by_cases h1 : n > 1
    · simp only [if_pos h1]
      refine EndsIn.bind (pick_ends hb p 30 p0 (by omega) (by omega)) fun q hq => ?_
      rw [hq.1]
      by_cases e0 : q.1 = 0
      · simp only [if_pos e0, if_pos (show (0 : Int) < (l.length : Int) by omega), if_pos (show (1 : Int) < (l.length : Int) by omega)]
        refine EndsIn.now _ ⟨⟨by rw [List.length_set]; omega, fun x hx => ?_⟩, by show p ≤ p + 1; omega, by show p + 1 ≤ _; omega⟩
        rcases List.mem_or_eq_of_mem_set hx with hx | rfl
        · exact hs x hx
        · have := hs _ (List.getElem_mem (show 0 < l.length by omega))
          rw [← rdB_nat l 0 (by omega)] at this
          exact this
      · simp only [if_neg e0]
        exact EndsIn.now _ ⟨⟨by show l.length ≤ 9; omega, hs⟩, by show p ≤ p + 1; omega, by show p + 1 ≤ _; omega⟩
    · simp only [if_neg h1]
      exact EndsIn.now _ ⟨⟨by show l.length ≤ 9; omega, hs⟩, by show p ≤ p; omega, by show p ≤ _; omega⟩
  intro d
  induction d with
  | zero =>
    intro i l o p hd hl hi hs p0 p1
    exact stop i l o p hl hi hs p0 p1 (by omega)
  | succ d ih =>
    intro i l o p hd hl hi hs p0 p1
    by_cases h : (i : Int) < n
    · refine EndsIn.step (fun k => by rw [spec_l92Log.l0]) ?_
      simp only [if_pos h]
      refine EndsIn.bind (bat_ends hb p o p0 (by omega)) fun x hx => ?_
      obtain ⟨x1, x2, x3⟩ := hx
      refine EndsIn.bind (pick_ends hb x.2.2.2.2.2.2 20 (by omega) (by omega) (by omega)) fun q hq => ?_
      have q2 := hq.1
      have nx : ∀ (y : S29) (o' v : Int), BatS y.f5 → p ≤ v → v ≤ p + 2000 → EndsIn (fun k => spec_l92Log.l0 k (l ++ [y]) n o' ((i : Int) + 1) b v) (fun r => DrL r.1 ∧ p ≤ r.2 ∧ r.2 ≤ p + 2000 * (9 - (i : Int)) + 10) := by
        intro y o' v hy v0 v1
        have := ih (i + 1) (l ++ [y]) o' v (by omega) (by rw [List.length_append, hl]; rfl) (by omega) (fun r hr => by
          rcases List.mem_append.1 hr with hr | hr
          · exact hs r hr
          · rw [List.mem_singleton] at hr
            rw [hr]
            exact hy) (by omega) (by omega)
        exact this.mono fun r hr => ⟨hr.1, by omega, by omega⟩
      have st : ∀ (c : Bool), EndsIn (fun k => spec_l92Log.j2 k l n o (i : Int) c b q.2 x.1 x.2.1 x.2.2.1 x.2.2.2.1 x.2.2.2.2.1 x.2.2.2.2.2.1) (fun r => DrL r.1 ∧ p ≤ r.2 ∧ r.2 ≤ p + 2000 * (9 - (i : Int)) + 10) := by
        intro c
        refine EndsIn.step (fun k => by rw [spec_l92Log.j2]) ?_
        cases c
        · obtain ⟨y1, y2, y3⟩ := x1
          simp only [Bool.false_eq_true, if_false, if_pos (show l.length < 2513169434916 by omega), w64 (a := (x.2.2.2.2.2.1.length : Int) - 1) (by omega) (by omega), if_pos (show (0 : Int) ≤ (x.2.2.2.2.2.1.length : Int) - 1 by omega), if_pos (show (x.2.2.2.2.2.1.length : Int) - 1 < (x.2.2.2.2.2.1.length : Int) by omega)]
          refine EndsIn.bind (pick_ends hb q.2 4 (by omega) (by omega) (by omega)) fun z hz => ?_
          rw [hz.1, w64 (a := (i : Int) + 1) (by omega) (by omega)]
          exact nx _ _ _ ⟨y1, y2, y3⟩ (by omega) (by omega)
        · simp only [if_true]
          refine EndsIn.bind (recs_ends hb q.2 o 2 (by omega) (by omega) (by omega) (by omega)) fun s hs => ?_
          obtain ⟨s1, s2, s3, s4, s5⟩ := hs
          simp only [if_pos (show l.length < 2513169434916 by omega), w64 (a := (s.1.length : Int) - 1) (by omega) (by omega), if_pos (show (0 : Int) ≤ (s.1.length : Int) - 1 by omega), if_pos (show (s.1.length : Int) - 1 < (s.1.length : Int) by omega)]
          refine EndsIn.bind (pick_ends hb s.2 4 (by omega) (by omega) (by omega)) fun z hz => ?_
          rw [hz.1, w64 (a := (i : Int) + 1) (by omega) (by omega)]
          exact nx _ _ _ ⟨s1, s2, by show s.1.length ≤ 7; omega⟩ (by omega) (by omega)
      by_cases e0 : q.1 > 0
      · simp only [if_pos e0]
        refine EndsIn.bind (P := fun _ => True) ⟨_, sBatchValid_ev ⟨x.1, x.2.1, x.2.2.1, x.2.2.2.1, x.2.2.2.2.1, x.2.2.2.2.2.1⟩ x1.rowR, trivial⟩ fun t _ => ?_
        exact st _
      · simp only [if_neg e0]
        exact st _
    · exact stop i l o p hl hi hs p0 p1 h
theorem drawLog_ends {b : List Int} (hb : CodeOk b) (p : Int) (h0 : 0 ≤ p) (h1 : p ≤ 300000000) : EndsIn (fun k => spec_l92Log.f k b p) (fun r => DrL r.1 ∧ p ≤ r.2 ∧ r.2 ≤ p + 20000) := by
  have st : ∀ (n q : Int), n ≤ 9 → p ≤ q → q ≤ p + 10 → EndsIn (fun k => spec_l92Log.j0 k [] n b q) (fun r => DrL r.1 ∧ p ≤ r.2 ∧ r.2 ≤ p + 20000) := by
    intro n q hn hq0 hq1
    refine EndsIn.step (fun k => by rw [spec_l92Log.j0]) ?_
    refine EndsIn.bind (pick_ends hb q 10 (by omega) (by omega) (by omega)) fun t ht => ?_
    rw [ht.1]
    have := log_loop hb n hn 9 0 [] t.1 (q + 1) (by omega) rfl (by omega) (by simp) (by omega) (by omega)
    exact this.mono fun r hr => ⟨hr.1, by omega, by omega⟩
  unfold spec_l92Log.f
  simp only [bindS]
  refine EndsIn.bind (pick_ends hb p 5 h0 (by omega) (by omega)) fun q hq => ?_
  obtain ⟨q2, q3, q4, _⟩ := hq
  have q5 := q4 (by omega)
  rw [q2]
  refine EndsIn.bind (pick_ends hb (p + 1) 16 (by omega) (by omega) (by omega)) fun s hs => ?_
  rw [hs.1]
  by_cases hz : s.1 = 0
  · simp only [if_pos hz]
    refine EndsIn.bind (pick_ends hb (p + 1 + 1) 3 (by omega) (by omega) (by omega)) fun u hu => ?_
    obtain ⟨u2, u3, u4, _⟩ := hu
    have u5 := u4 (by omega)
    simp only [if_pos u3, if_pos (show u.1 < (([0, 8, 9] : List Int).length : Int) by simpa using u5)]
    rw [u2]
    refine st _ _ ?_ (by omega) (by omega)
    have : u.1 = 0 ∨ u.1 = 1 ∨ u.1 = 2 := by omega
    rcases this with e | e | e <;> (rw [e]; decide)
  · simp only [if_neg hz, w64 (a := 1 + q.1) (by omega) (by omega)]
    exact st _ _ (by omega) (by omega) (by omega)
end Go.Proofs.Ytahenocndacjeaa.Pu

namespace Go.Proofs.Ytahenocndacjeaa.Pu
open Go.RowKit Go.Proofs.YtahenocndacjeaaW.PrintWords Go.Proofs.YtahenocndacjeaaW.PrintLast Go.Proofs.Ytahenocndacjeaa.G
set_option linter.unusedVariables false
set_option linter.unusedSimpArgs false
theorem open_some (l0 : List Int) (hr : ∀ x ∈ l0, 0 ≤ x ∧ x ≤ 255) : ∃ b, spec_l6Open.f l0 = some (b, 0) ∧ CodeOk b := by
  unfold spec_l6Open.f
  by_cases h : (l0.length : Int) > 2000
  · rw [if_pos h, if_pos (by omega)]
    exact ⟨_, rfl, by rw [List.length_take]; omega, fun x hx => hr x (List.mem_of_mem_take hx)⟩
  · rw [if_neg h]
    exact ⟨_, rfl, by omega, hr⟩
end Go.Proofs.Ytahenocndacjeaa.Pu

namespace Go.Proofs.Ytahenocndacjeaa.Pu
open Go.RowKit Go.Proofs.YtahenocndacjeaaW.PrintWords Go.Proofs.YtahenocndacjeaaW.PrintLast Go.Proofs.YtahenocndacjeaaW.PrintMore Go.Proofs.Ytahenocndacjeaa.G
set_option linter.unusedVariables false
set_option linter.unusedSimpArgs false
theorem rec_inc {b : S29} (h : batOk b = true) (j : Nat) (hj : j + 1 < b.f5.length) : b.f5[j].f0 < b.f5[j + 1].f0 := by
  unfold batOk at h
  simp only [Bool.and_eq_true] at h
  have := List.all_eq_true.1 h.2.2.2 (j + 1) (by simp [List.mem_range']; omega)
  unfold recStep at this
  rw [rdR_nat b.f5 (j + 1) hj, show ((j + 1 : Nat) : Int) - 1 = ((j : Nat) : Int) by omega, rdR_nat b.f5 j (by omega), decide_eq_false (by omega : ¬ (j + 1 = 0)), Bool.false_or, Bool.and_eq_true, decide_eq_true_eq] at this
  exact this.2
theorem firstOf_eq {b : S29} (h : 0 < b.f5.length) : firstOf b = b.f5[0].f0 := by
  unfold firstOf
  rw [show (0 : Int) = ((0 : Nat) : Int) from rfl, rdR_nat b.f5 0 h]
theorem lastOf_eq {b : S29} (h : 0 < b.f5.length) : lastOf b = (b.f5[b.f5.length - 1]'(by omega)).f0 := by
  unfold lastOf
  rw [show (b.f5.length : Int) - 1 = ((b.f5.length - 1 : Nat) : Int) by omega, rdR_nat b.f5 _ (by omega)]
theorem rec_ge {b : S29} (h : batOk b = true) : ∀ j (hj : j < b.f5.length), firstOf b ≤ b.f5[j].f0
  | 0, hj => by rw [firstOf_eq hj]; exact Int.le_refl _
  | j + 1, hj => by
    have := rec_ge h j (by omega)
    have := rec_inc h j hj
    omega
theorem rec_mono {b : S29} (h : batOk b = true) (i : Nat) : ∀ d (hj : i + d < b.f5.length), (b.f5[i]'(by omega)).f0 ≤ b.f5[i + d].f0
  | 0, hj => Int.le_refl _
  | d + 1, hj => by
    have := rec_mono h i d (by omega)
    have := rec_inc h (i + d) hj
    show _ ≤ b.f5[i + d + 1].f0
    omega
theorem rec_le {b : S29} (h : batOk b = true) (j : Nat) (hj : j < b.f5.length) : b.f5[j].f0 ≤ lastOf b := by
  rw [lastOf_eq (by omega)]
  have := rec_mono h j (b.f5.length - 1 - j) (by omega)
  simpa only [show j + (b.f5.length - 1 - j) = b.f5.length - 1 by omega] using this
theorem bat_inc {l : List S29} (h : logOk l = true) (i : Nat) (hi : i + 1 < l.length) : lastOf l[i] < firstOf l[i + 1] := by
  unfold logOk at h
  have := List.all_eq_true.1 (Bool.and_eq_true_iff.1 h).1 (i + 1) (by simp [List.mem_range']; omega)
  unfold batStep at this
  rw [rdB_nat l (i + 1) hi, show ((i + 1 : Nat) : Int) - 1 = ((i : Nat) : Int) by omega, rdB_nat l i (by omega), decide_eq_false (by omega : ¬ (i + 1 = 0)), Bool.false_or, Bool.and_eq_true, decide_eq_true_eq] at this
  exact this.2
theorem first_le_last {b : S29} (h : batOk b = true) : firstOf b ≤ lastOf b := by
  have hn := batOk_len h
  have := rec_le h 0 (by omega)
  rw [firstOf_eq (by omega)]
  exact this
theorem bat_mono {l : List S29} (h : logOk l = true) (i : Nat) : ∀ d (hj : i + d < l.length), firstOf (l[i]'(by omega)) ≤ firstOf l[i + d]
  | 0, hj => Int.le_refl _
  | d + 1, hj => by
    have h1 := bat_mono h i d (by omega)
    have h2 := bat_inc h (i + d) hj
    have h3 := first_le_last (logOk_bat h (i + d) (by omega))
    show _ ≤ firstOf l[i + d + 1]
    omega
theorem logOk_len {l : List S29} (h : logOk l = true) : l.length ≤ 8 := by
  unfold logOk at h
  simp only [Bool.and_eq_true, decide_eq_true_eq] at h
  omega
end Go.Proofs.Ytahenocndacjeaa.Pu

namespace Go.Proofs.Ytahenocndacjeaa.Pu
open Go.RowKit Go.Proofs.YtahenocndacjeaaW.PrintWords Go.Proofs.YtahenocndacjeaaW.PrintLast Go.Proofs.YtahenocndacjeaaW.PrintMore Go.Proofs.Ytahenocndacjeaa.G
set_option linter.unusedVariables false
set_option linter.unusedSimpArgs false
theorem BatchSpan_ev (b : S29) (hb : RowR b.f5) : Ev (fun k => impl_BatchSpan.f k b.f0 b.f1 b.f2 b.f3 b.f4 b.f5) (if batOk b = true then (firstOf b, lastOf b, true) else (0, 0, false)) := by
  unfold impl_BatchSpan.f
  refine Ev.bind (BatchValid_ev b hb) ?_
  cases h : batOk b
  · simp only [Bool.false_eq_true, if_false]
    exact Ev.now _
  · have hn := batOk_len h
    simp only [if_true]
    unfold impl_Batch_first.f impl_Batch_last.f
    simp only [if_pos (show (0 : Int) < (b.f5.length : Int) by omega), w64 (a := (b.f5.length : Int) - 1) (by omega) (by omega), if_pos (show (0 : Int) ≤ (b.f5.length : Int) - 1 by omega), if_pos (show (b.f5.length : Int) - 1 < (b.f5.length : Int) by omega), bindS]
    exact Ev.now _
end Go.Proofs.Ytahenocndacjeaa.Pu

namespace Go.Proofs.Ytahenocndacjeaa.Pu
open Go.RowKit Go.Proofs.YtahenocndacjeaaW.PrintWords Go.Proofs.YtahenocndacjeaaW.PrintLast Go.Proofs.YtahenocndacjeaaW.PrintMore Go.Proofs.Ytahenocndacjeaa.G
set_option linter.unusedVariables false
set_option linter.unusedSimpArgs false
theorem lenG_ok {l : List S29} (h : logOk l = true) : lenG l = true := by
  unfold lenG
  simp only [Bool.and_eq_true, decide_eq_true_eq, List.all_eq_true]
  have := logOk_len h
  refine ⟨by omega, fun b hb => ?_⟩
  obtain ⟨i, hi, rfl⟩ := List.getElem_of_mem hb
  have := batOk_len (logOk_bat h i hi)
  omega
theorem TimesFind_ev (t : Int) (l : List S29) (hb : RowB l) : Ev (fun k => impl_TimesFind.f k l t) (if logOk l = true then findT l t else -1) := by
  unfold impl_TimesFind.f
  refine Ev.bind (LogValid_ev l hb) ?_
  cases h : logOk l
  · exact Ev.now _
  · simp only [if_true, lenG_ok h]
    exact Ev.now _
theorem mem_allP {l : List S29} {x : S29 × S32} (h : x ∈ allP l) : ∃ (i : Nat) (hi : i < l.length) (j : Nat) (hj : j < l[i].f5.length), x = (l[i], l[i].f5[j]) := by
  unfold allP at h
  obtain ⟨b, hb, hx⟩ := List.mem_flatMap.1 h
  obtain ⟨r, hr, rfl⟩ := List.mem_map.1 hx
  obtain ⟨i, hi, rfl⟩ := List.getElem_of_mem hb
  obtain ⟨j, hj, rfl⟩ := List.getElem_of_mem hr
  exact ⟨i, hi, j, hj, rfl⟩
end Go.Proofs.Ytahenocndacjeaa.Pu

namespace Go.Proofs.Ytahenocndacjeaa.Pure
open Go.RowKit Go.Proofs.Ytahenocndacjeaa.G Go.Proofs.YtahenocndacjeaaW.PrintWords Go.Proofs.YtahenocndacjeaaW.PrintLast Go.Proofs.YtahenocndacjeaaW.PrintMore Go.Proofs.Ytahenocndacjeaa.Pu
set_option linter.unusedSimpArgs false
theorem find_ge {t : Int} {l : List S29} (hv : logOk l = true) (hn : ¬ findT l t < 0) : ∃ h : keptV t l < l.length, firstOf l[keptV t l] ≤ findT l t := by
  unfold findT at hn ⊢
  cases hf : (allP l).find? (fun x => decide (t ≤ x.2.f1)) with
  | none => rw [hf] at hn; simp at hn
  | some x =>
    simp only
    have hx := List.find?_some hf
    simp only [decide_eq_true_eq] at hx
    obtain ⟨i, hi, j, hj, rfl⟩ := mem_allP (List.mem_of_find?_eq_some hf)
    have hreach : reachR t l[i].f5 = true := List.any_eq_true.2 ⟨_, List.getElem_mem hj, decide_eq_true hx⟩
    have hle : keptV t l ≤ i := by
      by_cases hlt : i < keptV t l
      · have := before_kept i hlt hi
        rw [this] at hreach
        exact Bool.noConfusion hreach
      · omega
    refine ⟨by omega, ?_⟩
    have h1 := bat_mono hv (keptV t l) (i - keptV t l) (by omega)
    simp only [show keptV t l + (i - keptV t l) = i by omega] at h1
    have h2 := rec_ge (logOk_bat hv i hi) j hj
    exact Int.le_trans h1 h2
theorem FnKeepTimeFind : OFnKeepTimeFind.Pure := by
  intro l0 hl0 ho0
  refine EndsIn.rounds ?_
  unfold laws_FnKeepTimeFind.f
  have hr := fun x hx => u8_range (ho0 x hx)
  by_cases h : (l0.length : Int) > 1048576
  · simp only [if_pos h]
    exact EndsIn.now _ rfl
  · simp only [if_neg h]
    obtain ⟨c, hc, hok⟩ := open_some l0 hr
    unfold spec_DrawKeepTime.f
    simp only [hc, bindS]
    refine EndsIn.bind (P := fun r => DrL r.1) (EndsIn.bind (drawLog_ends hok 0 (by omega) (by omega)) fun r hr => EndsIn.bind (pick_ends hok r.2 250 (by omega) (by omega) (by omega)) fun s _ => EndsIn.now _ hr.1) fun q hq => ?_
    obtain ⟨l, t⟩ := q
    have hb : RowB l := DrL.rowB hq
    refine ⟨true, ?_, rfl⟩
    refine Ev.bind (KeepTime_ev t l hb) (Ev.bind (sKeepTime_ev t l hb) ?_)
    simp only [if_true]
    refine Ev.step (fun k => by rw [laws_FnKeepTimeFind.j0]) ?_
    by_cases hv : logOk l = true
    · have e : keepV t l = ((keptV t l : Nat) : Int) := by unfold keepV; rw [if_pos hv]
      rw [e]
      simp only [decide_eq_false (show ¬ ((keptV t l : Nat) : Int) < 0 by omega), Bool.false_eq_true, if_false]
      have hT := TimesFind_ev t l hb
      rw [if_pos hv] at hT
      refine Ev.bind hT ?_
      by_cases hn : findT l t < 0
      · simp only [if_pos hn]
        exact Ev.now _
      · obtain ⟨hlt, hge⟩ := find_ge hv hn
        simp only [if_neg hn, if_pos (show (0 : Int) ≤ ((keptV t l : Nat) : Int) by omega), if_pos (show ((keptV t l : Nat) : Int) < (l.length : Int) by omega), rdB_nat l _ hlt]
        have hS := BatchSpan_ev l[keptV t l] (hb.2 _ (List.getElem_mem hlt))
        rw [if_pos (logOk_bat hv _ hlt)] at hS
        refine Ev.bind hS ?_
        simp only [if_true, decide_eq_true (show findT l t ≥ firstOf l[keptV t l] from hge)]
        exact Ev.now _
    · have e : keepV t l = -1 := by unfold keepV; rw [if_neg hv]
      rw [e]
      simp only [decide_eq_true (show (-1 : Int) < 0 by omega), if_true, beq_self_eq_true]
      exact Ev.now _
end Go.Proofs.Ytahenocndacjeaa.Pure

namespace Go.Proofs.Ytahenocndacjeaa.fnKeepTimeFind
open Go.ChangeShapes Go.WideShapes Go.ChangeAt Go.RowKit Go.Proofs.Ytahenocndacjeaa.OFnKeepTimeFind Go.Proofs.Ytahenocndacjeaa.G Go.Joins
open Go.ChangeMaps (open_string shut_string)
set_option linter.unusedVariables false
theorem own : ownKnob Try.prog.godebug = none := by kernel_rfl
theorem laidOut : laidOutB Try.prog = true := by kernel_rfl
set_option maxRecDepth 100000 in
theorem lifted (os : Os) (started : os.Started) (H : Type) (enc : TypeId × Value → H) :
    ReturnsInHanded {} Try.checked os 5 .any (Rows.fnKeepTimeFindSpec.pre6 enc Try.prog Try.f5 Rows.fnKeepTimeFindRow.domain false) (Rows.fnKeepTimeFindSpec.post enc Try.prog Try.f5 false true false false) := by
  refine returnsInHanded_of_change_sized (C := Try.checked) own started (by kernel_rfl) Try.func5
    (ChangeSpec.witness6 (enc := enc) (C := Try.checked) false ⟨#[], #[.slice none 0 0], []⟩ 8 (by kernel_rfl) (by kernel_rfl) (by kernel_rfl) (by kernel_rfl)) ?_
  intro W base args ds gs before hval0 hW hcnd hsz0 _
  have hsz : (DataW.weightsEach Try.prog (Try.f5.params.toList ++ Rows.fnKeepTimeFindSpec.plain.varTypes Try.prog) (ds ++ gs)).all (· ≤ reachBytes) = true := hsz0
  have hval : ∀ (j : Nat) t v, Try.f5.params[j]? = some t → args[j]? = some v → Value.okWide Try.prog W .any base t v := hval0
  have hW' := hW
  obtain ⟨p, q, hA0, hV, rfl, hfz, hnd⟩ := hW
  have hA : DataW.TrodAll enc Try.prog W 0 (fun _ => true) true Try.f5.params.toList args.toList ds p := hA0
  rw [Try.params5] at hA hval hsz
  obtain ⟨v0, vs0, d0, ds0, p0, q0, hargs, rfl, rfl, h0, r0⟩ := trodAll_cons hA
  obtain ⟨rfl, rfl, rfl⟩ := trodAll_nil r0
  obtain rfl : args = #[v0] := by cases args; simp_all
  obtain ⟨rfl, rfl⟩ := trodVars_none hV
  obtain ⟨a0, len0, cap0, rfl⟩ := okWide_slice Try.underlying22 (hval 0 22 v0 rfl rfl)
  have k0 := h0
  have lt0 : ∀ x ∈ p0, x.block < W.heap.size := by obtain ⟨m, hm⟩ := k0; exact DataW.trod_lt m _ _ _ hm
  obtain ⟨fuel0, hf0⟩ := h0
  obtain ⟨A0, c0, l0, hcs0, hlc0, hm0, hC0, ho0⟩ := Rd.opens_row Try.underlying22 (Rd.opens_int Try.underlying5 (by kernel_rfl)) hf0
  simp [Value.cells] at hcs0
  obtain ⟨rfl, rfl, rfl⟩ := hcs0
  clear hA0 hval0 hsz0 hsz
  obtain ⟨k, h⟩ := Pure.FnKeepTimeFind l0 (Nat.le_trans hlc0 hm0) ho0
  refine (laws_FnKeepTimeFind.calls k _ _ l0 true W hC0 hlc0 h).mono fun e W' ⟨he, bel0⟩ => ?_
  subst he
  have bel : Below W.heap.size W W' := bel0
  exact ⟨_, rfl, _, _, _, [], _, [], hW', trodAll_mk1 (shut_bool Try.underlying4 _), (trodAll_cons_mk (Below.trod laidOut (by kernel_rfl) (of_decide_eq_true (by kernel_rfl)) k0 bel lt0) trodAll_mk0), rfl, bel.frame _, fun h => by cases h⟩
theorem over : Rows.fnKeepTimeFindRow.holds Try.pinned (OpenSpec.ofChange Rows.fnKeepTimeFindSpec) :=
  OpenClaim.holds_of_wide 5 Try.f5 rfl rfl rfl rfl rfl rfl rfl ⟨rfl, rfl, rfl, rfl, rfl⟩ rfl rfl rfl rfl rfl (by kernel_rfl) Try.func5 (by kernel_rfl)
    (of_decide_eq_true (by kernel_rfl)) (by unfold Func.isWrapper; first | (rw [if_pos (by decide +kernel)]; kernel_rfl) | (rw [if_neg (by decide +kernel)]; exact ⟨rfl, rfl⟩))
    (fun os started H enc _ => lifted os started H enc)
theorem proved : Rows.FnKeepTimeFindSaid := over
#print axioms proved
end Go.Proofs.Ytahenocndacjeaa.fnKeepTimeFind
namespace Go.Proofs.Ytahenocndacjeaa
/-- The row, under a short name, for the claim. -/
theorem fnKeepTimeFind_holds : Rows.FnKeepTimeFindSaid := fnKeepTimeFind.proved
end Go.Proofs.Ytahenocndacjeaa

