/- A text of seat Ytahenocndacjeaa: what the law FnExactKeepTime needs of this repo's texts (by pack.py). Not trusted: Lean checks it. -/
import Derived.Test.YtahenocndacjeaaKFnExactKeepTime9
import Derived.Deep.Slices
import Derived.SizedLaws
import Derived.Test.YtahenocndacjeaaRows
import Derived.WalkKit
import Derived.ProofKit
import Derived.OpenShut
import Derived.ShutString
import Derived.ChangeOld
import Derived.Below
import Derived.Lib.SmallJoins
import Derived.Laws.StructEq
import Derived.ChangeSlices
namespace Go.Proofs.Ytahenocndacjeaa.G
open Go.RowKit Go.Proofs.YtahenocndacjeaaW.PrintWords Go.Proofs.YtahenocndacjeaaW.PrintLast Go.Proofs.YtahenocndacjeaaW.PrintMore
attribute [local go_sem] max2_int min2_int max_two min_two max_three min_three max_four min_four   -- for this text's walks alone
set_option linter.unusedVariables false
set_option linter.unusedSimpArgs false

def laws_eqBatchS.l0 : Nat → List (S29) → List (S29) → Int → Option (Bool)
 | 0, _, _, _ => none
 | k + 1, x0, x1, x5 => if x5 < (x0.length : Int) then (if 0 ≤ x5 then (if x5 < (x1.length : Int) then ((laws_eqBatch.f k ((rd_T29 x0 x5).f0) ((rd_T29 x0 x5).f1) ((rd_T29 x0 x5).f2) ((rd_T29 x0 x5).f3) ((rd_T29 x0 x5).f4) ((rd_T29 x0 x5).f5) ((rd_T29 x1 x5).f0) ((rd_T29 x1 x5).f1) ((rd_T29 x1 x5).f2) ((rd_T29 x1 x5).f3) ((rd_T29 x1 x5).f4) ((rd_T29 x1 x5).f5)).bind fun t435 => (if t435 = true then (laws_eqBatchS.l0 k x0 x1 (wrap64 (x5 + 1))) else (some false))) else (none)) else (none)) else (some true)
def laws_eqBatchS.f (k : Nat) (l0 : List (S29)) (l1 : List (S29)) : Option (Bool) := if (l0.length : Int) = (l1.length : Int) then (laws_eqBatchS.l0 k l0 l1 0) else (some false)
def laws_eqBatchS.T6 : Bool × List (List Nat × List Nat) := (true, [([], []), ([], []), ([0, 1], [0, 1]), ([2], [2]), ([], []), ([], []), ([4, 5], [4, 5]), ([6], [6]), ([3, 7], [3, 7]), ([8], [8])])
def laws_eqBatchS.B6 : List Nat := [0, 0, 3, 7, 0, 0, 48, 112, 255, 511]
theorem laws_eqBatchS.tab6 : rtab .any (opsOf Try.f14 6) = laws_eqBatchS.T6 := by kernel_rfl
theorem laws_eqBatchS.bits6 : waitsOk laws_eqBatchS.T6.2 laws_eqBatchS.B6 = true := by kernel_rfl
set_option maxHeartbeats 8000000 in
set_option maxRecDepth 100000 in
theorem laws_eqBatchS.calls (k : Nat) (A0 : Option Addr) (c0 : Nat) (l0 : List (S29)) (A1 : Option Addr) (c1 : Nat) (l1 : List (S29)) (r : Bool) (w : World) (hr0 : Kd.C k29 w A0 l0.length l0) (hc0 : l0.length ≤ c0) (hr1 : Kd.C k29 w A1 l1.length l1) (hc1 : l1.length ≤ c1) (h : laws_eqBatchS.f k l0 l1 = some r) :
  Calls Try.prog 14 #[.slice A0 l0.length c0, .slice A1 l1.length c1] w fun e w' => e = .returned (.bool r) ∧ Below w.heap.size w w' := by
 have hu29 := Try.underlying29
 have HR0 := Aside0.mk hr0
 have HC0 := Aside0.mk hc0
 clear hr0 hc0
 have HR1 := Aside0.mk hr1
 have HC1 := Aside0.mk hc1
 clear hr1 hc1
 have HB := Aside0.mk (Below.refl w.heap.size w)
 have H : (if (l0.length : Int) = (l1.length : Int) then (laws_eqBatchS.l0 k l0 l1 0) else (some false)) = some r := h
 clear h
 by_cases c3 : (l0.length : Int) = (l1.length : Int)
 ·rw [if_pos c3] at H
  have c3b0 : ((l0.length : Int) == (l1.length : Int)) = true := beq_iff_eq.mpr c3
  have c3b1 : ((l0.length : Int) != (l1.length : Int)) = false := bne_eq_false_iff_eq.mpr c3
  have c3b2 : (l0.length == l1.length) = true := by first | simpa using c3 | (simp at c3 ⊢; omega)
  clear c3
  have H' := Aside0.mk H
  clear H
  go_enter Try.func14, Try.ntmps14
  go_wp2
  go_loopg [5] k (fun kq v5 w' => ∃ (x5_1 : Int), v5 = .int .i64 x5_1 ∧ Aside0 (laws_eqBatchS.l0 kq l0 l1 x5_1 = some r) ∧ Aside0 (kq ≤ k) ∧ Aside0 (Below w.heap.size w w'))
  case atStart => exact ⟨(0), (by first | rfl | (simp; done) | (simp [*]; done)), H', ⟨Nat.le_refl _⟩, ⟨by repeat (first | (with_reducible first | exact HB.out | apply below_alloc | apply pw_below_drewN | apply below_drew1) | exact HB.out)⟩⟩
  case round =>
   clear H'
   try clear c1
   try clear p2
   try clear c3
   try clear c3b0
   try clear c3b1
   try clear c3b2
   obtain ⟨x5_1, rfl, HA, HK1, HB⟩ := hrel
   cases gk with
   | zero => exact absurd HA.out (by simp [laws_eqBatchS.l0])
   | succ k1 =>
    have H := HA.out
    clear HA
    simp only [laws_eqBatchS.l0] at H
    by_cases c4 : x5_1 < (l0.length : Int)
    ·rw [if_pos c4] at H
     have c4b0 : decide (x5_1 < (l0.length : Int)) = true := decide_eq_true c4
     clear c4
     by_cases c5 : 0 ≤ x5_1
     ·rw [if_pos c5] at H
      have c5b0 : decide (0 ≤ x5_1) = true := decide_eq_true c5
      clear c5
      by_cases c6 : x5_1 < (l1.length : Int)
      ·rw [if_pos c6] at H
       have c6b0 : decide (x5_1 < (l1.length : Int)) = true := decide_eq_true c6
       clear c6
       replace H := Option.bind_eq_some_iff.mp H
       obtain ⟨t435, A70, H⟩ := H
       replace H : (if t435 = true then (laws_eqBatchS.l0 k1 l0 l1 (wrap64 (x5_1 + 1))) else (some false)) = some r := H
       have A7 := Aside0.mk A70
       clear A70
       by_cases c8 : t435 = true
       ·subst c8
        have H1 : (laws_eqBatchS.l0 k1 l0 l1 (wrap64 (x5_1 + 1))) = some r := by rw [if_pos rfl] at H; exact H
        clear H
        have H := H1
        clear H1
        have H' := Aside0.mk H
        clear H
        try go_wp2
        have n0_ := Aside0.mk (below_drew1 HB.out)
        clear HB
        have HB := n0_
        clear n0_
        have p433 : 0 ≤ (x5_1 : Int) := of_decide_eq_true (by first | (with_reducible assumption) | assumption)
        have q433 : x5_1 < (l0.length : Int) := of_decide_eq_true (by first | (with_reducible assumption) | assumption)
        obtain ⟨ad433, A433_5, c433_5, e433, hx433_0, hx433_1, hx433_2, hx433_3, hx433_4, hx433_5, hl433_5, hi433_5⟩ := at_T29 HR0.out x5_1 p433 q433
        have hw433_5 := hx433_5
        have hw433_4 := hx433_4
        have hw433_3 := hx433_3
        have hw433_2 := hx433_2
        have hw433_1 := hx433_1
        have hw433_0 := hx433_0
        cases e433
        replace hx433_0 := (HB.out.cell (World.block_lt_of_cell? w _ hx433_0)).trans hx433_0
        replace hx433_1 := (HB.out.cell (World.block_lt_of_cell? w _ hx433_1)).trans hx433_1
        replace hx433_2 := (HB.out.cell (World.block_lt_of_cell? w _ hx433_2)).trans hx433_2
        replace hx433_3 := (HB.out.cell (World.block_lt_of_cell? w _ hx433_3)).trans hx433_3
        replace hx433_4 := (HB.out.cell (World.block_lt_of_cell? w _ hx433_4)).trans hx433_4
        replace hx433_5 := (HB.out.cell (World.block_lt_of_cell? w _ hx433_5)).trans hx433_5
        have HR433_5 := Aside0.mk hi433_5
        have HC433_5 := Aside0.mk hl433_5
        clear hi433_5 hl433_5
        replace p433 := eq_true p433
        replace q433 := eq_true q433
        have p434 : 0 ≤ (x5_1 : Int) := of_decide_eq_true (by first | (with_reducible assumption) | assumption)
        have q434 : x5_1 < (l1.length : Int) := of_decide_eq_true (by first | (with_reducible assumption) | assumption)
        obtain ⟨ad434, A434_5, c434_5, e434, hx434_0, hx434_1, hx434_2, hx434_3, hx434_4, hx434_5, hl434_5, hi434_5⟩ := at_T29 HR1.out x5_1 p434 q434
        have hw434_5 := hx434_5
        have hw434_4 := hx434_4
        have hw434_3 := hx434_3
        have hw434_2 := hx434_2
        have hw434_1 := hx434_1
        have hw434_0 := hx434_0
        cases e434
        replace hx434_0 := (HB.out.cell (World.block_lt_of_cell? w _ hx434_0)).trans hx434_0
        replace hx434_1 := (HB.out.cell (World.block_lt_of_cell? w _ hx434_1)).trans hx434_1
        replace hx434_2 := (HB.out.cell (World.block_lt_of_cell? w _ hx434_2)).trans hx434_2
        replace hx434_3 := (HB.out.cell (World.block_lt_of_cell? w _ hx434_3)).trans hx434_3
        replace hx434_4 := (HB.out.cell (World.block_lt_of_cell? w _ hx434_4)).trans hx434_4
        replace hx434_5 := (HB.out.cell (World.block_lt_of_cell? w _ hx434_5)).trans hx434_5
        have HR434_5 := Aside0.mk hi434_5
        have HC434_5 := Aside0.mk hl434_5
        clear hi434_5 hl434_5
        replace p434 := eq_true p434
        replace q434 := eq_true q434
        refine start_ (n := 10) (S := fun w' => w'.cell? (ad433.add ((x5_1).toNat * 6)) = some (.bool ((rd_T29 l0 x5_1).f0)) ∧ w'.cell? ⟨(ad433.add ((x5_1).toNat * 6)).block, (ad433.add ((x5_1).toNat * 6)).off + 1, none⟩ = some (.bool ((rd_T29 l0 x5_1).f1)) ∧ w'.cell? ⟨(ad433.add ((x5_1).toNat * 6)).block, (ad433.add ((x5_1).toNat * 6)).off + 2, none⟩ = some (.int .i64 ((rd_T29 l0 x5_1).f2)) ∧ w'.cell? ⟨(ad433.add ((x5_1).toNat * 6)).block, (ad433.add ((x5_1).toNat * 6)).off + 3, none⟩ = some (.int .i64 ((rd_T29 l0 x5_1).f3)) ∧ w'.cell? ⟨(ad433.add ((x5_1).toNat * 6)).block, (ad433.add ((x5_1).toNat * 6)).off + 4, none⟩ = some (.int .i64 ((rd_T29 l0 x5_1).f4)) ∧ w'.cell? ⟨(ad433.add ((x5_1).toNat * 6)).block, (ad433.add ((x5_1).toNat * 6)).off + 5, none⟩ = some (.slice A433_5 ((rd_T29 l0 x5_1).f5).length c433_5) ∧ w'.cell? (ad434.add ((x5_1).toNat * 6)) = some (.bool ((rd_T29 l1 x5_1).f0)) ∧ w'.cell? ⟨(ad434.add ((x5_1).toNat * 6)).block, (ad434.add ((x5_1).toNat * 6)).off + 1, none⟩ = some (.bool ((rd_T29 l1 x5_1).f1)) ∧ w'.cell? ⟨(ad434.add ((x5_1).toNat * 6)).block, (ad434.add ((x5_1).toNat * 6)).off + 2, none⟩ = some (.int .i64 ((rd_T29 l1 x5_1).f2)) ∧ w'.cell? ⟨(ad434.add ((x5_1).toNat * 6)).block, (ad434.add ((x5_1).toNat * 6)).off + 3, none⟩ = some (.int .i64 ((rd_T29 l1 x5_1).f3)) ∧ w'.cell? ⟨(ad434.add ((x5_1).toNat * 6)).block, (ad434.add ((x5_1).toNat * 6)).off + 4, none⟩ = some (.int .i64 ((rd_T29 l1 x5_1).f4)) ∧ w'.cell? ⟨(ad434.add ((x5_1).toNat * 6)).block, (ad434.add ((x5_1).toNat * 6)).off + 5, none⟩ = some (.slice A434_5 ((rd_T29 l1 x5_1).f5).length c434_5)) (ds := []) #[false, false, false, false, false, false, false, false, false, false] (by kernel_rfl) rfl rfl ⟨((HB.out.cell (World.block_lt_of_cell? w _ hw433_0)).trans hw433_0), ((HB.out.cell (World.block_lt_of_cell? w _ hw433_1)).trans hw433_1), ((HB.out.cell (World.block_lt_of_cell? w _ hw433_2)).trans hw433_2), ((HB.out.cell (World.block_lt_of_cell? w _ hw433_3)).trans hw433_3), ((HB.out.cell (World.block_lt_of_cell? w _ hw433_4)).trans hw433_4), ((HB.out.cell (World.block_lt_of_cell? w _ hw433_5)).trans hw433_5), ((HB.out.cell (World.block_lt_of_cell? w _ hw434_0)).trans hw434_0), ((HB.out.cell (World.block_lt_of_cell? w _ hw434_1)).trans hw434_1), ((HB.out.cell (World.block_lt_of_cell? w _ hw434_2)).trans hw434_2), ((HB.out.cell (World.block_lt_of_cell? w _ hw434_3)).trans hw434_3), ((HB.out.cell (World.block_lt_of_cell? w _ hw434_4)).trans hw434_4), ((HB.out.cell (World.block_lt_of_cell? w _ hw434_5)).trans hw434_5)⟩ (fun hHeld => ?_); refine with_tabW laws_eqBatchS.tab6 laws_eqBatchS.bits6 (fun HT_ HW_ => ?_)
        generalize wr.drew = w9 at HB HR433_5 HR434_5 hx433_0 hx433_1 hx433_2 hx433_3 hx433_4 hx433_5 hx434_0 hx434_1 hx434_2 hx434_3 hx434_4 hx434_5 hHeld ⊢
        refine pure_ (i := 0) (N := some 17) (v := ?_) (a' := ?_) #[true, false, false, false, false, false, false, false, false, false] rfl rfl (any_of HT_.out (by kernel_rfl)) (fun _ _ _ h => h) (Or.inl ⟨by rfl, ?_⟩) ?_ ?_
        rotate_left
        ·intro w'
         go_simp
         with_reducible rfl
        rotate_left
        ·simp only [Act.put, List.setIfInBounds_toArray, List.set_cons_zero, List.set_cons_succ, i64_w, i32_w]
         rfl
        refine pure_ (i := 1) (N := some 18) (v := ?_) (a' := ?_) #[true, true, false, false, false, false, false, false, false, false] rfl rfl (any_of HT_.out (by kernel_rfl)) (fun _ _ _ h => h) (Or.inl ⟨by rfl, ?_⟩) ?_ ?_
        rotate_left
        ·intro w'
         go_simp
         with_reducible rfl
        rotate_left
        ·simp only [Act.put, List.setIfInBounds_toArray, List.set_cons_zero, List.set_cons_succ, i64_w, i32_w]
         rfl
        refine pure_ (i := 2) (N := some 19) (v := ?_) (a' := ?_) #[true, true, true, false, false, false, false, false, false, false] rfl rfl (any_of HT_.out (by kernel_rfl)) (fun _ _ _ h => h) (Or.inl ⟨by rfl, ?_⟩) ?_ ?_
        rotate_left
        ·intro w'
         go_simp
         with_reducible rfl
        rotate_left
        ·simp only [Act.put, List.setIfInBounds_toArray, List.set_cons_zero, List.set_cons_succ, i64_w, i32_w]
         rfl
        refine pure_ (i := 4) (N := some 21) (v := ?_) (a' := ?_) #[true, true, true, false, true, false, false, false, false, false] rfl rfl (any_of HT_.out (by kernel_rfl)) (fun _ _ _ h => h) (Or.inl ⟨by rfl, ?_⟩) ?_ ?_
        rotate_left
        ·intro w'
         go_simp
         with_reducible rfl
        rotate_left
        ·simp only [Act.put, List.setIfInBounds_toArray, List.set_cons_zero, List.set_cons_succ, i64_w, i32_w]
         rfl
        refine pure_ (i := 5) (N := some 22) (v := ?_) (a' := ?_) #[true, true, true, false, true, true, false, false, false, false] rfl rfl (any_of HT_.out (by kernel_rfl)) (fun _ _ _ h => h) (Or.inl ⟨by rfl, ?_⟩) ?_ ?_
        rotate_left
        ·intro w'
         go_simp
         with_reducible rfl
        rotate_left
        ·simp only [Act.put, List.setIfInBounds_toArray, List.set_cons_zero, List.set_cons_succ, i64_w, i32_w]
         rfl
        refine pure_ (i := 6) (N := some 23) (v := ?_) (a' := ?_) #[true, true, true, false, true, true, true, false, false, false] rfl rfl (any_of HT_.out (by kernel_rfl)) (fun _ _ _ h => h) (Or.inl ⟨by rfl, ?_⟩) ?_ ?_
        rotate_left
        ·intro w'
         go_simp
         with_reducible rfl
        rotate_left
        ·simp only [Act.put, List.setIfInBounds_toArray, List.set_cons_zero, List.set_cons_succ, i64_w, i32_w]
         rfl
        refine take_ (i := 3) (N := some 20) (v := ?_) (a' := ?_) #[true, true, true, true, true, true, true, false, false, false] rfl rfl (take_ofW HT_.out HW_.out (by kernel_rfl)) (fun _ _ _ h => h) (Or.inl ⟨by rfl, ?_⟩) hHeld ?_ ?_
        rotate_left
        ·rintro w' ⟨s0, s1, s2, s3, s4, s5, s6, s7, s8, s9, s10, s11⟩
         go_simp
         with_reducible rfl
        rotate_left
        ·simp only [Act.put, List.setIfInBounds_toArray, List.set_cons_zero, List.set_cons_succ, i64_w, i32_w]
         rfl
        refine take_ (i := 7) (N := some 24) (v := ?_) (a' := ?_) #[true, true, true, true, true, true, true, true, false, false] rfl rfl (take_ofW HT_.out HW_.out (by kernel_rfl)) (fun _ _ _ h => h) (Or.inl ⟨by rfl, ?_⟩) hHeld ?_ ?_
        rotate_left
        ·rintro w' ⟨s0, s1, s2, s3, s4, s5, s6, s7, s8, s9, s10, s11⟩
         go_simp
         with_reducible rfl
        rotate_left
        ·simp only [Act.put, List.setIfInBounds_toArray, List.set_cons_zero, List.set_cons_succ, i64_w, i32_w]
         rfl
        refine one_ (i := 8) (N := some 25) #[true, true, true, true, true, true, true, true, true, false] rfl rfl (one_of HT_.out (by kernel_rfl)) (by decide) (fun K hK => ?_)
        refine goes_ Try.func29 (by kernel_rfl) rfl #[.agg #[.bool ((rd_T29 l0 x5_1).f0), .bool ((rd_T29 l0 x5_1).f1), .int .i64 ((rd_T29 l0 x5_1).f2), .int .i64 ((rd_T29 l0 x5_1).f3), .int .i64 ((rd_T29 l0 x5_1).f4), .slice A433_5 ((rd_T29 l0 x5_1).f5).length c433_5], .agg #[.bool ((rd_T29 l1 x5_1).f0), .bool ((rd_T29 l1 x5_1).f1), .int .i64 ((rd_T29 l1 x5_1).f2), .int .i64 ((rd_T29 l1 x5_1).f3), .int .i64 ((rd_T29 l1 x5_1).f4), .slice A434_5 ((rd_T29 l1 x5_1).f5).length c434_5]] (by rfl) rfl rfl (by (try simp only [List.map_toArray, List.map_cons, List.map_nil]); first | done | rfl | (simp only [List.length_drop, List.length_take]; rfl)) ?_
        with_reducible refine (laws_eqBatch.calls k1 ((rd_T29 l0 x5_1).f0) ((rd_T29 l0 x5_1).f1) ((rd_T29 l0 x5_1).f2) ((rd_T29 l0 x5_1).f3) ((rd_T29 l0 x5_1).f4) _ _ ((rd_T29 l0 x5_1).f5) ((rd_T29 l1 x5_1).f0) ((rd_T29 l1 x5_1).f1) ((rd_T29 l1 x5_1).f2) ((rd_T29 l1 x5_1).f3) ((rd_T29 l1 x5_1).f4) _ _ ((rd_T29 l1 x5_1).f5) true _ ?side1 ?side2 ?side3 ?side4 A7.out).mono ?_
        (case side1 => repeat (first | exact (Kd.C_below HR433_5.out HB.out) | (with_reducible refine Kd.C_alloc ?_ _) | (with_reducible refine Kd.C_drewN ?_ _) | (with_reducible refine Kd.C_drew ?_)))
        (case side2 => exact HC433_5.out)
        (case side3 => repeat (first | exact (Kd.C_below HR434_5.out HB.out) | (with_reducible refine Kd.C_alloc ?_ _) | (with_reducible refine Kd.C_drewN ?_ _) | (with_reducible refine Kd.C_drew ?_)))
        (case side4 => exact HC434_5.out)
        rintro e w10 ⟨rfl, hb⟩
        refine ⟨_, rfl, ?_⟩
        have n0_ := Aside0.mk (below_step (by repeat (first | (with_reducible first | exact HB.out | apply below_alloc | apply pw_below_drewN | apply below_drew1) | exact HB.out)) hb)
        clear HB
        have HB := n0_
        clear n0_
        (try clear hb)
        (try clear hb2)
        (try clear hk)
        (try clear hi)
        refine hK.out _ _ ⟨((HB.out.cell (World.block_lt_of_cell? w _ hw433_0)).trans hw433_0), ((HB.out.cell (World.block_lt_of_cell? w _ hw433_1)).trans hw433_1), ((HB.out.cell (World.block_lt_of_cell? w _ hw433_2)).trans hw433_2), ((HB.out.cell (World.block_lt_of_cell? w _ hw433_3)).trans hw433_3), ((HB.out.cell (World.block_lt_of_cell? w _ hw433_4)).trans hw433_4), ((HB.out.cell (World.block_lt_of_cell? w _ hw433_5)).trans hw433_5), ((HB.out.cell (World.block_lt_of_cell? w _ hw434_0)).trans hw434_0), ((HB.out.cell (World.block_lt_of_cell? w _ hw434_1)).trans hw434_1), ((HB.out.cell (World.block_lt_of_cell? w _ hw434_2)).trans hw434_2), ((HB.out.cell (World.block_lt_of_cell? w _ hw434_3)).trans hw434_3), ((HB.out.cell (World.block_lt_of_cell? w _ hw434_4)).trans hw434_4), ((HB.out.cell (World.block_lt_of_cell? w _ hw434_5)).trans hw434_5)⟩ (fun hHeld => ?_)
        clear hK K
        refine norm_ (a' := ?_) ?_ ?_
        rotate_left
        ·show Act.put _ (some 25) _ = _
         simp only [Act.put, List.setIfInBounds_toArray, List.set_cons_zero, List.set_cons_succ, i64_w, i32_w]
         rfl
        refine pure_ (i := 9) (N := some 26) (v := ?_) (a' := ?_) #[true, true, true, true, true, true, true, true, true, true] rfl rfl (any_of HT_.out (by kernel_rfl)) (fun _ _ _ h => h) (Or.inl ⟨by rfl, ?_⟩) ?_ ?_
        rotate_left
        ·intro w'
         go_simp
         with_reducible rfl
        rotate_left
        ·simp only [Act.put, List.setIfInBounds_toArray, List.set_cons_zero, List.set_cons_succ, i64_w, i32_w]
         rfl
        refine done_ (done_of HT_.out (by kernel_rfl)) ?_
        try go_wp2
        go_roundg k1
        case measure => have := HK1.out; omega
        case rel => exact ⟨(wrap64 (x5_1 + 1)), (by first | rfl | (simp; done) | (simp [*]; done)), H', ⟨by have := HK1.out; omega⟩, ⟨by repeat (first | (with_reducible first | exact HB.out | apply below_alloc | apply pw_below_drewN | apply below_drew1) | exact HB.out)⟩⟩
       ·replace c8 := Bool.eq_false_iff.mpr c8
        subst c8
        have H1 : (some false) = some r := by rw [if_neg (show ¬ (false = true) by decide)] at H; exact H
        clear H
        have H := H1
        clear H1
        obtain rfl := Option.some.inj H
        try go_wp2
        have n0_ := Aside0.mk (below_drew1 HB.out)
        clear HB
        have HB := n0_
        clear n0_
        have p433 : 0 ≤ (x5_1 : Int) := of_decide_eq_true (by first | (with_reducible assumption) | assumption)
        have q433 : x5_1 < (l0.length : Int) := of_decide_eq_true (by first | (with_reducible assumption) | assumption)
        obtain ⟨ad433, A433_5, c433_5, e433, hx433_0, hx433_1, hx433_2, hx433_3, hx433_4, hx433_5, hl433_5, hi433_5⟩ := at_T29 HR0.out x5_1 p433 q433
        have hw433_5 := hx433_5
        have hw433_4 := hx433_4
        have hw433_3 := hx433_3
        have hw433_2 := hx433_2
        have hw433_1 := hx433_1
        have hw433_0 := hx433_0
        cases e433
        replace hx433_0 := (HB.out.cell (World.block_lt_of_cell? w _ hx433_0)).trans hx433_0
        replace hx433_1 := (HB.out.cell (World.block_lt_of_cell? w _ hx433_1)).trans hx433_1
        replace hx433_2 := (HB.out.cell (World.block_lt_of_cell? w _ hx433_2)).trans hx433_2
        replace hx433_3 := (HB.out.cell (World.block_lt_of_cell? w _ hx433_3)).trans hx433_3
        replace hx433_4 := (HB.out.cell (World.block_lt_of_cell? w _ hx433_4)).trans hx433_4
        replace hx433_5 := (HB.out.cell (World.block_lt_of_cell? w _ hx433_5)).trans hx433_5
        have HR433_5 := Aside0.mk hi433_5
        have HC433_5 := Aside0.mk hl433_5
        clear hi433_5 hl433_5
        replace p433 := eq_true p433
        replace q433 := eq_true q433
        have p434 : 0 ≤ (x5_1 : Int) := of_decide_eq_true (by first | (with_reducible assumption) | assumption)
        have q434 : x5_1 < (l1.length : Int) := of_decide_eq_true (by first | (with_reducible assumption) | assumption)
        obtain ⟨ad434, A434_5, c434_5, e434, hx434_0, hx434_1, hx434_2, hx434_3, hx434_4, hx434_5, hl434_5, hi434_5⟩ := at_T29 HR1.out x5_1 p434 q434
        have hw434_5 := hx434_5
        have hw434_4 := hx434_4
        have hw434_3 := hx434_3
        have hw434_2 := hx434_2
        have hw434_1 := hx434_1
        have hw434_0 := hx434_0
        cases e434
        replace hx434_0 := (HB.out.cell (World.block_lt_of_cell? w _ hx434_0)).trans hx434_0
        replace hx434_1 := (HB.out.cell (World.block_lt_of_cell? w _ hx434_1)).trans hx434_1
        replace hx434_2 := (HB.out.cell (World.block_lt_of_cell? w _ hx434_2)).trans hx434_2
        replace hx434_3 := (HB.out.cell (World.block_lt_of_cell? w _ hx434_3)).trans hx434_3
        replace hx434_4 := (HB.out.cell (World.block_lt_of_cell? w _ hx434_4)).trans hx434_4
        replace hx434_5 := (HB.out.cell (World.block_lt_of_cell? w _ hx434_5)).trans hx434_5
        have HR434_5 := Aside0.mk hi434_5
        have HC434_5 := Aside0.mk hl434_5
        clear hi434_5 hl434_5
        replace p434 := eq_true p434
        replace q434 := eq_true q434
        refine start_ (n := 10) (S := fun w' => w'.cell? (ad433.add ((x5_1).toNat * 6)) = some (.bool ((rd_T29 l0 x5_1).f0)) ∧ w'.cell? ⟨(ad433.add ((x5_1).toNat * 6)).block, (ad433.add ((x5_1).toNat * 6)).off + 1, none⟩ = some (.bool ((rd_T29 l0 x5_1).f1)) ∧ w'.cell? ⟨(ad433.add ((x5_1).toNat * 6)).block, (ad433.add ((x5_1).toNat * 6)).off + 2, none⟩ = some (.int .i64 ((rd_T29 l0 x5_1).f2)) ∧ w'.cell? ⟨(ad433.add ((x5_1).toNat * 6)).block, (ad433.add ((x5_1).toNat * 6)).off + 3, none⟩ = some (.int .i64 ((rd_T29 l0 x5_1).f3)) ∧ w'.cell? ⟨(ad433.add ((x5_1).toNat * 6)).block, (ad433.add ((x5_1).toNat * 6)).off + 4, none⟩ = some (.int .i64 ((rd_T29 l0 x5_1).f4)) ∧ w'.cell? ⟨(ad433.add ((x5_1).toNat * 6)).block, (ad433.add ((x5_1).toNat * 6)).off + 5, none⟩ = some (.slice A433_5 ((rd_T29 l0 x5_1).f5).length c433_5) ∧ w'.cell? (ad434.add ((x5_1).toNat * 6)) = some (.bool ((rd_T29 l1 x5_1).f0)) ∧ w'.cell? ⟨(ad434.add ((x5_1).toNat * 6)).block, (ad434.add ((x5_1).toNat * 6)).off + 1, none⟩ = some (.bool ((rd_T29 l1 x5_1).f1)) ∧ w'.cell? ⟨(ad434.add ((x5_1).toNat * 6)).block, (ad434.add ((x5_1).toNat * 6)).off + 2, none⟩ = some (.int .i64 ((rd_T29 l1 x5_1).f2)) ∧ w'.cell? ⟨(ad434.add ((x5_1).toNat * 6)).block, (ad434.add ((x5_1).toNat * 6)).off + 3, none⟩ = some (.int .i64 ((rd_T29 l1 x5_1).f3)) ∧ w'.cell? ⟨(ad434.add ((x5_1).toNat * 6)).block, (ad434.add ((x5_1).toNat * 6)).off + 4, none⟩ = some (.int .i64 ((rd_T29 l1 x5_1).f4)) ∧ w'.cell? ⟨(ad434.add ((x5_1).toNat * 6)).block, (ad434.add ((x5_1).toNat * 6)).off + 5, none⟩ = some (.slice A434_5 ((rd_T29 l1 x5_1).f5).length c434_5)) (ds := []) #[false, false, false, false, false, false, false, false, false, false] (by kernel_rfl) rfl rfl ⟨((HB.out.cell (World.block_lt_of_cell? w _ hw433_0)).trans hw433_0), ((HB.out.cell (World.block_lt_of_cell? w _ hw433_1)).trans hw433_1), ((HB.out.cell (World.block_lt_of_cell? w _ hw433_2)).trans hw433_2), ((HB.out.cell (World.block_lt_of_cell? w _ hw433_3)).trans hw433_3), ((HB.out.cell (World.block_lt_of_cell? w _ hw433_4)).trans hw433_4), ((HB.out.cell (World.block_lt_of_cell? w _ hw433_5)).trans hw433_5), ((HB.out.cell (World.block_lt_of_cell? w _ hw434_0)).trans hw434_0), ((HB.out.cell (World.block_lt_of_cell? w _ hw434_1)).trans hw434_1), ((HB.out.cell (World.block_lt_of_cell? w _ hw434_2)).trans hw434_2), ((HB.out.cell (World.block_lt_of_cell? w _ hw434_3)).trans hw434_3), ((HB.out.cell (World.block_lt_of_cell? w _ hw434_4)).trans hw434_4), ((HB.out.cell (World.block_lt_of_cell? w _ hw434_5)).trans hw434_5)⟩ (fun hHeld => ?_); refine with_tabW laws_eqBatchS.tab6 laws_eqBatchS.bits6 (fun HT_ HW_ => ?_)
        generalize wr.drew = w11 at HB HR433_5 HR434_5 hx433_0 hx433_1 hx433_2 hx433_3 hx433_4 hx433_5 hx434_0 hx434_1 hx434_2 hx434_3 hx434_4 hx434_5 hHeld ⊢
        refine pure_ (i := 0) (N := some 17) (v := ?_) (a' := ?_) #[true, false, false, false, false, false, false, false, false, false] rfl rfl (any_of HT_.out (by kernel_rfl)) (fun _ _ _ h => h) (Or.inl ⟨by rfl, ?_⟩) ?_ ?_
        rotate_left
        ·intro w'
         go_simp
         with_reducible rfl
        rotate_left
        ·simp only [Act.put, List.setIfInBounds_toArray, List.set_cons_zero, List.set_cons_succ, i64_w, i32_w]
         rfl
        refine pure_ (i := 1) (N := some 18) (v := ?_) (a' := ?_) #[true, true, false, false, false, false, false, false, false, false] rfl rfl (any_of HT_.out (by kernel_rfl)) (fun _ _ _ h => h) (Or.inl ⟨by rfl, ?_⟩) ?_ ?_
        rotate_left
        ·intro w'
         go_simp
         with_reducible rfl
        rotate_left
        ·simp only [Act.put, List.setIfInBounds_toArray, List.set_cons_zero, List.set_cons_succ, i64_w, i32_w]
         rfl
        refine pure_ (i := 2) (N := some 19) (v := ?_) (a' := ?_) #[true, true, true, false, false, false, false, false, false, false] rfl rfl (any_of HT_.out (by kernel_rfl)) (fun _ _ _ h => h) (Or.inl ⟨by rfl, ?_⟩) ?_ ?_
        rotate_left
        ·intro w'
         go_simp
         with_reducible rfl
        rotate_left
        ·simp only [Act.put, List.setIfInBounds_toArray, List.set_cons_zero, List.set_cons_succ, i64_w, i32_w]
         rfl
        refine pure_ (i := 4) (N := some 21) (v := ?_) (a' := ?_) #[true, true, true, false, true, false, false, false, false, false] rfl rfl (any_of HT_.out (by kernel_rfl)) (fun _ _ _ h => h) (Or.inl ⟨by rfl, ?_⟩) ?_ ?_
        rotate_left
        ·intro w'
         go_simp
         with_reducible rfl
        rotate_left
        ·simp only [Act.put, List.setIfInBounds_toArray, List.set_cons_zero, List.set_cons_succ, i64_w, i32_w]
         rfl
        refine pure_ (i := 5) (N := some 22) (v := ?_) (a' := ?_) #[true, true, true, false, true, true, false, false, false, false] rfl rfl (any_of HT_.out (by kernel_rfl)) (fun _ _ _ h => h) (Or.inl ⟨by rfl, ?_⟩) ?_ ?_
        rotate_left
        ·intro w'
         go_simp
         with_reducible rfl
        rotate_left
        ·simp only [Act.put, List.setIfInBounds_toArray, List.set_cons_zero, List.set_cons_succ, i64_w, i32_w]
         rfl
        refine pure_ (i := 6) (N := some 23) (v := ?_) (a' := ?_) #[true, true, true, false, true, true, true, false, false, false] rfl rfl (any_of HT_.out (by kernel_rfl)) (fun _ _ _ h => h) (Or.inl ⟨by rfl, ?_⟩) ?_ ?_
        rotate_left
        ·intro w'
         go_simp
         with_reducible rfl
        rotate_left
        ·simp only [Act.put, List.setIfInBounds_toArray, List.set_cons_zero, List.set_cons_succ, i64_w, i32_w]
         rfl
        refine take_ (i := 3) (N := some 20) (v := ?_) (a' := ?_) #[true, true, true, true, true, true, true, false, false, false] rfl rfl (take_ofW HT_.out HW_.out (by kernel_rfl)) (fun _ _ _ h => h) (Or.inl ⟨by rfl, ?_⟩) hHeld ?_ ?_
        rotate_left
        ·rintro w' ⟨s0, s1, s2, s3, s4, s5, s6, s7, s8, s9, s10, s11⟩
         go_simp
         with_reducible rfl
        rotate_left
        ·simp only [Act.put, List.setIfInBounds_toArray, List.set_cons_zero, List.set_cons_succ, i64_w, i32_w]
         rfl
        refine take_ (i := 7) (N := some 24) (v := ?_) (a' := ?_) #[true, true, true, true, true, true, true, true, false, false] rfl rfl (take_ofW HT_.out HW_.out (by kernel_rfl)) (fun _ _ _ h => h) (Or.inl ⟨by rfl, ?_⟩) hHeld ?_ ?_
        rotate_left
        ·rintro w' ⟨s0, s1, s2, s3, s4, s5, s6, s7, s8, s9, s10, s11⟩
         go_simp
         with_reducible rfl
        rotate_left
        ·simp only [Act.put, List.setIfInBounds_toArray, List.set_cons_zero, List.set_cons_succ, i64_w, i32_w]
         rfl
        refine one_ (i := 8) (N := some 25) #[true, true, true, true, true, true, true, true, true, false] rfl rfl (one_of HT_.out (by kernel_rfl)) (by decide) (fun K hK => ?_)
        refine goes_ Try.func29 (by kernel_rfl) rfl #[.agg #[.bool ((rd_T29 l0 x5_1).f0), .bool ((rd_T29 l0 x5_1).f1), .int .i64 ((rd_T29 l0 x5_1).f2), .int .i64 ((rd_T29 l0 x5_1).f3), .int .i64 ((rd_T29 l0 x5_1).f4), .slice A433_5 ((rd_T29 l0 x5_1).f5).length c433_5], .agg #[.bool ((rd_T29 l1 x5_1).f0), .bool ((rd_T29 l1 x5_1).f1), .int .i64 ((rd_T29 l1 x5_1).f2), .int .i64 ((rd_T29 l1 x5_1).f3), .int .i64 ((rd_T29 l1 x5_1).f4), .slice A434_5 ((rd_T29 l1 x5_1).f5).length c434_5]] (by rfl) rfl rfl (by (try simp only [List.map_toArray, List.map_cons, List.map_nil]); first | done | rfl | (simp only [List.length_drop, List.length_take]; rfl)) ?_
        with_reducible refine (laws_eqBatch.calls k1 ((rd_T29 l0 x5_1).f0) ((rd_T29 l0 x5_1).f1) ((rd_T29 l0 x5_1).f2) ((rd_T29 l0 x5_1).f3) ((rd_T29 l0 x5_1).f4) _ _ ((rd_T29 l0 x5_1).f5) ((rd_T29 l1 x5_1).f0) ((rd_T29 l1 x5_1).f1) ((rd_T29 l1 x5_1).f2) ((rd_T29 l1 x5_1).f3) ((rd_T29 l1 x5_1).f4) _ _ ((rd_T29 l1 x5_1).f5) false _ ?side1 ?side2 ?side3 ?side4 A7.out).mono ?_
        (case side1 => repeat (first | exact (Kd.C_below HR433_5.out HB.out) | (with_reducible refine Kd.C_alloc ?_ _) | (with_reducible refine Kd.C_drewN ?_ _) | (with_reducible refine Kd.C_drew ?_)))
        (case side2 => exact HC433_5.out)
        (case side3 => repeat (first | exact (Kd.C_below HR434_5.out HB.out) | (with_reducible refine Kd.C_alloc ?_ _) | (with_reducible refine Kd.C_drewN ?_ _) | (with_reducible refine Kd.C_drew ?_)))
        (case side4 => exact HC434_5.out)
        rintro e w12 ⟨rfl, hb⟩
        refine ⟨_, rfl, ?_⟩
        have n0_ := Aside0.mk (below_step (by repeat (first | (with_reducible first | exact HB.out | apply below_alloc | apply pw_below_drewN | apply below_drew1) | exact HB.out)) hb)
        clear HB
        have HB := n0_
        clear n0_
        (try clear hb)
        (try clear hb2)
        (try clear hk)
        (try clear hi)
        refine hK.out _ _ ⟨((HB.out.cell (World.block_lt_of_cell? w _ hw433_0)).trans hw433_0), ((HB.out.cell (World.block_lt_of_cell? w _ hw433_1)).trans hw433_1), ((HB.out.cell (World.block_lt_of_cell? w _ hw433_2)).trans hw433_2), ((HB.out.cell (World.block_lt_of_cell? w _ hw433_3)).trans hw433_3), ((HB.out.cell (World.block_lt_of_cell? w _ hw433_4)).trans hw433_4), ((HB.out.cell (World.block_lt_of_cell? w _ hw433_5)).trans hw433_5), ((HB.out.cell (World.block_lt_of_cell? w _ hw434_0)).trans hw434_0), ((HB.out.cell (World.block_lt_of_cell? w _ hw434_1)).trans hw434_1), ((HB.out.cell (World.block_lt_of_cell? w _ hw434_2)).trans hw434_2), ((HB.out.cell (World.block_lt_of_cell? w _ hw434_3)).trans hw434_3), ((HB.out.cell (World.block_lt_of_cell? w _ hw434_4)).trans hw434_4), ((HB.out.cell (World.block_lt_of_cell? w _ hw434_5)).trans hw434_5)⟩ (fun hHeld => ?_)
        clear hK K
        refine norm_ (a' := ?_) ?_ ?_
        rotate_left
        ·show Act.put _ (some 25) _ = _
         simp only [Act.put, List.setIfInBounds_toArray, List.set_cons_zero, List.set_cons_succ, i64_w, i32_w]
         rfl
        refine pure_ (i := 9) (N := some 26) (v := ?_) (a' := ?_) #[true, true, true, true, true, true, true, true, true, true] rfl rfl (any_of HT_.out (by kernel_rfl)) (fun _ _ _ h => h) (Or.inl ⟨by rfl, ?_⟩) ?_ ?_
        rotate_left
        ·intro w'
         go_simp
         with_reducible rfl
        rotate_left
        ·simp only [Act.put, List.setIfInBounds_toArray, List.set_cons_zero, List.set_cons_succ, i64_w, i32_w]
         rfl
        refine done_ (done_of HT_.out (by kernel_rfl)) ?_
        try go_wp2
        go_ret
        exact ⟨by first | rfl | (simp [errW_none, errW_some] <;> rfl) | (simp [*, errW_none, errW_some] <;> rfl), by repeat (first | (with_reducible first | exact HB.out | apply below_alloc | apply pw_below_drewN | apply below_drew1) | exact HB.out)⟩
      ·rw [if_neg c6] at H
       exact absurd H (by simp)
     ·rw [if_neg c5] at H
      exact absurd H (by simp)
    ·rw [if_neg c4] at H
     have c4b0 : decide (x5_1 < (l0.length : Int)) = false := decide_eq_false c4
     clear c4
     obtain rfl := Option.some.inj H
     go_wp2
     go_ret
     exact ⟨by first | rfl | (simp [errW_none, errW_some] <;> rfl) | (simp [*, errW_none, errW_some] <;> rfl), by repeat (first | (with_reducible first | exact HB.out | apply below_alloc | apply pw_below_drewN | apply below_drew1) | exact HB.out)⟩
 ·rw [if_neg c3] at H
  have c3b0 : ((l0.length : Int) == (l1.length : Int)) = false := beq_eq_false_iff_ne.mpr c3
  have c3b1 : ((l0.length : Int) != (l1.length : Int)) = true := bne_iff_ne.mpr c3
  have c3b2 : (l0.length == l1.length) = false := by first | simpa using c3 | (simp at c3 ⊢; omega)
  obtain rfl := Option.some.inj H
  go_enter Try.func14, Try.ntmps14
  go_wp2
  go_ret
  exact ⟨by first | rfl | (simp [errW_none, errW_some] <;> rfl) | (simp [*, errW_none, errW_some] <;> rfl), by repeat (first | (with_reducible first | exact HB.out | apply below_alloc | apply pw_below_drewN | apply below_drew1) | exact HB.out)⟩

def laws_FnExactKeepTime.f (k : Nat) (l0 : List (S58)) (a1 : Int) : Option (Bool) := (laws_szBatchS.f k l0 1048576).bind fun t436 => (if t436 < 0 then (some true) else ((laws_toBatchS.f k l0).bind fun t437 => ((spec_KeepTime.f k t437 a1).bind fun t440 => ((laws_toBatchS.f k l0).bind fun t441 => ((impl_KeepTime.f k t441 a1).bind fun t444 => (if t444 = t440 then ((laws_toBatchS.f k l0).bind fun t445 => ((laws_eqBatchS.f k t441 t445).bind fun t448 => (if t448 = true then (some true) else (some false)))) else (some false)))))))
set_option maxHeartbeats 8000000 in
set_option maxRecDepth 100000 in
theorem laws_FnExactKeepTime.calls (k : Nat) (A0 : Option Addr) (c0 : Nat) (l0 : List (S58)) (a1 : Int) (r : Bool) (w : World) (hr0 : Kd.C k58 w A0 l0.length l0) (hc0 : l0.length ≤ c0) (h : laws_FnExactKeepTime.f k l0 a1 = some r) :
  Calls Try.prog 6 #[.slice A0 l0.length c0, .int .i64 a1] w fun e w' => e = .returned (.bool r) ∧ Below w.heap.size w w' := by
 have HR0 := Aside0.mk hr0
 have HC0 := Aside0.mk hc0
 clear hr0 hc0
 have HB := Aside0.mk (Below.refl w.heap.size w)
 have H : ((laws_szBatchS.f k l0 1048576).bind fun t436 => (if t436 < 0 then (some true) else ((laws_toBatchS.f k l0).bind fun t437 => ((spec_KeepTime.f k t437 a1).bind fun t440 => ((laws_toBatchS.f k l0).bind fun t441 => ((impl_KeepTime.f k t441 a1).bind fun t444 => (if t444 = t440 then ((laws_toBatchS.f k l0).bind fun t445 => ((laws_eqBatchS.f k t441 t445).bind fun t448 => (if t448 = true then (some true) else (some false)))) else (some false)))))))) = some r := h
 clear h
 replace H := Option.bind_eq_some_iff.mp H
 obtain ⟨t436, A30, H⟩ := H
 replace H : (if t436 < 0 then (some true) else ((laws_toBatchS.f k l0).bind fun t437 => ((spec_KeepTime.f k t437 a1).bind fun t440 => ((laws_toBatchS.f k l0).bind fun t441 => ((impl_KeepTime.f k t441 a1).bind fun t444 => (if t444 = t440 then ((laws_toBatchS.f k l0).bind fun t445 => ((laws_eqBatchS.f k t441 t445).bind fun t448 => (if t448 = true then (some true) else (some false)))) else (some false))))))) = some r := H
 have A3 := Aside0.mk A30
 clear A30
 by_cases c4 : t436 < 0
 ·rw [if_pos c4] at H
  have c4b0 : decide (t436 < 0) = true := decide_eq_true c4
  clear c4
  obtain rfl := Option.some.inj H
  go_enter Try.func6, Try.ntmps6
  go_wp2_with (first | ((with_reducible refine gate_callee (f := 12) rfl ?_); refine goesL_ (some 11) rfl rfl Try.func12 (by kernel_rfl) rfl #[.slice A0 l0.length c0, .int .i64 1048576] rfl (by (try simp only [List.map_toArray, List.map_cons, List.map_nil]); first | done | rfl | (simp only [List.length_drop, List.length_take]; rfl)) ?_; (with_reducible refine (laws_szBatchS.calls k _ _ l0 1048576 t436 _ ?side1 ?side2 A3.out).mono ?_); (case side1 => repeat (first | exact HR0.out | (with_reducible refine Kd.C_alloc ?_ _) | (with_reducible refine Kd.C_drewN ?_ _) | (with_reducible refine Kd.C_drew ?_))); (case side2 => exact HC0.out); rintro e w5 ⟨rfl, hb⟩; refine ⟨_, rfl, ?_⟩; have n0_ := Aside0.mk (below_step (by repeat (first | (with_reducible first | exact HB.out | apply below_alloc | apply pw_below_drewN | apply below_drew1) | exact HB.out)) hb); clear HB; have HB := n0_; clear n0_; (try clear hb); (try clear hb2); (try clear hk); (try clear hi)))
  all_goals go_ret
  all_goals exact ⟨by first | rfl | (simp [errW_none, errW_some] <;> rfl) | (simp [*, errW_none, errW_some] <;> rfl), by repeat (first | (with_reducible first | exact HB.out | apply below_alloc | apply pw_below_drewN | apply below_drew1) | exact HB.out)⟩
 ·rw [if_neg c4] at H
  have c4b0 : decide (t436 < 0) = false := decide_eq_false c4
  clear c4
  replace H := Option.bind_eq_some_iff.mp H
  obtain ⟨t437, A60, H⟩ := H
  replace H : ((spec_KeepTime.f k t437 a1).bind fun t440 => ((laws_toBatchS.f k l0).bind fun t441 => ((impl_KeepTime.f k t441 a1).bind fun t444 => (if t444 = t440 then ((laws_toBatchS.f k l0).bind fun t445 => ((laws_eqBatchS.f k t441 t445).bind fun t448 => (if t448 = true then (some true) else (some false)))) else (some false))))) = some r := H
  have A6 := Aside0.mk A60
  clear A60
  replace H := Option.bind_eq_some_iff.mp H
  obtain ⟨t440, A70, H⟩ := H
  replace H : ((laws_toBatchS.f k l0).bind fun t441 => ((impl_KeepTime.f k t441 a1).bind fun t444 => (if t444 = t440 then ((laws_toBatchS.f k l0).bind fun t445 => ((laws_eqBatchS.f k t441 t445).bind fun t448 => (if t448 = true then (some true) else (some false)))) else (some false)))) = some r := H
  have A7 := Aside0.mk A70
  clear A70
  replace H := Option.bind_eq_some_iff.mp H
  obtain ⟨t441, A80, H⟩ := H
  replace H : ((impl_KeepTime.f k t441 a1).bind fun t444 => (if t444 = t440 then ((laws_toBatchS.f k l0).bind fun t445 => ((laws_eqBatchS.f k t441 t445).bind fun t448 => (if t448 = true then (some true) else (some false)))) else (some false))) = some r := H
  have A8 := Aside0.mk A80
  clear A80
  replace H := Option.bind_eq_some_iff.mp H
  obtain ⟨t444, A90, H⟩ := H
  replace H : (if t444 = t440 then ((laws_toBatchS.f k l0).bind fun t445 => ((laws_eqBatchS.f k t441 t445).bind fun t448 => (if t448 = true then (some true) else (some false)))) else (some false)) = some r := H
  have A9 := Aside0.mk A90
  clear A90
  by_cases c10 : t444 = t440
  ·rw [if_pos c10] at H
   have c10b0 : (t444 == t440) = true := beq_iff_eq.mpr c10
   have c10b1 : (t444 != t440) = false := bne_eq_false_iff_eq.mpr c10
   clear c10
   replace H := Option.bind_eq_some_iff.mp H
   obtain ⟨t445, A110, H⟩ := H
   replace H : ((laws_eqBatchS.f k t441 t445).bind fun t448 => (if t448 = true then (some true) else (some false))) = some r := H
   have A11 := Aside0.mk A110
   clear A110
   replace H := Option.bind_eq_some_iff.mp H
   obtain ⟨t448, A120, H⟩ := H
   replace H : (if t448 = true then (some true) else (some false)) = some r := H
   have A12 := Aside0.mk A120
   clear A120
   by_cases c13 : t448 = true
   ·subst c13
    have H1 : (some true) = some r := by rw [if_pos rfl] at H; exact H
    clear H
    have H := H1
    clear H1
    obtain rfl := Option.some.inj H
    go_enter Try.func6, Try.ntmps6
    go_wp2_with (first | ((with_reducible refine gate_callee (f := 12) rfl ?_); refine goesL_ (some 11) rfl rfl Try.func12 (by kernel_rfl) rfl #[.slice A0 l0.length c0, .int .i64 1048576] rfl (by (try simp only [List.map_toArray, List.map_cons, List.map_nil]); first | done | rfl | (simp only [List.length_drop, List.length_take]; rfl)) ?_; (with_reducible refine (laws_szBatchS.calls k _ _ l0 1048576 t436 _ ?side1 ?side2 A3.out).mono ?_); (case side1 => repeat (first | exact HR0.out | (with_reducible refine Kd.C_alloc ?_ _) | (with_reducible refine Kd.C_drewN ?_ _) | (with_reducible refine Kd.C_drew ?_))); (case side2 => exact HC0.out); rintro e w14 ⟨rfl, hb⟩; refine ⟨_, rfl, ?_⟩; have n0_ := Aside0.mk (below_step (by repeat (first | (with_reducible first | exact HB.out | apply below_alloc | apply pw_below_drewN | apply below_drew1) | exact HB.out)) hb); clear HB; have HB := n0_; clear n0_; (try clear hb); (try clear hb2); (try clear hk); (try clear hi)) | ((with_reducible refine gate_callee (f := 13) rfl ?_); refine goesL_ (some 15) rfl rfl Try.func13 (by kernel_rfl) rfl #[.slice A0 l0.length c0] rfl (by (try simp only [List.map_toArray, List.map_cons, List.map_nil]); first | done | rfl | (simp only [List.length_drop, List.length_take]; rfl)) ?_; (with_reducible refine (laws_toBatchS.calls k _ _ l0 t437 _ ?side1 ?side2 A6.out).mono ?_); (case side1 => repeat (first | exact (Kd.C_below HR0.out HB.out) | (with_reducible refine Kd.C_alloc ?_ _) | (with_reducible refine Kd.C_drewN ?_ _) | (with_reducible refine Kd.C_drew ?_))); (case side2 => exact HC0.out); rintro e w15 ⟨v438, rfl, ho0, hb⟩; have u_v438 : ∀ (a_ : Addr) (m_ : Mode) (W_ : World), (store a_ v438 m_).run Try.prog W_ = stored Try.prog W_ a_ v438 m_ := fun a_ m_ W_ => run_store _ W_ a_ _ m_ (by first | (obtain ⟨_, _, e_⟩ := Kd.R_slice ho0; rw [e_]; rfl) | (obtain ⟨_, _, e_⟩ := Kd.S_slice ho0; rw [e_]; rfl) | (obtain ⟨_, _, e_, _⟩ := Kd.Q_slice ho0; rw [e_]; rfl) | (obtain ⟨_, _, e_⟩ := Kd.N_slice ho0; rw [e_]; rfl) | (obtain ⟨_, _, e_⟩ := Kd.V_slice ho0; rw [e_]; rfl)); refine ⟨_, rfl, ?_⟩; have n0_ := Aside0.mk (Kd.R_lower ho0 (below_size (by repeat (first | (with_reducible first | exact HB.out | apply below_alloc | apply pw_below_drewN | apply below_drew1) | exact HB.out)))); have n1_ := Aside0.mk (below_step (by repeat (first | (with_reducible first | exact HB.out | apply below_alloc | apply pw_below_drewN | apply below_drew1) | exact HB.out)) hb); clear HB; have HO439 := n0_; have HB := n1_; clear n0_ n1_; (try clear hb); (try clear hb2); (try clear hk); (try clear hi); (try clear ho0); obtain ⟨Ao16, co16, eo16⟩ := Kd.R_slice HO439.out; subst eo16) | ((with_reducible refine gate_callee (f := 9) rfl ?_); refine goesL_ (some 17) rfl rfl Try.func9 (by kernel_rfl) rfl #[.slice Ao16 t437.length co16, .int .i64 a1] rfl (by (try simp only [List.map_toArray, List.map_cons, List.map_nil]); first | done | rfl | (simp only [List.length_drop, List.length_take]; rfl)) ?_; (with_reducible refine (spec_KeepTime.calls k _ _ t437 a1 t440 _ ?side1 ?side2 A7.out).mono ?_); (case side1 => repeat (first | exact (Kd.R_reads' HO439.out).2.2 | (with_reducible refine Kd.C_alloc ?_ _) | (with_reducible refine Kd.C_drewN ?_ _) | (with_reducible refine Kd.C_drew ?_))); (case side2 => exact (Kd.R_reads' HO439.out).2.1); rintro e w17 ⟨rfl, hb⟩; refine ⟨_, rfl, ?_⟩; have n0_ := Aside0.mk (Kd.R_below (by (with_reducible repeat (first | apply Kd.R_alloc | apply Kd.R_drewN | apply Kd.R_drew)); exact HO439.out) hb); have n1_ := Aside0.mk (below_step (by repeat (first | (with_reducible first | exact HB.out | apply below_alloc | apply pw_below_drewN | apply below_drew1) | exact HB.out)) hb); clear HO439; clear HB; have HO439 := n0_; have HB := n1_; clear n0_ n1_; (try clear hb); (try clear hb2); (try clear hk); (try clear hi)) | ((with_reducible refine gate_callee (f := 13) rfl ?_); refine goesL_ (some 19) rfl rfl Try.func13 (by kernel_rfl) rfl #[.slice A0 l0.length c0] rfl (by (try simp only [List.map_toArray, List.map_cons, List.map_nil]); first | done | rfl | (simp only [List.length_drop, List.length_take]; rfl)) ?_; (with_reducible refine (laws_toBatchS.calls k _ _ l0 t441 _ ?side1 ?side2 A8.out).mono ?_); (case side1 => repeat (first | exact (Kd.C_below HR0.out HB.out) | (with_reducible refine Kd.C_alloc ?_ _) | (with_reducible refine Kd.C_drewN ?_ _) | (with_reducible refine Kd.C_drew ?_))); (case side2 => exact HC0.out); rintro e w18 ⟨v442, rfl, ho0, hb⟩; have u_v442 : ∀ (a_ : Addr) (m_ : Mode) (W_ : World), (store a_ v442 m_).run Try.prog W_ = stored Try.prog W_ a_ v442 m_ := fun a_ m_ W_ => run_store _ W_ a_ _ m_ (by first | (obtain ⟨_, _, e_⟩ := Kd.R_slice ho0; rw [e_]; rfl) | (obtain ⟨_, _, e_⟩ := Kd.S_slice ho0; rw [e_]; rfl) | (obtain ⟨_, _, e_, _⟩ := Kd.Q_slice ho0; rw [e_]; rfl) | (obtain ⟨_, _, e_⟩ := Kd.N_slice ho0; rw [e_]; rfl) | (obtain ⟨_, _, e_⟩ := Kd.V_slice ho0; rw [e_]; rfl)); refine ⟨_, rfl, ?_⟩; have n0_ := Aside0.mk (Kd.R_elder' (by (with_reducible repeat (first | apply Kd.R_alloc | apply Kd.R_drewN | apply Kd.R_drew)); exact HO439.out) (Kd.R_base ho0) hb); have n1_ := Aside0.mk (Kd.R_lower (Kd.R_new' ho0 (Kd.R_lt (by (with_reducible repeat (first | apply Kd.R_alloc | apply Kd.R_drewN | apply Kd.R_drew)); exact HO439.out))) (below_size (by repeat (first | (with_reducible first | exact HB.out | apply below_alloc | apply pw_below_drewN | apply below_drew1) | exact HB.out)))); have n2_ := Aside0.mk (below_step (by repeat (first | (with_reducible first | exact HB.out | apply below_alloc | apply pw_below_drewN | apply below_drew1) | exact HB.out)) hb); clear HO439; clear HB; have HO439 := n0_; have HO443 := n1_; have HB := n2_; clear n0_ n1_ n2_; (try clear hb); (try clear hb2); (try clear hk); (try clear hi); (try clear ho0); obtain ⟨Ao19, co19, eo19⟩ := Kd.R_slice HO443.out; subst eo19) | ((with_reducible refine gate_callee (f := 8) rfl ?_); refine goesL_ (some 22) rfl rfl Try.func8 (by kernel_rfl) rfl #[.slice Ao19 t441.length co19, .int .i64 a1] rfl (by (try simp only [List.map_toArray, List.map_cons, List.map_nil]); first | done | rfl | (simp only [List.length_drop, List.length_take]; rfl)) ?_; (with_reducible refine (impl_KeepTime.calls k _ _ t441 a1 t444 _ ?side1 ?side2 A9.out).mono ?_); (case side1 => repeat (first | exact (Kd.R_reads' HO443.out).2.2 | (with_reducible refine Kd.C_alloc ?_ _) | (with_reducible refine Kd.C_drewN ?_ _) | (with_reducible refine Kd.C_drew ?_))); (case side2 => exact (Kd.R_reads' HO443.out).2.1); rintro e w20 ⟨rfl, hb⟩; refine ⟨_, rfl, ?_⟩; have n0_ := Aside0.mk (Kd.R_below (by (with_reducible repeat (first | apply Kd.R_alloc | apply Kd.R_drewN | apply Kd.R_drew)); exact HO439.out) hb); have n1_ := Aside0.mk (Kd.R_below (by (with_reducible repeat (first | apply Kd.R_alloc | apply Kd.R_drewN | apply Kd.R_drew)); exact HO443.out) hb); have n2_ := Aside0.mk (below_step (by repeat (first | (with_reducible first | exact HB.out | apply below_alloc | apply pw_below_drewN | apply below_drew1) | exact HB.out)) hb); clear HO439; clear HO443; clear HB; have HO439 := n0_; have HO443 := n1_; have HB := n2_; clear n0_ n1_ n2_; (try clear hb); (try clear hb2); (try clear hk); (try clear hi)) | ((with_reducible refine gate_callee (f := 13) rfl ?_); refine goesL_ (some 28) rfl rfl Try.func13 (by kernel_rfl) rfl #[.slice A0 l0.length c0] rfl (by (try simp only [List.map_toArray, List.map_cons, List.map_nil]); first | done | rfl | (simp only [List.length_drop, List.length_take]; rfl)) ?_; (with_reducible refine (laws_toBatchS.calls k _ _ l0 t445 _ ?side1 ?side2 A11.out).mono ?_); (case side1 => repeat (first | exact (Kd.C_below HR0.out HB.out) | (with_reducible refine Kd.C_alloc ?_ _) | (with_reducible refine Kd.C_drewN ?_ _) | (with_reducible refine Kd.C_drew ?_))); (case side2 => exact HC0.out); rintro e w21 ⟨v446, rfl, ho0, hb⟩; have u_v446 : ∀ (a_ : Addr) (m_ : Mode) (W_ : World), (store a_ v446 m_).run Try.prog W_ = stored Try.prog W_ a_ v446 m_ := fun a_ m_ W_ => run_store _ W_ a_ _ m_ (by first | (obtain ⟨_, _, e_⟩ := Kd.R_slice ho0; rw [e_]; rfl) | (obtain ⟨_, _, e_⟩ := Kd.S_slice ho0; rw [e_]; rfl) | (obtain ⟨_, _, e_, _⟩ := Kd.Q_slice ho0; rw [e_]; rfl) | (obtain ⟨_, _, e_⟩ := Kd.N_slice ho0; rw [e_]; rfl) | (obtain ⟨_, _, e_⟩ := Kd.V_slice ho0; rw [e_]; rfl)); refine ⟨_, rfl, ?_⟩; have n0_ := Aside0.mk (Kd.R_elder' (by (with_reducible repeat (first | apply Kd.R_alloc | apply Kd.R_drewN | apply Kd.R_drew)); exact HO439.out) (Kd.R_base ho0) hb); have n1_ := Aside0.mk (Kd.R_elder' (by (with_reducible repeat (first | apply Kd.R_alloc | apply Kd.R_drewN | apply Kd.R_drew)); exact HO443.out) (Kd.R_base ho0) hb); have n2_ := Aside0.mk (Kd.R_lower (Kd.R_new' (Kd.R_new' ho0 (Kd.R_lt (by (with_reducible repeat (first | apply Kd.R_alloc | apply Kd.R_drewN | apply Kd.R_drew)); exact HO439.out))) (Kd.R_lt (by (with_reducible repeat (first | apply Kd.R_alloc | apply Kd.R_drewN | apply Kd.R_drew)); exact HO443.out))) (below_size (by repeat (first | (with_reducible first | exact HB.out | apply below_alloc | apply pw_below_drewN | apply below_drew1) | exact HB.out)))); have n3_ := Aside0.mk (below_step (by repeat (first | (with_reducible first | exact HB.out | apply below_alloc | apply pw_below_drewN | apply below_drew1) | exact HB.out)) hb); clear HO439; clear HO443; clear HB; have HO439 := n0_; have HO443 := n1_; have HO447 := n2_; have HB := n3_; clear n0_ n1_ n2_ n3_; (try clear hb); (try clear hb2); (try clear hk); (try clear hi); (try clear ho0); obtain ⟨Ao22, co22, eo22⟩ := Kd.R_slice HO447.out; subst eo22) | ((with_reducible refine gate_callee (f := 14) rfl ?_); refine goesL_ (some 29) rfl rfl Try.func14 (by kernel_rfl) rfl #[.slice Ao19 t441.length co19, .slice Ao22 t445.length co22] rfl (by (try simp only [List.map_toArray, List.map_cons, List.map_nil]); first | done | rfl | (simp only [List.length_drop, List.length_take]; rfl)) ?_; (with_reducible refine (laws_eqBatchS.calls k _ _ t441 _ _ t445 true _ ?side1 ?side2 ?side3 ?side4 A12.out).mono ?_); (case side1 => repeat (first | exact (Kd.R_reads' HO443.out).2.2 | (with_reducible refine Kd.C_alloc ?_ _) | (with_reducible refine Kd.C_drewN ?_ _) | (with_reducible refine Kd.C_drew ?_))); (case side2 => exact (Kd.R_reads' HO443.out).2.1); (case side3 => repeat (first | exact (Kd.R_reads' HO447.out).2.2 | (with_reducible refine Kd.C_alloc ?_ _) | (with_reducible refine Kd.C_drewN ?_ _) | (with_reducible refine Kd.C_drew ?_))); (case side4 => exact (Kd.R_reads' HO447.out).2.1); rintro e w23 ⟨rfl, hb⟩; refine ⟨_, rfl, ?_⟩; have n0_ := Aside0.mk (Kd.R_below (by (with_reducible repeat (first | apply Kd.R_alloc | apply Kd.R_drewN | apply Kd.R_drew)); exact HO439.out) hb); have n1_ := Aside0.mk (Kd.R_below (by (with_reducible repeat (first | apply Kd.R_alloc | apply Kd.R_drewN | apply Kd.R_drew)); exact HO443.out) hb); have n2_ := Aside0.mk (Kd.R_below (by (with_reducible repeat (first | apply Kd.R_alloc | apply Kd.R_drewN | apply Kd.R_drew)); exact HO447.out) hb); have n3_ := Aside0.mk (below_step (by repeat (first | (with_reducible first | exact HB.out | apply below_alloc | apply pw_below_drewN | apply below_drew1) | exact HB.out)) hb); clear HO439; clear HO443; clear HO447; clear HB; have HO439 := n0_; have HO443 := n1_; have HO447 := n2_; have HB := n3_; clear n0_ n1_ n2_ n3_; (try clear hb); (try clear hb2); (try clear hk); (try clear hi)))
    all_goals go_ret
    all_goals exact ⟨by first | rfl | (simp [errW_none, errW_some] <;> rfl) | (simp [*, errW_none, errW_some] <;> rfl), by repeat (first | (with_reducible first | exact HB.out | apply below_alloc | apply pw_below_drewN | apply below_drew1) | exact HB.out)⟩
   ·replace c13 := Bool.eq_false_iff.mpr c13
    subst c13
    have H1 : (some false) = some r := by rw [if_neg (show ¬ (false = true) by decide)] at H; exact H
    clear H
    have H := H1
    clear H1
    obtain rfl := Option.some.inj H
    go_enter Try.func6, Try.ntmps6
    go_wp2_with (first | ((with_reducible refine gate_callee (f := 12) rfl ?_); refine goesL_ (some 11) rfl rfl Try.func12 (by kernel_rfl) rfl #[.slice A0 l0.length c0, .int .i64 1048576] rfl (by (try simp only [List.map_toArray, List.map_cons, List.map_nil]); first | done | rfl | (simp only [List.length_drop, List.length_take]; rfl)) ?_; (with_reducible refine (laws_szBatchS.calls k _ _ l0 1048576 t436 _ ?side1 ?side2 A3.out).mono ?_); (case side1 => repeat (first | exact HR0.out | (with_reducible refine Kd.C_alloc ?_ _) | (with_reducible refine Kd.C_drewN ?_ _) | (with_reducible refine Kd.C_drew ?_))); (case side2 => exact HC0.out); rintro e w24 ⟨rfl, hb⟩; refine ⟨_, rfl, ?_⟩; have n0_ := Aside0.mk (below_step (by repeat (first | (with_reducible first | exact HB.out | apply below_alloc | apply pw_below_drewN | apply below_drew1) | exact HB.out)) hb); clear HB; have HB := n0_; clear n0_; (try clear hb); (try clear hb2); (try clear hk); (try clear hi)) | ((with_reducible refine gate_callee (f := 13) rfl ?_); refine goesL_ (some 15) rfl rfl Try.func13 (by kernel_rfl) rfl #[.slice A0 l0.length c0] rfl (by (try simp only [List.map_toArray, List.map_cons, List.map_nil]); first | done | rfl | (simp only [List.length_drop, List.length_take]; rfl)) ?_; (with_reducible refine (laws_toBatchS.calls k _ _ l0 t437 _ ?side1 ?side2 A6.out).mono ?_); (case side1 => repeat (first | exact (Kd.C_below HR0.out HB.out) | (with_reducible refine Kd.C_alloc ?_ _) | (with_reducible refine Kd.C_drewN ?_ _) | (with_reducible refine Kd.C_drew ?_))); (case side2 => exact HC0.out); rintro e w25 ⟨v438, rfl, ho0, hb⟩; have u_v438 : ∀ (a_ : Addr) (m_ : Mode) (W_ : World), (store a_ v438 m_).run Try.prog W_ = stored Try.prog W_ a_ v438 m_ := fun a_ m_ W_ => run_store _ W_ a_ _ m_ (by first | (obtain ⟨_, _, e_⟩ := Kd.R_slice ho0; rw [e_]; rfl) | (obtain ⟨_, _, e_⟩ := Kd.S_slice ho0; rw [e_]; rfl) | (obtain ⟨_, _, e_, _⟩ := Kd.Q_slice ho0; rw [e_]; rfl) | (obtain ⟨_, _, e_⟩ := Kd.N_slice ho0; rw [e_]; rfl) | (obtain ⟨_, _, e_⟩ := Kd.V_slice ho0; rw [e_]; rfl)); refine ⟨_, rfl, ?_⟩; have n0_ := Aside0.mk (Kd.R_lower ho0 (below_size (by repeat (first | (with_reducible first | exact HB.out | apply below_alloc | apply pw_below_drewN | apply below_drew1) | exact HB.out)))); have n1_ := Aside0.mk (below_step (by repeat (first | (with_reducible first | exact HB.out | apply below_alloc | apply pw_below_drewN | apply below_drew1) | exact HB.out)) hb); clear HB; have HO439 := n0_; have HB := n1_; clear n0_ n1_; (try clear hb); (try clear hb2); (try clear hk); (try clear hi); (try clear ho0); obtain ⟨Ao26, co26, eo26⟩ := Kd.R_slice HO439.out; subst eo26) | ((with_reducible refine gate_callee (f := 9) rfl ?_); refine goesL_ (some 17) rfl rfl Try.func9 (by kernel_rfl) rfl #[.slice Ao26 t437.length co26, .int .i64 a1] rfl (by (try simp only [List.map_toArray, List.map_cons, List.map_nil]); first | done | rfl | (simp only [List.length_drop, List.length_take]; rfl)) ?_; (with_reducible refine (spec_KeepTime.calls k _ _ t437 a1 t440 _ ?side1 ?side2 A7.out).mono ?_); (case side1 => repeat (first | exact (Kd.R_reads' HO439.out).2.2 | (with_reducible refine Kd.C_alloc ?_ _) | (with_reducible refine Kd.C_drewN ?_ _) | (with_reducible refine Kd.C_drew ?_))); (case side2 => exact (Kd.R_reads' HO439.out).2.1); rintro e w27 ⟨rfl, hb⟩; refine ⟨_, rfl, ?_⟩; have n0_ := Aside0.mk (Kd.R_below (by (with_reducible repeat (first | apply Kd.R_alloc | apply Kd.R_drewN | apply Kd.R_drew)); exact HO439.out) hb); have n1_ := Aside0.mk (below_step (by repeat (first | (with_reducible first | exact HB.out | apply below_alloc | apply pw_below_drewN | apply below_drew1) | exact HB.out)) hb); clear HO439; clear HB; have HO439 := n0_; have HB := n1_; clear n0_ n1_; (try clear hb); (try clear hb2); (try clear hk); (try clear hi)) | ((with_reducible refine gate_callee (f := 13) rfl ?_); refine goesL_ (some 19) rfl rfl Try.func13 (by kernel_rfl) rfl #[.slice A0 l0.length c0] rfl (by (try simp only [List.map_toArray, List.map_cons, List.map_nil]); first | done | rfl | (simp only [List.length_drop, List.length_take]; rfl)) ?_; (with_reducible refine (laws_toBatchS.calls k _ _ l0 t441 _ ?side1 ?side2 A8.out).mono ?_); (case side1 => repeat (first | exact (Kd.C_below HR0.out HB.out) | (with_reducible refine Kd.C_alloc ?_ _) | (with_reducible refine Kd.C_drewN ?_ _) | (with_reducible refine Kd.C_drew ?_))); (case side2 => exact HC0.out); rintro e w28 ⟨v442, rfl, ho0, hb⟩; have u_v442 : ∀ (a_ : Addr) (m_ : Mode) (W_ : World), (store a_ v442 m_).run Try.prog W_ = stored Try.prog W_ a_ v442 m_ := fun a_ m_ W_ => run_store _ W_ a_ _ m_ (by first | (obtain ⟨_, _, e_⟩ := Kd.R_slice ho0; rw [e_]; rfl) | (obtain ⟨_, _, e_⟩ := Kd.S_slice ho0; rw [e_]; rfl) | (obtain ⟨_, _, e_, _⟩ := Kd.Q_slice ho0; rw [e_]; rfl) | (obtain ⟨_, _, e_⟩ := Kd.N_slice ho0; rw [e_]; rfl) | (obtain ⟨_, _, e_⟩ := Kd.V_slice ho0; rw [e_]; rfl)); refine ⟨_, rfl, ?_⟩; have n0_ := Aside0.mk (Kd.R_elder' (by (with_reducible repeat (first | apply Kd.R_alloc | apply Kd.R_drewN | apply Kd.R_drew)); exact HO439.out) (Kd.R_base ho0) hb); have n1_ := Aside0.mk (Kd.R_lower (Kd.R_new' ho0 (Kd.R_lt (by (with_reducible repeat (first | apply Kd.R_alloc | apply Kd.R_drewN | apply Kd.R_drew)); exact HO439.out))) (below_size (by repeat (first | (with_reducible first | exact HB.out | apply below_alloc | apply pw_below_drewN | apply below_drew1) | exact HB.out)))); have n2_ := Aside0.mk (below_step (by repeat (first | (with_reducible first | exact HB.out | apply below_alloc | apply pw_below_drewN | apply below_drew1) | exact HB.out)) hb); clear HO439; clear HB; have HO439 := n0_; have HO443 := n1_; have HB := n2_; clear n0_ n1_ n2_; (try clear hb); (try clear hb2); (try clear hk); (try clear hi); (try clear ho0); obtain ⟨Ao29, co29, eo29⟩ := Kd.R_slice HO443.out; subst eo29) | ((with_reducible refine gate_callee (f := 8) rfl ?_); refine goesL_ (some 22) rfl rfl Try.func8 (by kernel_rfl) rfl #[.slice Ao29 t441.length co29, .int .i64 a1] rfl (by (try simp only [List.map_toArray, List.map_cons, List.map_nil]); first | done | rfl | (simp only [List.length_drop, List.length_take]; rfl)) ?_; (with_reducible refine (impl_KeepTime.calls k _ _ t441 a1 t444 _ ?side1 ?side2 A9.out).mono ?_); (case side1 => repeat (first | exact (Kd.R_reads' HO443.out).2.2 | (with_reducible refine Kd.C_alloc ?_ _) | (with_reducible refine Kd.C_drewN ?_ _) | (with_reducible refine Kd.C_drew ?_))); (case side2 => exact (Kd.R_reads' HO443.out).2.1); rintro e w30 ⟨rfl, hb⟩; refine ⟨_, rfl, ?_⟩; have n0_ := Aside0.mk (Kd.R_below (by (with_reducible repeat (first | apply Kd.R_alloc | apply Kd.R_drewN | apply Kd.R_drew)); exact HO439.out) hb); have n1_ := Aside0.mk (Kd.R_below (by (with_reducible repeat (first | apply Kd.R_alloc | apply Kd.R_drewN | apply Kd.R_drew)); exact HO443.out) hb); have n2_ := Aside0.mk (below_step (by repeat (first | (with_reducible first | exact HB.out | apply below_alloc | apply pw_below_drewN | apply below_drew1) | exact HB.out)) hb); clear HO439; clear HO443; clear HB; have HO439 := n0_; have HO443 := n1_; have HB := n2_; clear n0_ n1_ n2_; (try clear hb); (try clear hb2); (try clear hk); (try clear hi)) | ((with_reducible refine gate_callee (f := 13) rfl ?_); refine goesL_ (some 28) rfl rfl Try.func13 (by kernel_rfl) rfl #[.slice A0 l0.length c0] rfl (by (try simp only [List.map_toArray, List.map_cons, List.map_nil]); first | done | rfl | (simp only [List.length_drop, List.length_take]; rfl)) ?_; (with_reducible refine (laws_toBatchS.calls k _ _ l0 t445 _ ?side1 ?side2 A11.out).mono ?_); (case side1 => repeat (first | exact (Kd.C_below HR0.out HB.out) | (with_reducible refine Kd.C_alloc ?_ _) | (with_reducible refine Kd.C_drewN ?_ _) | (with_reducible refine Kd.C_drew ?_))); (case side2 => exact HC0.out); rintro e w31 ⟨v446, rfl, ho0, hb⟩; have u_v446 : ∀ (a_ : Addr) (m_ : Mode) (W_ : World), (store a_ v446 m_).run Try.prog W_ = stored Try.prog W_ a_ v446 m_ := fun a_ m_ W_ => run_store _ W_ a_ _ m_ (by first | (obtain ⟨_, _, e_⟩ := Kd.R_slice ho0; rw [e_]; rfl) | (obtain ⟨_, _, e_⟩ := Kd.S_slice ho0; rw [e_]; rfl) | (obtain ⟨_, _, e_, _⟩ := Kd.Q_slice ho0; rw [e_]; rfl) | (obtain ⟨_, _, e_⟩ := Kd.N_slice ho0; rw [e_]; rfl) | (obtain ⟨_, _, e_⟩ := Kd.V_slice ho0; rw [e_]; rfl)); refine ⟨_, rfl, ?_⟩; have n0_ := Aside0.mk (Kd.R_elder' (by (with_reducible repeat (first | apply Kd.R_alloc | apply Kd.R_drewN | apply Kd.R_drew)); exact HO439.out) (Kd.R_base ho0) hb); have n1_ := Aside0.mk (Kd.R_elder' (by (with_reducible repeat (first | apply Kd.R_alloc | apply Kd.R_drewN | apply Kd.R_drew)); exact HO443.out) (Kd.R_base ho0) hb); have n2_ := Aside0.mk (Kd.R_lower (Kd.R_new' (Kd.R_new' ho0 (Kd.R_lt (by (with_reducible repeat (first | apply Kd.R_alloc | apply Kd.R_drewN | apply Kd.R_drew)); exact HO439.out))) (Kd.R_lt (by (with_reducible repeat (first | apply Kd.R_alloc | apply Kd.R_drewN | apply Kd.R_drew)); exact HO443.out))) (below_size (by repeat (first | (with_reducible first | exact HB.out | apply below_alloc | apply pw_below_drewN | apply below_drew1) | exact HB.out)))); have n3_ := Aside0.mk (below_step (by repeat (first | (with_reducible first | exact HB.out | apply below_alloc | apply pw_below_drewN | apply below_drew1) | exact HB.out)) hb); clear HO439; clear HO443; clear HB; have HO439 := n0_; have HO443 := n1_; have HO447 := n2_; have HB := n3_; clear n0_ n1_ n2_ n3_; (try clear hb); (try clear hb2); (try clear hk); (try clear hi); (try clear ho0); obtain ⟨Ao32, co32, eo32⟩ := Kd.R_slice HO447.out; subst eo32) | ((with_reducible refine gate_callee (f := 14) rfl ?_); refine goesL_ (some 29) rfl rfl Try.func14 (by kernel_rfl) rfl #[.slice Ao29 t441.length co29, .slice Ao32 t445.length co32] rfl (by (try simp only [List.map_toArray, List.map_cons, List.map_nil]); first | done | rfl | (simp only [List.length_drop, List.length_take]; rfl)) ?_; (with_reducible refine (laws_eqBatchS.calls k _ _ t441 _ _ t445 false _ ?side1 ?side2 ?side3 ?side4 A12.out).mono ?_); (case side1 => repeat (first | exact (Kd.R_reads' HO443.out).2.2 | (with_reducible refine Kd.C_alloc ?_ _) | (with_reducible refine Kd.C_drewN ?_ _) | (with_reducible refine Kd.C_drew ?_))); (case side2 => exact (Kd.R_reads' HO443.out).2.1); (case side3 => repeat (first | exact (Kd.R_reads' HO447.out).2.2 | (with_reducible refine Kd.C_alloc ?_ _) | (with_reducible refine Kd.C_drewN ?_ _) | (with_reducible refine Kd.C_drew ?_))); (case side4 => exact (Kd.R_reads' HO447.out).2.1); rintro e w33 ⟨rfl, hb⟩; refine ⟨_, rfl, ?_⟩; have n0_ := Aside0.mk (Kd.R_below (by (with_reducible repeat (first | apply Kd.R_alloc | apply Kd.R_drewN | apply Kd.R_drew)); exact HO439.out) hb); have n1_ := Aside0.mk (Kd.R_below (by (with_reducible repeat (first | apply Kd.R_alloc | apply Kd.R_drewN | apply Kd.R_drew)); exact HO443.out) hb); have n2_ := Aside0.mk (Kd.R_below (by (with_reducible repeat (first | apply Kd.R_alloc | apply Kd.R_drewN | apply Kd.R_drew)); exact HO447.out) hb); have n3_ := Aside0.mk (below_step (by repeat (first | (with_reducible first | exact HB.out | apply below_alloc | apply pw_below_drewN | apply below_drew1) | exact HB.out)) hb); clear HO439; clear HO443; clear HO447; clear HB; have HO439 := n0_; have HO443 := n1_; have HO447 := n2_; have HB := n3_; clear n0_ n1_ n2_ n3_; (try clear hb); (try clear hb2); (try clear hk); (try clear hi)))
    all_goals go_ret
    all_goals exact ⟨by first | rfl | (simp [errW_none, errW_some] <;> rfl) | (simp [*, errW_none, errW_some] <;> rfl), by repeat (first | (with_reducible first | exact HB.out | apply below_alloc | apply pw_below_drewN | apply below_drew1) | exact HB.out)⟩
  ·rw [if_neg c10] at H
   have c10b0 : (t444 == t440) = false := beq_eq_false_iff_ne.mpr c10
   have c10b1 : (t444 != t440) = true := bne_iff_ne.mpr c10
   obtain rfl := Option.some.inj H
   go_enter Try.func6, Try.ntmps6
   go_wp2_with (first | ((with_reducible refine gate_callee (f := 12) rfl ?_); refine goesL_ (some 11) rfl rfl Try.func12 (by kernel_rfl) rfl #[.slice A0 l0.length c0, .int .i64 1048576] rfl (by (try simp only [List.map_toArray, List.map_cons, List.map_nil]); first | done | rfl | (simp only [List.length_drop, List.length_take]; rfl)) ?_; (with_reducible refine (laws_szBatchS.calls k _ _ l0 1048576 t436 _ ?side1 ?side2 A3.out).mono ?_); (case side1 => repeat (first | exact HR0.out | (with_reducible refine Kd.C_alloc ?_ _) | (with_reducible refine Kd.C_drewN ?_ _) | (with_reducible refine Kd.C_drew ?_))); (case side2 => exact HC0.out); rintro e w34 ⟨rfl, hb⟩; refine ⟨_, rfl, ?_⟩; have n0_ := Aside0.mk (below_step (by repeat (first | (with_reducible first | exact HB.out | apply below_alloc | apply pw_below_drewN | apply below_drew1) | exact HB.out)) hb); clear HB; have HB := n0_; clear n0_; (try clear hb); (try clear hb2); (try clear hk); (try clear hi)) | ((with_reducible refine gate_callee (f := 13) rfl ?_); refine goesL_ (some 15) rfl rfl Try.func13 (by kernel_rfl) rfl #[.slice A0 l0.length c0] rfl (by (try simp only [List.map_toArray, List.map_cons, List.map_nil]); first | done | rfl | (simp only [List.length_drop, List.length_take]; rfl)) ?_; (with_reducible refine (laws_toBatchS.calls k _ _ l0 t437 _ ?side1 ?side2 A6.out).mono ?_); (case side1 => repeat (first | exact (Kd.C_below HR0.out HB.out) | (with_reducible refine Kd.C_alloc ?_ _) | (with_reducible refine Kd.C_drewN ?_ _) | (with_reducible refine Kd.C_drew ?_))); (case side2 => exact HC0.out); rintro e w35 ⟨v438, rfl, ho0, hb⟩; have u_v438 : ∀ (a_ : Addr) (m_ : Mode) (W_ : World), (store a_ v438 m_).run Try.prog W_ = stored Try.prog W_ a_ v438 m_ := fun a_ m_ W_ => run_store _ W_ a_ _ m_ (by first | (obtain ⟨_, _, e_⟩ := Kd.R_slice ho0; rw [e_]; rfl) | (obtain ⟨_, _, e_⟩ := Kd.S_slice ho0; rw [e_]; rfl) | (obtain ⟨_, _, e_, _⟩ := Kd.Q_slice ho0; rw [e_]; rfl) | (obtain ⟨_, _, e_⟩ := Kd.N_slice ho0; rw [e_]; rfl) | (obtain ⟨_, _, e_⟩ := Kd.V_slice ho0; rw [e_]; rfl)); refine ⟨_, rfl, ?_⟩; have n0_ := Aside0.mk (Kd.R_lower ho0 (below_size (by repeat (first | (with_reducible first | exact HB.out | apply below_alloc | apply pw_below_drewN | apply below_drew1) | exact HB.out)))); have n1_ := Aside0.mk (below_step (by repeat (first | (with_reducible first | exact HB.out | apply below_alloc | apply pw_below_drewN | apply below_drew1) | exact HB.out)) hb); clear HB; have HO439 := n0_; have HB := n1_; clear n0_ n1_; (try clear hb); (try clear hb2); (try clear hk); (try clear hi); (try clear ho0); obtain ⟨Ao36, co36, eo36⟩ := Kd.R_slice HO439.out; subst eo36) | ((with_reducible refine gate_callee (f := 9) rfl ?_); refine goesL_ (some 17) rfl rfl Try.func9 (by kernel_rfl) rfl #[.slice Ao36 t437.length co36, .int .i64 a1] rfl (by (try simp only [List.map_toArray, List.map_cons, List.map_nil]); first | done | rfl | (simp only [List.length_drop, List.length_take]; rfl)) ?_; (with_reducible refine (spec_KeepTime.calls k _ _ t437 a1 t440 _ ?side1 ?side2 A7.out).mono ?_); (case side1 => repeat (first | exact (Kd.R_reads' HO439.out).2.2 | (with_reducible refine Kd.C_alloc ?_ _) | (with_reducible refine Kd.C_drewN ?_ _) | (with_reducible refine Kd.C_drew ?_))); (case side2 => exact (Kd.R_reads' HO439.out).2.1); rintro e w37 ⟨rfl, hb⟩; refine ⟨_, rfl, ?_⟩; have n0_ := Aside0.mk (Kd.R_below (by (with_reducible repeat (first | apply Kd.R_alloc | apply Kd.R_drewN | apply Kd.R_drew)); exact HO439.out) hb); have n1_ := Aside0.mk (below_step (by repeat (first | (with_reducible first | exact HB.out | apply below_alloc | apply pw_below_drewN | apply below_drew1) | exact HB.out)) hb); clear HO439; clear HB; have HO439 := n0_; have HB := n1_; clear n0_ n1_; (try clear hb); (try clear hb2); (try clear hk); (try clear hi)) | ((with_reducible refine gate_callee (f := 13) rfl ?_); refine goesL_ (some 19) rfl rfl Try.func13 (by kernel_rfl) rfl #[.slice A0 l0.length c0] rfl (by (try simp only [List.map_toArray, List.map_cons, List.map_nil]); first | done | rfl | (simp only [List.length_drop, List.length_take]; rfl)) ?_; (with_reducible refine (laws_toBatchS.calls k _ _ l0 t441 _ ?side1 ?side2 A8.out).mono ?_); (case side1 => repeat (first | exact (Kd.C_below HR0.out HB.out) | (with_reducible refine Kd.C_alloc ?_ _) | (with_reducible refine Kd.C_drewN ?_ _) | (with_reducible refine Kd.C_drew ?_))); (case side2 => exact HC0.out); rintro e w38 ⟨v442, rfl, ho0, hb⟩; have u_v442 : ∀ (a_ : Addr) (m_ : Mode) (W_ : World), (store a_ v442 m_).run Try.prog W_ = stored Try.prog W_ a_ v442 m_ := fun a_ m_ W_ => run_store _ W_ a_ _ m_ (by first | (obtain ⟨_, _, e_⟩ := Kd.R_slice ho0; rw [e_]; rfl) | (obtain ⟨_, _, e_⟩ := Kd.S_slice ho0; rw [e_]; rfl) | (obtain ⟨_, _, e_, _⟩ := Kd.Q_slice ho0; rw [e_]; rfl) | (obtain ⟨_, _, e_⟩ := Kd.N_slice ho0; rw [e_]; rfl) | (obtain ⟨_, _, e_⟩ := Kd.V_slice ho0; rw [e_]; rfl)); refine ⟨_, rfl, ?_⟩; have n0_ := Aside0.mk (Kd.R_elder' (by (with_reducible repeat (first | apply Kd.R_alloc | apply Kd.R_drewN | apply Kd.R_drew)); exact HO439.out) (Kd.R_base ho0) hb); have n1_ := Aside0.mk (Kd.R_lower (Kd.R_new' ho0 (Kd.R_lt (by (with_reducible repeat (first | apply Kd.R_alloc | apply Kd.R_drewN | apply Kd.R_drew)); exact HO439.out))) (below_size (by repeat (first | (with_reducible first | exact HB.out | apply below_alloc | apply pw_below_drewN | apply below_drew1) | exact HB.out)))); have n2_ := Aside0.mk (below_step (by repeat (first | (with_reducible first | exact HB.out | apply below_alloc | apply pw_below_drewN | apply below_drew1) | exact HB.out)) hb); clear HO439; clear HB; have HO439 := n0_; have HO443 := n1_; have HB := n2_; clear n0_ n1_ n2_; (try clear hb); (try clear hb2); (try clear hk); (try clear hi); (try clear ho0); obtain ⟨Ao39, co39, eo39⟩ := Kd.R_slice HO443.out; subst eo39) | ((with_reducible refine gate_callee (f := 8) rfl ?_); refine goesL_ (some 22) rfl rfl Try.func8 (by kernel_rfl) rfl #[.slice Ao39 t441.length co39, .int .i64 a1] rfl (by (try simp only [List.map_toArray, List.map_cons, List.map_nil]); first | done | rfl | (simp only [List.length_drop, List.length_take]; rfl)) ?_; (with_reducible refine (impl_KeepTime.calls k _ _ t441 a1 t444 _ ?side1 ?side2 A9.out).mono ?_); (case side1 => repeat (first | exact (Kd.R_reads' HO443.out).2.2 | (with_reducible refine Kd.C_alloc ?_ _) | (with_reducible refine Kd.C_drewN ?_ _) | (with_reducible refine Kd.C_drew ?_))); (case side2 => exact (Kd.R_reads' HO443.out).2.1); rintro e w40 ⟨rfl, hb⟩; refine ⟨_, rfl, ?_⟩; have n0_ := Aside0.mk (Kd.R_below (by (with_reducible repeat (first | apply Kd.R_alloc | apply Kd.R_drewN | apply Kd.R_drew)); exact HO439.out) hb); have n1_ := Aside0.mk (Kd.R_below (by (with_reducible repeat (first | apply Kd.R_alloc | apply Kd.R_drewN | apply Kd.R_drew)); exact HO443.out) hb); have n2_ := Aside0.mk (below_step (by repeat (first | (with_reducible first | exact HB.out | apply below_alloc | apply pw_below_drewN | apply below_drew1) | exact HB.out)) hb); clear HO439; clear HO443; clear HB; have HO439 := n0_; have HO443 := n1_; have HB := n2_; clear n0_ n1_ n2_; (try clear hb); (try clear hb2); (try clear hk); (try clear hi)))
   all_goals go_ret
   all_goals exact ⟨by first | rfl | (simp [errW_none, errW_some] <;> rfl) | (simp [*, errW_none, errW_some] <;> rfl), by repeat (first | (with_reducible first | exact HB.out | apply below_alloc | apply pw_below_drewN | apply below_drew1) | exact HB.out)⟩

end Go.Proofs.Ytahenocndacjeaa.G

namespace Go.Proofs.Ytahenocndacjeaa.Rd
open Go.RowKit Go.Proofs.YtahenocndacjeaaW.PrintWords
set_option linter.unusedVariables false
section
variable {H : Type} {enc : TypeId × Value → H} {P : Program} {w : World} {base : Nat} {spare : Nat → Bool} {held : Bool}
/-- What a reading of type t gives: a value of the kind, and what is known of it. -/
def Opens (enc : TypeId × Value → H) (P : Program) (w : World) (base : Nat) (spare : Nat → Bool) (held : Bool) {α : Type} (t : TypeId) (d : Kd α) (ok : α → Prop) : Prop :=
  P.cellsOf t = d.sz ∧ ∀ fuel cs x, DataW.trod enc P w base spare held fuel t cs = some x → ∃ v, d.K w v cs ∧ ok v
theorem Opens.imp_ {α : Type} {t : TypeId} {d : Kd α} {ok ok' : α → Prop} (h : Opens enc P w base spare held t d ok) (hi : ∀ v, ok v → ok' v) : Opens enc P w base spare held t d ok' :=
  ⟨h.1, fun fuel cs x hx => by
    obtain ⟨v, hk, ho⟩ := h.2 fuel cs x hx
    exact ⟨v, hk, hi v ho⟩⟩
theorem opens_int {t : TypeId} {k : IntKind} (ht : P.underlying t = some (.int k)) (hc : P.cellsOf t = 1) : Opens enc P w base spare held t (Kd.int k) (fun n => (Lit.int k n).wf = true) := by
  refine ⟨hc, fun fuel cs x h => ?_⟩
  obtain ⟨n, rfl, _, hw⟩ := DataW.trod_int ht h
  exact ⟨n, rfl, hw⟩
theorem opens_bool {t : TypeId} (ht : P.underlying t = some .bool) (hc : P.cellsOf t = 1) : Opens enc P w base spare held t Kd.bool (fun _ => True) := by
  refine ⟨hc, fun fuel cs x h => ?_⟩
  obtain ⟨n, rfl, _⟩ := DataW.trod_bool ht h
  exact ⟨n, rfl, trivial⟩
theorem cells_len {base : Nat} {a : Addr} {n : Nat} {cs : List Value} (h : w.cells? base a n = some cs) : cs.length = n ∧ ∀ i u, cs[i]? = some u → w.cell? (a.add i) = some u := by
  unfold World.cells? at h
  split at h
  · rename_i hb
    refine ⟨by simpa using mapM_some_length h, fun i u hu => ?_⟩
    have hi : i < n := by
      have := (List.getElem?_eq_some_iff.1 hu).1
      have h2 : cs.length = n := by simpa using mapM_some_length h
      omega
    have := mapM_some_get h i i (by simp [hi])
    rw [hu] at this
    exact this
  · simp at h
theorem opens_row {α : Type} {t e : TypeId} {d : Kd α} {ok : α → Prop} (ht : P.underlying t = some (.slice e)) (hd : Opens enc P w base spare held e d ok) {fuel : Nat} {cs : List Value} {x : DataW H × List MemPlace}
    (h : DataW.trod enc P w base spare held fuel t cs = some x) : ∃ (A : Option Addr) (c : Nat) (xs : List α), cs = [.slice A xs.length c] ∧ xs.length ≤ c ∧ c ≤ maxLen ∧ d.C w A xs.length xs ∧ ∀ y ∈ xs, ok y := by
  rcases Go.Deep.open_slice ht h with ⟨rfl, _⟩ | ⟨a, len, cap, m, n, D, Pl, rfl, hb, hl, hm, hmm, _, hel⟩
  · exact ⟨none, 0, [], rfl, Nat.le_refl _, by unfold maxLen; omega, ⟨rfl, by simp, fun h0 => absurd h0 (by simp)⟩, by simp⟩
  have hlm : len ≤ m := by rw [hmm]; split <;> omega
  have hx : ∀ i, i < len → ∃ y : α, ok y ∧ ∃ c, c.length = d.sz ∧ d.K w y c ∧ ∀ j u, c[j]? = some u → w.cell? (a.add (i * d.sz + j)) = some u := by
    intro i hi
    obtain ⟨cs', h1, h2⟩ := hel i (by omega)
    obtain ⟨y, hk, ho⟩ := hd.2 _ _ _ h2
    obtain ⟨hl', hc'⟩ := cells_len h1
    refine ⟨y, ho, cs', by rw [hl', hd.1], hk, fun j u hu => ?_⟩
    have := hc' j u hu
    rw [Go.Deep.add_add, hd.1] at this
    exact this
  rcases Nat.eq_zero_or_pos len with h0 | h0
  · subst h0
    exact ⟨some a, cap, [], rfl, Nat.zero_le _, hm, ⟨rfl, by simp, fun h1 => absurd h1 (by simp)⟩, by simp⟩
  obtain ⟨y0, _⟩ := hx 0 h0
  haveI : Inhabited α := ⟨y0⟩
  obtain ⟨g, hg⟩ := Go.Deep.choose_lt hx
  have hlen : ((List.range len).map g).length = len := by simp
  refine ⟨some a, cap, (List.range len).map g, by rw [hlen], by rw [hlen]; exact hl, hm, ⟨rfl, by rw [hlen]; unfold maxLen at hm; omega, fun _ => ⟨a, rfl, fun j p hj => ?_⟩⟩, fun y hy => ?_⟩
  · have hj' : j < len := by
      have := (List.getElem?_eq_some_iff.1 hj).1
      omega
    rw [List.getElem?_map, List.getElem?_range hj'] at hj
    simp at hj
    subst hj
    obtain ⟨_, c, hc1, hc2, hc3⟩ := hg j hj'
    exact ⟨c, hc1, hc2, hc3⟩
  · obtain ⟨i, hi, rfl⟩ := List.mem_map.1 hy
    exact (hg i (List.mem_range.1 hi)).1
theorem opens_slice {α : Type} {t e : TypeId} {d : Kd α} {ok : α → Prop} (ht : P.underlying t = some (.slice e)) (hc : P.cellsOf t = 1) (hd : Opens enc P w base spare held e d ok) :
    Opens enc P w base spare held t (Kd.slice e d) (fun xs => xs.length ≤ maxLen ∧ ∀ y ∈ xs, ok y) := by
  refine ⟨hc, fun fuel cs x h => ?_⟩
  obtain ⟨A, c, xs, rfl, hl, hm, hC, ho⟩ := opens_row ht hd h
  exact ⟨xs, ⟨A, c, rfl, hl, hC⟩, Nat.le_trans hl hm, ho⟩
/-- A struct's fields, one behind the other, from a place of its cells on. -/
def OpensAt (enc : TypeId × Value → H) (P : Program) (w : World) (base : Nat) (spare : Nat → Bool) (held : Bool) {α : Type} (fs : List Field) (off : Nat) (d : Kd α) (ok : α → Prop) : Prop :=
  ∀ n (cs : List Value), cs.length = off + d.sz → (∀ f ∈ fs, ∃ x, DataW.trod enc P w base spare held n f.type ((cs.drop f.offset).take (P.cellsOf f.type)) = some x) → ∃ v, d.K w v (cs.drop off) ∧ ok v
theorem opens_last {α : Type} {f : Field} {off : Nat} {d : Kd α} {ok : α → Prop} (ho : f.offset = off) (hd : Opens enc P w base spare held f.type d ok) : OpensAt enc P w base spare held [f] off d ok := by
  intro n cs hl h
  obtain ⟨x, hx⟩ := h f (by simp)
  obtain ⟨v, hk, hok⟩ := hd.2 _ _ _ hx
  rw [ho, hd.1, List.take_of_length_le (by rw [List.length_drop]; omega)] at hk
  exact ⟨v, hk, hok⟩
theorem opens_more {α β : Type} {f : Field} {fs : List Field} {off : Nat} {d : Kd α} {d' : Kd β} {ok : α → Prop} {ok' : β → Prop} (ho : f.offset = off) (hd : Opens enc P w base spare held f.type d ok) (hr : OpensAt enc P w base spare held fs (off + d.sz) d' ok') :
    OpensAt enc P w base spare held (f :: fs) off (Kd.pair d d') (fun v => ok v.1 ∧ ok' v.2) := by
  intro n cs hl h
  have hl' : cs.length = off + (d.sz + d'.sz) := hl
  obtain ⟨x, hx⟩ := h f (by simp)
  obtain ⟨v, hk, hok⟩ := hd.2 _ _ _ hx
  obtain ⟨v', hk', hok'⟩ := hr n cs (by omega) (fun g hg => h g (by simp [hg]))
  rw [ho, hd.1] at hk
  refine ⟨(v, v'), ⟨_, _, ?_, hk, hk'⟩, hok, hok'⟩
  rw [← List.drop_drop, List.take_append_drop]
theorem opens_struct {α β : Type} {t : TypeId} {fs : Array Field} {d : Kd α} {f : β → α} {g : α → β} {ok : α → Prop} (ht : P.underlying t = some (.struct fs)) (hc : P.cellsOf t = d.sz) (hfg : ∀ a, f (g a) = a) (h : OpensAt enc P w base spare held fs.toList 0 d ok) :
    Opens enc P w base spare held t (Kd.iso d f) (fun v => ok (f v)) := by
  refine ⟨hc, fun fuel cs x hx => ?_⟩
  obtain ⟨xs, n, _, _, hl, hxs, hf⟩ := DataW.trod_struct ht hx
  obtain ⟨v, hk, hok⟩ := h n cs (by rw [hl, hc]; omega) (fun fl hfl => by
    obtain ⟨i, hi, rfl⟩ := List.getElem_of_mem hfl
    have hi' : i < fs.size := by simpa using hi
    refine ⟨xs[i]'(by omega), ?_⟩
    have := hf i fs[i] (by simp [hi'])
    rw [List.getElem?_eq_getElem (by omega)] at this
    simpa using this)
  refine ⟨g v, ?_, by show ok (f (g v)); rw [hfg]; exact hok⟩
  show d.K w (f (g v)) cs
  rw [hfg]
  simpa using hk
end
end Go.Proofs.Ytahenocndacjeaa.Rd

namespace Go.Proofs.Ytahenocndacjeaa.OFnExactKeepTime
open Go.RowKit Go.Proofs.YtahenocndacjeaaW.PrintWords Go.Proofs.Ytahenocndacjeaa.G
set_option linter.unusedVariables false
def Ok79 (x : S79) : Prop := ((Lit.int .i64 x.f0).wf = true) ∧ ((Lit.int .i64 x.f1).wf = true) ∧ (True) ∧ (x.f3.length ≤ maxLen ∧ ∀ y ∈ x.f3, (Lit.int .i64 y).wf = true) ∧ (True) ∧ (x.f5.length ≤ maxLen ∧ ∀ y ∈ x.f5, (Lit.int .i64 y).wf = true)
theorem open79 {H : Type} {enc : TypeId × Value → H} {w : World} {base : Nat} {spare : Nat → Bool} {held : Bool} : Rd.Opens enc Try.prog w base spare held 79 k79 Ok79 :=
  Rd.Opens.imp_ (Rd.opens_struct (g := fun p => (⟨p.1, p.2.1, p.2.2.1, p.2.2.2.1, p.2.2.2.2.1, p.2.2.2.2.2⟩ : S79)) Try.underlying79 (by kernel_rfl) (fun _ => rfl) (Rd.opens_more rfl (Rd.opens_int Try.underlying3 (by kernel_rfl)) (Rd.opens_more rfl (Rd.opens_int Try.underlying3 (by kernel_rfl)) (Rd.opens_more rfl (Rd.opens_bool Try.underlying4 (by kernel_rfl)) (Rd.opens_more rfl (Rd.opens_slice Try.underlying30 (by kernel_rfl) (Rd.opens_int Try.underlying3 (by kernel_rfl))) (Rd.opens_more rfl (Rd.opens_bool Try.underlying4 (by kernel_rfl)) (Rd.opens_last rfl (Rd.opens_slice Try.underlying30 (by kernel_rfl) (Rd.opens_int Try.underlying3 (by kernel_rfl)))))))))) (fun _ h => h)
def Ok58 (x : S58) : Prop := (True) ∧ (True) ∧ ((Lit.int .i64 x.f2).wf = true) ∧ ((Lit.int .i64 x.f3).wf = true) ∧ ((Lit.int .i64 x.f4).wf = true) ∧ (x.f5.length ≤ maxLen ∧ ∀ y ∈ x.f5, Ok79 y)
theorem open58 {H : Type} {enc : TypeId × Value → H} {w : World} {base : Nat} {spare : Nat → Bool} {held : Bool} : Rd.Opens enc Try.prog w base spare held 58 k58 Ok58 :=
  Rd.Opens.imp_ (Rd.opens_struct (g := fun p => (⟨p.1, p.2.1, p.2.2.1, p.2.2.2.1, p.2.2.2.2.1, p.2.2.2.2.2⟩ : S58)) Try.underlying58 (by kernel_rfl) (fun _ => rfl) (Rd.opens_more rfl (Rd.opens_bool Try.underlying4 (by kernel_rfl)) (Rd.opens_more rfl (Rd.opens_bool Try.underlying4 (by kernel_rfl)) (Rd.opens_more rfl (Rd.opens_int Try.underlying3 (by kernel_rfl)) (Rd.opens_more rfl (Rd.opens_int Try.underlying3 (by kernel_rfl)) (Rd.opens_more rfl (Rd.opens_int Try.underlying3 (by kernel_rfl)) (Rd.opens_last rfl (Rd.opens_slice Try.underlying56 (by kernel_rfl) open79)))))))) (fun _ h => h)
def Pure : Prop := ∀ (l0 : List (S58)) (a1 : Int), l0.length ≤ maxLen → (∀ y ∈ l0, Ok58 y) → (Lit.int .i64 a1).wf = true → ∃ k, laws_FnExactKeepTime.f k l0 a1 = some true
end Go.Proofs.Ytahenocndacjeaa.OFnExactKeepTime

namespace Go.Proofs.Ytahenocndacjeaa.Pu
open Go.RowKit Go.Proofs.YtahenocndacjeaaW.PrintWords Go.Proofs.YtahenocndacjeaaW.PrintLast
set_option linter.unusedVariables false
set_option linter.unusedSimpArgs false
theorem w64 {a : Int} (h0 : -9223372036854775808 ≤ a) (h1 : a ≤ 9223372036854775807) : wrap64 a = a := by unfold wrap64; omega
/-- (Not by 'rfl': a large number in a test behind it would be counted up by the kernel.) -/
theorem bindS {α β : Type} (x : α) (f : α → Option β) : (some x).bind f = f x := Eq.trans (Option.bind_some x f) (Eq.refl _)
/-- It ends, in something of which P holds. -/
def EndsIn {α : Type} (g : Nat → Option α) (P : α → Prop) : Prop := ∃ r, Ev g r ∧ P r
theorem EndsIn.bind {α β : Type} {g : Nat → Option α} {f : Nat → α → Option β} {P : α → Prop} {Q : β → Prop} (h : EndsIn g P) (k : ∀ a, P a → EndsIn (fun n => f n a) Q) : EndsIn (fun n => (g n).bind (f n)) Q := by
  obtain ⟨a, ha, hp⟩ := h
  obtain ⟨b, hb, hq⟩ := k a hp
  exact ⟨b, Ev.bind ha hb, hq⟩
theorem EndsIn.step {α : Type} {g f : Nat → Option α} {P : α → Prop} (h : ∀ k, g (k + 1) = f k) (k : EndsIn f P) : EndsIn g P := by
  obtain ⟨a, ha, hp⟩ := k
  exact ⟨a, Ev.step h ha, hp⟩
theorem EndsIn.now {α : Type} {P : α → Prop} (r : α) (hp : P r) : EndsIn (fun _ => some r) P := ⟨r, Ev.now r, hp⟩
theorem EndsIn.mono {α : Type} {g : Nat → Option α} {P Q : α → Prop} (h : EndsIn g P) (k : ∀ a, P a → Q a) : EndsIn g Q := by
  obtain ⟨a, ha, hp⟩ := h
  exact ⟨a, ha, k a hp⟩
theorem EndsIn.ev {α : Type} {g : Nat → Option α} {r : α} (h : EndsIn g (fun x => x = r)) : Ev g r := by
  obtain ⟨a, ha, rfl⟩ := h
  exact ha
theorem EndsIn.rounds {α : Type} {g : Nat → Option α} {r : α} (h : EndsIn g (fun x => x = r)) : ∃ k, g k = some r := h.ev.rounds
/-! lists that are filled place by place -/
theorem fill_set {α β : Type} (f : α → β) (z : β) (l : List α) (i : Nat) (h : i < l.length) :
    ((l.take i).map f ++ List.replicate (l.length - i) z).set i (f l[i]) = (l.take (i + 1)).map f ++ List.replicate (l.length - (i + 1)) z := by
  have hlen : ((l.take i).map f).length = i := by simp; omega
  rw [List.set_append_right _ _ (by omega), hlen, Nat.sub_self]
  obtain ⟨m, hm⟩ : ∃ m, l.length - i = m + 1 := ⟨l.length - i - 1, by omega⟩
  rw [hm, List.replicate_succ, List.set_cons_zero, List.take_succ_eq_append_getElem h, List.map_append, show l.length - (i + 1) = m by omega]
  simp
theorem fill_len {α β : Type} (f : α → β) (z : β) (l : List α) (i : Nat) (h : i ≤ l.length) : ((l.take i).map f ++ List.replicate (l.length - i) z).length = l.length := by
  simp; omega
end Go.Proofs.Ytahenocndacjeaa.Pu

namespace Go.Proofs.Ytahenocndacjeaa.Pu
open Go.RowKit Go.Proofs.YtahenocndacjeaaW.PrintWords Go.Proofs.YtahenocndacjeaaW.PrintLast Go.Proofs.Ytahenocndacjeaa.G
set_option linter.unusedVariables false
set_option linter.unusedSimpArgs false
/-- A loop that asks each element, and stops at the first that says no. -/
theorem ev_all {α : Type} (l : List α) (hl : l.length ≤ 9223372036854775807) (L : Nat → Int → Option Bool) (F : Nat → Nat → Option Bool) (p : α → Bool) (last : Bool)
    (hend : ∀ k, L (k + 1) (l.length : Int) = some last)
    (hstep : ∀ k (i : Nat), i < l.length → L (k + 1) (i : Int) = (F k i).bind fun t => if t = true then L k (wrap64 ((i : Int) + 1)) else some false)
    (hF : ∀ i (h : i < l.length), Ev (fun k => F k i) (p l[i])) : ∀ d i, l.length - i = d → i ≤ l.length → Ev (fun k => L k (i : Int)) ((l.drop i).all p && last) := by
  intro d
  induction d with
  | zero =>
    intro i hi hle
    obtain rfl : i = l.length := by omega
    refine Ev.step (fun k => hend k) ?_
    rw [List.drop_length]
    exact Ev.now _
  | succ d ih =>
    intro i hi hle
    have hlt : i < l.length := by omega
    refine Ev.step (fun k => hstep k i hlt) ?_
    refine Ev.bind (hF i hlt) ?_
    rw [List.drop_eq_getElem_cons hlt, List.all_cons]
    cases hp : p l[i]
    · exact Ev.now _
    · simp only [if_true, Bool.true_and, w64 (a := (i : Int) + 1) (by omega) (by omega)]
      exact ih (i + 1) (by omega) (by omega)
theorem rdi_nat (l : List Int) (i : Nat) (h : i < l.length) : rd l (i : Int) = l[i] := by
  unfold rd
  simp [h]
theorem within_ev (a b c : Int) : impl_within.f a b c = some (decide (b ≤ a) && decide (a ≤ c)) := by
  unfold impl_within.f
  by_cases h : a ≥ b
  · rw [if_pos h, show decide (b ≤ a) = true from decide_eq_true h]; rfl
  · rw [if_neg h, show decide (b ≤ a) = false from decide_eq_false h]; rfl
theorem in_ev (a b c : Int) : spec_l6In.f a b c = some (decide (b ≤ a) && decide (a ≤ c)) := by
  unfold spec_l6In.f
  by_cases h : a ≥ b
  · rw [if_pos h, show decide (b ≤ a) = true from decide_eq_true h]; rfl
  · rw [if_neg h, show decide (b ≤ a) = false from decide_eq_false h]; rfl
def isB (x : Int) : Bool := decide (0 ≤ x) && decide (x ≤ 255)
theorem isByte_ev (x : Int) : impl_isByte.f x = some (isB x) := by
  unfold impl_isByte.f isB
  by_cases h : x ≥ 0
  · rw [if_pos h, show decide (0 ≤ x) = true from decide_eq_true h]; rfl
  · rw [if_neg h, show decide (0 ≤ x) = false from decide_eq_false h]; rfl
theorem allBytes_ev (l : List Int) (hl : l.length ≤ 9223372036854775807) : Ev (fun k => impl_allBytes.f k l) (l.all isB) := by
  unfold impl_allBytes.f
  have := ev_all l hl (fun k i => impl_allBytes.l0 k l (l.length : Int) i) (fun k i => some (isB (rd l (i : Int)))) isB true
    (fun k => by simp only [impl_allBytes.l0]; rw [if_neg (by omega)])
    (fun k i h => by simp only [impl_allBytes.l0]; rw [if_pos (by omega), if_pos (by omega), if_pos (by omega), isByte_ev])
    (fun i h => by rw [rdi_nat l i h]; exact Ev.now _) l.length 0 (by omega) (by omega)
  simpa using this
theorem l1Ok_ev (l : List Int) (hl : l.length ≤ 9223372036854775807) : Ev (fun k => spec_l1Ok.f k l) (l.all isB) := by
  unfold spec_l1Ok.f
  have := ev_all l hl (fun k i => spec_l1Ok.l0 k l i) (fun k i => some (isB (rd l (i : Int)))) isB true
    (fun k => by simp only [spec_l1Ok.l0]; rw [if_neg (by omega)])
    (fun k i h => by simp only [spec_l1Ok.l0]; rw [if_pos (by omega), if_pos (by omega), in_ev]; rfl)
    (fun i h => by rw [rdi_nat l i h]; exact Ev.now _) l.length 0 (by omega) (by omega)
  simpa using this
def partOk (has : Bool) (l : List Int) : Bool := if has = true then decide (l.length ≤ 12) && l.all isB else decide (l.length = 0)
theorem partValid_ev (has : Bool) (l : List Int) (hl : l.length ≤ 9223372036854775807) : Ev (fun k => impl_partValid.f k has l) (partOk has l) := by
  unfold impl_partValid.f partOk
  cases has
  · simp only [Bool.false_eq_true, if_false]
    rw [show ((l.length : Int) == 0) = decide (l.length = 0) from by rw [Bool.eq_iff_iff]; simp]
    exact Ev.now _
  · simp only [if_true]
    by_cases h : (l.length : Int) ≤ 12
    · simp only [if_pos h]
      rw [show decide (l.length ≤ 12) = true from decide_eq_true (by omega), Bool.true_and]
      exact Ev.bind (allBytes_ev l hl) (Ev.now _)
    · simp only [if_neg h]
      rw [show decide (l.length ≤ 12) = false from decide_eq_false (by omega)]
      exact Ev.now _
theorem l3Part_ev (has : Bool) (l : List Int) (hl : l.length ≤ 9223372036854775807) : Ev (fun k => spec_l3Part.f k has l) (partOk has l) := by
  unfold spec_l3Part.f partOk
  cases has
  · simp only [Bool.false_eq_true, if_false]
    by_cases h : (l.length : Int) = 0
    · simp only [if_pos h]
      obtain rfl : l = [] := List.length_eq_zero_iff.1 (by omega)
      refine Ev.bind (l1Ok_ev [] (by simp)) ?_
      exact Ev.now _
    · simp only [if_neg h]
      rw [show decide (l.length = 0) = false from decide_eq_false (by omega)]
      exact Ev.now _
  · simp only [if_true]
    refine Ev.bind (l1Ok_ev l hl) ?_
    rw [show decide ((l.length : Int) ≤ 12) = decide (l.length ≤ 12) from decide_eq_decide.2 (by omega)]
    cases l.all isB
    · simp only [Bool.false_eq_true, if_false, Bool.and_false]
      exact Ev.now _
    · simp only [if_true, Bool.and_true]
      exact Ev.now _
def rng (x : Int) : Bool := decide (0 ≤ x) && decide (x ≤ 99999)
def recOk (r : S32) : Bool := (rng r.f0 && rng r.f1) && (partOk r.f2 r.f3 && partOk r.f4 r.f5)
/-- Lengths that can be told. -/
def Lens (r : S32) : Prop := r.f3.length ≤ 9223372036854775807 ∧ r.f5.length ≤ 9223372036854775807
theorem RecordValid_ev (r : S32) (hr : Lens r) : Ev (fun k => impl_RecordValid.f k r.f0 r.f1 r.f2 r.f3 r.f4 r.f5) (recOk r) := by
  unfold impl_RecordValid.f recOk impl_baseValid.f
  simp only [within_ev, Option.bind_some]
  change Ev (fun k => ((if rng r.f0 = true then some (rng r.f1) else some false)).bind _) _
  cases rng r.f0
  · simp only [Bool.false_eq_true, if_false, Option.bind_some, Bool.false_and]
    exact Ev.now _
  · cases rng r.f1
    · simp only [if_true, Option.bind_some, Bool.false_eq_true, if_false, Bool.true_and, Bool.false_and]
      exact Ev.now _
    · simp only [if_true, Option.bind_some, Bool.true_and]
      refine Ev.bind (partValid_ev _ _ hr.1) ?_
      cases partOk r.f2 r.f3
      · exact Ev.now _
      · simp only [if_true, Bool.true_and]
        exact Ev.bind (partValid_ev _ _ hr.2) (Ev.now _)
theorem sRecordValid_ev (r : S32) (hr : Lens r) : Ev (fun k => spec_RecordValid.f k r.f0 r.f1 r.f2 r.f3 r.f4 r.f5) (recOk r) := by
  unfold spec_RecordValid.f recOk
  simp only [in_ev, Option.bind_some]
  change Ev (fun k => if rng r.f0 = true then (if rng r.f1 = true then _ else some false) else some false) _
  cases rng r.f0
  · simp only [Bool.false_eq_true, if_false, Bool.false_and]
    exact Ev.now _
  · cases rng r.f1
    · simp only [if_true, Bool.false_eq_true, if_false, Bool.true_and, Bool.false_and]
      exact Ev.now _
    · simp only [if_true, Bool.true_and]
      refine Ev.bind (l3Part_ev _ _ hr.1) ?_
      cases partOk r.f2 r.f3
      · exact Ev.now _
      · simp only [if_true, Bool.true_and]
        exact Ev.bind (l3Part_ev _ _ hr.2) (Ev.now _)
theorem rdR_nat (l : List S32) (i : Nat) (h : i < l.length) : rd_T32 l (i : Int) = l[i] := by
  unfold rd_T32
  simp [h]
end Go.Proofs.Ytahenocndacjeaa.Pu

namespace Go.Proofs.Ytahenocndacjeaa.Pu
open Go.RowKit Go.Proofs.YtahenocndacjeaaW.PrintWords Go.Proofs.YtahenocndacjeaaW.PrintLast Go.Proofs.Ytahenocndacjeaa.G
set_option linter.unusedVariables false
set_option linter.unusedSimpArgs false
def cvR (r : S79) : S32 := ⟨r.f0, r.f1, r.f2, r.f3, r.f4, r.f5⟩
theorem rdLR_nat (l : List S79) (i : Nat) (h : i < l.length) : rd_T79 l (i : Int) = l[i] := by
  unfold rd_T79
  simp [h]
theorem szIntS_some (l : List Int) (a : Int) (hl : l.length ≤ 9223372036854775807) (h0 : 0 ≤ a) (h1 : a ≤ 1048576) :
    laws_szIntS.f l a = some (if a - (l.length : Int) < 0 then -1 else a - (l.length : Int)) := by
  unfold laws_szIntS.f
  rw [w64 (a := a - (l.length : Int)) (by omega) (by omega)]
  split <;> rfl
/-- What a row of sizes tells: it is too much, or something is left and all is small. -/
def SzR (r : S79) : Prop := r.f3.length ≤ 1048576 ∧ r.f5.length ≤ 1048576
theorem szRecord_some (r : S79) (a : Int) (hl : r.f3.length ≤ 9223372036854775807 ∧ r.f5.length ≤ 9223372036854775807) (h0 : 0 ≤ a) (h1 : a ≤ 1048576) :
    ∃ t, laws_szRecord.f r.f0 r.f1 r.f2 r.f3 r.f4 r.f5 a = some t ∧ (t < 0 ∨ (0 ≤ t ∧ t ≤ a ∧ SzR r)) := by
  unfold laws_szRecord.f
  rw [szIntS_some _ _ hl.1 h0 h1, bindS]
  by_cases h : a - (r.f3.length : Int) < 0
  · rw [if_pos h, if_pos (by omega)]
    exact ⟨_, rfl, .inl (by omega)⟩
  · rw [if_neg h, if_neg h, szIntS_some _ _ hl.2 (by omega) (by omega), bindS]
    by_cases h2 : a - (r.f3.length : Int) - (r.f5.length : Int) < 0
    · rw [if_pos h2, if_pos (by omega)]
      exact ⟨_, rfl, .inl (by omega)⟩
    · rw [if_neg h2, if_neg h2]
      exact ⟨_, rfl, .inr ⟨by omega, by omega, by omega, by omega⟩⟩
theorem szRecordS_loop (l : List S79) (hl : l.length ≤ 9223372036854775807) (hs : ∀ r ∈ l, r.f3.length ≤ 9223372036854775807 ∧ r.f5.length ≤ 9223372036854775807) : ∀ d i (a : Int), l.length - i = d → 0 ≤ a → a ≤ 1048576 →
    EndsIn (fun k => laws_szRecordS.l0 k l a (i : Int)) (fun t => t < 0 ∨ (0 ≤ t ∧ t ≤ a ∧ ∀ r ∈ l.drop i, SzR r)) := by
  intro d
  induction d with
  | zero =>
    intro i a hi h0 h1
    refine EndsIn.step (fun k => by rw [laws_szRecordS.l0]) ?_
    simp only [if_neg (show ¬ ((i : Int) < (l.length : Int)) by omega)]
    refine EndsIn.now _ (.inr ⟨h0, by omega, ?_⟩)
    rw [List.drop_of_length_le (by omega)]
    simp
  | succ d ih =>
    intro i a hi h0 h1
    have hlt : i < l.length := by omega
    refine EndsIn.step (fun k => by rw [laws_szRecordS.l0]) ?_
    obtain ⟨t, ht, hc⟩ := szRecord_some l[i] a (hs _ (List.getElem_mem hlt)) h0 h1
    simp only [if_pos (show ((i : Int) < (l.length : Int)) by omega), if_pos (show (0 : Int) ≤ (i : Int) by omega), rdLR_nat l i hlt, ht, bindS, w64 (a := (i : Int) + 1) (by omega) (by omega)]
    rcases hc with h | ⟨h2, h3, h4⟩
    · simp only [if_pos h]
      exact EndsIn.now _ (.inl (by omega))
    · simp only [if_neg (show ¬ t < 0 by omega)]
      refine (ih (i + 1) t (by omega) h2 (by omega)).mono fun q hq => ?_
      rcases hq with hq | ⟨q0, q1, q2⟩
      · exact .inl hq
      · refine .inr ⟨q0, by omega, ?_⟩
        rw [List.drop_eq_getElem_cons hlt]
        intro g hg
        rcases List.mem_cons.1 hg with rfl | hg
        · exact h4
        · exact q2 g hg
theorem szRecordS_ends (l : List S79) (hl : l.length ≤ 9223372036854775807) (hs : ∀ r ∈ l, r.f3.length ≤ 9223372036854775807 ∧ r.f5.length ≤ 9223372036854775807) (a : Int) (h0 : 0 ≤ a) (h1 : a ≤ 1048576) :
    EndsIn (fun k => laws_szRecordS.f k l a) (fun t => t < 0 ∨ (0 ≤ t ∧ t ≤ a ∧ l.length ≤ 1048576 ∧ ∀ r ∈ l, SzR r)) := by
  unfold laws_szRecordS.f
  rw [w64 (a := a - (l.length : Int)) (by omega) (by omega)]
  by_cases h : a - (l.length : Int) < 0
  · simp only [if_pos h]
    exact EndsIn.now _ (.inl (by omega))
  · simp only [if_neg h]
    refine (szRecordS_loop l hl hs l.length 0 _ (by omega) (by omega) (by omega)).mono fun r hr => ?_
    rcases hr with hr | ⟨q0, q1, q2⟩
    · exact .inl hr
    · exact .inr ⟨q0, by omega, by omega, by simpa using q2⟩
theorem toIntS_loop (l : List Int) (hl : l.length ≤ 1048576) : ∀ d i, l.length - i = d → i ≤ l.length →
    Ev (fun k => laws_toIntS.l0 k l ((l.take i).map (fun x => x) ++ List.replicate (l.length - i) 0) (i : Int)) l := by
  intro d
  induction d with
  | zero =>
    intro i hi hle
    obtain rfl : i = l.length := by omega
    refine Ev.step (fun k => by rw [laws_toIntS.l0]) ?_
    simp only [if_neg (show ¬ ((l.length : Int) < (l.length : Int)) by omega), List.take_length, Nat.sub_self, List.replicate_zero, List.append_nil, List.map_id']
    exact Ev.now _
  | succ d ih =>
    intro i hi hle
    have hlt : i < l.length := by omega
    refine Ev.step (fun k => by rw [laws_toIntS.l0]) ?_
    simp only [if_pos (show ((i : Int) < (l.length : Int)) by omega), if_pos (show (0 : Int) ≤ (i : Int) by omega), rdi_nat l i hlt, fill_len (fun x : Int => x) 0 l i hle, w64 (a := (i : Int) + 1) (by omega) (by omega), Int.toNat_natCast]
    have := ih (i + 1) (by omega) (by omega)
    rw [← fill_set (fun x : Int => x) 0 l i hlt] at this
    exact this
theorem toIntS_ev (l : List Int) (hl : l.length ≤ 1048576) : Ev (fun k => laws_toIntS.f k l) l := by
  unfold laws_toIntS.f
  simp only [if_pos (show (0 : Int) ≤ (l.length : Int) by omega), Int.toNat_natCast, if_pos (show l.length ≤ 35184372088832 by omega)]
  have := toIntS_loop l hl l.length 0 (by omega) (by omega)
  simpa using this
theorem toRecord_ev (r : S79) (h : SzR r) : Ev (fun k => laws_toRecord.f k r.f0 r.f1 r.f2 r.f3 r.f4 r.f5) (r.f0, r.f1, r.f2, r.f3, r.f4, r.f5) := by
  unfold laws_toRecord.f
  exact Ev.bind (toIntS_ev _ h.1) (Ev.bind (toIntS_ev _ h.2) (Ev.now _))
theorem toRecordS_loop (l : List S79) (hl : l.length ≤ 1048576) (hs : ∀ r ∈ l, SzR r) : ∀ d i, l.length - i = d → i ≤ l.length →
    Ev (fun k => laws_toRecordS.l0 k l ((l.take i).map cvR ++ List.replicate (l.length - i) z32) (i : Int)) (l.map cvR) := by
  intro d
  induction d with
  | zero =>
    intro i hi hle
    obtain rfl : i = l.length := by omega
    refine Ev.step (fun k => by rw [laws_toRecordS.l0]) ?_
    simp only [if_neg (show ¬ ((l.length : Int) < (l.length : Int)) by omega), List.take_length, Nat.sub_self, List.replicate_zero, List.append_nil]
    exact Ev.now _
  | succ d ih =>
    intro i hi hle
    have hlt : i < l.length := by omega
    refine Ev.step (fun k => by rw [laws_toRecordS.l0]) ?_
    simp only [if_pos (show ((i : Int) < (l.length : Int)) by omega), if_pos (show (0 : Int) ≤ (i : Int) by omega), rdLR_nat l i hlt, fill_len cvR z32 l i hle, w64 (a := (i : Int) + 1) (by omega) (by omega), Int.toNat_natCast]
    refine Ev.bind (toRecord_ev l[i] (hs _ (List.getElem_mem _))) ?_
    have := ih (i + 1) (by omega) (by omega)
    rw [← fill_set cvR z32 l i hlt] at this
    exact this
theorem toRecordS_ev (l : List S79) (hl : l.length ≤ 1048576) (hs : ∀ r ∈ l, SzR r) : Ev (fun k => laws_toRecordS.f k l) (l.map cvR) := by
  unfold laws_toRecordS.f
  simp only [if_pos (show (0 : Int) ≤ (l.length : Int) by omega), Int.toNat_natCast, if_pos (show l.length ≤ 3518437208883 by omega)]
  have := toRecordS_loop l hl hs l.length 0 (by omega) (by omega)
  simpa using this
theorem all_true {α} (l : List α) : l.all (fun _ => true) = true := List.all_eq_true.2 (fun _ _ => rfl)
theorem eqIntS_ev (l : List Int) (hl : l.length ≤ 9223372036854775807) : Ev (fun k => laws_eqIntS.f k l l) true := by
  unfold laws_eqIntS.f
  simp only [if_true]
  have := ev_all l hl (fun k i => laws_eqIntS.l0 k l l i) (fun k i => some true) (fun _ => true) true
    (fun k => by simp only [laws_eqIntS.l0]; rw [if_neg (by omega)])
    (fun k i h => by simp only [laws_eqIntS.l0]; rw [if_pos (by omega), if_pos (by omega), if_pos (by omega), if_true]; rfl)
    (fun i h => Ev.now _) l.length 0 (by omega) (by omega)
  rw [all_true] at this
  simpa using this
theorem eqRecord_ev (r : S32) (h : Lens r) : Ev (fun k => laws_eqRecord.f k r.f0 r.f1 r.f2 r.f3 r.f4 r.f5 r.f0 r.f1 r.f2 r.f3 r.f4 r.f5) true := by
  unfold laws_eqRecord.f
  simp only [if_true, bne_self_eq_false, Bool.false_eq_true, if_false]
  refine Ev.bind (eqIntS_ev _ h.1) ?_
  simp only [if_true]
  exact Ev.bind (eqIntS_ev _ h.2) (Ev.now _)
theorem eqRecordS_ev (l : List S32) (hl : l.length ≤ 9223372036854775807) (hs : ∀ r ∈ l, Lens r) : Ev (fun k => laws_eqRecordS.f k l l) true := by
  unfold laws_eqRecordS.f
  simp only [if_true]
  have := ev_all l hl (fun k i => laws_eqRecordS.l0 k l l i) (fun k i => laws_eqRecord.f k (rd_T32 l i).f0 (rd_T32 l i).f1 (rd_T32 l i).f2 (rd_T32 l i).f3 (rd_T32 l i).f4 (rd_T32 l i).f5 (rd_T32 l i).f0 (rd_T32 l i).f1 (rd_T32 l i).f2 (rd_T32 l i).f3 (rd_T32 l i).f4 (rd_T32 l i).f5) (fun _ => true) true
    (fun k => by simp only [laws_eqRecordS.l0]; rw [if_neg (by omega)])
    (fun k i h => by simp only [laws_eqRecordS.l0]; rw [if_pos (by omega), if_pos (by omega), if_pos (by omega)])
    (fun i h => by rw [rdR_nat l i h]; exact eqRecord_ev _ (hs _ (List.getElem_mem _))) l.length 0 (by omega) (by omega)
  rw [all_true] at this
  simpa using this
theorem lens_cv {l : List S79} (hs : ∀ r ∈ l, SzR r) : ∀ r ∈ l.map cvR, Lens r := by
  intro r hr
  obtain ⟨x, hx, rfl⟩ := List.mem_map.1 hr
  have := hs x hx
  exact ⟨by have := this.1; show x.f3.length ≤ _; omega, by have := this.2; show x.f5.length ≤ _; omega⟩
end Go.Proofs.Ytahenocndacjeaa.Pu

namespace Go.Proofs.Ytahenocndacjeaa.Pu
open Go.RowKit Go.Proofs.YtahenocndacjeaaW.PrintWords Go.Proofs.YtahenocndacjeaaW.PrintLast Go.Proofs.YtahenocndacjeaaW.PrintMore Go.Proofs.Ytahenocndacjeaa.G
set_option linter.unusedVariables false
set_option linter.unusedSimpArgs false
/-- A loop over places that asks each one, and stops at the first that says no. -/
theorem ev_idx {n : Nat} (hn : n ≤ 9223372036854775807) (L : Nat → Int → Option Bool) (p : Nat → Bool) (last : Bool) (hend : Ev (fun k => L k (n : Int)) last)
    (hstep : ∀ i r, i < n → (p i = true → Ev (fun k => L k ((i : Int) + 1)) r) → (p i = false → r = false) → Ev (fun k => L k (i : Int)) r) :
    ∀ d i, n - i = d → i ≤ n → Ev (fun k => L k (i : Int)) ((List.range' i d).all p && last) := by
  intro d
  induction d with
  | zero =>
    intro i hd hi
    obtain rfl : i = n := by omega
    exact hend
  | succ d ih =>
    intro i hd hi
    refine hstep i _ (by omega) (fun hp => ?_) (fun hp => ?_)
    · rw [List.range'_succ, List.all_cons, hp, Bool.true_and]
      exact_mod_cast ih (i + 1) (by omega) (by omega)
    · rw [List.range'_succ, List.all_cons, hp, Bool.false_and, Bool.false_and]
def recStep (l : List S32) (i : Nat) : Bool := recOk (rd_T32 l (i : Int)) && (decide (i = 0) || decide ((rd_T32 l ((i : Int) - 1)).f0 < (rd_T32 l (i : Int)).f0))
def recsInc (l : List S32) : Bool := (List.range' 0 l.length).all (recStep l)
def lenOk (l : List S32) : Bool := decide (1 ≤ (l.length : Int)) && decide ((l.length : Int) ≤ 6)
/-- Rows of records that can be told. -/
def RowR (l : List S32) : Prop := l.length ≤ 9223372036854775807 ∧ ∀ r ∈ l, Lens r
theorem RowR.rd {l : List S32} (h : RowR l) (i : Nat) (hi : i < l.length) : Lens (rd_T32 l (i : Int)) := by
  rw [rdR_nat l i hi]
  exact h.2 _ (List.getElem_mem _)
def batOk (b : S29) : Bool :=
  (if b.f2 = 255 then decide (b.f3 = 0) && (decide (b.f4 = 0) && !b.f1) else (decide (0 ≤ b.f2) && decide (b.f2 ≤ 254)) && ((decide (0 ≤ b.f3) && decide (b.f3 ≤ 99)) && (decide (0 ≤ b.f4) && decide (b.f4 ≤ 9999))))
   && (lenOk b.f5 && ((!b.f1 || decide ((b.f5.length : Int) = 1)) && recsInc b.f5))
theorem batchLoop_ev (b : S29) (hb : RowR b.f5) : Ev (fun k => impl_BatchValid.l0 k b.f5 (b.f5.length : Int) 0 b.f0 b.f1 b.f2 b.f3 b.f4 b.f5) (recsInc b.f5) := by
  have hl := hb.1
  have := ev_idx (n := b.f5.length) hb.1 (fun k i => impl_BatchValid.l0 k b.f5 (b.f5.length : Int) i b.f0 b.f1 b.f2 b.f3 b.f4 b.f5) (recStep b.f5) true
    (Ev.step (fun k => by rw [impl_BatchValid.l0]) (by simp only [if_neg (show ¬ ((b.f5.length : Int) < (b.f5.length : Int)) by omega)]; exact Ev.now _))
    (fun i r hi hgo hno => by
      refine Ev.step (fun k => by rw [impl_BatchValid.l0]) ?_
      simp only [if_pos (show (i : Int) < (b.f5.length : Int) by omega), if_pos (show (0 : Int) ≤ (i : Int) by omega)]
      refine Ev.bind (RecordValid_ev _ (hb.rd i hi)) ?_
      unfold recStep at hgo hno
      cases hp : recOk (rd_T32 b.f5 (i : Int))
      · obtain rfl := hno (by rw [hp, Bool.false_and])
        simp only [Bool.false_eq_true, if_false]
        exact Ev.now _
      · simp only [if_true]
        rw [hp, Bool.true_and] at hgo hno
        by_cases h0 : i = 0
        · subst h0
          simp only [if_neg (show ¬ (((0 : Nat) : Int) > 0) by omega), w64 (a := ((0 : Nat) : Int) + 1) (by omega) (by omega)]
          exact hgo (by simp)
        · simp only [if_pos (show (i : Int) > 0 by omega), w64 (a := (i : Int) - 1) (by omega) (by omega), w64 (a := (i : Int) + 1) (by omega) (by omega), if_pos (show (0 : Int) ≤ (i : Int) - 1 by omega), if_pos (show (i : Int) - 1 < (b.f5.length : Int) by omega)]
          by_cases hc : (rd_T32 b.f5 ((i : Int) - 1)).f0 ≥ (rd_T32 b.f5 (i : Int)).f0
          · obtain rfl := hno (by rw [decide_eq_false h0, decide_eq_false (by omega), Bool.or_false])
            simp only [if_pos hc]
            exact Ev.now _
          · simp only [if_neg hc]
            exact hgo (by rw [decide_eq_true (by omega : (rd_T32 b.f5 ((i : Int) - 1)).f0 < (rd_T32 b.f5 (i : Int)).f0), Bool.or_true]))
    b.f5.length 0 (by omega) (by omega)
  rw [Bool.and_true] at this
  exact this
theorem batch_j1 (b : S29) (hb : RowR b.f5) (c : Bool) : Ev (fun k => impl_BatchValid.j1 k c b.f0 b.f1 b.f2 b.f3 b.f4 b.f5) (!c && recsInc b.f5) := by
  refine Ev.step (fun k => by rw [impl_BatchValid.j1]) ?_
  cases c
  · simp only [Bool.false_eq_true, if_false, Bool.not_false, Bool.true_and]
    exact batchLoop_ev b hb
  · simp only [if_true, Bool.not_true, Bool.false_and]
    exact Ev.now _
theorem batch_j0 (b : S29) (hb : RowR b.f5) : Ev (fun k => impl_BatchValid.j0 k b.f0 b.f1 b.f2 b.f3 b.f4 b.f5) (lenOk b.f5 && ((!b.f1 || decide ((b.f5.length : Int) = 1)) && recsInc b.f5)) := by
  refine Ev.step (fun k => by rw [impl_BatchValid.j0]) ?_
  simp only [within_ev, bindS]
  change Ev (fun k => if lenOk b.f5 = true then _ else _) _
  cases lenOk b.f5
  · simp only [Bool.false_eq_true, if_false, Bool.false_and]
    exact batch_j1 b hb true
  · simp only [if_true, Bool.true_and]
    cases hm : b.f1
    · simp only [Bool.false_eq_true, if_false, Bool.not_false, Bool.true_or, Bool.true_and]
      have := batch_j1 b hb false
      rw [hm] at this
      exact this
    · simp only [if_true, Bool.not_true, Bool.false_or]
      have := batch_j1 b hb ((b.f5.length : Int) != 1)
      rw [hm] at this
      have e : (!((b.f5.length : Int) != 1)) = decide ((b.f5.length : Int) = 1) := by
        rw [Bool.eq_iff_iff]
        simp
      rw [e] at this
      exact this
theorem BatchValid_ev (b : S29) (hb : RowR b.f5) : Ev (fun k => impl_BatchValid.f k b.f0 b.f1 b.f2 b.f3 b.f4 b.f5) (batOk b) := by
  unfold impl_BatchValid.f batOk impl_idValid.f
  by_cases h : b.f2 = 255
  · simp only [if_pos h]
    by_cases h3 : b.f3 = 0
    · simp only [if_pos h3, decide_eq_true h3, Bool.true_and]
      by_cases h4 : b.f4 = 0
      · simp only [if_pos h4, decide_eq_true h4, Bool.true_and]
        cases hm : b.f1
        · have := batch_j0 b hb
          rw [hm] at this
          simpa only [Bool.false_eq_true, if_false, Bool.not_false, Bool.true_and] using this
        · simp only [if_true, Bool.not_true, Bool.false_and]
          exact Ev.now _
      · simp only [if_neg h4, decide_eq_false h4, Bool.false_and]
        exact Ev.now _
    · simp only [if_neg h3, decide_eq_false h3, Bool.false_and]
      exact Ev.now _
  · simp only [if_neg h, within_ev, bindS]
    cases (decide (0 ≤ b.f2) && decide (b.f2 ≤ 254))
    · simp only [Bool.false_eq_true, if_false, Bool.false_and]
      exact Ev.now _
    · simp only [if_true, Bool.true_and]
      cases (decide (0 ≤ b.f3) && decide (b.f3 ≤ 99))
      · simp only [Bool.false_eq_true, if_false, Bool.false_and]
        exact Ev.now _
      · simp only [if_true, Bool.true_and]
        cases (decide (0 ≤ b.f4) && decide (b.f4 ≤ 9999))
        · simp only [Bool.false_eq_true, if_false, Bool.false_and]
          exact Ev.now _
        · simp only [if_true, Bool.true_and]
          exact batch_j0 b hb
theorem l5Records_ev (l : List S32) (hb : RowR l) : Ev (fun k => spec_l5Records.f k l) (recsInc l && lenOk l) := by
  have hl := hb.1
  unfold spec_l5Records.f
  have := ev_idx (n := l.length) hb.1 (fun k i => spec_l5Records.l0 k l i) (recStep l) (lenOk l)
    (Ev.step (fun k => by rw [spec_l5Records.l0]) (by simp only [if_neg (show ¬ ((l.length : Int) < (l.length : Int)) by omega), in_ev, bindS]; exact Ev.now _))
    (fun i r hi hgo hno => by
      refine Ev.step (fun k => by rw [spec_l5Records.l0]) ?_
      simp only [if_pos (show (i : Int) < (l.length : Int) by omega), if_pos (show (0 : Int) ≤ (i : Int) by omega)]
      refine Ev.bind (sRecordValid_ev _ (hb.rd i hi)) ?_
      unfold recStep at hgo hno
      cases hp : recOk (rd_T32 l (i : Int))
      · obtain rfl := hno (by rw [hp, Bool.false_and])
        simp only [Bool.false_eq_true, if_false]
        exact Ev.now _
      · simp only [if_true]
        rw [hp, Bool.true_and] at hgo hno
        by_cases h0 : i = 0
        · subst h0
          simp only [if_neg (show ¬ (((0 : Nat) : Int) > 0) by omega), w64 (a := ((0 : Nat) : Int) + 1) (by omega) (by omega)]
          exact hgo (by simp)
        · simp only [if_pos (show (i : Int) > 0 by omega), w64 (a := (i : Int) - 1) (by omega) (by omega), w64 (a := (i : Int) + 1) (by omega) (by omega), if_pos (show (0 : Int) ≤ (i : Int) - 1 by omega), if_pos (show (i : Int) - 1 < (l.length : Int) by omega)]
          by_cases hc : (rd_T32 l ((i : Int) - 1)).f0 ≥ (rd_T32 l (i : Int)).f0
          · obtain rfl := hno (by rw [decide_eq_false h0, decide_eq_false (by omega), Bool.or_false])
            simp only [if_pos hc]
            exact Ev.now _
          · simp only [if_neg hc]
            exact hgo (by rw [decide_eq_true (by omega : (rd_T32 l ((i : Int) - 1)).f0 < (rd_T32 l (i : Int)).f0), Bool.or_true]))
    l.length 0 (by omega) (by omega)
  exact this
def batTail (b : S29) : Bool := if b.f2 = 255 then decide (b.f3 = 0) && (decide (b.f4 = 0) && !b.f1) else (!b.f1 || decide ((b.f5.length : Int) = 1))
theorem sbatch_j0 (b : S29) (c : Bool) : Ev (fun k => spec_BatchValid.j0 k c b.f0 b.f1 b.f2 b.f3 b.f4 b.f5) (!c && batTail b) := by
  refine Ev.step (fun k => by rw [spec_BatchValid.j0]) ?_
  unfold batTail
  cases c
  · simp only [Bool.false_eq_true, if_false, Bool.not_false, Bool.true_and]
    by_cases h : b.f2 = 255
    · simp only [if_pos h]
      by_cases h3 : b.f3 = 0
      · simp only [if_pos h3, decide_eq_true h3, Bool.true_and]
        by_cases h4 : b.f4 = 0
        · simp only [if_pos h4, decide_eq_true h4, Bool.true_and]
          exact Ev.now _
        · simp only [if_neg h4, decide_eq_false h4, Bool.false_and]
          exact Ev.now _
      · simp only [if_neg h3, decide_eq_false h3, Bool.false_and]
        exact Ev.now _
    · simp only [if_neg h]
      cases b.f1
      · exact Ev.now _
      · simp only [if_true, Bool.not_true, Bool.false_or]
        rw [show ((b.f5.length : Int) == 1) = decide ((b.f5.length : Int) = 1) by rw [Bool.eq_iff_iff]; simp]
        exact Ev.now _
  · simp only [if_true, Bool.not_true, Bool.false_and]
    exact Ev.now _
theorem sBatchValid_ev (b : S29) (hb : RowR b.f5) : Ev (fun k => spec_BatchValid.f k b.f0 b.f1 b.f2 b.f3 b.f4 b.f5) (batOk b) := by
  have e : batOk b = ((recsInc b.f5 && lenOk b.f5) && ((decide (0 ≤ b.f2) && decide (b.f2 ≤ 255)) && ((decide (0 ≤ b.f3) && decide (b.f3 ≤ 99)) && ((decide (0 ≤ b.f4) && decide (b.f4 ≤ 9999)) && batTail b)))) := by
    unfold batOk batTail
    by_cases h : b.f2 = 255
    · rw [if_pos h, if_pos h, h]
      cases recsInc b.f5
      · simp
      · rw [Bool.eq_iff_iff]
        simp only [lenOk, Bool.and_eq_true, Bool.or_eq_true, decide_eq_true_eq, Bool.not_eq_true']
        constructor
        · rintro ⟨⟨h3, h4, h1⟩, hl, hm, _⟩
          exact ⟨⟨trivial, hl⟩, ⟨by omega, by omega⟩, ⟨by omega, by omega⟩, ⟨by omega, by omega⟩, h3, h4, h1⟩
        · rintro ⟨⟨_, hl⟩, _, _, _, h3, h4, h1⟩
          exact ⟨⟨h3, h4, h1⟩, hl, .inl h1, trivial⟩
    · rw [if_neg h, if_neg h]
      rw [Bool.eq_iff_iff]
      simp only [Bool.and_eq_true, decide_eq_true_eq]
      constructor
      · rintro ⟨⟨h2, h3, h4⟩, hl, hm, hr⟩
        exact ⟨⟨hr, hl⟩, ⟨by omega, by omega⟩, h3, h4, hm⟩
      · rintro ⟨⟨hr, hl⟩, h2, h3, h4, hm⟩
        exact ⟨⟨⟨by omega, by omega⟩, h3, h4⟩, hl, hm, hr⟩
  rw [e]
  unfold spec_BatchValid.f
  have bad := sbatch_j0 b true
  simp only [Bool.not_true, Bool.false_and] at bad
  refine Ev.bind (l5Records_ev b.f5 hb) ?_
  cases (recsInc b.f5 && lenOk b.f5)
  · exact bad
  · simp only [if_true, Bool.true_and, in_ev, bindS]
    cases (decide (0 ≤ b.f2) && decide (b.f2 ≤ 255))
    · exact bad
    · simp only [if_true, Bool.true_and]
      cases (decide (0 ≤ b.f3) && decide (b.f3 ≤ 99))
      · exact bad
      · simp only [if_true, Bool.true_and]
        have := sbatch_j0 b (!(decide (0 ≤ b.f4) && decide (b.f4 ≤ 9999)))
        rw [Bool.not_not] at this
        exact this
/-! rows of batches -/
theorem rdB_nat (l : List S29) (i : Nat) (h : i < l.length) : rd_T29 l (i : Int) = l[i] := by
  unfold rd_T29
  simp [h]
def lastOf (b : S29) : Int := (rd_T32 b.f5 ((b.f5.length : Int) - 1)).f0
def firstOf (b : S29) : Int := (rd_T32 b.f5 0).f0
def batStep (l : List S29) (i : Nat) : Bool := batOk (rd_T29 l (i : Int)) && (decide (i = 0) || decide (lastOf (rd_T29 l ((i : Int) - 1)) < firstOf (rd_T29 l (i : Int))))
def logOk (l : List S29) : Bool := (List.range' 0 l.length).all (batStep l) && decide ((l.length : Int) ≤ 8)
/-- Rows of batches that can be told. -/
def RowB (l : List S29) : Prop := l.length ≤ 9223372036854775807 ∧ ∀ b ∈ l, RowR b.f5
theorem RowB.rd {l : List S29} (h : RowB l) (i : Nat) (hi : i < l.length) : RowR (rd_T29 l (i : Int)).f5 := by
  rw [rdB_nat l i hi]
  exact h.2 _ (List.getElem_mem _)
theorem batOk_len {b : S29} (h : batOk b = true) : 1 ≤ b.f5.length ∧ b.f5.length ≤ 6 := by
  unfold batOk lenOk at h
  simp only [Bool.and_eq_true, decide_eq_true_eq] at h
  have := h.2.1
  omega
/-- What came so far in a walk over a valid row: the batch ahead is valid. -/
theorem LogValid_loop (l : List S29) (hb : RowB l) (L : Nat → Int → Option Bool) (last : Bool) (hend : Ev (fun k => L k (l.length : Int)) last)
    (hstep : ∀ i r, i < l.length → (i ≠ 0 → 1 ≤ (rd_T29 l ((i : Int) - 1)).f5.length ∧ (rd_T29 l ((i : Int) - 1)).f5.length ≤ 6) → (batStep l i = true → Ev (fun k => L k ((i : Int) + 1)) r) → (batStep l i = false → r = false) → Ev (fun k => L k (i : Int)) r) :
    ∀ d i, l.length - i = d → i ≤ l.length → (i ≠ 0 → 1 ≤ (rd_T29 l ((i : Int) - 1)).f5.length ∧ (rd_T29 l ((i : Int) - 1)).f5.length ≤ 6) → Ev (fun k => L k (i : Int)) ((List.range' i d).all (batStep l) && last) := by
  intro d
  induction d with
  | zero =>
    intro i hd hi _
    obtain rfl : i = l.length := by omega
    exact hend
  | succ d ih =>
    intro i hd hi hbe
    refine hstep i _ (by omega) hbe (fun hp => ?_) (fun hp => ?_)
    · rw [List.range'_succ, List.all_cons, hp, Bool.true_and]
      have ho : batOk (rd_T29 l (i : Int)) = true := by
        unfold batStep at hp
        exact (Bool.and_eq_true_iff.1 hp).1
      have := ih (i + 1) (by omega) (by omega) (fun _ => by rw [show ((i + 1 : Nat) : Int) - 1 = (i : Int) by omega]; exact batOk_len ho)
      exact_mod_cast this
    · rw [List.range'_succ, List.all_cons, hp, Bool.false_and, Bool.false_and]
theorem LogValid_ev (l : List S29) (hb : RowB l) : Ev (fun k => impl_LogValid.f k l) (logOk l) := by
  have hl := hb.1
  unfold impl_LogValid.f logOk
  by_cases h8 : (l.length : Int) > 8
  · simp only [if_pos h8, decide_eq_false (show ¬ ((l.length : Int) ≤ 8) by omega), Bool.and_false]
    exact Ev.now _
  · simp only [if_neg h8, decide_eq_true (show (l.length : Int) ≤ 8 by omega)]
    refine LogValid_loop l hb (fun k i => impl_LogValid.l0 k l l (l.length : Int) i) true
      (Ev.step (fun k => by rw [impl_LogValid.l0]) (by simp only [if_neg (show ¬ ((l.length : Int) < (l.length : Int)) by omega)]; exact Ev.now _))
      (fun i r hi hbe hgo hno => ?_) l.length 0 (by omega) (by omega) (fun h => absurd rfl h)
    refine Ev.step (fun k => by rw [impl_LogValid.l0]) ?_
    simp only [if_pos (show (i : Int) < (l.length : Int) by omega), if_pos (show (0 : Int) ≤ (i : Int) by omega)]
    refine Ev.bind (BatchValid_ev _ (hb.rd i hi)) ?_
    unfold batStep at hgo hno
    cases hp : batOk (rd_T29 l (i : Int))
    · obtain rfl := hno (by rw [hp, Bool.false_and])
      simp only [Bool.false_eq_true, if_false]
      exact Ev.now _
    · simp only [if_true]
      rw [hp, Bool.true_and] at hgo hno
      have hne := batOk_len hp
      by_cases h0 : i = 0
      · subst h0
        simp only [if_neg (show ¬ (((0 : Nat) : Int) > 0) by omega), w64 (a := ((0 : Nat) : Int) + 1) (by omega) (by omega)]
        exact hgo (by simp)
      · obtain ⟨n1, n2⟩ := hbe h0
        simp only [if_pos (show (i : Int) > 0 by omega), w64 (a := (i : Int) - 1) (by omega) (by omega), w64 (a := (i : Int) + 1) (by omega) (by omega), if_pos (show (0 : Int) ≤ (i : Int) - 1 by omega), if_pos (show (i : Int) - 1 < (l.length : Int) by omega)]
        unfold impl_Batch_last.f impl_Batch_first.f
        simp only [w64 (a := ((rd_T29 l ((i : Int) - 1)).f5.length : Int) - 1) (by omega) (by omega), if_pos (show (0 : Int) ≤ ((rd_T29 l ((i : Int) - 1)).f5.length : Int) - 1 by omega), if_pos (show ((rd_T29 l ((i : Int) - 1)).f5.length : Int) - 1 < ((rd_T29 l ((i : Int) - 1)).f5.length : Int) by omega), if_pos (show (0 : Int) < ((rd_T29 l (i : Int)).f5.length : Int) by omega), bindS]
        change Ev (fun k => if lastOf (rd_T29 l ((i : Int) - 1)) ≥ firstOf (rd_T29 l (i : Int)) then _ else _) _
        by_cases hc : lastOf (rd_T29 l ((i : Int) - 1)) ≥ firstOf (rd_T29 l (i : Int))
        · obtain rfl := hno (by rw [decide_eq_false h0, decide_eq_false (by omega), Bool.or_false])
          simp only [if_pos hc]
          exact Ev.now _
        · simp only [if_neg hc]
          exact hgo (by rw [decide_eq_true (by omega : lastOf (rd_T29 l ((i : Int) - 1)) < firstOf (rd_T29 l (i : Int))), Bool.or_true])
theorem sLogValid_ev (l : List S29) (hb : RowB l) : Ev (fun k => spec_LogValid.f k l) (logOk l) := by
  have hl := hb.1
  unfold spec_LogValid.f logOk
  refine LogValid_loop l hb (fun k i => spec_LogValid.l0 k l i) _
    (Ev.step (fun k => by rw [spec_LogValid.l0]) (by simp only [if_neg (show ¬ ((l.length : Int) < (l.length : Int)) by omega)]; exact Ev.now _))
    (fun i r hi hbe hgo hno => ?_) l.length 0 (by omega) (by omega) (fun h => absurd rfl h)
  refine Ev.step (fun k => by rw [spec_LogValid.l0]) ?_
  simp only [if_pos (show (i : Int) < (l.length : Int) by omega), if_pos (show (0 : Int) ≤ (i : Int) by omega)]
  refine Ev.bind (sBatchValid_ev _ (hb.rd i hi)) ?_
  unfold batStep at hgo hno
  cases hp : batOk (rd_T29 l (i : Int))
  · obtain rfl := hno (by rw [hp, Bool.false_and])
    simp only [Bool.false_eq_true, if_false]
    exact Ev.now _
  · simp only [if_true]
    rw [hp, Bool.true_and] at hgo hno
    have hne := batOk_len hp
    by_cases h0 : i = 0
    · subst h0
      simp only [if_neg (show ¬ (((0 : Nat) : Int) > 0) by omega), w64 (a := ((0 : Nat) : Int) + 1) (by omega) (by omega)]
      exact hgo (by simp)
    · obtain ⟨n1, n2⟩ := hbe h0
      simp only [if_pos (show (i : Int) > 0 by omega), w64 (a := (i : Int) - 1) (by omega) (by omega), w64 (a := (i : Int) + 1) (by omega) (by omega), if_pos (show (0 : Int) ≤ (i : Int) - 1 by omega), if_pos (show (i : Int) - 1 < (l.length : Int) by omega)]
      unfold spec_l12Last.f
      simp only [w64 (a := ((rd_T29 l ((i : Int) - 1)).f5.length : Int) - 1) (by omega) (by omega), if_pos (show (0 : Int) ≤ ((rd_T29 l ((i : Int) - 1)).f5.length : Int) - 1 by omega), if_pos (show ((rd_T29 l ((i : Int) - 1)).f5.length : Int) - 1 < ((rd_T29 l ((i : Int) - 1)).f5.length : Int) by omega), if_pos (show (0 : Int) < ((rd_T29 l (i : Int)).f5.length : Int) by omega), bindS]
      change Ev (fun k => if lastOf (rd_T29 l ((i : Int) - 1)) ≥ firstOf (rd_T29 l (i : Int)) then _ else _) _
      by_cases hc : lastOf (rd_T29 l ((i : Int) - 1)) ≥ firstOf (rd_T29 l (i : Int))
      · obtain rfl := hno (by rw [decide_eq_false h0, decide_eq_false (by omega), Bool.or_false])
        simp only [if_pos hc]
        exact Ev.now _
      · simp only [if_neg hc]
        exact hgo (by rw [decide_eq_true (by omega : lastOf (rd_T29 l ((i : Int) - 1)) < firstOf (rd_T29 l (i : Int))), Bool.or_true])
/-! what a valid row is -/
theorem logOk_bat {l : List S29} (h : logOk l = true) (i : Nat) (hi : i < l.length) : batOk l[i] = true := by
  unfold logOk at h
  have := List.all_eq_true.1 (Bool.and_eq_true_iff.1 h).1 i (by simp [List.mem_range']; omega)
  unfold batStep at this
  rw [rdB_nat l i hi] at this
  exact (Bool.and_eq_true_iff.1 this).1
theorem batOk_rec {b : S29} (h : batOk b = true) (i : Nat) (hi : i < b.f5.length) : recOk b.f5[i] = true := by
  unfold batOk at h
  simp only [Bool.and_eq_true] at h
  have := List.all_eq_true.1 h.2.2.2 i (by simp [List.mem_range']; omega)
  unfold recStep at this
  rw [rdR_nat b.f5 i hi] at this
  exact (Bool.and_eq_true_iff.1 this).1
end Go.Proofs.Ytahenocndacjeaa.Pu

namespace Go.Proofs.Ytahenocndacjeaa.Pu
open Go.RowKit Go.Proofs.YtahenocndacjeaaW.PrintWords Go.Proofs.YtahenocndacjeaaW.PrintLast Go.Proofs.Ytahenocndacjeaa.G
set_option linter.unusedVariables false
set_option linter.unusedSimpArgs false
def cvB (b : S58) : S29 := ⟨b.f0, b.f1, b.f2, b.f3, b.f4, b.f5.map cvR⟩
theorem rdLB_nat (l : List S58) (i : Nat) (h : i < l.length) : rd_T58 l (i : Int) = l[i] := by
  unfold rd_T58
  simp [h]
def SzB (b : S58) : Prop := b.f5.length ≤ 1048576 ∧ ∀ r ∈ b.f5, SzR r
/-- Parts whose lengths can be told. -/
def LenB (b : S58) : Prop := b.f5.length ≤ 9223372036854775807 ∧ ∀ r ∈ b.f5, r.f3.length ≤ 9223372036854775807 ∧ r.f5.length ≤ 9223372036854775807
theorem szBatch_ends (b : S58) (hs : LenB b) (a : Int) (h0 : 0 ≤ a) (h1 : a ≤ 1048576) :
    EndsIn (fun k => laws_szBatch.f k b.f0 b.f1 b.f2 b.f3 b.f4 b.f5 a) (fun t => t < 0 ∨ (0 ≤ t ∧ t ≤ a ∧ SzB b)) := by
  unfold laws_szBatch.f
  refine EndsIn.bind (szRecordS_ends b.f5 hs.1 hs.2 a h0 h1) fun t ht => ?_
  by_cases h : t < 0
  · simp only [if_pos h]
    exact EndsIn.now _ (.inl (by omega))
  · simp only [if_neg h]
    obtain ⟨t0, t1, n, z⟩ := ht.resolve_left h
    exact EndsIn.now _ (.inr ⟨t0, t1, n, z⟩)
theorem szBatchS_loop (l : List S58) (hl : l.length ≤ 9223372036854775807) (hs : ∀ b ∈ l, LenB b) : ∀ d i (a : Int), l.length - i = d → 0 ≤ a → a ≤ 1048576 →
    EndsIn (fun k => laws_szBatchS.l0 k l a (i : Int)) (fun t => t < 0 ∨ (0 ≤ t ∧ t ≤ a ∧ ∀ r ∈ l.drop i, SzB r)) := by
  intro d
  induction d with
  | zero =>
    intro i a hi h0 h1
    refine EndsIn.step (fun k => by rw [laws_szBatchS.l0]) ?_
    simp only [if_neg (show ¬ ((i : Int) < (l.length : Int)) by omega)]
    refine EndsIn.now _ (.inr ⟨h0, by omega, ?_⟩)
    rw [List.drop_of_length_le (by omega)]
    simp
  | succ d ih =>
    intro i a hi h0 h1
    have hlt : i < l.length := by omega
    refine EndsIn.step (fun k => by rw [laws_szBatchS.l0]) ?_
    simp only [if_pos (show ((i : Int) < (l.length : Int)) by omega), if_pos (show (0 : Int) ≤ (i : Int) by omega), rdLB_nat l i hlt, w64 (a := (i : Int) + 1) (by omega) (by omega)]
    refine EndsIn.bind (szBatch_ends l[i] (hs _ (List.getElem_mem hlt)) a h0 h1) fun t hc => ?_
    by_cases h : t < 0
    · simp only [if_pos h]
      exact EndsIn.now _ (.inl (by omega))
    · obtain ⟨h2, h3, h4⟩ := hc.resolve_left h
      simp only [if_neg h]
      refine (ih (i + 1) t (by omega) h2 (by omega)).mono fun q hq => ?_
      rcases hq with hq | ⟨q0, q1, q2⟩
      · exact .inl hq
      · refine .inr ⟨q0, by omega, ?_⟩
        rw [List.drop_eq_getElem_cons hlt]
        intro g hg
        rcases List.mem_cons.1 hg with rfl | hg
        · exact h4
        · exact q2 g hg
theorem szBatchS_ends (l : List S58) (hl : l.length ≤ 9223372036854775807) (hs : ∀ b ∈ l, LenB b) (a : Int) (h0 : 0 ≤ a) (h1 : a ≤ 1048576) :
    EndsIn (fun k => laws_szBatchS.f k l a) (fun t => t < 0 ∨ (0 ≤ t ∧ t ≤ a ∧ l.length ≤ 1048576 ∧ ∀ r ∈ l, SzB r)) := by
  unfold laws_szBatchS.f
  rw [w64 (a := a - (l.length : Int)) (by omega) (by omega)]
  by_cases h : a - (l.length : Int) < 0
  · simp only [if_pos h]
    exact EndsIn.now _ (.inl (by omega))
  · simp only [if_neg h]
    refine (szBatchS_loop l hl hs l.length 0 _ (by omega) (by omega) (by omega)).mono fun r hr => ?_
    rcases hr with hr | ⟨q0, q1, q2⟩
    · exact .inl hr
    · exact .inr ⟨q0, by omega, by omega, by simpa using q2⟩
theorem toBatch_ev (b : S58) (h : SzB b) : Ev (fun k => laws_toBatch.f k b.f0 b.f1 b.f2 b.f3 b.f4 b.f5) (b.f0, b.f1, b.f2, b.f3, b.f4, b.f5.map cvR) := by
  unfold laws_toBatch.f
  exact Ev.bind (toRecordS_ev _ h.1 h.2) (Ev.now _)
theorem toBatchS_loop (l : List S58) (hl : l.length ≤ 1048576) (hs : ∀ r ∈ l, SzB r) : ∀ d i, l.length - i = d → i ≤ l.length →
    Ev (fun k => laws_toBatchS.l0 k l ((l.take i).map cvB ++ List.replicate (l.length - i) z29) (i : Int)) (l.map cvB) := by
  intro d
  induction d with
  | zero =>
    intro i hi hle
    obtain rfl : i = l.length := by omega
    refine Ev.step (fun k => by rw [laws_toBatchS.l0]) ?_
    simp only [if_neg (show ¬ ((l.length : Int) < (l.length : Int)) by omega), List.take_length, Nat.sub_self, List.replicate_zero, List.append_nil]
    exact Ev.now _
  | succ d ih =>
    intro i hi hle
    have hlt : i < l.length := by omega
    refine Ev.step (fun k => by rw [laws_toBatchS.l0]) ?_
    simp only [if_pos (show ((i : Int) < (l.length : Int)) by omega), if_pos (show (0 : Int) ≤ (i : Int) by omega), rdLB_nat l i hlt, fill_len cvB z29 l i hle, w64 (a := (i : Int) + 1) (by omega) (by omega), Int.toNat_natCast]
    refine Ev.bind (toBatch_ev l[i] (hs _ (List.getElem_mem _))) ?_
    have := ih (i + 1) (by omega) (by omega)
    rw [← fill_set cvB z29 l i hlt] at this
    exact this
theorem toBatchS_ev (l : List S58) (hl : l.length ≤ 1048576) (hs : ∀ r ∈ l, SzB r) : Ev (fun k => laws_toBatchS.f k l) (l.map cvB) := by
  unfold laws_toBatchS.f
  simp only [if_pos (show (0 : Int) ≤ (l.length : Int) by omega), Int.toNat_natCast, if_pos (show l.length ≤ 5026338869833 by omega)]
  have := toBatchS_loop l hl hs l.length 0 (by omega) (by omega)
  simpa using this
theorem eqBatch_ev (b : S29) (h : RowR b.f5) : Ev (fun k => laws_eqBatch.f k b.f0 b.f1 b.f2 b.f3 b.f4 b.f5 b.f0 b.f1 b.f2 b.f3 b.f4 b.f5) true := by
  unfold laws_eqBatch.f
  simp only [if_true, bne_self_eq_false, Bool.false_eq_true, if_false]
  refine Ev.bind (eqRecordS_ev _ h.1 h.2) ?_
  simp only [if_true]
  exact Ev.now _
theorem eqBatchS_ev (l : List S29) (hb : RowB l) : Ev (fun k => laws_eqBatchS.f k l l) true := by
  have hl := hb.1
  unfold laws_eqBatchS.f
  simp only [if_true]
  have := ev_all l hl (fun k i => laws_eqBatchS.l0 k l l i) (fun k i => laws_eqBatch.f k (rd_T29 l i).f0 (rd_T29 l i).f1 (rd_T29 l i).f2 (rd_T29 l i).f3 (rd_T29 l i).f4 (rd_T29 l i).f5 (rd_T29 l i).f0 (rd_T29 l i).f1 (rd_T29 l i).f2 (rd_T29 l i).f3 (rd_T29 l i).f4 (rd_T29 l i).f5) (fun _ => true) true
    (fun k => by simp only [laws_eqBatchS.l0]; rw [if_neg (by omega)])
    (fun k i h => by simp only [laws_eqBatchS.l0]; rw [if_pos (by omega), if_pos (by omega), if_pos (by omega)])
    (fun i h => by rw [rdB_nat l i h]; exact eqBatch_ev _ (hb.2 _ (List.getElem_mem _))) l.length 0 (by omega) (by omega)
  rw [all_true] at this
  simpa using this
theorem rowB_cv {l : List S58} (hl : l.length ≤ 1048576) (hs : ∀ b ∈ l, SzB b) : RowB (l.map cvB) := by
  refine ⟨by rw [List.length_map]; omega, fun b hb => ?_⟩
  obtain ⟨x, hx, rfl⟩ := List.mem_map.1 hb
  have h := hs x hx
  exact ⟨by show (x.f5.map cvR).length ≤ _; rw [List.length_map]; have := h.1; omega, lens_cv h.2⟩
end Go.Proofs.Ytahenocndacjeaa.Pu

namespace Go.Proofs.Ytahenocndacjeaa.Pu
open Go.RowKit Go.Proofs.YtahenocndacjeaaW.PrintWords Go.Proofs.YtahenocndacjeaaW.PrintLast Go.Proofs.YtahenocndacjeaaW.PrintMore Go.Proofs.Ytahenocndacjeaa.G
set_option linter.unusedVariables false
set_option linter.unusedSimpArgs false
def reachR (t : Int) (l : List S32) : Bool := l.any (fun r => decide (r.f1 ≥ t))
theorem reach_loop (t : Int) (l : List S32) (hl : l.length ≤ 9223372036854775807) : ∀ d i, l.length - i = d → i ≤ l.length →
    Ev (fun k => impl_moment_reaches.l0 k t l (l.length : Int) (i : Int)) (reachR t (l.drop i)) := by
  intro d
  induction d with
  | zero =>
    intro i hd hi
    refine Ev.step (fun k => by rw [impl_moment_reaches.l0]) ?_
    simp only [if_neg (show ¬ (i : Int) < (l.length : Int) by omega)]
    rw [List.drop_of_length_le (by omega)]
    exact Ev.now _
  | succ d ih =>
    intro i hd hi
    have hlt : i < l.length := by omega
    refine Ev.step (fun k => by rw [impl_moment_reaches.l0]) ?_
    simp only [if_pos (show (i : Int) < (l.length : Int) by omega), if_pos (show (0 : Int) ≤ (i : Int) by omega), rdR_nat l i hlt, w64 (a := (i : Int) + 1) (by omega) (by omega)]
    rw [List.drop_eq_getElem_cons hlt]
    unfold reachR
    rw [List.any_cons]
    by_cases h : l[i].f1 ≥ t
    · simp only [if_pos h, decide_eq_true h, Bool.true_or]
      exact Ev.now _
    · simp only [if_neg h, decide_eq_false h, Bool.false_or]
      exact ih (i + 1) (by omega) (by omega)
theorem reaches_ev (t : Int) (l : List S29) (hb : RowB l) (i : Nat) (hi : i < l.length) : Ev (fun k => impl_moment_reaches.f k t l (i : Int)) (reachR t l[i].f5) := by
  unfold impl_moment_reaches.f
  simp only [if_pos (show (0 : Int) ≤ (i : Int) by omega), if_pos (show (i : Int) < (l.length : Int) by omega), rdB_nat l i hi]
  have := reach_loop t l[i].f5 (hb.2 _ (List.getElem_mem _)).1 l[i].f5.length 0 (by omega) (by omega)
  exact this
def firstR (t : Int) (l : List S29) : Nat := l.findIdx (fun b => reachR t b.f5)
def keptV (t : Int) (l : List S29) : Nat := min (firstR t l) (l.length - 1)
theorem kept_loop (t : Int) (l : List S29) (hb : RowB l) : ∀ d i, l.length - i = d → i ≤ l.length →
    Ev (fun k => impl_keptFrom.l0 k l t (l.length : Int) (i : Int)) ((min (i + firstR t (l.drop i)) (l.length - 1) : Nat) : Int) := by
  have hl := hb.1
  intro d
  induction d with
  | zero =>
    intro i hd hi
    refine Ev.step (fun k => by rw [impl_keptFrom.l0]) ?_
    simp only [if_neg (show ¬ (i : Int) < (l.length : Int) by omega), w64 (a := (l.length : Int) - 1) (by omega) (by omega)]
    have e : mx ((l.length : Int) - 1) 0 = ((min (i + firstR t (l.drop i)) (l.length - 1) : Nat) : Int) := by
      unfold mx
      split <;> omega
    rw [e]
    exact Ev.now _
  | succ d ih =>
    intro i hd hi
    have hlt : i < l.length := by omega
    refine Ev.step (fun k => by rw [impl_keptFrom.l0]) ?_
    simp only [if_pos (show (i : Int) < (l.length : Int) by omega), w64 (a := (i : Int) + 1) (by omega) (by omega)]
    refine Ev.bind (reaches_ev t l hb i hlt) ?_
    rw [List.drop_eq_getElem_cons hlt]
    unfold firstR
    rw [List.findIdx_cons]
    cases hr : reachR t l[i].f5
    · simp only [Bool.false_eq_true, if_false, cond_false]
      have := ih (i + 1) (by omega) (by omega)
      unfold firstR at this
      rw [show i + (List.findIdx (fun b => reachR t b.f5) (l.drop (i + 1)) + 1) = i + 1 + List.findIdx (fun b => reachR t b.f5) (l.drop (i + 1)) by omega]
      exact this
    · simp only [if_true, cond_true]
      rw [show min (i + 0) (l.length - 1) = i by omega]
      exact Ev.now _
theorem keptFrom_ev (t : Int) (l : List S29) (hb : RowB l) : Ev (fun k => impl_keptFrom.f k l t) ((keptV t l : Nat) : Int) := by
  unfold impl_keptFrom.f keptV
  have := kept_loop t l hb l.length 0 (by omega) (by omega)
  simpa using this
def keepV (t : Int) (l : List S29) : Int := if logOk l = true then ((keptV t l : Nat) : Int) else -1
theorem KeepTime_ev (t : Int) (l : List S29) (hb : RowB l) : Ev (fun k => impl_KeepTime.f k l t) (keepV t l) := by
  unfold impl_KeepTime.f keepV
  refine Ev.bind (LogValid_ev l hb) ?_
  cases logOk l
  · exact Ev.now _
  · simp only [if_true]
    exact Ev.bind (keptFrom_ev t l hb) (Ev.now _)
/-! the reference -/
def mostOf (m : Int) (l : List S32) : Int := l.foldl (fun m r => mx m r.f1) m
theorem most_loop (l : List S32) (hl : l.length ≤ 9223372036854775807) (c0 c1 : Bool) (x y z : Int) : ∀ d i m, l.length - i = d → i ≤ l.length →
    Ev (fun k => spec_l14Most.l0 k m (i : Int) c0 c1 x y z l) (mostOf m (l.drop i)) := by
  intro d
  induction d with
  | zero =>
    intro i m hd hi
    refine Ev.step (fun k => by rw [spec_l14Most.l0]) ?_
    simp only [if_neg (show ¬ (i : Int) < (l.length : Int) by omega)]
    rw [List.drop_of_length_le (by omega)]
    exact Ev.now _
  | succ d ih =>
    intro i m hd hi
    have hlt : i < l.length := by omega
    refine Ev.step (fun k => by rw [spec_l14Most.l0]) ?_
    simp only [if_pos (show (i : Int) < (l.length : Int) by omega), if_pos (show (0 : Int) ≤ (i : Int) by omega), rdR_nat l i hlt, w64 (a := (i : Int) + 1) (by omega) (by omega)]
    rw [List.drop_eq_getElem_cons hlt]
    exact ih (i + 1) _ (by omega) (by omega)
theorem most_ev (b : S29) (hb : RowR b.f5) : Ev (fun k => spec_l14Most.f k b.f0 b.f1 b.f2 b.f3 b.f4 b.f5) (mostOf 0 b.f5) := by
  unfold spec_l14Most.f
  have := most_loop b.f5 hb.1 b.f0 b.f1 b.f2 b.f3 b.f4 b.f5.length 0 0 (by omega) (by omega)
  exact this
theorem mostOf_lt (t : Int) : ∀ (l : List S32) (m : Int), mostOf m l < t ↔ m < t ∧ ∀ r ∈ l, r.f1 < t
  | [], m => by simp [mostOf]
  | r :: l, m => by
    have := mostOf_lt t l (mx m r.f1)
    unfold mostOf at this ⊢
    rw [List.foldl_cons, this, List.forall_mem_cons]
    have e : mx m r.f1 < t ↔ m < t ∧ r.f1 < t := by
      unfold mx
      split <;> omega
    rw [e, and_assoc]
theorem most_reach (t : Int) {b : S29} (h : batOk b = true) : mostOf 0 b.f5 < t ↔ reachR t b.f5 = false := by
  have hn := batOk_len h
  rw [mostOf_lt]
  unfold reachR
  rw [List.any_eq_false]
  constructor
  · rintro ⟨_, hr⟩ r hm
    have := hr r hm
    simp only [decide_eq_true_eq]
    omega
  · intro hr
    have hall : ∀ r ∈ b.f5, r.f1 < t := fun r hm => by
      have := hr r hm
      simp only [decide_eq_true_eq] at this
      omega
    refine ⟨?_, hall⟩
    have h0 := batOk_rec h 0 (by omega)
    have h1 := hall _ (List.getElem_mem (show 0 < b.f5.length by omega))
    unfold recOk rng at h0
    simp only [Bool.and_eq_true, decide_eq_true_eq] at h0
    omega
theorem skeep_loop (t : Int) (l : List S29) (hb : RowB l) (hv : logOk l = true) : ∀ d i, l.length - i = d → i ≤ l.length - 1 →
    Ev (fun k => spec_KeepTime.l0 k l t (i : Int)) ((min (i + firstR t (l.drop i)) (l.length - 1) : Nat) : Int) := by
  have hl := hb.1
  intro d
  induction d with
  | zero =>
    intro i hd hi
    refine Ev.step (fun k => by rw [spec_KeepTime.l0]) ?_
    rw [w64 (a := (i : Int) + 1) (by omega) (by omega)]
    simp only [if_neg (show ¬ (i : Int) + 1 < (l.length : Int) by omega)]
    rw [show min (i + firstR t (l.drop i)) (l.length - 1) = i by omega]
    exact Ev.now _
  | succ d ih =>
    intro i hd hi
    have hlt : i < l.length := by omega
    refine Ev.step (fun k => by rw [spec_KeepTime.l0]) ?_
    rw [w64 (a := (i : Int) + 1) (by omega) (by omega)]
    by_cases h1 : (i : Int) + 1 < (l.length : Int)
    · simp only [if_pos h1, if_pos (show (0 : Int) ≤ (i : Int) by omega), if_pos (show (i : Int) < (l.length : Int) by omega), rdB_nat l i hlt]
      refine Ev.bind (most_ev l[i] (hb.2 _ (List.getElem_mem _))) ?_
      have hm := most_reach t (logOk_bat hv i hlt)
      rw [List.drop_eq_getElem_cons hlt]
      unfold firstR
      rw [List.findIdx_cons]
      cases hr : reachR t l[i].f5
      · simp only [if_pos (hm.2 hr), cond_false]
        have := ih (i + 1) (by omega) (by omega)
        unfold firstR at this
        rw [show i + (List.findIdx (fun b => reachR t b.f5) (l.drop (i + 1)) + 1) = i + 1 + List.findIdx (fun b => reachR t b.f5) (l.drop (i + 1)) by omega]
        exact this
      · simp only [if_neg (show ¬ mostOf 0 l[i].f5 < t from fun h => by rw [hm.1 h] at hr; exact Bool.noConfusion hr), cond_true]
        rw [show min (i + 0) (l.length - 1) = i by omega]
        exact Ev.now _
    · simp only [if_neg h1]
      rw [show min (i + firstR t (l.drop i)) (l.length - 1) = i by omega]
      exact Ev.now _
theorem sKeepTime_ev (t : Int) (l : List S29) (hb : RowB l) : Ev (fun k => spec_KeepTime.f k l t) (keepV t l) := by
  unfold spec_KeepTime.f keepV
  refine Ev.bind (sLogValid_ev l hb) ?_
  cases hv : logOk l
  · exact Ev.now _
  · simp only [if_true]
    have := skeep_loop t l hb hv l.length 0 (by omega) (by omega)
    unfold keptV
    simpa using this
end Go.Proofs.Ytahenocndacjeaa.Pu

namespace Go.Proofs.Ytahenocndacjeaa.Pure
open Go.RowKit Go.Proofs.Ytahenocndacjeaa.G Go.Proofs.YtahenocndacjeaaW.PrintWords Go.Proofs.YtahenocndacjeaaW.PrintLast Go.Proofs.Ytahenocndacjeaa.Pu
set_option linter.unusedSimpArgs false
theorem FnExactKeepTime : OFnExactKeepTime.Pure := by
  intro l0 a1 hl0 ho0 ho1
  refine EndsIn.rounds ?_
  unfold laws_FnExactKeepTime.f
  have hs0 : ∀ b ∈ l0, LenB b := fun b hb => ⟨(ho0 b hb).2.2.2.2.2.1, fun r hr => ⟨((ho0 b hb).2.2.2.2.2.2 r hr).2.2.2.1.1, ((ho0 b hb).2.2.2.2.2.2 r hr).2.2.2.2.2.1⟩⟩
  refine EndsIn.bind (szBatchS_ends l0 hl0 hs0 1048576 (by omega) (by omega)) fun t ht => ?_
  by_cases h : t < 0
  · simp only [if_pos h]
    exact EndsIn.now _ rfl
  · simp only [if_neg h]
    obtain ⟨t0, t1, n0, z0⟩ := ht.resolve_left h
    have hb := rowB_cv n0 z0
    refine ⟨true, ?_, rfl⟩
    refine Ev.bind (toBatchS_ev l0 n0 z0) (Ev.bind (sKeepTime_ev _ _ hb) (Ev.bind (toBatchS_ev l0 n0 z0) (Ev.bind (KeepTime_ev _ _ hb) ?_)))
    simp only [if_true]
    refine Ev.bind (toBatchS_ev l0 n0 z0) (Ev.bind (eqBatchS_ev _ hb) ?_)
    simp only [if_true]
    exact Ev.now _
end Go.Proofs.Ytahenocndacjeaa.Pure

namespace Go.Proofs.Ytahenocndacjeaa.fnExactKeepTime
open Go.ChangeShapes Go.WideShapes Go.ChangeAt Go.RowKit Go.Proofs.Ytahenocndacjeaa.OFnExactKeepTime Go.Proofs.Ytahenocndacjeaa.G Go.Joins
open Go.ChangeMaps (open_string shut_string)
set_option linter.unusedVariables false
theorem own : ownKnob Try.prog.godebug = none := by kernel_rfl
theorem laidOut : laidOutB Try.prog = true := by kernel_rfl
set_option maxRecDepth 100000 in
theorem lifted (os : Os) (started : os.Started) (H : Type) (enc : TypeId × Value → H) :
    ReturnsInHanded {} Try.checked os 6 .any (Rows.fnExactKeepTimeSpec.pre6 enc Try.prog Try.f6 Rows.fnExactKeepTimeRow.domain false) (Rows.fnExactKeepTimeSpec.post enc Try.prog Try.f6 false true false false) := by
  refine returnsInHanded_of_change_sized (C := Try.checked) own started (by kernel_rfl) Try.func6
    (ChangeSpec.witness6 (enc := enc) (C := Try.checked) false ⟨#[], #[.slice none 0 0, .int .i64 0], []⟩ 8 (by kernel_rfl) (by kernel_rfl) (by kernel_rfl) (by kernel_rfl)) ?_
  intro W base args ds gs before hval0 hW hcnd hsz0 _
  have hsz : (DataW.weightsEach Try.prog (Try.f6.params.toList ++ Rows.fnExactKeepTimeSpec.plain.varTypes Try.prog) (ds ++ gs)).all (· ≤ reachBytes) = true := hsz0
  have hval : ∀ (j : Nat) t v, Try.f6.params[j]? = some t → args[j]? = some v → Value.okWide Try.prog W .any base t v := hval0
  have hW' := hW
  obtain ⟨p, q, hA0, hV, rfl, hfz, hnd⟩ := hW
  have hA : DataW.TrodAll enc Try.prog W 0 (fun _ => true) true Try.f6.params.toList args.toList ds p := hA0
  rw [Try.params6] at hA hval hsz
  obtain ⟨v0, vs0, d0, ds0, p0, q0, hargs, rfl, rfl, h0, r0⟩ := trodAll_cons hA
  obtain ⟨v1, vs1, d1, ds1, p1, q1, rfl, rfl, rfl, h1, r1⟩ := trodAll_cons r0
  obtain ⟨rfl, rfl, rfl⟩ := trodAll_nil r1
  obtain rfl : args = #[v0, v1] := by cases args; simp_all
  obtain ⟨rfl, rfl⟩ := trodVars_none hV
  obtain ⟨a0, len0, cap0, rfl⟩ := okWide_slice Try.underlying36 (hval 0 36 v0 rfl rfl)
  have k0 := h0
  have lt0 : ∀ x ∈ p0, x.block < W.heap.size := by obtain ⟨m, hm⟩ := k0; exact DataW.trod_lt m _ _ _ hm
  obtain ⟨fuel0, hf0⟩ := h0
  obtain ⟨A0, c0, l0, hcs0, hlc0, hm0, hC0, ho0⟩ := Rd.opens_row Try.underlying36 open58 hf0
  simp [Value.cells] at hcs0
  obtain ⟨rfl, rfl, rfl⟩ := hcs0
  obtain ⟨a1, rfl, rfl, rfl, w1⟩ := open_int Try.underlying3 (hval 1 3 v1 rfl rfl) h1
  clear hA0 hval0 hsz0 hsz
  obtain ⟨k, h⟩ := Pure.FnExactKeepTime l0 a1 (Nat.le_trans hlc0 hm0) ho0 w1
  refine (laws_FnExactKeepTime.calls k _ _ l0 a1 true W hC0 hlc0 h).mono fun e W' ⟨he, bel0⟩ => ?_
  subst he
  have bel : Below W.heap.size W W' := bel0
  exact ⟨_, rfl, _, _, _, [], _, [], hW', trodAll_mk1 (shut_bool Try.underlying4 _), (trodAll_cons_mk (Below.trod laidOut (by kernel_rfl) (of_decide_eq_true (by kernel_rfl)) k0 bel lt0) (trodAll_cons_mk (shut_int Try.underlying3 w1) trodAll_mk0)), rfl, bel.frame _, fun h => by cases h⟩
theorem over : Rows.fnExactKeepTimeRow.holds Try.pinned (OpenSpec.ofChange Rows.fnExactKeepTimeSpec) :=
  OpenClaim.holds_of_wide 6 Try.f6 rfl rfl rfl rfl rfl rfl rfl ⟨rfl, rfl, rfl, rfl, rfl⟩ rfl rfl rfl rfl rfl (by kernel_rfl) Try.func6 (by kernel_rfl)
    (of_decide_eq_true (by kernel_rfl)) (by unfold Func.isWrapper; first | (rw [if_pos (by decide +kernel)]; kernel_rfl) | (rw [if_neg (by decide +kernel)]; exact ⟨rfl, rfl⟩))
    (fun os started H enc _ => lifted os started H enc)
theorem proved : Rows.FnExactKeepTimeSaid := over
#print axioms proved
end Go.Proofs.Ytahenocndacjeaa.fnExactKeepTime
namespace Go.Proofs.Ytahenocndacjeaa
/-- The row, under a short name, for the claim. -/
theorem fnExactKeepTime_holds : Rows.FnExactKeepTimeSaid := fnExactKeepTime.proved
end Go.Proofs.Ytahenocndacjeaa

