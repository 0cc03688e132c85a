/- A text of seat Ythlnbbehcpdnfaa: what the law FnApartNone needs of this repo's texts (by pack.py). Not trusted: Lean checks it. -/
import Derived.Test.YthlnbbehcpdnfaaKFnApartNone6
import Derived.Deep.Slices
import Derived.SizedLaws
namespace Go.Proofs.Ythlnbbehcpdnfaa.G
open Go.RowKit Go.Proofs.YthlnbbehcpdnfaaW.PrintWords Go.Proofs.YthlnbbehcpdnfaaW.PrintLast Go.Proofs.YthlnbbehcpdnfaaW.PrintMore
attribute [local go_sem] max2_int min2_int max_two min_two max_three min_three max_four min_four   -- for this text's walks alone
set_option linter.unusedVariables false
set_option linter.unusedSimpArgs false

def laws_sameRecords.l0 : Nat → List (S41) → List (S41) → Int → Option (Bool)
 | 0, _, _, _ => none
 | k + 1, x0, x1, x5 => if x5 < (x0.length : Int) then (if 0 ≤ x5 then (if x5 < (x1.length : Int) then ((laws_sameRecord.f k ((rd_T41 x0 x5).f0) ((rd_T41 x0 x5).f1) ((rd_T41 x0 x5).f2) ((rd_T41 x0 x5).f3) ((rd_T41 x0 x5).f4) ((rd_T41 x0 x5).f5) ((rd_T41 x1 x5).f0) ((rd_T41 x1 x5).f1) ((rd_T41 x1 x5).f2) ((rd_T41 x1 x5).f3) ((rd_T41 x1 x5).f4) ((rd_T41 x1 x5).f5)).bind fun t406 => (if t406 = true then (laws_sameRecords.l0 k x0 x1 (wrap64 (x5 + 1))) else (some false))) else (none)) else (none)) else (some true)
def laws_sameRecords.f (k : Nat) (l0 : List (S41)) (l1 : List (S41)) : Option (Bool) := if (l0.length : Int) = (l1.length : Int) then (laws_sameRecords.l0 k l0 l1 0) else (some false)
def laws_sameRecords.T6 : Bool × List (List Nat × List Nat) := (true, [([], []), ([], []), ([0, 1], [0, 1]), ([2], [2]), ([], []), ([], []), ([4, 5], [4, 5]), ([6], [6]), ([3, 7], [3, 7]), ([8], [8])])
def laws_sameRecords.B6 : List Nat := [0, 0, 3, 7, 0, 0, 48, 112, 255, 511]
theorem laws_sameRecords.tab6 : rtab .any (opsOf Try.f24 6) = laws_sameRecords.T6 := by kernel_rfl
theorem laws_sameRecords.bits6 : waitsOk laws_sameRecords.T6.2 laws_sameRecords.B6 = true := by kernel_rfl
set_option maxHeartbeats 8000000 in
set_option maxRecDepth 100000 in
theorem laws_sameRecords.calls (k : Nat) (A0 : Option Addr) (c0 : Nat) (l0 : List (S41)) (A1 : Option Addr) (c1 : Nat) (l1 : List (S41)) (r : Bool) (w : World) (hr0 : Kd.C k41 w A0 l0.length l0) (hc0 : l0.length ≤ c0) (hr1 : Kd.C k41 w A1 l1.length l1) (hc1 : l1.length ≤ c1) (h : laws_sameRecords.f k l0 l1 = some r) :
  Calls Try.prog 24 #[.slice A0 l0.length c0, .slice A1 l1.length c1] w fun e w' => e = .returned (.bool r) ∧ Below w.heap.size w w' := by
 have hu41 := Try.underlying41
 have HR0 := Aside0.mk hr0
 have HC0 := Aside0.mk hc0
 clear hr0 hc0
 have HR1 := Aside0.mk hr1
 have HC1 := Aside0.mk hc1
 clear hr1 hc1
 have HB := Aside0.mk (Below.refl w.heap.size w)
 have H : (if (l0.length : Int) = (l1.length : Int) then (laws_sameRecords.l0 k l0 l1 0) else (some false)) = some r := h
 clear h
 by_cases c3 : (l0.length : Int) = (l1.length : Int)
 ·rw [if_pos c3] at H
  have c3b0 : ((l0.length : Int) == (l1.length : Int)) = true := beq_iff_eq.mpr c3
  have c3b1 : ((l0.length : Int) != (l1.length : Int)) = false := bne_eq_false_iff_eq.mpr c3
  have c3b2 : (l0.length == l1.length) = true := by first | simpa using c3 | (simp at c3 ⊢; omega)
  clear c3
  have H' := Aside0.mk H
  clear H
  go_enter Try.func24, Try.ntmps24
  go_wp2
  go_loopg [5] k (fun kq v5 w' => ∃ (x5_1 : Int), v5 = .int .i64 x5_1 ∧ Aside0 (laws_sameRecords.l0 kq l0 l1 x5_1 = some r) ∧ Aside0 (kq ≤ k) ∧ Aside0 (Below w.heap.size w w'))
  case atStart => exact ⟨(0), (by first | rfl | (simp; done) | (simp [*]; done)), H', ⟨Nat.le_refl _⟩, ⟨by repeat (first | (with_reducible first | exact HB.out | apply below_alloc | apply pw_below_drewN | apply below_drew1) | exact HB.out)⟩⟩
  case round =>
   clear H'
   try clear c1
   try clear c2
   try clear p2
   try clear c3
   try clear c3b0
   try clear c3b1
   try clear c3b2
   obtain ⟨x5_1, rfl, HA, HK1, HB⟩ := hrel
   cases gk with
   | zero => exact absurd HA.out (by simp [laws_sameRecords.l0])
   | succ k1 =>
    have H := HA.out
    clear HA
    simp only [laws_sameRecords.l0] at H
    by_cases c4 : x5_1 < (l0.length : Int)
    ·rw [if_pos c4] at H
     have c4b0 : decide (x5_1 < (l0.length : Int)) = true := decide_eq_true c4
     clear c4
     by_cases c5 : 0 ≤ x5_1
     ·rw [if_pos c5] at H
      have c5b0 : decide (0 ≤ x5_1) = true := decide_eq_true c5
      clear c5
      by_cases c6 : x5_1 < (l1.length : Int)
      ·rw [if_pos c6] at H
       have c6b0 : decide (x5_1 < (l1.length : Int)) = true := decide_eq_true c6
       clear c6
       replace H := Option.bind_eq_some_iff.mp H
       obtain ⟨t406, A70, H⟩ := H
       replace H : (if t406 = true then (laws_sameRecords.l0 k1 l0 l1 (wrap64 (x5_1 + 1))) else (some false)) = some r := H
       have A7 := Aside0.mk A70
       clear A70
       by_cases c8 : t406 = true
       ·subst c8
        have H1 : (laws_sameRecords.l0 k1 l0 l1 (wrap64 (x5_1 + 1))) = some r := by rw [if_pos rfl] at H; exact H
        clear H
        have H := H1
        clear H1
        have H' := Aside0.mk H
        clear H
        try go_wp2
        have n0_ := Aside0.mk (below_drew1 HB.out)
        clear HB
        have HB := n0_
        clear n0_
        have p404 : 0 ≤ (x5_1 : Int) := of_decide_eq_true (by first | (with_reducible assumption) | assumption)
        have q404 : x5_1 < (l0.length : Int) := of_decide_eq_true (by first | (with_reducible assumption) | assumption)
        obtain ⟨ad404, A404_3, c404_3, A404_5, c404_5, e404, hx404_0, hx404_1, hx404_2, hx404_3, hx404_4, hx404_5, hl404_3, hi404_3, hl404_5, hi404_5⟩ := at_T41 HR0.out x5_1 p404 q404
        have hw404_5 := hx404_5
        have hw404_4 := hx404_4
        have hw404_3 := hx404_3
        have hw404_2 := hx404_2
        have hw404_1 := hx404_1
        have hw404_0 := hx404_0
        cases e404
        replace hx404_0 := (HB.out.cell (World.block_lt_of_cell? w _ hx404_0)).trans hx404_0
        replace hx404_1 := (HB.out.cell (World.block_lt_of_cell? w _ hx404_1)).trans hx404_1
        replace hx404_2 := (HB.out.cell (World.block_lt_of_cell? w _ hx404_2)).trans hx404_2
        replace hx404_3 := (HB.out.cell (World.block_lt_of_cell? w _ hx404_3)).trans hx404_3
        replace hx404_4 := (HB.out.cell (World.block_lt_of_cell? w _ hx404_4)).trans hx404_4
        replace hx404_5 := (HB.out.cell (World.block_lt_of_cell? w _ hx404_5)).trans hx404_5
        have HR404_3 := Aside0.mk hi404_3
        have HC404_3 := Aside0.mk hl404_3
        clear hi404_3 hl404_3
        have HR404_5 := Aside0.mk hi404_5
        have HC404_5 := Aside0.mk hl404_5
        clear hi404_5 hl404_5
        replace p404 := eq_true p404
        replace q404 := eq_true q404
        have p405 : 0 ≤ (x5_1 : Int) := of_decide_eq_true (by first | (with_reducible assumption) | assumption)
        have q405 : x5_1 < (l1.length : Int) := of_decide_eq_true (by first | (with_reducible assumption) | assumption)
        obtain ⟨ad405, A405_3, c405_3, A405_5, c405_5, e405, hx405_0, hx405_1, hx405_2, hx405_3, hx405_4, hx405_5, hl405_3, hi405_3, hl405_5, hi405_5⟩ := at_T41 HR1.out x5_1 p405 q405
        have hw405_5 := hx405_5
        have hw405_4 := hx405_4
        have hw405_3 := hx405_3
        have hw405_2 := hx405_2
        have hw405_1 := hx405_1
        have hw405_0 := hx405_0
        cases e405
        replace hx405_0 := (HB.out.cell (World.block_lt_of_cell? w _ hx405_0)).trans hx405_0
        replace hx405_1 := (HB.out.cell (World.block_lt_of_cell? w _ hx405_1)).trans hx405_1
        replace hx405_2 := (HB.out.cell (World.block_lt_of_cell? w _ hx405_2)).trans hx405_2
        replace hx405_3 := (HB.out.cell (World.block_lt_of_cell? w _ hx405_3)).trans hx405_3
        replace hx405_4 := (HB.out.cell (World.block_lt_of_cell? w _ hx405_4)).trans hx405_4
        replace hx405_5 := (HB.out.cell (World.block_lt_of_cell? w _ hx405_5)).trans hx405_5
        have HR405_3 := Aside0.mk hi405_3
        have HC405_3 := Aside0.mk hl405_3
        clear hi405_3 hl405_3
        have HR405_5 := Aside0.mk hi405_5
        have HC405_5 := Aside0.mk hl405_5
        clear hi405_5 hl405_5
        replace p405 := eq_true p405
        replace q405 := eq_true q405
        refine start_ (n := 10) (S := fun w' => w'.cell? (ad404.add ((x5_1).toNat * 6)) = some (.int .i64 ((rd_T41 l0 x5_1).f0)) ∧ w'.cell? ⟨(ad404.add ((x5_1).toNat * 6)).block, (ad404.add ((x5_1).toNat * 6)).off + 1, none⟩ = some (.int .i64 ((rd_T41 l0 x5_1).f1)) ∧ w'.cell? ⟨(ad404.add ((x5_1).toNat * 6)).block, (ad404.add ((x5_1).toNat * 6)).off + 2, none⟩ = some (.bool ((rd_T41 l0 x5_1).f2)) ∧ w'.cell? ⟨(ad404.add ((x5_1).toNat * 6)).block, (ad404.add ((x5_1).toNat * 6)).off + 3, none⟩ = some (.slice A404_3 ((rd_T41 l0 x5_1).f3).length c404_3) ∧ w'.cell? ⟨(ad404.add ((x5_1).toNat * 6)).block, (ad404.add ((x5_1).toNat * 6)).off + 4, none⟩ = some (.bool ((rd_T41 l0 x5_1).f4)) ∧ w'.cell? ⟨(ad404.add ((x5_1).toNat * 6)).block, (ad404.add ((x5_1).toNat * 6)).off + 5, none⟩ = some (.slice A404_5 ((rd_T41 l0 x5_1).f5).length c404_5) ∧ w'.cell? (ad405.add ((x5_1).toNat * 6)) = some (.int .i64 ((rd_T41 l1 x5_1).f0)) ∧ w'.cell? ⟨(ad405.add ((x5_1).toNat * 6)).block, (ad405.add ((x5_1).toNat * 6)).off + 1, none⟩ = some (.int .i64 ((rd_T41 l1 x5_1).f1)) ∧ w'.cell? ⟨(ad405.add ((x5_1).toNat * 6)).block, (ad405.add ((x5_1).toNat * 6)).off + 2, none⟩ = some (.bool ((rd_T41 l1 x5_1).f2)) ∧ w'.cell? ⟨(ad405.add ((x5_1).toNat * 6)).block, (ad405.add ((x5_1).toNat * 6)).off + 3, none⟩ = some (.slice A405_3 ((rd_T41 l1 x5_1).f3).length c405_3) ∧ w'.cell? ⟨(ad405.add ((x5_1).toNat * 6)).block, (ad405.add ((x5_1).toNat * 6)).off + 4, none⟩ = some (.bool ((rd_T41 l1 x5_1).f4)) ∧ w'.cell? ⟨(ad405.add ((x5_1).toNat * 6)).block, (ad405.add ((x5_1).toNat * 6)).off + 5, none⟩ = some (.slice A405_5 ((rd_T41 l1 x5_1).f5).length c405_5)) (ds := []) #[false, false, false, false, false, false, false, false, false, false] (by kernel_rfl) rfl rfl ⟨((HB.out.cell (World.block_lt_of_cell? w _ hw404_0)).trans hw404_0), ((HB.out.cell (World.block_lt_of_cell? w _ hw404_1)).trans hw404_1), ((HB.out.cell (World.block_lt_of_cell? w _ hw404_2)).trans hw404_2), ((HB.out.cell (World.block_lt_of_cell? w _ hw404_3)).trans hw404_3), ((HB.out.cell (World.block_lt_of_cell? w _ hw404_4)).trans hw404_4), ((HB.out.cell (World.block_lt_of_cell? w _ hw404_5)).trans hw404_5), ((HB.out.cell (World.block_lt_of_cell? w _ hw405_0)).trans hw405_0), ((HB.out.cell (World.block_lt_of_cell? w _ hw405_1)).trans hw405_1), ((HB.out.cell (World.block_lt_of_cell? w _ hw405_2)).trans hw405_2), ((HB.out.cell (World.block_lt_of_cell? w _ hw405_3)).trans hw405_3), ((HB.out.cell (World.block_lt_of_cell? w _ hw405_4)).trans hw405_4), ((HB.out.cell (World.block_lt_of_cell? w _ hw405_5)).trans hw405_5)⟩ (fun hHeld => ?_); refine with_tabW laws_sameRecords.tab6 laws_sameRecords.bits6 (fun HT_ HW_ => ?_)
        generalize wr.drew = w9 at HB HR404_3 HR404_5 HR405_3 HR405_5 hx404_0 hx404_1 hx404_2 hx404_3 hx404_4 hx404_5 hx405_0 hx405_1 hx405_2 hx405_3 hx405_4 hx405_5 hHeld ⊢
        refine pure_ (i := 0) (N := some 17) (v := ?_) (a' := ?_) #[true, false, false, false, false, false, false, false, false, false] rfl rfl (any_of HT_.out (by kernel_rfl)) (fun _ _ _ h => h) (Or.inl ⟨by rfl, ?_⟩) ?_ ?_
        rotate_left
        ·intro w'
         go_simp
         with_reducible rfl
        rotate_left
        ·simp only [Act.put, List.setIfInBounds_toArray, List.set_cons_zero, List.set_cons_succ, i64_w, i32_w]
         rfl
        refine pure_ (i := 1) (N := some 18) (v := ?_) (a' := ?_) #[true, true, false, false, false, false, false, false, false, false] rfl rfl (any_of HT_.out (by kernel_rfl)) (fun _ _ _ h => h) (Or.inl ⟨by rfl, ?_⟩) ?_ ?_
        rotate_left
        ·intro w'
         go_simp
         with_reducible rfl
        rotate_left
        ·simp only [Act.put, List.setIfInBounds_toArray, List.set_cons_zero, List.set_cons_succ, i64_w, i32_w]
         rfl
        refine pure_ (i := 2) (N := some 19) (v := ?_) (a' := ?_) #[true, true, true, false, false, false, false, false, false, false] rfl rfl (any_of HT_.out (by kernel_rfl)) (fun _ _ _ h => h) (Or.inl ⟨by rfl, ?_⟩) ?_ ?_
        rotate_left
        ·intro w'
         go_simp
         with_reducible rfl
        rotate_left
        ·simp only [Act.put, List.setIfInBounds_toArray, List.set_cons_zero, List.set_cons_succ, i64_w, i32_w]
         rfl
        refine pure_ (i := 4) (N := some 21) (v := ?_) (a' := ?_) #[true, true, true, false, true, false, false, false, false, false] rfl rfl (any_of HT_.out (by kernel_rfl)) (fun _ _ _ h => h) (Or.inl ⟨by rfl, ?_⟩) ?_ ?_
        rotate_left
        ·intro w'
         go_simp
         with_reducible rfl
        rotate_left
        ·simp only [Act.put, List.setIfInBounds_toArray, List.set_cons_zero, List.set_cons_succ, i64_w, i32_w]
         rfl
        refine pure_ (i := 5) (N := some 22) (v := ?_) (a' := ?_) #[true, true, true, false, true, true, false, false, false, false] rfl rfl (any_of HT_.out (by kernel_rfl)) (fun _ _ _ h => h) (Or.inl ⟨by rfl, ?_⟩) ?_ ?_
        rotate_left
        ·intro w'
         go_simp
         with_reducible rfl
        rotate_left
        ·simp only [Act.put, List.setIfInBounds_toArray, List.set_cons_zero, List.set_cons_succ, i64_w, i32_w]
         rfl
        refine pure_ (i := 6) (N := some 23) (v := ?_) (a' := ?_) #[true, true, true, false, true, true, true, false, false, false] rfl rfl (any_of HT_.out (by kernel_rfl)) (fun _ _ _ h => h) (Or.inl ⟨by rfl, ?_⟩) ?_ ?_
        rotate_left
        ·intro w'
         go_simp
         with_reducible rfl
        rotate_left
        ·simp only [Act.put, List.setIfInBounds_toArray, List.set_cons_zero, List.set_cons_succ, i64_w, i32_w]
         rfl
        refine take_ (i := 3) (N := some 20) (v := ?_) (a' := ?_) #[true, true, true, true, true, true, true, false, false, false] rfl rfl (take_ofW HT_.out HW_.out (by kernel_rfl)) (fun _ _ _ h => h) (Or.inl ⟨by rfl, ?_⟩) hHeld ?_ ?_
        rotate_left
        ·rintro w' ⟨s0, s1, s2, s3, s4, s5, s6, s7, s8, s9, s10, s11⟩
         go_simp
         with_reducible rfl
        rotate_left
        ·simp only [Act.put, List.setIfInBounds_toArray, List.set_cons_zero, List.set_cons_succ, i64_w, i32_w]
         rfl
        refine take_ (i := 7) (N := some 24) (v := ?_) (a' := ?_) #[true, true, true, true, true, true, true, true, false, false] rfl rfl (take_ofW HT_.out HW_.out (by kernel_rfl)) (fun _ _ _ h => h) (Or.inl ⟨by rfl, ?_⟩) hHeld ?_ ?_
        rotate_left
        ·rintro w' ⟨s0, s1, s2, s3, s4, s5, s6, s7, s8, s9, s10, s11⟩
         go_simp
         with_reducible rfl
        rotate_left
        ·simp only [Act.put, List.setIfInBounds_toArray, List.set_cons_zero, List.set_cons_succ, i64_w, i32_w]
         rfl
        refine one_ (i := 8) (N := some 25) #[true, true, true, true, true, true, true, true, true, false] rfl rfl (one_of HT_.out (by kernel_rfl)) (by decide) (fun K hK => ?_)
        refine goes_ Try.func25 (by kernel_rfl) rfl #[.agg #[.int .i64 ((rd_T41 l0 x5_1).f0), .int .i64 ((rd_T41 l0 x5_1).f1), .bool ((rd_T41 l0 x5_1).f2), .slice A404_3 ((rd_T41 l0 x5_1).f3).length c404_3, .bool ((rd_T41 l0 x5_1).f4), .slice A404_5 ((rd_T41 l0 x5_1).f5).length c404_5], .agg #[.int .i64 ((rd_T41 l1 x5_1).f0), .int .i64 ((rd_T41 l1 x5_1).f1), .bool ((rd_T41 l1 x5_1).f2), .slice A405_3 ((rd_T41 l1 x5_1).f3).length c405_3, .bool ((rd_T41 l1 x5_1).f4), .slice A405_5 ((rd_T41 l1 x5_1).f5).length c405_5]] (by rfl) rfl rfl (by (try simp only [List.map_toArray, List.map_cons, List.map_nil]); first | done | rfl | (simp only [List.length_drop, List.length_take]; rfl)) ?_
        with_reducible refine (laws_sameRecord.calls k1 ((rd_T41 l0 x5_1).f0) ((rd_T41 l0 x5_1).f1) ((rd_T41 l0 x5_1).f2) _ _ ((rd_T41 l0 x5_1).f3) ((rd_T41 l0 x5_1).f4) _ _ ((rd_T41 l0 x5_1).f5) ((rd_T41 l1 x5_1).f0) ((rd_T41 l1 x5_1).f1) ((rd_T41 l1 x5_1).f2) _ _ ((rd_T41 l1 x5_1).f3) ((rd_T41 l1 x5_1).f4) _ _ ((rd_T41 l1 x5_1).f5) true _ ?side1 ?side2 ?side3 ?side4 ?side5 ?side6 ?side7 ?side8 A7.out).mono ?_
        (case side1 => repeat (first | exact (Kd.C_below HR404_3.out HB.out) | (with_reducible refine Kd.C_alloc ?_ _) | (with_reducible refine Kd.C_drewN ?_ _) | (with_reducible refine Kd.C_drew ?_)))
        (case side2 => exact HC404_3.out)
        (case side3 => repeat (first | exact (Kd.C_below HR404_5.out HB.out) | (with_reducible refine Kd.C_alloc ?_ _) | (with_reducible refine Kd.C_drewN ?_ _) | (with_reducible refine Kd.C_drew ?_)))
        (case side4 => exact HC404_5.out)
        (case side5 => repeat (first | exact (Kd.C_below HR405_3.out HB.out) | (with_reducible refine Kd.C_alloc ?_ _) | (with_reducible refine Kd.C_drewN ?_ _) | (with_reducible refine Kd.C_drew ?_)))
        (case side6 => exact HC405_3.out)
        (case side7 => repeat (first | exact (Kd.C_below HR405_5.out HB.out) | (with_reducible refine Kd.C_alloc ?_ _) | (with_reducible refine Kd.C_drewN ?_ _) | (with_reducible refine Kd.C_drew ?_)))
        (case side8 => exact HC405_5.out)
        rintro e w10 ⟨rfl, hb⟩
        refine ⟨_, rfl, ?_⟩
        have n0_ := Aside0.mk (below_step (by repeat (first | (with_reducible first | exact HB.out | apply below_alloc | apply pw_below_drewN | apply below_drew1) | exact HB.out)) hb)
        clear HB
        have HB := n0_
        clear n0_
        (try clear hb)
        (try clear hb2)
        (try clear hk)
        (try clear hi)
        refine hK.out _ _ ⟨((HB.out.cell (World.block_lt_of_cell? w _ hw404_0)).trans hw404_0), ((HB.out.cell (World.block_lt_of_cell? w _ hw404_1)).trans hw404_1), ((HB.out.cell (World.block_lt_of_cell? w _ hw404_2)).trans hw404_2), ((HB.out.cell (World.block_lt_of_cell? w _ hw404_3)).trans hw404_3), ((HB.out.cell (World.block_lt_of_cell? w _ hw404_4)).trans hw404_4), ((HB.out.cell (World.block_lt_of_cell? w _ hw404_5)).trans hw404_5), ((HB.out.cell (World.block_lt_of_cell? w _ hw405_0)).trans hw405_0), ((HB.out.cell (World.block_lt_of_cell? w _ hw405_1)).trans hw405_1), ((HB.out.cell (World.block_lt_of_cell? w _ hw405_2)).trans hw405_2), ((HB.out.cell (World.block_lt_of_cell? w _ hw405_3)).trans hw405_3), ((HB.out.cell (World.block_lt_of_cell? w _ hw405_4)).trans hw405_4), ((HB.out.cell (World.block_lt_of_cell? w _ hw405_5)).trans hw405_5)⟩ (fun hHeld => ?_)
        clear hK K
        refine norm_ (a' := ?_) ?_ ?_
        rotate_left
        ·show Act.put _ (some 25) _ = _
         simp only [Act.put, List.setIfInBounds_toArray, List.set_cons_zero, List.set_cons_succ, i64_w, i32_w]
         rfl
        refine pure_ (i := 9) (N := some 26) (v := ?_) (a' := ?_) #[true, true, true, true, true, true, true, true, true, true] rfl rfl (any_of HT_.out (by kernel_rfl)) (fun _ _ _ h => h) (Or.inl ⟨by rfl, ?_⟩) ?_ ?_
        rotate_left
        ·intro w'
         go_simp
         with_reducible rfl
        rotate_left
        ·simp only [Act.put, List.setIfInBounds_toArray, List.set_cons_zero, List.set_cons_succ, i64_w, i32_w]
         rfl
        refine done_ (done_of HT_.out (by kernel_rfl)) ?_
        try go_wp2
        go_roundg k1
        case measure => have := HK1.out; omega
        case rel => exact ⟨(wrap64 (x5_1 + 1)), (by first | rfl | (simp; done) | (simp [*]; done)), H', ⟨by have := HK1.out; omega⟩, ⟨by repeat (first | (with_reducible first | exact HB.out | apply below_alloc | apply pw_below_drewN | apply below_drew1) | exact HB.out)⟩⟩
       ·replace c8 := Bool.eq_false_iff.mpr c8
        subst c8
        have H1 : (some false) = some r := by rw [if_neg (show ¬ (false = true) by decide)] at H; exact H
        clear H
        have H := H1
        clear H1
        obtain rfl := Option.some.inj H
        try go_wp2
        have n0_ := Aside0.mk (below_drew1 HB.out)
        clear HB
        have HB := n0_
        clear n0_
        have p404 : 0 ≤ (x5_1 : Int) := of_decide_eq_true (by first | (with_reducible assumption) | assumption)
        have q404 : x5_1 < (l0.length : Int) := of_decide_eq_true (by first | (with_reducible assumption) | assumption)
        obtain ⟨ad404, A404_3, c404_3, A404_5, c404_5, e404, hx404_0, hx404_1, hx404_2, hx404_3, hx404_4, hx404_5, hl404_3, hi404_3, hl404_5, hi404_5⟩ := at_T41 HR0.out x5_1 p404 q404
        have hw404_5 := hx404_5
        have hw404_4 := hx404_4
        have hw404_3 := hx404_3
        have hw404_2 := hx404_2
        have hw404_1 := hx404_1
        have hw404_0 := hx404_0
        cases e404
        replace hx404_0 := (HB.out.cell (World.block_lt_of_cell? w _ hx404_0)).trans hx404_0
        replace hx404_1 := (HB.out.cell (World.block_lt_of_cell? w _ hx404_1)).trans hx404_1
        replace hx404_2 := (HB.out.cell (World.block_lt_of_cell? w _ hx404_2)).trans hx404_2
        replace hx404_3 := (HB.out.cell (World.block_lt_of_cell? w _ hx404_3)).trans hx404_3
        replace hx404_4 := (HB.out.cell (World.block_lt_of_cell? w _ hx404_4)).trans hx404_4
        replace hx404_5 := (HB.out.cell (World.block_lt_of_cell? w _ hx404_5)).trans hx404_5
        have HR404_3 := Aside0.mk hi404_3
        have HC404_3 := Aside0.mk hl404_3
        clear hi404_3 hl404_3
        have HR404_5 := Aside0.mk hi404_5
        have HC404_5 := Aside0.mk hl404_5
        clear hi404_5 hl404_5
        replace p404 := eq_true p404
        replace q404 := eq_true q404
        have p405 : 0 ≤ (x5_1 : Int) := of_decide_eq_true (by first | (with_reducible assumption) | assumption)
        have q405 : x5_1 < (l1.length : Int) := of_decide_eq_true (by first | (with_reducible assumption) | assumption)
        obtain ⟨ad405, A405_3, c405_3, A405_5, c405_5, e405, hx405_0, hx405_1, hx405_2, hx405_3, hx405_4, hx405_5, hl405_3, hi405_3, hl405_5, hi405_5⟩ := at_T41 HR1.out x5_1 p405 q405
        have hw405_5 := hx405_5
        have hw405_4 := hx405_4
        have hw405_3 := hx405_3
        have hw405_2 := hx405_2
        have hw405_1 := hx405_1
        have hw405_0 := hx405_0
        cases e405
        replace hx405_0 := (HB.out.cell (World.block_lt_of_cell? w _ hx405_0)).trans hx405_0
        replace hx405_1 := (HB.out.cell (World.block_lt_of_cell? w _ hx405_1)).trans hx405_1
        replace hx405_2 := (HB.out.cell (World.block_lt_of_cell? w _ hx405_2)).trans hx405_2
        replace hx405_3 := (HB.out.cell (World.block_lt_of_cell? w _ hx405_3)).trans hx405_3
        replace hx405_4 := (HB.out.cell (World.block_lt_of_cell? w _ hx405_4)).trans hx405_4
        replace hx405_5 := (HB.out.cell (World.block_lt_of_cell? w _ hx405_5)).trans hx405_5
        have HR405_3 := Aside0.mk hi405_3
        have HC405_3 := Aside0.mk hl405_3
        clear hi405_3 hl405_3
        have HR405_5 := Aside0.mk hi405_5
        have HC405_5 := Aside0.mk hl405_5
        clear hi405_5 hl405_5
        replace p405 := eq_true p405
        replace q405 := eq_true q405
        refine start_ (n := 10) (S := fun w' => w'.cell? (ad404.add ((x5_1).toNat * 6)) = some (.int .i64 ((rd_T41 l0 x5_1).f0)) ∧ w'.cell? ⟨(ad404.add ((x5_1).toNat * 6)).block, (ad404.add ((x5_1).toNat * 6)).off + 1, none⟩ = some (.int .i64 ((rd_T41 l0 x5_1).f1)) ∧ w'.cell? ⟨(ad404.add ((x5_1).toNat * 6)).block, (ad404.add ((x5_1).toNat * 6)).off + 2, none⟩ = some (.bool ((rd_T41 l0 x5_1).f2)) ∧ w'.cell? ⟨(ad404.add ((x5_1).toNat * 6)).block, (ad404.add ((x5_1).toNat * 6)).off + 3, none⟩ = some (.slice A404_3 ((rd_T41 l0 x5_1).f3).length c404_3) ∧ w'.cell? ⟨(ad404.add ((x5_1).toNat * 6)).block, (ad404.add ((x5_1).toNat * 6)).off + 4, none⟩ = some (.bool ((rd_T41 l0 x5_1).f4)) ∧ w'.cell? ⟨(ad404.add ((x5_1).toNat * 6)).block, (ad404.add ((x5_1).toNat * 6)).off + 5, none⟩ = some (.slice A404_5 ((rd_T41 l0 x5_1).f5).length c404_5) ∧ w'.cell? (ad405.add ((x5_1).toNat * 6)) = some (.int .i64 ((rd_T41 l1 x5_1).f0)) ∧ w'.cell? ⟨(ad405.add ((x5_1).toNat * 6)).block, (ad405.add ((x5_1).toNat * 6)).off + 1, none⟩ = some (.int .i64 ((rd_T41 l1 x5_1).f1)) ∧ w'.cell? ⟨(ad405.add ((x5_1).toNat * 6)).block, (ad405.add ((x5_1).toNat * 6)).off + 2, none⟩ = some (.bool ((rd_T41 l1 x5_1).f2)) ∧ w'.cell? ⟨(ad405.add ((x5_1).toNat * 6)).block, (ad405.add ((x5_1).toNat * 6)).off + 3, none⟩ = some (.slice A405_3 ((rd_T41 l1 x5_1).f3).length c405_3) ∧ w'.cell? ⟨(ad405.add ((x5_1).toNat * 6)).block, (ad405.add ((x5_1).toNat * 6)).off + 4, none⟩ = some (.bool ((rd_T41 l1 x5_1).f4)) ∧ w'.cell? ⟨(ad405.add ((x5_1).toNat * 6)).block, (ad405.add ((x5_1).toNat * 6)).off + 5, none⟩ = some (.slice A405_5 ((rd_T41 l1 x5_1).f5).length c405_5)) (ds := []) #[false, false, false, false, false, false, false, false, false, false] (by kernel_rfl) rfl rfl ⟨((HB.out.cell (World.block_lt_of_cell? w _ hw404_0)).trans hw404_0), ((HB.out.cell (World.block_lt_of_cell? w _ hw404_1)).trans hw404_1), ((HB.out.cell (World.block_lt_of_cell? w _ hw404_2)).trans hw404_2), ((HB.out.cell (World.block_lt_of_cell? w _ hw404_3)).trans hw404_3), ((HB.out.cell (World.block_lt_of_cell? w _ hw404_4)).trans hw404_4), ((HB.out.cell (World.block_lt_of_cell? w _ hw404_5)).trans hw404_5), ((HB.out.cell (World.block_lt_of_cell? w _ hw405_0)).trans hw405_0), ((HB.out.cell (World.block_lt_of_cell? w _ hw405_1)).trans hw405_1), ((HB.out.cell (World.block_lt_of_cell? w _ hw405_2)).trans hw405_2), ((HB.out.cell (World.block_lt_of_cell? w _ hw405_3)).trans hw405_3), ((HB.out.cell (World.block_lt_of_cell? w _ hw405_4)).trans hw405_4), ((HB.out.cell (World.block_lt_of_cell? w _ hw405_5)).trans hw405_5)⟩ (fun hHeld => ?_); refine with_tabW laws_sameRecords.tab6 laws_sameRecords.bits6 (fun HT_ HW_ => ?_)
        generalize wr.drew = w11 at HB HR404_3 HR404_5 HR405_3 HR405_5 hx404_0 hx404_1 hx404_2 hx404_3 hx404_4 hx404_5 hx405_0 hx405_1 hx405_2 hx405_3 hx405_4 hx405_5 hHeld ⊢
        refine pure_ (i := 0) (N := some 17) (v := ?_) (a' := ?_) #[true, false, false, false, false, false, false, false, false, false] rfl rfl (any_of HT_.out (by kernel_rfl)) (fun _ _ _ h => h) (Or.inl ⟨by rfl, ?_⟩) ?_ ?_
        rotate_left
        ·intro w'
         go_simp
         with_reducible rfl
        rotate_left
        ·simp only [Act.put, List.setIfInBounds_toArray, List.set_cons_zero, List.set_cons_succ, i64_w, i32_w]
         rfl
        refine pure_ (i := 1) (N := some 18) (v := ?_) (a' := ?_) #[true, true, false, false, false, false, false, false, false, false] rfl rfl (any_of HT_.out (by kernel_rfl)) (fun _ _ _ h => h) (Or.inl ⟨by rfl, ?_⟩) ?_ ?_
        rotate_left
        ·intro w'
         go_simp
         with_reducible rfl
        rotate_left
        ·simp only [Act.put, List.setIfInBounds_toArray, List.set_cons_zero, List.set_cons_succ, i64_w, i32_w]
         rfl
        refine pure_ (i := 2) (N := some 19) (v := ?_) (a' := ?_) #[true, true, true, false, false, false, false, false, false, false] rfl rfl (any_of HT_.out (by kernel_rfl)) (fun _ _ _ h => h) (Or.inl ⟨by rfl, ?_⟩) ?_ ?_
        rotate_left
        ·intro w'
         go_simp
         with_reducible rfl
        rotate_left
        ·simp only [Act.put, List.setIfInBounds_toArray, List.set_cons_zero, List.set_cons_succ, i64_w, i32_w]
         rfl
        refine pure_ (i := 4) (N := some 21) (v := ?_) (a' := ?_) #[true, true, true, false, true, false, false, false, false, false] rfl rfl (any_of HT_.out (by kernel_rfl)) (fun _ _ _ h => h) (Or.inl ⟨by rfl, ?_⟩) ?_ ?_
        rotate_left
        ·intro w'
         go_simp
         with_reducible rfl
        rotate_left
        ·simp only [Act.put, List.setIfInBounds_toArray, List.set_cons_zero, List.set_cons_succ, i64_w, i32_w]
         rfl
        refine pure_ (i := 5) (N := some 22) (v := ?_) (a' := ?_) #[true, true, true, false, true, true, false, false, false, false] rfl rfl (any_of HT_.out (by kernel_rfl)) (fun _ _ _ h => h) (Or.inl ⟨by rfl, ?_⟩) ?_ ?_
        rotate_left
        ·intro w'
         go_simp
         with_reducible rfl
        rotate_left
        ·simp only [Act.put, List.setIfInBounds_toArray, List.set_cons_zero, List.set_cons_succ, i64_w, i32_w]
         rfl
        refine pure_ (i := 6) (N := some 23) (v := ?_) (a' := ?_) #[true, true, true, false, true, true, true, false, false, false] rfl rfl (any_of HT_.out (by kernel_rfl)) (fun _ _ _ h => h) (Or.inl ⟨by rfl, ?_⟩) ?_ ?_
        rotate_left
        ·intro w'
         go_simp
         with_reducible rfl
        rotate_left
        ·simp only [Act.put, List.setIfInBounds_toArray, List.set_cons_zero, List.set_cons_succ, i64_w, i32_w]
         rfl
        refine take_ (i := 3) (N := some 20) (v := ?_) (a' := ?_) #[true, true, true, true, true, true, true, false, false, false] rfl rfl (take_ofW HT_.out HW_.out (by kernel_rfl)) (fun _ _ _ h => h) (Or.inl ⟨by rfl, ?_⟩) hHeld ?_ ?_
        rotate_left
        ·rintro w' ⟨s0, s1, s2, s3, s4, s5, s6, s7, s8, s9, s10, s11⟩
         go_simp
         with_reducible rfl
        rotate_left
        ·simp only [Act.put, List.setIfInBounds_toArray, List.set_cons_zero, List.set_cons_succ, i64_w, i32_w]
         rfl
        refine take_ (i := 7) (N := some 24) (v := ?_) (a' := ?_) #[true, true, true, true, true, true, true, true, false, false] rfl rfl (take_ofW HT_.out HW_.out (by kernel_rfl)) (fun _ _ _ h => h) (Or.inl ⟨by rfl, ?_⟩) hHeld ?_ ?_
        rotate_left
        ·rintro w' ⟨s0, s1, s2, s3, s4, s5, s6, s7, s8, s9, s10, s11⟩
         go_simp
         with_reducible rfl
        rotate_left
        ·simp only [Act.put, List.setIfInBounds_toArray, List.set_cons_zero, List.set_cons_succ, i64_w, i32_w]
         rfl
        refine one_ (i := 8) (N := some 25) #[true, true, true, true, true, true, true, true, true, false] rfl rfl (one_of HT_.out (by kernel_rfl)) (by decide) (fun K hK => ?_)
        refine goes_ Try.func25 (by kernel_rfl) rfl #[.agg #[.int .i64 ((rd_T41 l0 x5_1).f0), .int .i64 ((rd_T41 l0 x5_1).f1), .bool ((rd_T41 l0 x5_1).f2), .slice A404_3 ((rd_T41 l0 x5_1).f3).length c404_3, .bool ((rd_T41 l0 x5_1).f4), .slice A404_5 ((rd_T41 l0 x5_1).f5).length c404_5], .agg #[.int .i64 ((rd_T41 l1 x5_1).f0), .int .i64 ((rd_T41 l1 x5_1).f1), .bool ((rd_T41 l1 x5_1).f2), .slice A405_3 ((rd_T41 l1 x5_1).f3).length c405_3, .bool ((rd_T41 l1 x5_1).f4), .slice A405_5 ((rd_T41 l1 x5_1).f5).length c405_5]] (by rfl) rfl rfl (by (try simp only [List.map_toArray, List.map_cons, List.map_nil]); first | done | rfl | (simp only [List.length_drop, List.length_take]; rfl)) ?_
        with_reducible refine (laws_sameRecord.calls k1 ((rd_T41 l0 x5_1).f0) ((rd_T41 l0 x5_1).f1) ((rd_T41 l0 x5_1).f2) _ _ ((rd_T41 l0 x5_1).f3) ((rd_T41 l0 x5_1).f4) _ _ ((rd_T41 l0 x5_1).f5) ((rd_T41 l1 x5_1).f0) ((rd_T41 l1 x5_1).f1) ((rd_T41 l1 x5_1).f2) _ _ ((rd_T41 l1 x5_1).f3) ((rd_T41 l1 x5_1).f4) _ _ ((rd_T41 l1 x5_1).f5) false _ ?side1 ?side2 ?side3 ?side4 ?side5 ?side6 ?side7 ?side8 A7.out).mono ?_
        (case side1 => repeat (first | exact (Kd.C_below HR404_3.out HB.out) | (with_reducible refine Kd.C_alloc ?_ _) | (with_reducible refine Kd.C_drewN ?_ _) | (with_reducible refine Kd.C_drew ?_)))
        (case side2 => exact HC404_3.out)
        (case side3 => repeat (first | exact (Kd.C_below HR404_5.out HB.out) | (with_reducible refine Kd.C_alloc ?_ _) | (with_reducible refine Kd.C_drewN ?_ _) | (with_reducible refine Kd.C_drew ?_)))
        (case side4 => exact HC404_5.out)
        (case side5 => repeat (first | exact (Kd.C_below HR405_3.out HB.out) | (with_reducible refine Kd.C_alloc ?_ _) | (with_reducible refine Kd.C_drewN ?_ _) | (with_reducible refine Kd.C_drew ?_)))
        (case side6 => exact HC405_3.out)
        (case side7 => repeat (first | exact (Kd.C_below HR405_5.out HB.out) | (with_reducible refine Kd.C_alloc ?_ _) | (with_reducible refine Kd.C_drewN ?_ _) | (with_reducible refine Kd.C_drew ?_)))
        (case side8 => exact HC405_5.out)
        rintro e w12 ⟨rfl, hb⟩
        refine ⟨_, rfl, ?_⟩
        have n0_ := Aside0.mk (below_step (by repeat (first | (with_reducible first | exact HB.out | apply below_alloc | apply pw_below_drewN | apply below_drew1) | exact HB.out)) hb)
        clear HB
        have HB := n0_
        clear n0_
        (try clear hb)
        (try clear hb2)
        (try clear hk)
        (try clear hi)
        refine hK.out _ _ ⟨((HB.out.cell (World.block_lt_of_cell? w _ hw404_0)).trans hw404_0), ((HB.out.cell (World.block_lt_of_cell? w _ hw404_1)).trans hw404_1), ((HB.out.cell (World.block_lt_of_cell? w _ hw404_2)).trans hw404_2), ((HB.out.cell (World.block_lt_of_cell? w _ hw404_3)).trans hw404_3), ((HB.out.cell (World.block_lt_of_cell? w _ hw404_4)).trans hw404_4), ((HB.out.cell (World.block_lt_of_cell? w _ hw404_5)).trans hw404_5), ((HB.out.cell (World.block_lt_of_cell? w _ hw405_0)).trans hw405_0), ((HB.out.cell (World.block_lt_of_cell? w _ hw405_1)).trans hw405_1), ((HB.out.cell (World.block_lt_of_cell? w _ hw405_2)).trans hw405_2), ((HB.out.cell (World.block_lt_of_cell? w _ hw405_3)).trans hw405_3), ((HB.out.cell (World.block_lt_of_cell? w _ hw405_4)).trans hw405_4), ((HB.out.cell (World.block_lt_of_cell? w _ hw405_5)).trans hw405_5)⟩ (fun hHeld => ?_)
        clear hK K
        refine norm_ (a' := ?_) ?_ ?_
        rotate_left
        ·show Act.put _ (some 25) _ = _
         simp only [Act.put, List.setIfInBounds_toArray, List.set_cons_zero, List.set_cons_succ, i64_w, i32_w]
         rfl
        refine pure_ (i := 9) (N := some 26) (v := ?_) (a' := ?_) #[true, true, true, true, true, true, true, true, true, true] rfl rfl (any_of HT_.out (by kernel_rfl)) (fun _ _ _ h => h) (Or.inl ⟨by rfl, ?_⟩) ?_ ?_
        rotate_left
        ·intro w'
         go_simp
         with_reducible rfl
        rotate_left
        ·simp only [Act.put, List.setIfInBounds_toArray, List.set_cons_zero, List.set_cons_succ, i64_w, i32_w]
         rfl
        refine done_ (done_of HT_.out (by kernel_rfl)) ?_
        try go_wp2
        go_ret
        exact ⟨by first | rfl | (simp [errW_none, errW_some] <;> rfl) | (simp [*, errW_none, errW_some] <;> rfl), by repeat (first | (with_reducible first | exact HB.out | apply below_alloc | apply pw_below_drewN | apply below_drew1) | exact HB.out)⟩
      ·rw [if_neg c6] at H
       exact absurd H (by simp)
     ·rw [if_neg c5] at H
      exact absurd H (by simp)
    ·rw [if_neg c4] at H
     have c4b0 : decide (x5_1 < (l0.length : Int)) = false := decide_eq_false c4
     clear c4
     obtain rfl := Option.some.inj H
     go_wp2
     go_ret
     exact ⟨by first | rfl | (simp [errW_none, errW_some] <;> rfl) | (simp [*, errW_none, errW_some] <;> rfl), by repeat (first | (with_reducible first | exact HB.out | apply below_alloc | apply pw_below_drewN | apply below_drew1) | exact HB.out)⟩
 ·rw [if_neg c3] at H
  have c3b0 : ((l0.length : Int) == (l1.length : Int)) = false := beq_eq_false_iff_ne.mpr c3
  have c3b1 : ((l0.length : Int) != (l1.length : Int)) = true := bne_iff_ne.mpr c3
  have c3b2 : (l0.length == l1.length) = false := by first | simpa using c3 | (simp at c3 ⊢; omega)
  obtain rfl := Option.some.inj H
  go_enter Try.func24, Try.ntmps24
  go_wp2
  go_ret
  exact ⟨by first | rfl | (simp [errW_none, errW_some] <;> rfl) | (simp [*, errW_none, errW_some] <;> rfl), by repeat (first | (with_reducible first | exact HB.out | apply below_alloc | apply pw_below_drewN | apply below_drew1) | exact HB.out)⟩

end Go.Proofs.Ythlnbbehcpdnfaa.G

namespace Go.Proofs.Ythlnbbehcpdnfaa.G
open Go.RowKit Go.Proofs.YthlnbbehcpdnfaaW.PrintWords Go.Proofs.YthlnbbehcpdnfaaW.PrintLast Go.Proofs.YthlnbbehcpdnfaaW.PrintMore
attribute [local go_sem] max2_int min2_int max_two min_two max_three min_three max_four min_four   -- for this text's walks alone
set_option linter.unusedVariables false
set_option linter.unusedSimpArgs false

def spec_DrawRecordsApart.f (k : Nat) (l0 : List Int) : Option ((List (S41)) × (List (S41))) := (spec_l6Open.f l0).bind fun bt429 => ((spec_l92Alike.f k bt429.1 bt429.2).bind fun bt432 => (some (bt432.1, bt432.2.1)))
set_option maxHeartbeats 8000000 in
set_option maxRecDepth 100000 in
theorem spec_DrawRecordsApart.calls (k : Nat) (A0 : Option Addr) (c0 : Nat) (l0 : List Int) (r1 : List (S41)) (r2 : List (S41)) (w : World) (hr0 : Kd.C (Kd.int .u8) w A0 l0.length l0) (hc0 : l0.length ≤ c0) (h : spec_DrawRecordsApart.f k l0 = some (r1, r2)) :
  Calls Try.prog 26 #[.slice A0 l0.length c0] w fun e w' => ∃ v0_ v1_ : Value, e = .returned (.tuple #[v0_, v1_]) ∧ Kd.V k41 41 w' w.heap.size (fun k_ => (w.heap.size ≤ k_)) v0_ r1 ∧ Kd.V k41 41 w' w.heap.size (fun k_ => (w.heap.size ≤ k_)) v1_ r2 ∧ Below w.heap.size w w' := by
 have HR0 := Aside0.mk hr0
 have HC0 := Aside0.mk hc0
 clear hr0 hc0
 have HB := Aside0.mk (Below.refl w.heap.size w)
 have H : ((spec_l6Open.f l0).bind fun bt429 => ((spec_l92Alike.f k bt429.1 bt429.2).bind fun bt432 => (some (bt432.1, bt432.2.1)))) = some (r1, r2) := h
 clear h
 replace H := Option.bind_eq_some_iff.mp H
 obtain ⟨⟨t429, t430⟩, A20, H⟩ := H
 replace H : ((spec_l92Alike.f k t429 t430).bind fun bt432 => (some (bt432.1, bt432.2.1))) = some (r1, r2) := H
 have A2 := Aside0.mk A20
 clear A20
 replace H := Option.bind_eq_some_iff.mp H
 obtain ⟨⟨t432, t435, t438⟩, A30, H⟩ := H
 replace H : (some (t432, t435)) = some (r1, r2) := H
 have A3 := Aside0.mk A30
 clear A30
 simp only [Option.some.injEq, Prod.mk.injEq] at H
 obtain ⟨rfl, rfl⟩ := H
 go_enter Try.func26, Try.ntmps26
 go_wp2_with (first | ((with_reducible refine gate_callee (f := 43) rfl ?_); refine goesL_ (some 5) rfl rfl Try.func43 (by kernel_rfl) rfl #[.slice A0 l0.length c0] rfl (by (try simp only [List.map_toArray, List.map_cons, List.map_nil]); first | done | rfl | (simp only [List.length_drop, List.length_take]; rfl)) ?_; (with_reducible refine (spec_l6Open.calls _ _ l0 t429 t430 w _ ?side1 ?side2 ?side3 A2.out).mono ?_); (case side1 => repeat (first | (with_reducible first | exact HB.out | apply below_alloc | apply pw_below_drewN | apply below_drew1) | exact HB.out)); (case side2 => exact HR0.out); (case side3 => exact HC0.out); rintro e w4 ⟨g431, rfl, hi, hb, hb2⟩; refine ⟨_, rfl, ?_⟩; have n0_ := Aside0.mk (hb); have n1_ := Aside0.mk (hi); clear HB; have HB := n0_; have HI431 := n1_; clear n0_ n1_; (try clear hb); (try clear hb2); (try clear hk); (try clear hi)) | ((with_reducible refine gate_callee (f := 44) rfl ?_); refine goesL_ (some 6) rfl rfl Try.func44 (by kernel_rfl) rfl #[.pointer (some ⟨g431, 0, none⟩)] rfl (by (try simp only [List.map_toArray, List.map_cons, List.map_nil]); first | done | rfl | (simp only [List.length_drop, List.length_take]; rfl)) ?_; (with_reducible refine (spec_l92Alike.calls k g431 t429 t430 t432 t435 t438 w _ ?side1 ?side2 A3.out).mono ?_); (case side1 => repeat (first | (with_reducible first | exact HI431.out | apply IsS79.alloc | apply IsS79.drewN | apply IsS79.drew | apply IsS79.set_1) | exact HI431.out)); (case side2 => repeat (first | (with_reducible first | exact HB.out | apply below_alloc | apply pw_below_drewN | apply below_drew1 | refine below_set ?_ (IsS79.ge HI431.out)) | exact HB.out)); rintro e w5 ⟨v433, v436, rfl, ho0, ho1, hi, hb, hk⟩; have u_v433 : ∀ (a_ : Addr) (m_ : Mode) (W_ : World), (store a_ v433 m_).run Try.prog W_ = stored Try.prog W_ a_ v433 m_ := fun a_ m_ W_ => run_store _ W_ a_ _ m_ (by first | (obtain ⟨_, _, e_⟩ := Kd.R_slice ho0; rw [e_]; rfl) | (obtain ⟨_, _, e_⟩ := Kd.S_slice ho0; rw [e_]; rfl) | (obtain ⟨_, _, e_, _⟩ := Kd.Q_slice ho0; rw [e_]; rfl) | (obtain ⟨_, _, e_⟩ := Kd.N_slice ho0; rw [e_]; rfl) | (obtain ⟨_, _, e_⟩ := Kd.V_slice ho0; rw [e_]; rfl)); have u_v436 : ∀ (a_ : Addr) (m_ : Mode) (W_ : World), (store a_ v436 m_).run Try.prog W_ = stored Try.prog W_ a_ v436 m_ := fun a_ m_ W_ => run_store _ W_ a_ _ m_ (by first | (obtain ⟨_, _, e_⟩ := Kd.R_slice ho1; rw [e_]; rfl) | (obtain ⟨_, _, e_⟩ := Kd.S_slice ho1; rw [e_]; rfl) | (obtain ⟨_, _, e_, _⟩ := Kd.Q_slice ho1; rw [e_]; rfl) | (obtain ⟨_, _, e_⟩ := Kd.N_slice ho1; rw [e_]; rfl) | (obtain ⟨_, _, e_⟩ := Kd.V_slice ho1; rw [e_]; rfl)); refine ⟨_, rfl, ?_⟩; have n0_ := Aside0.mk (Kd.V_lower (Kd.V_mono (ok' := fun k_ => (w.heap.size ≤ k_) ∧ k_ ≠ g431) ho0 (fun k_ hk_ => ⟨(Nat.le_trans (below_size (by repeat (first | (with_reducible first | exact HB.out | apply below_alloc | apply pw_below_drewN | apply below_drew1 | refine below_set ?_ (IsS79.ge HI431.out)) | exact HB.out))) hk_), (IsS79.fresh (by repeat (first | (with_reducible first | exact HI431.out | apply IsS79.alloc | apply IsS79.drewN | apply IsS79.drew | apply IsS79.set_1) | exact HI431.out)) k_ hk_)⟩)) (below_size (by repeat (first | (with_reducible first | exact HB.out | apply below_alloc | apply pw_below_drewN | apply below_drew1 | refine below_set ?_ (IsS79.ge HI431.out)) | exact HB.out)))); have n1_ := Aside0.mk (Kd.V_lower (Kd.V_mono (ok' := fun k_ => (w.heap.size ≤ k_) ∧ k_ ≠ g431) ho1 (fun k_ hk_ => ⟨(Nat.le_trans (below_size (by repeat (first | (with_reducible first | exact HB.out | apply below_alloc | apply pw_below_drewN | apply below_drew1 | refine below_set ?_ (IsS79.ge HI431.out)) | exact HB.out))) hk_), (IsS79.fresh (by repeat (first | (with_reducible first | exact HI431.out | apply IsS79.alloc | apply IsS79.drewN | apply IsS79.drew | apply IsS79.set_1) | exact HI431.out)) k_ hk_)⟩)) (below_size (by repeat (first | (with_reducible first | exact HB.out | apply below_alloc | apply pw_below_drewN | apply below_drew1 | refine below_set ?_ (IsS79.ge HI431.out)) | exact HB.out)))); have n2_ := Aside0.mk (hb); have n3_ := Aside0.mk (hi); clear HB; clear HI431; have HO434 := n0_; have HO437 := n1_; have HB := n2_; have HI431 := n3_; clear n0_ n1_ n2_ n3_; (try clear hb); (try clear hb2); (try clear hk); (try clear hi); (try clear ho0); (try clear ho1)))
 go_ret2
 exact ⟨_, _, by first | rfl | (simp [errW_none, errW_some] <;> rfl) | (simp [*, errW_none, errW_some] <;> rfl), by (with_reducible repeat (first | apply Kd.V_alloc | apply Kd.V_drewN | apply Kd.V_drew)); exact Kd.V_mono HO434.out (fun _ hk => hk.1), by (with_reducible repeat (first | apply Kd.V_alloc | apply Kd.V_drewN | apply Kd.V_drew)); exact Kd.V_mono HO437.out (fun _ hk => hk.1), by repeat (first | (with_reducible first | exact HB.out | apply below_alloc | apply pw_below_drewN | apply below_drew1 | refine below_set ?_ (IsS79.ge HI431.out)) | exact HB.out)⟩

mutual
def impl_RecordsApart.j0 : Nat → List (S41) → List (S41) → Bool → Option (Int)
 | 0, _, _, _ => none
 | k + 1, x0, x1, x13 => if x13 = true then (some (-1)) else ((impl_common.f k x0 x1).bind fun t441 => (if t441 < (x0.length : Int) then (impl_RecordsApart.j1 k x0 x1 t441 (decide (t441 < (x1.length : Int)))) else (impl_RecordsApart.j1 k x0 x1 t441 false)))
def impl_RecordsApart.j1 : Nat → List (S41) → List (S41) → Int → Bool → Option (Int)
 | 0, _, _, _, _ => none
 | k + 1, x0, x1, x5, x17 => if x17 = true then (if 0 ≤ x5 then (if x5 < (x0.length : Int) then (if x5 < (x1.length : Int) then (some (mn ((rd_T41 x0 x5).f0) ((rd_T41 x1 x5).f0))) else (none)) else (none)) else (none)) else (if x5 < (x0.length : Int) then (if 0 ≤ x5 then (some ((rd_T41 x0 x5).f0)) else (none)) else (if x5 < (x1.length : Int) then (if 0 ≤ x5 then (some ((rd_T41 x1 x5).f0)) else (none)) else (some (-1))))
end
def impl_RecordsApart.f (k : Nat) (l0 : List (S41)) (l1 : List (S41)) : Option (Int) := (impl_rowValid.f k l0).bind fun t439 => (if t439 = true then ((impl_rowValid.f k l1).bind fun t440 => (impl_RecordsApart.j0 k l0 l1 (!t440))) else (impl_RecordsApart.j0 k l0 l1 true))
set_option maxHeartbeats 8000000 in
set_option maxRecDepth 100000 in
theorem impl_RecordsApart.calls (k : Nat) (A0 : Option Addr) (c0 : Nat) (l0 : List (S41)) (A1 : Option Addr) (c1 : Nat) (l1 : List (S41)) (r : Int) (w : World) (hr0 : Kd.C k41 w A0 l0.length l0) (hc0 : l0.length ≤ c0) (hr1 : Kd.C k41 w A1 l1.length l1) (hc1 : l1.length ≤ c1) (h : impl_RecordsApart.f k l0 l1 = some r) :
  Calls Try.prog 27 #[.slice A0 l0.length c0, .slice A1 l1.length c1] w fun e w' => e = .returned (.int .i64 r) ∧ Below w.heap.size w w' := by
 have HR0 := Aside0.mk hr0
 have HC0 := Aside0.mk hc0
 clear hr0 hc0
 have HR1 := Aside0.mk hr1
 have HC1 := Aside0.mk hc1
 clear hr1 hc1
 have HB := Aside0.mk (Below.refl w.heap.size w)
 have H : ((impl_rowValid.f k l0).bind fun t439 => (if t439 = true then ((impl_rowValid.f k l1).bind fun t440 => (impl_RecordsApart.j0 k l0 l1 (!t440))) else (impl_RecordsApart.j0 k l0 l1 true))) = some r := h
 clear h
 have HC3 := Aside0.mk H
 clear H
 go_enter Try.func27, Try.ntmps27
 go_upto_region 1 with (fail)
 repeat (go_quiet (fail); go_upto_region 1 with (fail))
 go_cut [13] (fun v13 wc => ∃ (kq : Nat) (x13_2 : Bool), v13 = .bool x13_2 ∧ Aside0 (impl_RecordsApart.j0 kq l0 l1 x13_2 = some r) ∧ Aside0 (kq ≤ k) ∧ Aside0 (Below w.heap.size w wc))
 case first =>
  have H := HC3.out
  clear HC3
  replace H := Option.bind_eq_some_iff.mp H
  obtain ⟨t439, A40, H⟩ := H
  replace H : (if t439 = true then ((impl_rowValid.f k l1).bind fun t440 => (impl_RecordsApart.j0 k l0 l1 (!t440))) else (impl_RecordsApart.j0 k l0 l1 true)) = some r := H
  have A4 := Aside0.mk A40
  clear A40
  by_cases c5 : t439 = true
  ·subst c5
   have H1 : ((impl_rowValid.f k l1).bind fun t440 => (impl_RecordsApart.j0 k l0 l1 (!t440))) = some r := by rw [if_pos rfl] at H; exact H
   clear H
   have H := H1
   clear H1
   replace H := Option.bind_eq_some_iff.mp H
   obtain ⟨t440, A60, H⟩ := H
   replace H : (impl_RecordsApart.j0 k l0 l1 (!t440)) = some r := H
   have A6 := Aside0.mk A60
   clear A60
   have H' := Aside0.mk H
   clear H
   go_wp2_with (first | (go_at_call 45; (with_reducible refine (impl_rowValid.calls k _ _ l0 true _ ?side1 ?side2 A4.out).mono ?_); (case side1 => repeat (first | exact (Kd.C_below HR0.out HB.out) | (with_reducible refine Kd.C_alloc ?_ _) | (with_reducible refine Kd.C_drewN ?_ _) | (with_reducible refine Kd.C_drew ?_))); (case side2 => exact HC0.out); rintro e w7 ⟨rfl, hb⟩; have n0_ := Aside0.mk (below_step (by repeat (first | (with_reducible first | exact HB.out | apply below_alloc | apply pw_below_drewN | apply below_drew1) | exact HB.out)) hb); clear HB; have HB := n0_; clear n0_; (try clear hb); (try clear hb2); (try clear hk); (try clear hi)) | (go_at_call 45; (with_reducible refine (impl_rowValid.calls k _ _ l1 t440 _ ?side1 ?side2 A6.out).mono ?_); (case side1 => repeat (first | exact (Kd.C_below HR1.out HB.out) | (with_reducible refine Kd.C_alloc ?_ _) | (with_reducible refine Kd.C_drewN ?_ _) | (with_reducible refine Kd.C_drew ?_))); (case side2 => exact HC1.out); rintro e w8 ⟨rfl, hb⟩; have n0_ := Aside0.mk (below_step (by repeat (first | (with_reducible first | exact HB.out | apply below_alloc | apply pw_below_drewN | apply below_drew1) | exact HB.out)) hb); clear HB; have HB := n0_; clear n0_; (try clear hb); (try clear hb2); (try clear hk); (try clear hi)))
   repeat (go_quiet (first | (go_at_call 45; (with_reducible refine (impl_rowValid.calls k _ _ l0 true _ ?side1 ?side2 A4.out).mono ?_); (case side1 => repeat (first | exact (Kd.C_below HR0.out HB.out) | (with_reducible refine Kd.C_alloc ?_ _) | (with_reducible refine Kd.C_drewN ?_ _) | (with_reducible refine Kd.C_drew ?_))); (case side2 => exact HC0.out); rintro e w7 ⟨rfl, hb⟩; have n0_ := Aside0.mk (below_step (by repeat (first | (with_reducible first | exact HB.out | apply below_alloc | apply pw_below_drewN | apply below_drew1) | exact HB.out)) hb); clear HB; have HB := n0_; clear n0_; (try clear hb); (try clear hb2); (try clear hk); (try clear hi)) | (go_at_call 45; (with_reducible refine (impl_rowValid.calls k _ _ l1 t440 _ ?side1 ?side2 A6.out).mono ?_); (case side1 => repeat (first | exact (Kd.C_below HR1.out HB.out) | (with_reducible refine Kd.C_alloc ?_ _) | (with_reducible refine Kd.C_drewN ?_ _) | (with_reducible refine Kd.C_drew ?_))); (case side2 => exact HC1.out); rintro e w8 ⟨rfl, hb⟩; have n0_ := Aside0.mk (below_step (by repeat (first | (with_reducible first | exact HB.out | apply below_alloc | apply pw_below_drewN | apply below_drew1) | exact HB.out)) hb); clear HB; have HB := n0_; clear n0_; (try clear hb); (try clear hb2); (try clear hk); (try clear hi))); try go_wp2_with (first | (go_at_call 45; (with_reducible refine (impl_rowValid.calls k _ _ l0 true _ ?side1 ?side2 A4.out).mono ?_); (case side1 => repeat (first | exact (Kd.C_below HR0.out HB.out) | (with_reducible refine Kd.C_alloc ?_ _) | (with_reducible refine Kd.C_drewN ?_ _) | (with_reducible refine Kd.C_drew ?_))); (case side2 => exact HC0.out); rintro e w7 ⟨rfl, hb⟩; have n0_ := Aside0.mk (below_step (by repeat (first | (with_reducible first | exact HB.out | apply below_alloc | apply pw_below_drewN | apply below_drew1) | exact HB.out)) hb); clear HB; have HB := n0_; clear n0_; (try clear hb); (try clear hb2); (try clear hk); (try clear hi)) | (go_at_call 45; (with_reducible refine (impl_rowValid.calls k _ _ l1 t440 _ ?side1 ?side2 A6.out).mono ?_); (case side1 => repeat (first | exact (Kd.C_below HR1.out HB.out) | (with_reducible refine Kd.C_alloc ?_ _) | (with_reducible refine Kd.C_drewN ?_ _) | (with_reducible refine Kd.C_drew ?_))); (case side2 => exact HC1.out); rintro e w8 ⟨rfl, hb⟩; have n0_ := Aside0.mk (below_step (by repeat (first | (with_reducible first | exact HB.out | apply below_alloc | apply pw_below_drewN | apply below_drew1) | exact HB.out)) hb); clear HB; have HB := n0_; clear n0_; (try clear hb); (try clear hb2); (try clear hk); (try clear hi))))
   go_meet
   case rel => exact ⟨_, (!t440), (by first | rfl | (simp; done) | (simp [*]; done)), H', ⟨by first | omega | exact Nat.le_refl _⟩, ⟨by repeat (first | (with_reducible first | exact HB.out | apply below_alloc | apply pw_below_drewN | apply below_drew1) | exact HB.out)⟩⟩
  ·replace c5 := Bool.eq_false_iff.mpr c5
   subst c5
   have H1 : (impl_RecordsApart.j0 k l0 l1 true) = some r := by rw [if_neg (show ¬ (false = true) by decide)] at H; exact H
   clear H
   have H := H1
   clear H1
   have H' := Aside0.mk H
   clear H
   go_wp2_with (first | (go_at_call 45; (with_reducible refine (impl_rowValid.calls k _ _ l0 false _ ?side1 ?side2 A4.out).mono ?_); (case side1 => repeat (first | exact (Kd.C_below HR0.out HB.out) | (with_reducible refine Kd.C_alloc ?_ _) | (with_reducible refine Kd.C_drewN ?_ _) | (with_reducible refine Kd.C_drew ?_))); (case side2 => exact HC0.out); rintro e w9 ⟨rfl, hb⟩; have n0_ := Aside0.mk (below_step (by repeat (first | (with_reducible first | exact HB.out | apply below_alloc | apply pw_below_drewN | apply below_drew1) | exact HB.out)) hb); clear HB; have HB := n0_; clear n0_; (try clear hb); (try clear hb2); (try clear hk); (try clear hi)))
   repeat (go_quiet (first | (go_at_call 45; (with_reducible refine (impl_rowValid.calls k _ _ l0 false _ ?side1 ?side2 A4.out).mono ?_); (case side1 => repeat (first | exact (Kd.C_below HR0.out HB.out) | (with_reducible refine Kd.C_alloc ?_ _) | (with_reducible refine Kd.C_drewN ?_ _) | (with_reducible refine Kd.C_drew ?_))); (case side2 => exact HC0.out); rintro e w9 ⟨rfl, hb⟩; have n0_ := Aside0.mk (below_step (by repeat (first | (with_reducible first | exact HB.out | apply below_alloc | apply pw_below_drewN | apply below_drew1) | exact HB.out)) hb); clear HB; have HB := n0_; clear n0_; (try clear hb); (try clear hb2); (try clear hk); (try clear hi))); try go_wp2_with (first | (go_at_call 45; (with_reducible refine (impl_rowValid.calls k _ _ l0 false _ ?side1 ?side2 A4.out).mono ?_); (case side1 => repeat (first | exact (Kd.C_below HR0.out HB.out) | (with_reducible refine Kd.C_alloc ?_ _) | (with_reducible refine Kd.C_drewN ?_ _) | (with_reducible refine Kd.C_drew ?_))); (case side2 => exact HC0.out); rintro e w9 ⟨rfl, hb⟩; have n0_ := Aside0.mk (below_step (by repeat (first | (with_reducible first | exact HB.out | apply below_alloc | apply pw_below_drewN | apply below_drew1) | exact HB.out)) hb); clear HB; have HB := n0_; clear n0_; (try clear hb); (try clear hb2); (try clear hk); (try clear hi))))
   go_meet
   case rel => exact ⟨_, (true), (by first | rfl | (simp; done) | (simp [*]; done)), H', ⟨by first | omega | exact Nat.le_refl _⟩, ⟨by repeat (first | (with_reducible first | exact HB.out | apply below_alloc | apply pw_below_drewN | apply below_drew1) | exact HB.out)⟩⟩
 case rest =>
  clear HC3
  try clear c1
  try clear c2
  try clear p2
  try clear c5
  obtain ⟨kq, x13_2, rfl, HA, HJ2, HB⟩ := hcut
  cases kq with
  | zero => exact absurd HA.out (by simp [impl_RecordsApart.j0])
  | succ kj2 =>
   have H := HA.out
   clear HA
   simp only [impl_RecordsApart.j0] at H
   by_cases c10 : x13_2 = true
   ·subst c10
    have H1 : (some (-1)) = some r := by rw [if_pos rfl] at H; exact H
    clear H
    have H := H1
    clear H1
    obtain rfl := Option.some.inj H
    go_wp2
    repeat (go_quiet (fail); try go_wp2)
    go_ret
    exact ⟨by first | rfl | (simp [errW_none, errW_some] <;> rfl) | (simp [*, errW_none, errW_some] <;> rfl), by repeat (first | (with_reducible first | exact HB.out | apply below_alloc | apply pw_below_drewN | apply below_drew1) | exact HB.out)⟩
   ·replace c10 := Bool.eq_false_iff.mpr c10
    subst c10
    have H1 : ((impl_common.f kj2 l0 l1).bind fun t441 => (if t441 < (l0.length : Int) then (impl_RecordsApart.j1 kj2 l0 l1 t441 (decide (t441 < (l1.length : Int)))) else (impl_RecordsApart.j1 kj2 l0 l1 t441 false))) = some r := by rw [if_neg (show ¬ (false = true) by decide)] at H; exact H
    clear H
    have H := H1
    clear H1
    replace H := Option.bind_eq_some_iff.mp H
    obtain ⟨t441, A110, H⟩ := H
    replace H : (if t441 < (l0.length : Int) then (impl_RecordsApart.j1 kj2 l0 l1 t441 (decide (t441 < (l1.length : Int)))) else (impl_RecordsApart.j1 kj2 l0 l1 t441 false)) = some r := H
    have A11 := Aside0.mk A110
    clear A110
    have HC12 := Aside0.mk H
    clear H
    go_upto_region 4 with (first | (go_at_call 46; (with_reducible refine (impl_common.calls kj2 _ _ l0 _ _ l1 t441 _ ?side1 ?side2 ?side3 ?side4 A11.out).mono ?_); (case side1 => repeat (first | exact (Kd.C_below HR0.out HB.out) | (with_reducible refine Kd.C_alloc ?_ _) | (with_reducible refine Kd.C_drewN ?_ _) | (with_reducible refine Kd.C_drew ?_))); (case side2 => exact HC0.out); (case side3 => repeat (first | exact (Kd.C_below HR1.out HB.out) | (with_reducible refine Kd.C_alloc ?_ _) | (with_reducible refine Kd.C_drewN ?_ _) | (with_reducible refine Kd.C_drew ?_))); (case side4 => exact HC1.out); rintro e w13 ⟨rfl, hb⟩; have n0_ := Aside0.mk (below_step (by repeat (first | (with_reducible first | exact HB.out | apply below_alloc | apply pw_below_drewN | apply below_drew1) | exact HB.out)) hb); clear HB; have HB := n0_; clear n0_; (try clear hb); (try clear hb2); (try clear hk); (try clear hi)))
    repeat (go_quiet (first | (go_at_call 46; (with_reducible refine (impl_common.calls kj2 _ _ l0 _ _ l1 t441 _ ?side1 ?side2 ?side3 ?side4 A11.out).mono ?_); (case side1 => repeat (first | exact (Kd.C_below HR0.out HB.out) | (with_reducible refine Kd.C_alloc ?_ _) | (with_reducible refine Kd.C_drewN ?_ _) | (with_reducible refine Kd.C_drew ?_))); (case side2 => exact HC0.out); (case side3 => repeat (first | exact (Kd.C_below HR1.out HB.out) | (with_reducible refine Kd.C_alloc ?_ _) | (with_reducible refine Kd.C_drewN ?_ _) | (with_reducible refine Kd.C_drew ?_))); (case side4 => exact HC1.out); rintro e w13 ⟨rfl, hb⟩; have n0_ := Aside0.mk (below_step (by repeat (first | (with_reducible first | exact HB.out | apply below_alloc | apply pw_below_drewN | apply below_drew1) | exact HB.out)) hb); clear HB; have HB := n0_; clear n0_; (try clear hb); (try clear hb2); (try clear hk); (try clear hi))); go_upto_region 4 with (first | (go_at_call 46; (with_reducible refine (impl_common.calls kj2 _ _ l0 _ _ l1 t441 _ ?side1 ?side2 ?side3 ?side4 A11.out).mono ?_); (case side1 => repeat (first | exact (Kd.C_below HR0.out HB.out) | (with_reducible refine Kd.C_alloc ?_ _) | (with_reducible refine Kd.C_drewN ?_ _) | (with_reducible refine Kd.C_drew ?_))); (case side2 => exact HC0.out); (case side3 => repeat (first | exact (Kd.C_below HR1.out HB.out) | (with_reducible refine Kd.C_alloc ?_ _) | (with_reducible refine Kd.C_drewN ?_ _) | (with_reducible refine Kd.C_drew ?_))); (case side4 => exact HC1.out); rintro e w13 ⟨rfl, hb⟩; have n0_ := Aside0.mk (below_step (by repeat (first | (with_reducible first | exact HB.out | apply below_alloc | apply pw_below_drewN | apply below_drew1) | exact HB.out)) hb); clear HB; have HB := n0_; clear n0_; (try clear hb); (try clear hb2); (try clear hk); (try clear hi))))
    (try simp only [Act.put, List.setIfInBounds_toArray, List.set_cons_zero, List.set_cons_succ])
    go_cut [17] (fun v17 wc => ∃ (kq : Nat) (x17_11 : Bool), v17 = .bool x17_11 ∧ Aside0 (impl_RecordsApart.j1 kq l0 l1 t441 x17_11 = some r) ∧ Aside0 (kq ≤ kj2) ∧ Aside0 (Below w.heap.size w wc))
    case first =>
     have H := HC12.out
     clear HC12
     by_cases c14 : t441 < (l0.length : Int)
     ·rw [if_pos c14] at H
      have c14b0 : decide (t441 < (l0.length : Int)) = true := decide_eq_true c14
      clear c14
      (first | rw [c14b0] | (simp only [i64_w, i32_w]; rw [c14b0]) | skip)
      have H' := Aside0.mk H
      clear H
      go_wp2
      repeat (go_quiet (fail); try go_wp2)
      go_meet
      case rel => exact ⟨_, (decide (t441 < (l1.length : Int))), (by first | rfl | (simp; done) | (simp [*]; done)), H', ⟨by have := HJ2.out; first | omega | exact Nat.le_refl _⟩, ⟨by repeat (first | (with_reducible first | exact HB.out | apply below_alloc | apply pw_below_drewN | apply below_drew1) | exact HB.out)⟩⟩
     ·rw [if_neg c14] at H
      have c14b0 : decide (t441 < (l0.length : Int)) = false := decide_eq_false c14
      clear c14
      (first | rw [c14b0] | (simp only [i64_w, i32_w]; rw [c14b0]) | skip)
      have H' := Aside0.mk H
      clear H
      go_wp2
      repeat (go_quiet (fail); try go_wp2)
      go_meet
      case rel => exact ⟨_, (false), (by first | rfl | (simp; done) | (simp [*]; done)), H', ⟨by have := HJ2.out; first | omega | exact Nat.le_refl _⟩, ⟨by repeat (first | (with_reducible first | exact HB.out | apply below_alloc | apply pw_below_drewN | apply below_drew1) | exact HB.out)⟩⟩
    case rest =>
     clear HC12
     try clear c1
     try clear c2
     try clear p2
     try clear c5
     try clear c10
     try clear c14
     try clear c14b0
     try clear p2
     obtain ⟨kq, x17_11, rfl, HA, HJ11, HB⟩ := hcut
     cases kq with
     | zero => exact absurd HA.out (by simp [impl_RecordsApart.j1])
     | succ kj11 =>
      have H := HA.out
      clear HA
      simp only [impl_RecordsApart.j1] at H
      by_cases c15 : x17_11 = true
      ·subst c15
       have H1 : (if 0 ≤ t441 then (if t441 < (l0.length : Int) then (if t441 < (l1.length : Int) then (some (mn ((rd_T41 l0 t441).f0) ((rd_T41 l1 t441).f0))) else (none)) else (none)) else (none)) = some r := by rw [if_pos rfl] at H; exact H
       clear H
       have H := H1
       clear H1
       by_cases c16 : 0 ≤ t441
       ·rw [if_pos c16] at H
        have c16b0 : decide (0 ≤ t441) = true := decide_eq_true c16
        clear c16
        by_cases c17 : t441 < (l0.length : Int)
        ·rw [if_pos c17] at H
         have c17b0 : decide (t441 < (l0.length : Int)) = true := decide_eq_true c17
         clear c17
         by_cases c18 : t441 < (l1.length : Int)
         ·rw [if_pos c18] at H
          have c18b0 : decide (t441 < (l1.length : Int)) = true := decide_eq_true c18
          clear c18
          obtain ⟨ji19, hji19⟩ : ∃ j_ : Int, (mn ((rd_T41 l0 t441).f0) ((rd_T41 l1 t441).f0)) = j_ := ⟨_, rfl⟩
          replace H : (some ji19) = some r := by first | (rw [hji19] at H; exact H) | (simp only [hji19] at H ⊢; exact H)
          have hji19_ : (if ((rd_T41 l1 t441).f0) < ((rd_T41 l0 t441).f0) then ((rd_T41 l1 t441).f0) else ((rd_T41 l0 t441).f0)) = ji19 := hji19
          obtain rfl := Option.some.inj H
          have p442 : 0 ≤ (t441 : Int) := of_decide_eq_true (by first | (with_reducible assumption) | assumption)
          have q442 : t441 < (l0.length : Int) := of_decide_eq_true (by first | (with_reducible assumption) | assumption)
          obtain ⟨ad442, A442_3, c442_3, A442_5, c442_5, e442, hx442_0, hx442_1, hx442_2, hx442_3, hx442_4, hx442_5, hl442_3, hi442_3, hl442_5, hi442_5⟩ := at_T41 HR0.out t441 p442 q442
          cases e442
          replace hx442_0 := (HB.out.cell (World.block_lt_of_cell? w _ hx442_0)).trans hx442_0
          replace hx442_1 := (HB.out.cell (World.block_lt_of_cell? w _ hx442_1)).trans hx442_1
          replace hx442_2 := (HB.out.cell (World.block_lt_of_cell? w _ hx442_2)).trans hx442_2
          replace hx442_3 := (HB.out.cell (World.block_lt_of_cell? w _ hx442_3)).trans hx442_3
          replace hx442_4 := (HB.out.cell (World.block_lt_of_cell? w _ hx442_4)).trans hx442_4
          replace hx442_5 := (HB.out.cell (World.block_lt_of_cell? w _ hx442_5)).trans hx442_5
          have HR442_3 := Aside0.mk hi442_3
          have HC442_3 := Aside0.mk hl442_3
          clear hi442_3 hl442_3
          have HR442_5 := Aside0.mk hi442_5
          have HC442_5 := Aside0.mk hl442_5
          clear hi442_5 hl442_5
          replace p442 := eq_true p442
          replace q442 := eq_true q442
          have p443 : 0 ≤ (t441 : Int) := of_decide_eq_true (by first | (with_reducible assumption) | assumption)
          have q443 : t441 < (l1.length : Int) := of_decide_eq_true (by first | (with_reducible assumption) | assumption)
          obtain ⟨ad443, A443_3, c443_3, A443_5, c443_5, e443, hx443_0, hx443_1, hx443_2, hx443_3, hx443_4, hx443_5, hl443_3, hi443_3, hl443_5, hi443_5⟩ := at_T41 HR1.out t441 p443 q443
          cases e443
          replace hx443_0 := (HB.out.cell (World.block_lt_of_cell? w _ hx443_0)).trans hx443_0
          replace hx443_1 := (HB.out.cell (World.block_lt_of_cell? w _ hx443_1)).trans hx443_1
          replace hx443_2 := (HB.out.cell (World.block_lt_of_cell? w _ hx443_2)).trans hx443_2
          replace hx443_3 := (HB.out.cell (World.block_lt_of_cell? w _ hx443_3)).trans hx443_3
          replace hx443_4 := (HB.out.cell (World.block_lt_of_cell? w _ hx443_4)).trans hx443_4
          replace hx443_5 := (HB.out.cell (World.block_lt_of_cell? w _ hx443_5)).trans hx443_5
          have HR443_3 := Aside0.mk hi443_3
          have HC443_3 := Aside0.mk hl443_3
          clear hi443_3 hl443_3
          have HR443_5 := Aside0.mk hi443_5
          have HC443_5 := Aside0.mk hl443_5
          clear hi443_5 hl443_5
          replace p443 := eq_true p443
          replace q443 := eq_true q443
          go_wp2
          repeat (go_quiet (fail); try go_wp2)
          go_ret
          exact ⟨by first | rfl | (simp [errW_none, errW_some] <;> rfl) | (simp only [← hji19]; first | rfl | (simp [errW_none, errW_some] <;> rfl)) | (simp [*, errW_none, errW_some] <;> rfl), by repeat (first | (with_reducible first | exact HB.out | apply below_alloc | apply pw_below_drewN | apply below_drew1) | exact HB.out)⟩
         ·rw [if_neg c18] at H
          exact absurd H (by simp)
        ·rw [if_neg c17] at H
         exact absurd H (by simp)
       ·rw [if_neg c16] at H
        exact absurd H (by simp)
      ·replace c15 := Bool.eq_false_iff.mpr c15
       subst c15
       have H1 : (if t441 < (l0.length : Int) then (if 0 ≤ t441 then (some ((rd_T41 l0 t441).f0)) else (none)) else (if t441 < (l1.length : Int) then (if 0 ≤ t441 then (some ((rd_T41 l1 t441).f0)) else (none)) else (some (-1)))) = some r := by rw [if_neg (show ¬ (false = true) by decide)] at H; exact H
       clear H
       have H := H1
       clear H1
       by_cases c20 : t441 < (l0.length : Int)
       ·rw [if_pos c20] at H
        have c20b0 : decide (t441 < (l0.length : Int)) = true := decide_eq_true c20
        clear c20
        by_cases c21 : 0 ≤ t441
        ·rw [if_pos c21] at H
         have c21b0 : decide (0 ≤ t441) = true := decide_eq_true c21
         clear c21
         obtain rfl := Option.some.inj H
         have p444 : 0 ≤ (t441 : Int) := of_decide_eq_true (by first | (with_reducible assumption) | assumption)
         have q444 : t441 < (l0.length : Int) := of_decide_eq_true (by first | (with_reducible assumption) | assumption)
         obtain ⟨ad444, A444_3, c444_3, A444_5, c444_5, e444, hx444_0, hx444_1, hx444_2, hx444_3, hx444_4, hx444_5, hl444_3, hi444_3, hl444_5, hi444_5⟩ := at_T41 HR0.out t441 p444 q444
         cases e444
         replace hx444_0 := (HB.out.cell (World.block_lt_of_cell? w _ hx444_0)).trans hx444_0
         replace hx444_1 := (HB.out.cell (World.block_lt_of_cell? w _ hx444_1)).trans hx444_1
         replace hx444_2 := (HB.out.cell (World.block_lt_of_cell? w _ hx444_2)).trans hx444_2
         replace hx444_3 := (HB.out.cell (World.block_lt_of_cell? w _ hx444_3)).trans hx444_3
         replace hx444_4 := (HB.out.cell (World.block_lt_of_cell? w _ hx444_4)).trans hx444_4
         replace hx444_5 := (HB.out.cell (World.block_lt_of_cell? w _ hx444_5)).trans hx444_5
         have HR444_3 := Aside0.mk hi444_3
         have HC444_3 := Aside0.mk hl444_3
         clear hi444_3 hl444_3
         have HR444_5 := Aside0.mk hi444_5
         have HC444_5 := Aside0.mk hl444_5
         clear hi444_5 hl444_5
         replace p444 := eq_true p444
         replace q444 := eq_true q444
         go_wp2
         repeat (go_quiet (fail); try go_wp2)
         go_ret
         exact ⟨by first | rfl | (simp [errW_none, errW_some] <;> rfl) | (simp [*, errW_none, errW_some] <;> rfl), by repeat (first | (with_reducible first | exact HB.out | apply below_alloc | apply pw_below_drewN | apply below_drew1) | exact HB.out)⟩
        ·rw [if_neg c21] at H
         exact absurd H (by simp)
       ·rw [if_neg c20] at H
        have c20b0 : decide (t441 < (l0.length : Int)) = false := decide_eq_false c20
        clear c20
        by_cases c22 : t441 < (l1.length : Int)
        ·rw [if_pos c22] at H
         have c22b0 : decide (t441 < (l1.length : Int)) = true := decide_eq_true c22
         clear c22
         by_cases c23 : 0 ≤ t441
         ·rw [if_pos c23] at H
          have c23b0 : decide (0 ≤ t441) = true := decide_eq_true c23
          clear c23
          obtain rfl := Option.some.inj H
          have p445 : 0 ≤ (t441 : Int) := of_decide_eq_true (by first | (with_reducible assumption) | assumption)
          have q445 : t441 < (l1.length : Int) := of_decide_eq_true (by first | (with_reducible assumption) | assumption)
          obtain ⟨ad445, A445_3, c445_3, A445_5, c445_5, e445, hx445_0, hx445_1, hx445_2, hx445_3, hx445_4, hx445_5, hl445_3, hi445_3, hl445_5, hi445_5⟩ := at_T41 HR1.out t441 p445 q445
          cases e445
          replace hx445_0 := (HB.out.cell (World.block_lt_of_cell? w _ hx445_0)).trans hx445_0
          replace hx445_1 := (HB.out.cell (World.block_lt_of_cell? w _ hx445_1)).trans hx445_1
          replace hx445_2 := (HB.out.cell (World.block_lt_of_cell? w _ hx445_2)).trans hx445_2
          replace hx445_3 := (HB.out.cell (World.block_lt_of_cell? w _ hx445_3)).trans hx445_3
          replace hx445_4 := (HB.out.cell (World.block_lt_of_cell? w _ hx445_4)).trans hx445_4
          replace hx445_5 := (HB.out.cell (World.block_lt_of_cell? w _ hx445_5)).trans hx445_5
          have HR445_3 := Aside0.mk hi445_3
          have HC445_3 := Aside0.mk hl445_3
          clear hi445_3 hl445_3
          have HR445_5 := Aside0.mk hi445_5
          have HC445_5 := Aside0.mk hl445_5
          clear hi445_5 hl445_5
          replace p445 := eq_true p445
          replace q445 := eq_true q445
          go_wp2
          repeat (go_quiet (fail); try go_wp2)
          go_ret
          exact ⟨by first | rfl | (simp [errW_none, errW_some] <;> rfl) | (simp [*, errW_none, errW_some] <;> rfl), by repeat (first | (with_reducible first | exact HB.out | apply below_alloc | apply pw_below_drewN | apply below_drew1) | exact HB.out)⟩
         ·rw [if_neg c23] at H
          exact absurd H (by simp)
        ·rw [if_neg c22] at H
         have c22b0 : decide (t441 < (l1.length : Int)) = false := decide_eq_false c22
         clear c22
         obtain rfl := Option.some.inj H
         go_wp2
         repeat (go_quiet (fail); try go_wp2)
         go_ret
         exact ⟨by first | rfl | (simp [errW_none, errW_some] <;> rfl) | (simp [*, errW_none, errW_some] <;> rfl), by repeat (first | (with_reducible first | exact HB.out | apply below_alloc | apply pw_below_drewN | apply below_drew1) | exact HB.out)⟩

def spec_RecordsApart.j0 : Nat → List (S41) → List (S41) → Int → Bool → Option (Int)
 | 0, _, _, _, _ => none
 | k + 1, x0, x1, x5, x9 => if x9 = true then (some (-1)) else (if x5 = (x0.length : Int) then (if 0 ≤ x5 then (if x5 < (x1.length : Int) then (some ((rd_T41 x1 x5).f0)) else (none)) else (none)) else (if x5 = (x1.length : Int) then (if 0 ≤ x5 then (if x5 < (x0.length : Int) then (some ((rd_T41 x0 x5).f0)) else (none)) else (none)) else (if 0 ≤ x5 then (if x5 < (x0.length : Int) then (if x5 < (x1.length : Int) then (some (mn ((rd_T41 x0 x5).f0) ((rd_T41 x1 x5).f0))) else (none)) else (none)) else (none))))
def spec_RecordsApart.f (k : Nat) (l0 : List (S41)) (l1 : List (S41)) : Option (Int) := (spec_RecordsCommon.f k l0 l1).bind fun t446 => (if t446 < 0 then (spec_RecordsApart.j0 k l0 l1 t446 true) else (if t446 = (l0.length : Int) then (spec_RecordsApart.j0 k l0 l1 t446 (t446 == (l1.length : Int))) else (spec_RecordsApart.j0 k l0 l1 t446 false)))
set_option maxHeartbeats 8000000 in
set_option maxRecDepth 100000 in
theorem spec_RecordsApart.calls (k : Nat) (A0 : Option Addr) (c0 : Nat) (l0 : List (S41)) (A1 : Option Addr) (c1 : Nat) (l1 : List (S41)) (r : Int) (w : World) (hr0 : Kd.C k41 w A0 l0.length l0) (hc0 : l0.length ≤ c0) (hr1 : Kd.C k41 w A1 l1.length l1) (hc1 : l1.length ≤ c1) (h : spec_RecordsApart.f k l0 l1 = some r) :
  Calls Try.prog 28 #[.slice A0 l0.length c0, .slice A1 l1.length c1] w fun e w' => e = .returned (.int .i64 r) ∧ Below w.heap.size w w' := by
 have HR0 := Aside0.mk hr0
 have HC0 := Aside0.mk hc0
 clear hr0 hc0
 have HR1 := Aside0.mk hr1
 have HC1 := Aside0.mk hc1
 clear hr1 hc1
 have HB := Aside0.mk (Below.refl w.heap.size w)
 have H : ((spec_RecordsCommon.f k l0 l1).bind fun t446 => (if t446 < 0 then (spec_RecordsApart.j0 k l0 l1 t446 true) else (if t446 = (l0.length : Int) then (spec_RecordsApart.j0 k l0 l1 t446 (t446 == (l1.length : Int))) else (spec_RecordsApart.j0 k l0 l1 t446 false)))) = some r := h
 clear h
 replace H := Option.bind_eq_some_iff.mp H
 obtain ⟨t446, A30, H⟩ := H
 replace H : (if t446 < 0 then (spec_RecordsApart.j0 k l0 l1 t446 true) else (if t446 = (l0.length : Int) then (spec_RecordsApart.j0 k l0 l1 t446 (t446 == (l1.length : Int))) else (spec_RecordsApart.j0 k l0 l1 t446 false))) = some r := H
 have A3 := Aside0.mk A30
 clear A30
 have HC4 := Aside0.mk H
 clear H
 go_enter Try.func28, Try.ntmps28
 go_upto_region 2 with (first | (go_at_call 23; (with_reducible refine (spec_RecordsCommon.calls k _ _ l0 _ _ l1 t446 _ ?side1 ?side2 ?side3 ?side4 A3.out).mono ?_); (case side1 => repeat (first | exact HR0.out | (with_reducible refine Kd.C_alloc ?_ _) | (with_reducible refine Kd.C_drewN ?_ _) | (with_reducible refine Kd.C_drew ?_))); (case side2 => exact HC0.out); (case side3 => repeat (first | exact HR1.out | (with_reducible refine Kd.C_alloc ?_ _) | (with_reducible refine Kd.C_drewN ?_ _) | (with_reducible refine Kd.C_drew ?_))); (case side4 => exact HC1.out); rintro e w5 ⟨rfl, hb⟩; have n0_ := Aside0.mk (below_step (by repeat (first | (with_reducible first | exact HB.out | apply below_alloc | apply pw_below_drewN | apply below_drew1) | exact HB.out)) hb); clear HB; have HB := n0_; clear n0_; (try clear hb); (try clear hb2); (try clear hk); (try clear hi)))
 repeat (go_quiet (first | (go_at_call 23; (with_reducible refine (spec_RecordsCommon.calls k _ _ l0 _ _ l1 t446 _ ?side1 ?side2 ?side3 ?side4 A3.out).mono ?_); (case side1 => repeat (first | exact HR0.out | (with_reducible refine Kd.C_alloc ?_ _) | (with_reducible refine Kd.C_drewN ?_ _) | (with_reducible refine Kd.C_drew ?_))); (case side2 => exact HC0.out); (case side3 => repeat (first | exact HR1.out | (with_reducible refine Kd.C_alloc ?_ _) | (with_reducible refine Kd.C_drewN ?_ _) | (with_reducible refine Kd.C_drew ?_))); (case side4 => exact HC1.out); rintro e w5 ⟨rfl, hb⟩; have n0_ := Aside0.mk (below_step (by repeat (first | (with_reducible first | exact HB.out | apply below_alloc | apply pw_below_drewN | apply below_drew1) | exact HB.out)) hb); clear HB; have HB := n0_; clear n0_; (try clear hb); (try clear hb2); (try clear hk); (try clear hi))); go_upto_region 2 with (first | (go_at_call 23; (with_reducible refine (spec_RecordsCommon.calls k _ _ l0 _ _ l1 t446 _ ?side1 ?side2 ?side3 ?side4 A3.out).mono ?_); (case side1 => repeat (first | exact HR0.out | (with_reducible refine Kd.C_alloc ?_ _) | (with_reducible refine Kd.C_drewN ?_ _) | (with_reducible refine Kd.C_drew ?_))); (case side2 => exact HC0.out); (case side3 => repeat (first | exact HR1.out | (with_reducible refine Kd.C_alloc ?_ _) | (with_reducible refine Kd.C_drewN ?_ _) | (with_reducible refine Kd.C_drew ?_))); (case side4 => exact HC1.out); rintro e w5 ⟨rfl, hb⟩; have n0_ := Aside0.mk (below_step (by repeat (first | (with_reducible first | exact HB.out | apply below_alloc | apply pw_below_drewN | apply below_drew1) | exact HB.out)) hb); clear HB; have HB := n0_; clear n0_; (try clear hb); (try clear hb2); (try clear hk); (try clear hi))))
 (try simp only [Act.put, List.setIfInBounds_toArray, List.set_cons_zero, List.set_cons_succ])
 go_cut [9] (fun v9 wc => ∃ (kq : Nat) (x9_3 : Bool), v9 = .bool x9_3 ∧ Aside0 (spec_RecordsApart.j0 kq l0 l1 t446 x9_3 = some r) ∧ Aside0 (kq ≤ k) ∧ Aside0 (Below w.heap.size w wc))
 case first =>
  have H := HC4.out
  clear HC4
  by_cases c6 : t446 < 0
  ·rw [if_pos c6] at H
   have c6b0 : decide (t446 < 0) = true := decide_eq_true c6
   clear c6
   (first | rw [c6b0] | (simp only [i64_w, i32_w]; rw [c6b0]) | skip)
   have H' := Aside0.mk H
   clear H
   go_wp2
   repeat (go_quiet (fail); try go_wp2)
   go_meet
   case rel => exact ⟨_, (true), (by first | rfl | (simp; done) | (simp [*]; done)), H', ⟨by first | omega | exact Nat.le_refl _⟩, ⟨by repeat (first | (with_reducible first | exact HB.out | apply below_alloc | apply pw_below_drewN | apply below_drew1) | exact HB.out)⟩⟩
  ·rw [if_neg c6] at H
   have c6b0 : decide (t446 < 0) = false := decide_eq_false c6
   clear c6
   (first | rw [c6b0] | (simp only [i64_w, i32_w]; rw [c6b0]) | skip)
   by_cases c7 : t446 = (l0.length : Int)
   ·rw [if_pos c7] at H
    have c7b0 : (t446 == (l0.length : Int)) = true := beq_iff_eq.mpr c7
    have c7b1 : (t446 != (l0.length : Int)) = false := bne_eq_false_iff_eq.mpr c7
    clear c7
    have H' := Aside0.mk H
    clear H
    go_wp2
    repeat (go_quiet (fail); try go_wp2)
    go_meet
    case rel => exact ⟨_, ((t446 == (l1.length : Int))), (by first | rfl | (simp; done) | (simp [*]; done)), H', ⟨by first | omega | exact Nat.le_refl _⟩, ⟨by repeat (first | (with_reducible first | exact HB.out | apply below_alloc | apply pw_below_drewN | apply below_drew1) | exact HB.out)⟩⟩
   ·rw [if_neg c7] at H
    have c7b0 : (t446 == (l0.length : Int)) = false := beq_eq_false_iff_ne.mpr c7
    have c7b1 : (t446 != (l0.length : Int)) = true := bne_iff_ne.mpr c7
    have H' := Aside0.mk H
    clear H
    go_wp2
    repeat (go_quiet (fail); try go_wp2)
    go_meet
    case rel => exact ⟨_, (false), (by first | rfl | (simp; done) | (simp [*]; done)), H', ⟨by first | omega | exact Nat.le_refl _⟩, ⟨by repeat (first | (with_reducible first | exact HB.out | apply below_alloc | apply pw_below_drewN | apply below_drew1) | exact HB.out)⟩⟩
 case rest =>
  clear HC4
  try clear c1
  try clear c2
  try clear p2
  try clear c6
  try clear c6b0
  try clear c7
  try clear c7b0
  try clear c7b1
  obtain ⟨kq, x9_3, rfl, HA, HJ3, HB⟩ := hcut
  cases kq with
  | zero => exact absurd HA.out (by simp [spec_RecordsApart.j0])
  | succ kj3 =>
   have H := HA.out
   clear HA
   simp only [spec_RecordsApart.j0] at H
   by_cases c8 : x9_3 = true
   ·subst c8
    have H1 : (some (-1)) = some r := by rw [if_pos rfl] at H; exact H
    clear H
    have H := H1
    clear H1
    obtain rfl := Option.some.inj H
    go_wp2
    repeat (go_quiet (fail); try go_wp2)
    go_ret
    exact ⟨by first | rfl | (simp [errW_none, errW_some] <;> rfl) | (simp [*, errW_none, errW_some] <;> rfl), by repeat (first | (with_reducible first | exact HB.out | apply below_alloc | apply pw_below_drewN | apply below_drew1) | exact HB.out)⟩
   ·replace c8 := Bool.eq_false_iff.mpr c8
    subst c8
    have H1 : (if t446 = (l0.length : Int) then (if 0 ≤ t446 then (if t446 < (l1.length : Int) then (some ((rd_T41 l1 t446).f0)) else (none)) else (none)) else (if t446 = (l1.length : Int) then (if 0 ≤ t446 then (if t446 < (l0.length : Int) then (some ((rd_T41 l0 t446).f0)) else (none)) else (none)) else (if 0 ≤ t446 then (if t446 < (l0.length : Int) then (if t446 < (l1.length : Int) then (some (mn ((rd_T41 l0 t446).f0) ((rd_T41 l1 t446).f0))) else (none)) else (none)) else (none)))) = some r := by rw [if_neg (show ¬ (false = true) by decide)] at H; exact H
    clear H
    have H := H1
    clear H1
    by_cases c9 : t446 = (l0.length : Int)
    ·rw [if_pos c9] at H
     have c9b0 : (t446 == (l0.length : Int)) = true := beq_iff_eq.mpr c9
     have c9b1 : (t446 != (l0.length : Int)) = false := bne_eq_false_iff_eq.mpr c9
     clear c9
     by_cases c10 : 0 ≤ t446
     ·rw [if_pos c10] at H
      have c10b0 : decide (0 ≤ t446) = true := decide_eq_true c10
      clear c10
      by_cases c11 : t446 < (l1.length : Int)
      ·rw [if_pos c11] at H
       have c11b0 : decide (t446 < (l1.length : Int)) = true := decide_eq_true c11
       clear c11
       obtain rfl := Option.some.inj H
       have p447 : 0 ≤ (t446 : Int) := of_decide_eq_true (by first | (with_reducible assumption) | assumption)
       have q447 : t446 < (l1.length : Int) := of_decide_eq_true (by first | (with_reducible assumption) | assumption)
       obtain ⟨ad447, A447_3, c447_3, A447_5, c447_5, e447, hx447_0, hx447_1, hx447_2, hx447_3, hx447_4, hx447_5, hl447_3, hi447_3, hl447_5, hi447_5⟩ := at_T41 HR1.out t446 p447 q447
       cases e447
       replace hx447_0 := (HB.out.cell (World.block_lt_of_cell? w _ hx447_0)).trans hx447_0
       replace hx447_1 := (HB.out.cell (World.block_lt_of_cell? w _ hx447_1)).trans hx447_1
       replace hx447_2 := (HB.out.cell (World.block_lt_of_cell? w _ hx447_2)).trans hx447_2
       replace hx447_3 := (HB.out.cell (World.block_lt_of_cell? w _ hx447_3)).trans hx447_3
       replace hx447_4 := (HB.out.cell (World.block_lt_of_cell? w _ hx447_4)).trans hx447_4
       replace hx447_5 := (HB.out.cell (World.block_lt_of_cell? w _ hx447_5)).trans hx447_5
       have HR447_3 := Aside0.mk hi447_3
       have HC447_3 := Aside0.mk hl447_3
       clear hi447_3 hl447_3
       have HR447_5 := Aside0.mk hi447_5
       have HC447_5 := Aside0.mk hl447_5
       clear hi447_5 hl447_5
       replace p447 := eq_true p447
       replace q447 := eq_true q447
       go_wp2
       repeat (go_quiet (fail); try go_wp2)
       go_ret
       exact ⟨by first | rfl | (simp [errW_none, errW_some] <;> rfl) | (simp [*, errW_none, errW_some] <;> rfl), by repeat (first | (with_reducible first | exact HB.out | apply below_alloc | apply pw_below_drewN | apply below_drew1) | exact HB.out)⟩
      ·rw [if_neg c11] at H
       exact absurd H (by simp)
     ·rw [if_neg c10] at H
      exact absurd H (by simp)
    ·rw [if_neg c9] at H
     have c9b0 : (t446 == (l0.length : Int)) = false := beq_eq_false_iff_ne.mpr c9
     have c9b1 : (t446 != (l0.length : Int)) = true := bne_iff_ne.mpr c9
     by_cases c12 : t446 = (l1.length : Int)
     ·rw [if_pos c12] at H
      have c12b0 : (t446 == (l1.length : Int)) = true := beq_iff_eq.mpr c12
      have c12b1 : (t446 != (l1.length : Int)) = false := bne_eq_false_iff_eq.mpr c12
      clear c12
      by_cases c13 : 0 ≤ t446
      ·rw [if_pos c13] at H
       have c13b0 : decide (0 ≤ t446) = true := decide_eq_true c13
       clear c13
       by_cases c14 : t446 < (l0.length : Int)
       ·rw [if_pos c14] at H
        have c14b0 : decide (t446 < (l0.length : Int)) = true := decide_eq_true c14
        clear c14
        obtain rfl := Option.some.inj H
        have p448 : 0 ≤ (t446 : Int) := of_decide_eq_true (by first | (with_reducible assumption) | assumption)
        have q448 : t446 < (l0.length : Int) := of_decide_eq_true (by first | (with_reducible assumption) | assumption)
        obtain ⟨ad448, A448_3, c448_3, A448_5, c448_5, e448, hx448_0, hx448_1, hx448_2, hx448_3, hx448_4, hx448_5, hl448_3, hi448_3, hl448_5, hi448_5⟩ := at_T41 HR0.out t446 p448 q448
        cases e448
        replace hx448_0 := (HB.out.cell (World.block_lt_of_cell? w _ hx448_0)).trans hx448_0
        replace hx448_1 := (HB.out.cell (World.block_lt_of_cell? w _ hx448_1)).trans hx448_1
        replace hx448_2 := (HB.out.cell (World.block_lt_of_cell? w _ hx448_2)).trans hx448_2
        replace hx448_3 := (HB.out.cell (World.block_lt_of_cell? w _ hx448_3)).trans hx448_3
        replace hx448_4 := (HB.out.cell (World.block_lt_of_cell? w _ hx448_4)).trans hx448_4
        replace hx448_5 := (HB.out.cell (World.block_lt_of_cell? w _ hx448_5)).trans hx448_5
        have HR448_3 := Aside0.mk hi448_3
        have HC448_3 := Aside0.mk hl448_3
        clear hi448_3 hl448_3
        have HR448_5 := Aside0.mk hi448_5
        have HC448_5 := Aside0.mk hl448_5
        clear hi448_5 hl448_5
        replace p448 := eq_true p448
        replace q448 := eq_true q448
        go_wp2
        repeat (go_quiet (fail); try go_wp2)
        go_ret
        exact ⟨by first | rfl | (simp [errW_none, errW_some] <;> rfl) | (simp [*, errW_none, errW_some] <;> rfl), by repeat (first | (with_reducible first | exact HB.out | apply below_alloc | apply pw_below_drewN | apply below_drew1) | exact HB.out)⟩
       ·rw [if_neg c14] at H
        exact absurd H (by simp)
      ·rw [if_neg c13] at H
       exact absurd H (by simp)
     ·rw [if_neg c12] at H
      have c12b0 : (t446 == (l1.length : Int)) = false := beq_eq_false_iff_ne.mpr c12
      have c12b1 : (t446 != (l1.length : Int)) = true := bne_iff_ne.mpr c12
      by_cases c15 : 0 ≤ t446
      ·rw [if_pos c15] at H
       have c15b0 : decide (0 ≤ t446) = true := decide_eq_true c15
       clear c15
       by_cases c16 : t446 < (l0.length : Int)
       ·rw [if_pos c16] at H
        have c16b0 : decide (t446 < (l0.length : Int)) = true := decide_eq_true c16
        clear c16
        by_cases c17 : t446 < (l1.length : Int)
        ·rw [if_pos c17] at H
         have c17b0 : decide (t446 < (l1.length : Int)) = true := decide_eq_true c17
         clear c17
         obtain ⟨ji18, hji18⟩ : ∃ j_ : Int, (mn ((rd_T41 l0 t446).f0) ((rd_T41 l1 t446).f0)) = j_ := ⟨_, rfl⟩
         replace H : (some ji18) = some r := by first | (rw [hji18] at H; exact H) | (simp only [hji18] at H ⊢; exact H)
         have hji18_ : (if ((rd_T41 l1 t446).f0) < ((rd_T41 l0 t446).f0) then ((rd_T41 l1 t446).f0) else ((rd_T41 l0 t446).f0)) = ji18 := hji18
         obtain rfl := Option.some.inj H
         have p449 : 0 ≤ (t446 : Int) := of_decide_eq_true (by first | (with_reducible assumption) | assumption)
         have q449 : t446 < (l0.length : Int) := of_decide_eq_true (by first | (with_reducible assumption) | assumption)
         obtain ⟨ad449, A449_3, c449_3, A449_5, c449_5, e449, hx449_0, hx449_1, hx449_2, hx449_3, hx449_4, hx449_5, hl449_3, hi449_3, hl449_5, hi449_5⟩ := at_T41 HR0.out t446 p449 q449
         cases e449
         replace hx449_0 := (HB.out.cell (World.block_lt_of_cell? w _ hx449_0)).trans hx449_0
         replace hx449_1 := (HB.out.cell (World.block_lt_of_cell? w _ hx449_1)).trans hx449_1
         replace hx449_2 := (HB.out.cell (World.block_lt_of_cell? w _ hx449_2)).trans hx449_2
         replace hx449_3 := (HB.out.cell (World.block_lt_of_cell? w _ hx449_3)).trans hx449_3
         replace hx449_4 := (HB.out.cell (World.block_lt_of_cell? w _ hx449_4)).trans hx449_4
         replace hx449_5 := (HB.out.cell (World.block_lt_of_cell? w _ hx449_5)).trans hx449_5
         have HR449_3 := Aside0.mk hi449_3
         have HC449_3 := Aside0.mk hl449_3
         clear hi449_3 hl449_3
         have HR449_5 := Aside0.mk hi449_5
         have HC449_5 := Aside0.mk hl449_5
         clear hi449_5 hl449_5
         replace p449 := eq_true p449
         replace q449 := eq_true q449
         have p450 : 0 ≤ (t446 : Int) := of_decide_eq_true (by first | (with_reducible assumption) | assumption)
         have q450 : t446 < (l1.length : Int) := of_decide_eq_true (by first | (with_reducible assumption) | assumption)
         obtain ⟨ad450, A450_3, c450_3, A450_5, c450_5, e450, hx450_0, hx450_1, hx450_2, hx450_3, hx450_4, hx450_5, hl450_3, hi450_3, hl450_5, hi450_5⟩ := at_T41 HR1.out t446 p450 q450
         cases e450
         replace hx450_0 := (HB.out.cell (World.block_lt_of_cell? w _ hx450_0)).trans hx450_0
         replace hx450_1 := (HB.out.cell (World.block_lt_of_cell? w _ hx450_1)).trans hx450_1
         replace hx450_2 := (HB.out.cell (World.block_lt_of_cell? w _ hx450_2)).trans hx450_2
         replace hx450_3 := (HB.out.cell (World.block_lt_of_cell? w _ hx450_3)).trans hx450_3
         replace hx450_4 := (HB.out.cell (World.block_lt_of_cell? w _ hx450_4)).trans hx450_4
         replace hx450_5 := (HB.out.cell (World.block_lt_of_cell? w _ hx450_5)).trans hx450_5
         have HR450_3 := Aside0.mk hi450_3
         have HC450_3 := Aside0.mk hl450_3
         clear hi450_3 hl450_3
         have HR450_5 := Aside0.mk hi450_5
         have HC450_5 := Aside0.mk hl450_5
         clear hi450_5 hl450_5
         replace p450 := eq_true p450
         replace q450 := eq_true q450
         go_wp2
         repeat (go_quiet (fail); try go_wp2)
         go_ret
         exact ⟨by first | rfl | (simp [errW_none, errW_some] <;> rfl) | (simp only [← hji18]; first | rfl | (simp [errW_none, errW_some] <;> rfl)) | (simp [*, errW_none, errW_some] <;> rfl), by repeat (first | (with_reducible first | exact HB.out | apply below_alloc | apply pw_below_drewN | apply below_drew1) | exact HB.out)⟩
        ·rw [if_neg c17] at H
         exact absurd H (by simp)
       ·rw [if_neg c16] at H
        exact absurd H (by simp)
      ·rw [if_neg c15] at H
       exact absurd H (by simp)

end Go.Proofs.Ythlnbbehcpdnfaa.G

namespace Go.Proofs.Ythlnbbehcpdnfaa.G
open Go.RowKit Go.Proofs.YthlnbbehcpdnfaaW.PrintWords Go.Proofs.YthlnbbehcpdnfaaW.PrintLast Go.Proofs.YthlnbbehcpdnfaaW.PrintMore
attribute [local go_sem] max2_int min2_int max_two min_two max_three min_three max_four min_four   -- for this text's walks alone
set_option linter.unusedVariables false
set_option linter.unusedSimpArgs false

def laws_FnApartNone.f (k : Nat) (l0 : List Int) : Option (Bool) := if (l0.length : Int) > 1048576 then (some true) else ((spec_DrawRecordsApart.f k l0).bind fun bt542 => ((impl_RecordsApart.f k bt542.1 bt542.2).bind fun t548 => ((spec_RecordsApart.f k bt542.1 bt542.2).bind fun t549 => (if t548 = t549 then ((spec_RecordsCommon.f k bt542.1 bt542.2).bind fun t550 => (if t550 < 0 then (some (t548 == t549)) else ((laws_sameRecords.f k bt542.1 bt542.2).bind fun t551 => (some ((t548 == (-1)) == t551))))) else (some (t548 == t549))))))
set_option maxHeartbeats 8000000 in
set_option maxRecDepth 100000 in
theorem laws_FnApartNone.calls (k : Nat) (A0 : Option Addr) (c0 : Nat) (l0 : List Int) (r : Bool) (w : World) (hr0 : Kd.C (Kd.int .u8) w A0 l0.length l0) (hc0 : l0.length ≤ c0) (h : laws_FnApartNone.f k l0 = some r) :
  Calls Try.prog 9 #[.slice A0 l0.length c0] w fun e w' => e = .returned (.bool r) ∧ Below w.heap.size w w' := by
 have HR0 := Aside0.mk hr0
 have HC0 := Aside0.mk hc0
 clear hr0 hc0
 have HB := Aside0.mk (Below.refl w.heap.size w)
 have H : (if (l0.length : Int) > 1048576 then (some true) else ((spec_DrawRecordsApart.f k l0).bind fun bt542 => ((impl_RecordsApart.f k bt542.1 bt542.2).bind fun t548 => ((spec_RecordsApart.f k bt542.1 bt542.2).bind fun t549 => (if t548 = t549 then ((spec_RecordsCommon.f k bt542.1 bt542.2).bind fun t550 => (if t550 < 0 then (some (t548 == t549)) else ((laws_sameRecords.f k bt542.1 bt542.2).bind fun t551 => (some ((t548 == (-1)) == t551))))) else (some (t548 == t549))))))) = some r := h
 clear h
 by_cases c2 : (l0.length : Int) > 1048576
 ·rw [if_pos c2] at H
  have c2b0 : decide (1048576 < (l0.length : Int)) = true := decide_eq_true c2
  have c2b1 : decide (1048576 < l0.length) = true := decide_eq_true (by omega)
  clear c2
  obtain rfl := Option.some.inj H
  go_enter Try.func9, Try.ntmps9
  go_wp2
  all_goals go_ret
  all_goals exact ⟨by first | rfl | (simp [errW_none, errW_some] <;> rfl) | (simp [*, errW_none, errW_some] <;> rfl), by repeat (first | (with_reducible first | exact HB.out | apply below_alloc | apply pw_below_drewN | apply below_drew1) | exact HB.out)⟩
 ·rw [if_neg c2] at H
  have c2b0 : decide (1048576 < (l0.length : Int)) = false := decide_eq_false c2
  have c2b1 : decide (1048576 < l0.length) = false := decide_eq_false (by omega)
  clear c2
  replace H := Option.bind_eq_some_iff.mp H
  obtain ⟨⟨t542, t545⟩, A30, H⟩ := H
  replace H : ((impl_RecordsApart.f k t542 t545).bind fun t548 => ((spec_RecordsApart.f k t542 t545).bind fun t549 => (if t548 = t549 then ((spec_RecordsCommon.f k t542 t545).bind fun t550 => (if t550 < 0 then (some (t548 == t549)) else ((laws_sameRecords.f k t542 t545).bind fun t551 => (some ((t548 == (-1)) == t551))))) else (some (t548 == t549))))) = some r := H
  have A3 := Aside0.mk A30
  clear A30
  replace H := Option.bind_eq_some_iff.mp H
  obtain ⟨t548, A40, H⟩ := H
  replace H : ((spec_RecordsApart.f k t542 t545).bind fun t549 => (if t548 = t549 then ((spec_RecordsCommon.f k t542 t545).bind fun t550 => (if t550 < 0 then (some (t548 == t549)) else ((laws_sameRecords.f k t542 t545).bind fun t551 => (some ((t548 == (-1)) == t551))))) else (some (t548 == t549)))) = some r := H
  have A4 := Aside0.mk A40
  clear A40
  replace H := Option.bind_eq_some_iff.mp H
  obtain ⟨t549, A50, H⟩ := H
  replace H : (if t548 = t549 then ((spec_RecordsCommon.f k t542 t545).bind fun t550 => (if t550 < 0 then (some (t548 == t549)) else ((laws_sameRecords.f k t542 t545).bind fun t551 => (some ((t548 == (-1)) == t551))))) else (some (t548 == t549))) = some r := H
  have A5 := Aside0.mk A50
  clear A50
  by_cases c6 : t548 = t549
  ·rw [if_pos c6] at H
   have c6b0 : (t548 == t549) = true := beq_iff_eq.mpr c6
   have c6b1 : (t548 != t549) = false := bne_eq_false_iff_eq.mpr c6
   clear c6
   replace H := Option.bind_eq_some_iff.mp H
   obtain ⟨t550, A70, H⟩ := H
   replace H : (if t550 < 0 then (some (t548 == t549)) else ((laws_sameRecords.f k t542 t545).bind fun t551 => (some ((t548 == (-1)) == t551)))) = some r := H
   have A7 := Aside0.mk A70
   clear A70
   by_cases c8 : t550 < 0
   ·rw [if_pos c8] at H
    have c8b0 : decide (t550 < 0) = true := decide_eq_true c8
    clear c8
    obtain rfl := Option.some.inj H
    go_enter Try.func9, Try.ntmps9
    go_wp2_with (first | ((with_reducible refine gate_callee (f := 26) rfl ?_); refine goesL_ (some 12) rfl rfl Try.func26 (by kernel_rfl) rfl #[.slice A0 l0.length c0] rfl (by (try simp only [List.map_toArray, List.map_cons, List.map_nil]); first | done | rfl | (simp only [List.length_drop, List.length_take]; rfl)) ?_; (with_reducible refine (spec_DrawRecordsApart.calls k _ _ l0 t542 t545 _ ?side1 ?side2 A3.out).mono ?_); (case side1 => repeat (first | exact HR0.out | (with_reducible refine Kd.C_alloc ?_ _) | (with_reducible refine Kd.C_drewN ?_ _) | (with_reducible refine Kd.C_drew ?_))); (case side2 => exact HC0.out); rintro e w9 ⟨v543, v546, rfl, ho0, ho1, hb⟩; have u_v543 : ∀ (a_ : Addr) (m_ : Mode) (W_ : World), (store a_ v543 m_).run Try.prog W_ = stored Try.prog W_ a_ v543 m_ := fun a_ m_ W_ => run_store _ W_ a_ _ m_ (by first | (obtain ⟨_, _, e_⟩ := Kd.R_slice ho0; rw [e_]; rfl) | (obtain ⟨_, _, e_⟩ := Kd.S_slice ho0; rw [e_]; rfl) | (obtain ⟨_, _, e_, _⟩ := Kd.Q_slice ho0; rw [e_]; rfl) | (obtain ⟨_, _, e_⟩ := Kd.N_slice ho0; rw [e_]; rfl) | (obtain ⟨_, _, e_⟩ := Kd.V_slice ho0; rw [e_]; rfl)); have u_v546 : ∀ (a_ : Addr) (m_ : Mode) (W_ : World), (store a_ v546 m_).run Try.prog W_ = stored Try.prog W_ a_ v546 m_ := fun a_ m_ W_ => run_store _ W_ a_ _ m_ (by first | (obtain ⟨_, _, e_⟩ := Kd.R_slice ho1; rw [e_]; rfl) | (obtain ⟨_, _, e_⟩ := Kd.S_slice ho1; rw [e_]; rfl) | (obtain ⟨_, _, e_, _⟩ := Kd.Q_slice ho1; rw [e_]; rfl) | (obtain ⟨_, _, e_⟩ := Kd.N_slice ho1; rw [e_]; rfl) | (obtain ⟨_, _, e_⟩ := Kd.V_slice ho1; rw [e_]; rfl)); refine ⟨_, rfl, ?_⟩; have n0_ := Aside0.mk (Kd.V_lower (Kd.V_mono (ok' := fun k_ => True) ho0 (fun k_ hk_ => trivial)) (below_size (by repeat (first | (with_reducible first | exact HB.out | apply below_alloc | apply pw_below_drewN | apply below_drew1) | exact HB.out)))); have n1_ := Aside0.mk (Kd.V_lower (Kd.V_mono (ok' := fun k_ => True) ho1 (fun k_ hk_ => trivial)) (below_size (by repeat (first | (with_reducible first | exact HB.out | apply below_alloc | apply pw_below_drewN | apply below_drew1) | exact HB.out)))); have n2_ := Aside0.mk (below_step (by repeat (first | (with_reducible first | exact HB.out | apply below_alloc | apply pw_below_drewN | apply below_drew1) | exact HB.out)) hb); clear HB; have HO544 := n0_; have HO547 := n1_; have HB := n2_; clear n0_ n1_ n2_; (try clear hb); (try clear hb2); (try clear hk); (try clear hi); (try clear ho0); (try clear ho1); obtain ⟨Ao10, co10, eo10⟩ := Kd.V_slice HO544.out; subst eo10; obtain ⟨Ao11, co11, eo11⟩ := Kd.V_slice HO547.out; subst eo11) | ((with_reducible refine gate_callee (f := 27) rfl ?_); refine goesL_ (some 17) rfl rfl Try.func27 (by kernel_rfl) rfl #[.slice Ao10 t542.length co10, .slice Ao11 t545.length co11] rfl (by (try simp only [List.map_toArray, List.map_cons, List.map_nil]); first | done | rfl | (simp only [List.length_drop, List.length_take]; rfl)) ?_; (with_reducible refine (impl_RecordsApart.calls k _ _ t542 _ _ t545 t548 _ ?side1 ?side2 ?side3 ?side4 A4.out).mono ?_); (case side1 => repeat (first | exact (Kd.V_reads' HO544.out).2.2 | (with_reducible refine Kd.C_alloc ?_ _) | (with_reducible refine Kd.C_drewN ?_ _) | (with_reducible refine Kd.C_drew ?_))); (case side2 => exact (Kd.V_reads' HO544.out).2.1); (case side3 => repeat (first | exact (Kd.V_reads' HO547.out).2.2 | (with_reducible refine Kd.C_alloc ?_ _) | (with_reducible refine Kd.C_drewN ?_ _) | (with_reducible refine Kd.C_drew ?_))); (case side4 => exact (Kd.V_reads' HO547.out).2.1); rintro e w12 ⟨rfl, hb⟩; refine ⟨_, rfl, ?_⟩; have n0_ := Aside0.mk (Kd.V_below (by (with_reducible repeat (first | apply Kd.V_alloc | apply Kd.V_drewN | apply Kd.V_drew)); exact HO544.out) hb); have n1_ := Aside0.mk (Kd.V_below (by (with_reducible repeat (first | apply Kd.V_alloc | apply Kd.V_drewN | apply Kd.V_drew)); exact HO547.out) hb); have n2_ := Aside0.mk (below_step (by repeat (first | (with_reducible first | exact HB.out | apply below_alloc | apply pw_below_drewN | apply below_drew1) | exact HB.out)) hb); clear HO544; clear HO547; clear HB; have HO544 := n0_; have HO547 := n1_; have HB := n2_; clear n0_ n1_ n2_; (try clear hb); (try clear hb2); (try clear hk); (try clear hi)) | ((with_reducible refine gate_callee (f := 28) rfl ?_); refine goesL_ (some 20) rfl rfl Try.func28 (by kernel_rfl) rfl #[.slice Ao10 t542.length co10, .slice Ao11 t545.length co11] rfl (by (try simp only [List.map_toArray, List.map_cons, List.map_nil]); first | done | rfl | (simp only [List.length_drop, List.length_take]; rfl)) ?_; (with_reducible refine (spec_RecordsApart.calls k _ _ t542 _ _ t545 t549 _ ?side1 ?side2 ?side3 ?side4 A5.out).mono ?_); (case side1 => repeat (first | exact (Kd.V_reads' HO544.out).2.2 | (with_reducible refine Kd.C_alloc ?_ _) | (with_reducible refine Kd.C_drewN ?_ _) | (with_reducible refine Kd.C_drew ?_))); (case side2 => exact (Kd.V_reads' HO544.out).2.1); (case side3 => repeat (first | exact (Kd.V_reads' HO547.out).2.2 | (with_reducible refine Kd.C_alloc ?_ _) | (with_reducible refine Kd.C_drewN ?_ _) | (with_reducible refine Kd.C_drew ?_))); (case side4 => exact (Kd.V_reads' HO547.out).2.1); rintro e w13 ⟨rfl, hb⟩; refine ⟨_, rfl, ?_⟩; have n0_ := Aside0.mk (Kd.V_below (by (with_reducible repeat (first | apply Kd.V_alloc | apply Kd.V_drewN | apply Kd.V_drew)); exact HO544.out) hb); have n1_ := Aside0.mk (Kd.V_below (by (with_reducible repeat (first | apply Kd.V_alloc | apply Kd.V_drewN | apply Kd.V_drew)); exact HO547.out) hb); have n2_ := Aside0.mk (below_step (by repeat (first | (with_reducible first | exact HB.out | apply below_alloc | apply pw_below_drewN | apply below_drew1) | exact HB.out)) hb); clear HO544; clear HO547; clear HB; have HO544 := n0_; have HO547 := n1_; have HB := n2_; clear n0_ n1_ n2_; (try clear hb); (try clear hb2); (try clear hk); (try clear hi)) | (go_at_call 23; (with_reducible refine (spec_RecordsCommon.calls k _ _ t542 _ _ t545 t550 _ ?side1 ?side2 ?side3 ?side4 A7.out).mono ?_); (case side1 => repeat (first | exact (Kd.V_reads' HO544.out).2.2 | (with_reducible refine Kd.C_alloc ?_ _) | (with_reducible refine Kd.C_drewN ?_ _) | (with_reducible refine Kd.C_drew ?_))); (case side2 => exact (Kd.V_reads' HO544.out).2.1); (case side3 => repeat (first | exact (Kd.V_reads' HO547.out).2.2 | (with_reducible refine Kd.C_alloc ?_ _) | (with_reducible refine Kd.C_drewN ?_ _) | (with_reducible refine Kd.C_drew ?_))); (case side4 => exact (Kd.V_reads' HO547.out).2.1); rintro e w14 ⟨rfl, hb⟩; have n0_ := Aside0.mk (Kd.V_below (by (with_reducible repeat (first | apply Kd.V_alloc | apply Kd.V_drewN | apply Kd.V_drew)); exact HO544.out) hb); have n1_ := Aside0.mk (Kd.V_below (by (with_reducible repeat (first | apply Kd.V_alloc | apply Kd.V_drewN | apply Kd.V_drew)); exact HO547.out) hb); have n2_ := Aside0.mk (below_step (by repeat (first | (with_reducible first | exact HB.out | apply below_alloc | apply pw_below_drewN | apply below_drew1) | exact HB.out)) hb); clear HO544; clear HO547; clear HB; have HO544 := n0_; have HO547 := n1_; have HB := n2_; clear n0_ n1_ n2_; (try clear hb); (try clear hb2); (try clear hk); (try clear hi)))
    all_goals go_ret
    all_goals exact ⟨by first | rfl | (simp [errW_none, errW_some] <;> rfl) | (simp [*, errW_none, errW_some] <;> rfl), by repeat (first | (with_reducible first | exact HB.out | apply below_alloc | apply pw_below_drewN | apply below_drew1) | exact HB.out)⟩
   ·rw [if_neg c8] at H
    have c8b0 : decide (t550 < 0) = false := decide_eq_false c8
    clear c8
    replace H := Option.bind_eq_some_iff.mp H
    obtain ⟨t551, A150, H⟩ := H
    replace H : (some ((t548 == (-1)) == t551)) = some r := H
    have A15 := Aside0.mk A150
    clear A150
    obtain rfl := Option.some.inj H
    go_enter Try.func9, Try.ntmps9
    go_wp2_with (first | ((with_reducible refine gate_callee (f := 26) rfl ?_); refine goesL_ (some 12) rfl rfl Try.func26 (by kernel_rfl) rfl #[.slice A0 l0.length c0] rfl (by (try simp only [List.map_toArray, List.map_cons, List.map_nil]); first | done | rfl | (simp only [List.length_drop, List.length_take]; rfl)) ?_; (with_reducible refine (spec_DrawRecordsApart.calls k _ _ l0 t542 t545 _ ?side1 ?side2 A3.out).mono ?_); (case side1 => repeat (first | exact HR0.out | (with_reducible refine Kd.C_alloc ?_ _) | (with_reducible refine Kd.C_drewN ?_ _) | (with_reducible refine Kd.C_drew ?_))); (case side2 => exact HC0.out); rintro e w16 ⟨v543, v546, rfl, ho0, ho1, hb⟩; have u_v543 : ∀ (a_ : Addr) (m_ : Mode) (W_ : World), (store a_ v543 m_).run Try.prog W_ = stored Try.prog W_ a_ v543 m_ := fun a_ m_ W_ => run_store _ W_ a_ _ m_ (by first | (obtain ⟨_, _, e_⟩ := Kd.R_slice ho0; rw [e_]; rfl) | (obtain ⟨_, _, e_⟩ := Kd.S_slice ho0; rw [e_]; rfl) | (obtain ⟨_, _, e_, _⟩ := Kd.Q_slice ho0; rw [e_]; rfl) | (obtain ⟨_, _, e_⟩ := Kd.N_slice ho0; rw [e_]; rfl) | (obtain ⟨_, _, e_⟩ := Kd.V_slice ho0; rw [e_]; rfl)); have u_v546 : ∀ (a_ : Addr) (m_ : Mode) (W_ : World), (store a_ v546 m_).run Try.prog W_ = stored Try.prog W_ a_ v546 m_ := fun a_ m_ W_ => run_store _ W_ a_ _ m_ (by first | (obtain ⟨_, _, e_⟩ := Kd.R_slice ho1; rw [e_]; rfl) | (obtain ⟨_, _, e_⟩ := Kd.S_slice ho1; rw [e_]; rfl) | (obtain ⟨_, _, e_, _⟩ := Kd.Q_slice ho1; rw [e_]; rfl) | (obtain ⟨_, _, e_⟩ := Kd.N_slice ho1; rw [e_]; rfl) | (obtain ⟨_, _, e_⟩ := Kd.V_slice ho1; rw [e_]; rfl)); refine ⟨_, rfl, ?_⟩; have n0_ := Aside0.mk (Kd.V_lower (Kd.V_mono (ok' := fun k_ => True) ho0 (fun k_ hk_ => trivial)) (below_size (by repeat (first | (with_reducible first | exact HB.out | apply below_alloc | apply pw_below_drewN | apply below_drew1) | exact HB.out)))); have n1_ := Aside0.mk (Kd.V_lower (Kd.V_mono (ok' := fun k_ => True) ho1 (fun k_ hk_ => trivial)) (below_size (by repeat (first | (with_reducible first | exact HB.out | apply below_alloc | apply pw_below_drewN | apply below_drew1) | exact HB.out)))); have n2_ := Aside0.mk (below_step (by repeat (first | (with_reducible first | exact HB.out | apply below_alloc | apply pw_below_drewN | apply below_drew1) | exact HB.out)) hb); clear HB; have HO544 := n0_; have HO547 := n1_; have HB := n2_; clear n0_ n1_ n2_; (try clear hb); (try clear hb2); (try clear hk); (try clear hi); (try clear ho0); (try clear ho1); obtain ⟨Ao17, co17, eo17⟩ := Kd.V_slice HO544.out; subst eo17; obtain ⟨Ao18, co18, eo18⟩ := Kd.V_slice HO547.out; subst eo18) | ((with_reducible refine gate_callee (f := 27) rfl ?_); refine goesL_ (some 17) rfl rfl Try.func27 (by kernel_rfl) rfl #[.slice Ao17 t542.length co17, .slice Ao18 t545.length co18] rfl (by (try simp only [List.map_toArray, List.map_cons, List.map_nil]); first | done | rfl | (simp only [List.length_drop, List.length_take]; rfl)) ?_; (with_reducible refine (impl_RecordsApart.calls k _ _ t542 _ _ t545 t548 _ ?side1 ?side2 ?side3 ?side4 A4.out).mono ?_); (case side1 => repeat (first | exact (Kd.V_reads' HO544.out).2.2 | (with_reducible refine Kd.C_alloc ?_ _) | (with_reducible refine Kd.C_drewN ?_ _) | (with_reducible refine Kd.C_drew ?_))); (case side2 => exact (Kd.V_reads' HO544.out).2.1); (case side3 => repeat (first | exact (Kd.V_reads' HO547.out).2.2 | (with_reducible refine Kd.C_alloc ?_ _) | (with_reducible refine Kd.C_drewN ?_ _) | (with_reducible refine Kd.C_drew ?_))); (case side4 => exact (Kd.V_reads' HO547.out).2.1); rintro e w19 ⟨rfl, hb⟩; refine ⟨_, rfl, ?_⟩; have n0_ := Aside0.mk (Kd.V_below (by (with_reducible repeat (first | apply Kd.V_alloc | apply Kd.V_drewN | apply Kd.V_drew)); exact HO544.out) hb); have n1_ := Aside0.mk (Kd.V_below (by (with_reducible repeat (first | apply Kd.V_alloc | apply Kd.V_drewN | apply Kd.V_drew)); exact HO547.out) hb); have n2_ := Aside0.mk (below_step (by repeat (first | (with_reducible first | exact HB.out | apply below_alloc | apply pw_below_drewN | apply below_drew1) | exact HB.out)) hb); clear HO544; clear HO547; clear HB; have HO544 := n0_; have HO547 := n1_; have HB := n2_; clear n0_ n1_ n2_; (try clear hb); (try clear hb2); (try clear hk); (try clear hi)) | ((with_reducible refine gate_callee (f := 28) rfl ?_); refine goesL_ (some 20) rfl rfl Try.func28 (by kernel_rfl) rfl #[.slice Ao17 t542.length co17, .slice Ao18 t545.length co18] rfl (by (try simp only [List.map_toArray, List.map_cons, List.map_nil]); first | done | rfl | (simp only [List.length_drop, List.length_take]; rfl)) ?_; (with_reducible refine (spec_RecordsApart.calls k _ _ t542 _ _ t545 t549 _ ?side1 ?side2 ?side3 ?side4 A5.out).mono ?_); (case side1 => repeat (first | exact (Kd.V_reads' HO544.out).2.2 | (with_reducible refine Kd.C_alloc ?_ _) | (with_reducible refine Kd.C_drewN ?_ _) | (with_reducible refine Kd.C_drew ?_))); (case side2 => exact (Kd.V_reads' HO544.out).2.1); (case side3 => repeat (first | exact (Kd.V_reads' HO547.out).2.2 | (with_reducible refine Kd.C_alloc ?_ _) | (with_reducible refine Kd.C_drewN ?_ _) | (with_reducible refine Kd.C_drew ?_))); (case side4 => exact (Kd.V_reads' HO547.out).2.1); rintro e w20 ⟨rfl, hb⟩; refine ⟨_, rfl, ?_⟩; have n0_ := Aside0.mk (Kd.V_below (by (with_reducible repeat (first | apply Kd.V_alloc | apply Kd.V_drewN | apply Kd.V_drew)); exact HO544.out) hb); have n1_ := Aside0.mk (Kd.V_below (by (with_reducible repeat (first | apply Kd.V_alloc | apply Kd.V_drewN | apply Kd.V_drew)); exact HO547.out) hb); have n2_ := Aside0.mk (below_step (by repeat (first | (with_reducible first | exact HB.out | apply below_alloc | apply pw_below_drewN | apply below_drew1) | exact HB.out)) hb); clear HO544; clear HO547; clear HB; have HO544 := n0_; have HO547 := n1_; have HB := n2_; clear n0_ n1_ n2_; (try clear hb); (try clear hb2); (try clear hk); (try clear hi)) | (go_at_call 23; (with_reducible refine (spec_RecordsCommon.calls k _ _ t542 _ _ t545 t550 _ ?side1 ?side2 ?side3 ?side4 A7.out).mono ?_); (case side1 => repeat (first | exact (Kd.V_reads' HO544.out).2.2 | (with_reducible refine Kd.C_alloc ?_ _) | (with_reducible refine Kd.C_drewN ?_ _) | (with_reducible refine Kd.C_drew ?_))); (case side2 => exact (Kd.V_reads' HO544.out).2.1); (case side3 => repeat (first | exact (Kd.V_reads' HO547.out).2.2 | (with_reducible refine Kd.C_alloc ?_ _) | (with_reducible refine Kd.C_drewN ?_ _) | (with_reducible refine Kd.C_drew ?_))); (case side4 => exact (Kd.V_reads' HO547.out).2.1); rintro e w21 ⟨rfl, hb⟩; have n0_ := Aside0.mk (Kd.V_below (by (with_reducible repeat (first | apply Kd.V_alloc | apply Kd.V_drewN | apply Kd.V_drew)); exact HO544.out) hb); have n1_ := Aside0.mk (Kd.V_below (by (with_reducible repeat (first | apply Kd.V_alloc | apply Kd.V_drewN | apply Kd.V_drew)); exact HO547.out) hb); have n2_ := Aside0.mk (below_step (by repeat (first | (with_reducible first | exact HB.out | apply below_alloc | apply pw_below_drewN | apply below_drew1) | exact HB.out)) hb); clear HO544; clear HO547; clear HB; have HO544 := n0_; have HO547 := n1_; have HB := n2_; clear n0_ n1_ n2_; (try clear hb); (try clear hb2); (try clear hk); (try clear hi)) | ((with_reducible refine gate_callee (f := 24) rfl ?_); refine goesL_ (some 37) rfl rfl Try.func24 (by kernel_rfl) rfl #[.slice Ao17 t542.length co17, .slice Ao18 t545.length co18] rfl (by (try simp only [List.map_toArray, List.map_cons, List.map_nil]); first | done | rfl | (simp only [List.length_drop, List.length_take]; rfl)) ?_; (with_reducible refine (laws_sameRecords.calls k _ _ t542 _ _ t545 t551 _ ?side1 ?side2 ?side3 ?side4 A15.out).mono ?_); (case side1 => repeat (first | exact (Kd.V_reads' HO544.out).2.2 | (with_reducible refine Kd.C_alloc ?_ _) | (with_reducible refine Kd.C_drewN ?_ _) | (with_reducible refine Kd.C_drew ?_))); (case side2 => exact (Kd.V_reads' HO544.out).2.1); (case side3 => repeat (first | exact (Kd.V_reads' HO547.out).2.2 | (with_reducible refine Kd.C_alloc ?_ _) | (with_reducible refine Kd.C_drewN ?_ _) | (with_reducible refine Kd.C_drew ?_))); (case side4 => exact (Kd.V_reads' HO547.out).2.1); rintro e w22 ⟨rfl, hb⟩; refine ⟨_, rfl, ?_⟩; have n0_ := Aside0.mk (Kd.V_below (by (with_reducible repeat (first | apply Kd.V_alloc | apply Kd.V_drewN | apply Kd.V_drew)); exact HO544.out) hb); have n1_ := Aside0.mk (Kd.V_below (by (with_reducible repeat (first | apply Kd.V_alloc | apply Kd.V_drewN | apply Kd.V_drew)); exact HO547.out) hb); have n2_ := Aside0.mk (below_step (by repeat (first | (with_reducible first | exact HB.out | apply below_alloc | apply pw_below_drewN | apply below_drew1) | exact HB.out)) hb); clear HO544; clear HO547; clear HB; have HO544 := n0_; have HO547 := n1_; have HB := n2_; clear n0_ n1_ n2_; (try clear hb); (try clear hb2); (try clear hk); (try clear hi)))
    all_goals go_ret
    all_goals exact ⟨by first | rfl | (simp [errW_none, errW_some] <;> rfl) | (simp [*, errW_none, errW_some] <;> rfl), by repeat (first | (with_reducible first | exact HB.out | apply below_alloc | apply pw_below_drewN | apply below_drew1) | exact HB.out)⟩
  ·rw [if_neg c6] at H
   have c6b0 : (t548 == t549) = false := beq_eq_false_iff_ne.mpr c6
   have c6b1 : (t548 != t549) = true := bne_iff_ne.mpr c6
   obtain rfl := Option.some.inj H
   go_enter Try.func9, Try.ntmps9
   go_wp2_with (first | ((with_reducible refine gate_callee (f := 26) rfl ?_); refine goesL_ (some 12) rfl rfl Try.func26 (by kernel_rfl) rfl #[.slice A0 l0.length c0] rfl (by (try simp only [List.map_toArray, List.map_cons, List.map_nil]); first | done | rfl | (simp only [List.length_drop, List.length_take]; rfl)) ?_; (with_reducible refine (spec_DrawRecordsApart.calls k _ _ l0 t542 t545 _ ?side1 ?side2 A3.out).mono ?_); (case side1 => repeat (first | exact HR0.out | (with_reducible refine Kd.C_alloc ?_ _) | (with_reducible refine Kd.C_drewN ?_ _) | (with_reducible refine Kd.C_drew ?_))); (case side2 => exact HC0.out); rintro e w23 ⟨v543, v546, rfl, ho0, ho1, hb⟩; have u_v543 : ∀ (a_ : Addr) (m_ : Mode) (W_ : World), (store a_ v543 m_).run Try.prog W_ = stored Try.prog W_ a_ v543 m_ := fun a_ m_ W_ => run_store _ W_ a_ _ m_ (by first | (obtain ⟨_, _, e_⟩ := Kd.R_slice ho0; rw [e_]; rfl) | (obtain ⟨_, _, e_⟩ := Kd.S_slice ho0; rw [e_]; rfl) | (obtain ⟨_, _, e_, _⟩ := Kd.Q_slice ho0; rw [e_]; rfl) | (obtain ⟨_, _, e_⟩ := Kd.N_slice ho0; rw [e_]; rfl) | (obtain ⟨_, _, e_⟩ := Kd.V_slice ho0; rw [e_]; rfl)); have u_v546 : ∀ (a_ : Addr) (m_ : Mode) (W_ : World), (store a_ v546 m_).run Try.prog W_ = stored Try.prog W_ a_ v546 m_ := fun a_ m_ W_ => run_store _ W_ a_ _ m_ (by first | (obtain ⟨_, _, e_⟩ := Kd.R_slice ho1; rw [e_]; rfl) | (obtain ⟨_, _, e_⟩ := Kd.S_slice ho1; rw [e_]; rfl) | (obtain ⟨_, _, e_, _⟩ := Kd.Q_slice ho1; rw [e_]; rfl) | (obtain ⟨_, _, e_⟩ := Kd.N_slice ho1; rw [e_]; rfl) | (obtain ⟨_, _, e_⟩ := Kd.V_slice ho1; rw [e_]; rfl)); refine ⟨_, rfl, ?_⟩; have n0_ := Aside0.mk (Kd.V_lower (Kd.V_mono (ok' := fun k_ => True) ho0 (fun k_ hk_ => trivial)) (below_size (by repeat (first | (with_reducible first | exact HB.out | apply below_alloc | apply pw_below_drewN | apply below_drew1) | exact HB.out)))); have n1_ := Aside0.mk (Kd.V_lower (Kd.V_mono (ok' := fun k_ => True) ho1 (fun k_ hk_ => trivial)) (below_size (by repeat (first | (with_reducible first | exact HB.out | apply below_alloc | apply pw_below_drewN | apply below_drew1) | exact HB.out)))); have n2_ := Aside0.mk (below_step (by repeat (first | (with_reducible first | exact HB.out | apply below_alloc | apply pw_below_drewN | apply below_drew1) | exact HB.out)) hb); clear HB; have HO544 := n0_; have HO547 := n1_; have HB := n2_; clear n0_ n1_ n2_; (try clear hb); (try clear hb2); (try clear hk); (try clear hi); (try clear ho0); (try clear ho1); obtain ⟨Ao24, co24, eo24⟩ := Kd.V_slice HO544.out; subst eo24; obtain ⟨Ao25, co25, eo25⟩ := Kd.V_slice HO547.out; subst eo25) | ((with_reducible refine gate_callee (f := 27) rfl ?_); refine goesL_ (some 17) rfl rfl Try.func27 (by kernel_rfl) rfl #[.slice Ao24 t542.length co24, .slice Ao25 t545.length co25] rfl (by (try simp only [List.map_toArray, List.map_cons, List.map_nil]); first | done | rfl | (simp only [List.length_drop, List.length_take]; rfl)) ?_; (with_reducible refine (impl_RecordsApart.calls k _ _ t542 _ _ t545 t548 _ ?side1 ?side2 ?side3 ?side4 A4.out).mono ?_); (case side1 => repeat (first | exact (Kd.V_reads' HO544.out).2.2 | (with_reducible refine Kd.C_alloc ?_ _) | (with_reducible refine Kd.C_drewN ?_ _) | (with_reducible refine Kd.C_drew ?_))); (case side2 => exact (Kd.V_reads' HO544.out).2.1); (case side3 => repeat (first | exact (Kd.V_reads' HO547.out).2.2 | (with_reducible refine Kd.C_alloc ?_ _) | (with_reducible refine Kd.C_drewN ?_ _) | (with_reducible refine Kd.C_drew ?_))); (case side4 => exact (Kd.V_reads' HO547.out).2.1); rintro e w26 ⟨rfl, hb⟩; refine ⟨_, rfl, ?_⟩; have n0_ := Aside0.mk (Kd.V_below (by (with_reducible repeat (first | apply Kd.V_alloc | apply Kd.V_drewN | apply Kd.V_drew)); exact HO544.out) hb); have n1_ := Aside0.mk (Kd.V_below (by (with_reducible repeat (first | apply Kd.V_alloc | apply Kd.V_drewN | apply Kd.V_drew)); exact HO547.out) hb); have n2_ := Aside0.mk (below_step (by repeat (first | (with_reducible first | exact HB.out | apply below_alloc | apply pw_below_drewN | apply below_drew1) | exact HB.out)) hb); clear HO544; clear HO547; clear HB; have HO544 := n0_; have HO547 := n1_; have HB := n2_; clear n0_ n1_ n2_; (try clear hb); (try clear hb2); (try clear hk); (try clear hi)) | ((with_reducible refine gate_callee (f := 28) rfl ?_); refine goesL_ (some 20) rfl rfl Try.func28 (by kernel_rfl) rfl #[.slice Ao24 t542.length co24, .slice Ao25 t545.length co25] rfl (by (try simp only [List.map_toArray, List.map_cons, List.map_nil]); first | done | rfl | (simp only [List.length_drop, List.length_take]; rfl)) ?_; (with_reducible refine (spec_RecordsApart.calls k _ _ t542 _ _ t545 t549 _ ?side1 ?side2 ?side3 ?side4 A5.out).mono ?_); (case side1 => repeat (first | exact (Kd.V_reads' HO544.out).2.2 | (with_reducible refine Kd.C_alloc ?_ _) | (with_reducible refine Kd.C_drewN ?_ _) | (with_reducible refine Kd.C_drew ?_))); (case side2 => exact (Kd.V_reads' HO544.out).2.1); (case side3 => repeat (first | exact (Kd.V_reads' HO547.out).2.2 | (with_reducible refine Kd.C_alloc ?_ _) | (with_reducible refine Kd.C_drewN ?_ _) | (with_reducible refine Kd.C_drew ?_))); (case side4 => exact (Kd.V_reads' HO547.out).2.1); rintro e w27 ⟨rfl, hb⟩; refine ⟨_, rfl, ?_⟩; have n0_ := Aside0.mk (Kd.V_below (by (with_reducible repeat (first | apply Kd.V_alloc | apply Kd.V_drewN | apply Kd.V_drew)); exact HO544.out) hb); have n1_ := Aside0.mk (Kd.V_below (by (with_reducible repeat (first | apply Kd.V_alloc | apply Kd.V_drewN | apply Kd.V_drew)); exact HO547.out) hb); have n2_ := Aside0.mk (below_step (by repeat (first | (with_reducible first | exact HB.out | apply below_alloc | apply pw_below_drewN | apply below_drew1) | exact HB.out)) hb); clear HO544; clear HO547; clear HB; have HO544 := n0_; have HO547 := n1_; have HB := n2_; clear n0_ n1_ n2_; (try clear hb); (try clear hb2); (try clear hk); (try clear hi)))
   all_goals go_ret
   all_goals exact ⟨by first | rfl | (simp [errW_none, errW_some] <;> rfl) | (simp [*, errW_none, errW_some] <;> rfl), by repeat (first | (with_reducible first | exact HB.out | apply below_alloc | apply pw_below_drewN | apply below_drew1) | exact HB.out)⟩

end Go.Proofs.Ythlnbbehcpdnfaa.G

namespace Go.Proofs.Ythlnbbehcpdnfaa.Rd
open Go.RowKit Go.Proofs.YthlnbbehcpdnfaaW.PrintWords
set_option linter.unusedVariables false
section
variable {H : Type} {enc : TypeId × Value → H} {P : Program} {w : World} {base : Nat} {spare : Nat → Bool} {held : Bool}
/-- What a reading of type t gives: a value of the kind, and what is known of it. -/
def Opens (enc : TypeId × Value → H) (P : Program) (w : World) (base : Nat) (spare : Nat → Bool) (held : Bool) {α : Type} (t : TypeId) (d : Kd α) (ok : α → Prop) : Prop :=
  P.cellsOf t = d.sz ∧ ∀ fuel cs x, DataW.trod enc P w base spare held fuel t cs = some x → ∃ v, d.K w v cs ∧ ok v
theorem Opens.imp_ {α : Type} {t : TypeId} {d : Kd α} {ok ok' : α → Prop} (h : Opens enc P w base spare held t d ok) (hi : ∀ v, ok v → ok' v) : Opens enc P w base spare held t d ok' :=
  ⟨h.1, fun fuel cs x hx => by
    obtain ⟨v, hk, ho⟩ := h.2 fuel cs x hx
    exact ⟨v, hk, hi v ho⟩⟩
theorem opens_int {t : TypeId} {k : IntKind} (ht : P.underlying t = some (.int k)) (hc : P.cellsOf t = 1) : Opens enc P w base spare held t (Kd.int k) (fun n => (Lit.int k n).wf = true) := by
  refine ⟨hc, fun fuel cs x h => ?_⟩
  obtain ⟨n, rfl, _, hw⟩ := DataW.trod_int ht h
  exact ⟨n, rfl, hw⟩
theorem cells_len {base : Nat} {a : Addr} {n : Nat} {cs : List Value} (h : w.cells? base a n = some cs) : cs.length = n ∧ ∀ i u, cs[i]? = some u → w.cell? (a.add i) = some u := by
  unfold World.cells? at h
  split at h
  · rename_i hb
    refine ⟨by simpa using mapM_some_length h, fun i u hu => ?_⟩
    have hi : i < n := by
      have := (List.getElem?_eq_some_iff.1 hu).1
      have h2 : cs.length = n := by simpa using mapM_some_length h
      omega
    have := mapM_some_get h i i (by simp [hi])
    rw [hu] at this
    exact this
  · simp at h
theorem opens_row {α : Type} {t e : TypeId} {d : Kd α} {ok : α → Prop} (ht : P.underlying t = some (.slice e)) (hd : Opens enc P w base spare held e d ok) {fuel : Nat} {cs : List Value} {x : DataW H × List MemPlace}
    (h : DataW.trod enc P w base spare held fuel t cs = some x) : ∃ (A : Option Addr) (c : Nat) (xs : List α), cs = [.slice A xs.length c] ∧ xs.length ≤ c ∧ c ≤ maxLen ∧ d.C w A xs.length xs ∧ ∀ y ∈ xs, ok y := by
  rcases Go.Deep.open_slice ht h with ⟨rfl, _⟩ | ⟨a, len, cap, m, n, D, Pl, rfl, hb, hl, hm, hmm, _, hel⟩
  · exact ⟨none, 0, [], rfl, Nat.le_refl _, by unfold maxLen; omega, ⟨rfl, by simp, fun h0 => absurd h0 (by simp)⟩, by simp⟩
  have hlm : len ≤ m := by rw [hmm]; split <;> omega
  have hx : ∀ i, i < len → ∃ y : α, ok y ∧ ∃ c, c.length = d.sz ∧ d.K w y c ∧ ∀ j u, c[j]? = some u → w.cell? (a.add (i * d.sz + j)) = some u := by
    intro i hi
    obtain ⟨cs', h1, h2⟩ := hel i (by omega)
    obtain ⟨y, hk, ho⟩ := hd.2 _ _ _ h2
    obtain ⟨hl', hc'⟩ := cells_len h1
    refine ⟨y, ho, cs', by rw [hl', hd.1], hk, fun j u hu => ?_⟩
    have := hc' j u hu
    rw [Go.Deep.add_add, hd.1] at this
    exact this
  rcases Nat.eq_zero_or_pos len with h0 | h0
  · subst h0
    exact ⟨some a, cap, [], rfl, Nat.zero_le _, hm, ⟨rfl, by simp, fun h1 => absurd h1 (by simp)⟩, by simp⟩
  obtain ⟨y0, _⟩ := hx 0 h0
  haveI : Inhabited α := ⟨y0⟩
  obtain ⟨g, hg⟩ := Go.Deep.choose_lt hx
  have hlen : ((List.range len).map g).length = len := by simp
  refine ⟨some a, cap, (List.range len).map g, by rw [hlen], by rw [hlen]; exact hl, hm, ⟨rfl, by rw [hlen]; unfold maxLen at hm; omega, fun _ => ⟨a, rfl, fun j p hj => ?_⟩⟩, fun y hy => ?_⟩
  · have hj' : j < len := by
      have := (List.getElem?_eq_some_iff.1 hj).1
      omega
    rw [List.getElem?_map, List.getElem?_range hj'] at hj
    simp at hj
    subst hj
    obtain ⟨_, c, hc1, hc2, hc3⟩ := hg j hj'
    exact ⟨c, hc1, hc2, hc3⟩
  · obtain ⟨i, hi, rfl⟩ := List.mem_map.1 hy
    exact (hg i (List.mem_range.1 hi)).1
end
end Go.Proofs.Ythlnbbehcpdnfaa.Rd

namespace Go.Proofs.Ythlnbbehcpdnfaa.OFnApartNone
open Go.RowKit Go.Proofs.YthlnbbehcpdnfaaW.PrintWords Go.Proofs.Ythlnbbehcpdnfaa.G
set_option linter.unusedVariables false
def Pure : Prop := ∀ (l0 : List Int), l0.length ≤ maxLen → (∀ y ∈ l0, (Lit.int .u8 y).wf = true) → ∃ k, laws_FnApartNone.f k l0 = some true
end Go.Proofs.Ythlnbbehcpdnfaa.OFnApartNone

namespace Go.Proofs.Ythlnbbehcpdnfaa.Pu
open Go.RowKit Go.Proofs.YthlnbbehcpdnfaaW.PrintWords Go.Proofs.YthlnbbehcpdnfaaW.PrintLast
set_option linter.unusedVariables false
set_option linter.unusedSimpArgs false
theorem w64 {a : Int} (h0 : -9223372036854775808 ≤ a) (h1 : a ≤ 9223372036854775807) : wrap64 a = a := by unfold wrap64; omega
/-- (Not by 'rfl': a large number in a test behind it would be counted up by the kernel.) -/
theorem bindS {α β : Type} (x : α) (f : α → Option β) : (some x).bind f = f x := Eq.trans (Option.bind_some x f) (Eq.refl _)
/-- It ends, in something of which P holds. -/
def EndsIn {α : Type} (g : Nat → Option α) (P : α → Prop) : Prop := ∃ r, Ev g r ∧ P r
theorem EndsIn.bind {α β : Type} {g : Nat → Option α} {f : Nat → α → Option β} {P : α → Prop} {Q : β → Prop} (h : EndsIn g P) (k : ∀ a, P a → EndsIn (fun n => f n a) Q) : EndsIn (fun n => (g n).bind (f n)) Q := by
  obtain ⟨a, ha, hp⟩ := h
  obtain ⟨b, hb, hq⟩ := k a hp
  exact ⟨b, Ev.bind ha hb, hq⟩
theorem EndsIn.step {α : Type} {g f : Nat → Option α} {P : α → Prop} (h : ∀ k, g (k + 1) = f k) (k : EndsIn f P) : EndsIn g P := by
  obtain ⟨a, ha, hp⟩ := k
  exact ⟨a, Ev.step h ha, hp⟩
theorem EndsIn.now {α : Type} {P : α → Prop} (r : α) (hp : P r) : EndsIn (fun _ => some r) P := ⟨r, Ev.now r, hp⟩
theorem EndsIn.mono {α : Type} {g : Nat → Option α} {P Q : α → Prop} (h : EndsIn g P) (k : ∀ a, P a → Q a) : EndsIn g Q := by
  obtain ⟨a, ha, hp⟩ := h
  exact ⟨a, ha, k a hp⟩
theorem EndsIn.ev {α : Type} {g : Nat → Option α} {r : α} (h : EndsIn g (fun x => x = r)) : Ev g r := by
  obtain ⟨a, ha, rfl⟩ := h
  exact ha
theorem EndsIn.rounds {α : Type} {g : Nat → Option α} {r : α} (h : EndsIn g (fun x => x = r)) : ∃ k, g k = some r := h.ev.rounds
theorem toList_data (s : ByteArray) : s.toList = s.data.toList := ByteArray.toList_eq s
theorem ba_ext {s t : ByteArray} (h : s.toList = t.toList) : s = t := by
  rw [toList_data, toList_data] at h
  cases s; cases t
  simp only at h
  congr
  exact Array.toList_inj.1 h
theorem u8_range {x : Int} (h : (Lit.int .u8 x).wf = true) : 0 ≤ x ∧ x ≤ 255 := by
  simp only [Lit.wf, Bool.and_eq_true, decide_eq_true_eq] at h
  exact ⟨h.1, h.2⟩
end Go.Proofs.Ythlnbbehcpdnfaa.Pu

namespace Go.Proofs.Ythlnbbehcpdnfaa.Pu
open Go.RowKit Go.Proofs.YthlnbbehcpdnfaaW.PrintWords Go.Proofs.YthlnbbehcpdnfaaW.PrintLast Go.Proofs.Ythlnbbehcpdnfaa.G
set_option linter.unusedVariables false
set_option linter.unusedSimpArgs false
/-- A loop that asks each element, and stops at the first that says no. -/
theorem ev_all {α : Type} (l : List α) (hl : l.length ≤ 9223372036854775807) (L : Nat → Int → Option Bool) (F : Nat → Nat → Option Bool) (p : α → Bool) (last : Bool)
    (hend : ∀ k, L (k + 1) (l.length : Int) = some last)
    (hstep : ∀ k (i : Nat), i < l.length → L (k + 1) (i : Int) = (F k i).bind fun t => if t = true then L k (wrap64 ((i : Int) + 1)) else some false)
    (hF : ∀ i (h : i < l.length), Ev (fun k => F k i) (p l[i])) : ∀ d i, l.length - i = d → i ≤ l.length → Ev (fun k => L k (i : Int)) ((l.drop i).all p && last) := by
  intro d
  induction d with
  | zero =>
    intro i hi hle
    obtain rfl : i = l.length := by omega
    refine Ev.step (fun k => hend k) ?_
    rw [List.drop_length]
    exact Ev.now _
  | succ d ih =>
    intro i hi hle
    have hlt : i < l.length := by omega
    refine Ev.step (fun k => hstep k i hlt) ?_
    refine Ev.bind (hF i hlt) ?_
    rw [List.drop_eq_getElem_cons hlt, List.all_cons]
    cases hp : p l[i]
    · exact Ev.now _
    · simp only [if_true, Bool.true_and, w64 (a := (i : Int) + 1) (by omega) (by omega)]
      exact ih (i + 1) (by omega) (by omega)
theorem rdi_nat (l : List Int) (i : Nat) (h : i < l.length) : rd l (i : Int) = l[i] := by
  unfold rd
  simp [h]
theorem within_ev (a b c : Int) : impl_within.f a b c = some (decide (b ≤ a) && decide (a ≤ c)) := by
  unfold impl_within.f
  by_cases h : a ≥ b
  · rw [if_pos h, show decide (b ≤ a) = true from decide_eq_true h]; rfl
  · rw [if_neg h, show decide (b ≤ a) = false from decide_eq_false h]; rfl
theorem in_ev (a b c : Int) : spec_l6In.f a b c = some (decide (b ≤ a) && decide (a ≤ c)) := by
  unfold spec_l6In.f
  by_cases h : a ≥ b
  · rw [if_pos h, show decide (b ≤ a) = true from decide_eq_true h]; rfl
  · rw [if_neg h, show decide (b ≤ a) = false from decide_eq_false h]; rfl
def isB (x : Int) : Bool := decide (0 ≤ x) && decide (x ≤ 255)
theorem isByte_ev (x : Int) : impl_isByte.f x = some (isB x) := by
  unfold impl_isByte.f isB
  by_cases h : x ≥ 0
  · rw [if_pos h, show decide (0 ≤ x) = true from decide_eq_true h]; rfl
  · rw [if_neg h, show decide (0 ≤ x) = false from decide_eq_false h]; rfl
theorem allBytes_ev (l : List Int) (hl : l.length ≤ 9223372036854775807) : Ev (fun k => impl_allBytes.f k l) (l.all isB) := by
  unfold impl_allBytes.f
  have := ev_all l hl (fun k i => impl_allBytes.l0 k l (l.length : Int) i) (fun k i => some (isB (rd l (i : Int)))) isB true
    (fun k => by simp only [impl_allBytes.l0]; rw [if_neg (by omega)])
    (fun k i h => by simp only [impl_allBytes.l0]; rw [if_pos (by omega), if_pos (by omega), if_pos (by omega), isByte_ev])
    (fun i h => by rw [rdi_nat l i h]; exact Ev.now _) l.length 0 (by omega) (by omega)
  simpa using this
theorem l1Ok_ev (l : List Int) (hl : l.length ≤ 9223372036854775807) : Ev (fun k => spec_l1Ok.f k l) (l.all isB) := by
  unfold spec_l1Ok.f
  have := ev_all l hl (fun k i => spec_l1Ok.l0 k l i) (fun k i => some (isB (rd l (i : Int)))) isB true
    (fun k => by simp only [spec_l1Ok.l0]; rw [if_neg (by omega)])
    (fun k i h => by simp only [spec_l1Ok.l0]; rw [if_pos (by omega), if_pos (by omega), in_ev]; rfl)
    (fun i h => by rw [rdi_nat l i h]; exact Ev.now _) l.length 0 (by omega) (by omega)
  simpa using this
def partOk (has : Bool) (l : List Int) : Bool := if has = true then decide (l.length ≤ 12) && l.all isB else decide (l.length = 0)
theorem partValid_ev (has : Bool) (l : List Int) (hl : l.length ≤ 9223372036854775807) : Ev (fun k => impl_partValid.f k has l) (partOk has l) := by
  unfold impl_partValid.f partOk
  cases has
  · simp only [Bool.false_eq_true, if_false]
    rw [show ((l.length : Int) == 0) = decide (l.length = 0) from by rw [Bool.eq_iff_iff]; simp]
    exact Ev.now _
  · simp only [if_true]
    by_cases h : (l.length : Int) ≤ 12
    · simp only [if_pos h]
      rw [show decide (l.length ≤ 12) = true from decide_eq_true (by omega), Bool.true_and]
      exact Ev.bind (allBytes_ev l hl) (Ev.now _)
    · simp only [if_neg h]
      rw [show decide (l.length ≤ 12) = false from decide_eq_false (by omega)]
      exact Ev.now _
theorem l3Part_ev (has : Bool) (l : List Int) (hl : l.length ≤ 9223372036854775807) : Ev (fun k => spec_l3Part.f k has l) (partOk has l) := by
  unfold spec_l3Part.f partOk
  cases has
  · simp only [Bool.false_eq_true, if_false]
    by_cases h : (l.length : Int) = 0
    · simp only [if_pos h]
      obtain rfl : l = [] := List.length_eq_zero_iff.1 (by omega)
      refine Ev.bind (l1Ok_ev [] (by simp)) ?_
      exact Ev.now _
    · simp only [if_neg h]
      rw [show decide (l.length = 0) = false from decide_eq_false (by omega)]
      exact Ev.now _
  · simp only [if_true]
    refine Ev.bind (l1Ok_ev l hl) ?_
    rw [show decide ((l.length : Int) ≤ 12) = decide (l.length ≤ 12) from decide_eq_decide.2 (by omega)]
    cases l.all isB
    · simp only [Bool.false_eq_true, if_false, Bool.and_false]
      exact Ev.now _
    · simp only [if_true, Bool.and_true]
      exact Ev.now _
def rng (x : Int) : Bool := decide (0 ≤ x) && decide (x ≤ 99999)
def recOk (r : S41) : Bool := (rng r.f0 && rng r.f1) && (partOk r.f2 r.f3 && partOk r.f4 r.f5)
/-- Lengths that can be told. -/
def Lens (r : S41) : Prop := r.f3.length ≤ 9223372036854775807 ∧ r.f5.length ≤ 9223372036854775807
theorem RecordValid_ev (r : S41) (hr : Lens r) : Ev (fun k => impl_RecordValid.f k r.f0 r.f1 r.f2 r.f3 r.f4 r.f5) (recOk r) := by
  unfold impl_RecordValid.f recOk impl_baseValid.f
  simp only [within_ev, Option.bind_some]
  change Ev (fun k => ((if rng r.f0 = true then some (rng r.f1) else some false)).bind _) _
  cases rng r.f0
  · simp only [Bool.false_eq_true, if_false, Option.bind_some, Bool.false_and]
    exact Ev.now _
  · cases rng r.f1
    · simp only [if_true, Option.bind_some, Bool.false_eq_true, if_false, Bool.true_and, Bool.false_and]
      exact Ev.now _
    · simp only [if_true, Option.bind_some, Bool.true_and]
      refine Ev.bind (partValid_ev _ _ hr.1) ?_
      cases partOk r.f2 r.f3
      · exact Ev.now _
      · simp only [if_true, Bool.true_and]
        exact Ev.bind (partValid_ev _ _ hr.2) (Ev.now _)
theorem sRecordValid_ev (r : S41) (hr : Lens r) : Ev (fun k => spec_RecordValid.f k r.f0 r.f1 r.f2 r.f3 r.f4 r.f5) (recOk r) := by
  unfold spec_RecordValid.f recOk
  simp only [in_ev, Option.bind_some]
  change Ev (fun k => if rng r.f0 = true then (if rng r.f1 = true then _ else some false) else some false) _
  cases rng r.f0
  · simp only [Bool.false_eq_true, if_false, Bool.false_and]
    exact Ev.now _
  · cases rng r.f1
    · simp only [if_true, Bool.false_eq_true, if_false, Bool.true_and, Bool.false_and]
      exact Ev.now _
    · simp only [if_true, Bool.true_and]
      refine Ev.bind (l3Part_ev _ _ hr.1) ?_
      cases partOk r.f2 r.f3
      · exact Ev.now _
      · simp only [if_true, Bool.true_and]
        exact Ev.bind (l3Part_ev _ _ hr.2) (Ev.now _)
theorem rdR_nat (l : List S41) (i : Nat) (h : i < l.length) : rd_T41 l (i : Int) = l[i] := by
  unfold rd_T41
  simp [h]
theorem recOk_len {r : S41} (h : recOk r = true) : r.f3.length ≤ 12 ∧ r.f5.length ≤ 12 := by
  unfold recOk partOk at h
  simp only [Bool.and_eq_true] at h
  obtain ⟨_, h1, h2⟩ := h
  constructor
  · cases h3 : r.f2 <;> rw [h3] at h1 <;> simp at h1
    · simp [h1]
    · omega
  · cases h3 : r.f4 <;> rw [h3] at h2 <;> simp at h2
    · simp [h2]
    · omega
end Go.Proofs.Ythlnbbehcpdnfaa.Pu

namespace Go.Proofs.Ythlnbbehcpdnfaa.Pu
open Go.RowKit Go.Proofs.YthlnbbehcpdnfaaW.PrintWords Go.Proofs.YthlnbbehcpdnfaaW.PrintLast Go.Proofs.Ythlnbbehcpdnfaa.G
set_option linter.unusedVariables false
set_option linter.unusedSimpArgs false
def rowOk (l : List S41) : Bool := l.all recOk && decide (l.length ≤ 30)
theorem rowValid_ev (l : List S41) (hl : l.length ≤ 9223372036854775807) (hr : ∀ r ∈ l, Lens r) : Ev (fun k => impl_rowValid.f k l) (rowOk l) := by
  unfold impl_rowValid.f rowOk
  by_cases h : (l.length : Int) > 30
  · simp only [if_pos h]
    rw [show decide (l.length ≤ 30) = false from decide_eq_false (by omega), Bool.and_false]
    exact Ev.now _
  · simp only [if_neg h]
    rw [show decide (l.length ≤ 30) = true from decide_eq_true (by omega)]
    have := ev_all l hl (fun k i => impl_rowValid.l0 k l (l.length : Int) i) (fun k i => impl_RecordValid.f k (rd_T41 l i).f0 (rd_T41 l i).f1 (rd_T41 l i).f2 (rd_T41 l i).f3 (rd_T41 l i).f4 (rd_T41 l i).f5) recOk true
      (fun k => by simp only [impl_rowValid.l0]; rw [if_neg (by omega)])
      (fun k i h => by simp only [impl_rowValid.l0]; rw [if_pos (by omega), if_pos (by omega), if_pos (by omega)])
      (fun i h => by rw [rdR_nat l i h]; exact RecordValid_ev _ (hr _ (List.getElem_mem _))) l.length 0 (by omega) (by omega)
    simpa using this
theorem l42Rows_ev (l : List S41) (hl : l.length ≤ 9223372036854775807) (hr : ∀ r ∈ l, Lens r) : Ev (fun k => spec_l42Rows.f k l) (rowOk l) := by
  unfold spec_l42Rows.f rowOk
  have := ev_all l hl (fun k i => spec_l42Rows.l0 k l i) (fun k i => spec_RecordValid.f k (rd_T41 l i).f0 (rd_T41 l i).f1 (rd_T41 l i).f2 (rd_T41 l i).f3 (rd_T41 l i).f4 (rd_T41 l i).f5) recOk (decide (l.length ≤ 30))
      (fun k => by simp only [spec_l42Rows.l0]; rw [if_neg (by omega)]; congr 1; exact decide_eq_decide.2 (by omega))
      (fun k i h => by simp only [spec_l42Rows.l0]; rw [if_pos (by omega), if_pos (by omega)])
      (fun i h => by rw [rdR_nat l i h]; exact sRecordValid_ev _ (hr _ (List.getElem_mem _))) l.length 0 (by omega) (by omega)
  simpa using this
theorem equal_ev (a b : List Int) (ha : a.length ≤ 9223372036854775807) : Ev (fun k => slices_Equal_int_int.f k a b) (decide (a = b)) := by
  unfold slices_Equal_int_int.f
  by_cases h : (a.length : Int) = (b.length : Int)
  · have hl : a.length = b.length := by omega
    simp only [if_pos h]
    have key : ∀ d i, a.length - i = d → Ev (fun k => slices_Equal_int_int.l0 k a b (a.length : Int) (i : Int)) (decide (a.drop i = b.drop i)) := by
      intro d
      induction d with
      | zero =>
        intro i hi
        refine Ev.step (fun k => by rw [slices_Equal_int_int.l0]) ?_
        simp only [if_neg (show ¬ ((i : Int) < (a.length : Int)) by omega)]
        rw [List.drop_of_length_le (by omega), List.drop_of_length_le (by omega)]
        exact Ev.now _
      | succ d ih =>
        intro i hi
        have h1 : i < a.length := by omega
        have h2 : i < b.length := by omega
        refine Ev.step (fun k => by rw [slices_Equal_int_int.l0]) ?_
        simp only [if_pos (show (i : Int) < (a.length : Int) by omega), if_pos (show (0 : Int) ≤ (i : Int) by omega), if_pos (show (i : Int) < (b.length : Int) by omega), rdi_nat a i h1, rdi_nat b i h2, w64 (a := (i : Int) + 1) (by omega) (by omega)]
        rw [List.drop_eq_getElem_cons h1, List.drop_eq_getElem_cons h2]
        by_cases he : a[i] = b[i]
        · simp only [if_pos he]
          rw [show decide (a[i] :: a.drop (i + 1) = b[i] :: b.drop (i + 1)) = decide (a.drop (i + 1) = b.drop (i + 1)) from decide_eq_decide.2 (by simp only [List.cons.injEq, he, true_and])]
          exact ih (i + 1) (by omega)
        · simp only [if_neg he]
          rw [show decide (a[i] :: a.drop (i + 1) = b[i] :: b.drop (i + 1)) = false from decide_eq_false (by simp only [List.cons.injEq, he, false_and, not_false_eq_true])]
          exact Ev.now _
    have := key a.length 0 (by omega)
    simpa using this
  · simp only [if_neg h]
    rw [show decide (a = b) = false from decide_eq_false (fun e => h (by rw [e]))]
    exact Ev.now _
def sameB (a b : S41) : Bool := decide (a.f0 = b.f0) && (decide (a.f1 = b.f1) && ((a.f2 == b.f2) && ((a.f4 == b.f4) && (decide (a.f3 = b.f3) && decide (a.f5 = b.f5)))))
theorem sameB_iff (a b : S41) : sameB a b = true ↔ a = b := by
  unfold sameB
  simp only [Bool.and_eq_true, decide_eq_true_eq, beq_iff_eq]
  constructor
  · rintro ⟨h0, h1, h2, h4, h3, h5⟩
    cases a; cases b
    simp only at h0 h1 h2 h3 h4 h5
    subst h0 h1 h2 h3 h4 h5
    rfl
  · rintro rfl
    exact ⟨rfl, rfl, rfl, rfl, rfl, rfl⟩
theorem same_ev (a b : S41) (ha : Lens a) : Ev (fun k => impl_Record_same.f k a.f0 a.f1 a.f2 a.f3 a.f4 a.f5 b.f0 b.f1 b.f2 b.f3 b.f4 b.f5) (sameB a b) := by
  unfold impl_Record_same.f sameB
  by_cases h0 : a.f0 = b.f0
  · simp only [if_pos h0, decide_eq_true h0, Bool.true_and]
    by_cases h1 : a.f1 = b.f1
    · simp only [if_pos h1, decide_eq_true h1, Bool.true_and]
      cases h2 : (a.f2 == b.f2)
      · simp only [Bool.false_eq_true, if_false, Bool.false_and]
        exact Ev.now _
      · simp only [if_true, Bool.true_and]
        cases h4 : (a.f4 == b.f4)
        · simp only [Bool.false_eq_true, if_false, Bool.false_and]
          exact Ev.now _
        · simp only [if_true, Bool.true_and]
          refine Ev.bind (equal_ev _ _ ha.1) ?_
          cases decide (a.f3 = b.f3)
          · exact Ev.now _
          · simp only [if_true, Bool.true_and]
            exact Ev.bind (equal_ev _ _ ha.2) (Ev.now _)
    · simp only [if_neg h1, decide_eq_false h1, Bool.false_and]
      exact Ev.now _
  · simp only [if_neg h0, decide_eq_false h0, Bool.false_and]
    exact Ev.now _
def cmn : List S41 → List S41 → Nat
  | a :: xs, b :: ys => if sameB a b = true then cmn xs ys + 1 else 0
  | _, _ => 0
theorem cmn_le : ∀ (a b : List S41), cmn a b ≤ a.length ∧ cmn a b ≤ b.length
  | [], _ => by simp [cmn]
  | _ :: _, [] => by simp [cmn]
  | a :: xs, b :: ys => by
    have := cmn_le xs ys
    unfold cmn
    split <;> simp only [List.length_cons] <;> omega
theorem cmn_nil_left (b : List S41) : cmn [] b = 0 := by cases b <;> rfl
theorem cmn_nil_right (a : List S41) : cmn a [] = 0 := by cases a <;> rfl
theorem common_loop (a b : List S41) (ha : a.length ≤ 9223372036854775807) (hr : ∀ r ∈ a, Lens r) : ∀ d i, a.length - i = d → i ≤ a.length → i ≤ b.length →
    Ev (fun k => impl_common.l0 k a b (i : Int)) ((i + cmn (a.drop i) (b.drop i) : Nat) : Int) := by
  intro d
  induction d with
  | zero =>
    intro i hi h1 h2
    refine Ev.step (fun k => by rw [impl_common.l0]) ?_
    simp only [if_neg (show ¬ ((i : Int) < (a.length : Int)) by omega)]
    rw [List.drop_of_length_le (by omega), cmn_nil_left, Nat.add_zero]
    exact Ev.now _
  | succ d ih =>
    intro i hi h1 h2
    have hlt : i < a.length := by omega
    refine Ev.step (fun k => by rw [impl_common.l0]) ?_
    simp only [if_pos (show (i : Int) < (a.length : Int) by omega)]
    by_cases hb : (i : Int) < (b.length : Int)
    · have hlb : i < b.length := by omega
      simp only [if_pos hb, if_pos (show (0 : Int) ≤ (i : Int) by omega), rdR_nat a i hlt, rdR_nat b i hlb, w64 (a := (i : Int) + 1) (by omega) (by omega)]
      refine Ev.bind (same_ev _ _ (hr _ (List.getElem_mem _))) ?_
      rw [List.drop_eq_getElem_cons hlt, List.drop_eq_getElem_cons hlb]
      unfold cmn
      cases hs : sameB a[i] b[i]
      · simp only [Bool.false_eq_true, if_false, Nat.add_zero]
        exact Ev.now _
      · simp only [if_true]
        have := ih (i + 1) (by omega) (by omega) (by omega)
        rw [show i + (cmn (a.drop (i + 1)) (b.drop (i + 1)) + 1) = i + 1 + cmn (a.drop (i + 1)) (b.drop (i + 1)) by omega]
        exact this
    · simp only [if_neg hb]
      rw [List.drop_of_length_le (l := b) (by omega), cmn_nil_right, Nat.add_zero]
      exact Ev.now _
theorem common_ev (a b : List S41) (ha : a.length ≤ 9223372036854775807) (hr : ∀ r ∈ a, Lens r) : Ev (fun k => impl_common.f k a b) ((cmn a b : Nat) : Int) := by
  unfold impl_common.f
  have := common_loop a b ha hr a.length 0 (by omega) (by omega) (by omega)
  simpa using this
end Go.Proofs.Ythlnbbehcpdnfaa.Pu

