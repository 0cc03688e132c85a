/- A text of seat YtfjkpdhldeopaaaDoor: what the law FnExactLogEven needs of this repo's texts (by pack.py). Not trusted: Lean checks it. -/
import Derived.Test.YtfjkpdhldeopaaaDoorKFnExactLogEven7
import Derived.OwnWalkIn
namespace Go.Proofs.YtfjkpdhldeopaaaDoor.G
open Go.RowKit Go.Proofs.YtfjkpdhldeopaaaDoorW.PrintWords Go.Proofs.YtfjkpdhldeopaaaDoorW.PrintLast Go.Proofs.YtfjkpdhldeopaaaDoorW.PrintMore
attribute [local go_sem] max2_int min2_int max_two min_two max_three min_three max_four min_four   -- for this text's walks alone
set_option linter.unusedVariables false
set_option linter.unusedSimpArgs false

def laws_heldBatchS.l0 : Nat → List (S28) → Int → Int → Option (Int)
 | 0, _, _, _ => none
 | k + 1, x0, x1, x5 => if x5 < (x0.length : Int) then (if 0 ≤ x5 then (if (((rd_T28 x0 x5).f0) != ((Int.tmod x1 3) == 0)) = true then (some (-1)) else (if (((rd_T28 x0 x5).f1) != ((Int.tmod (wrap64 (x1 + 1)) 3) == 0)) = true then (some (-1)) else (if ((rd_T28 x0 x5).f2) = (wrap64 ((wrap64 (x1 + 1)) + 1)) then (if ((rd_T28 x0 x5).f3) = (wrap64 ((wrap64 ((wrap64 (x1 + 1)) + 1)) + 1)) then (if ((rd_T28 x0 x5).f4) = (wrap64 ((wrap64 ((wrap64 ((wrap64 (x1 + 1)) + 1)) + 1)) + 1)) then ((laws_heldRecordS.f k ((rd_T28 x0 x5).f5) (wrap64 ((wrap64 ((wrap64 ((wrap64 ((wrap64 (x1 + 1)) + 1)) + 1)) + 1)) + 1))).bind fun t532 => (if t532 < 0 then (some (-1)) else (laws_heldBatchS.l0 k x0 t532 (wrap64 (x5 + 1))))) else (some (-1))) else (some (-1))) else (some (-1))))) else (none)) else (some x1)
def laws_heldBatchS.f (k : Nat) (l0 : List (S28)) (a1 : Int) : Option (Int) := laws_heldBatchS.l0 k l0 a1 0
set_option maxHeartbeats 8000000 in
set_option maxRecDepth 100000 in
theorem laws_heldBatchS.calls (k : Nat) (A0 : Option Addr) (c0 : Nat) (l0 : List (S28)) (a1 : Int) (r : Int) (w : World) (hr0 : Kd.C k28 w A0 l0.length l0) (hc0 : l0.length ≤ c0) (h : laws_heldBatchS.f k l0 a1 = some r) :
  Calls Tryd.prog 22 #[.slice A0 l0.length c0, .int .i64 a1] w fun e w' => e = .returned (.int .i64 r) ∧ Drawn0 w w' := by
 have HR0 := Aside0.mk hr0
 have HC0 := Aside0.mk hc0
 clear hr0 hc0
 have H : (laws_heldBatchS.l0 k l0 a1 0) = some r := h
 clear h
 have H' := Aside0.mk H
 clear H
 go_enter Tryd.func22, Tryd.ntmps22
 go_wp2
 go_loopg [1, 5] k (fun kq v1 v5 w' => ∃ (x1_1 : Int) (x5_1 : Int), v1 = .int .i64 x1_1 ∧ v5 = .int .i64 x5_1 ∧ Aside0 (laws_heldBatchS.l0 kq l0 x1_1 x5_1 = some r) ∧ Aside0 (kq ≤ k) ∧ Drawn0 w w')
 case atStart => exact ⟨(a1), (0), tr, tr, H', ⟨Nat.le_refl _⟩, by repeat (first | exact Drawn0.refl _ | apply Drawn0.step)⟩
 case round =>
  clear H'
  obtain ⟨x1_1, x5_1, rfl, rfl, HA, HK1, ⟨m1, rfl⟩⟩ := hrel
  cases gk with
  | zero => exact absurd HA.out (by simp [laws_heldBatchS.l0])
  | succ k1 =>
   have H := HA.out
   clear HA
   simp only [laws_heldBatchS.l0] at H
   by_cases c3 : x5_1 < (l0.length : Int)
   ·rw [if_pos c3] at H
    have c3b0 : decide (x5_1 < (l0.length : Int)) = true := decide_eq_true c3
    clear c3
    by_cases c4 : 0 ≤ x5_1
    ·rw [if_pos c4] at H
     have c4b0 : decide (0 ≤ x5_1) = true := decide_eq_true c4
     clear c4
     by_cases c5 : (((rd_T28 l0 x5_1).f0) != ((Int.tmod x1_1 3) == 0)) = true
     ·rw [if_pos c5] at H
      have c5b0 : (((rd_T28 l0 x5_1).f0) != ((Int.tmod x1_1 3) == 0)) = true := c5
      (try (have c5b1 : decide (((rd_T28 l0 x5_1).f0) = ((Int.tmod x1_1 3) == 0)) = false := by simpa using c5))
      (try (have c5b2 : (((rd_T28 l0 x5_1).f0) == ((Int.tmod x1_1 3) == 0)) = false := by simpa using c5))
      (try (have c5b3 : ¬ (((rd_T28 l0 x5_1).f0) = ((Int.tmod x1_1 3) == 0)) := by simpa using c5))
      clear c5
      obtain rfl := Option.some.inj H
      have p526 : 0 ≤ (x5_1 : Int) := td
      have q526 : x5_1 < (l0.length : Int) := td
      obtain ⟨ad526, A526_5, c526_5, e526, hx526_0, hx526_1, hx526_2, hx526_3, hx526_4, hx526_5, hl526_5, hi526_5⟩ := at_T28 HR0.out x5_1 p526 q526
      cases e526
      have HR526_5 := Aside0.mk hi526_5
      have HC526_5 := Aside0.mk hl526_5
      clear hi526_5 hl526_5
      replace p526 := eq_true p526
      replace q526 := eq_true q526
      go_wp2
      go_ret
      exact ⟨by first | rfl | (simp; done) | (simp [*]; done), by repeat (first | exact Drawn0.refl _ | apply Drawn0.step)⟩
     ·rw [if_neg c5] at H
      have c5b0 : (((rd_T28 l0 x5_1).f0) != ((Int.tmod x1_1 3) == 0)) = false := by simpa using c5
      (try (have c5b1 : decide (((rd_T28 l0 x5_1).f0) = ((Int.tmod x1_1 3) == 0)) = true := by simpa using c5))
      (try (have c5b2 : (((rd_T28 l0 x5_1).f0) == ((Int.tmod x1_1 3) == 0)) = true := by simpa using c5))
      clear c5
      by_cases c6 : (((rd_T28 l0 x5_1).f1) != ((Int.tmod (wrap64 (x1_1 + 1)) 3) == 0)) = true
      ·rw [if_pos c6] at H
       have c6b0 : (((rd_T28 l0 x5_1).f1) != ((Int.tmod (wrap64 (x1_1 + 1)) 3) == 0)) = true := c6
       (try (have c6b1 : decide (((rd_T28 l0 x5_1).f1) = ((Int.tmod (wrap64 (x1_1 + 1)) 3) == 0)) = false := by simpa using c6))
       (try (have c6b2 : (((rd_T28 l0 x5_1).f1) == ((Int.tmod (wrap64 (x1_1 + 1)) 3) == 0)) = false := by simpa using c6))
       (try (have c6b3 : ¬ (((rd_T28 l0 x5_1).f1) = ((Int.tmod (wrap64 (x1_1 + 1)) 3) == 0)) := by simpa using c6))
       clear c6
       obtain rfl := Option.some.inj H
       have p526 : 0 ≤ (x5_1 : Int) := td
       have q526 : x5_1 < (l0.length : Int) := td
       obtain ⟨ad526, A526_5, c526_5, e526, hx526_0, hx526_1, hx526_2, hx526_3, hx526_4, hx526_5, hl526_5, hi526_5⟩ := at_T28 HR0.out x5_1 p526 q526
       cases e526
       have HR526_5 := Aside0.mk hi526_5
       have HC526_5 := Aside0.mk hl526_5
       clear hi526_5 hl526_5
       replace p526 := eq_true p526
       replace q526 := eq_true q526
       have p527 : 0 ≤ (x5_1 : Int) := td
       have q527 : x5_1 < (l0.length : Int) := td
       obtain ⟨ad527, A527_5, c527_5, e527, hx527_0, hx527_1, hx527_2, hx527_3, hx527_4, hx527_5, hl527_5, hi527_5⟩ := at_T28 HR0.out x5_1 p527 q527
       obtain rfl : ad526 = ad527 := (by injection e527)
       have HR527_5 := Aside0.mk hi527_5
       have HC527_5 := Aside0.mk hl527_5
       clear hi527_5 hl527_5
       replace p527 := eq_true p527
       replace q527 := eq_true q527
       have ea_ := Option.some.inj (hx526_5.symm.trans hx527_5)
       injection ea_ with ea_ en_ ec_
       subst ea_
       subst ec_
       clear en_
       go_wp2
       go_ret
       exact ⟨by first | rfl | (simp; done) | (simp [*]; done), by repeat (first | exact Drawn0.refl _ | apply Drawn0.step)⟩
      ·rw [if_neg c6] at H
       have c6b0 : (((rd_T28 l0 x5_1).f1) != ((Int.tmod (wrap64 (x1_1 + 1)) 3) == 0)) = false := by simpa using c6
       (try (have c6b1 : decide (((rd_T28 l0 x5_1).f1) = ((Int.tmod (wrap64 (x1_1 + 1)) 3) == 0)) = true := by simpa using c6))
       (try (have c6b2 : (((rd_T28 l0 x5_1).f1) == ((Int.tmod (wrap64 (x1_1 + 1)) 3) == 0)) = true := by simpa using c6))
       clear c6
       by_cases c7 : ((rd_T28 l0 x5_1).f2) = (wrap64 ((wrap64 (x1_1 + 1)) + 1))
       ·rw [if_pos c7] at H
        have c7b0 : (((rd_T28 l0 x5_1).f2) == (wrap64 ((wrap64 (x1_1 + 1)) + 1))) = true := beq_iff_eq.mpr c7
        have c7b1 : (((rd_T28 l0 x5_1).f2) != (wrap64 ((wrap64 (x1_1 + 1)) + 1))) = false := bne_eq_false_iff_eq.mpr c7
        clear c7
        by_cases c8 : ((rd_T28 l0 x5_1).f3) = (wrap64 ((wrap64 ((wrap64 (x1_1 + 1)) + 1)) + 1))
        ·rw [if_pos c8] at H
         have c8b0 : (((rd_T28 l0 x5_1).f3) == (wrap64 ((wrap64 ((wrap64 (x1_1 + 1)) + 1)) + 1))) = true := beq_iff_eq.mpr c8
         have c8b1 : (((rd_T28 l0 x5_1).f3) != (wrap64 ((wrap64 ((wrap64 (x1_1 + 1)) + 1)) + 1))) = false := bne_eq_false_iff_eq.mpr c8
         clear c8
         by_cases c9 : ((rd_T28 l0 x5_1).f4) = (wrap64 ((wrap64 ((wrap64 ((wrap64 (x1_1 + 1)) + 1)) + 1)) + 1))
         ·rw [if_pos c9] at H
          have c9b0 : (((rd_T28 l0 x5_1).f4) == (wrap64 ((wrap64 ((wrap64 ((wrap64 (x1_1 + 1)) + 1)) + 1)) + 1))) = true := beq_iff_eq.mpr c9
          have c9b1 : (((rd_T28 l0 x5_1).f4) != (wrap64 ((wrap64 ((wrap64 ((wrap64 (x1_1 + 1)) + 1)) + 1)) + 1))) = false := bne_eq_false_iff_eq.mpr c9
          clear c9
          replace H := tbe H
          obtain ⟨t532, A10, H⟩ := H
          by_cases c11 : t532 < 0
          ·rw [if_pos c11] at H
           have c11b0 : decide (t532 < 0) = true := decide_eq_true c11
           clear c11
           obtain rfl := Option.some.inj H
           have p526 : 0 ≤ (x5_1 : Int) := td
           have q526 : x5_1 < (l0.length : Int) := td
           obtain ⟨ad526, A526_5, c526_5, e526, hx526_0, hx526_1, hx526_2, hx526_3, hx526_4, hx526_5, hl526_5, hi526_5⟩ := at_T28 HR0.out x5_1 p526 q526
           cases e526
           have HR526_5 := Aside0.mk hi526_5
           have HC526_5 := Aside0.mk hl526_5
           clear hi526_5 hl526_5
           replace p526 := eq_true p526
           replace q526 := eq_true q526
           have p527 : 0 ≤ (x5_1 : Int) := td
           have q527 : x5_1 < (l0.length : Int) := td
           obtain ⟨ad527, A527_5, c527_5, e527, hx527_0, hx527_1, hx527_2, hx527_3, hx527_4, hx527_5, hl527_5, hi527_5⟩ := at_T28 HR0.out x5_1 p527 q527
           obtain rfl : ad526 = ad527 := (by injection e527)
           have HR527_5 := Aside0.mk hi527_5
           have HC527_5 := Aside0.mk hl527_5
           clear hi527_5 hl527_5
           replace p527 := eq_true p527
           replace q527 := eq_true q527
           have ea_ := Option.some.inj (hx526_5.symm.trans hx527_5)
           injection ea_ with ea_ en_ ec_
           subst ea_
           subst ec_
           clear en_
           have p528 : 0 ≤ (x5_1 : Int) := td
           have q528 : x5_1 < (l0.length : Int) := td
           obtain ⟨ad528, A528_5, c528_5, e528, hx528_0, hx528_1, hx528_2, hx528_3, hx528_4, hx528_5, hl528_5, hi528_5⟩ := at_T28 HR0.out x5_1 p528 q528
           obtain rfl : ad526 = ad528 := (by injection e528)
           have HR528_5 := Aside0.mk hi528_5
           have HC528_5 := Aside0.mk hl528_5
           clear hi528_5 hl528_5
           replace p528 := eq_true p528
           replace q528 := eq_true q528
           have ea_ := Option.some.inj (hx526_5.symm.trans hx528_5)
           injection ea_ with ea_ en_ ec_
           subst ea_
           subst ec_
           clear en_
           have p529 : 0 ≤ (x5_1 : Int) := td
           have q529 : x5_1 < (l0.length : Int) := td
           obtain ⟨ad529, A529_5, c529_5, e529, hx529_0, hx529_1, hx529_2, hx529_3, hx529_4, hx529_5, hl529_5, hi529_5⟩ := at_T28 HR0.out x5_1 p529 q529
           obtain rfl : ad526 = ad529 := (by injection e529)
           have HR529_5 := Aside0.mk hi529_5
           have HC529_5 := Aside0.mk hl529_5
           clear hi529_5 hl529_5
           replace p529 := eq_true p529
           replace q529 := eq_true q529
           have ea_ := Option.some.inj (hx526_5.symm.trans hx529_5)
           injection ea_ with ea_ en_ ec_
           subst ea_
           subst ec_
           clear en_
           have p530 : 0 ≤ (x5_1 : Int) := td
           have q530 : x5_1 < (l0.length : Int) := td
           obtain ⟨ad530, A530_5, c530_5, e530, hx530_0, hx530_1, hx530_2, hx530_3, hx530_4, hx530_5, hl530_5, hi530_5⟩ := at_T28 HR0.out x5_1 p530 q530
           obtain rfl : ad526 = ad530 := (by injection e530)
           have HR530_5 := Aside0.mk hi530_5
           have HC530_5 := Aside0.mk hl530_5
           clear hi530_5 hl530_5
           replace p530 := eq_true p530
           replace q530 := eq_true q530
           have ea_ := Option.some.inj (hx526_5.symm.trans hx530_5)
           injection ea_ with ea_ en_ ec_
           subst ea_
           subst ec_
           clear en_
           have p531 : 0 ≤ (x5_1 : Int) := td
           have q531 : x5_1 < (l0.length : Int) := td
           obtain ⟨ad531, A531_5, c531_5, e531, hx531_0, hx531_1, hx531_2, hx531_3, hx531_4, hx531_5, hl531_5, hi531_5⟩ := at_T28 HR0.out x5_1 p531 q531
           obtain rfl : ad526 = ad531 := (by injection e531)
           have HR531_5 := Aside0.mk hi531_5
           have HC531_5 := Aside0.mk hl531_5
           clear hi531_5 hl531_5
           replace p531 := eq_true p531
           replace q531 := eq_true q531
           have ea_ := Option.some.inj (hx526_5.symm.trans hx531_5)
           injection ea_ with ea_ en_ ec_
           subst ea_
           subst ec_
           clear en_
           go_wp2_with (first | ((with_reducible refine gate_callee (f := 33) rfl ?_); refine goesL_ (some 67) rfl rfl Tryd.func33 (by kernel_rfl) rfl #[.slice A526_5 ((rd_T28 l0 x5_1).f5).length c526_5, .int .i64 (wrap64 ((wrap64 ((wrap64 ((wrap64 ((wrap64 (x1_1 + 1)) + 1)) + 1)) + 1)) + 1))] rfl tq ?_; (with_reducible refine (laws_heldRecordS.calls k1 _ _ ((rd_T28 l0 x5_1).f5) (wrap64 ((wrap64 ((wrap64 ((wrap64 ((wrap64 (x1_1 + 1)) + 1)) + 1)) + 1)) + 1)) t532 _ ?side1 ?side2 A10.out).mono ?_); (case side1 => exact tC HR531_5.out); (case side2 => exact HC531_5.out); rintro e w' ⟨rfl, ⟨nd, rfl⟩⟩; refine ⟨_, rfl, ?_⟩))
           go_ret
           exact ⟨by first | rfl | (simp; done) | (simp [*]; done), by repeat (first | exact Drawn0.refl _ | apply Drawn0.step)⟩
          ·rw [if_neg c11] at H
           have c11b0 : decide (t532 < 0) = false := decide_eq_false c11
           clear c11
           have H' := Aside0.mk H
           clear H
           have p526 : 0 ≤ (x5_1 : Int) := td
           have q526 : x5_1 < (l0.length : Int) := td
           obtain ⟨ad526, A526_5, c526_5, e526, hx526_0, hx526_1, hx526_2, hx526_3, hx526_4, hx526_5, hl526_5, hi526_5⟩ := at_T28 HR0.out x5_1 p526 q526
           cases e526
           have HR526_5 := Aside0.mk hi526_5
           have HC526_5 := Aside0.mk hl526_5
           clear hi526_5 hl526_5
           replace p526 := eq_true p526
           replace q526 := eq_true q526
           have p527 : 0 ≤ (x5_1 : Int) := td
           have q527 : x5_1 < (l0.length : Int) := td
           obtain ⟨ad527, A527_5, c527_5, e527, hx527_0, hx527_1, hx527_2, hx527_3, hx527_4, hx527_5, hl527_5, hi527_5⟩ := at_T28 HR0.out x5_1 p527 q527
           obtain rfl : ad526 = ad527 := (by injection e527)
           have HR527_5 := Aside0.mk hi527_5
           have HC527_5 := Aside0.mk hl527_5
           clear hi527_5 hl527_5
           replace p527 := eq_true p527
           replace q527 := eq_true q527
           have ea_ := Option.some.inj (hx526_5.symm.trans hx527_5)
           injection ea_ with ea_ en_ ec_
           subst ea_
           subst ec_
           clear en_
           have p528 : 0 ≤ (x5_1 : Int) := td
           have q528 : x5_1 < (l0.length : Int) := td
           obtain ⟨ad528, A528_5, c528_5, e528, hx528_0, hx528_1, hx528_2, hx528_3, hx528_4, hx528_5, hl528_5, hi528_5⟩ := at_T28 HR0.out x5_1 p528 q528
           obtain rfl : ad526 = ad528 := (by injection e528)
           have HR528_5 := Aside0.mk hi528_5
           have HC528_5 := Aside0.mk hl528_5
           clear hi528_5 hl528_5
           replace p528 := eq_true p528
           replace q528 := eq_true q528
           have ea_ := Option.some.inj (hx526_5.symm.trans hx528_5)
           injection ea_ with ea_ en_ ec_
           subst ea_
           subst ec_
           clear en_
           have p529 : 0 ≤ (x5_1 : Int) := td
           have q529 : x5_1 < (l0.length : Int) := td
           obtain ⟨ad529, A529_5, c529_5, e529, hx529_0, hx529_1, hx529_2, hx529_3, hx529_4, hx529_5, hl529_5, hi529_5⟩ := at_T28 HR0.out x5_1 p529 q529
           obtain rfl : ad526 = ad529 := (by injection e529)
           have HR529_5 := Aside0.mk hi529_5
           have HC529_5 := Aside0.mk hl529_5
           clear hi529_5 hl529_5
           replace p529 := eq_true p529
           replace q529 := eq_true q529
           have ea_ := Option.some.inj (hx526_5.symm.trans hx529_5)
           injection ea_ with ea_ en_ ec_
           subst ea_
           subst ec_
           clear en_
           have p530 : 0 ≤ (x5_1 : Int) := td
           have q530 : x5_1 < (l0.length : Int) := td
           obtain ⟨ad530, A530_5, c530_5, e530, hx530_0, hx530_1, hx530_2, hx530_3, hx530_4, hx530_5, hl530_5, hi530_5⟩ := at_T28 HR0.out x5_1 p530 q530
           obtain rfl : ad526 = ad530 := (by injection e530)
           have HR530_5 := Aside0.mk hi530_5
           have HC530_5 := Aside0.mk hl530_5
           clear hi530_5 hl530_5
           replace p530 := eq_true p530
           replace q530 := eq_true q530
           have ea_ := Option.some.inj (hx526_5.symm.trans hx530_5)
           injection ea_ with ea_ en_ ec_
           subst ea_
           subst ec_
           clear en_
           have p531 : 0 ≤ (x5_1 : Int) := td
           have q531 : x5_1 < (l0.length : Int) := td
           obtain ⟨ad531, A531_5, c531_5, e531, hx531_0, hx531_1, hx531_2, hx531_3, hx531_4, hx531_5, hl531_5, hi531_5⟩ := at_T28 HR0.out x5_1 p531 q531
           obtain rfl : ad526 = ad531 := (by injection e531)
           have HR531_5 := Aside0.mk hi531_5
           have HC531_5 := Aside0.mk hl531_5
           clear hi531_5 hl531_5
           replace p531 := eq_true p531
           replace q531 := eq_true q531
           have ea_ := Option.some.inj (hx526_5.symm.trans hx531_5)
           injection ea_ with ea_ en_ ec_
           subst ea_
           subst ec_
           clear en_
           go_wp2_with (first | ((with_reducible refine gate_callee (f := 33) rfl ?_); refine goesL_ (some 67) rfl rfl Tryd.func33 (by kernel_rfl) rfl #[.slice A526_5 ((rd_T28 l0 x5_1).f5).length c526_5, .int .i64 (wrap64 ((wrap64 ((wrap64 ((wrap64 ((wrap64 (x1_1 + 1)) + 1)) + 1)) + 1)) + 1))] rfl tq ?_; (with_reducible refine (laws_heldRecordS.calls k1 _ _ ((rd_T28 l0 x5_1).f5) (wrap64 ((wrap64 ((wrap64 ((wrap64 ((wrap64 (x1_1 + 1)) + 1)) + 1)) + 1)) + 1)) t532 _ ?side1 ?side2 A10.out).mono ?_); (case side1 => exact tC HR531_5.out); (case side2 => exact HC531_5.out); rintro e w' ⟨rfl, ⟨nd, rfl⟩⟩; refine ⟨_, rfl, ?_⟩))
           go_roundg k1
           case measure => have := HK1.out; omega
           case rel => exact ⟨(t532), (wrap64 (x5_1 + 1)), tr, tr, H', ⟨by have := HK1.out; omega⟩, by repeat (first | exact Drawn0.refl _ | apply Drawn0.step)⟩
         ·rw [if_neg c9] at H
          have c9b0 : (((rd_T28 l0 x5_1).f4) == (wrap64 ((wrap64 ((wrap64 ((wrap64 (x1_1 + 1)) + 1)) + 1)) + 1))) = false := beq_eq_false_iff_ne.mpr c9
          have c9b1 : (((rd_T28 l0 x5_1).f4) != (wrap64 ((wrap64 ((wrap64 ((wrap64 (x1_1 + 1)) + 1)) + 1)) + 1))) = true := bne_iff_ne.mpr c9
          obtain rfl := Option.some.inj H
          have p526 : 0 ≤ (x5_1 : Int) := td
          have q526 : x5_1 < (l0.length : Int) := td
          obtain ⟨ad526, A526_5, c526_5, e526, hx526_0, hx526_1, hx526_2, hx526_3, hx526_4, hx526_5, hl526_5, hi526_5⟩ := at_T28 HR0.out x5_1 p526 q526
          cases e526
          have HR526_5 := Aside0.mk hi526_5
          have HC526_5 := Aside0.mk hl526_5
          clear hi526_5 hl526_5
          replace p526 := eq_true p526
          replace q526 := eq_true q526
          have p527 : 0 ≤ (x5_1 : Int) := td
          have q527 : x5_1 < (l0.length : Int) := td
          obtain ⟨ad527, A527_5, c527_5, e527, hx527_0, hx527_1, hx527_2, hx527_3, hx527_4, hx527_5, hl527_5, hi527_5⟩ := at_T28 HR0.out x5_1 p527 q527
          obtain rfl : ad526 = ad527 := (by injection e527)
          have HR527_5 := Aside0.mk hi527_5
          have HC527_5 := Aside0.mk hl527_5
          clear hi527_5 hl527_5
          replace p527 := eq_true p527
          replace q527 := eq_true q527
          have ea_ := Option.some.inj (hx526_5.symm.trans hx527_5)
          injection ea_ with ea_ en_ ec_
          subst ea_
          subst ec_
          clear en_
          have p528 : 0 ≤ (x5_1 : Int) := td
          have q528 : x5_1 < (l0.length : Int) := td
          obtain ⟨ad528, A528_5, c528_5, e528, hx528_0, hx528_1, hx528_2, hx528_3, hx528_4, hx528_5, hl528_5, hi528_5⟩ := at_T28 HR0.out x5_1 p528 q528
          obtain rfl : ad526 = ad528 := (by injection e528)
          have HR528_5 := Aside0.mk hi528_5
          have HC528_5 := Aside0.mk hl528_5
          clear hi528_5 hl528_5
          replace p528 := eq_true p528
          replace q528 := eq_true q528
          have ea_ := Option.some.inj (hx526_5.symm.trans hx528_5)
          injection ea_ with ea_ en_ ec_
          subst ea_
          subst ec_
          clear en_
          have p529 : 0 ≤ (x5_1 : Int) := td
          have q529 : x5_1 < (l0.length : Int) := td
          obtain ⟨ad529, A529_5, c529_5, e529, hx529_0, hx529_1, hx529_2, hx529_3, hx529_4, hx529_5, hl529_5, hi529_5⟩ := at_T28 HR0.out x5_1 p529 q529
          obtain rfl : ad526 = ad529 := (by injection e529)
          have HR529_5 := Aside0.mk hi529_5
          have HC529_5 := Aside0.mk hl529_5
          clear hi529_5 hl529_5
          replace p529 := eq_true p529
          replace q529 := eq_true q529
          have ea_ := Option.some.inj (hx526_5.symm.trans hx529_5)
          injection ea_ with ea_ en_ ec_
          subst ea_
          subst ec_
          clear en_
          have p530 : 0 ≤ (x5_1 : Int) := td
          have q530 : x5_1 < (l0.length : Int) := td
          obtain ⟨ad530, A530_5, c530_5, e530, hx530_0, hx530_1, hx530_2, hx530_3, hx530_4, hx530_5, hl530_5, hi530_5⟩ := at_T28 HR0.out x5_1 p530 q530
          obtain rfl : ad526 = ad530 := (by injection e530)
          have HR530_5 := Aside0.mk hi530_5
          have HC530_5 := Aside0.mk hl530_5
          clear hi530_5 hl530_5
          replace p530 := eq_true p530
          replace q530 := eq_true q530
          have ea_ := Option.some.inj (hx526_5.symm.trans hx530_5)
          injection ea_ with ea_ en_ ec_
          subst ea_
          subst ec_
          clear en_
          go_wp2
          go_ret
          exact ⟨by first | rfl | (simp; done) | (simp [*]; done), by repeat (first | exact Drawn0.refl _ | apply Drawn0.step)⟩
        ·rw [if_neg c8] at H
         have c8b0 : (((rd_T28 l0 x5_1).f3) == (wrap64 ((wrap64 ((wrap64 (x1_1 + 1)) + 1)) + 1))) = false := beq_eq_false_iff_ne.mpr c8
         have c8b1 : (((rd_T28 l0 x5_1).f3) != (wrap64 ((wrap64 ((wrap64 (x1_1 + 1)) + 1)) + 1))) = true := bne_iff_ne.mpr c8
         obtain rfl := Option.some.inj H
         have p526 : 0 ≤ (x5_1 : Int) := td
         have q526 : x5_1 < (l0.length : Int) := td
         obtain ⟨ad526, A526_5, c526_5, e526, hx526_0, hx526_1, hx526_2, hx526_3, hx526_4, hx526_5, hl526_5, hi526_5⟩ := at_T28 HR0.out x5_1 p526 q526
         cases e526
         have HR526_5 := Aside0.mk hi526_5
         have HC526_5 := Aside0.mk hl526_5
         clear hi526_5 hl526_5
         replace p526 := eq_true p526
         replace q526 := eq_true q526
         have p527 : 0 ≤ (x5_1 : Int) := td
         have q527 : x5_1 < (l0.length : Int) := td
         obtain ⟨ad527, A527_5, c527_5, e527, hx527_0, hx527_1, hx527_2, hx527_3, hx527_4, hx527_5, hl527_5, hi527_5⟩ := at_T28 HR0.out x5_1 p527 q527
         obtain rfl : ad526 = ad527 := (by injection e527)
         have HR527_5 := Aside0.mk hi527_5
         have HC527_5 := Aside0.mk hl527_5
         clear hi527_5 hl527_5
         replace p527 := eq_true p527
         replace q527 := eq_true q527
         have ea_ := Option.some.inj (hx526_5.symm.trans hx527_5)
         injection ea_ with ea_ en_ ec_
         subst ea_
         subst ec_
         clear en_
         have p528 : 0 ≤ (x5_1 : Int) := td
         have q528 : x5_1 < (l0.length : Int) := td
         obtain ⟨ad528, A528_5, c528_5, e528, hx528_0, hx528_1, hx528_2, hx528_3, hx528_4, hx528_5, hl528_5, hi528_5⟩ := at_T28 HR0.out x5_1 p528 q528
         obtain rfl : ad526 = ad528 := (by injection e528)
         have HR528_5 := Aside0.mk hi528_5
         have HC528_5 := Aside0.mk hl528_5
         clear hi528_5 hl528_5
         replace p528 := eq_true p528
         replace q528 := eq_true q528
         have ea_ := Option.some.inj (hx526_5.symm.trans hx528_5)
         injection ea_ with ea_ en_ ec_
         subst ea_
         subst ec_
         clear en_
         have p529 : 0 ≤ (x5_1 : Int) := td
         have q529 : x5_1 < (l0.length : Int) := td
         obtain ⟨ad529, A529_5, c529_5, e529, hx529_0, hx529_1, hx529_2, hx529_3, hx529_4, hx529_5, hl529_5, hi529_5⟩ := at_T28 HR0.out x5_1 p529 q529
         obtain rfl : ad526 = ad529 := (by injection e529)
         have HR529_5 := Aside0.mk hi529_5
         have HC529_5 := Aside0.mk hl529_5
         clear hi529_5 hl529_5
         replace p529 := eq_true p529
         replace q529 := eq_true q529
         have ea_ := Option.some.inj (hx526_5.symm.trans hx529_5)
         injection ea_ with ea_ en_ ec_
         subst ea_
         subst ec_
         clear en_
         go_wp2
         go_ret
         exact ⟨by first | rfl | (simp; done) | (simp [*]; done), by repeat (first | exact Drawn0.refl _ | apply Drawn0.step)⟩
       ·rw [if_neg c7] at H
        have c7b0 : (((rd_T28 l0 x5_1).f2) == (wrap64 ((wrap64 (x1_1 + 1)) + 1))) = false := beq_eq_false_iff_ne.mpr c7
        have c7b1 : (((rd_T28 l0 x5_1).f2) != (wrap64 ((wrap64 (x1_1 + 1)) + 1))) = true := bne_iff_ne.mpr c7
        obtain rfl := Option.some.inj H
        have p526 : 0 ≤ (x5_1 : Int) := td
        have q526 : x5_1 < (l0.length : Int) := td
        obtain ⟨ad526, A526_5, c526_5, e526, hx526_0, hx526_1, hx526_2, hx526_3, hx526_4, hx526_5, hl526_5, hi526_5⟩ := at_T28 HR0.out x5_1 p526 q526
        cases e526
        have HR526_5 := Aside0.mk hi526_5
        have HC526_5 := Aside0.mk hl526_5
        clear hi526_5 hl526_5
        replace p526 := eq_true p526
        replace q526 := eq_true q526
        have p527 : 0 ≤ (x5_1 : Int) := td
        have q527 : x5_1 < (l0.length : Int) := td
        obtain ⟨ad527, A527_5, c527_5, e527, hx527_0, hx527_1, hx527_2, hx527_3, hx527_4, hx527_5, hl527_5, hi527_5⟩ := at_T28 HR0.out x5_1 p527 q527
        obtain rfl : ad526 = ad527 := (by injection e527)
        have HR527_5 := Aside0.mk hi527_5
        have HC527_5 := Aside0.mk hl527_5
        clear hi527_5 hl527_5
        replace p527 := eq_true p527
        replace q527 := eq_true q527
        have ea_ := Option.some.inj (hx526_5.symm.trans hx527_5)
        injection ea_ with ea_ en_ ec_
        subst ea_
        subst ec_
        clear en_
        have p528 : 0 ≤ (x5_1 : Int) := td
        have q528 : x5_1 < (l0.length : Int) := td
        obtain ⟨ad528, A528_5, c528_5, e528, hx528_0, hx528_1, hx528_2, hx528_3, hx528_4, hx528_5, hl528_5, hi528_5⟩ := at_T28 HR0.out x5_1 p528 q528
        obtain rfl : ad526 = ad528 := (by injection e528)
        have HR528_5 := Aside0.mk hi528_5
        have HC528_5 := Aside0.mk hl528_5
        clear hi528_5 hl528_5
        replace p528 := eq_true p528
        replace q528 := eq_true q528
        have ea_ := Option.some.inj (hx526_5.symm.trans hx528_5)
        injection ea_ with ea_ en_ ec_
        subst ea_
        subst ec_
        clear en_
        go_wp2
        go_ret
        exact ⟨by first | rfl | (simp; done) | (simp [*]; done), by repeat (first | exact Drawn0.refl _ | apply Drawn0.step)⟩
    ·rw [if_neg c4] at H
     exact absurd H (by simp)
   ·rw [if_neg c3] at H
    have c3b0 : decide (x5_1 < (l0.length : Int)) = false := decide_eq_false c3
    clear c3
    obtain rfl := Option.some.inj H
    go_wp2
    go_ret
    exact ⟨by first | rfl | (simp; done) | (simp [*]; done), by repeat (first | exact Drawn0.refl _ | apply Drawn0.step)⟩

end Go.Proofs.YtfjkpdhldeopaaaDoor.G

namespace Go.Proofs.YtfjkpdhldeopaaaDoor.G
open Go.RowKit Go.Proofs.YtfjkpdhldeopaaaDoorW.PrintWords Go.Proofs.YtfjkpdhldeopaaaDoorW.PrintLast Go.Proofs.YtfjkpdhldeopaaaDoorW.PrintMore
set_option linter.unusedVariables false
set_option linter.unusedSimpArgs false
/-- A batch whose records lie apart. -/
def kB : Kd S28 := Kd.iso (Kd.pair Kd.bool (Kd.pair Kd.bool (Kd.pair (Kd.int .i64) (Kd.pair (Kd.int .i64) (Kd.pair (Kd.int .i64) (sS 62 k62)))))) (fun x : S28 => (x.f0, x.f1, x.f2, x.f3, x.f4, x.f5))
theorem kB_C {w : World} {A : Option Addr} {n : Nat} {xs : List S28} (h : Kd.C kB w A n xs) : Kd.C k28 w A n xs := h
theorem kB_mkM (w : World) (base : Nat) (ok : Nat → Prop) (x : S28) {v5 : Value} (g5 : Kd.S k62 62 w base ok v5 x.f5) : kB.M w base ok x [.bool x.f0, .bool x.f1, .int .i64 x.f2, .int .i64 x.f3, .int .i64 x.f4, v5] := ⟨[.bool x.f0], [.bool x.f1, .int .i64 x.f2, .int .i64 x.f3, .int .i64 x.f4, v5], rfl, rfl, ⟨[.bool x.f1], [.int .i64 x.f2, .int .i64 x.f3, .int .i64 x.f4, v5], rfl, rfl, ⟨[.int .i64 x.f2], [.int .i64 x.f3, .int .i64 x.f4, v5], rfl, rfl, ⟨[.int .i64 x.f3], [.int .i64 x.f4, v5], rfl, rfl, ⟨[.int .i64 x.f4], [v5], rfl, rfl, ⟨v5, rfl, g5⟩⟩⟩⟩⟩⟩
theorem kB_openM {w : World} {base : Nat} {ok : Nat → Prop} {x : S28} {cs : List Value} (h : kB.M w base ok x cs) : ∃ v5, cs = [.bool x.f0, .bool x.f1, .int .i64 x.f2, .int .i64 x.f3, .int .i64 x.f4, v5] ∧ Kd.S k62 62 w base ok v5 x.f5 := by
  obtain ⟨_, _, rfl, rfl, ⟨_, _, rfl, rfl, ⟨_, _, rfl, rfl, ⟨_, _, rfl, rfl, ⟨_, _, rfl, rfl, ⟨v5, rfl, g5⟩⟩⟩⟩⟩⟩ := h
  exact ⟨v5, rfl, g5⟩
/-- The marks of a batch, and of a row of batches. -/
def mkBat (a : Int) (x : S28) : S28 := ⟨Int.tmod a 3 == 0, Int.tmod (a + 1) 3 == 0, a + 2, a + 3, a + 4, mkRow (a + 5) x.f5⟩
def cntB (x : S28) : Nat := 5 + totR x.f5
def totB : List S28 → Nat
  | [] => 0
  | x :: l => cntB x + totB l
def mkBats : Int → List S28 → List S28
  | _, [] => []
  | a, x :: l => mkBat a x :: mkBats (a + (cntB x : Int)) l
theorem mkBats_len : ∀ (l : List S28) (a : Int), (mkBats a l).length = l.length
  | [], _ => rfl
  | x :: l, a => by simp [mkBats, mkBats_len l]
theorem totB_append : ∀ (l m : List S28), totB (l ++ m) = totB l + totB m
  | [], m => by simp [totB]
  | x :: l, m => by simp [totB, totB_append l m, Nat.add_assoc]
theorem mkBats_append : ∀ (l m : List S28) (a : Int), mkBats a (l ++ m) = mkBats a l ++ mkBats (a + (totB l : Int)) m
  | [], m, a => by simp [mkBats, totB]
  | x :: l, m, a => by
    simp only [List.cons_append, mkBats, totB, mkBats_append l m]
    rw [show a + (cntB x : Int) + (totB l : Int) = a + ((cntB x + totB l : Nat) : Int) by omega]
theorem totB_take {l : List S28} {i : Nat} (h : i < l.length) : totB (l.take (i + 1)) = totB (l.take i) + cntB l[i] := by
  rw [← List.take_append_getElem h, totB_append]
  simp [totB]
theorem totB_le (l : List S28) (i : Nat) : totB (l.take i) ≤ totB l := by
  have := totB_append (l.take i) (l.drop i)
  rw [List.take_append_drop] at this
  omega
theorem cntB_le {l : List S28} {i : Nat} (h : i < l.length) : totB (l.take i) + cntB l[i] ≤ totB l := by
  rw [← totB_take h]
  exact totB_le l _
theorem mkBats_set (a : Int) (l : List S28) (i : Nat) (h : i < l.length) : (mkBats a (l.take i) ++ l.drop i).set i (mkBat (a + (totB (l.take i) : Int)) l[i]) = mkBats a (l.take (i + 1)) ++ l.drop (i + 1) := by
  have hl : (mkBats a (l.take i)).length = i := by rw [mkBats_len, List.length_take]; omega
  rw [List.drop_eq_getElem_cons h, List.set_append_right _ _ (by omega), hl, Nat.sub_self, List.set_cons_zero, ← List.take_append_getElem h, mkBats_append]
  simp [mkBats]
theorem mkBats_at (a : Int) (l : List S28) (i : Nat) (h : i < l.length) (z : S28) : (mkBats a (l.take i) ++ l.drop i).getD i z = l[i] := by
  have hl : (mkBats a (l.take i)).length = i := by rw [mkBats_len, List.length_take]; omega
  rw [List.getD_eq_getElem?_getD, List.getElem?_append_right (by omega), hl, Nat.sub_self, List.getElem?_drop]
  simp [h]
theorem mkBats_len2 (a : Int) (l : List S28) (i : Nat) (h : i ≤ l.length) : (mkBats a (l.take i) ++ l.drop i).length = l.length := by
  rw [List.length_append, mkBats_len, List.length_take, List.length_drop]
  omega
/-- A round's state: the row with the element lent (its cells c), and the element's records. -/
def MkB (w0 w : World) (P0 oki : Nat → Prop) (g n cap : Nat) (ys : List S28) (i : Nat) (v5 : Value) (l5 : List S62) (c : List Value) (W : World) : Prop :=
  Kd.H kB 28 W w0.heap.size P0 (.slice (some ⟨g, 0, none⟩) n cap) ys i oki c ∧ Below w0.heap.size w0 W ∧ Kept w W P0 ∧ Kd.S k62 62 W w0.heap.size oki v5 l5 ∧ (∀ k, oki k → P0 k ∧ k ≠ g) ∧ w0.heap.size ≤ g ∧ P0 g ∧ i < n
section
variable {w0 w W : World} {P0 oki : Nat → Prop} {g n cap i : Nat} {ys : List S28} {v5 : Value} {l5 : List S62} {c : List Value}
theorem MkB.at_ (h : MkB w0 w P0 oki g n cap ys i v5 l5 c W) (j : Nat) (u : Value) (hu : c[j]? = some u) : W.cell? ⟨g, i * 6 + j, none⟩ = some u ∧ W.frozen? ⟨g, i * 6 + j, none⟩ = false := H_at h.1 (by omega) (by have := h.2.2.2.2.2.2.2; omega) j u hu
theorem MkB.below (h : MkB w0 w P0 oki g n cap ys i v5 l5 c W) : Below w0.heap.size w0 W := h.2.1
theorem MkB.s5 (h : MkB w0 w P0 oki g n cap ys i v5 l5 c W) : Kd.S k62 62 W w0.heap.size oki v5 l5 := h.2.2.2.1
theorem MkB.put (h : MkB w0 w P0 oki g n cap ys i v5 l5 c W) (hc : c.length = 6) (j : Nat) (hj : j < 6) (u : Value) (hu : u.oneCell' = true) {W' : World} (hw : W' = W.setCell ⟨g, i * 6 + j, none⟩ u) : MkB w0 w P0 oki g n cap ys i v5 l5 (c.set j u) W' := by
  obtain ⟨h1, h2, h3, h5, h6, h7, h8, h9⟩ := h
  obtain ⟨p1, p2⟩ := H_put h1 (by omega) (by omega) j u (by omega) hc hu
  have e : (W.setCell ⟨g, (i : Int).toNat * kB.sz + j, none⟩ u) = W' := hw.symm
  rw [e] at p1 p2
  have hn : ∀ k, oki k → some k ≠ some g := fun k hk he => (h6 k hk).2 (by injection he)
  exact ⟨p1, by rw [hw]; exact below_set h2 h7, Kept.of_grown p2 h3 (fun k he => by injection he with he; subst he; exact .inl h8), Kd.S_step h5 (fun k hk hlt => p2.block k hlt (hn k hk)), h6, h7, h8, h9⟩
/-- The records have been marked. -/
theorem MkB.recs {W' : World} {l5' : List S62} (h : MkB w0 w P0 oki g n cap ys i v5 l5 c W) (hr : Kd.S k62 62 W' w0.heap.size oki v5 l5') (hb : Below w0.heap.size w0 W') (hk : Kept W W' oki) : MkB w0 w P0 oki g n cap ys i v5 l5' c W' := by
  obtain ⟨h1, h2, h3, h5, h6, h7, h8, h9⟩ := h
  exact ⟨Kd.H_step h1 (fun k _ hn hlt => hk.2 k hlt hn), hb, h3.then_ hk (fun k he => .inl (h6 k he).1), hr, h6, h7, h8, h9⟩
theorem MkB.done (h : MkB w0 w P0 oki g n cap ys i v5 l5 c W) (x' : S28) (hc : c = [.bool x'.f0, .bool x'.f1, .int .i64 x'.f2, .int .i64 x'.f3, .int .i64 x'.f4, v5]) (e5 : x'.f5 = l5) : Kd.S kB 28 W w0.heap.size P0 (.slice (some ⟨g, 0, none⟩) n cap) (ys.set i x') ∧ Below w0.heap.size w0 W ∧ Kept w W P0 := by
  obtain ⟨h1, h2, h3, h5, h6, h7, h8, h9⟩ := h
  subst hc
  exact ⟨Kd.H_back h1 (kB_mkM _ _ _ x' (by rw [e5]; exact h5)) (fun _ hk => hk), h2, h3⟩
end
set_option maxHeartbeats 4000000 in
set_option maxRecDepth 100000 in
theorem laws_markBatchS.callsA (P0 : Nat → Prop) (u : Value) (l : List S28) (a : Int) (w0 w : World) (hB : Below w0.heap.size w0 w) (ho : Kd.S kB 28 w w0.heap.size P0 u l) (h0 : 0 ≤ a) (h1 : a + (totB l : Int) ≤ 3000000000000000000) :
    Calls Tryd.prog 21 #[u, .int .i64 a] w fun e w' => e = .returned (.int .i64 (a + (totB l : Int))) ∧ Kd.S kB 28 w' w0.heap.size P0 u (mkBats a l) ∧ Below w0.heap.size w0 w' ∧ Kept w w' P0 := by
  obtain ⟨A, cap, rfl⟩ := Kd.S_slice ho
  have HN := Aside0.mk h0
  have HT := Aside0.mk h1
  have HS0 := Aside0.mk ho
  have HB0 := Aside0.mk hB
  have hmax : l.length ≤ 9223372036854775807 := by
    have := (Kd.S_reads' ho).2.2.2.1
    exact this
  clear h0 h1 ho hB
  go_enter Tryd.func21, Tryd.ntmps21
  go_wp2
  go_loopw [1, 5] (fun v1 v5 wr => ∃ i : Nat, v5 = .int .i64 i ∧ v1 = .int .i64 (a + (totB (l.take i) : Int)) ∧ i ≤ l.length ∧ Aside0 (Kd.S kB 28 wr w0.heap.size P0 (.slice A l.length cap) (mkBats a (l.take i) ++ l.drop i)) ∧ Aside0 (Below w0.heap.size w0 wr) ∧ Aside0 (Kept w wr P0)) (fun _ v5 _ => l.length - (intOf v5).toNat)
  case atStart => exact ⟨0, rfl, by simp [totB], Nat.zero_le _, by simpa [mkBats] using HS0, HB0, ⟨Kept.refl _ _⟩⟩
  case round =>
    obtain ⟨i, rfl, rfl, hi, HS, HB, HK⟩ := hrel
    by_cases hlt : i < l.length
    · have hx := mkBats_at a l i hlt z28
      have hset := Aside0.mk (mkBats_set a l i hlt)
      have htk := Aside0.mk (totB_take hlt)
      have hle := cntB_le hlt
      have hlen := Aside0.mk (mkBats_len2 a l i hi)
      have hT := HT.out
      have hN := HN.out
      have hx1b : 0 ≤ a + (totB (l.take i) : Int) := by omega
      have hx1c : a + (totB (l.take i) : Int) + (cntB l[i] : Int) ≤ 3000000000000000000 := by omega
      have HNX := Aside0.mk (show a + (totB (l.take (i + 1)) : Int) = (a + (totB (l.take i) : Int)) + (cntB l[i] : Int) by rw [htk.out]; omega)
      clear hT hN hle htk
      generalize a + (totB (l.take i) : Int) = x1 at *
      generalize mkBats a (l.take i) ++ l.drop i = ys at *
      generalize l[i] = x at *
      have hcx : (cntB x : Int) = 5 + totR x.f5 := by simp [cntB]
      obtain ⟨g, cap', e0, hgb, hgl, cells, hgc⟩ := Kd.S_form HS.out (by rw [hlen.out]; omega)
      injection e0 with e1 e2 e3
      subst e1
      subst e3
      clear e2
      obtain ⟨oki, c, hcl, hM, hcc, hfr, hoki, hH⟩ := Kd.S_elem HS.out z28 (i : Int) (by omega) (by omega)
      rw [Int.toNat_natCast, hx] at hM
      obtain ⟨v5, rfl, g5⟩ := kB_openM hM
      have hPg : P0 g := (Kd.S_R HS.out).1 g rfl
      obtain ⟨A5, c5, rfl⟩ := Kd.S_slice g5
      have HH := Aside0.mk (show MkB w0 w P0 oki g l.length cap ys i (.slice A5 x.f5.length c5) x.f5 _ wr from ⟨hH, HB.out, HK.out, g5, hoki, hgb, hPg, hlt⟩)
      have d0 := HH.out.at_ 0 _ rfl
      have hwA : wrap64 (x1 + 1) = x1 + 1 := by simp only [wrap64]; omega
      have hwB : wrap64 (x1 + 1 + 1) = x1 + 2 := by simp only [wrap64]; omega
      have hwC : wrap64 (x1 + 2 + 1) = x1 + 3 := by simp only [wrap64]; omega
      have hwD : wrap64 (x1 + 3 + 1) = x1 + 4 := by simp only [wrap64]; omega
      have hwE : wrap64 (x1 + 4 + 1) = x1 + 5 := by simp only [wrap64]; omega
      have HX1 := Aside0.mk hx1b
      have HX2 := Aside0.mk (And.intro hx1c hcx)
      clear hcc hfr hcl hM hH g5 hoki hgc hgl hgb hx hPg HB HK HS hx1b hx1c hcx
      rw [Nat.add_zero] at d0
      obtain ⟨hd, hf⟩ := d0
      go_wp2_with (first
        | ((with_reducible refine gate_store (t := 4) (p := 18) rfl ?_); refine store_event (t := 4) (p := 18) (v := ?v1) (w1 := (wr.setCell ⟨g, i * 6, none⟩ (.bool (Int.tmod x1 3 == 0)))) ?hg ?ho ?hn ?hr ?_; (case ho => rfl); (case hg => rfl); (case hn => rfl); (case hr => first | (go_simp; done) | (go_simp; rfl)); intro w1 hw; replace HH := Aside0.mk (HH.out.put rfl 0 (by decide) _ rfl hw); clear hw hd hf; obtain ⟨hd, hf⟩ := HH.out.at_ 1 _ rfl)
        | ((with_reducible refine gate_store (t := 4) (p := 27) rfl ?_); refine store_event (t := 4) (p := 27) (v := ?v2) (w1 := (w1.setCell ⟨g, i * 6 + 1, none⟩ (.bool (Int.tmod (x1 + 1) 3 == 0)))) ?hg ?ho ?hn ?hr ?_; (case ho => rfl); (case hg => rfl); (case hn => rfl); (case hr => first | (go_simp; done) | (go_simp; rfl)); intro w2 hw; replace HH := Aside0.mk (HH.out.put rfl 1 (by decide) _ rfl hw); clear hw hd hf; obtain ⟨hd, hf⟩ := HH.out.at_ 2 _ rfl)
        | ((with_reducible refine gate_store (t := 3) (p := 34) rfl ?_); refine store_event (t := 3) (p := 34) (v := ?v3) (w1 := (w2.setCell ⟨g, i * 6 + 2, none⟩ (.int .i64 (x1 + 2)))) ?hg ?ho ?hn ?hr ?_; (case ho => rfl); (case hg => rfl); (case hn => rfl); (case hr => first | (go_simp; done) | (go_simp; rfl)); intro w3 hw; replace HH := Aside0.mk (HH.out.put rfl 2 (by decide) _ rfl hw); clear hw hd hf; obtain ⟨hd, hf⟩ := HH.out.at_ 3 _ rfl)
        | ((with_reducible refine gate_store (t := 3) (p := 41) rfl ?_); refine store_event (t := 3) (p := 41) (v := ?v4) (w1 := (w3.setCell ⟨g, i * 6 + 3, none⟩ (.int .i64 (x1 + 3)))) ?hg ?ho ?hn ?hr ?_; (case ho => rfl); (case hg => rfl); (case hn => rfl); (case hr => first | (go_simp; done) | (go_simp; rfl)); intro w4 hw; replace HH := Aside0.mk (HH.out.put rfl 3 (by decide) _ rfl hw); clear hw hd hf; obtain ⟨hd, hf⟩ := HH.out.at_ 4 _ rfl)
        | ((with_reducible refine gate_store (t := 3) (p := 48) rfl ?_); refine store_event (t := 3) (p := 48) (v := ?v5) (w1 := (w4.setCell ⟨g, i * 6 + 4, none⟩ (.int .i64 (x1 + 4)))) ?hg ?ho ?hn ?hr ?_; (case ho => rfl); (case hg => rfl); (case hn => rfl); (case hr => first | (go_simp; done) | (go_simp; rfl)); intro w5 hw; replace HH := Aside0.mk (HH.out.put rfl 4 (by decide) _ rfl hw); clear hw hd hf; obtain ⟨hd, hf⟩ := HH.out.at_ 5 _ rfl)
        | (go_at_call 32; with_reducible refine (laws_markRecordS.callsA oki (.slice A5 x.f5.length c5) x.f5 (x1 + 5) w0 w5 HH.out.below HH.out.s5 (by have := HX1.out; omega) (by have := HX2.out; omega)).mono ?_; rintro e w6 ⟨rfl, m1, m2, m3⟩; replace HH := Aside0.mk (HH.out.recs m1 m2 m3); clear m1 m2 m3 hd hf))
      have HD := HH.out.done (mkBat x1 x) rfl rfl
      rw [hset.out] at HD
      go_roundw
      case measure => simp only [intOf]; omega
      case rel => exact ⟨i + 1, by simp, by rw [HNX.out]; have := HX2.out.2; congr 1; omega, by omega, ⟨HD.1⟩, ⟨HD.2.1⟩, ⟨HD.2.2⟩⟩
    · have hil : i = l.length := by omega
      subst hil
      go_wp2
      go_ret
      rw [List.take_length, List.drop_length, List.append_nil] at HS
      exact ⟨by simp, HS.out, HB.out, HK.out⟩
end Go.Proofs.YtfjkpdhldeopaaaDoor.G

namespace Go.Proofs.YtfjkpdhldeopaaaDoor.G
open Go.RowKit Go.Proofs.YtfjkpdhldeopaaaDoorW.PrintWords Go.Proofs.YtfjkpdhldeopaaaDoorW.PrintLast Go.Proofs.YtfjkpdhldeopaaaDoorW.PrintMore
set_option linter.unusedVariables false
section
variable {P : Program} {Q : Exit → Act → World → Prop} {S : World → Prop} {ds : List Nat}
/-- What is left of the region from operation i on. -/
def Fl (P : Program) (l0 : List Oper) (Q : Exit → Act → World → Prop) (S : World → Prop) (ds : List Nat) (n i : Nat) (l : List Oper) (a : Act) (w : World) : Prop :=
  l0.drop i = l → wpAnyLast P .any l0.toArray Q S ds l.length (fN n i) a w
variable {l0 rest : List Oper}
theorem q_begin {id : Nat} {a : Act} {w : World} (S : World → Prop) (ds : List Nat) (n : Nat) (hm : P.follows .mixedOrders = true) (hn : l0.length = n) (hS : S w.drew) (h : S w.drew → Fl P l0 Q S ds n 0 l0 a w.drew) : (Code.region id l0.toArray true).wp P Q a w := by
  refine start_ (S := S) (ds := ds) (n := n) (fN n 0) hm (by rw [List.size_toArray]; exact hn) (fN_zero n) hS (fun hS => ?_)
  have := h hS rfl
  rw [hn] at this
  exact this
def takeQ (l0 : List Oper) (ds : List Nat) (n i : Nat) : Bool := takeB .any l0.toArray ds (fN n i) (fN n (i + 1)) i
theorem q_take {n i : Nat} {oi : Oper} {v : Value} {a : Act} {w : World} (hc : takeQ l0 ds n i = true)
    (hQ : ∀ c a w, Q (.panic c) (a.put oi.dst v) w → Q (.panic c) a w) (hy : YieldsIf P l0.toArray S oi v a) (hS : S w) (h : Fl P l0 Q S ds n (i + 1) rest (a.put oi.dst v) w) : Fl P l0 Q S ds n i (oi :: rest) a w := by
  intro hd
  obtain ⟨hi, hr⟩ := fr_at hd
  exact take_ (fN n (i + 1)) hi rfl hc hQ hy hS rfl (h hr)
theorem q_go {n i : Nat} {oi : Oper} {v : Value} {a : Act} {w : World} (hc : takeQ l0 ds n i = true) (hw : Region.wanted oi (yielded l0.toArray a.tmps) = true)
    (hQ : ∀ c a w, Q (.panic c) (a.put oi.dst v) w → Q (.panic c) a w) (hS : S w) (hy : ∀ w, S w → (execOp a.eval oi).run P w = .ok (.value v) w) (h : Fl P l0 Q S ds n (i + 1) rest (a.put oi.dst v) w) : Fl P l0 Q S ds n i (oi :: rest) a w :=
  q_take hc hQ (.inl ⟨hw, hy⟩) hS h
def oneQ (l0 : List Oper) (n i : Nat) : Bool := readyB .any l0.toArray (fN n i) (fN n (i + 1)) i
theorem q_done {n i : Nat} {a : Act} {w : World} (hc : (Region.ready .any l0.toArray (fN n i) == []) = true) (h : Q .normal a w) : Fl P l0 Q S ds n i [] a w := fun _ => done_ hc h
/-- A call of a function. -/
theorem q_call {n i : Nat} {oi : Oper} {a : Act} {w : World} {f : FuncId} {fn : Func} {as1 : Array Operand} {ts : Array TypeId} (hc : oneQ l0 n i = true) (hd : i ∉ ds) (hw : Region.wanted oi (yielded l0.toArray a.tmps) = true)
    (hf : P.funcs[f]? = some fn) (hname : (fn.name == "runtime.NumGoroutine") = false) (hb : fn.body.isSome = true) (args : Array Value) (hop : oi.op = .call { callee := .value (.func f), args := as1, argTypes := ts }) (hargs : as1.map a.eval = args)
    (h : Calls P f args w fun e w' => ∃ v, e = .returned v ∧ S w' ∧ (S w' → Fl P l0 Q S ds n (i + 1) rest (a.put oi.dst v) w')) : Fl P l0 Q S ds n i (oi :: rest) a w := by
  intro hdr
  obtain ⟨hi, hr⟩ := fr_at hdr
  refine one_ (fN n (i + 1)) hi rfl hc hd (fun K hK => ?_)
  exact goes_ hf hname hb args hw rfl hop hargs (h.mono fun e w' ⟨v, he, hs, hf⟩ => ⟨v, he, hK _ _ hs (fun hs => hf hs hr)⟩)
/-- One that comes up alone, by a step's law. -/
theorem q_stp {n i : Nat} {oi : Oper} {a : Act} {w : World} (hc : oneQ l0 n i = true) (hd : i ∉ ds)
    (h : ∀ K : Act → World → Prop, Shut (∀ a w, S w → (S w → Fl P l0 Q S ds n (i + 1) rest a w) → K a w) → if Region.wanted oi (yielded l0.toArray a.tmps) = true then Oper.wp P oi a w K Q else K (a.put oi.dst undef) w) :
    Fl P l0 Q S ds n i (oi :: rest) a w := by
  intro hdr
  obtain ⟨hi, hr⟩ := fr_at hdr
  exact one_ (fN n (i + 1)) hi rfl hc hd (fun K hK => h K (fun a w hs hf => hK a w hs (fun hs => hf hs hr)))
/-- A store that keeps what is held. -/
theorem q_put {n i : Nat} {oi : Oper} {a : Act} {w w1 : World} (hc : oneQ l0 n i = true) (hd : i ∉ ds) (hw : Region.wanted oi (yielded l0.toArray a.tmps) = true) (hN : oi.dst = none)
    (hrun : (execOp a.eval oi).run P w = .ok .skip w1) (hs : S w1) (h : S w1 → Fl P l0 Q S ds n (i + 1) rest a w1) : Fl P l0 Q S ds n i (oi :: rest) a w := by
  intro hdr
  obtain ⟨hi, hr⟩ := fr_at hdr
  refine one_ (fN n (i + 1)) hi hN hc hd (fun K hK => ?_)
  exact skip_ hw hN hrun (hK _ _ hs (fun hs => h hs hr))
/-- A store, one of the last. -/
theorem q_store {n i : Nat} {oi : Oper} {a : Act} {w w1 : World} (hc : oneQ l0 n i = true) (hd : i ∈ ds) (hw : Region.wanted oi (yielded l0.toArray a.tmps) = true) (hN : oi.dst = none)
    (hrun : (execOp a.eval oi).run P w = .ok .skip w1) (h : Fl P l0 Q S ds n (i + 1) rest a w1) : Fl P l0 Q S ds n i (oi :: rest) a w := by
  intro hdr
  obtain ⟨hi, hr⟩ := fr_at hdr
  refine last_ (fN n (i + 1)) hi hN hc hd (fun K hK => ?_)
  exact skip_ hw hN hrun (hK _ _ (h hr))
end
theorem front_perm {α : Type} : ∀ (l : List α) (i : Nat) (e : α), l[i]? = some e → l.Perm (e :: l.eraseIdx i)
  | [], i, e, h => by simp at h
  | x :: l, 0, e, h => by
    simp only [List.getElem?_cons_zero, Option.some.injEq] at h
    subst h
    exact List.Perm.refl _
  | x :: l, i + 1, e, h => by
    simp only [List.getElem?_cons_succ] at h
    exact ((front_perm l i e h).cons x).trans (List.Perm.swap e x _)
section
variable {w W W' : World} {es : List En} {b i t : Nat} {cs : Array Value}
theorem St.drew (h : St w W es) : St w W.drew es := h.call (below_drew (Below.refl _ _))
theorem St.drewN (h : St w W es) (m : Nat) : St w (W.drewN m) es := h.call (pw_below_drewN (Below.refl _ _) m)
theorem St.al (h : St w W es) : St w (W.alloc (.cells cs t (0, 0))) (boxE W.heap.size cs t :: es) := h.pushB rfl (blk_new W _) (below_alloc (Below.refl _ _) _)
theorem St.cells (h : St w W es) (i : Nat) (he : es[i]? = some (boxE b cs t)) : (∀ j, W.cell? ⟨b, j, none⟩ = cs[j]?) ∧ ∀ j, W.frozen? ⟨b, j, none⟩ = false := ⟨fun j => blk_cell (h.getB i he) j, fun j => blk_frozen (h.getB i he) j⟩
theorem St.ge (h : St w W es) (i : Nat) {e : En} (he : es[i]? = some e) (k : Nat) (hk : e.P k) : w.heap.size ≤ k := ((h.2.1 e (List.mem_of_getElem? he)).2 k hk).1
theorem St.lt (h : St w W es) (i : Nat) {e : En} (he : es[i]? = some e) (k : Nat) (hk : e.P k) : k < W.heap.size := ((h.2.1 e (List.mem_of_getElem? he)).2 k hk).2
theorem foot_box {W : World} (h : W.heap[b]? = some (.cells cs t (0, 0))) : Foot (fun W => W.heap[b]? = some (.cells cs t (0, 0))) W (fun k => k = b) := fun W2 h2 => (h2 _ rfl (blk_lt h)).trans h
theorem kept_set (W : World) (b j : Nat) (v : Value) : Kept W (W.setCell ⟨b, j, none⟩ v) (fun k => k = b) := ⟨by simp [World.setCell], fun i _ hn => Below.heap_setCell W ⟨b, j, none⟩ v i hn⟩
/-- A cell of a variable is written. -/
theorem St.set1 (h : St w W es) (i : Nat) (he : es[i]? = some (boxE b cs t)) (j : Nat) (v : Value) : St w (W.setCell ⟨b, j, none⟩ v) (es.set i (boxE b (cs.setIfInBounds j v) t)) :=
  h.mark i he _ rfl (below_set h.below (h.ge i he b rfl)) (kept_set W b j v) (foot_box (blk_set (h.getB i he) j v))
theorem St.set6 {a0 a1 a2 a3 a4 a5 : Value} (h : St w W es) (i : Nat) (he : es[i]? = some (boxE b #[a0, a1, a2, a3, a4, a5] t)) (v0 v1 v2 v3 v4 v5 : Value) :
    St w ((((((W.setCell ⟨b, 0, none⟩ v0).setCell ⟨b, 1, none⟩ v1).setCell ⟨b, 2, none⟩ v2).setCell ⟨b, 3, none⟩ v3).setCell ⟨b, 4, none⟩ v4).setCell ⟨b, 5, none⟩ v5) (es.set i (boxE b #[v0, v1, v2, v3, v4, v5] t)) := by
  have hl := (List.getElem?_eq_some_iff.1 he).1
  have hh : ∀ {es' : List En} (e : En), (es'.length = es.length) → (es'.set i e)[i]? = some e := fun e hl' => List.getElem?_set_self (by rw [hl']; exact hl)
  have s0 := h.set1 i he 0 v0
  have s1 := s0.set1 i (hh _ rfl) 1 v1
  have s2 := s1.set1 i (hh _ (by simp)) 2 v2
  have s3 := s2.set1 i (hh _ (by simp)) 3 v3
  have s4 := s3.set1 i (hh _ (by simp)) 4 v4
  have s5 := s4.set1 i (hh _ (by simp)) 5 v5
  simp only [List.set_set] at s5
  exact s5
theorem St.perm (h : St w W es) {es' : List En} (p : es.Perm es') : St w W es' :=
  ⟨h.1, fun e he => h.2.1 e (p.mem_iff.2 he), (p.map En.P).pairwise h.2.2 (fun h k a b => h k b a)⟩
/-- One that is held, ahead of all. -/
theorem St.front (h : St w W es) (i : Nat) {e : En} (he : es[i]? = some e) : St w W (e :: es.eraseIdx i) := h.perm (front_perm es i e he)
theorem St.drop1 {e : En} (h : St w W (e :: es)) : St w W es := h.sub (List.sublist_cons_self e es)
theorem St.apart (h : St w W es) (i j : Nat) {e e' : En} (he : es[i]? = some e) (hj : es[j]? = some e') (hij : i < j) (k : Nat) (h1 : e.P k) (h2 : e'.P k) : False := by
  obtain ⟨hl, h3⟩ := List.getElem?_eq_some_iff.1 he
  obtain ⟨hl', h3'⟩ := List.getElem?_eq_some_iff.1 hj
  have := (List.pairwise_iff_getElem.1 h.2.2) i j (by rw [List.length_map]; exact hl) (by rw [List.length_map]; exact hl') hij k
  rw [List.getElem_map, List.getElem_map, h3, h3'] at this
  exact this h1 h2
/-- Two that are held become one. -/
theorem St.merge2 {e1 e2 : En} (h : St w W (e1 :: e2 :: es)) (hk : Kept W W' (fun k => e1.P k ∨ e2.P k)) (e : En) (hf : Foot e.Q W' e.P) (hP : ∀ k, e.P k → (e1.P k ∨ e2.P k ∨ W.heap.size ≤ k) ∧ k < W'.heap.size) (hb : Below w.heap.size w W') : St w W' (e :: es) := by
  have hlt : ∀ e ∈ es, ∀ k, e.P k → k < W.heap.size ∧ ¬ (e1.P k ∨ e2.P k) := fun f hf k hk => by
    obtain ⟨j, hj⟩ := List.getElem?_of_mem hf
    refine ⟨((h.2.1 f (by simp [hf])).2 k hk).2, fun h2 => h2.elim (fun h3 => ?_) (fun h3 => ?_)⟩
    · exact h.apart 0 (j + 2) (e := e1) (e' := f) rfl (by simpa using hj) (by omega) k h3 hk
    · exact h.apart 1 (j + 2) (e := e2) (e' := f) rfl (by simpa using hj) (by omega) k h3 hk
  refine ⟨hb, fun f hfm => ?_, ?_⟩
  · rcases List.mem_cons.1 hfm with rfl | hfm
    · refine ⟨hf, fun k hk2 => ⟨?_, (hP k hk2).2⟩⟩
      rcases (hP k hk2).1 with h3 | h3 | h3
      · exact h.ge 0 rfl k h3
      · exact h.ge 1 rfl k h3
      · exact Nat.le_trans h.1.size h3
    · obtain ⟨p1, p2⟩ := h.2.1 f (by simp [hfm])
      exact ⟨p1.step (fun k hk2 hl => hk.2 k hl (hlt f hfm k hk2).2), fun k hk2 => ⟨(p2 k hk2).1, Nat.lt_of_lt_of_le (p2 k hk2).2 hk.1⟩⟩
  · rw [List.map_cons, List.pairwise_cons]
    refine ⟨fun q hq k hk2 hqk => ?_, (List.pairwise_cons.1 (List.pairwise_cons.1 h.2.2).2).2⟩
    obtain ⟨f, hfm, rfl⟩ := List.mem_map.1 hq
    obtain ⟨h4, h5⟩ := hlt f hfm k hqk
    rcases (hP k hk2).1 with h3 | h3 | h3
    · exact h5 (.inl h3)
    · exact h5 (.inr h3)
    · omega
/-- One that is held turns, and may take in what is new. -/
theorem St.merge1 {e1 : En} (h : St w W (e1 :: es)) (hk : Kept W W' e1.P) (e : En) (hf : Foot e.Q W' e.P) (hP : ∀ k, e.P k → (e1.P k ∨ W.heap.size ≤ k) ∧ k < W'.heap.size) (hb : Below w.heap.size w W') : St w W' (e :: es) := by
  have h2 : St w W (e1 :: .row (fun _ => True) (fun _ => False) :: es) := by
    refine ⟨h.1, fun f hf => ?_, ?_⟩
    · rcases List.mem_cons.1 hf with rfl | hf
      · exact h.2.1 _ (by simp)
      · rcases List.mem_cons.1 hf with rfl | hf
        · exact ⟨fun _ _ => trivial, fun _ hk => hk.elim⟩
        · exact h.2.1 _ (by simp [hf])
    · simp only [List.map_cons, List.pairwise_cons] at *
      have h3 := h.2.2
      simp only [List.map_cons, List.pairwise_cons] at h3
      exact ⟨fun q hq => by
        rcases List.mem_cons.1 hq with rfl | hq
        · exact fun _ _ hk => hk.elim
        · exact h3.1 q hq, fun _ _ _ hk => hk.elim, h3.2⟩
  exact h2.merge2 (Kept.mono hk (fun _ hk => .inl hk)) e hf (fun k hk2 => ⟨(hP k hk2).1.imp id .inr, (hP k hk2).2⟩) hb
/-- One row has been appended to another. -/
theorem St.app2 {α : Type} {d : Kd α} {e : Nat} {u u' v1 : Value} {xs ys zs : List α} {P R : Nat → Prop} (h : St w W (rowS d e w.heap.size u xs P :: rowS d e w.heap.size u' ys R :: es)) (hs : Kd.S d e W' w.heap.size (fun k => (P k ∨ R k) ∨ W.heap.size ≤ k) v1 zs) (hg : W.grownBy W' u.ownBlock) (hb : Below w.heap.size w W') :
    St w W' (rowS d e w.heap.size v1 zs (fun k => ((P k ∨ R k) ∨ W.heap.size ≤ k) ∧ k < W'.heap.size) :: es) :=
  h.merge2 (Kept.of_grown hg (Kept.refl _ _) (fun k hk => .inl (.inl ((Kd.S_R (h.getS 0 rfl)).1 k hk)))) (rowS d e w.heap.size v1 zs _) (foot_S (Kd.S_mono (Kd.S_bound hs) (fun k hk => ⟨hk.1, hk.2.2.1⟩)))
    (fun k hk => ⟨hk.1.elim (fun h => h.elim .inl (fun h => .inr (.inl h))) (fun h => .inr (.inr h)), hk.2⟩) hb
section
variable {P : Program} {ops : Array Oper} {rest : List Oper} {o : Oper} {a : Act} {Q : Exit → Act → World → Prop}
/-- A store. -/
theorem w_put {W1 : World} {es' : List En} (hgd : o.guard = none) (hN : o.dst = none) (hrun : (execOp a.eval o).run P W = .ok .skip W1) (hs : St w W1 es') (k : ∀ W1, Aside0 (St w W1 es') → wpList P ops Q rest a W1) : wpList P ops Q (o :: rest) a W := by
  refine wpList_plain hgd fun K hK => ?_
  unfold Oper.wp
  rw [hrun]
  show K (a.put o.dst undef) W1
  rw [hN]
  exact hK _ _ (k _ ⟨hs⟩)
/-- A variable is made. -/
theorem w_box (h : Aside0 (St w W es)) {N : Tmp} (hgd : o.guard = none) (hd : o.dst = some N) {cs : Array Value} {t : TypeId}
    (hrun : (execOp a.eval o).run P W = .ok (.value (.pointer (some ⟨W.heap.size, 0, none⟩))) (W.alloc (.cells cs t (0, 0))))
    (k : ∀ g W1, Aside0 (St w W1 (boxE g cs t :: es)) → wpList P ops Q rest (a.put o.dst (.pointer (some ⟨g, 0, none⟩))) W1) : wpList P ops Q (o :: rest) a W :=
  box_event hgd hd hrun (fun g hg w1 hbox hb => k g w1 ⟨h.out.pushB hg hbox hb⟩)
end
end
end Go.Proofs.YtfjkpdhldeopaaaDoor.G

namespace Go.Proofs.YtfjkpdhldeopaaaDoor.G
open Go.RowKit Go.Proofs.YtfjkpdhldeopaaaDoorW.PrintWords Go.Proofs.YtfjkpdhldeopaaaDoorW.PrintLast Go.Proofs.YtfjkpdhldeopaaaDoorW.PrintMore
set_option linter.unusedVariables false
/-- An element that stands in no row yet. -/
def elE {α : Type} (d : Kd α) (b : Nat) (p : α) (cs : List Value) (P : Nat → Prop) : En := .row (fun W => d.M W b P p cs) P
section
variable {α : Type} {d : Kd α} {e b n c i t : Nat} {w W W' : World} {es : List En} {v : Value} {xs : List α} {p : α} {cs : List Value} {P R ok : Nat → Prop}
theorem foot_M (h : d.M W b P p cs) : Foot (fun W => d.M W b P p cs) W P := fun W' hW => Kd.M_step h hW
theorem St.pushM (h : St w W es) (hm : d.M W' W.heap.size ok p cs) (hb : Below W.heap.size W W') : St w W' (elE d w.heap.size p cs (fun k => W.heap.size ≤ k ∧ k < W'.heap.size) :: es) := by
  refine h.push hb (elE d w.heap.size p cs _) (foot_M ?_) (fun k hk => hk)
  exact d.M_lower h.1.size (d.M_mono (fun k hk => ⟨hk.2.1, hk.2.2.1⟩) (d.M_bound hm))
/-- What is held is parted in two. -/
theorem St.split {e0 e1 e2 : En} (h : St w W (e0 :: es)) (f1 : Foot e1.Q W e1.P) (f2 : Foot e2.Q W e2.P) (p1 : ∀ k, e1.P k → e0.P k) (p2 : ∀ k, e2.P k → e0.P k) (hd : ∀ k, e1.P k → e2.P k → False) : St w W (e1 :: e2 :: es) := by
  obtain ⟨hb, h2, h3⟩ := h
  have h0 := (h2 e0 (by simp)).2
  simp only [List.map_cons, List.pairwise_cons] at h3
  refine ⟨hb, fun f hf => ?_, ?_⟩
  · rcases List.mem_cons.1 hf with rfl | hf
    · exact ⟨f1, fun k hk => h0 k (p1 k hk)⟩
    · rcases List.mem_cons.1 hf with rfl | hf
      · exact ⟨f2, fun k hk => h0 k (p2 k hk)⟩
      · exact h2 f (by simp [hf])
  · simp only [List.map_cons, List.pairwise_cons]
    refine ⟨fun q hq k hk hqk => ?_, fun q hq k hk hqk => h3.1 q hq k (p2 k hk) hqk, h3.2⟩
    rcases List.mem_cons.1 hq with rfl | hq
    · exact hd k hk hqk
    · exact h3.1 q hq k (p1 k hk) hqk
theorem S_app1 {Q : Exit → Act → World → Prop} {Pr : Program} {ops : Array Oper} {o : Oper} {rest : List Oper} {a : Act} (h : St w W (elE d w.heap.size p cs R :: rowS d e w.heap.size v xs P :: es)) (hgd : o.guard = none) (s x : Operand) (t : TypeId) (z : Value) (bytes : Nat)
    (ho : o.op = .call { callee := .builtin .append, args := #[s, x], argTypes := #[t, t] }) (ht : Pr.underlying t = some (.slice e)) (hinfo : (Pr.info? e).map (fun i => (i.zero, i.size, i.bytes)) = some (some z, d.sz, bytes)) (hz : z.cells.size = d.sz) (hs0 : 0 < d.sz) (hb0 : 0 < bytes)
    (hs : a.eval s = v) (hx : a.eval x = .slice (some ⟨W.heap.size, 0, none⟩) 1 1) (hl : (xs.length + 1) * bytes ≤ 140737488355328)
    (hk : ∀ v1 w1 P1, St w w1 (rowS d e w.heap.size v1 (xs ++ [p]) P1 :: es) → wpList Pr ops Q rest (a.put o.dst v1) w1) :
    wpList Pr ops Q (o :: rest) a (W.alloc (.cells cs.toArray e)) := by
  have hM : d.M W w.heap.size R p cs := h.get 0 rfl
  have hS := h.getS 1 rfl
  have hap : ∀ k, R k → P k → False := h.apart 0 1 rfl rfl (by omega)
  refine Kd.S_append d w.heap.size hgd s x t e z bytes ho ht hinfo hz hs0 hb0 v xs p cs (fun k => (R k ∨ P k) ∨ W.heap.size ≤ k) R hs hx hM (fun k hk => ⟨.inl (.inl hk), fun he => hap k hk ((Kd.S_R hS).1 k he.symm)⟩) (fun k hk => .inr hk) (Kd.S_mono hS (fun k hk => ⟨.inl (.inr hk), fun hr => hap k hr hk⟩)) h.below h.below.size hl ?_
  intro v1 w1 hs1 hb hg hat
  refine hk v1 w1 (fun k => ((R k ∨ P k) ∨ W.heap.size ≤ k) ∧ k < w1.heap.size) ?_
  exact h.merge2 (Kept.of_grown hg (Kept.refl _ _) (fun k hk => .inl (.inr ((Kd.S_R hS).1 k hk)))) (rowS d e w.heap.size v1 _ _) (foot_S (Kd.S_mono (Kd.S_bound hs1) (fun k hk => ⟨hk.1, hk.2.2.1⟩)))
    (fun k hk => ⟨hk.1.elim (fun h => h.elim .inl (fun h => .inr (.inl h))) (fun h => .inr (.inr h)), hk.2⟩) hb
theorem St.head1 {e : En} (h : St w W (e :: es)) : St w W [e] := h.sub (List.cons_sublist_cons.2 (List.nil_sublist _))
/-- out[i] = x', whole. -/
theorem St_store {Pr : Program} {ops : Array Oper} {rest : List Oper} {o : Oper} {a : Act} {Q : Exit → Act → World → Prop} {x' : α} {u : Value} {g n cap : Nat} {j : Int} (z : α) (h : St w W (elE d w.heap.size x' cs R :: rowS d e w.heap.size (.slice (some ⟨g, 0, none⟩) n cap) xs P :: es)) (hN : o.dst = none) (hgd : o.guard = none) (t : TypeId) (p x : Operand) (ho : o.op = .store t p x)
    (haddr : a.eval p = .pointer (some ⟨g, j.toNat * d.sz, none⟩)) (hx : a.eval x = u) (hu : u.cells.toList = cs) (ht : (Pr.info? t).map (·.size) = some d.sz) (h0 : 0 ≤ j) (hj : j < n)
    (hk : ∀ w1 P1, St w w1 (rowS d e w.heap.size (.slice (some ⟨g, 0, none⟩) n cap) (xs.set j.toNat x') P1 :: es) → wpList Pr ops Q rest a w1) : wpList Pr ops Q (o :: rest) a W := by
  have hM : d.M W w.heap.size R x' cs := h.get 0 rfl
  have hS := h.getS 1 rfl
  have hap : ∀ k, R k → P k → False := h.apart 0 1 rfl rfl (by omega)
  obtain ⟨oki, c, hcl, _, _, _, hoki, hH⟩ := Kd.S_elem hS z j h0 hj
  have hcs : cs.length = d.sz := d.K_len (d.K_of_M hM)
  have HO : Kd.H d e W w.heap.size (fun k => R k ∨ P k) (.slice (some ⟨g, 0, none⟩) n cap) xs j (fun k => oki k ∨ R k) c := Kd.H_more (okg := R) (Kd.H_mono hH (fun k hk => ⟨.inr hk, fun hr => hap k hr hk⟩)) (fun k hk => .inl hk)
  refine Kd.H_store d w.heap.size hN hgd t p x ho e j 0 xs x' u cs c (fun k => R k ∨ P k) (fun k => oki k ∨ R k) R haddr rfl hx hu (by rw [hcs]; exact ht) (d.K_one (d.K_of_M hM)) HO h0 hj (by omega) ?_ (fun _ hk => .inr hk) h.below ?_
  · rw [List.take_zero, List.nil_append, Nat.zero_add, List.drop_of_length_le (by omega), List.append_nil]
    exact hM
  · intro w1 hs hb hg
    refine hk w1 (fun k => (R k ∨ P k) ∧ k < w1.heap.size) ?_
    exact h.merge2 (Kept.of_grown hg (Kept.refl _ _) (fun k hk => .inl (.inr ((Kd.S_R hS).1 k (by rw [← hk]; rfl))))) (rowS d e w.heap.size _ _ _) (foot_S (Kd.S_mono (Kd.S_bound hs) (fun k hk => ⟨hk.1, hk.2.2.1⟩)))
      (fun k hk => ⟨hk.1.elim .inl (fun h => .inr (.inl h)), hk.2⟩) hb
end
end Go.Proofs.YtfjkpdhldeopaaaDoor.G

namespace Go.Proofs.YtfjkpdhldeopaaaDoor.G
open Go.RowKit Go.Proofs.YtfjkpdhldeopaaaDoorW.PrintWords Go.Proofs.YtfjkpdhldeopaaaDoorW.PrintLast Go.Proofs.YtfjkpdhldeopaaaDoorW.PrintMore Go.Proofs.YtfjkpdhldeopaaaDoor.Pu
set_option linter.unusedVariables false
set_option linter.unusedSimpArgs false
/-- The cells that hold a record. -/
def CellsR (W : World) (p : Addr) (r : S62) (A3 : Option Addr) (c3 : Nat) (A5 : Option Addr) (c5 : Nat) : Prop :=
  W.cell? p = some (.int .i64 r.f0) ∧ W.cell? ⟨p.block, p.off + 1, none⟩ = some (.int .i64 r.f1) ∧ W.cell? ⟨p.block, p.off + 2, none⟩ = some (.bool r.f2) ∧ W.cell? ⟨p.block, p.off + 3, none⟩ = some (.slice A3 r.f3.length c3) ∧ W.cell? ⟨p.block, p.off + 4, none⟩ = some (.bool r.f4) ∧ W.cell? ⟨p.block, p.off + 5, none⟩ = some (.slice A5 r.f5.length c5)
theorem CellsR.below {W W' : World} {p : Addr} {r : S62} {A3 A5 : Option Addr} {c3 c5 : Nat} (h : CellsR W p r A3 c3 A5 c5) (hb : Below W.heap.size W W') : CellsR W' p r A3 c3 A5 c5 := ⟨pw_cell_below hb h.1, pw_cell_below hb h.2.1, pw_cell_below hb h.2.2.1, pw_cell_below hb h.2.2.2.1, pw_cell_below hb h.2.2.2.2.1, pw_cell_below hb h.2.2.2.2.2⟩
theorem in_q (a b c : Int) (w : World) : Calls Tryd.prog 44 #[.int .i64 a, .int .i64 b, .int .i64 c] w fun e w' => e = .returned (.bool (decide (b ≤ a) && decide (a ≤ c))) ∧ ∃ n, w' = w.drewN n :=
  (spec_l6In.calls a b c _ w (in_ev a b c)).mono fun e w' h => ⟨h.1, h.2.out⟩
set_option maxRecDepth 100000 in
set_option maxHeartbeats 4000000 in
theorem specrecs_q (l : List S62) (A : Option Addr) (c : Nat) (w : World) (hr : Kd.C k62 w A l.length l) (hc : l.length ≤ c) :
    Calls Tryd.prog 43 #[.slice A l.length c] w fun e w' => e = .returned (.bool (recsInc l && lenOk l)) ∧ Below w.heap.size w w' := by
  have hl := hr.2.1
  have HR := Aside0.mk hr
  clear hr
  go_enter Tryd.func43, Tryd.ntmps43
  go_wp2
  go_loopw [3] (fun v3 wr => ∃ i : Nat, v3 = .int .i64 i ∧ i ≤ l.length ∧ (∀ j, j < i → recStep l j = true) ∧ Below w.heap.size w wr) (fun v3 _ => l.length - (intOf v3).toNat)
  case atStart => exact ⟨0, rfl, Nat.zero_le _, fun j hj => absurd hj (Nat.not_lt_zero j), Below.refl _ _⟩
  case round =>
    obtain ⟨i, rfl, hi, hall, hB1⟩ := hrel
    by_cases hlt : i < l.length
    · obtain ⟨ad, A3, c3, A5, c5, rfl, e0, e1, e2, e3, e4, e5, l3, g3, l5, g5⟩ := at_T62 (Kd.C_below HR.out hB1) (i : Int) (by omega) (by omega)
      rw [show ((i : Int)).toNat = i from rfl] at e0 e1 e2 e3 e4 e5
      have hrec : recStep l i = (recOk (rd_T62 l (i : Int)) && (decide (i = 0) || decide ((rd_T62 l ((i : Int) - 1)).f0 < (rd_T62 l (i : Int)).f0))) := rfl
      generalize rd_T62 l (i : Int) = ri at *
      have ci : CellsR wr (ad.add (i * 6)) ri A3 c3 A5 c5 := ⟨e0, e1, e2, e3, e4, e5⟩
      clear e0 e1 e2 e3 e4 e5
      go_wp2
      obtain ⟨kR, hkR⟩ := (sRecordValid_ev ri ⟨g3.2.1, g5.2.1⟩).rounds
      have hrc : ∀ (W2 : World), Below wr.heap.size wr W2 → Calls Tryd.prog 56 #[.agg #[.int .i64 ri.f0, .int .i64 ri.f1, .bool ri.f2, .slice A3 ri.f3.length c3, .bool ri.f4, .slice A5 ri.f5.length c5]] W2 fun e w' => e = .returned (.bool (recOk ri)) ∧ Below W2.heap.size W2 w' := fun (W2 : World) (hb : Below wr.heap.size wr W2) => spec_RecordValid.calls kR ri.f0 ri.f1 ri.f2 A3 c3 ri.f3 ri.f4 A5 c5 ri.f5 _ W2 (Kd.C_below g3 hb) l3 (Kd.C_below g5 hb) l5 hkR
      have HRC := Aside0.mk hrc
      clear hrc
      have kS : ∀ w' : World, Below wr.drew.heap.size wr.drew w' → CellsR w' (ad.add (i * 6)) ri A3 c3 A5 c5 ∧ Below wr.heap.size wr w' := fun w' h => ⟨ci.below (below_step (below_drew (Below.refl _ wr)) h), below_step (below_drew (Below.refl _ wr)) h⟩
      have hil : (i : Int) < (l.length : Int) := by omega
      rcases hok : recOk ri with _ | _ <;> rw [hok] at hkR HRC
      · have hno := Aside0.mk (incs_no hlt (hrec.trans (by rw [hok]; rfl)))
        refine r_begin (fun w' => CellsR w' (ad.add (i * 6)) ri A3 c3 A5 c5 ∧ Below wr.heap.size wr w') 24 (by kernel_rfl) rfl (kS _ (Below.refl _ _)) (fun hH => ?_)
        repeat (first | (refine r_skip (by kernel_rfl) (by rfl) (fun _ _ _ h => h) hH ?_; simp only [Act.put, List.setIfInBounds_toArray, List.set_cons_zero, List.set_cons_succ, Nat.reduceAdd]) | (refine r_go (v := ?_) (by kernel_rfl) (by rfl) (fun _ _ _ h => h) hH ?_ ?_; rotate_left; (focus (intro w hS; obtain ⟨⟨e0, e1, e2, e3, e4, e5⟩, e6⟩ := hS; go_simp; first | done | with_reducible rfl)); simp only [Act.put, List.setIfInBounds_toArray, List.set_cons_zero, List.set_cons_succ, Nat.reduceAdd]) | (fail "x"))
        refine r_one (by kernel_rfl) (by rfl) (fun K hK => ?_)
        go_simp
        go_at_call 56
        refine (HRC.out _ hH.2).mono ?_
        rintro e w2 ⟨rfl, hb⟩
        go_wp2_with fail
        refine hK.out _ _ (kS _ hb) (fun hH => ?_)
        clear hK K
        simp only [Act.put, List.setIfInBounds_toArray, List.set_cons_zero, List.set_cons_succ, Nat.reduceAdd]
        repeat (first | (refine r_skip (by kernel_rfl) (by rfl) (fun _ _ _ h => h) hH ?_; simp only [Act.put, List.setIfInBounds_toArray, List.set_cons_zero, List.set_cons_succ, Nat.reduceAdd]) | (refine r_go (v := ?_) (by kernel_rfl) (by rfl) (fun _ _ _ h => h) hH ?_ ?_; rotate_left; (focus (intro w hS; obtain ⟨⟨e0, e1, e2, e3, e4, e5⟩, e6⟩ := hS; go_simp; first | done | with_reducible rfl)); simp only [Act.put, List.setIfInBounds_toArray, List.set_cons_zero, List.set_cons_succ, Nat.reduceAdd]) | (fail "x"))
        refine r_done (by kernel_rfl) ?_
        go_wp2
        go_ret
        exact ⟨by rw [hno.out]; rfl, below_step hB1 hH.2⟩
      · rcases i with _ | j
        · have ez : ad.add (0 * 6) = ad := by go_simp
          rw [ez] at ci
          simp only [ez] at kS
          refine r_begin (fun w' => CellsR w' ad ri A3 c3 A5 c5 ∧ Below wr.heap.size wr w') 24 (by kernel_rfl) rfl (kS _ (Below.refl _ _)) (fun hH => ?_)
          repeat (first | (refine r_skip (by kernel_rfl) (by rfl) (fun _ _ _ h => h) hH ?_; simp only [Act.put, List.setIfInBounds_toArray, List.set_cons_zero, List.set_cons_succ, Nat.reduceAdd]) | (refine r_go (v := ?_) (by kernel_rfl) (by rfl) (fun _ _ _ h => h) hH ?_ ?_; rotate_left; (focus (intro w hS; obtain ⟨⟨e0, e1, e2, e3, e4, e5⟩, e6⟩ := hS; go_simp; first | done | with_reducible rfl)); simp only [Act.put, List.setIfInBounds_toArray, List.set_cons_zero, List.set_cons_succ, Nat.reduceAdd]) | (fail "x"))
          refine r_one (by kernel_rfl) (by rfl) (fun K hK => ?_)
          go_simp
          go_at_call 56
          refine (HRC.out _ hH.2).mono ?_
          rintro e w2 ⟨rfl, hb⟩
          go_wp2_with fail
          refine hK.out _ _ (kS _ hb) (fun hH => ?_)
          clear hK K
          simp only [Act.put, List.setIfInBounds_toArray, List.set_cons_zero, List.set_cons_succ, Nat.reduceAdd]
          repeat (first | (refine r_skip (by kernel_rfl) (by rfl) (fun _ _ _ h => h) hH ?_; simp only [Act.put, List.setIfInBounds_toArray, List.set_cons_zero, List.set_cons_succ, Nat.reduceAdd]) | (refine r_go (v := ?_) (by kernel_rfl) (by rfl) (fun _ _ _ h => h) hH ?_ ?_; rotate_left; (focus (intro w hS; obtain ⟨⟨e0, e1, e2, e3, e4, e5⟩, e6⟩ := hS; go_simp; first | done | with_reducible rfl)); simp only [Act.put, List.setIfInBounds_toArray, List.set_cons_zero, List.set_cons_succ, Nat.reduceAdd]) | (fail "x"))
          refine r_done (by kernel_rfl) ?_
          go_wp2
          go_roundw
          case rel =>
            have hst : ∀ j, j < 0 + 1 → recStep l j = true := by
              intro j hj
              obtain rfl : j = 0 := by omega
              exact hrec.trans (by rw [hok]; rfl)
            first | exact ⟨0 + 1, by simp, hlt, hst, below_step hB1 hH.2⟩ | ((repeat apply Exists.intro); refine ⟨⟨0 + 1, ?_, hlt, hst, below_step hB1 hH.2⟩, by first | rfl | (repeat' apply And.intro) <;> rfl⟩; simp)
          case measure => simp [intOf]; omega
        · obtain ⟨ad2, _, _, _, _, hq, f0, _⟩ := at_T62 (Kd.C_below HR.out hB1) (j : Int) (by omega) (by omega)
          cases hq
          rw [show ((j : Int)).toNat = j from rfl] at f0
          have hrec2 : recStep l (j + 1) = (recOk ri && (decide (j + 1 = 0) || decide ((rd_T62 l (j : Int)).f0 < ri.f0))) := by
            rw [hrec, show ((j + 1 : Nat) : Int) - 1 = (j : Int) by omega]
          generalize (rd_T62 l (j : Int)).f0 = pj at f0 hrec2
          have hwj : IntKind.i64.wrap (j : Int) = (j : Int) := by rw [i64_w]; unfold wrap64; omega
          have hjl : (j : Int) < (l.length : Int) := by omega
          have hjl1 : (j : Int) + 1 < (l.length : Int) := by omega
          have hj0 : (0 : Int) ≤ (j : Int) + 1 := by omega
          have htn : ((j : Int) + 1).toNat = j + 1 := by omega
          have kS2 : ∀ w' : World, Below wr.drew.heap.size wr.drew w' → (CellsR w' (ad.add ((j + 1) * 6)) ri A3 c3 A5 c5 ∧ Below wr.heap.size wr w') ∧ w'.cell? (ad.add (j * 6)) = some (.int .i64 pj) := fun w' h => ⟨kS w' h, pw_cell_below (below_step (below_drew (Below.refl _ wr)) h) f0⟩
          have hno := Aside0.mk hrec2
          clear hrec hrec2
          refine r_begin (fun w' => (CellsR w' (ad.add ((j + 1) * 6)) ri A3 c3 A5 c5 ∧ Below wr.heap.size wr w') ∧ w'.cell? (ad.add (j * 6)) = some (.int .i64 pj)) 24 (by kernel_rfl) rfl (kS2 _ (Below.refl _ _)) (fun hH => ?_)
          repeat (first | (refine r_skip (by kernel_rfl) (by rfl) (fun _ _ _ h => h) hH ?_; simp only [Act.put, List.setIfInBounds_toArray, List.set_cons_zero, List.set_cons_succ, Nat.reduceAdd]) | (refine r_go (v := ?_) (by kernel_rfl) (by rfl) (fun _ _ _ h => h) hH ?_ ?_; rotate_left; (focus (intro w hS; obtain ⟨⟨⟨e0, e1, e2, e3, e4, e5⟩, e6⟩, e7⟩ := hS; go_simp; first | done | with_reducible rfl)); simp only [Act.put, List.setIfInBounds_toArray, List.set_cons_zero, List.set_cons_succ, Nat.reduceAdd]) | (fail "x"))
          refine r_one (by kernel_rfl) (by rfl) (fun K hK => ?_)
          go_simp
          go_at_call 56
          refine (HRC.out _ hH.1.2).mono ?_
          rintro e w2 ⟨rfl, hb⟩
          go_wp2_with fail
          refine hK.out _ _ (kS2 _ hb) (fun hH => ?_)
          clear hK K
          simp only [Act.put, List.setIfInBounds_toArray, List.set_cons_zero, List.set_cons_succ, Nat.reduceAdd]
          repeat (first | (refine r_skip (by kernel_rfl) (by rfl) (fun _ _ _ h => h) hH ?_; simp only [Act.put, List.setIfInBounds_toArray, List.set_cons_zero, List.set_cons_succ, Nat.reduceAdd]) | (refine r_go (v := ?_) (by kernel_rfl) (by rfl) (fun _ _ _ h => h) hH ?_ ?_; rotate_left; (focus (intro w hS; obtain ⟨⟨⟨e0, e1, e2, e3, e4, e5⟩, e6⟩, e7⟩ := hS; go_simp; first | done | with_reducible rfl)); simp only [Act.put, List.setIfInBounds_toArray, List.set_cons_zero, List.set_cons_succ, Nat.reduceAdd]) | (fail "x"))
          refine r_done (by kernel_rfl) ?_
          have hBw := below_step hB1 hH.1.2
          by_cases hlt2 : pj < ri.f0
          · have hst : ∀ j', j' < j + 1 + 1 → recStep l j' = true := by
              intro j' hj
              by_cases h' : j' < j + 1
              · exact hall j' h'
              · obtain rfl : j' = j + 1 := by omega
                rw [hno.out, hok, decide_eq_true hlt2, Bool.or_true]; rfl
            have hng : ¬ ri.f0 ≤ pj := by omega
            go_wp2
            go_roundw
            case rel => first | exact ⟨j + 1 + 1, by simp, hlt, hst, hBw⟩ | ((repeat apply Exists.intro); refine ⟨⟨j + 1 + 1, ?_, hlt, hst, hBw⟩, by first | rfl | (repeat' apply And.intro) <;> rfl⟩; simp)
            case measure => simp [intOf]; omega
          · have hn2 := Aside0.mk (incs_no hlt (hno.out.trans (by rw [hok, decide_eq_false hlt2, decide_eq_false (show ¬ j + 1 = 0 by omega)]; rfl)))
            have hng : ri.f0 ≤ pj := by omega
            go_wp2
            go_ret
            exact ⟨by rw [hn2.out]; rfl, hBw⟩
    · obtain rfl : i = l.length := by omega
      go_wp2_with (go_at_call 44; refine (in_q _ _ _ _).mono ?_; rintro e w' ⟨rfl, ⟨n, rfl⟩⟩)
      go_ret
      exact ⟨by rw [incs_of hall]; rfl, pw_below_drewN hB1 _⟩
def batTail (b : S28) : Bool := if b.f2 = 255 then decide (b.f3 = 0) && (decide (b.f4 = 0) && !b.f1) else (!b.f1 || decide ((b.f5.length : Int) = 1))
theorem batOk_spec (b : S28) : batOk b = ((recsInc b.f5 && lenOk b.f5) && ((decide (0 ≤ b.f2) && decide (b.f2 ≤ 255)) && ((decide (0 ≤ b.f3) && decide (b.f3 ≤ 99)) && ((decide (0 ≤ b.f4) && decide (b.f4 ≤ 9999)) && batTail b)))) := by
  unfold batOk headOk batTail
  by_cases h : b.f2 = 255
  · rw [if_pos h, if_pos h, h]
    cases recsInc b.f5
    · simp
    · rw [Bool.eq_iff_iff]
      simp only [lenOk, Bool.and_eq_true, Bool.or_eq_true, decide_eq_true_eq, Bool.not_eq_true']
      constructor
      · rintro ⟨⟨h3, h4, h1⟩, hl, hm, _⟩
        exact ⟨⟨trivial, hl⟩, ⟨by omega, by omega⟩, ⟨by omega, by omega⟩, ⟨by omega, by omega⟩, h3, h4, h1⟩
      · rintro ⟨⟨_, hl⟩, _, _, _, h3, h4, h1⟩
        exact ⟨⟨h3, h4, h1⟩, hl, .inl h1, trivial⟩
  · rw [if_neg h, if_neg h]
    rw [Bool.eq_iff_iff]
    simp only [Bool.and_eq_true, decide_eq_true_eq]
    constructor
    · rintro ⟨⟨h2, h3, h4⟩, hl, hm, hr⟩
      exact ⟨⟨hr, hl⟩, ⟨by omega, by omega⟩, h3, h4, hm⟩
    · rintro ⟨⟨hr, hl⟩, h2, h3, h4, hm⟩
      exact ⟨⟨⟨by omega, by omega⟩, h3, h4⟩, hl, hm, hr⟩
theorem sb_no {b2 b3 b4 : Int} {x : Bool} (h : ¬(0 ≤ b2 ∧ b2 ≤ 255) ∨ ¬(0 ≤ b3 ∧ b3 ≤ 99) ∨ ((!decide (0 ≤ b4)) = true ∨ (!decide (b4 ≤ 9999)) = true)) : Ending.returned (.bool false) = .returned (.bool (true && ((decide (0 ≤ b2) && decide (b2 ≤ 255)) && ((decide (0 ≤ b3) && decide (b3 ≤ 99)) && ((decide (0 ≤ b4) && decide (b4 ≤ 9999)) && x))))) := by
  congr 2
  grind
theorem sb_t {b2 b3 b4 : Int} {x y : Bool} (h2 : 0 ≤ b2 ∧ b2 ≤ 255) (h3 : 0 ≤ b3 ∧ b3 ≤ 99) (h4 : (!decide (0 ≤ b4)) = false ∧ (!decide (b4 ≤ 9999)) = false) (hx : x = y) : Ending.returned (.bool y) = .returned (.bool (true && ((decide (0 ≤ b2) && decide (b2 ≤ 255)) && ((decide (0 ≤ b3) && decide (b3 ≤ 99)) && ((decide (0 ≤ b4) && decide (b4 ≤ 9999)) && x))))) := by
  subst hx
  congr 2
  grind
section
variable {b0 b1 : Bool} {b2 b3 b4 : Int} {l : List S62}
theorem tl1 (h : (b2 == 255) = true) (h3 : b3 = 0) (h4 : b4 = 0) : batTail ⟨b0, b1, b2, b3, b4, l⟩ = !b1 := by unfold batTail; grind
theorem tl2 (h : (b2 == 255) = true) (h3 : b3 = 0) (h4 : ¬ b4 = 0) : batTail ⟨b0, b1, b2, b3, b4, l⟩ = false := by unfold batTail; grind
theorem tl3 (h : (b2 == 255) = true) (h3 : ¬ b3 = 0) : batTail ⟨b0, b1, b2, b3, b4, l⟩ = false := by unfold batTail; grind
theorem tl4 (h : (b2 == 255) = false) (h1 : b1 = true) : batTail ⟨b0, b1, b2, b3, b4, l⟩ = ((l.length : Int) == 1) := by unfold batTail; grind
theorem tl5 (h : (b2 == 255) = false) (h1 : ¬ b1 = true) : batTail ⟨b0, b1, b2, b3, b4, l⟩ = true := by unfold batTail; grind
end
set_option maxRecDepth 100000 in
set_option maxHeartbeats 4000000 in
theorem specbat_q (b : S28) (A : Option Addr) (c : Nat) (w : World) (hr : Kd.C k62 w A b.f5.length b.f5) (hc : b.f5.length ≤ c) :
    Calls Tryd.prog 26 #[.agg #[.bool b.f0, .bool b.f1, .int .i64 b.f2, .int .i64 b.f3, .int .i64 b.f4, .slice A b.f5.length c]] w fun e w' => e = .returned (.bool (batOk b)) ∧ Below w.heap.size w w' := by
  rw [batOk_spec]
  obtain ⟨b0, b1, b2, b3, b4, l⟩ := b
  simp only at hr hc ⊢
  have hl := hr.2.1
  have HL := Aside0.mk (fun (W2 : World) (hb : Below w.heap.size w W2) => specrecs_q l A c W2 (Kd.C_below hr hb) hc)
  clear hr
  rcases hok : (recsInc l && lenOk l) with _ | _ <;> rw [hok] at HL
  · go_enter Tryd.func26, Tryd.ntmps26
    go_wp2_with (go_at_call 43; refine (HL.out _ (below_alloc (Below.refl _ _) _)).mono ?_; rintro e w1 ⟨rfl, hb⟩)
    go_ret
    exact ⟨rfl, below_step (below_alloc (Below.refl _ _) _) hb⟩
  · go_enter Tryd.func26, Tryd.ntmps26
    go_wp2_with (first | (go_at_call 44; refine (in_q _ _ _ _).mono ?_; rintro e w' ⟨rfl, ⟨n, rfl⟩⟩) | (go_at_call 43; refine (HL.out _ (below_alloc (Below.refl _ _) _)).mono ?_; rintro e w1 ⟨rfl, hb⟩; have hB := below_step (below_alloc (Below.refl _ _) _) hb; have hw := blk_below (heap_alloc_new w _) hb; have q1 := blk_cell hw 1; have q2 := blk_cell hw 2; have q3 := blk_cell hw 3; have q4 := blk_cell hw 4; have q5 := blk_cell hw 5; clear hb hw))
    all_goals (go_ret; exact ⟨by first | exact sb_no (.inl ‹_›) | exact sb_no (.inr (.inl ‹_›)) | exact sb_no (.inr (.inr ‹_›)) | exact sb_t ‹_› ‹_› ‹_› (tl1 ‹_› ‹_› ‹_›) | exact sb_t ‹_› ‹_› ‹_› (tl2 ‹_› ‹_› ‹_›) | exact sb_t ‹_› ‹_› ‹_› (tl3 ‹_› ‹_›) | exact sb_t ‹_› ‹_› ‹_› (tl4 ‹_› ‹_›) | exact sb_t ‹_› ‹_› ‹_› (tl5 ‹_› ‹_›), pw_below_drewN hB _⟩)
def spec_BatchValid.f (k : Nat) (a0 : Bool) (a1 : Bool) (a2 a3 a4 : Int) (a5 : List S62) : Option Bool := some (batOk ⟨a0, a1, a2, a3, a4, a5⟩)
theorem spec_BatchValid.calls (k : Nat) (a0_0 : Bool) (a0_1 : Bool) (a0_2 : Int) (a0_3 : Int) (a0_4 : Int) (A0_5 : Option Addr) (c0_5 : Nat) (l0_5 : List (S62)) (r : Bool) (w : World) (hr0_5 : Kd.C k62 w A0_5 l0_5.length l0_5) (hc0_5 : l0_5.length ≤ c0_5) (h : spec_BatchValid.f k a0_0 a0_1 a0_2 a0_3 a0_4 l0_5 = some r) :
    Calls Tryd.prog 26 #[.agg #[.bool a0_0, .bool a0_1, .int .i64 a0_2, .int .i64 a0_3, .int .i64 a0_4, .slice A0_5 l0_5.length c0_5]] w fun e w' => e = .returned (.bool r) ∧ Below w.heap.size w w' := by
  obtain rfl := Option.some.inj h
  exact specbat_q ⟨a0_0, a0_1, a0_2, a0_3, a0_4, l0_5⟩ A0_5 c0_5 w hr0_5 hc0_5
end Go.Proofs.YtfjkpdhldeopaaaDoor.G

namespace Go.Proofs.YtfjkpdhldeopaaaDoor.G
open Go.RowKit Go.Proofs.YtfjkpdhldeopaaaDoorW.PrintWords Go.Proofs.YtfjkpdhldeopaaaDoorW.PrintLast Go.Proofs.YtfjkpdhldeopaaaDoorW.PrintMore
attribute [local go_sem] max2_int min2_int max_two min_two max_three min_three max_four min_four   -- for this text's walks alone
set_option linter.unusedVariables false
set_option linter.unusedSimpArgs false

def spec_l12Last.f (a0_0 : Bool) (a0_1 : Bool) (a0_2 : Int) (a0_3 : Int) (a0_4 : Int) (l0_5 : List (S62)) : Option (Int) := if 0 ≤ (wrap64 ((l0_5.length : Int) - 1)) then (if (wrap64 ((l0_5.length : Int) - 1)) < (l0_5.length : Int) then (some ((rd_T62 l0_5 (wrap64 ((l0_5.length : Int) - 1))).f0)) else (none)) else (none)
set_option maxHeartbeats 8000000 in
set_option maxRecDepth 100000 in
theorem spec_l12Last.calls (a0_0 : Bool) (a0_1 : Bool) (a0_2 : Int) (a0_3 : Int) (a0_4 : Int) (A0_5 : Option Addr) (c0_5 : Nat) (l0_5 : List (S62)) (r : Int) (w : World) (hr0_5 : Kd.C k62 w A0_5 l0_5.length l0_5) (hc0_5 : l0_5.length ≤ c0_5) (h : spec_l12Last.f a0_0 a0_1 a0_2 a0_3 a0_4 l0_5 = some r) :
  Calls Tryd.prog 36 #[.agg #[.bool a0_0, .bool a0_1, .int .i64 a0_2, .int .i64 a0_3, .int .i64 a0_4, .slice A0_5 l0_5.length c0_5]] w fun e w' => e = .returned (.int .i64 r) ∧ Below w.heap.size w w' := by
 have hu28 := Tryd.underlying28
 have HR0_5 := Aside0.mk hr0_5
 have HC0_5 := Aside0.mk hc0_5
 clear hr0_5 hc0_5
 have HB := Aside0.mk (Below.refl w.heap.size w)
 have H : (if 0 ≤ (wrap64 ((l0_5.length : Int) - 1)) then (if (wrap64 ((l0_5.length : Int) - 1)) < (l0_5.length : Int) then (some ((rd_T62 l0_5 (wrap64 ((l0_5.length : Int) - 1))).f0)) else (none)) else (none)) = some r := h
 clear h
 obtain ⟨ji2, hji2⟩ : ∃ j_ : Int, (wrap64 ((l0_5.length : Int) - 1)) = j_ := ⟨_, rfl⟩
 replace H : (if 0 ≤ (ji2) then (if (ji2) < (l0_5.length : Int) then (some ((rd_T62 l0_5 (ji2)).f0)) else (none)) else (none)) = some r := by first | (rw [hji2] at H; exact H) | (simp only [hji2] at H ⊢; exact H)
 have hji2w : (IntKind.i64.wrap ((l0_5.length : Int) - 1)) = ji2 := (i64_w _).trans hji2
 by_cases c3 : 0 ≤ (ji2)
 ·rw [if_pos c3] at H
  have c3b0 : decide (0 ≤ (ji2)) = true := decide_eq_true c3
  clear c3
  by_cases c4 : (ji2) < (l0_5.length : Int)
  ·rw [if_pos c4] at H
   have c4b0 : decide ((ji2) < (l0_5.length : Int)) = true := decide_eq_true c4
   clear c4
   obtain rfl := Option.some.inj H
   go_enter Tryd.func36, Tryd.ntmps36
   go_wp2_with (first | ((with_reducible refine gate_dst (N := 1) rfl ?_); refine box_event ?hg (N := 1) ?hd (cs := #[.bool a0_0, .bool a0_1, .int .i64 a0_2, .int .i64 a0_3, .int .i64 a0_4, .slice A0_5 l0_5.length c0_5]) (t := 28) ?hr ?_; (case hd => rfl); (case hg => rfl); (case hr => first | (go_simp; done) | (go_simp; rfl)); intro gb398 hg w5 hbox hb; have BK398 := Aside0.mk (hbox); have GW398 := tge HB hg; have GE398 := tge HB hg; replace HB := tBs HB hb; clear hb hbox hg; obtain ⟨hcz6_0, hcz6_1, hcz6_2, hcz6_3, hcz6_4, hcz6_5, hfz6_0, hfz6_1, hfz6_2, hfz6_3, hfz6_4, hfz6_5⟩ := cells6 BK398.out; have p399 : 0 ≤ ((ji2) : Int) := td; have q399 : (ji2) < (l0_5.length : Int) := td; obtain ⟨ad399, A399_3, c399_3, A399_5, c399_5, e399, hx399_0, hx399_1, hx399_2, hx399_3, hx399_4, hx399_5, hl399_3, hi399_3, hl399_5, hi399_5⟩ := at_T62 HR0_5.out (ji2) p399 q399; cases e399; replace hx399_0 := tcl HB hx399_0; replace hx399_1 := tcl HB hx399_1; replace hx399_2 := tcl HB hx399_2; replace hx399_3 := tcl HB hx399_3; replace hx399_4 := tcl HB hx399_4; replace hx399_5 := tcl HB hx399_5; have HR399_3 := Aside0.mk hi399_3; have HC399_3 := Aside0.mk hl399_3; clear hi399_3 hl399_3; have HR399_5 := Aside0.mk hi399_5; have HC399_5 := Aside0.mk hl399_5; clear hi399_5 hl399_5; replace p399 := eq_true p399; replace q399 := eq_true q399))
   go_ret
   exact ⟨by first | rfl | (simp [errW_none, errW_some] <;> rfl) | (simp only [← hji2]; first | rfl | (simp [errW_none, errW_some] <;> rfl)) | (simp [*, errW_none, errW_some] <;> rfl), zb⟩
  ·rw [if_neg c4] at H
   exact absurd H (by simp)
 ·rw [if_neg c3] at H
  exact absurd H (by simp)

end Go.Proofs.YtfjkpdhldeopaaaDoor.G

namespace Go.Proofs.YtfjkpdhldeopaaaDoor.G
open Go.RowKit Go.Proofs.YtfjkpdhldeopaaaDoorW.PrintWords Go.Proofs.YtfjkpdhldeopaaaDoorW.PrintLast Go.Proofs.YtfjkpdhldeopaaaDoorW.PrintMore Go.Proofs.YtfjkpdhldeopaaaDoor.Pu
set_option linter.unusedVariables false
set_option linter.unusedSimpArgs false
theorem slast_q (b : S28) (A : Option Addr) (c : Nat) (w : World) (hr : Kd.C k62 w A b.f5.length b.f5) (hc : b.f5.length ≤ c) (hn : 1 ≤ b.f5.length ∧ b.f5.length ≤ 6) : Calls Tryd.prog 36 #[.agg #[.bool b.f0, .bool b.f1, .int .i64 b.f2, .int .i64 b.f3, .int .i64 b.f4, .slice A b.f5.length c]] w fun e w' => e = .returned (.int .i64 (lastOf b)) ∧ Below w.heap.size w w' :=
  spec_l12Last.calls _ _ _ _ _ A c b.f5 _ w hr hc (by
    unfold spec_l12Last.f lastOf
    simp only [w64 (a := (b.f5.length : Int) - 1) (by omega) (by omega), if_pos (show (0 : Int) ≤ (b.f5.length : Int) - 1 by omega), if_pos (show (b.f5.length : Int) - 1 < (b.f5.length : Int) by omega), if_pos (show (0 : Int) < (b.f5.length : Int) by omega)])
set_option maxRecDepth 100000 in
set_option maxHeartbeats 4000000 in
theorem speclog_q (l : List S28) (A : Option Addr) (c : Nat) (w : World) (hr : Kd.C k28 w A l.length l) (hc : l.length ≤ c) :
    Calls Tryd.prog 35 #[.slice A l.length c] w fun e w' => e = .returned (.bool (logOk l)) ∧ Below w.heap.size w w' := by
  have hl := hr.2.1
  unfold logOk
  have HR := Aside0.mk hr
  clear hr
  go_enter Tryd.func35, Tryd.ntmps35
  go_wp2
  go_loopw [3] (fun v3 wr => ∃ i : Nat, v3 = .int .i64 i ∧ i ≤ l.length ∧ (∀ j, j < i → batStep l j = true) ∧ Below w.heap.size w wr) (fun v3 _ => l.length - (intOf v3).toNat)
  case atStart => exact ⟨0, rfl, Nat.zero_le _, fun j hj => absurd hj (Nat.not_lt_zero j), Below.refl _ _⟩
  case round =>
    obtain ⟨i, rfl, hi, hall, hB1⟩ := hrel
    by_cases hlt : i < l.length
    · obtain ⟨ad, A5, c5, rfl, e0, e1, e2, e3, e4, e5, l5, g5⟩ := at_T28 (Kd.C_below HR.out hB1) (i : Int) (by omega) (by omega)
      rw [show ((i : Int)).toNat = i from rfl] at e0 e1 e2 e3 e4 e5
      have hrec : batStep l i = (batOk (rd_T28 l (i : Int)) && (decide (i = 0) || decide (lastOf (rd_T28 l ((i : Int) - 1)) < firstOf (rd_T28 l (i : Int))))) := rfl
      generalize rd_T28 l (i : Int) = bi at *
      have ci : CellsB wr (ad.add (i * 6)) bi A5 c5 := ⟨e0, e1, e2, e3, e4, e5⟩
      clear e0 e1 e2 e3 e4 e5
      go_wp2
      have HRC := Aside0.mk (fun (W2 : World) (hb : Below wr.heap.size wr W2) => specbat_q bi A5 c5 W2 (Kd.C_below g5 hb) l5)
      have kS : ∀ w' : World, Below wr.drew.heap.size wr.drew w' → CellsB w' (ad.add (i * 6)) bi A5 c5 ∧ Below wr.heap.size wr w' := fun w' h => ⟨ci.below (below_step (below_drew (Below.refl _ wr)) h), below_step (below_drew (Below.refl _ wr)) h⟩
      have hil : (i : Int) < (l.length : Int) := by omega
      rcases hok : batOk bi with _ | _ <;> rw [hok] at HRC
      · have hno := Aside0.mk (logs_no hlt (hrec.trans (by rw [hok]; rfl)))
        refine r_begin (fun w' => CellsB w' (ad.add (i * 6)) bi A5 c5 ∧ Below wr.heap.size wr w') 27 (by kernel_rfl) rfl (kS _ (Below.refl _ _)) (fun hH => ?_)
        repeat (first | (refine r_skip (by kernel_rfl) (by rfl) (fun _ _ _ h => h) hH ?_; simp only [Act.put, List.setIfInBounds_toArray, List.set_cons_zero, List.set_cons_succ, Nat.reduceAdd]) | (refine r_go (v := ?_) (by kernel_rfl) (by rfl) (fun _ _ _ h => h) hH ?_ ?_; rotate_left; (focus (intro w hS; obtain ⟨⟨e0, e1, e2, e3, e4, e5⟩, e6⟩ := hS; go_simp; first | done | with_reducible rfl)); simp only [Act.put, List.setIfInBounds_toArray, List.set_cons_zero, List.set_cons_succ, Nat.reduceAdd]) | (fail "x"))
        refine r_one (by kernel_rfl) (by rfl) (fun K hK => ?_)
        go_simp
        go_at_call 26
        refine (HRC.out _ hH.2).mono ?_
        rintro e w2 ⟨rfl, hb⟩
        go_wp2_with fail
        refine hK.out _ _ (kS _ hb) (fun hH => ?_)
        clear hK K
        simp only [Act.put, List.setIfInBounds_toArray, List.set_cons_zero, List.set_cons_succ, Nat.reduceAdd]
        repeat (first | (refine r_skip (by kernel_rfl) (by rfl) (fun _ _ _ h => h) hH ?_; simp only [Act.put, List.setIfInBounds_toArray, List.set_cons_zero, List.set_cons_succ, Nat.reduceAdd]) | (refine r_go (v := ?_) (by kernel_rfl) (by rfl) (fun _ _ _ h => h) hH ?_ ?_; rotate_left; (focus (intro w hS; obtain ⟨⟨e0, e1, e2, e3, e4, e5⟩, e6⟩ := hS; go_simp; first | done | with_reducible rfl)); simp only [Act.put, List.setIfInBounds_toArray, List.set_cons_zero, List.set_cons_succ, Nat.reduceAdd]) | (fail "x"))
        refine r_done (by kernel_rfl) ?_
        go_wp2
        go_ret
        exact ⟨by rw [hno.out]; rfl, below_step hB1 hH.2⟩
      · rcases i with _ | j
        · have ez : ad.add (0 * 6) = ad := by go_simp
          rw [ez] at ci
          simp only [ez] at kS
          refine r_begin (fun w' => CellsB w' ad bi A5 c5 ∧ Below wr.heap.size wr w') 27 (by kernel_rfl) rfl (kS _ (Below.refl _ _)) (fun hH => ?_)
          repeat (first | (refine r_skip (by kernel_rfl) (by rfl) (fun _ _ _ h => h) hH ?_; simp only [Act.put, List.setIfInBounds_toArray, List.set_cons_zero, List.set_cons_succ, Nat.reduceAdd]) | (refine r_go (v := ?_) (by kernel_rfl) (by rfl) (fun _ _ _ h => h) hH ?_ ?_; rotate_left; (focus (intro w hS; obtain ⟨⟨e0, e1, e2, e3, e4, e5⟩, e6⟩ := hS; go_simp; first | done | with_reducible rfl)); simp only [Act.put, List.setIfInBounds_toArray, List.set_cons_zero, List.set_cons_succ, Nat.reduceAdd]) | (fail "x"))
          refine r_one (by kernel_rfl) (by rfl) (fun K hK => ?_)
          go_simp
          go_at_call 26
          refine (HRC.out _ hH.2).mono ?_
          rintro e w2 ⟨rfl, hb⟩
          go_wp2_with fail
          refine hK.out _ _ (kS _ hb) (fun hH => ?_)
          clear hK K
          simp only [Act.put, List.setIfInBounds_toArray, List.set_cons_zero, List.set_cons_succ, Nat.reduceAdd]
          repeat (first | (refine r_skip (by kernel_rfl) (by rfl) (fun _ _ _ h => h) hH ?_; simp only [Act.put, List.setIfInBounds_toArray, List.set_cons_zero, List.set_cons_succ, Nat.reduceAdd]) | (refine r_go (v := ?_) (by kernel_rfl) (by rfl) (fun _ _ _ h => h) hH ?_ ?_; rotate_left; (focus (intro w hS; obtain ⟨⟨e0, e1, e2, e3, e4, e5⟩, e6⟩ := hS; go_simp; first | done | with_reducible rfl)); simp only [Act.put, List.setIfInBounds_toArray, List.set_cons_zero, List.set_cons_succ, Nat.reduceAdd]) | (fail "x"))
          refine r_done (by kernel_rfl) ?_
          go_wp2
          go_roundw
          case rel =>
            have hst : ∀ j, j < 0 + 1 → batStep l j = true := by
              intro j hj
              obtain rfl : j = 0 := by omega
              exact hrec.trans (by rw [hok]; rfl)
            first | exact ⟨0 + 1, by simp, hlt, hst, below_step hB1 hH.2⟩ | ((repeat apply Exists.intro); refine ⟨⟨0 + 1, ?_, hlt, hst, below_step hB1 hH.2⟩, by first | rfl | (repeat' apply And.intro) <;> rfl⟩; simp)
          case measure => simp [intOf]; omega
        · obtain ⟨ad2, A4, c4, hq, f0, f1, f2, f3, f4, f5, l4, g4⟩ := at_T28 (Kd.C_below HR.out hB1) (j : Int) (by omega) (by omega)
          cases hq
          rw [show ((j : Int)).toNat = j from rfl] at f0 f1 f2 f3 f4 f5
          have hjs := hall j (by omega)
          have hrec2 : batStep l (j + 1) = (batOk bi && (decide (j + 1 = 0) || decide (lastOf (rd_T28 l (j : Int)) < firstOf bi))) := by
            rw [hrec, show ((j + 1 : Nat) : Int) - 1 = (j : Int) by omega]
          unfold batStep at hjs
          have hbj := (Bool.and_eq_true_iff.1 hjs).1
          clear hjs
          generalize rd_T28 l (j : Int) = bj at *
          have hnj := batOk_len hbj
          have hni := batOk_len hok
          have cj : CellsB wr (ad.add (j * 6)) bj A4 c4 := ⟨f0, f1, f2, f3, f4, f5⟩
          obtain ⟨ad5, _, _, _, _, rfl, k0, _⟩ := at_T62 g5 0 (by omega) (by omega)
          change wr.cell? (ad5.add (0 * 6)) = some (.int .i64 (firstOf bi)) at k0
          have ez : ad5.add (0 * 6) = ad5 := by go_simp
          rw [ez] at k0
          have hwj : IntKind.i64.wrap (j : Int) = (j : Int) := by rw [i64_w]; unfold wrap64; omega
          have hjl : (j : Int) < (l.length : Int) := by omega
          have hjl1 : (j : Int) + 1 < (l.length : Int) := by omega
          have hj0 : (0 : Int) ≤ (j : Int) + 1 := by omega
          have htn : ((j : Int) + 1).toNat = j + 1 := by omega
          have hn0 : 0 < bi.f5.length := by omega
          have HL := Aside0.mk (fun (W2 : World) (hb : Below wr.heap.size wr W2) => slast_q bj A4 c4 W2 (Kd.C_below g4 hb) l4 hnj)
          have kS2 : ∀ w' : World, Below wr.heap.size wr w' → CellsB w' (ad.add ((j + 1) * 6)) bi (some ad5) c5 ∧ CellsB w' (ad.add (j * 6)) bj A4 c4 ∧ w'.cell? ad5 = some (.int .i64 (firstOf bi)) ∧ Below wr.heap.size wr w' := fun w' h => ⟨ci.below h, cj.below h, pw_cell_below h k0, h⟩
          have hno := Aside0.mk hrec2
          clear hrec hrec2
          clear f0 f1 f2 f3 f4 f5 kS
          go_region_held3 (fun w' => (w'.cell? (ad.add ((j + 1) * 6)) = some (.bool bi.f0) ∧ w'.cell? ⟨(ad.add ((j + 1) * 6)).block, (ad.add ((j + 1) * 6)).off + 1, none⟩ = some (.bool bi.f1) ∧ w'.cell? ⟨(ad.add ((j + 1) * 6)).block, (ad.add ((j + 1) * 6)).off + 2, none⟩ = some (.int .i64 bi.f2) ∧ w'.cell? ⟨(ad.add ((j + 1) * 6)).block, (ad.add ((j + 1) * 6)).off + 3, none⟩ = some (.int .i64 bi.f3) ∧ w'.cell? ⟨(ad.add ((j + 1) * 6)).block, (ad.add ((j + 1) * 6)).off + 4, none⟩ = some (.int .i64 bi.f4) ∧ w'.cell? ⟨(ad.add ((j + 1) * 6)).block, (ad.add ((j + 1) * 6)).off + 5, none⟩ = some (.slice (some ad5) bi.f5.length c5)) ∧ (w'.cell? (ad.add (j * 6)) = some (.bool bj.f0) ∧ w'.cell? ⟨(ad.add (j * 6)).block, (ad.add (j * 6)).off + 1, none⟩ = some (.bool bj.f1) ∧ w'.cell? ⟨(ad.add (j * 6)).block, (ad.add (j * 6)).off + 2, none⟩ = some (.int .i64 bj.f2) ∧ w'.cell? ⟨(ad.add (j * 6)).block, (ad.add (j * 6)).off + 3, none⟩ = some (.int .i64 bj.f3) ∧ w'.cell? ⟨(ad.add (j * 6)).block, (ad.add (j * 6)).off + 4, none⟩ = some (.int .i64 bj.f4) ∧ w'.cell? ⟨(ad.add (j * 6)).block, (ad.add (j * 6)).off + 5, none⟩ = some (.slice A4 bj.f5.length c4)) ∧ w'.cell? ad5 = some (.int .i64 (firstOf bi)) ∧ Below wr.heap.size wr w') (first | exact kS2 _ (below_drew (Below.refl _ _)) | assumption | exact kS2 _ (below_step (below_drew (Below.refl _ _)) ‹_›) | exact kS2 _ (below_step (by have hq := ‹_ ∧ _ ∧ _ ∧ Below wr.heap.size wr _›; exact hq.2.2.2) ‹_›))
            (first | (go_at_call 26; refine (HRC.out _ (by first | exact below_drew (Below.refl _ _) | exact (‹_ ∧ _ ∧ _ ∧ Below wr.heap.size wr _›).2.2.2)).mono ?_; rintro e w' ⟨rfl, hb⟩) | (go_at_call 36; refine (HL.out _ (by first | exact below_drew (Below.refl _ _) | exact (‹_ ∧ _ ∧ _ ∧ Below wr.heap.size wr _›).2.2.2)).mono ?_; rintro e w' ⟨rfl, hb⟩))
          all_goals
            have hBw := below_step hB1 (‹_ ∧ _ ∧ _ ∧ Below wr.heap.size wr _›).2.2.2
            by_cases hc : lastOf bj < firstOf bi
            · have hst : ∀ j', j' < j + 1 + 1 → batStep l j' = true := by
                intro j' hj
                by_cases h' : j' < j + 1
                · exact hall j' h'
                · obtain rfl : j' = j + 1 := by omega
                  rw [hno.out, hok, decide_eq_true hc, Bool.or_true]; rfl
              have hng : ¬ firstOf bi ≤ lastOf bj := by omega
              go_wp2
              go_roundw
              case rel => first | exact ⟨j + 1 + 1, by simp, hlt, hst, hBw⟩ | ((repeat apply Exists.intro); refine ⟨⟨j + 1 + 1, ?_, hlt, hst, hBw⟩, by first | rfl | (repeat' apply And.intro) <;> rfl⟩; simp)
              case measure => simp [intOf]; omega
            · have hn2 := Aside0.mk (logs_no hlt (hno.out.trans (by rw [hok, decide_eq_false hc, decide_eq_false (show ¬ j + 1 = 0 by omega)]; rfl)))
              have hng : firstOf bi ≤ lastOf bj := by omega
              go_wp2
              go_ret
              exact ⟨by rw [hn2.out]; rfl, hBw⟩
    · obtain rfl : i = l.length := by omega
      go_wp2
      go_ret
      exact ⟨by rw [logs_of hall]; rfl, hB1⟩
def spec_LogValid.f (k : Nat) (a0 : List S28) : Option Bool := some (logOk a0)
theorem spec_LogValid.calls (k : Nat) (A0 : Option Addr) (c0 : Nat) (l0 : List (S28)) (r : Bool) (w : World) (hr0 : Kd.C k28 w A0 l0.length l0) (hc0 : l0.length ≤ c0) (h : spec_LogValid.f k l0 = some r) :
    Calls Tryd.prog 35 #[.slice A0 l0.length c0] w fun e w' => e = .returned (.bool r) ∧ Below w.heap.size w w' := by
  obtain rfl := Option.some.inj h
  exact speclog_q l0 A0 c0 w hr0 hc0
end Go.Proofs.YtfjkpdhldeopaaaDoor.G

namespace Go.Proofs.YtfjkpdhldeopaaaDoor.G
open Go.RowKit Go.Proofs.YtfjkpdhldeopaaaDoorW.PrintWords Go.Proofs.YtfjkpdhldeopaaaDoorW.PrintLast Go.Proofs.YtfjkpdhldeopaaaDoorW.PrintMore
attribute [local go_sem] max2_int min2_int max_two min_two max_three min_three max_four min_four   -- for this text's walks alone
set_option linter.unusedVariables false
set_option linter.unusedSimpArgs false

def spec_l12Copy.f (a0_0 : Int) (a0_1 : Int) (a0_2 : Bool) (l0_3 : List Int) (a0_4 : Bool) (l0_5 : List Int) : Option (Int × Int × Bool × List Int × Bool × List Int) := (some (([] : List Int) : List Int)).bind fun y119 => (if y119.length + l0_3.length < 17592186044416 then ((some (([] : List Int) : List Int)).bind fun y125 => (if y125.length + l0_5.length < 17592186044416 then (some (a0_0, a0_1, a0_2, (y119 ++ l0_3), a0_4, (y125 ++ l0_5))) else (none))) else (none))
set_option maxHeartbeats 8000000 in
set_option maxRecDepth 100000 in
theorem spec_l12Copy.calls (a0_0 : Int) (a0_1 : Int) (a0_2 : Bool) (A0_3 : Option Addr) (c0_3 : Nat) (l0_3 : List Int) (a0_4 : Bool) (A0_5 : Option Addr) (c0_5 : Nat) (l0_5 : List Int) (r1 : Int) (r2 : Int) (r3 : Bool) (r4 : List Int) (r5 : Bool) (r6 : List Int) (w : World) (hr0_3 : Kd.C (Kd.int .i64) w A0_3 l0_3.length l0_3) (hc0_3 : l0_3.length ≤ c0_3) (hr0_5 : Kd.C (Kd.int .i64) w A0_5 l0_5.length l0_5) (hc0_5 : l0_5.length ≤ c0_5) (h : spec_l12Copy.f a0_0 a0_1 a0_2 l0_3 a0_4 l0_5 = some (r1, r2, r3, r4, r5, r6)) :
  Calls Tryd.prog 45 #[.agg #[.int .i64 a0_0, .int .i64 a0_1, .bool a0_2, .slice A0_3 l0_3.length c0_3, .bool a0_4, .slice A0_5 l0_5.length c0_5]] w fun e w' => ∃ v3_ v5_ : Value, e = .returned (.agg #[.int .i64 r1, .int .i64 r2, .bool r3, v3_, .bool r5, v5_]) ∧ Kd.R (Kd.int .i64) 3 w' w.heap.size (fun k_ => some k_ ≠ (v5_ : Value).ownBlock) v3_ r4 ∧ Kd.R (Kd.int .i64) 3 w' w.heap.size (fun k_ => some k_ ≠ (v3_ : Value).ownBlock) v5_ r6 ∧ Below w.heap.size w w' := by
 have hu62 := Tryd.underlying62
 have HR0_3 := Aside0.mk hr0_3
 have HC0_3 := Aside0.mk hc0_3
 clear hr0_3 hc0_3
 have HR0_5 := Aside0.mk hr0_5
 have HC0_5 := Aside0.mk hc0_5
 clear hr0_5 hc0_5
 have HB := Aside0.mk (Below.refl w.heap.size w)
 have H : ((some (([] : List Int) : List Int)).bind fun y119 => (if y119.length + l0_3.length < 17592186044416 then ((some (([] : List Int) : List Int)).bind fun y125 => (if y125.length + l0_5.length < 17592186044416 then (some (a0_0, a0_1, a0_2, (y119 ++ l0_3), a0_4, (y125 ++ l0_5))) else (none))) else (none))) = some (r1, r2, r3, r4, r5, r6) := h
 clear h
 obtain ⟨y119, hy119⟩ : ∃ y_ : List Int, y_ = (([] : List Int)) := ⟨_, rfl⟩
 replace H : (if y119.length + l0_3.length < 17592186044416 then ((some (([] : List Int) : List Int)).bind fun y125 => (if y125.length + l0_5.length < 17592186044416 then (some (a0_0, a0_1, a0_2, (y119 ++ l0_3), a0_4, (y125 ++ l0_5))) else (none))) else (none)) = some (r1, r2, r3, r4, r5, r6) := by first | (rw [hy119]; with_reducible exact H) | (have H2_ := (Option.bind_some _ _).symm.trans H; rw [hy119]; with_reducible exact H2_) | (have H2_ := (Option.bind_some _ _).symm.trans H; with_reducible exact H2_) | with_reducible exact H | (rw [hy119]; exact H) | exact H
 have Ny119 := Aside0.mk hy119
 clear hy119
 by_cases c2 : y119.length + l0_3.length < 17592186044416
 ·rw [if_pos c2] at H
  have LMc2 := Aside0.mk c2
  clear c2
  obtain ⟨y122, hy122⟩ : ∃ y_ : List Int, y_ = (y119 ++ l0_3) := ⟨_, rfl⟩
  replace H : ((some (([] : List Int) : List Int)).bind fun y125 => (if y125.length + l0_5.length < 17592186044416 then (some (a0_0, a0_1, a0_2, y122, a0_4, (y125 ++ l0_5))) else (none))) = some (r1, r2, r3, r4, r5, r6) := by first | (rw [hy122]; with_reducible exact H) | (have H2_ := (Option.bind_some _ _).symm.trans H; rw [hy122]; with_reducible exact H2_) | (have H2_ := (Option.bind_some _ _).symm.trans H; with_reducible exact H2_) | with_reducible exact H | (rw [hy122]; exact H) | exact H
  have Ny122 := Aside0.mk hy122
  clear hy122
  obtain ⟨y125, hy125⟩ : ∃ y_ : List Int, y_ = (([] : List Int)) := ⟨_, rfl⟩
  replace H : (if y125.length + l0_5.length < 17592186044416 then (some (a0_0, a0_1, a0_2, y122, a0_4, (y125 ++ l0_5))) else (none)) = some (r1, r2, r3, r4, r5, r6) := by first | (rw [hy125]; with_reducible exact H) | (have H2_ := (Option.bind_some _ _).symm.trans H; rw [hy125]; with_reducible exact H2_) | (have H2_ := (Option.bind_some _ _).symm.trans H; with_reducible exact H2_) | with_reducible exact H | (rw [hy125]; exact H) | exact H
  have Ny125 := Aside0.mk hy125
  clear hy125
  by_cases c3 : y125.length + l0_5.length < 17592186044416
  ·rw [if_pos c3] at H
   have LMc3 := Aside0.mk c3
   clear c3
   obtain ⟨y128, hy128⟩ : ∃ y_ : List Int, y_ = (y125 ++ l0_5) := ⟨_, rfl⟩
   replace H : (some (a0_0, a0_1, a0_2, y122, a0_4, y128)) = some (r1, r2, r3, r4, r5, r6) := by first | (rw [hy128]; with_reducible exact H) | (have H2_ := (Option.bind_some _ _).symm.trans H; rw [hy128]; with_reducible exact H2_) | (have H2_ := (Option.bind_some _ _).symm.trans H; with_reducible exact H2_) | with_reducible exact H | (rw [hy128]; exact H) | exact H
   have Ny128 := Aside0.mk hy128
   clear hy128
   simp only [Option.some.injEq, Prod.mk.injEq] at H
   obtain ⟨rfl, rfl, rfl, rfl, rfl, rfl⟩ := H
   go_enter Tryd.func45, Tryd.ntmps45
   go_wp2_with (first | ((with_reducible refine gate_dst (N := 1) rfl ?_); refine box_event ?hg (N := 1) ?hd (cs := #[.int .i64 a0_0, .int .i64 a0_1, .bool a0_2, .slice A0_3 l0_3.length c0_3, .bool a0_4, .slice A0_5 l0_5.length c0_5]) (t := 62) ?hr ?_; (case hd => rfl); (case hg => rfl); (case hr => first | (go_simp; done) | (go_simp; rfl)); intro gb117 hg w4 hbox hb; have BK117 := Aside0.mk (hbox); have GW117 := tge HB hg; have GE117 := tge HB hg; replace HB := tBs HB hb; clear hb hbox hg) | ((with_reducible refine gate_dst (N := 2) rfl ?_); refine box_event ?hg (N := 2) ?hd (cs := #[.int .i64 0, .int .i64 0, .bool false, .slice none 0 0, .bool false, .slice none 0 0]) (t := 62) ?hr ?_; (case hd => rfl); (case hg => rfl); (case hr => first | (go_simp; done) | (go_simp; rfl)); intro gb118 hg w5 hbox hb; have BK118 := Aside0.mk (hbox); have GW118 := tge HB hg; have GE118 := tge HB hg; replace HB := tBs HB hb; have NB117_118 := tlt BK117 hg; have NB118_117 := tgt BK117 hg; replace BK117 := tBb BK117 hb; clear hb hbox hg) | ((with_reducible refine gate_dst (N := 3) rfl ?_); refine Kd.R_lit (Kd.int .i64) _ 3 ?hg (N := 3) ?hd (xs := ([] : List Int)) (inner := []) (ok := fun _ => True) (okp := fun _ => True) ?hr ?hp (fun _ hk => hk) trivial (Below.refl _ _) (Nat.le_refl _) (by simp) ?_; (case hd => rfl); (case hg => rfl); (case hr => first | (go_simp; done) | (go_simp; rfl)); (case hp => exact (Reps.none _ _)); intro v120 w6 ho7 hb hg_ hnew_; clear hg_ hnew_; (first | rw [← Ny119.out] at ho7 | (simp only [Int.reduceToNat] at ho7; rw [← Ny119.out] at ho7)); have HO121 := tRl ho7 HB; replace BK117 := tBb BK117 hb; replace BK118 := tBb BK118 hb; replace HB := tBs HB hb; clear hb ho7; have hnb8 := NB117_118.out; have hnc8 := NB118_117.out; obtain ⟨hcz9_0, hcz9_1, hcz9_2, hcz9_3, hcz9_4, hcz9_5, hfz9_0, hfz9_1, hfz9_2, hfz9_3, hfz9_4, hfz9_5⟩ := cells6 BK117.out) | ((with_reducible refine gate_builtin (b := .append) (xs := #[.tmp 3, .tmp 5]) rfl ?_); at_builtin; refine Kd.R_append_rows (Kd.int .i64) (w0 := w) w.heap.size rfl (.tmp 3) (.tmp 5) 60 3 (.int .i64 0) 8 rfl Tryd.underlying60 info3 rfl (by decide) (by omega) v120 y119 l0_3 _ _ _ (fun _ => True) (fun _ => False) rfl rfl ?aO ?aR (fun _ _ h => h) (fun _ h => h.elim) ?aF ?aB ?aS ?aL ?_; (case aR => exact tC (Kd.C_below HR0_3.out HB.out)); (case aB => exact zb); (case aF => exact (fun _ _ => trivial)); (case aO => exact (tR HO121.out)); (case aS => exact (below_size zb)); (case aL => have := LMc2.out; omega); intro v123 w10 ho hb hg hat; rw [← Ny122.out] at ho; replace BK117 := Aside0.mk (blk_grown (tH BK117.out) hg (Kd.R_ne HO121.out BK117.out (by decide))); replace BK118 := Aside0.mk (blk_grown (tH BK118.out) hg (Kd.R_ne HO121.out BK118.out (by decide))); replace HB := Aside0.mk (hb); have HO124 := Aside0.mk (ho); clear HO121; clear ho hb hg hat; obtain ⟨Ao11, co11, eo11⟩ := Kd.R_slice HO124.out; subst eo11; obtain ⟨hcz12_0, hcz12_1, hcz12_2, hcz12_3, hcz12_4, hcz12_5, hfz12_0, hfz12_1, hfz12_2, hfz12_3, hfz12_4, hfz12_5⟩ := cells6 BK117.out) | ((with_reducible refine gate_dst (N := 8) rfl ?_); refine Kd.R_lit (Kd.int .i64) _ 3 ?hg (N := 8) ?hd (xs := ([] : List Int)) (inner := []) (ok := fun _ => True) (okp := fun _ => True) ?hr ?hp (fun _ hk => hk) trivial (Below.refl _ _) (Nat.le_refl _) (by simp) ?_; (case hd => rfl); (case hg => rfl); (case hr => first | (go_simp; done) | (go_simp; rfl)); (case hp => exact (Reps.none _ _)); intro v126 w13 ho14 hb hg_ hnew_; clear hg_ hnew_; (first | rw [← Ny125.out] at ho14 | (simp only [Int.reduceToNat] at ho14; rw [← Ny125.out] at ho14)); have HO127 := Aside0.mk (Kd.R_lower (Kd.R_new' ho14 (Kd.R_lt (tRt HO124.out BK117.out))) (below_size zb)); replace HO124 := Aside0.mk (Kd.R_elder' (tRt HO124.out BK117.out) (Kd.R_base ho14) hb); replace BK117 := tBp (o' := .cells #[.int .i64 a0_0, .int .i64 a0_1, .bool a0_2, .slice Ao11 y122.length co11, .bool a0_4, .slice A0_5 l0_5.length c0_5] 62 (0, 0)) BK117 hb; replace BK118 := tBb BK118 hb; replace HB := tBs HB hb; clear hb ho14; obtain ⟨hcz15_0, hcz15_1, hcz15_2, hcz15_3, hcz15_4, hcz15_5, hfz15_0, hfz15_1, hfz15_2, hfz15_3, hfz15_4, hfz15_5⟩ := cells6 BK117.out) | ((with_reducible refine gate_builtin (b := .append) (xs := #[.tmp 8, .tmp 10]) rfl ?_); at_builtin; refine Kd.R_append_rows (Kd.int .i64) (w0 := w) w.heap.size rfl (.tmp 8) (.tmp 10) 60 3 (.int .i64 0) 8 rfl Tryd.underlying60 info3 rfl (by decide) (by omega) v126 y125 l0_5 _ _ _ (fun k_ => some k_ ≠ (.slice Ao11 y122.length co11 : Value).ownBlock) (fun _ => False) rfl rfl ?aO ?aR (fun _ _ h => h) (fun _ h => h.elim) ?aF ?aB ?aS ?aL ?_; (case aR => exact tC (Kd.C_below HR0_5.out HB.out)); (case aB => exact zb); (case aF => exact (fun k_ hk => Kd.fresh' (Kd.R_lt (tR HO124.out)) k_ hk)); (case aO => exact (tRm HO127.out)); (case aS => exact (below_size zb)); (case aL => have := LMc3.out; omega); intro v129 w16 ho hb hg hat; rw [← Ny128.out] at ho; replace BK117 := Aside0.mk (blk_grown (tH BK117.out) hg (Kd.R_ne HO127.out BK117.out (by decide))); replace BK118 := Aside0.mk (blk_grown (tH BK118.out) hg (Kd.R_ne HO127.out BK118.out (by decide))); replace HO124 := Aside0.mk (Kd.R_after (ok := (fun _ => True)) (tR HO124.out) hg hat); replace HB := Aside0.mk (hb); have HO130 := Aside0.mk (ho); clear HO127; clear ho hb hg hat; obtain ⟨Ao17, co17, eo17⟩ := Kd.R_slice HO130.out; subst eo17; obtain ⟨hcz18_0, hcz18_1, hcz18_2, hcz18_3, hcz18_4, hcz18_5, hfz18_0, hfz18_1, hfz18_2, hfz18_3, hfz18_4, hfz18_5⟩ := cells6 BK117.out; obtain ⟨hcz19_0, hcz19_1, hcz19_2, hcz19_3, hcz19_4, hcz19_5, hfz19_0, hfz19_1, hfz19_2, hfz19_3, hfz19_4, hfz19_5⟩ := cells6 BK118.out))
   refine bodyPost_ret (results_cell_row rfl _ _ gb118 62 #[.int .i64 a0_0, .int .i64 a0_1, .bool a0_2, .slice Ao11 y122.length co11, .bool a0_4, .slice Ao17 y128.length co17] (0, 0) _ rfl (tP BK118.out) Tryd.underlying62 rfl (by kernel_rfl)) rfl ?_
   exact ⟨_, _, by first | rfl | (simp [errW_none, errW_some] <;> rfl) | (simp [*, errW_none, errW_some] <;> rfl), tRm (Kd.R_types (Kd.R_types HO124.out BK117.out (by decide)) BK118.out (by decide)), tRm (Kd.R_types (Kd.R_types HO130.out BK117.out (by decide)) BK118.out (by decide)), zb⟩
  ·rw [if_neg c3] at H
   exact absurd H (by simp)
 ·rw [if_neg c2] at H
  exact absurd H (by simp)

def spec_l31Free.l0 : Nat → List (S62) → Int → Bool → Bool → Int → Int → Int → List (S62) → Option (Bool × Bool × Int × Int × Int × (List (S62)))
 | 0, _, _, _, _, _, _, _, _ => none
 | k + 1, x1, x6, x136000, x136001, x136002, x136003, x136004, x136005 => if x6 < (x1.length : Int) then (if 0 ≤ x6 then ((spec_l12Copy.f ((rd_T62 x1 x6).f0) ((rd_T62 x1 x6).f1) ((rd_T62 x1 x6).f2) ((rd_T62 x1 x6).f3) ((rd_T62 x1 x6).f4) ((rd_T62 x1 x6).f5)).bind fun bt137 => (if x136005.length < 1759218604441 then (spec_l31Free.l0 k x1 (wrap64 (x6 + 1)) x136000 x136001 x136002 x136003 x136004 (x136005 ++ [(⟨bt137.1, bt137.2.1, bt137.2.2.1, bt137.2.2.2.1, bt137.2.2.2.2.1, bt137.2.2.2.2.2⟩ : S62)])) else (none))) else (none)) else (some (x136000, x136001, x136002, x136003, x136004, x136005))
def spec_l31Free.f (k : Nat) (a0 : Bool) (l1 : List (S62)) : Option (Bool × Bool × Int × Int × Int × (List (S62))) := spec_l31Free.l0 k l1 0 a0 false 255 0 0 (([] : List (S62)))
def spec_l31Free.T5 : Bool × List (List Nat × List Nat) := (true, [([], []), ([0], [0]), ([], []), ([], []), ([2, 3], [2, 3]), ([4], [4]), ([5], [5]), ([6], [6]), ([1, 7, 6], [1, 7]), ([0, 1, 2, 3, 4, 5, 6, 7, 8], []), ([9, 8, 8, 0, 1, 2, 3, 4, 5, 6, 7, 8], [8, 9])])
def spec_l31Free.B5 : List Nat := [0, 1, 0, 0, 12, 28, 60, 124, 255, 511, 1023]
theorem spec_l31Free.tab5 : rtab .any (opsOf Tryd.f27 5) = spec_l31Free.T5 := by kernel_rfl
theorem spec_l31Free.bits5 : waitsOk spec_l31Free.T5.2 spec_l31Free.B5 = true := by kernel_rfl
set_option maxHeartbeats 8000000 in
set_option maxRecDepth 100000 in
theorem spec_l31Free.calls (k : Nat) (a0 : Bool) (A1 : Option Addr) (c1 : Nat) (l1 : List (S62)) (r1 : Bool) (r2 : Bool) (r3 : Int) (r4 : Int) (r5 : Int) (r6 : List (S62)) (w : World) (hr1 : Kd.C k62 w A1 l1.length l1) (hc1 : l1.length ≤ c1) (h : spec_l31Free.f k a0 l1 = some (r1, r2, r3, r4, r5, r6)) :
  Calls Tryd.prog 27 #[.bool a0, .slice A1 l1.length c1] w fun e w' => ∃ v5_ : Value, e = .returned (.agg #[.bool r1, .bool r2, .int .i64 r3, .int .i64 r4, .int .i64 r5, v5_]) ∧ Kd.S k62 62 w' w.heap.size (fun _ => True) v5_ r6 ∧ Below w.heap.size w w' := by
 have hu28 := Tryd.underlying28
 have hu62 := Tryd.underlying62
 have HR1 := Aside0.mk hr1
 have HC1 := Aside0.mk hc1
 clear hr1 hc1
 have HB := Aside0.mk (Below.refl w.heap.size w)
 have H : (spec_l31Free.l0 k l1 0 a0 false 255 0 0 (([] : List (S62)))) = some (r1, r2, r3, r4, r5, r6) := h
 clear h
 obtain ⟨y132, hy132⟩ : ∃ y_ : List (S62), y_ = (([] : List (S62))) := ⟨_, rfl⟩
 replace H : (spec_l31Free.l0 k l1 0 a0 false 255 0 0 y132) = some (r1, r2, r3, r4, r5, r6) := by first | (rw [hy132]; with_reducible exact H) | (have H2_ := (Option.bind_some _ _).symm.trans H; rw [hy132]; with_reducible exact H2_) | (have H2_ := (Option.bind_some _ _).symm.trans H; with_reducible exact H2_) | with_reducible exact H | (rw [hy132]; exact H) | exact H
 have Ny132 := Aside0.mk hy132
 clear hy132
 have H' := Aside0.mk H
 clear H
 go_enter Tryd.func27, Tryd.ntmps27
 go_wp2_with (first | ((with_reducible refine gate_dst (N := 4) rfl ?_); refine box_event ?hg (N := 4) ?hd (cs := #[.bool false, .bool false, .int .i64 0, .int .i64 0, .int .i64 0, .slice none 0 0]) (t := 28) ?hr ?_; (case hd => rfl); (case hg => rfl); (case hr => first | (go_simp; done) | (go_simp; rfl)); intro gb131 hg w3 hbox hb; have BK131 := Aside0.mk (hbox); have GW131 := tge HB hg; have GE131 := tge HB hg; replace HB := tBs HB hb; clear hb hbox hg) | ((with_reducible refine gate_dst (N := 8) rfl ?_); refine Kd.S_lit k62 _ 62 ?hg (N := 8) ?hd (xs := ([] : List (S62))) (inner := []) (ok := fun _ => True) (okp := fun _ => True) ?hr ?hp (fun _ hk => hk) trivial (Below.refl _ _) (Nat.le_refl _) (by simp) ?_; (case hd => rfl); (case hg => rfl); (case hr => first | (go_simp; done) | (go_simp; rfl)); (case hp => exact (Reps.none _ _)); intro v133 w4 ho5 hb hg_ hnew_; clear hg_ hnew_; (first | rw [← Ny132.out] at ho5 | (simp only [Int.reduceToNat] at ho5; rw [← Ny132.out] at ho5)); have HO134 := tSl ho5 HB; replace BK131 := tBb BK131 hb; replace HB := tBs HB hb; clear hb ho5; obtain ⟨Ao6, co6, eo6⟩ := Kd.S_slice HO134.out; subst eo6) | ((with_reducible refine gate_dst (N := 5) rfl ?_); refine box_event ?hg (N := 5) ?hd (cs := #[.bool false, .bool false, .int .i64 0, .int .i64 0, .int .i64 0, .slice none 0 0]) (t := 28) ?hr ?_; (case hd => rfl); (case hg => rfl); (case hr => first | (go_simp; done) | (go_simp; rfl)); intro gb135 hg w7 hbox hb; replace HO134 := tSb HO134 hb; have BK135 := Aside0.mk (hbox); have GW135 := tge HB hg; have GE135 := tge HB hg; replace HB := tBs HB hb; have NB131_135 := tlt BK131 hg; have NB135_131 := tgt BK131 hg; replace BK131 := tBb BK131 hb; clear hb hbox hg; have hnb8 := NB135_131.out; have hnc8 := NB131_135.out; obtain ⟨hcz9_0, hcz9_1, hcz9_2, hcz9_3, hcz9_4, hcz9_5, hfz9_0, hfz9_1, hfz9_2, hfz9_3, hfz9_4, hfz9_5⟩ := cells6 BK135.out))
 go_loopg [6] k (fun kq v6 w' => ∃ (x6_1 : Int) (x136005_1 : List (S62)) (u136005 : Value), v6 = .int .i64 x6_1 ∧ Aside0 (spec_l31Free.l0 kq l1 x6_1 a0 false 255 0 0 x136005_1 = some (r1, r2, r3, r4, r5, r6)) ∧ Aside0 (kq ≤ k) ∧ Aside0 (Kd.S k62 62 w' w.heap.size (fun _ => True) u136005 x136005_1) ∧ Aside0 (w'.heap[gb131]? = some (.cells #[.bool false, .bool false, .int .i64 0, .int .i64 0, .int .i64 0, (.slice none 0 0)] 28 (0, 0))) ∧ Aside0 (w'.heap[gb135]? = some (.cells #[.bool a0, .bool false, .int .i64 255, .int .i64 0, .int .i64 0, u136005] 28 (0, 0))) ∧ Aside0 (Below w.heap.size w w'))
 case atStart => exact ⟨(0), (y132), (.slice Ao6 y132.length co6), tr, H', ⟨Nat.le_refl _⟩, ⟨tSm (Kd.S_types HO134.out BK135.out (by decide))⟩, ⟨tH BK131.out⟩, ⟨tP BK135.out⟩, ⟨zb⟩⟩
 case round =>
  clear H'
  try clear c1; try clear hcz9_0; try clear hcz9_1; try clear hcz9_2; try clear hcz9_3; try clear hcz9_4; try clear hcz9_5; try clear hfz9_0; try clear hfz9_1; try clear hfz9_2; try clear hfz9_3; try clear hfz9_4; try clear hfz9_5
  obtain ⟨x6_1, x136005_1, u136005, rfl, HA, HK1, HO_136005, BK131, BK135, HB⟩ := hrel
  cases gk with
  | zero => exact absurd HA.out (by simp [spec_l31Free.l0])
  | succ k1 =>
   have H := HA.out
   clear HA
   simp only [spec_l31Free.l0] at H
   by_cases c10 : x6_1 < (l1.length : Int)
   ·rw [if_pos c10] at H
    have c10b0 : decide (x6_1 < (l1.length : Int)) = true := decide_eq_true c10
    clear c10
    by_cases c11 : 0 ≤ x6_1
    ·rw [if_pos c11] at H
     have c11b0 : decide (0 ≤ x6_1) = true := decide_eq_true c11
     clear c11
     replace H := tbe H
     obtain ⟨⟨t137, t138, t139, t140, t143, t144⟩, A12, H⟩ := H
     dsimp only at H
     by_cases c13 : x136005_1.length < 1759218604441
     ·rw [if_pos c13] at H
      have LMc13 := Aside0.mk c13
      clear c13
      obtain ⟨y147, hy147⟩ : ∃ y_ : List (S62), y_ = (x136005_1 ++ [(⟨t137, t138, t139, t140, t143, t144⟩ : S62)]) := ⟨_, rfl⟩
      replace H : (spec_l31Free.l0 k1 l1 (wrap64 (x6_1 + 1)) a0 false 255 0 0 y147) = some (r1, r2, r3, r4, r5, r6) := by first | (rw [hy147]; with_reducible exact H) | (have H2_ := (Option.bind_some _ _).symm.trans H; rw [hy147]; with_reducible exact H2_) | (have H2_ := (Option.bind_some _ _).symm.trans H; with_reducible exact H2_) | with_reducible exact H | (rw [hy147]; exact H) | exact H
      have Ny147 := Aside0.mk hy147
      clear hy147
      have H' := Aside0.mk H
      clear H
      try go_wp2
      replace HO_136005 := Aside0.mk (Kd.S_drew HO_136005.out)
      replace BK131 := Aside0.mk (blk_drew BK131.out)
      replace BK135 := Aside0.mk (blk_drew BK135.out)
      replace HB := Aside0.mk (below_drew1 HB.out)
      have p136 : 0 ≤ (x6_1 : Int) := td
      have q136 : x6_1 < (l1.length : Int) := td
      obtain ⟨ad136, A136_3, c136_3, A136_5, c136_5, e136, hx136_0, hx136_1, hx136_2, hx136_3, hx136_4, hx136_5, hl136_3, hi136_3, hl136_5, hi136_5⟩ := at_T62 HR1.out x6_1 p136 q136
      have hw136_5 := hx136_5
      have hw136_4 := hx136_4
      have hw136_3 := hx136_3
      have hw136_2 := hx136_2
      have hw136_1 := hx136_1
      have hw136_0 := hx136_0
      cases e136
      replace hx136_0 := tcl HB hx136_0
      replace hx136_1 := tcl HB hx136_1
      replace hx136_2 := tcl HB hx136_2
      replace hx136_3 := tcl HB hx136_3
      replace hx136_4 := tcl HB hx136_4
      replace hx136_5 := tcl HB hx136_5
      have HR136_3 := Aside0.mk hi136_3
      have HC136_3 := Aside0.mk hl136_3
      clear hi136_3 hl136_3
      have HR136_5 := Aside0.mk hi136_5
      have HC136_5 := Aside0.mk hl136_5
      clear hi136_5 hl136_5
      replace p136 := eq_true p136
      replace q136 := eq_true q136
      refine start_ (n := 11) (S := fun w' => w'.cell? ⟨gb135, 0, none⟩ = some (.bool a0) ∧ w'.cell? ⟨gb135, 1, none⟩ = some (.bool false) ∧ w'.cell? ⟨gb135, 2, none⟩ = some (.int .i64 255) ∧ w'.cell? ⟨gb135, 3, none⟩ = some (.int .i64 0) ∧ w'.cell? ⟨gb135, 4, none⟩ = some (.int .i64 0) ∧ w'.cell? ⟨gb135, 5, none⟩ = some (u136005) ∧ w'.cell? (ad136.add ((x6_1).toNat * 6)) = some (.int .i64 ((rd_T62 l1 x6_1).f0)) ∧ w'.cell? ⟨(ad136.add ((x6_1).toNat * 6)).block, (ad136.add ((x6_1).toNat * 6)).off + 1, none⟩ = some (.int .i64 ((rd_T62 l1 x6_1).f1)) ∧ w'.cell? ⟨(ad136.add ((x6_1).toNat * 6)).block, (ad136.add ((x6_1).toNat * 6)).off + 2, none⟩ = some (.bool ((rd_T62 l1 x6_1).f2)) ∧ w'.cell? ⟨(ad136.add ((x6_1).toNat * 6)).block, (ad136.add ((x6_1).toNat * 6)).off + 3, none⟩ = some (.slice A136_3 ((rd_T62 l1 x6_1).f3).length c136_3) ∧ w'.cell? ⟨(ad136.add ((x6_1).toNat * 6)).block, (ad136.add ((x6_1).toNat * 6)).off + 4, none⟩ = some (.bool ((rd_T62 l1 x6_1).f4)) ∧ w'.cell? ⟨(ad136.add ((x6_1).toNat * 6)).block, (ad136.add ((x6_1).toNat * 6)).off + 5, none⟩ = some (.slice A136_5 ((rd_T62 l1 x6_1).f5).length c136_5)) (ds := [10]) #[false, false, false, false, false, false, false, false, false, false, false] (by kernel_rfl) rfl rfl ⟨(blk_cell BK135.out 0).trans rfl, (blk_cell BK135.out 1).trans rfl, (blk_cell BK135.out 2).trans rfl, (blk_cell BK135.out 3).trans rfl, (blk_cell BK135.out 4).trans rfl, (blk_cell BK135.out 5).trans rfl, (tcl HB hw136_0), (tcl HB hw136_1), (tcl HB hw136_2), (tcl HB hw136_3), (tcl HB hw136_4), (tcl HB hw136_5)⟩ (fun hHeld => ?_); refine with_tabW spec_l31Free.tab5 spec_l31Free.bits5 (fun HT_ HW_ => ?_)
      generalize wr.drew = w14 at HO_136005 BK131 BK135 HB HR136_3 HR136_5 hx136_0 hx136_1 hx136_2 hx136_3 hx136_4 hx136_5 hHeld ⊢
      refine tpu 0 (some 16) #[true, false, false, false, false, false, false, false, false, false, false] ?_
      refine tpu 2 (some 18) #[true, false, true, false, false, false, false, false, false, false, false] ?_
      refine tpu 3 (some 19) #[true, false, true, true, false, false, false, false, false, false, false] ?_
      refine tpu 4 (some 20) #[true, false, true, true, true, false, false, false, false, false, false] ?_
      refine tta 1 (some 17) #[true, true, true, true, true, false, false, false, false, false, false] hHeld ?_ (hy := by rintro w' ⟨s0, s1, s2, s3, s4, s5, s6, s7, s8, s9, s10, s11⟩; go_simp; with_reducible rfl)
      refine tta 5 (some 21) #[true, true, true, true, true, true, false, false, false, false, false] hHeld ?_ (hy := by rintro w' ⟨s0, s1, s2, s3, s4, s5, s6, s7, s8, s9, s10, s11⟩; go_simp; with_reducible rfl)
      refine one_ (i := 6) (N := some 22) #[true, true, true, true, true, true, true, false, false, false, false] rfl rfl (one_of HT_.out (by kernel_rfl)) (by decide) (fun K hK => ?_)
      refine goes_ Tryd.func45 (by kernel_rfl) rfl #[.agg #[.int .i64 ((rd_T62 l1 x6_1).f0), .int .i64 ((rd_T62 l1 x6_1).f1), .bool ((rd_T62 l1 x6_1).f2), .slice A136_3 ((rd_T62 l1 x6_1).f3).length c136_3, .bool ((rd_T62 l1 x6_1).f4), .slice A136_5 ((rd_T62 l1 x6_1).f5).length c136_5]] (by rfl) rfl rfl tq ?_
      with_reducible refine (spec_l12Copy.calls ((rd_T62 l1 x6_1).f0) ((rd_T62 l1 x6_1).f1) ((rd_T62 l1 x6_1).f2) _ _ ((rd_T62 l1 x6_1).f3) ((rd_T62 l1 x6_1).f4) _ _ ((rd_T62 l1 x6_1).f5) t137 t138 t139 t140 t143 t144 _ ?side1 ?side2 ?side3 ?side4 A12.out).mono ?_
      (case side1 => exact tC (Kd.C_below HR136_3.out HB.out))
      (case side2 => exact HC136_3.out)
      (case side3 => exact tC (Kd.C_below HR136_5.out HB.out))
      (case side4 => exact HC136_5.out)
      rintro e w15 ⟨v141, v145, rfl, ho0, ho1, hb⟩
      refine ⟨_, rfl, ?_⟩
      replace HO_136005 := Aside0.mk (Kd.S_mono (Kd.S_told (Kd.S_told (Kd.S_old (tS HO_136005.out) hb) (Kd.R_base ho0)) (Kd.R_base ho1)) (fun _ h_ => h_.1))
      have HO142 := tRl ho0 HB
      have HO146 := tRl ho1 HB
      replace BK131 := tBb BK131 hb
      replace BK135 := tBb BK135 hb
      replace HB := tBs HB hb
      (try clear hb)
      (try clear hb2)
      (try clear hk)
      (try clear hi)
      (try clear ho0)
      (try clear ho1)
      obtain ⟨Ao17, co17, eo17⟩ := Kd.R_slice HO142.out
      (first | subst eo17 | (injection eo17 with f1_ f2_ f3_; have f4_ := f1_.symm; have f5_ := f3_.symm; clear f1_ f2_ f3_; subst f4_; subst f5_))
      obtain ⟨Ao18, co18, eo18⟩ := Kd.R_slice HO146.out
      (first | subst eo18 | (injection eo18 with f1_ f2_ f3_; have f4_ := f1_.symm; have f5_ := f3_.symm; clear f1_ f2_ f3_; subst f4_; subst f5_))
      refine hK.out _ _ ⟨(blk_cell BK135.out 0).trans rfl, (blk_cell BK135.out 1).trans rfl, (blk_cell BK135.out 2).trans rfl, (blk_cell BK135.out 3).trans rfl, (blk_cell BK135.out 4).trans rfl, (blk_cell BK135.out 5).trans rfl, (tcl HB hw136_0), (tcl HB hw136_1), (tcl HB hw136_2), (tcl HB hw136_3), (tcl HB hw136_4), (tcl HB hw136_5)⟩ (fun hHeld => ?_)
      clear hK K
      refine tnm (some 22) ?_
      refine one_ (i := 7) (N := some 23) #[true, true, true, true, true, true, true, true, false, false, false] rfl rfl (one_of HT_.out (by kernel_rfl)) (by decide) (fun K hK => ?_)
      refine value_ (w1 := ?_) (v := ?_) (by rfl) rfl ?_ ?_
      rotate_left 2
      ·go_simp
       constructor
       ·rfl
       ·rfl
      refine hK.out _ _ ⟨(blk_cell (blk_alloc BK135.out _) 0).trans rfl, (blk_cell (blk_alloc BK135.out _) 1).trans rfl, (blk_cell (blk_alloc BK135.out _) 2).trans rfl, (blk_cell (blk_alloc BK135.out _) 3).trans rfl, (blk_cell (blk_alloc BK135.out _) 4).trans rfl, (blk_cell (blk_alloc BK135.out _) 5).trans rfl, (World.cell?_alloc_lt _ _ _ (World.block_lt_of_cell? _ _ ((tcl HB hw136_0)))).trans ((tcl HB hw136_0)), (World.cell?_alloc_lt _ _ _ (World.block_lt_of_cell? _ _ ((tcl HB hw136_1)))).trans ((tcl HB hw136_1)), (World.cell?_alloc_lt _ _ _ (World.block_lt_of_cell? _ _ ((tcl HB hw136_2)))).trans ((tcl HB hw136_2)), (World.cell?_alloc_lt _ _ _ (World.block_lt_of_cell? _ _ ((tcl HB hw136_3)))).trans ((tcl HB hw136_3)), (World.cell?_alloc_lt _ _ _ (World.block_lt_of_cell? _ _ ((tcl HB hw136_4)))).trans ((tcl HB hw136_4)), (World.cell?_alloc_lt _ _ _ (World.block_lt_of_cell? _ _ ((tcl HB hw136_5)))).trans ((tcl HB hw136_5))⟩ (fun hHeld => ?_)
      clear hK K
      refine tnm (some 23) ?_
      refine one_ (i := 8) (N := some 24) #[true, true, true, true, true, true, true, true, true, false, false] rfl rfl (one_of HT_.out (by kernel_rfl)) (by decide) (fun K hK => ?_)
      refine Kd.S_append_step k62 (w0 := w) w.heap.size (by rfl) (.tmp 17) (.tmp 23) 26 62 (.agg #[(.int .i64 0), (.int .i64 0), (.bool false), (.slice none 0 0), (.bool false), (.slice none 0 0)]) 80 rfl Tryd.underlying26 info62 rfl (by decide) (by omega) u136005 x136005_1 (⟨t137, t138, t139, t140, t143, t144⟩ : S62) [.int .i64 t137, .int .i64 t138, .bool t139, .slice Ao17 t140.length co17, .bool t143, .slice Ao18 t144.length co18] (fun _ => True) (fun k_ => some k_ = (.slice Ao17 t140.length co17 : Value).ownBlock ∨ some k_ = (.slice Ao18 t144.length co18 : Value).ownBlock) rfl rfl ?aP (fun k_ hk_ => hk_.elim (fun h_ => ((Kd.R_mono (ok' := fun k_ => ((fun _ => True)) k_ ∧ some k_ ≠ (u136005 : Value).ownBlock) (Kd.R_apart' (HO142.out) (Kd.S_typed HO_136005.out) (by decide)) (fun k_ hk => ⟨trivial, hk.2⟩))).1 k_ h_.symm) (fun h_ => ((Kd.R_mono (ok' := fun k_ => ((fun _ => True)) k_ ∧ some k_ ≠ (u136005 : Value).ownBlock) (Kd.R_apart' (HO146.out) (Kd.S_typed HO_136005.out) (by decide)) (fun k_ hk => ⟨trivial, hk.2⟩))).1 k_ h_.symm)) ?aF ?aO ?aB ?aS ?aL ?_
      (case aP => exact k62_mkM _ _ _ (⟨t137, t138, t139, t140, t143, t144⟩ : S62) (Kd.R_mono (Kd.R_tight rfl (Kd.R_mono (ok' := fun k_ => ((fun _ => True)) k_ ∧ some k_ ≠ (u136005 : Value).ownBlock) (Kd.R_apart' (HO142.out) (Kd.S_typed HO_136005.out) (by decide)) (fun k_ hk => ⟨trivial, hk.2⟩))) (fun _ h_ => Or.inl h_)) (Kd.R_mono (Kd.R_tight rfl (Kd.R_mono (ok' := fun k_ => ((fun _ => True)) k_ ∧ some k_ ≠ (u136005 : Value).ownBlock) (Kd.R_apart' (HO146.out) (Kd.S_typed HO_136005.out) (by decide)) (fun k_ hk => ⟨trivial, hk.2⟩))) (fun _ h_ => Or.inr (h_))))
      (case aB => exact zb)
      (case aF => exact (fun _ _ => trivial))
      (case aO => exact (tSm HO_136005.out))
      (case aS => exact (below_size zb))
      (case aL => have := LMc13.out; omega)
      intro v148 w16 ho hb hg hat
      rw [← Ny147.out] at ho
      replace BK131 := Aside0.mk (blk_grown (tH BK131.out) hg (Kd.S_ne HO_136005.out BK131.out (by decide)))
      replace BK135 := Aside0.mk (blk_grown (tH BK135.out) hg (Kd.S_ne HO_136005.out BK135.out (by decide)))
      replace HB := Aside0.mk (hb)
      have HO149 := Aside0.mk (ho)
      clear HO_136005 HO142 HO146
      clear ho hb hg hat
      obtain ⟨Ao19, co19, eo19⟩ := Kd.S_slice HO149.out
      (first | subst eo19 | (injection eo19 with f1_ f2_ f3_; have f4_ := f1_.symm; have f5_ := f3_.symm; clear f1_ f2_ f3_; subst f4_; subst f5_))
      refine hK.out _ _ ⟨(blk_cell BK135.out 0).trans rfl, (blk_cell BK135.out 1).trans rfl, (blk_cell BK135.out 2).trans rfl, (blk_cell BK135.out 3).trans rfl, (blk_cell BK135.out 4).trans rfl, (blk_cell BK135.out 5).trans rfl, (tcl HB hw136_0), (tcl HB hw136_1), (tcl HB hw136_2), (tcl HB hw136_3), (tcl HB hw136_4), (tcl HB hw136_5)⟩ (fun hHeld => ?_)
      clear hK K
      refine tnm (some 24) ?_
      refine tpu 9 (some 25) #[true, true, true, true, true, true, true, true, true, true, false] ?_
      refine last_ (i := 10) (N := none) #[true, true, true, true, true, true, true, true, true, true, true] rfl rfl (one_of HT_.out (by kernel_rfl)) (by decide) (fun K hK => ?_)
      have hs20 : w16.cell? ⟨gb135, 5, none⟩ = some (u136005) := (blk_cell BK135.out 5).trans rfl
      have hfs20 := blk_frozen BK135.out 5
      have hns20_0 := NB131_135.out
      have hms20_0 := NB135_131.out
      refine tsk ?_
      refine hK.out _ _ ?_
      clear hK K
      refine done_ (done_of HT_.out (by kernel_rfl)) ?_
      try go_wp2
      go_roundg k1
      case measure => have := HK1.out; omega
      case rel => exact ⟨(wrap64 (x6_1 + 1)), (y147), (.slice Ao19 y147.length co19), tr, H', ⟨by have := HK1.out; omega⟩, ⟨tSm (Kd.S_types HO149.out BK135.out (by decide))⟩, ⟨tH BK131.out⟩, ⟨tP BK135.out⟩, ⟨zb⟩⟩
     ·rw [if_neg c13] at H
      exact absurd H (by simp)
    ·rw [if_neg c11] at H
     exact absurd H (by simp)
   ·rw [if_neg c10] at H
    have c10b0 : decide (x6_1 < (l1.length : Int)) = false := decide_eq_false c10
    clear c10
    simp only [Option.some.injEq, Prod.mk.injEq] at H
    obtain ⟨rfl, rfl, rfl, rfl, rfl, rfl⟩ := H
    have hnb21 := NB135_131.out
    have hnc21 := NB131_135.out
    obtain ⟨hcz22_0, hcz22_1, hcz22_2, hcz22_3, hcz22_4, hcz22_5, hfz22_0, hfz22_1, hfz22_2, hfz22_3, hfz22_4, hfz22_5⟩ := cells6 BK135.out
    obtain ⟨hcz23_0, hcz23_1, hcz23_2, hcz23_3, hcz23_4, hcz23_5, hfz23_0, hfz23_1, hfz23_2, hfz23_3, hfz23_4, hfz23_5⟩ := cells6 BK131.out
    obtain ⟨Ao24, co24, eo24⟩ := Kd.S_slice HO_136005.out
    subst eo24
    go_wp2
    refine bodyPost_ret (results_cell_row rfl _ _ gb131 28 #[.bool a0, .bool false, .int .i64 255, .int .i64 0, .int .i64 0, .slice Ao24 x136005_1.length co24] (0, 0) _ rfl (tP BK131.out) Tryd.underlying28 rfl (by kernel_rfl)) rfl ?_
    exact ⟨_, by first | rfl | (simp [errW_none, errW_some] <;> rfl) | (simp [*, errW_none, errW_some] <;> rfl), tSm (Kd.S_types HO_136005.out BK131.out (by decide)), zb⟩

end Go.Proofs.YtfjkpdhldeopaaaDoor.G

