/- A text of seat YtfjkpdhldeopaaaDoor: what the law FnExactBatchCut needs of this repo's texts (by pack.py). Not trusted: Lean checks it. -/
import Derived.Test.YtfjkpdhldeopaaaDoorKFnExactBatchCut6
namespace Go.Proofs.YtfjkpdhldeopaaaDoor.G
open Go.RowKit Go.Proofs.YtfjkpdhldeopaaaDoorW.PrintWords Go.Proofs.YtfjkpdhldeopaaaDoorW.PrintLast Go.Proofs.YtfjkpdhldeopaaaDoorW.PrintMore
attribute [local go_sem] max2_int min2_int max_two min_two max_three min_three max_four min_four   -- for this text's walks alone
set_option linter.unusedVariables false
set_option linter.unusedSimpArgs false

def laws_heldIntS.l0 : Nat → List Int → Int → Int → Option (Int)
 | 0, _, _, _ => none
 | k + 1, x0, x1, x5 => if x5 < (x0.length : Int) then (if 0 ≤ x5 then (if (rd x0 x5) = x1 then (laws_heldIntS.l0 k x0 (wrap64 (x1 + 1)) (wrap64 (x5 + 1))) else (some (-1))) else (none)) else (some x1)
def laws_heldIntS.f (k : Nat) (l0 : List Int) (a1 : Int) : Option (Int) := laws_heldIntS.l0 k l0 a1 0
set_option maxHeartbeats 8000000 in
set_option maxRecDepth 100000 in
theorem laws_heldIntS.calls (k : Nat) (A0 : Option Addr) (c0 : Nat) (l0 : List Int) (a1 : Int) (r : Int) (w : World) (hr0 : Kd.C (Kd.int .i64) w A0 l0.length l0) (hc0 : l0.length ≤ c0) (h : laws_heldIntS.f k l0 a1 = some r) :
  Calls Tryd.prog 53 #[.slice A0 l0.length c0, .int .i64 a1] w fun e w' => e = .returned (.int .i64 r) ∧ Drawn0 w w' := by
 have HR0 := Aside0.mk hr0
 have HC0 := Aside0.mk hc0
 clear hr0 hc0
 have H : (laws_heldIntS.l0 k l0 a1 0) = some r := h
 clear h
 have H' := Aside0.mk H
 clear H
 go_enter Tryd.func53, Tryd.ntmps53
 go_wp2
 go_loopg [1, 5] k (fun kq v1 v5 w' => ∃ (x1_1 : Int) (x5_1 : Int), v1 = .int .i64 x1_1 ∧ v5 = .int .i64 x5_1 ∧ Aside0 (laws_heldIntS.l0 kq l0 x1_1 x5_1 = some r) ∧ Aside0 (kq ≤ k) ∧ Drawn0 w w')
 case atStart => exact ⟨(a1), (0), tr, tr, H', ⟨Nat.le_refl _⟩, by repeat (first | exact Drawn0.refl _ | apply Drawn0.step)⟩
 case round =>
  clear H'
  obtain ⟨x1_1, x5_1, rfl, rfl, HA, HK1, ⟨m1, rfl⟩⟩ := hrel
  cases gk with
  | zero => exact absurd HA.out (by simp [laws_heldIntS.l0])
  | succ k1 =>
   have H := HA.out
   clear HA
   simp only [laws_heldIntS.l0] at H
   by_cases c3 : x5_1 < (l0.length : Int)
   ·rw [if_pos c3] at H
    have c3b0 : decide (x5_1 < (l0.length : Int)) = true := decide_eq_true c3
    clear c3
    by_cases c4 : 0 ≤ x5_1
    ·rw [if_pos c4] at H
     have c4b0 : decide (0 ≤ x5_1) = true := decide_eq_true c4
     clear c4
     by_cases c5 : (rd l0 x5_1) = x1_1
     ·rw [if_pos c5] at H
      have c5b0 : ((rd l0 x5_1) == x1_1) = true := beq_iff_eq.mpr c5
      have c5b1 : ((rd l0 x5_1) != x1_1) = false := bne_eq_false_iff_eq.mpr c5
      clear c5
      have H' := Aside0.mk H
      clear H
      have p299 : 0 ≤ (x5_1 : Int) := td
      have q299 : x5_1 < (l0.length : Int) := td
      obtain ⟨ad299, e299, hx299_0⟩ := Kd.at_int HR0.out x5_1 p299 q299
      cases e299
      replace p299 := eq_true p299
      replace q299 := eq_true q299
      go_wp2
      go_roundg k1
      case measure => have := HK1.out; omega
      case rel => exact ⟨(wrap64 (x1_1 + 1)), (wrap64 (x5_1 + 1)), tr, tr, H', ⟨by have := HK1.out; omega⟩, by repeat (first | exact Drawn0.refl _ | apply Drawn0.step)⟩
     ·rw [if_neg c5] at H
      have c5b0 : ((rd l0 x5_1) == x1_1) = false := beq_eq_false_iff_ne.mpr c5
      have c5b1 : ((rd l0 x5_1) != x1_1) = true := bne_iff_ne.mpr c5
      obtain rfl := Option.some.inj H
      have p299 : 0 ≤ (x5_1 : Int) := td
      have q299 : x5_1 < (l0.length : Int) := td
      obtain ⟨ad299, e299, hx299_0⟩ := Kd.at_int HR0.out x5_1 p299 q299
      cases e299
      replace p299 := eq_true p299
      replace q299 := eq_true q299
      go_wp2
      go_ret
      exact ⟨by first | rfl | (simp; done) | (simp [*]; done), by repeat (first | exact Drawn0.refl _ | apply Drawn0.step)⟩
    ·rw [if_neg c4] at H
     exact absurd H (by simp)
   ·rw [if_neg c3] at H
    have c3b0 : decide (x5_1 < (l0.length : Int)) = false := decide_eq_false c3
    clear c3
    obtain rfl := Option.some.inj H
    go_wp2
    go_ret
    exact ⟨by first | rfl | (simp; done) | (simp [*]; done), by repeat (first | exact Drawn0.refl _ | apply Drawn0.step)⟩

def laws_heldRecordS.l0 : Nat → List (S62) → Int → Int → Option (Int)
 | 0, _, _, _ => none
 | k + 1, x0, x1, x5 => if x5 < (x0.length : Int) then (if 0 ≤ x5 then (if ((rd_T62 x0 x5).f0) = x1 then (if ((rd_T62 x0 x5).f1) = (wrap64 (x1 + 1)) then (if (((rd_T62 x0 x5).f2) != ((Int.tmod (wrap64 ((wrap64 (x1 + 1)) + 1)) 3) == 0)) = true then (some (-1)) else ((laws_heldIntS.f k ((rd_T62 x0 x5).f3) (wrap64 ((wrap64 ((wrap64 (x1 + 1)) + 1)) + 1))).bind fun t304 => (if t304 < 0 then (some (-1)) else (if (((rd_T62 x0 x5).f4) != ((Int.tmod t304 3) == 0)) = true then (some (-1)) else ((laws_heldIntS.f k ((rd_T62 x0 x5).f5) (wrap64 (t304 + 1))).bind fun t307 => (if t307 < 0 then (some (-1)) else (laws_heldRecordS.l0 k x0 t307 (wrap64 (x5 + 1))))))))) else (some (-1))) else (some (-1))) else (none)) else (some x1)
def laws_heldRecordS.f (k : Nat) (l0 : List (S62)) (a1 : Int) : Option (Int) := laws_heldRecordS.l0 k l0 a1 0
set_option maxHeartbeats 8000000 in
set_option maxRecDepth 100000 in
theorem laws_heldRecordS.calls (k : Nat) (A0 : Option Addr) (c0 : Nat) (l0 : List (S62)) (a1 : Int) (r : Int) (w : World) (hr0 : Kd.C k62 w A0 l0.length l0) (hc0 : l0.length ≤ c0) (h : laws_heldRecordS.f k l0 a1 = some r) :
  Calls Tryd.prog 33 #[.slice A0 l0.length c0, .int .i64 a1] w fun e w' => e = .returned (.int .i64 r) ∧ Drawn0 w w' := by
 have HR0 := Aside0.mk hr0
 have HC0 := Aside0.mk hc0
 clear hr0 hc0
 have H : (laws_heldRecordS.l0 k l0 a1 0) = some r := h
 clear h
 have H' := Aside0.mk H
 clear H
 go_enter Tryd.func33, Tryd.ntmps33
 go_wp2
 go_loopg [1, 5] k (fun kq v1 v5 w' => ∃ (x1_1 : Int) (x5_1 : Int), v1 = .int .i64 x1_1 ∧ v5 = .int .i64 x5_1 ∧ Aside0 (laws_heldRecordS.l0 kq l0 x1_1 x5_1 = some r) ∧ Aside0 (kq ≤ k) ∧ Drawn0 w w')
 case atStart => exact ⟨(a1), (0), tr, tr, H', ⟨Nat.le_refl _⟩, by repeat (first | exact Drawn0.refl _ | apply Drawn0.step)⟩
 case round =>
  clear H'
  obtain ⟨x1_1, x5_1, rfl, rfl, HA, HK1, ⟨m1, rfl⟩⟩ := hrel
  cases gk with
  | zero => exact absurd HA.out (by simp [laws_heldRecordS.l0])
  | succ k1 =>
   have H := HA.out
   clear HA
   simp only [laws_heldRecordS.l0] at H
   by_cases c3 : x5_1 < (l0.length : Int)
   ·rw [if_pos c3] at H
    have c3b0 : decide (x5_1 < (l0.length : Int)) = true := decide_eq_true c3
    clear c3
    by_cases c4 : 0 ≤ x5_1
    ·rw [if_pos c4] at H
     have c4b0 : decide (0 ≤ x5_1) = true := decide_eq_true c4
     clear c4
     by_cases c5 : ((rd_T62 l0 x5_1).f0) = x1_1
     ·rw [if_pos c5] at H
      have c5b0 : (((rd_T62 l0 x5_1).f0) == x1_1) = true := beq_iff_eq.mpr c5
      have c5b1 : (((rd_T62 l0 x5_1).f0) != x1_1) = false := bne_eq_false_iff_eq.mpr c5
      clear c5
      by_cases c6 : ((rd_T62 l0 x5_1).f1) = (wrap64 (x1_1 + 1))
      ·rw [if_pos c6] at H
       have c6b0 : (((rd_T62 l0 x5_1).f1) == (wrap64 (x1_1 + 1))) = true := beq_iff_eq.mpr c6
       have c6b1 : (((rd_T62 l0 x5_1).f1) != (wrap64 (x1_1 + 1))) = false := bne_eq_false_iff_eq.mpr c6
       clear c6
       by_cases c7 : (((rd_T62 l0 x5_1).f2) != ((Int.tmod (wrap64 ((wrap64 (x1_1 + 1)) + 1)) 3) == 0)) = true
       ·rw [if_pos c7] at H
        have c7b0 : (((rd_T62 l0 x5_1).f2) != ((Int.tmod (wrap64 ((wrap64 (x1_1 + 1)) + 1)) 3) == 0)) = true := c7
        (try (have c7b1 : decide (((rd_T62 l0 x5_1).f2) = ((Int.tmod (wrap64 ((wrap64 (x1_1 + 1)) + 1)) 3) == 0)) = false := by simpa using c7))
        (try (have c7b2 : (((rd_T62 l0 x5_1).f2) == ((Int.tmod (wrap64 ((wrap64 (x1_1 + 1)) + 1)) 3) == 0)) = false := by simpa using c7))
        (try (have c7b3 : ¬ (((rd_T62 l0 x5_1).f2) = ((Int.tmod (wrap64 ((wrap64 (x1_1 + 1)) + 1)) 3) == 0)) := by simpa using c7))
        clear c7
        obtain rfl := Option.some.inj H
        have p300 : 0 ≤ (x5_1 : Int) := td
        have q300 : x5_1 < (l0.length : Int) := td
        obtain ⟨ad300, A300_3, c300_3, A300_5, c300_5, e300, hx300_0, hx300_1, hx300_2, hx300_3, hx300_4, hx300_5, hl300_3, hi300_3, hl300_5, hi300_5⟩ := at_T62 HR0.out x5_1 p300 q300
        cases e300
        have HR300_3 := Aside0.mk hi300_3
        have HC300_3 := Aside0.mk hl300_3
        clear hi300_3 hl300_3
        have HR300_5 := Aside0.mk hi300_5
        have HC300_5 := Aside0.mk hl300_5
        clear hi300_5 hl300_5
        replace p300 := eq_true p300
        replace q300 := eq_true q300
        have p301 : 0 ≤ (x5_1 : Int) := td
        have q301 : x5_1 < (l0.length : Int) := td
        obtain ⟨ad301, A301_3, c301_3, A301_5, c301_5, e301, hx301_0, hx301_1, hx301_2, hx301_3, hx301_4, hx301_5, hl301_3, hi301_3, hl301_5, hi301_5⟩ := at_T62 HR0.out x5_1 p301 q301
        obtain rfl : ad300 = ad301 := (by injection e301)
        have HR301_3 := Aside0.mk hi301_3
        have HC301_3 := Aside0.mk hl301_3
        clear hi301_3 hl301_3
        have HR301_5 := Aside0.mk hi301_5
        have HC301_5 := Aside0.mk hl301_5
        clear hi301_5 hl301_5
        replace p301 := eq_true p301
        replace q301 := eq_true q301
        have ea_ := Option.some.inj (hx300_3.symm.trans hx301_3)
        injection ea_ with ea_ en_ ec_
        subst ea_
        subst ec_
        clear en_
        have ea_ := Option.some.inj (hx300_5.symm.trans hx301_5)
        injection ea_ with ea_ en_ ec_
        subst ea_
        subst ec_
        clear en_
        have p302 : 0 ≤ (x5_1 : Int) := td
        have q302 : x5_1 < (l0.length : Int) := td
        obtain ⟨ad302, A302_3, c302_3, A302_5, c302_5, e302, hx302_0, hx302_1, hx302_2, hx302_3, hx302_4, hx302_5, hl302_3, hi302_3, hl302_5, hi302_5⟩ := at_T62 HR0.out x5_1 p302 q302
        obtain rfl : ad300 = ad302 := (by injection e302)
        have HR302_3 := Aside0.mk hi302_3
        have HC302_3 := Aside0.mk hl302_3
        clear hi302_3 hl302_3
        have HR302_5 := Aside0.mk hi302_5
        have HC302_5 := Aside0.mk hl302_5
        clear hi302_5 hl302_5
        replace p302 := eq_true p302
        replace q302 := eq_true q302
        have ea_ := Option.some.inj (hx300_3.symm.trans hx302_3)
        injection ea_ with ea_ en_ ec_
        subst ea_
        subst ec_
        clear en_
        have ea_ := Option.some.inj (hx300_5.symm.trans hx302_5)
        injection ea_ with ea_ en_ ec_
        subst ea_
        subst ec_
        clear en_
        go_wp2
        go_ret
        exact ⟨by first | rfl | (simp; done) | (simp [*]; done), by repeat (first | exact Drawn0.refl _ | apply Drawn0.step)⟩
       ·rw [if_neg c7] at H
        have c7b0 : (((rd_T62 l0 x5_1).f2) != ((Int.tmod (wrap64 ((wrap64 (x1_1 + 1)) + 1)) 3) == 0)) = false := by simpa using c7
        (try (have c7b1 : decide (((rd_T62 l0 x5_1).f2) = ((Int.tmod (wrap64 ((wrap64 (x1_1 + 1)) + 1)) 3) == 0)) = true := by simpa using c7))
        (try (have c7b2 : (((rd_T62 l0 x5_1).f2) == ((Int.tmod (wrap64 ((wrap64 (x1_1 + 1)) + 1)) 3) == 0)) = true := by simpa using c7))
        clear c7
        replace H := tbe H
        obtain ⟨t304, A8, H⟩ := H
        by_cases c9 : t304 < 0
        ·rw [if_pos c9] at H
         have c9b0 : decide (t304 < 0) = true := decide_eq_true c9
         clear c9
         obtain rfl := Option.some.inj H
         have p300 : 0 ≤ (x5_1 : Int) := td
         have q300 : x5_1 < (l0.length : Int) := td
         obtain ⟨ad300, A300_3, c300_3, A300_5, c300_5, e300, hx300_0, hx300_1, hx300_2, hx300_3, hx300_4, hx300_5, hl300_3, hi300_3, hl300_5, hi300_5⟩ := at_T62 HR0.out x5_1 p300 q300
         cases e300
         have HR300_3 := Aside0.mk hi300_3
         have HC300_3 := Aside0.mk hl300_3
         clear hi300_3 hl300_3
         have HR300_5 := Aside0.mk hi300_5
         have HC300_5 := Aside0.mk hl300_5
         clear hi300_5 hl300_5
         replace p300 := eq_true p300
         replace q300 := eq_true q300
         have p301 : 0 ≤ (x5_1 : Int) := td
         have q301 : x5_1 < (l0.length : Int) := td
         obtain ⟨ad301, A301_3, c301_3, A301_5, c301_5, e301, hx301_0, hx301_1, hx301_2, hx301_3, hx301_4, hx301_5, hl301_3, hi301_3, hl301_5, hi301_5⟩ := at_T62 HR0.out x5_1 p301 q301
         obtain rfl : ad300 = ad301 := (by injection e301)
         have HR301_3 := Aside0.mk hi301_3
         have HC301_3 := Aside0.mk hl301_3
         clear hi301_3 hl301_3
         have HR301_5 := Aside0.mk hi301_5
         have HC301_5 := Aside0.mk hl301_5
         clear hi301_5 hl301_5
         replace p301 := eq_true p301
         replace q301 := eq_true q301
         have ea_ := Option.some.inj (hx300_3.symm.trans hx301_3)
         injection ea_ with ea_ en_ ec_
         subst ea_
         subst ec_
         clear en_
         have ea_ := Option.some.inj (hx300_5.symm.trans hx301_5)
         injection ea_ with ea_ en_ ec_
         subst ea_
         subst ec_
         clear en_
         have p302 : 0 ≤ (x5_1 : Int) := td
         have q302 : x5_1 < (l0.length : Int) := td
         obtain ⟨ad302, A302_3, c302_3, A302_5, c302_5, e302, hx302_0, hx302_1, hx302_2, hx302_3, hx302_4, hx302_5, hl302_3, hi302_3, hl302_5, hi302_5⟩ := at_T62 HR0.out x5_1 p302 q302
         obtain rfl : ad300 = ad302 := (by injection e302)
         have HR302_3 := Aside0.mk hi302_3
         have HC302_3 := Aside0.mk hl302_3
         clear hi302_3 hl302_3
         have HR302_5 := Aside0.mk hi302_5
         have HC302_5 := Aside0.mk hl302_5
         clear hi302_5 hl302_5
         replace p302 := eq_true p302
         replace q302 := eq_true q302
         have ea_ := Option.some.inj (hx300_3.symm.trans hx302_3)
         injection ea_ with ea_ en_ ec_
         subst ea_
         subst ec_
         clear en_
         have ea_ := Option.some.inj (hx300_5.symm.trans hx302_5)
         injection ea_ with ea_ en_ ec_
         subst ea_
         subst ec_
         clear en_
         have p303 : 0 ≤ (x5_1 : Int) := td
         have q303 : x5_1 < (l0.length : Int) := td
         obtain ⟨ad303, A303_3, c303_3, A303_5, c303_5, e303, hx303_0, hx303_1, hx303_2, hx303_3, hx303_4, hx303_5, hl303_3, hi303_3, hl303_5, hi303_5⟩ := at_T62 HR0.out x5_1 p303 q303
         obtain rfl : ad300 = ad303 := (by injection e303)
         have HR303_3 := Aside0.mk hi303_3
         have HC303_3 := Aside0.mk hl303_3
         clear hi303_3 hl303_3
         have HR303_5 := Aside0.mk hi303_5
         have HC303_5 := Aside0.mk hl303_5
         clear hi303_5 hl303_5
         replace p303 := eq_true p303
         replace q303 := eq_true q303
         have ea_ := Option.some.inj (hx300_3.symm.trans hx303_3)
         injection ea_ with ea_ en_ ec_
         subst ea_
         subst ec_
         clear en_
         have ea_ := Option.some.inj (hx300_5.symm.trans hx303_5)
         injection ea_ with ea_ en_ ec_
         subst ea_
         subst ec_
         clear en_
         go_wp2_with (first | ((with_reducible refine gate_callee (f := 53) rfl ?_); refine goesL_ (some 47) rfl rfl Tryd.func53 (by kernel_rfl) rfl #[.slice A300_3 ((rd_T62 l0 x5_1).f3).length c300_3, .int .i64 (wrap64 ((wrap64 ((wrap64 (x1_1 + 1)) + 1)) + 1))] rfl tq ?_; (with_reducible refine (laws_heldIntS.calls k1 _ _ ((rd_T62 l0 x5_1).f3) (wrap64 ((wrap64 ((wrap64 (x1_1 + 1)) + 1)) + 1)) t304 _ ?side1 ?side2 A8.out).mono ?_); (case side1 => exact tC HR303_3.out); (case side2 => exact HC303_3.out); rintro e w' ⟨rfl, ⟨nd, rfl⟩⟩; refine ⟨_, rfl, ?_⟩))
         go_ret
         exact ⟨by first | rfl | (simp; done) | (simp [*]; done), by repeat (first | exact Drawn0.refl _ | apply Drawn0.step)⟩
        ·rw [if_neg c9] at H
         have c9b0 : decide (t304 < 0) = false := decide_eq_false c9
         clear c9
         by_cases c10 : (((rd_T62 l0 x5_1).f4) != ((Int.tmod t304 3) == 0)) = true
         ·rw [if_pos c10] at H
          have c10b0 : (((rd_T62 l0 x5_1).f4) != ((Int.tmod t304 3) == 0)) = true := c10
          (try (have c10b1 : decide (((rd_T62 l0 x5_1).f4) = ((Int.tmod t304 3) == 0)) = false := by simpa using c10))
          (try (have c10b2 : (((rd_T62 l0 x5_1).f4) == ((Int.tmod t304 3) == 0)) = false := by simpa using c10))
          (try (have c10b3 : ¬ (((rd_T62 l0 x5_1).f4) = ((Int.tmod t304 3) == 0)) := by simpa using c10))
          clear c10
          obtain rfl := Option.some.inj H
          have p300 : 0 ≤ (x5_1 : Int) := td
          have q300 : x5_1 < (l0.length : Int) := td
          obtain ⟨ad300, A300_3, c300_3, A300_5, c300_5, e300, hx300_0, hx300_1, hx300_2, hx300_3, hx300_4, hx300_5, hl300_3, hi300_3, hl300_5, hi300_5⟩ := at_T62 HR0.out x5_1 p300 q300
          cases e300
          have HR300_3 := Aside0.mk hi300_3
          have HC300_3 := Aside0.mk hl300_3
          clear hi300_3 hl300_3
          have HR300_5 := Aside0.mk hi300_5
          have HC300_5 := Aside0.mk hl300_5
          clear hi300_5 hl300_5
          replace p300 := eq_true p300
          replace q300 := eq_true q300
          have p301 : 0 ≤ (x5_1 : Int) := td
          have q301 : x5_1 < (l0.length : Int) := td
          obtain ⟨ad301, A301_3, c301_3, A301_5, c301_5, e301, hx301_0, hx301_1, hx301_2, hx301_3, hx301_4, hx301_5, hl301_3, hi301_3, hl301_5, hi301_5⟩ := at_T62 HR0.out x5_1 p301 q301
          obtain rfl : ad300 = ad301 := (by injection e301)
          have HR301_3 := Aside0.mk hi301_3
          have HC301_3 := Aside0.mk hl301_3
          clear hi301_3 hl301_3
          have HR301_5 := Aside0.mk hi301_5
          have HC301_5 := Aside0.mk hl301_5
          clear hi301_5 hl301_5
          replace p301 := eq_true p301
          replace q301 := eq_true q301
          have ea_ := Option.some.inj (hx300_3.symm.trans hx301_3)
          injection ea_ with ea_ en_ ec_
          subst ea_
          subst ec_
          clear en_
          have ea_ := Option.some.inj (hx300_5.symm.trans hx301_5)
          injection ea_ with ea_ en_ ec_
          subst ea_
          subst ec_
          clear en_
          have p302 : 0 ≤ (x5_1 : Int) := td
          have q302 : x5_1 < (l0.length : Int) := td
          obtain ⟨ad302, A302_3, c302_3, A302_5, c302_5, e302, hx302_0, hx302_1, hx302_2, hx302_3, hx302_4, hx302_5, hl302_3, hi302_3, hl302_5, hi302_5⟩ := at_T62 HR0.out x5_1 p302 q302
          obtain rfl : ad300 = ad302 := (by injection e302)
          have HR302_3 := Aside0.mk hi302_3
          have HC302_3 := Aside0.mk hl302_3
          clear hi302_3 hl302_3
          have HR302_5 := Aside0.mk hi302_5
          have HC302_5 := Aside0.mk hl302_5
          clear hi302_5 hl302_5
          replace p302 := eq_true p302
          replace q302 := eq_true q302
          have ea_ := Option.some.inj (hx300_3.symm.trans hx302_3)
          injection ea_ with ea_ en_ ec_
          subst ea_
          subst ec_
          clear en_
          have ea_ := Option.some.inj (hx300_5.symm.trans hx302_5)
          injection ea_ with ea_ en_ ec_
          subst ea_
          subst ec_
          clear en_
          have p303 : 0 ≤ (x5_1 : Int) := td
          have q303 : x5_1 < (l0.length : Int) := td
          obtain ⟨ad303, A303_3, c303_3, A303_5, c303_5, e303, hx303_0, hx303_1, hx303_2, hx303_3, hx303_4, hx303_5, hl303_3, hi303_3, hl303_5, hi303_5⟩ := at_T62 HR0.out x5_1 p303 q303
          obtain rfl : ad300 = ad303 := (by injection e303)
          have HR303_3 := Aside0.mk hi303_3
          have HC303_3 := Aside0.mk hl303_3
          clear hi303_3 hl303_3
          have HR303_5 := Aside0.mk hi303_5
          have HC303_5 := Aside0.mk hl303_5
          clear hi303_5 hl303_5
          replace p303 := eq_true p303
          replace q303 := eq_true q303
          have ea_ := Option.some.inj (hx300_3.symm.trans hx303_3)
          injection ea_ with ea_ en_ ec_
          subst ea_
          subst ec_
          clear en_
          have ea_ := Option.some.inj (hx300_5.symm.trans hx303_5)
          injection ea_ with ea_ en_ ec_
          subst ea_
          subst ec_
          clear en_
          go_wp2_with (first | ((with_reducible refine gate_callee (f := 53) rfl ?_); refine goesL_ (some 47) rfl rfl Tryd.func53 (by kernel_rfl) rfl #[.slice A300_3 ((rd_T62 l0 x5_1).f3).length c300_3, .int .i64 (wrap64 ((wrap64 ((wrap64 (x1_1 + 1)) + 1)) + 1))] rfl tq ?_; (with_reducible refine (laws_heldIntS.calls k1 _ _ ((rd_T62 l0 x5_1).f3) (wrap64 ((wrap64 ((wrap64 (x1_1 + 1)) + 1)) + 1)) t304 _ ?side1 ?side2 A8.out).mono ?_); (case side1 => exact tC HR303_3.out); (case side2 => exact HC303_3.out); rintro e w' ⟨rfl, ⟨nd, rfl⟩⟩; refine ⟨_, rfl, ?_⟩; have p305 : 0 ≤ (x5_1 : Int) := td; have q305 : x5_1 < (l0.length : Int) := td; obtain ⟨ad305, A305_3, c305_3, A305_5, c305_5, e305, hx305_0, hx305_1, hx305_2, hx305_3, hx305_4, hx305_5, hl305_3, hi305_3, hl305_5, hi305_5⟩ := at_T62 HR0.out x5_1 p305 q305; obtain rfl : ad300 = ad305 := (by injection e305); have HR305_3 := Aside0.mk hi305_3; have HC305_3 := Aside0.mk hl305_3; clear hi305_3 hl305_3; have HR305_5 := Aside0.mk hi305_5; have HC305_5 := Aside0.mk hl305_5; clear hi305_5 hl305_5; replace p305 := eq_true p305; replace q305 := eq_true q305; have ea_ := Option.some.inj (hx300_3.symm.trans hx305_3); injection ea_ with ea_ en_ ec_; subst ea_; subst ec_; clear en_; have ea_ := Option.some.inj (hx300_5.symm.trans hx305_5); injection ea_ with ea_ en_ ec_; subst ea_; subst ec_; clear en_))
          go_ret
          exact ⟨by first | rfl | (simp; done) | (simp [*]; done), by repeat (first | exact Drawn0.refl _ | apply Drawn0.step)⟩
         ·rw [if_neg c10] at H
          have c10b0 : (((rd_T62 l0 x5_1).f4) != ((Int.tmod t304 3) == 0)) = false := by simpa using c10
          (try (have c10b1 : decide (((rd_T62 l0 x5_1).f4) = ((Int.tmod t304 3) == 0)) = true := by simpa using c10))
          (try (have c10b2 : (((rd_T62 l0 x5_1).f4) == ((Int.tmod t304 3) == 0)) = true := by simpa using c10))
          clear c10
          replace H := tbe H
          obtain ⟨t307, A11, H⟩ := H
          by_cases c12 : t307 < 0
          ·rw [if_pos c12] at H
           have c12b0 : decide (t307 < 0) = true := decide_eq_true c12
           clear c12
           obtain rfl := Option.some.inj H
           have p300 : 0 ≤ (x5_1 : Int) := td
           have q300 : x5_1 < (l0.length : Int) := td
           obtain ⟨ad300, A300_3, c300_3, A300_5, c300_5, e300, hx300_0, hx300_1, hx300_2, hx300_3, hx300_4, hx300_5, hl300_3, hi300_3, hl300_5, hi300_5⟩ := at_T62 HR0.out x5_1 p300 q300
           cases e300
           have HR300_3 := Aside0.mk hi300_3
           have HC300_3 := Aside0.mk hl300_3
           clear hi300_3 hl300_3
           have HR300_5 := Aside0.mk hi300_5
           have HC300_5 := Aside0.mk hl300_5
           clear hi300_5 hl300_5
           replace p300 := eq_true p300
           replace q300 := eq_true q300
           have p301 : 0 ≤ (x5_1 : Int) := td
           have q301 : x5_1 < (l0.length : Int) := td
           obtain ⟨ad301, A301_3, c301_3, A301_5, c301_5, e301, hx301_0, hx301_1, hx301_2, hx301_3, hx301_4, hx301_5, hl301_3, hi301_3, hl301_5, hi301_5⟩ := at_T62 HR0.out x5_1 p301 q301
           obtain rfl : ad300 = ad301 := (by injection e301)
           have HR301_3 := Aside0.mk hi301_3
           have HC301_3 := Aside0.mk hl301_3
           clear hi301_3 hl301_3
           have HR301_5 := Aside0.mk hi301_5
           have HC301_5 := Aside0.mk hl301_5
           clear hi301_5 hl301_5
           replace p301 := eq_true p301
           replace q301 := eq_true q301
           have ea_ := Option.some.inj (hx300_3.symm.trans hx301_3)
           injection ea_ with ea_ en_ ec_
           subst ea_
           subst ec_
           clear en_
           have ea_ := Option.some.inj (hx300_5.symm.trans hx301_5)
           injection ea_ with ea_ en_ ec_
           subst ea_
           subst ec_
           clear en_
           have p302 : 0 ≤ (x5_1 : Int) := td
           have q302 : x5_1 < (l0.length : Int) := td
           obtain ⟨ad302, A302_3, c302_3, A302_5, c302_5, e302, hx302_0, hx302_1, hx302_2, hx302_3, hx302_4, hx302_5, hl302_3, hi302_3, hl302_5, hi302_5⟩ := at_T62 HR0.out x5_1 p302 q302
           obtain rfl : ad300 = ad302 := (by injection e302)
           have HR302_3 := Aside0.mk hi302_3
           have HC302_3 := Aside0.mk hl302_3
           clear hi302_3 hl302_3
           have HR302_5 := Aside0.mk hi302_5
           have HC302_5 := Aside0.mk hl302_5
           clear hi302_5 hl302_5
           replace p302 := eq_true p302
           replace q302 := eq_true q302
           have ea_ := Option.some.inj (hx300_3.symm.trans hx302_3)
           injection ea_ with ea_ en_ ec_
           subst ea_
           subst ec_
           clear en_
           have ea_ := Option.some.inj (hx300_5.symm.trans hx302_5)
           injection ea_ with ea_ en_ ec_
           subst ea_
           subst ec_
           clear en_
           have p303 : 0 ≤ (x5_1 : Int) := td
           have q303 : x5_1 < (l0.length : Int) := td
           obtain ⟨ad303, A303_3, c303_3, A303_5, c303_5, e303, hx303_0, hx303_1, hx303_2, hx303_3, hx303_4, hx303_5, hl303_3, hi303_3, hl303_5, hi303_5⟩ := at_T62 HR0.out x5_1 p303 q303
           obtain rfl : ad300 = ad303 := (by injection e303)
           have HR303_3 := Aside0.mk hi303_3
           have HC303_3 := Aside0.mk hl303_3
           clear hi303_3 hl303_3
           have HR303_5 := Aside0.mk hi303_5
           have HC303_5 := Aside0.mk hl303_5
           clear hi303_5 hl303_5
           replace p303 := eq_true p303
           replace q303 := eq_true q303
           have ea_ := Option.some.inj (hx300_3.symm.trans hx303_3)
           injection ea_ with ea_ en_ ec_
           subst ea_
           subst ec_
           clear en_
           have ea_ := Option.some.inj (hx300_5.symm.trans hx303_5)
           injection ea_ with ea_ en_ ec_
           subst ea_
           subst ec_
           clear en_
           go_wp2_with (first | ((with_reducible refine gate_callee (f := 53) rfl ?_); refine goesL_ (some 47) rfl rfl Tryd.func53 (by kernel_rfl) rfl #[.slice A300_3 ((rd_T62 l0 x5_1).f3).length c300_3, .int .i64 (wrap64 ((wrap64 ((wrap64 (x1_1 + 1)) + 1)) + 1))] rfl tq ?_; (with_reducible refine (laws_heldIntS.calls k1 _ _ ((rd_T62 l0 x5_1).f3) (wrap64 ((wrap64 ((wrap64 (x1_1 + 1)) + 1)) + 1)) t304 _ ?side1 ?side2 A8.out).mono ?_); (case side1 => exact tC HR303_3.out); (case side2 => exact HC303_3.out); rintro e w' ⟨rfl, ⟨nd, rfl⟩⟩; refine ⟨_, rfl, ?_⟩; have p305 : 0 ≤ (x5_1 : Int) := td; have q305 : x5_1 < (l0.length : Int) := td; obtain ⟨ad305, A305_3, c305_3, A305_5, c305_5, e305, hx305_0, hx305_1, hx305_2, hx305_3, hx305_4, hx305_5, hl305_3, hi305_3, hl305_5, hi305_5⟩ := at_T62 HR0.out x5_1 p305 q305; obtain rfl : ad300 = ad305 := (by injection e305); have HR305_3 := Aside0.mk hi305_3; have HC305_3 := Aside0.mk hl305_3; clear hi305_3 hl305_3; have HR305_5 := Aside0.mk hi305_5; have HC305_5 := Aside0.mk hl305_5; clear hi305_5 hl305_5; replace p305 := eq_true p305; replace q305 := eq_true q305; have ea_ := Option.some.inj (hx300_3.symm.trans hx305_3); injection ea_ with ea_ en_ ec_; subst ea_; subst ec_; clear en_; have ea_ := Option.some.inj (hx300_5.symm.trans hx305_5); injection ea_ with ea_ en_ ec_; subst ea_; subst ec_; clear en_; have p306 : 0 ≤ (x5_1 : Int) := td; have q306 : x5_1 < (l0.length : Int) := td; obtain ⟨ad306, A306_3, c306_3, A306_5, c306_5, e306, hx306_0, hx306_1, hx306_2, hx306_3, hx306_4, hx306_5, hl306_3, hi306_3, hl306_5, hi306_5⟩ := at_T62 HR0.out x5_1 p306 q306; obtain rfl : ad300 = ad306 := (by injection e306); have HR306_3 := Aside0.mk hi306_3; have HC306_3 := Aside0.mk hl306_3; clear hi306_3 hl306_3; have HR306_5 := Aside0.mk hi306_5; have HC306_5 := Aside0.mk hl306_5; clear hi306_5 hl306_5; replace p306 := eq_true p306; replace q306 := eq_true q306; have ea_ := Option.some.inj (hx300_3.symm.trans hx306_3); injection ea_ with ea_ en_ ec_; subst ea_; subst ec_; clear en_; have ea_ := Option.some.inj (hx300_5.symm.trans hx306_5); injection ea_ with ea_ en_ ec_; subst ea_; subst ec_; clear en_) | ((with_reducible refine gate_callee (f := 53) rfl ?_); refine goesL_ (some 67) rfl rfl Tryd.func53 (by kernel_rfl) rfl #[.slice A300_5 ((rd_T62 l0 x5_1).f5).length c300_5, .int .i64 (wrap64 (t304 + 1))] rfl tq ?_; (with_reducible refine (laws_heldIntS.calls k1 _ _ ((rd_T62 l0 x5_1).f5) (wrap64 (t304 + 1)) t307 _ ?side1 ?side2 A11.out).mono ?_); (case side1 => exact tC HR306_5.out); (case side2 => exact HC306_5.out); rintro e w' ⟨rfl, ⟨nd, rfl⟩⟩; refine ⟨_, rfl, ?_⟩))
           go_ret
           exact ⟨by first | rfl | (simp; done) | (simp [*]; done), by repeat (first | exact Drawn0.refl _ | apply Drawn0.step)⟩
          ·rw [if_neg c12] at H
           have c12b0 : decide (t307 < 0) = false := decide_eq_false c12
           clear c12
           have H' := Aside0.mk H
           clear H
           have p300 : 0 ≤ (x5_1 : Int) := td
           have q300 : x5_1 < (l0.length : Int) := td
           obtain ⟨ad300, A300_3, c300_3, A300_5, c300_5, e300, hx300_0, hx300_1, hx300_2, hx300_3, hx300_4, hx300_5, hl300_3, hi300_3, hl300_5, hi300_5⟩ := at_T62 HR0.out x5_1 p300 q300
           cases e300
           have HR300_3 := Aside0.mk hi300_3
           have HC300_3 := Aside0.mk hl300_3
           clear hi300_3 hl300_3
           have HR300_5 := Aside0.mk hi300_5
           have HC300_5 := Aside0.mk hl300_5
           clear hi300_5 hl300_5
           replace p300 := eq_true p300
           replace q300 := eq_true q300
           have p301 : 0 ≤ (x5_1 : Int) := td
           have q301 : x5_1 < (l0.length : Int) := td
           obtain ⟨ad301, A301_3, c301_3, A301_5, c301_5, e301, hx301_0, hx301_1, hx301_2, hx301_3, hx301_4, hx301_5, hl301_3, hi301_3, hl301_5, hi301_5⟩ := at_T62 HR0.out x5_1 p301 q301
           obtain rfl : ad300 = ad301 := (by injection e301)
           have HR301_3 := Aside0.mk hi301_3
           have HC301_3 := Aside0.mk hl301_3
           clear hi301_3 hl301_3
           have HR301_5 := Aside0.mk hi301_5
           have HC301_5 := Aside0.mk hl301_5
           clear hi301_5 hl301_5
           replace p301 := eq_true p301
           replace q301 := eq_true q301
           have ea_ := Option.some.inj (hx300_3.symm.trans hx301_3)
           injection ea_ with ea_ en_ ec_
           subst ea_
           subst ec_
           clear en_
           have ea_ := Option.some.inj (hx300_5.symm.trans hx301_5)
           injection ea_ with ea_ en_ ec_
           subst ea_
           subst ec_
           clear en_
           have p302 : 0 ≤ (x5_1 : Int) := td
           have q302 : x5_1 < (l0.length : Int) := td
           obtain ⟨ad302, A302_3, c302_3, A302_5, c302_5, e302, hx302_0, hx302_1, hx302_2, hx302_3, hx302_4, hx302_5, hl302_3, hi302_3, hl302_5, hi302_5⟩ := at_T62 HR0.out x5_1 p302 q302
           obtain rfl : ad300 = ad302 := (by injection e302)
           have HR302_3 := Aside0.mk hi302_3
           have HC302_3 := Aside0.mk hl302_3
           clear hi302_3 hl302_3
           have HR302_5 := Aside0.mk hi302_5
           have HC302_5 := Aside0.mk hl302_5
           clear hi302_5 hl302_5
           replace p302 := eq_true p302
           replace q302 := eq_true q302
           have ea_ := Option.some.inj (hx300_3.symm.trans hx302_3)
           injection ea_ with ea_ en_ ec_
           subst ea_
           subst ec_
           clear en_
           have ea_ := Option.some.inj (hx300_5.symm.trans hx302_5)
           injection ea_ with ea_ en_ ec_
           subst ea_
           subst ec_
           clear en_
           have p303 : 0 ≤ (x5_1 : Int) := td
           have q303 : x5_1 < (l0.length : Int) := td
           obtain ⟨ad303, A303_3, c303_3, A303_5, c303_5, e303, hx303_0, hx303_1, hx303_2, hx303_3, hx303_4, hx303_5, hl303_3, hi303_3, hl303_5, hi303_5⟩ := at_T62 HR0.out x5_1 p303 q303
           obtain rfl : ad300 = ad303 := (by injection e303)
           have HR303_3 := Aside0.mk hi303_3
           have HC303_3 := Aside0.mk hl303_3
           clear hi303_3 hl303_3
           have HR303_5 := Aside0.mk hi303_5
           have HC303_5 := Aside0.mk hl303_5
           clear hi303_5 hl303_5
           replace p303 := eq_true p303
           replace q303 := eq_true q303
           have ea_ := Option.some.inj (hx300_3.symm.trans hx303_3)
           injection ea_ with ea_ en_ ec_
           subst ea_
           subst ec_
           clear en_
           have ea_ := Option.some.inj (hx300_5.symm.trans hx303_5)
           injection ea_ with ea_ en_ ec_
           subst ea_
           subst ec_
           clear en_
           go_wp2_with (first | ((with_reducible refine gate_callee (f := 53) rfl ?_); refine goesL_ (some 47) rfl rfl Tryd.func53 (by kernel_rfl) rfl #[.slice A300_3 ((rd_T62 l0 x5_1).f3).length c300_3, .int .i64 (wrap64 ((wrap64 ((wrap64 (x1_1 + 1)) + 1)) + 1))] rfl tq ?_; (with_reducible refine (laws_heldIntS.calls k1 _ _ ((rd_T62 l0 x5_1).f3) (wrap64 ((wrap64 ((wrap64 (x1_1 + 1)) + 1)) + 1)) t304 _ ?side1 ?side2 A8.out).mono ?_); (case side1 => exact tC HR303_3.out); (case side2 => exact HC303_3.out); rintro e w' ⟨rfl, ⟨nd, rfl⟩⟩; refine ⟨_, rfl, ?_⟩; have p305 : 0 ≤ (x5_1 : Int) := td; have q305 : x5_1 < (l0.length : Int) := td; obtain ⟨ad305, A305_3, c305_3, A305_5, c305_5, e305, hx305_0, hx305_1, hx305_2, hx305_3, hx305_4, hx305_5, hl305_3, hi305_3, hl305_5, hi305_5⟩ := at_T62 HR0.out x5_1 p305 q305; obtain rfl : ad300 = ad305 := (by injection e305); have HR305_3 := Aside0.mk hi305_3; have HC305_3 := Aside0.mk hl305_3; clear hi305_3 hl305_3; have HR305_5 := Aside0.mk hi305_5; have HC305_5 := Aside0.mk hl305_5; clear hi305_5 hl305_5; replace p305 := eq_true p305; replace q305 := eq_true q305; have ea_ := Option.some.inj (hx300_3.symm.trans hx305_3); injection ea_ with ea_ en_ ec_; subst ea_; subst ec_; clear en_; have ea_ := Option.some.inj (hx300_5.symm.trans hx305_5); injection ea_ with ea_ en_ ec_; subst ea_; subst ec_; clear en_; have p306 : 0 ≤ (x5_1 : Int) := td; have q306 : x5_1 < (l0.length : Int) := td; obtain ⟨ad306, A306_3, c306_3, A306_5, c306_5, e306, hx306_0, hx306_1, hx306_2, hx306_3, hx306_4, hx306_5, hl306_3, hi306_3, hl306_5, hi306_5⟩ := at_T62 HR0.out x5_1 p306 q306; obtain rfl : ad300 = ad306 := (by injection e306); have HR306_3 := Aside0.mk hi306_3; have HC306_3 := Aside0.mk hl306_3; clear hi306_3 hl306_3; have HR306_5 := Aside0.mk hi306_5; have HC306_5 := Aside0.mk hl306_5; clear hi306_5 hl306_5; replace p306 := eq_true p306; replace q306 := eq_true q306; have ea_ := Option.some.inj (hx300_3.symm.trans hx306_3); injection ea_ with ea_ en_ ec_; subst ea_; subst ec_; clear en_; have ea_ := Option.some.inj (hx300_5.symm.trans hx306_5); injection ea_ with ea_ en_ ec_; subst ea_; subst ec_; clear en_) | ((with_reducible refine gate_callee (f := 53) rfl ?_); refine goesL_ (some 67) rfl rfl Tryd.func53 (by kernel_rfl) rfl #[.slice A300_5 ((rd_T62 l0 x5_1).f5).length c300_5, .int .i64 (wrap64 (t304 + 1))] rfl tq ?_; (with_reducible refine (laws_heldIntS.calls k1 _ _ ((rd_T62 l0 x5_1).f5) (wrap64 (t304 + 1)) t307 _ ?side1 ?side2 A11.out).mono ?_); (case side1 => exact tC HR306_5.out); (case side2 => exact HC306_5.out); rintro e w' ⟨rfl, ⟨nd, rfl⟩⟩; refine ⟨_, rfl, ?_⟩))
           go_roundg k1
           case measure => have := HK1.out; omega
           case rel => exact ⟨(t307), (wrap64 (x5_1 + 1)), tr, tr, H', ⟨by have := HK1.out; omega⟩, by repeat (first | exact Drawn0.refl _ | apply Drawn0.step)⟩
      ·rw [if_neg c6] at H
       have c6b0 : (((rd_T62 l0 x5_1).f1) == (wrap64 (x1_1 + 1))) = false := beq_eq_false_iff_ne.mpr c6
       have c6b1 : (((rd_T62 l0 x5_1).f1) != (wrap64 (x1_1 + 1))) = true := bne_iff_ne.mpr c6
       obtain rfl := Option.some.inj H
       have p300 : 0 ≤ (x5_1 : Int) := td
       have q300 : x5_1 < (l0.length : Int) := td
       obtain ⟨ad300, A300_3, c300_3, A300_5, c300_5, e300, hx300_0, hx300_1, hx300_2, hx300_3, hx300_4, hx300_5, hl300_3, hi300_3, hl300_5, hi300_5⟩ := at_T62 HR0.out x5_1 p300 q300
       cases e300
       have HR300_3 := Aside0.mk hi300_3
       have HC300_3 := Aside0.mk hl300_3
       clear hi300_3 hl300_3
       have HR300_5 := Aside0.mk hi300_5
       have HC300_5 := Aside0.mk hl300_5
       clear hi300_5 hl300_5
       replace p300 := eq_true p300
       replace q300 := eq_true q300
       have p301 : 0 ≤ (x5_1 : Int) := td
       have q301 : x5_1 < (l0.length : Int) := td
       obtain ⟨ad301, A301_3, c301_3, A301_5, c301_5, e301, hx301_0, hx301_1, hx301_2, hx301_3, hx301_4, hx301_5, hl301_3, hi301_3, hl301_5, hi301_5⟩ := at_T62 HR0.out x5_1 p301 q301
       obtain rfl : ad300 = ad301 := (by injection e301)
       have HR301_3 := Aside0.mk hi301_3
       have HC301_3 := Aside0.mk hl301_3
       clear hi301_3 hl301_3
       have HR301_5 := Aside0.mk hi301_5
       have HC301_5 := Aside0.mk hl301_5
       clear hi301_5 hl301_5
       replace p301 := eq_true p301
       replace q301 := eq_true q301
       have ea_ := Option.some.inj (hx300_3.symm.trans hx301_3)
       injection ea_ with ea_ en_ ec_
       subst ea_
       subst ec_
       clear en_
       have ea_ := Option.some.inj (hx300_5.symm.trans hx301_5)
       injection ea_ with ea_ en_ ec_
       subst ea_
       subst ec_
       clear en_
       go_wp2
       go_ret
       exact ⟨by first | rfl | (simp; done) | (simp [*]; done), by repeat (first | exact Drawn0.refl _ | apply Drawn0.step)⟩
     ·rw [if_neg c5] at H
      have c5b0 : (((rd_T62 l0 x5_1).f0) == x1_1) = false := beq_eq_false_iff_ne.mpr c5
      have c5b1 : (((rd_T62 l0 x5_1).f0) != x1_1) = true := bne_iff_ne.mpr c5
      obtain rfl := Option.some.inj H
      have p300 : 0 ≤ (x5_1 : Int) := td
      have q300 : x5_1 < (l0.length : Int) := td
      obtain ⟨ad300, A300_3, c300_3, A300_5, c300_5, e300, hx300_0, hx300_1, hx300_2, hx300_3, hx300_4, hx300_5, hl300_3, hi300_3, hl300_5, hi300_5⟩ := at_T62 HR0.out x5_1 p300 q300
      cases e300
      have HR300_3 := Aside0.mk hi300_3
      have HC300_3 := Aside0.mk hl300_3
      clear hi300_3 hl300_3
      have HR300_5 := Aside0.mk hi300_5
      have HC300_5 := Aside0.mk hl300_5
      clear hi300_5 hl300_5
      replace p300 := eq_true p300
      replace q300 := eq_true q300
      go_wp2
      go_ret
      exact ⟨by first | rfl | (simp; done) | (simp [*]; done), by repeat (first | exact Drawn0.refl _ | apply Drawn0.step)⟩
    ·rw [if_neg c4] at H
     exact absurd H (by simp)
   ·rw [if_neg c3] at H
    have c3b0 : decide (x5_1 < (l0.length : Int)) = false := decide_eq_false c3
    clear c3
    obtain rfl := Option.some.inj H
    go_wp2
    go_ret
    exact ⟨by first | rfl | (simp; done) | (simp [*]; done), by repeat (first | exact Drawn0.refl _ | apply Drawn0.step)⟩

def laws_heldBatch.f (k : Nat) (a0_0 : Bool) (a0_1 : Bool) (a0_2 : Int) (a0_3 : Int) (a0_4 : Int) (l0_5 : List (S62)) (a1 : Int) : Option (Int) := (laws_heldRecordS.f k l0_5 a1).bind fun t309 => (if t309 < 0 then (some (-1)) else (some t309))
set_option maxHeartbeats 8000000 in
set_option maxRecDepth 100000 in
theorem laws_heldBatch.calls (k : Nat) (a0_0 : Bool) (a0_1 : Bool) (a0_2 : Int) (a0_3 : Int) (a0_4 : Int) (A0_5 : Option Addr) (c0_5 : Nat) (l0_5 : List (S62)) (a1 : Int) (r : Int) (w : World) (hr0_5 : Kd.C k62 w A0_5 l0_5.length l0_5) (hc0_5 : l0_5.length ≤ c0_5) (h : laws_heldBatch.f k a0_0 a0_1 a0_2 a0_3 a0_4 l0_5 a1 = some r) :
  Calls Tryd.prog 13 #[.agg #[.bool a0_0, .bool a0_1, .int .i64 a0_2, .int .i64 a0_3, .int .i64 a0_4, .slice A0_5 l0_5.length c0_5], .int .i64 a1] w fun e w' => e = .returned (.int .i64 r) ∧ Below w.heap.size w w' := by
 have hu28 := Tryd.underlying28
 have HR0_5 := Aside0.mk hr0_5
 have HC0_5 := Aside0.mk hc0_5
 clear hr0_5 hc0_5
 have HB := Aside0.mk (Below.refl w.heap.size w)
 have H : ((laws_heldRecordS.f k l0_5 a1).bind fun t309 => (if t309 < 0 then (some (-1)) else (some t309))) = some r := h
 clear h
 replace H := tbe H
 obtain ⟨t309, A3, H⟩ := H
 by_cases c4 : t309 < 0
 ·rw [if_pos c4] at H
  have c4b0 : decide (t309 < 0) = true := decide_eq_true c4
  clear c4
  obtain rfl := Option.some.inj H
  go_enter Tryd.func13, Tryd.ntmps13
  go_wp2_with (first | ((with_reducible refine gate_dst (N := 2) rfl ?_); refine box_event ?hg (N := 2) ?hd (cs := #[.bool a0_0, .bool a0_1, .int .i64 a0_2, .int .i64 a0_3, .int .i64 a0_4, .slice A0_5 l0_5.length c0_5]) (t := 28) ?hr ?_; (case hd => rfl); (case hg => rfl); (case hr => first | (go_simp; done) | (go_simp; rfl)); intro gb308 hg w5 hbox hb; have BK308 := Aside0.mk (hbox); have GW308 := tge HB hg; have GE308 := tge HB hg; replace HB := tBs HB hb; clear hb hbox hg; obtain ⟨hcz6_0, hcz6_1, hcz6_2, hcz6_3, hcz6_4, hcz6_5, hfz6_0, hfz6_1, hfz6_2, hfz6_3, hfz6_4, hfz6_5⟩ := cells6 BK308.out) | ((with_reducible refine gate_callee (f := 33) rfl ?_); refine goesL_ (some 8) rfl rfl Tryd.func33 (by kernel_rfl) rfl #[.slice A0_5 l0_5.length c0_5, .int .i64 a1] rfl tq ?_; (with_reducible refine (laws_heldRecordS.calls k _ _ l0_5 a1 t309 _ ?side1 ?side2 A3.out).mono ?_); (case side1 => exact tC (Kd.C_below HR0_5.out HB.out)); (case side2 => exact HC0_5.out); rintro e w' ⟨rfl, ⟨nd, rfl⟩⟩; refine ⟨_, rfl, ?_⟩))
  go_ret
  exact ⟨by first | rfl | (simp [errW_none, errW_some] <;> rfl) | (simp [*, errW_none, errW_some] <;> rfl), zb⟩
 ·rw [if_neg c4] at H
  have c4b0 : decide (t309 < 0) = false := decide_eq_false c4
  clear c4
  obtain rfl := Option.some.inj H
  go_enter Tryd.func13, Tryd.ntmps13
  go_wp2_with (first | ((with_reducible refine gate_dst (N := 2) rfl ?_); refine box_event ?hg (N := 2) ?hd (cs := #[.bool a0_0, .bool a0_1, .int .i64 a0_2, .int .i64 a0_3, .int .i64 a0_4, .slice A0_5 l0_5.length c0_5]) (t := 28) ?hr ?_; (case hd => rfl); (case hg => rfl); (case hr => first | (go_simp; done) | (go_simp; rfl)); intro gb308 hg w7 hbox hb; have BK308 := Aside0.mk (hbox); have GW308 := tge HB hg; have GE308 := tge HB hg; replace HB := tBs HB hb; clear hb hbox hg; obtain ⟨hcz8_0, hcz8_1, hcz8_2, hcz8_3, hcz8_4, hcz8_5, hfz8_0, hfz8_1, hfz8_2, hfz8_3, hfz8_4, hfz8_5⟩ := cells6 BK308.out) | ((with_reducible refine gate_callee (f := 33) rfl ?_); refine goesL_ (some 8) rfl rfl Tryd.func33 (by kernel_rfl) rfl #[.slice A0_5 l0_5.length c0_5, .int .i64 a1] rfl tq ?_; (with_reducible refine (laws_heldRecordS.calls k _ _ l0_5 a1 t309 _ ?side1 ?side2 A3.out).mono ?_); (case side1 => exact tC (Kd.C_below HR0_5.out HB.out)); (case side2 => exact HC0_5.out); rintro e w' ⟨rfl, ⟨nd, rfl⟩⟩; refine ⟨_, rfl, ?_⟩))
  go_ret
  exact ⟨by first | rfl | (simp [errW_none, errW_some] <;> rfl) | (simp [*, errW_none, errW_some] <;> rfl), zb⟩

end Go.Proofs.YtfjkpdhldeopaaaDoor.G

namespace Go.Proofs.YtfjkpdhldeopaaaDoor.Pu
open Go.RowKit Go.Proofs.YtfjkpdhldeopaaaDoorW.PrintWords Go.Proofs.YtfjkpdhldeopaaaDoorW.PrintLast Go.Proofs.YtfjkpdhldeopaaaDoor.G
set_option linter.unusedVariables false
set_option linter.unusedSimpArgs false
def marks (a : Int) (n : Nat) : List Int := (List.range n).map fun (i : Nat) => a + (i : Int)
theorem marks_len (a : Int) (n : Nat) : (marks a n).length = n := by simp [marks]
theorem marks_at (a : Int) (n i : Nat) (h : i < n) : rd (marks a n) (i : Int) = a + i := by
  rw [rdi_nat _ _ (by rw [marks_len]; exact h)]
  simp [marks]
theorem marks_succ (a : Int) (n : Nat) : marks a (n + 1) = marks a n ++ [a + (n : Int)] := by
  unfold marks
  rw [List.range_succ, List.map_append]
  rfl
theorem marks_set (a : Int) (l : List Int) (i : Nat) (h : i < l.length) : (marks a i ++ l.drop i).set i (a + (i : Int)) = marks a (i + 1) ++ l.drop (i + 1) := by
  rw [List.drop_eq_getElem_cons h, List.set_append_right _ _ (by rw [marks_len]; omega), marks_len, Nat.sub_self, List.set_cons_zero, marks_succ, List.append_assoc]
  rfl
theorem mark_loop (l : List Int) (a : Int) (hl : l.length ≤ 4000000000000000000) (h0 : 0 ≤ a) (h1 : a ≤ 4000000000000000000) : ∀ d i, l.length - i = d → i ≤ l.length → Ev (fun k => laws_markIntS.l0 k (marks a i ++ l.drop i) (a + (i : Int)) (i : Int)) (a + (l.length : Int), marks a l.length) := by
  intro d
  induction d with
  | zero =>
    intro i hd hi
    obtain rfl : i = l.length := by omega
    refine Ev.step (fun k => by rw [laws_markIntS.l0]) ?_
    rw [List.drop_length, List.append_nil, marks_len]
    simp only [if_neg (show ¬ ((l.length : Int) < (l.length : Int)) by omega)]
    exact Ev.now _
  | succ d ih =>
    intro i hd hi
    have hlt : i < l.length := by omega
    refine Ev.step (fun k => by rw [laws_markIntS.l0]) ?_
    have hlen : (marks a i ++ l.drop i).length = l.length := by rw [List.length_append, marks_len, List.length_drop]; omega
    simp only [hlen, if_pos (show (i : Int) < (l.length : Int) by omega), if_pos (show (0 : Int) ≤ (i : Int) by omega), Int.toNat_natCast, marks_set a l i hlt, w64 (a := a + (i : Int) + 1) (by omega) (by omega), w64 (a := (i : Int) + 1) (by omega) (by omega)]
    have := ih (i + 1) (by omega) (by omega)
    rw [show a + ((i + 1 : Nat) : Int) = a + (i : Int) + 1 by omega, show ((i + 1 : Nat) : Int) = (i : Int) + 1 by omega] at this
    exact this
theorem markIntS_ev (l : List Int) (a : Int) (hl : l.length ≤ 4000000000000000000) (h0 : 0 ≤ a) (h1 : a ≤ 4000000000000000000) : Ev (fun k => laws_markIntS.f k l a) (a + (l.length : Int), marks a l.length) := by
  unfold laws_markIntS.f
  have := mark_loop l a hl h0 h1 l.length 0 (by omega) (by omega)
  simpa [marks] using this
theorem held_loop (a : Int) (n : Nat) (hl : n ≤ 4000000000000000000) (h0 : 0 ≤ a) (h1 : a ≤ 4000000000000000000) : ∀ d i, n - i = d → i ≤ n → Ev (fun k => laws_heldIntS.l0 k (marks a n) (a + (i : Int)) (i : Int)) (a + (n : Int)) := by
  intro d
  induction d with
  | zero =>
    intro i hd hi
    obtain rfl : i = n := by omega
    refine Ev.step (fun k => by rw [laws_heldIntS.l0]) ?_
    rw [marks_len]
    simp only [if_neg (show ¬ ((i : Int) < (i : Int)) by omega)]
    exact Ev.now _
  | succ d ih =>
    intro i hd hi
    have hlt : i < n := by omega
    refine Ev.step (fun k => by rw [laws_heldIntS.l0]) ?_
    rw [marks_len, marks_at a n i hlt]
    simp only [if_pos (show (i : Int) < (n : Int) by omega), if_pos (show (0 : Int) ≤ (i : Int) by omega), if_true, w64 (a := a + (i : Int) + 1) (by omega) (by omega), w64 (a := (i : Int) + 1) (by omega) (by omega)]
    have := ih (i + 1) (by omega) (by omega)
    rw [show a + ((i + 1 : Nat) : Int) = a + (i : Int) + 1 by omega, show ((i + 1 : Nat) : Int) = (i : Int) + 1 by omega] at this
    exact this
theorem heldIntS_ev (a : Int) (n : Nat) (hl : n ≤ 4000000000000000000) (h0 : 0 ≤ a) (h1 : a ≤ 4000000000000000000) : Ev (fun k => laws_heldIntS.f k (marks a n) a) (a + (n : Int)) := by
  unfold laws_heldIntS.f
  have := held_loop a n hl h0 h1 n 0 (by omega) (by omega)
  simpa using this
end Go.Proofs.YtfjkpdhldeopaaaDoor.Pu

namespace Go.Proofs.YtfjkpdhldeopaaaDoor.G
open Go.RowKit Go.Proofs.YtfjkpdhldeopaaaDoorW.PrintWords Go.Proofs.YtfjkpdhldeopaaaDoorW.PrintLast Go.Proofs.YtfjkpdhldeopaaaDoorW.PrintMore
set_option linter.unusedVariables false
set_option linter.unusedSimpArgs false
section
variable {α : Type} {d : Kd α} {e g n cap base : Nat} {W : World} {ok oki : Nat → Prop} {xs : List α} {i : Int} {c : List Value}
theorem H_at (h : Kd.H d e W base ok (.slice (some ⟨g, 0, none⟩) n cap) xs i oki c) (h0 : 0 ≤ i) (h1 : i < n) (j : Nat) (u : Value) (hu : c[j]? = some u) :
    W.cell? ⟨g, i.toNat * d.sz + j, none⟩ = some u ∧ W.frozen? ⟨g, i.toNat * d.sz + j, none⟩ = false := by
  obtain ⟨rows, hl, hraw, _, _, hcc, _⟩ := Kd.H_raw h h0 h1
  obtain ⟨_, _, _, _, hfr⟩ := Kd.R_elem hraw [] i h0 h1
  exact ⟨hcc j u hu, hfr j⟩
theorem H_put (h : Kd.H d e W base ok (.slice (some ⟨g, 0, none⟩) n cap) xs i oki c) (h0 : 0 ≤ i) (h1 : i < n) (j : Nat) (u : Value) (hj : j < c.length) (hc : c.length = d.sz) (hu : u.oneCell' = true) :
    Kd.H d e (W.setCell ⟨g, i.toNat * d.sz + j, none⟩ u) base ok (.slice (some ⟨g, 0, none⟩) n cap) xs i oki (c.set j u) ∧ W.grownBy (W.setCell ⟨g, i.toNat * d.sz + j, none⟩ u) (some g) := by
  have := Kd.H_seg h h0 h1 (seg := [u]) (j := j) (by rw [← hc]; exact hj) (fun q hq => by rw [List.mem_singleton.1 hq]; exact hu)
  have e2 : c.take j ++ [u] ++ c.drop (j + [u].length) = c.set j u := by
    rw [List.set_eq_take_append_cons_drop, if_pos hj]
    simp
  rw [e2] at this
  exact this
end
/-- The marks of a record, and of a row of records. -/
def mkRec (a : Int) (x : S62) : S62 := ⟨a, a + 1, Int.tmod (a + 2) 3 == 0, Pu.marks (a + 3) x.f3.length, Int.tmod (a + 3 + x.f3.length) 3 == 0, Pu.marks (a + 4 + x.f3.length) x.f5.length⟩
def cntR (x : S62) : Nat := 4 + x.f3.length + x.f5.length
def totR : List S62 → Nat
  | [] => 0
  | x :: l => cntR x + totR l
def mkRow : Int → List S62 → List S62
  | _, [] => []
  | a, x :: l => mkRec a x :: mkRow (a + (cntR x : Int)) l
theorem mkRow_len : ∀ (l : List S62) (a : Int), (mkRow a l).length = l.length
  | [], _ => rfl
  | x :: l, a => by simp [mkRow, mkRow_len l]
theorem totR_append : ∀ (l m : List S62), totR (l ++ m) = totR l + totR m
  | [], m => by simp [totR]
  | x :: l, m => by simp [totR, totR_append l m, Nat.add_assoc]
theorem mkRow_append : ∀ (l m : List S62) (a : Int), mkRow a (l ++ m) = mkRow a l ++ mkRow (a + (totR l : Int)) m
  | [], m, a => by simp [mkRow, totR]
  | x :: l, m, a => by
    simp only [List.cons_append, mkRow, totR, mkRow_append l m]
    rw [show a + (cntR x : Int) + (totR l : Int) = a + ((cntR x + totR l : Nat) : Int) by omega]
theorem totR_take {l : List S62} {i : Nat} (h : i < l.length) : totR (l.take (i + 1)) = totR (l.take i) + cntR l[i] := by
  rw [← List.take_append_getElem h, totR_append]
  simp [totR]
theorem totR_le (l : List S62) (i : Nat) : totR (l.take i) ≤ totR l := by
  have := totR_append (l.take i) (l.drop i)
  rw [List.take_append_drop] at this
  omega
theorem cntR_le {l : List S62} {i : Nat} (h : i < l.length) : totR (l.take i) + cntR l[i] ≤ totR l := by
  rw [← totR_take h]
  exact totR_le l _
theorem mkRow_set (a : Int) (l : List S62) (i : Nat) (h : i < l.length) : (mkRow a (l.take i) ++ l.drop i).set i (mkRec (a + (totR (l.take i) : Int)) l[i]) = mkRow a (l.take (i + 1)) ++ l.drop (i + 1) := by
  have hl : (mkRow a (l.take i)).length = i := by rw [mkRow_len, List.length_take]; omega
  rw [List.drop_eq_getElem_cons h, List.set_append_right _ _ (by omega), hl, Nat.sub_self, List.set_cons_zero, ← List.take_append_getElem h, mkRow_append]
  simp [mkRow]
theorem mkRow_at (a : Int) (l : List S62) (i : Nat) (h : i < l.length) (z : S62) : (mkRow a (l.take i) ++ l.drop i).getD i z = l[i] := by
  have hl : (mkRow a (l.take i)).length = i := by rw [mkRow_len, List.length_take]; omega
  rw [List.getD_eq_getElem?_getD, List.getElem?_append_right (by omega), hl, Nat.sub_self, List.getElem?_drop]
  simp [h]
theorem mkRow_len2 (a : Int) (l : List S62) (i : Nat) (h : i ≤ l.length) : (mkRow a (l.take i) ++ l.drop i).length = l.length := by
  rw [List.length_append, mkRow_len, List.length_take, List.length_drop]
  omega
theorem markI (u : Value) (l : List Int) (a : Int) (w0 w : World) (hB : Below w0.heap.size w0 w) (ho : Kd.R (Kd.int .i64) 3 w w0.heap.size (fun k => some k = u.ownBlock) u l) (hl : l.length ≤ 4000000000000000000) (h0 : 0 ≤ a) (h1 : a ≤ 4000000000000000000) :
    Calls Tryd.prog 52 #[u, .int .i64 a] w fun e w' => e = .returned (.int .i64 (a + (l.length : Int))) ∧ Kd.R (Kd.int .i64) 3 w' w0.heap.size (fun k => some k = u.ownBlock) u (Pu.marks a l.length) ∧ Below w0.heap.size w0 w' ∧ Kept w w' (fun k => some k = u.ownBlock) := by
  obtain ⟨K, hK⟩ := Pu.markIntS_ev l a hl h0 h1
  refine (laws_markIntS.calls K (fun k => some k = u.ownBlock) u l a _ _ w0 w hB ho (hK K (Nat.le_refl _))).mono ?_
  rintro e w' ⟨rfl, h2, h3, h4⟩
  exact ⟨rfl, Kd.R_reok rfl h2 (fun k hk => hk.symm), h3, h4⟩
/-- A round's state: the row with the element lent (its cells c), and the element's two rows. -/
def MkS (w0 w : World) (P0 oki : Nat → Prop) (g n cap : Nat) (ys : List S62) (i : Nat) (v3 : Value) (l3 : List Int) (v5 : Value) (l5 : List Int) (c : List Value) (W : World) : Prop :=
  Kd.H k62 62 W w0.heap.size P0 (.slice (some ⟨g, 0, none⟩) n cap) ys i oki c ∧ Below w0.heap.size w0 W ∧ Kept w W P0 ∧ Kd.R (Kd.int .i64) 3 W w0.heap.size oki v3 l3 ∧ Kd.R (Kd.int .i64) 3 W w0.heap.size oki v5 l5 ∧ (∀ k, oki k → P0 k ∧ k ≠ g) ∧ w0.heap.size ≤ g ∧ P0 g ∧ i < n ∧ KV v3 v5
section
variable {w0 w W : World} {P0 oki : Nat → Prop} {g n cap i : Nat} {ys : List S62} {v3 v5 : Value} {l3 l5 : List Int} {c : List Value}
theorem MkS.at_ (h : MkS w0 w P0 oki g n cap ys i v3 l3 v5 l5 c W) (j : Nat) (u : Value) (hu : c[j]? = some u) : W.cell? ⟨g, i * 6 + j, none⟩ = some u ∧ W.frozen? ⟨g, i * 6 + j, none⟩ = false := H_at h.1 (by omega) (by have := h.2.2.2.2.2.2.2.2.1; omega) j u hu
theorem MkS.below (h : MkS w0 w P0 oki g n cap ys i v3 l3 v5 l5 c W) : Below w0.heap.size w0 W := h.2.1
theorem MkS.r3 (h : MkS w0 w P0 oki g n cap ys i v3 l3 v5 l5 c W) : Kd.R (Kd.int .i64) 3 W w0.heap.size (fun k => some k = v3.ownBlock) v3 l3 := Kd.R_tight rfl h.2.2.2.1
theorem MkS.r5 (h : MkS w0 w P0 oki g n cap ys i v3 l3 v5 l5 c W) : Kd.R (Kd.int .i64) 3 W w0.heap.size (fun k => some k = v5.ownBlock) v5 l5 := Kd.R_tight rfl h.2.2.2.2.1
theorem MkS.put (h : MkS w0 w P0 oki g n cap ys i v3 l3 v5 l5 c W) (hc : c.length = 6) (j : Nat) (hj : j < 6) (u : Value) (hu : u.oneCell' = true) {W' : World} (hw : W' = W.setCell ⟨g, i * 6 + j, none⟩ u) : MkS w0 w P0 oki g n cap ys i v3 l3 v5 l5 (c.set j u) W' := by
  obtain ⟨h1, h2, h3, h4, h5, h6, h7, h8, h9, h10⟩ := h
  obtain ⟨p1, p2⟩ := H_put h1 (by omega) (by omega) j u (by omega) hc hu
  have e : (W.setCell ⟨g, (i : Int).toNat * (k62).sz + j, none⟩ u) = W' := hw.symm
  rw [e] at p1 p2
  have hn : ∀ k, oki k → some k ≠ some g := fun k hk he => (h6 k hk).2 (by injection he)
  exact ⟨p1, by rw [hw]; exact below_set h2 h7, Kept.of_grown p2 h3 (fun k he => by injection he with he; subst he; exact .inl h8), Kd.R_grown h4 p2 hn, Kd.R_grown h5 p2 hn, h6, h7, h8, h9, h10⟩
/-- The key's row has been marked. -/
theorem MkS.key {W' : World} {l3' : List Int} (h : MkS w0 w P0 oki g n cap ys i v3 l3 v5 l5 c W) (hr : Kd.R (Kd.int .i64) 3 W' w0.heap.size (fun k => some k = v3.ownBlock) v3 l3') (hb : Below w0.heap.size w0 W') (hk : Kept W W' (fun k => some k = v3.ownBlock)) : MkS w0 w P0 oki g n cap ys i v3 l3' v5 l5 c W' := by
  obtain ⟨h1, h2, h3, h4, h5, h6, h7, h8, h9, h10⟩ := h
  have hin : ∀ k, some k = v3.ownBlock → oki k := fun k hk => h4.1 k hk.symm
  refine ⟨Kd.H_step h1 (fun k _ hn hlt => hk.2 k hlt (fun he => hn (hin k he))), hb, h3.then_ hk (fun k he => .inl (h6 k (hin k he)).1), Kd.R_mono hr hin, ?_, h6, h7, h8, h9, h10⟩
  refine Kd.R_reok rfl (Kd.R_move (Kd.R_tight rfl h5) (fun k he => hk.2 k (Kd.R_lt h5 k he.symm) (fun he2 => h10 k he2.symm he.symm))) (fun k he => h5.1 k he)
theorem MkS.val {W' : World} {l5' : List Int} (h : MkS w0 w P0 oki g n cap ys i v3 l3 v5 l5 c W) (hr : Kd.R (Kd.int .i64) 3 W' w0.heap.size (fun k => some k = v5.ownBlock) v5 l5') (hb : Below w0.heap.size w0 W') (hk : Kept W W' (fun k => some k = v5.ownBlock)) : MkS w0 w P0 oki g n cap ys i v3 l3 v5 l5' c W' := by
  obtain ⟨h1, h2, h3, h4, h5, h6, h7, h8, h9, h10⟩ := h
  have hin : ∀ k, some k = v5.ownBlock → oki k := fun k hk => h5.1 k hk.symm
  refine ⟨Kd.H_step h1 (fun k _ hn hlt => hk.2 k hlt (fun he => hn (hin k he))), hb, h3.then_ hk (fun k he => .inl (h6 k (hin k he)).1), ?_, Kd.R_mono hr hin, h6, h7, h8, h9, h10⟩
  refine Kd.R_reok rfl (Kd.R_move (Kd.R_tight rfl h4) (fun k he => hk.2 k (Kd.R_lt h4 k he.symm) (fun he2 => h10 k he.symm he2.symm))) (fun k he => h4.1 k he)
theorem MkS.done (h : MkS w0 w P0 oki g n cap ys i v3 l3 v5 l5 c W) (x' : S62) (hc : c = [.int .i64 x'.f0, .int .i64 x'.f1, .bool x'.f2, v3, .bool x'.f4, v5]) (e3 : x'.f3 = l3) (e5 : x'.f5 = l5) : Kd.S k62 62 W w0.heap.size P0 (.slice (some ⟨g, 0, none⟩) n cap) (ys.set i x') ∧ Below w0.heap.size w0 W ∧ Kept w W P0 := by
  obtain ⟨h1, h2, h3, h4, h5, h6, h7, h8, h9, h10⟩ := h
  subst hc
  exact ⟨Kd.H_back h1 (k62_mkM _ _ _ x' (by rw [e3]; exact h4) (by rw [e5]; exact h5) h10) (fun _ hk => hk), h2, h3⟩
end
set_option maxHeartbeats 4000000 in
set_option maxRecDepth 100000 in
theorem laws_markRecordS.callsA (P0 : Nat → Prop) (u : Value) (l : List S62) (a : Int) (w0 w : World) (hB : Below w0.heap.size w0 w) (ho : Kd.S k62 62 w w0.heap.size P0 u l) (h0 : 0 ≤ a) (h1 : a + (totR l : Int) ≤ 4000000000000000000) :
    Calls Tryd.prog 32 #[u, .int .i64 a] w fun e w' => e = .returned (.int .i64 (a + (totR l : Int))) ∧ Kd.S k62 62 w' w0.heap.size P0 u (mkRow a l) ∧ Below w0.heap.size w0 w' ∧ Kept w w' P0 := by
  obtain ⟨A, cap, rfl⟩ := Kd.S_slice ho
  have HN := Aside0.mk h0
  have HT := Aside0.mk h1
  have HS0 := Aside0.mk ho
  have HB0 := Aside0.mk hB
  have hmax : l.length ≤ 9223372036854775807 := by
    have := (Kd.S_reads' ho).2.2.2.1
    exact this
  clear h0 h1 ho hB
  go_enter Tryd.func32, Tryd.ntmps32
  go_wp2
  go_loopw [1, 5] (fun v1 v5 wr => ∃ i : Nat, v5 = .int .i64 i ∧ v1 = .int .i64 (a + (totR (l.take i) : Int)) ∧ i ≤ l.length ∧ Aside0 (Kd.S k62 62 wr w0.heap.size P0 (.slice A l.length cap) (mkRow a (l.take i) ++ l.drop i)) ∧ Aside0 (Below w0.heap.size w0 wr) ∧ Aside0 (Kept w wr P0)) (fun _ v5 _ => l.length - (intOf v5).toNat)
  case atStart => exact ⟨0, rfl, by simp [totR], Nat.zero_le _, by simpa [mkRow] using HS0, HB0, ⟨Kept.refl _ _⟩⟩
  case round =>
    obtain ⟨i, rfl, rfl, hi, HS, HB, HK⟩ := hrel
    by_cases hlt : i < l.length
    · have hx := mkRow_at a l i hlt z62
      have hset := Aside0.mk (mkRow_set a l i hlt)
      have htk := Aside0.mk (totR_take hlt)
      have hle := cntR_le hlt
      have hlen := Aside0.mk (mkRow_len2 a l i hi)
      have hT := HT.out
      have hN := HN.out
      have hx1b : 0 ≤ a + (totR (l.take i) : Int) := by omega
      have hx1c : a + (totR (l.take i) : Int) + (cntR l[i] : Int) ≤ 4000000000000000000 := by omega
      have HNX := Aside0.mk (show a + (totR (l.take (i + 1)) : Int) = (a + (totR (l.take i) : Int)) + (cntR l[i] : Int) by rw [htk.out]; omega)
      clear hT hN hle htk
      generalize a + (totR (l.take i) : Int) = x1 at *
      generalize mkRow a (l.take i) ++ l.drop i = ys at *
      generalize l[i] = x at *
      have hcx : (cntR x : Int) = 4 + x.f3.length + x.f5.length := by simp [cntR]
      obtain ⟨g, cap', e0, hgb, hgl, cells, hgc⟩ := Kd.S_form HS.out (by rw [hlen.out]; omega)
      injection e0 with e1 e2 e3
      subst e1
      subst e3
      clear e2
      obtain ⟨oki, c, hcl, hM, hcc, hfr, hoki, hH⟩ := Kd.S_elem HS.out z62 (i : Int) (by omega) (by omega)
      rw [Int.toNat_natCast, hx] at hM
      have hkv := k62_kv hM
      obtain ⟨v3, v5, rfl, g3, g5⟩ := k62_openM hM
      have hkv' : KV v3 v5 := hkv
      have hPg : P0 g := (Kd.S_R HS.out).1 g rfl
      obtain ⟨A3, c3, rfl⟩ := Kd.R_slice g3
      obtain ⟨A5, c5, rfl⟩ := Kd.R_slice g5
      have HH := Aside0.mk (show MkS w0 w P0 oki g l.length cap ys i (.slice A3 x.f3.length c3) x.f3 (.slice A5 x.f5.length c5) x.f5 _ wr from ⟨hH, HB.out, HK.out, g3, g5, hoki, hgb, hPg, hlt, hkv'⟩)
      have d0 := HH.out.at_ 0 _ rfl
      have hwA : wrap64 (x1 + 1) = x1 + 1 := by simp only [wrap64]; omega
      have hwB : wrap64 (x1 + 1 + 1) = x1 + 2 := by simp only [wrap64]; omega
      have hwC : wrap64 (x1 + 2 + 1) = x1 + 3 := by simp only [wrap64]; omega
      have hwD : wrap64 (x1 + 3 + (x.f3.length : Int) + 1) = x1 + 4 + x.f3.length := by simp only [wrap64]; omega
      have HX1 := Aside0.mk hx1b
      have HX2 := Aside0.mk (And.intro hx1c hcx)
      clear hkv hcc hfr hcl hM hH g3 g5 hkv' hoki hgc hgl hgb hx hPg HB HK HS hx1b hx1c hcx
      rw [Nat.add_zero] at d0
      obtain ⟨hd, hf⟩ := d0
      go_wp2_with (first
        | ((with_reducible refine gate_store (t := 3) (p := 16) rfl ?_); refine store_event (t := 3) (p := 16) (v := ?v1) (w1 := (wr.setCell ⟨g, i * 6, none⟩ (.int .i64 x1))) ?hg ?ho ?hn ?hr ?_; (case ho => rfl); (case hg => rfl); (case hn => rfl); (case hr => first | (go_simp; done) | (go_simp; rfl)); intro w1 hw; replace HH := Aside0.mk (HH.out.put rfl 0 (by decide) _ rfl hw); clear hw hd hf; obtain ⟨hd, hf⟩ := HH.out.at_ 1 _ rfl)
        | ((with_reducible refine gate_store (t := 3) (p := 23) rfl ?_); refine store_event (t := 3) (p := 23) (v := ?v2) (w1 := (w1.setCell ⟨g, i * 6 + 1, none⟩ (.int .i64 (x1 + 1)))) ?hg ?ho ?hn ?hr ?_; (case ho => rfl); (case hg => rfl); (case hn => rfl); (case hr => first | (go_simp; done) | (go_simp; rfl)); intro w2 hw; replace HH := Aside0.mk (HH.out.put rfl 1 (by decide) _ rfl hw); clear hw hd hf; obtain ⟨hd, hf⟩ := HH.out.at_ 2 _ rfl)
        | ((with_reducible refine gate_store (t := 4) (p := 32) rfl ?_); refine store_event (t := 4) (p := 32) (v := ?v3) (w1 := (w2.setCell ⟨g, i * 6 + 2, none⟩ (.bool (Int.tmod (x1 + 2) 3 == 0)))) ?hg ?ho ?hn ?hr ?_; (case ho => rfl); (case hg => rfl); (case hn => rfl); (case hr => first | (go_simp; done) | (go_simp; rfl)); intro w3 hw; replace HH := Aside0.mk (HH.out.put rfl 2 (by decide) _ rfl hw); clear hw hd hf; obtain ⟨hd, hf⟩ := HH.out.at_ 3 _ rfl)
        | (go_at_call 52; with_reducible refine (markI (.slice A3 x.f3.length c3) x.f3 (x1 + 3) w0 w3 HH.out.below HH.out.r3 (by have := HX1.out; have := HX2.out; omega) (by have := HX1.out; omega) (by have := HX2.out; omega)).mono ?_; rintro e w4 ⟨rfl, m1, m2, m3⟩; replace HH := Aside0.mk (HH.out.key m1 m2 m3); clear m1 m2 m3 hd hf; obtain ⟨hd, hf⟩ := HH.out.at_ 4 _ rfl)
        | ((with_reducible refine gate_store (t := 4) (p := 48) rfl ?_); refine store_event (t := 4) (p := 48) (v := ?v4) (w1 := (w4.setCell ⟨g, i * 6 + 4, none⟩ (.bool (Int.tmod (x1 + 3 + (x.f3.length : Int)) 3 == 0)))) ?hg ?ho ?hn ?hr ?_; (case ho => rfl); (case hg => rfl); (case hn => rfl); (case hr => first | (go_simp; done) | (go_simp; rfl)); intro w5 hw; replace HH := Aside0.mk (HH.out.put rfl 4 (by decide) _ rfl hw); clear hw hd hf; obtain ⟨hd, hf⟩ := HH.out.at_ 5 _ rfl)
        | (go_at_call 52; with_reducible refine (markI (.slice A5 x.f5.length c5) x.f5 (x1 + 4 + (x.f3.length : Int)) w0 w5 HH.out.below HH.out.r5 (by have := HX1.out; have := HX2.out; omega) (by have := HX1.out; omega) (by have := HX2.out; omega)).mono ?_; rintro e w6 ⟨rfl, m1, m2, m3⟩; replace HH := Aside0.mk (HH.out.val m1 m2 m3); clear m1 m2 m3 hd hf))
      have HD := HH.out.done (mkRec x1 x) rfl rfl rfl
      rw [hset.out] at HD
      go_roundw
      case measure => simp only [intOf]; omega
      case rel => exact ⟨i + 1, by simp, by rw [HNX.out]; have := HX2.out.2; congr 1; omega, by omega, ⟨HD.1⟩, ⟨HD.2.1⟩, ⟨HD.2.2⟩⟩
    · have hil : i = l.length := by omega
      subst hil
      go_wp2
      go_ret
      rw [List.take_length, List.drop_length, List.append_nil] at HS
      exact ⟨by simp, HS.out, HB.out, HK.out⟩
end Go.Proofs.YtfjkpdhldeopaaaDoor.G

namespace Go.Proofs.YtfjkpdhldeopaaaDoor.G
open Go.RowKit Go.Proofs.YtfjkpdhldeopaaaDoorW.PrintWords Go.Proofs.YtfjkpdhldeopaaaDoorW.PrintLast Go.Proofs.YtfjkpdhldeopaaaDoorW.PrintMore
attribute [local go_sem] max2_int min2_int max_two min_two max_three min_three max_four min_four   -- for this text's walks alone
set_option linter.unusedVariables false
set_option linter.unusedSimpArgs false

def laws_szIntS.f (l0 : List Int) (a1 : Int) : Option (Int) := if (wrap64 (a1 - (l0.length : Int))) < 0 then (some (-1)) else (some (wrap64 (a1 - (l0.length : Int))))
set_option maxHeartbeats 8000000 in
set_option maxRecDepth 100000 in
theorem laws_szIntS.calls (A0 : Option Addr) (c0 : Nat) (l0 : List Int) (a1 : Int) (r : Int) (w : World) (hr0 : Kd.C (Kd.int .i64) w A0 l0.length l0) (hc0 : l0.length ≤ c0) (h : laws_szIntS.f l0 a1 = some r) :
  Calls Tryd.prog 55 #[.slice A0 l0.length c0, .int .i64 a1] w fun e w' => e = .returned (.int .i64 r) ∧ Drawn0 w w' := by
 have HR0 := Aside0.mk hr0
 have HC0 := Aside0.mk hc0
 clear hr0 hc0
 have H : (if (wrap64 (a1 - (l0.length : Int))) < 0 then (some (-1)) else (some (wrap64 (a1 - (l0.length : Int))))) = some r := h
 clear h
 by_cases c3 : (wrap64 (a1 - (l0.length : Int))) < 0
 ·rw [if_pos c3] at H
  have c3b0 : decide ((wrap64 (a1 - (l0.length : Int))) < 0) = true := decide_eq_true c3
  clear c3
  obtain rfl := Option.some.inj H
  go_enter Tryd.func55, Tryd.ntmps55
  go_wp2
  go_ret
  exact ⟨by first | rfl | (simp; done) | (simp [*]; done), by repeat (first | exact Drawn0.refl _ | apply Drawn0.step)⟩
 ·rw [if_neg c3] at H
  have c3b0 : decide ((wrap64 (a1 - (l0.length : Int))) < 0) = false := decide_eq_false c3
  clear c3
  obtain rfl := Option.some.inj H
  go_enter Tryd.func55, Tryd.ntmps55
  go_wp2
  go_ret
  exact ⟨by first | rfl | (simp; done) | (simp [*]; done), by repeat (first | exact Drawn0.refl _ | apply Drawn0.step)⟩

def laws_szRecord.f (a0_0 : Int) (a0_1 : Int) (a0_2 : Bool) (l0_3 : List Int) (a0_4 : Bool) (l0_5 : List Int) (a1 : Int) : Option (Int) := (laws_szIntS.f l0_3 a1).bind fun t102 => (if t102 < 0 then (some (-1)) else ((laws_szIntS.f l0_5 t102).bind fun t103 => (if t103 < 0 then (some (-1)) else (some t103))))
set_option maxHeartbeats 8000000 in
set_option maxRecDepth 100000 in
theorem laws_szRecord.calls (a0_0 : Int) (a0_1 : Int) (a0_2 : Bool) (A0_3 : Option Addr) (c0_3 : Nat) (l0_3 : List Int) (a0_4 : Bool) (A0_5 : Option Addr) (c0_5 : Nat) (l0_5 : List Int) (a1 : Int) (r : Int) (w : World) (hr0_3 : Kd.C (Kd.int .i64) w A0_3 l0_3.length l0_3) (hc0_3 : l0_3.length ≤ c0_3) (hr0_5 : Kd.C (Kd.int .i64) w A0_5 l0_5.length l0_5) (hc0_5 : l0_5.length ≤ c0_5) (h : laws_szRecord.f a0_0 a0_1 a0_2 l0_3 a0_4 l0_5 a1 = some r) :
  Calls Tryd.prog 42 #[.agg #[.int .i64 a0_0, .int .i64 a0_1, .bool a0_2, .slice A0_3 l0_3.length c0_3, .bool a0_4, .slice A0_5 l0_5.length c0_5], .int .i64 a1] w fun e w' => e = .returned (.int .i64 r) ∧ Below w.heap.size w w' := by
 have hu71 := Tryd.underlying71
 have HR0_3 := Aside0.mk hr0_3
 have HC0_3 := Aside0.mk hc0_3
 clear hr0_3 hc0_3
 have HR0_5 := Aside0.mk hr0_5
 have HC0_5 := Aside0.mk hc0_5
 clear hr0_5 hc0_5
 have HB := Aside0.mk (Below.refl w.heap.size w)
 have H : ((laws_szIntS.f l0_3 a1).bind fun t102 => (if t102 < 0 then (some (-1)) else ((laws_szIntS.f l0_5 t102).bind fun t103 => (if t103 < 0 then (some (-1)) else (some t103))))) = some r := h
 clear h
 replace H := tbe H
 obtain ⟨t102, A3, H⟩ := H
 by_cases c4 : t102 < 0
 ·rw [if_pos c4] at H
  have c4b0 : decide (t102 < 0) = true := decide_eq_true c4
  clear c4
  obtain rfl := Option.some.inj H
  go_enter Tryd.func42, Tryd.ntmps42
  go_wp2_with (first | ((with_reducible refine gate_dst (N := 2) rfl ?_); refine box_event ?hg (N := 2) ?hd (cs := #[.int .i64 a0_0, .int .i64 a0_1, .bool a0_2, .slice A0_3 l0_3.length c0_3, .bool a0_4, .slice A0_5 l0_5.length c0_5]) (t := 71) ?hr ?_; (case hd => rfl); (case hg => rfl); (case hr => first | (go_simp; done) | (go_simp; rfl)); intro gb101 hg w5 hbox hb; have BK101 := Aside0.mk (hbox); have GW101 := tge HB hg; have GE101 := tge HB hg; replace HB := tBs HB hb; clear hb hbox hg; obtain ⟨hcz6_0, hcz6_1, hcz6_2, hcz6_3, hcz6_4, hcz6_5, hfz6_0, hfz6_1, hfz6_2, hfz6_3, hfz6_4, hfz6_5⟩ := cells6 BK101.out) | ((with_reducible refine gate_callee (f := 55) rfl ?_); refine goesL_ (some 8) rfl rfl Tryd.func55 (by kernel_rfl) rfl #[.slice A0_3 l0_3.length c0_3, .int .i64 a1] rfl tq ?_; (with_reducible refine (laws_szIntS.calls _ _ l0_3 a1 t102 _ ?side1 ?side2 A3.out).mono ?_); (case side1 => exact tC (Kd.C_below HR0_3.out HB.out)); (case side2 => exact HC0_3.out); rintro e w' ⟨rfl, ⟨nd, rfl⟩⟩; refine ⟨_, rfl, ?_⟩))
  go_ret
  exact ⟨by first | rfl | (simp [errW_none, errW_some] <;> rfl) | (simp [*, errW_none, errW_some] <;> rfl), zb⟩
 ·rw [if_neg c4] at H
  have c4b0 : decide (t102 < 0) = false := decide_eq_false c4
  clear c4
  replace H := tbe H
  obtain ⟨t103, A7, H⟩ := H
  by_cases c8 : t103 < 0
  ·rw [if_pos c8] at H
   have c8b0 : decide (t103 < 0) = true := decide_eq_true c8
   clear c8
   obtain rfl := Option.some.inj H
   go_enter Tryd.func42, Tryd.ntmps42
   go_wp2_with (first | ((with_reducible refine gate_dst (N := 2) rfl ?_); refine box_event ?hg (N := 2) ?hd (cs := #[.int .i64 a0_0, .int .i64 a0_1, .bool a0_2, .slice A0_3 l0_3.length c0_3, .bool a0_4, .slice A0_5 l0_5.length c0_5]) (t := 71) ?hr ?_; (case hd => rfl); (case hg => rfl); (case hr => first | (go_simp; done) | (go_simp; rfl)); intro gb101 hg w9 hbox hb; have BK101 := Aside0.mk (hbox); have GW101 := tge HB hg; have GE101 := tge HB hg; replace HB := tBs HB hb; clear hb hbox hg; obtain ⟨hcz10_0, hcz10_1, hcz10_2, hcz10_3, hcz10_4, hcz10_5, hfz10_0, hfz10_1, hfz10_2, hfz10_3, hfz10_4, hfz10_5⟩ := cells6 BK101.out) | ((with_reducible refine gate_callee (f := 55) rfl ?_); refine goesL_ (some 8) rfl rfl Tryd.func55 (by kernel_rfl) rfl #[.slice A0_3 l0_3.length c0_3, .int .i64 a1] rfl tq ?_; (with_reducible refine (laws_szIntS.calls _ _ l0_3 a1 t102 _ ?side1 ?side2 A3.out).mono ?_); (case side1 => exact tC (Kd.C_below HR0_3.out HB.out)); (case side2 => exact HC0_3.out); rintro e w' ⟨rfl, ⟨nd, rfl⟩⟩; refine ⟨_, rfl, ?_⟩) | ((with_reducible refine gate_callee (f := 55) rfl ?_); refine goesL_ (some 14) rfl rfl Tryd.func55 (by kernel_rfl) rfl #[.slice A0_5 l0_5.length c0_5, .int .i64 t102] rfl tq ?_; (with_reducible refine (laws_szIntS.calls _ _ l0_5 t102 t103 _ ?side1 ?side2 A7.out).mono ?_); (case side1 => exact tC (Kd.C_below HR0_5.out zb)); (case side2 => exact HC0_5.out); rintro e w' ⟨rfl, ⟨nd, rfl⟩⟩; refine ⟨_, rfl, ?_⟩))
   go_ret
   exact ⟨by first | rfl | (simp [errW_none, errW_some] <;> rfl) | (simp [*, errW_none, errW_some] <;> rfl), zb⟩
  ·rw [if_neg c8] at H
   have c8b0 : decide (t103 < 0) = false := decide_eq_false c8
   clear c8
   obtain rfl := Option.some.inj H
   go_enter Tryd.func42, Tryd.ntmps42
   go_wp2_with (first | ((with_reducible refine gate_dst (N := 2) rfl ?_); refine box_event ?hg (N := 2) ?hd (cs := #[.int .i64 a0_0, .int .i64 a0_1, .bool a0_2, .slice A0_3 l0_3.length c0_3, .bool a0_4, .slice A0_5 l0_5.length c0_5]) (t := 71) ?hr ?_; (case hd => rfl); (case hg => rfl); (case hr => first | (go_simp; done) | (go_simp; rfl)); intro gb101 hg w11 hbox hb; have BK101 := Aside0.mk (hbox); have GW101 := tge HB hg; have GE101 := tge HB hg; replace HB := tBs HB hb; clear hb hbox hg; obtain ⟨hcz12_0, hcz12_1, hcz12_2, hcz12_3, hcz12_4, hcz12_5, hfz12_0, hfz12_1, hfz12_2, hfz12_3, hfz12_4, hfz12_5⟩ := cells6 BK101.out) | ((with_reducible refine gate_callee (f := 55) rfl ?_); refine goesL_ (some 8) rfl rfl Tryd.func55 (by kernel_rfl) rfl #[.slice A0_3 l0_3.length c0_3, .int .i64 a1] rfl tq ?_; (with_reducible refine (laws_szIntS.calls _ _ l0_3 a1 t102 _ ?side1 ?side2 A3.out).mono ?_); (case side1 => exact tC (Kd.C_below HR0_3.out HB.out)); (case side2 => exact HC0_3.out); rintro e w' ⟨rfl, ⟨nd, rfl⟩⟩; refine ⟨_, rfl, ?_⟩) | ((with_reducible refine gate_callee (f := 55) rfl ?_); refine goesL_ (some 14) rfl rfl Tryd.func55 (by kernel_rfl) rfl #[.slice A0_5 l0_5.length c0_5, .int .i64 t102] rfl tq ?_; (with_reducible refine (laws_szIntS.calls _ _ l0_5 t102 t103 _ ?side1 ?side2 A7.out).mono ?_); (case side1 => exact tC (Kd.C_below HR0_5.out zb)); (case side2 => exact HC0_5.out); rintro e w' ⟨rfl, ⟨nd, rfl⟩⟩; refine ⟨_, rfl, ?_⟩))
   go_ret
   exact ⟨by first | rfl | (simp [errW_none, errW_some] <;> rfl) | (simp [*, errW_none, errW_some] <;> rfl), zb⟩

def laws_szRecordS.l0 : Nat → List (S71) → Int → Int → Option (Int)
 | 0, _, _, _ => none
 | k + 1, x0, x1, x5 => if x5 < (x0.length : Int) then (if 0 ≤ x5 then ((laws_szRecord.f ((rd_T71 x0 x5).f0) ((rd_T71 x0 x5).f1) ((rd_T71 x0 x5).f2) ((rd_T71 x0 x5).f3) ((rd_T71 x0 x5).f4) ((rd_T71 x0 x5).f5) x1).bind fun t105 => (if t105 < 0 then (some (-1)) else (laws_szRecordS.l0 k x0 t105 (wrap64 (x5 + 1))))) else (none)) else (some x1)
def laws_szRecordS.f (k : Nat) (l0 : List (S71)) (a1 : Int) : Option (Int) := if (wrap64 (a1 - (l0.length : Int))) < 0 then (some (-1)) else (laws_szRecordS.l0 k l0 (wrap64 (a1 - (l0.length : Int))) 0)
set_option maxHeartbeats 8000000 in
set_option maxRecDepth 100000 in
theorem laws_szRecordS.calls (k : Nat) (A0 : Option Addr) (c0 : Nat) (l0 : List (S71)) (a1 : Int) (r : Int) (w : World) (hr0 : Kd.C k71 w A0 l0.length l0) (hc0 : l0.length ≤ c0) (h : laws_szRecordS.f k l0 a1 = some r) :
  Calls Tryd.prog 25 #[.slice A0 l0.length c0, .int .i64 a1] w fun e w' => e = .returned (.int .i64 r) ∧ Below w.heap.size w w' := by
 have hu71 := Tryd.underlying71
 have HR0 := Aside0.mk hr0
 have HC0 := Aside0.mk hc0
 clear hr0 hc0
 have HB := Aside0.mk (Below.refl w.heap.size w)
 have H : (if (wrap64 (a1 - (l0.length : Int))) < 0 then (some (-1)) else (laws_szRecordS.l0 k l0 (wrap64 (a1 - (l0.length : Int))) 0)) = some r := h
 clear h
 by_cases c3 : (wrap64 (a1 - (l0.length : Int))) < 0
 ·rw [if_pos c3] at H
  have c3b0 : decide ((wrap64 (a1 - (l0.length : Int))) < 0) = true := decide_eq_true c3
  clear c3
  obtain rfl := Option.some.inj H
  go_enter Tryd.func25, Tryd.ntmps25
  go_wp2
  go_ret
  exact ⟨by first | rfl | (simp [errW_none, errW_some] <;> rfl) | (simp [*, errW_none, errW_some] <;> rfl), zb⟩
 ·rw [if_neg c3] at H
  have c3b0 : decide ((wrap64 (a1 - (l0.length : Int))) < 0) = false := decide_eq_false c3
  clear c3
  have H' := Aside0.mk H
  clear H
  go_enter Tryd.func25, Tryd.ntmps25
  go_wp2
  go_loopg [1, 5] k (fun kq v1 v5 w' => ∃ (x1_1 : Int) (x5_1 : Int), v1 = .int .i64 x1_1 ∧ v5 = .int .i64 x5_1 ∧ Aside0 (laws_szRecordS.l0 kq l0 x1_1 x5_1 = some r) ∧ Aside0 (kq ≤ k) ∧ Aside0 (Below w.heap.size w w'))
  case atStart => exact ⟨(wrap64 (a1 - (l0.length : Int))), (0), tr, tr, H', ⟨Nat.le_refl _⟩, ⟨zb⟩⟩
  case round =>
   clear H'
   try clear c3; try clear c3b0
   obtain ⟨x1_1, x5_1, rfl, rfl, HA, HK1, HB⟩ := hrel
   cases gk with
   | zero => exact absurd HA.out (by simp [laws_szRecordS.l0])
   | succ k1 =>
    have H := HA.out
    clear HA
    simp only [laws_szRecordS.l0] at H
    by_cases c4 : x5_1 < (l0.length : Int)
    ·rw [if_pos c4] at H
     have c4b0 : decide (x5_1 < (l0.length : Int)) = true := decide_eq_true c4
     clear c4
     by_cases c5 : 0 ≤ x5_1
     ·rw [if_pos c5] at H
      have c5b0 : decide (0 ≤ x5_1) = true := decide_eq_true c5
      clear c5
      replace H := tbe H
      obtain ⟨t105, A6, H⟩ := H
      by_cases c7 : t105 < 0
      ·rw [if_pos c7] at H
       have c7b0 : decide (t105 < 0) = true := decide_eq_true c7
       clear c7
       obtain rfl := Option.some.inj H
       have p104 : 0 ≤ (x5_1 : Int) := td
       have q104 : x5_1 < (l0.length : Int) := td
       obtain ⟨ad104, A104_3, c104_3, A104_5, c104_5, e104, hx104_0, hx104_1, hx104_2, hx104_3, hx104_4, hx104_5, hl104_3, hi104_3, hl104_5, hi104_5⟩ := at_T71 HR0.out x5_1 p104 q104
       cases e104
       replace hx104_0 := tcl HB hx104_0
       replace hx104_1 := tcl HB hx104_1
       replace hx104_2 := tcl HB hx104_2
       replace hx104_3 := tcl HB hx104_3
       replace hx104_4 := tcl HB hx104_4
       replace hx104_5 := tcl HB hx104_5
       have HR104_3 := Aside0.mk hi104_3
       have HC104_3 := Aside0.mk hl104_3
       clear hi104_3 hl104_3
       have HR104_5 := Aside0.mk hi104_5
       have HC104_5 := Aside0.mk hl104_5
       clear hi104_5 hl104_5
       replace p104 := eq_true p104
       replace q104 := eq_true q104
       go_wp2_with (first | ((with_reducible refine gate_callee (f := 42) rfl ?_); refine goesL_ (some 23) rfl rfl Tryd.func42 (by kernel_rfl) rfl #[.agg #[.int .i64 ((rd_T71 l0 x5_1).f0), .int .i64 ((rd_T71 l0 x5_1).f1), .bool ((rd_T71 l0 x5_1).f2), .slice A104_3 ((rd_T71 l0 x5_1).f3).length c104_3, .bool ((rd_T71 l0 x5_1).f4), .slice A104_5 ((rd_T71 l0 x5_1).f5).length c104_5], .int .i64 x1_1] rfl tq ?_; (with_reducible refine (laws_szRecord.calls ((rd_T71 l0 x5_1).f0) ((rd_T71 l0 x5_1).f1) ((rd_T71 l0 x5_1).f2) _ _ ((rd_T71 l0 x5_1).f3) ((rd_T71 l0 x5_1).f4) _ _ ((rd_T71 l0 x5_1).f5) x1_1 t105 _ ?side1 ?side2 ?side3 ?side4 A6.out).mono ?_); (case side1 => exact tC (Kd.C_below HR104_3.out HB.out)); (case side2 => exact HC104_3.out); (case side3 => exact tC (Kd.C_below HR104_5.out HB.out)); (case side4 => exact HC104_5.out); rintro e w8 ⟨rfl, hb⟩; refine ⟨_, rfl, ?_⟩; replace HB := tBs HB hb; (try clear hb); (try clear hb2); (try clear hk); (try clear hi)))
       go_ret
       exact ⟨by first | rfl | (simp [errW_none, errW_some] <;> rfl) | (simp [*, errW_none, errW_some] <;> rfl), zb⟩
      ·rw [if_neg c7] at H
       have c7b0 : decide (t105 < 0) = false := decide_eq_false c7
       clear c7
       have H' := Aside0.mk H
       clear H
       have p104 : 0 ≤ (x5_1 : Int) := td
       have q104 : x5_1 < (l0.length : Int) := td
       obtain ⟨ad104, A104_3, c104_3, A104_5, c104_5, e104, hx104_0, hx104_1, hx104_2, hx104_3, hx104_4, hx104_5, hl104_3, hi104_3, hl104_5, hi104_5⟩ := at_T71 HR0.out x5_1 p104 q104
       cases e104
       replace hx104_0 := tcl HB hx104_0
       replace hx104_1 := tcl HB hx104_1
       replace hx104_2 := tcl HB hx104_2
       replace hx104_3 := tcl HB hx104_3
       replace hx104_4 := tcl HB hx104_4
       replace hx104_5 := tcl HB hx104_5
       have HR104_3 := Aside0.mk hi104_3
       have HC104_3 := Aside0.mk hl104_3
       clear hi104_3 hl104_3
       have HR104_5 := Aside0.mk hi104_5
       have HC104_5 := Aside0.mk hl104_5
       clear hi104_5 hl104_5
       replace p104 := eq_true p104
       replace q104 := eq_true q104
       go_wp2_with (first | ((with_reducible refine gate_callee (f := 42) rfl ?_); refine goesL_ (some 23) rfl rfl Tryd.func42 (by kernel_rfl) rfl #[.agg #[.int .i64 ((rd_T71 l0 x5_1).f0), .int .i64 ((rd_T71 l0 x5_1).f1), .bool ((rd_T71 l0 x5_1).f2), .slice A104_3 ((rd_T71 l0 x5_1).f3).length c104_3, .bool ((rd_T71 l0 x5_1).f4), .slice A104_5 ((rd_T71 l0 x5_1).f5).length c104_5], .int .i64 x1_1] rfl tq ?_; (with_reducible refine (laws_szRecord.calls ((rd_T71 l0 x5_1).f0) ((rd_T71 l0 x5_1).f1) ((rd_T71 l0 x5_1).f2) _ _ ((rd_T71 l0 x5_1).f3) ((rd_T71 l0 x5_1).f4) _ _ ((rd_T71 l0 x5_1).f5) x1_1 t105 _ ?side1 ?side2 ?side3 ?side4 A6.out).mono ?_); (case side1 => exact tC (Kd.C_below HR104_3.out HB.out)); (case side2 => exact HC104_3.out); (case side3 => exact tC (Kd.C_below HR104_5.out HB.out)); (case side4 => exact HC104_5.out); rintro e w9 ⟨rfl, hb⟩; refine ⟨_, rfl, ?_⟩; replace HB := tBs HB hb; (try clear hb); (try clear hb2); (try clear hk); (try clear hi)))
       go_roundg k1
       case measure => have := HK1.out; omega
       case rel => exact ⟨(t105), (wrap64 (x5_1 + 1)), tr, tr, H', ⟨by have := HK1.out; omega⟩, ⟨zb⟩⟩
     ·rw [if_neg c5] at H
      exact absurd H (by simp)
    ·rw [if_neg c4] at H
     have c4b0 : decide (x5_1 < (l0.length : Int)) = false := decide_eq_false c4
     clear c4
     obtain rfl := Option.some.inj H
     go_wp2
     go_ret
     exact ⟨by first | rfl | (simp [errW_none, errW_some] <;> rfl) | (simp [*, errW_none, errW_some] <;> rfl), zb⟩

def laws_szBatch.f (k : Nat) (a0_0 : Bool) (a0_1 : Bool) (a0_2 : Int) (a0_3 : Int) (a0_4 : Int) (l0_5 : List (S71)) (a1 : Int) : Option (Int) := (laws_szRecordS.f k l0_5 a1).bind fun t107 => (if t107 < 0 then (some (-1)) else (some t107))
set_option maxHeartbeats 8000000 in
set_option maxRecDepth 100000 in
theorem laws_szBatch.calls (k : Nat) (a0_0 : Bool) (a0_1 : Bool) (a0_2 : Int) (a0_3 : Int) (a0_4 : Int) (A0_5 : Option Addr) (c0_5 : Nat) (l0_5 : List (S71)) (a1 : Int) (r : Int) (w : World) (hr0_5 : Kd.C k71 w A0_5 l0_5.length l0_5) (hc0_5 : l0_5.length ≤ c0_5) (h : laws_szBatch.f k a0_0 a0_1 a0_2 a0_3 a0_4 l0_5 a1 = some r) :
  Calls Tryd.prog 7 #[.agg #[.bool a0_0, .bool a0_1, .int .i64 a0_2, .int .i64 a0_3, .int .i64 a0_4, .slice A0_5 l0_5.length c0_5], .int .i64 a1] w fun e w' => e = .returned (.int .i64 r) ∧ Below w.heap.size w w' := by
 have hu24 := Tryd.underlying24
 have HR0_5 := Aside0.mk hr0_5
 have HC0_5 := Aside0.mk hc0_5
 clear hr0_5 hc0_5
 have HB := Aside0.mk (Below.refl w.heap.size w)
 have H : ((laws_szRecordS.f k l0_5 a1).bind fun t107 => (if t107 < 0 then (some (-1)) else (some t107))) = some r := h
 clear h
 replace H := tbe H
 obtain ⟨t107, A3, H⟩ := H
 by_cases c4 : t107 < 0
 ·rw [if_pos c4] at H
  have c4b0 : decide (t107 < 0) = true := decide_eq_true c4
  clear c4
  obtain rfl := Option.some.inj H
  go_enter Tryd.func7, Tryd.ntmps7
  go_wp2_with (first | ((with_reducible refine gate_dst (N := 2) rfl ?_); refine box_event ?hg (N := 2) ?hd (cs := #[.bool a0_0, .bool a0_1, .int .i64 a0_2, .int .i64 a0_3, .int .i64 a0_4, .slice A0_5 l0_5.length c0_5]) (t := 24) ?hr ?_; (case hd => rfl); (case hg => rfl); (case hr => first | (go_simp; done) | (go_simp; rfl)); intro gb106 hg w5 hbox hb; have BK106 := Aside0.mk (hbox); have GW106 := tge HB hg; have GE106 := tge HB hg; replace HB := tBs HB hb; clear hb hbox hg; obtain ⟨hcz6_0, hcz6_1, hcz6_2, hcz6_3, hcz6_4, hcz6_5, hfz6_0, hfz6_1, hfz6_2, hfz6_3, hfz6_4, hfz6_5⟩ := cells6 BK106.out) | ((with_reducible refine gate_callee (f := 25) rfl ?_); refine goesL_ (some 8) rfl rfl Tryd.func25 (by kernel_rfl) rfl #[.slice A0_5 l0_5.length c0_5, .int .i64 a1] rfl tq ?_; (with_reducible refine (laws_szRecordS.calls k _ _ l0_5 a1 t107 _ ?side1 ?side2 A3.out).mono ?_); (case side1 => exact tC (Kd.C_below HR0_5.out HB.out)); (case side2 => exact HC0_5.out); rintro e w7 ⟨rfl, hb⟩; refine ⟨_, rfl, ?_⟩; replace BK106 := tBb BK106 hb; replace HB := tBs HB hb; (try clear hb); (try clear hb2); (try clear hk); (try clear hi)))
  go_ret
  exact ⟨by first | rfl | (simp [errW_none, errW_some] <;> rfl) | (simp [*, errW_none, errW_some] <;> rfl), zb⟩
 ·rw [if_neg c4] at H
  have c4b0 : decide (t107 < 0) = false := decide_eq_false c4
  clear c4
  obtain rfl := Option.some.inj H
  go_enter Tryd.func7, Tryd.ntmps7
  go_wp2_with (first | ((with_reducible refine gate_dst (N := 2) rfl ?_); refine box_event ?hg (N := 2) ?hd (cs := #[.bool a0_0, .bool a0_1, .int .i64 a0_2, .int .i64 a0_3, .int .i64 a0_4, .slice A0_5 l0_5.length c0_5]) (t := 24) ?hr ?_; (case hd => rfl); (case hg => rfl); (case hr => first | (go_simp; done) | (go_simp; rfl)); intro gb106 hg w8 hbox hb; have BK106 := Aside0.mk (hbox); have GW106 := tge HB hg; have GE106 := tge HB hg; replace HB := tBs HB hb; clear hb hbox hg; obtain ⟨hcz9_0, hcz9_1, hcz9_2, hcz9_3, hcz9_4, hcz9_5, hfz9_0, hfz9_1, hfz9_2, hfz9_3, hfz9_4, hfz9_5⟩ := cells6 BK106.out) | ((with_reducible refine gate_callee (f := 25) rfl ?_); refine goesL_ (some 8) rfl rfl Tryd.func25 (by kernel_rfl) rfl #[.slice A0_5 l0_5.length c0_5, .int .i64 a1] rfl tq ?_; (with_reducible refine (laws_szRecordS.calls k _ _ l0_5 a1 t107 _ ?side1 ?side2 A3.out).mono ?_); (case side1 => exact tC (Kd.C_below HR0_5.out HB.out)); (case side2 => exact HC0_5.out); rintro e w10 ⟨rfl, hb⟩; refine ⟨_, rfl, ?_⟩; replace BK106 := tBb BK106 hb; replace HB := tBs HB hb; (try clear hb); (try clear hb2); (try clear hk); (try clear hi)))
  go_ret
  exact ⟨by first | rfl | (simp [errW_none, errW_some] <;> rfl) | (simp [*, errW_none, errW_some] <;> rfl), zb⟩

end Go.Proofs.YtfjkpdhldeopaaaDoor.G

namespace Go.Proofs.YtfjkpdhldeopaaaDoor.G
open Go.RowKit Go.Proofs.YtfjkpdhldeopaaaDoorW.PrintWords Go.Proofs.YtfjkpdhldeopaaaDoorW.PrintLast Go.Proofs.YtfjkpdhldeopaaaDoorW.PrintMore
attribute [local go_sem] max2_int min2_int max_two min_two max_three min_three max_four min_four   -- for this text's walks alone
set_option linter.unusedVariables false
set_option linter.unusedSimpArgs false

def laws_toIntS.l0 : Nat → List Int → List Int → Int → Option (List Int)
 | 0, _, _, _ => none
 | k + 1, x0, x3, x4 => if x4 < (x0.length : Int) then (if 0 ≤ x4 then (if x4 < (x3.length : Int) then (laws_toIntS.l0 k x0 (x3.set (x4 : Int).toNat (rd x0 x4)) (wrap64 (x4 + 1))) else (none)) else (none)) else (some x3)
def laws_toIntS.f (k : Nat) (l0 : List Int) : Option (List Int) := if 0 ≤ (l0.length : Int) then (if ((l0.length : Int) : Int).toNat ≤ 35184372088832 then (laws_toIntS.l0 k l0 (List.replicate ((l0.length : Int) : Int).toNat 0) 0) else (none)) else (none)
set_option maxHeartbeats 8000000 in
set_option maxRecDepth 100000 in
theorem laws_toIntS.calls (k : Nat) (A0 : Option Addr) (c0 : Nat) (l0 : List Int) (r : List Int) (w : World) (hr0 : Kd.C (Kd.int .i64) w A0 l0.length l0) (hc0 : l0.length ≤ c0) (h : laws_toIntS.f k l0 = some r) :
  Calls Tryd.prog 57 #[.slice A0 l0.length c0] w fun e w' => ∃ v0_ : Value, e = .returned (v0_) ∧ Kd.R (Kd.int .i64) 3 w' w.heap.size (fun _ => True) v0_ r ∧ Below w.heap.size w w' := by
 have HR0 := Aside0.mk hr0
 have HC0 := Aside0.mk hc0
 clear hr0 hc0
 have HB := Aside0.mk (Below.refl w.heap.size w)
 have H : (if 0 ≤ (l0.length : Int) then (if ((l0.length : Int) : Int).toNat ≤ 35184372088832 then (laws_toIntS.l0 k l0 (List.replicate ((l0.length : Int) : Int).toNat 0) 0) else (none)) else (none)) = some r := h
 clear h
 by_cases c2 : 0 ≤ (l0.length : Int)
 ·rw [if_pos c2] at H
  have c2b0 := eq_true c2
  have c2b1 : decide (0 ≤ (l0.length : Int)) = true := decide_eq_true c2
  clear c2
  by_cases c3 : ((l0.length : Int) : Int).toNat ≤ 35184372088832
  ·rw [if_pos c3] at H
   have c3b0 := eq_true c3
   have c3b1 : decide (((l0.length : Int) : Int).toNat ≤ 35184372088832) = true := decide_eq_true c3
   clear c3
   obtain ⟨y174, hy174⟩ : ∃ y_ : List Int, y_ = (List.replicate ((l0.length : Int) : Int).toNat 0) := ⟨_, rfl⟩
   replace H : (laws_toIntS.l0 k l0 y174 0) = some r := by first | (rw [hy174]; with_reducible exact H) | (have H2_ := (Option.bind_some _ _).symm.trans H; rw [hy174]; with_reducible exact H2_) | (have H2_ := (Option.bind_some _ _).symm.trans H; with_reducible exact H2_) | with_reducible exact H | (rw [hy174]; exact H) | exact H
   have Ny174 := Aside0.mk hy174
   clear hy174
   have H' := Aside0.mk H
   clear H
   go_enter Tryd.func57, Tryd.ntmps57
   go_wp2_with (first | ((with_reducible refine gate_dst (N := 7) rfl ?_); refine Kd.R_make (Kd.int .i64) _ 3 rfl (N := 7) rfl 60 _ _ rfl (l0.length : Int) rfl rfl Tryd.underlying60 (.int .i64 0) 8 info3 rfl (by decide) (by omega) 0 (ok := fun _ => True) (okp := fun _ => True) rfl (fun _ hk => hk) trivial (td) (Nat.le_trans (Nat.mul_le_mul_right _ (td : (l0.length : Int).toNat ≤ 35184372088832)) (by omega)) (Below.refl _ _) (Nat.le_refl _) ?_; intro v175 w4 ho5 hb hg_ hnew_; clear hg_ hnew_; (first | rw [← Ny174.out] at ho5 | (simp only [Int.reduceToNat] at ho5; rw [← Ny174.out] at ho5)); have HO176 := tRl ho5 HB; replace HB := tBs HB hb; clear hb ho5))
   go_loopg [4] k (fun kq v4 w' => ∃ (x3_1 : List Int) (x4_1 : Int), v4 = .int .i64 x4_1 ∧ Aside0 (laws_toIntS.l0 kq l0 x3_1 x4_1 = some r) ∧ Aside0 (kq ≤ k) ∧ Aside0 (Kd.R (Kd.int .i64) 3 w' w.heap.size (fun _ => True) v175 x3_1) ∧ Aside0 (Below w.heap.size w w'))
   case atStart => exact ⟨(y174), (0), tr, H', ⟨Nat.le_refl _⟩, ⟨tR HO176.out⟩, ⟨zb⟩⟩
   case round =>
    clear H'
    try clear c2; try clear c2b0; try clear c2b1; try clear c3; try clear c3b0; try clear c3b1
    obtain ⟨x3_1, x4_1, rfl, HA, HK1, HO_3, HB⟩ := hrel
    cases gk with
    | zero => exact absurd HA.out (by simp [laws_toIntS.l0])
    | succ k1 =>
     have H := HA.out
     clear HA
     simp only [laws_toIntS.l0] at H
     by_cases c6 : x4_1 < (l0.length : Int)
     ·rw [if_pos c6] at H
      have c6b0 : decide (x4_1 < (l0.length : Int)) = true := decide_eq_true c6
      clear c6
      by_cases c7 : 0 ≤ x4_1
      ·rw [if_pos c7] at H
       have c7b0 : decide (0 ≤ x4_1) = true := decide_eq_true c7
       clear c7
       by_cases c8 : x4_1 < (x3_1.length : Int)
       ·rw [if_pos c8] at H
        have c8b0 : decide (x4_1 < (x3_1.length : Int)) = true := decide_eq_true c8
        clear c8
        obtain ⟨y178, hy178⟩ : ∃ y_ : List Int, y_ = (x3_1.set (x4_1 : Int).toNat (rd l0 x4_1)) := ⟨_, rfl⟩
        replace H : (laws_toIntS.l0 k1 l0 y178 (wrap64 (x4_1 + 1))) = some r := by first | (rw [hy178]; with_reducible exact H) | (have H2_ := (Option.bind_some _ _).symm.trans H; rw [hy178]; with_reducible exact H2_) | (have H2_ := (Option.bind_some _ _).symm.trans H; with_reducible exact H2_) | with_reducible exact H | (rw [hy178]; exact H) | exact H
        have Ny178 := Aside0.mk hy178
        clear hy178
        have H' := Aside0.mk H
        clear H
        have p177 : 0 ≤ (x4_1 : Int) := td
        have q177 : x4_1 < (l0.length : Int) := td
        obtain ⟨ad177, e177, hx177_0⟩ := Kd.at_int HR0.out x4_1 p177 q177
        cases e177
        replace hx177_0 := tcl HB hx177_0
        replace p177 := eq_true p177
        replace q177 := eq_true q177
        have p9 : 0 ≤ (x4_1 : Int) := td
        have q9 : (x4_1 : Int) < ((x3_1.length : Int) : Int) := td
        obtain ⟨go9, co9, eo9, gb9, gl9, cl9, HG9⟩ := Kd.R_form HO_3.out (by omega)
        (first | cases eo9 | (injection eo9 with ea_ en_ ec_; (first | subst ea_ | (injection ea_ with ea_; subst ea_)); subst ec_; clear en_))
        have GB9 := Aside0.mk gb9
        have GG9 := Aside0.mk HG9
        clear gb9 gl9 HG9
        obtain ⟨hx9_0, hf9_0⟩ := Kd.R_celln 0 HO_3.out (x4_1 : Int) p9 q9
        replace p9 := eq_true p9
        replace q9 := eq_true q9
        have HP10 := Kd.R_putg HO_3.out (x4_1 : Int) (rd l0 x4_1)
        go_wp2_with (first | ((with_reducible refine gate_store (t := 3) (p := 20) rfl ?_); refine store_event (t := 3) (p := 20) (v := ?vo_w11) (w1 := (wr.setCell ⟨go9, (x4_1 : Int).toNat, none⟩ (.int .i64 (rd l0 x4_1)))) ?hg ?ho ?hn ?hr ?_; (case ho => rfl); (case hg => rfl); (case hn => rfl); (case hr => first | (go_simp; done) | (go_simp; rfl)); intro w11 hw; have hg : wr.grownBy w11 (some go9) := (by rw [hw]; exact HP10.2); have hp_ : Kd.R (Kd.int .i64) 3 w11 w.heap.size (fun _ => True) (.slice (some ⟨go9, 0, none⟩) x3_1.length co9) y178 := (by rw [hw, Ny178.out]; exact HP10.1); clear HP10; replace HO_3 := Aside0.mk (hp_); replace HB := Aside0.mk ((by rw [hw]; exact below_set (HB.out) GB9.out : Below w.heap.size w w11)); clear hg hw hp_))
        go_roundg k1
        case measure => have := HK1.out; omega
        case rel => exact ⟨(y178), (wrap64 (x4_1 + 1)), tr, H', ⟨by have := HK1.out; omega⟩, ⟨tR HO_3.out⟩, ⟨zb⟩⟩
       ·rw [if_neg c8] at H
        exact absurd H (by simp)
      ·rw [if_neg c7] at H
       exact absurd H (by simp)
     ·rw [if_neg c6] at H
      have c6b0 : decide (x4_1 < (l0.length : Int)) = false := decide_eq_false c6
      clear c6
      obtain rfl := Option.some.inj H
      go_wp2
      go_ret
      exact ⟨_, by first | rfl | (simp [errW_none, errW_some] <;> rfl) | (simp [*, errW_none, errW_some] <;> rfl), tR HO_3.out, zb⟩
  ·rw [if_neg c3] at H
   exact absurd H (by simp)
 ·rw [if_neg c2] at H
  exact absurd H (by simp)

def laws_toRecord.f (k : Nat) (a0_0 : Int) (a0_1 : Int) (a0_2 : Bool) (l0_3 : List Int) (a0_4 : Bool) (l0_5 : List Int) : Option (Int × Int × Bool × List Int × Bool × List Int) := (laws_toIntS.f k l0_3).bind fun t182 => ((laws_toIntS.f k l0_5).bind fun t185 => (some (a0_0, a0_1, a0_2, t182, a0_4, t185)))
set_option maxHeartbeats 8000000 in
set_option maxRecDepth 100000 in
theorem laws_toRecord.calls (k : Nat) (a0_0 : Int) (a0_1 : Int) (a0_2 : Bool) (A0_3 : Option Addr) (c0_3 : Nat) (l0_3 : List Int) (a0_4 : Bool) (A0_5 : Option Addr) (c0_5 : Nat) (l0_5 : List Int) (r1 : Int) (r2 : Int) (r3 : Bool) (r4 : List Int) (r5 : Bool) (r6 : List Int) (w : World) (hr0_3 : Kd.C (Kd.int .i64) w A0_3 l0_3.length l0_3) (hc0_3 : l0_3.length ≤ c0_3) (hr0_5 : Kd.C (Kd.int .i64) w A0_5 l0_5.length l0_5) (hc0_5 : l0_5.length ≤ c0_5) (h : laws_toRecord.f k a0_0 a0_1 a0_2 l0_3 a0_4 l0_5 = some (r1, r2, r3, r4, r5, r6)) :
  Calls Tryd.prog 46 #[.agg #[.int .i64 a0_0, .int .i64 a0_1, .bool a0_2, .slice A0_3 l0_3.length c0_3, .bool a0_4, .slice A0_5 l0_5.length c0_5]] w fun e w' => ∃ v3_ v5_ : Value, e = .returned (.agg #[.int .i64 r1, .int .i64 r2, .bool r3, v3_, .bool r5, v5_]) ∧ Kd.R (Kd.int .i64) 3 w' w.heap.size (fun k_ => some k_ ≠ (v5_ : Value).ownBlock) v3_ r4 ∧ Kd.R (Kd.int .i64) 3 w' w.heap.size (fun k_ => some k_ ≠ (v3_ : Value).ownBlock) v5_ r6 ∧ Below w.heap.size w w' := by
 have hu71 := Tryd.underlying71
 have hu62 := Tryd.underlying62
 have HR0_3 := Aside0.mk hr0_3
 have HC0_3 := Aside0.mk hc0_3
 clear hr0_3 hc0_3
 have HR0_5 := Aside0.mk hr0_5
 have HC0_5 := Aside0.mk hc0_5
 clear hr0_5 hc0_5
 have HB := Aside0.mk (Below.refl w.heap.size w)
 have H : ((laws_toIntS.f k l0_3).bind fun t182 => ((laws_toIntS.f k l0_5).bind fun t185 => (some (a0_0, a0_1, a0_2, t182, a0_4, t185)))) = some (r1, r2, r3, r4, r5, r6) := h
 clear h
 replace H := tbe H
 obtain ⟨t182, A2, H⟩ := H
 replace H := tbe H
 obtain ⟨t185, A3, H⟩ := H
 simp only [Option.some.injEq, Prod.mk.injEq] at H
 obtain ⟨rfl, rfl, rfl, rfl, rfl, rfl⟩ := H
 go_enter Tryd.func46, Tryd.ntmps46
 go_wp2_with (first | ((with_reducible refine gate_dst (N := 1) rfl ?_); refine box_event ?hg (N := 1) ?hd (cs := #[.int .i64 a0_0, .int .i64 a0_1, .bool a0_2, .slice A0_3 l0_3.length c0_3, .bool a0_4, .slice A0_5 l0_5.length c0_5]) (t := 71) ?hr ?_; (case hd => rfl); (case hg => rfl); (case hr => first | (go_simp; done) | (go_simp; rfl)); intro gb179 hg w4 hbox hb; have BK179 := Aside0.mk (hbox); have GW179 := tge HB hg; have GE179 := tge HB hg; replace HB := tBs HB hb; clear hb hbox hg) | ((with_reducible refine gate_dst (N := 2) rfl ?_); refine box_event ?hg (N := 2) ?hd (cs := #[.int .i64 0, .int .i64 0, .bool false, .slice none 0 0, .bool false, .slice none 0 0]) (t := 62) ?hr ?_; (case hd => rfl); (case hg => rfl); (case hr => first | (go_simp; done) | (go_simp; rfl)); intro gb180 hg w5 hbox hb; have BK180 := Aside0.mk (hbox); have GW180 := tge HB hg; have GE180 := tge HB hg; replace HB := tBs HB hb; have NB179_180 := tlt BK179 hg; have NB180_179 := tgt BK179 hg; replace BK179 := tBb BK179 hb; clear hb hbox hg) | ((with_reducible refine gate_dst (N := 3) rfl ?_); refine box_event ?hg (N := 3) ?hd (cs := #[.int .i64 0, .int .i64 0, .bool false, .slice none 0 0, .bool false, .slice none 0 0]) (t := 62) ?hr ?_; (case hd => rfl); (case hg => rfl); (case hr => first | (go_simp; done) | (go_simp; rfl)); intro gb181 hg w6 hbox hb; have BK181 := Aside0.mk (hbox); have GW181 := tge HB hg; have GE181 := tge HB hg; replace HB := tBs HB hb; have NB179_181 := tlt BK179 hg; have NB181_179 := tgt BK179 hg; replace BK179 := tBb BK179 hb; have NB180_181 := tlt BK180 hg; have NB181_180 := tgt BK180 hg; replace BK180 := tBb BK180 hb; clear hb hbox hg; have hnb7 := NB179_180.out; have hnc7 := NB180_179.out; have hnb8 := NB179_181.out; have hnc8 := NB181_179.out; obtain ⟨hcz9_0, hcz9_1, hcz9_2, hcz9_3, hcz9_4, hcz9_5, hfz9_0, hfz9_1, hfz9_2, hfz9_3, hfz9_4, hfz9_5⟩ := cells6 BK179.out; have hnb10 := NB181_180.out; have hnc10 := NB180_181.out; obtain ⟨hcz11_0, hcz11_1, hcz11_2, hcz11_3, hcz11_4, hcz11_5, hfz11_0, hfz11_1, hfz11_2, hfz11_3, hfz11_4, hfz11_5⟩ := cells6 BK181.out) | ((with_reducible refine gate_callee (f := 57) rfl ?_); refine goesL_ (some 15) rfl rfl Tryd.func57 (by kernel_rfl) rfl #[.slice A0_3 l0_3.length c0_3] rfl tq ?_; (with_reducible refine (laws_toIntS.calls k _ _ l0_3 t182 _ ?side1 ?side2 A2.out).mono ?_); (case side1 => exact Kd.C_below HR0_3.out zb); (case side2 => exact HC0_3.out); rintro e w12 ⟨v183, rfl, ho0, hb⟩; have u_v183 := tsv Tryd.prog v183 ho0; refine ⟨_, rfl, ?_⟩; have HO184 := tRl ho0 HB; replace BK179 := tBb BK179 hb; replace BK180 := tBb BK180 hb; replace BK181 := tBp (o' := .cells #[.int .i64 a0_0, .int .i64 a0_1, .bool a0_2, .slice none 0 0, .bool false, .slice none 0 0] 62 (0, 0)) BK181 hb; replace HB := tBs HB hb; (try clear hb); (try clear hb2); (try clear hk); (try clear hi); (try clear ho0); obtain ⟨Ao13, co13, eo13⟩ := Kd.R_slice HO184.out; subst eo13; obtain ⟨hcz14_0, hcz14_1, hcz14_2, hcz14_3, hcz14_4, hcz14_5, hfz14_0, hfz14_1, hfz14_2, hfz14_3, hfz14_4, hfz14_5⟩ := cells6 BK181.out; obtain ⟨hcz15_0, hcz15_1, hcz15_2, hcz15_3, hcz15_4, hcz15_5, hfz15_0, hfz15_1, hfz15_2, hfz15_3, hfz15_4, hfz15_5⟩ := cells6 BK179.out) | ((with_reducible refine gate_callee (f := 57) rfl ?_); refine goesL_ (some 22) rfl rfl Tryd.func57 (by kernel_rfl) rfl #[.slice A0_5 l0_5.length c0_5] rfl tq ?_; (with_reducible refine (laws_toIntS.calls k _ _ l0_5 t185 _ ?side1 ?side2 A3.out).mono ?_); (case side1 => exact Kd.C_below HR0_5.out zb); (case side2 => exact HC0_5.out); rintro e w16 ⟨v186, rfl, ho0, hb⟩; have u_v186 := tsv Tryd.prog v186 ho0; refine ⟨_, rfl, ?_⟩; have HO187 := Aside0.mk (Kd.R_lower (Kd.R_new' ho0 (Kd.R_lt (tRt HO184.out BK181.out))) (below_size zb)); replace HO184 := Aside0.mk (Kd.R_elder' (tRt HO184.out BK181.out) (Kd.R_base ho0) hb); replace BK179 := tBb BK179 hb; replace BK180 := tBb BK180 hb; replace BK181 := tBp (o' := .cells #[.int .i64 a0_0, .int .i64 a0_1, .bool a0_2, .slice Ao13 t182.length co13, .bool a0_4, .slice none 0 0] 62 (0, 0)) BK181 hb; replace HB := tBs HB hb; (try clear hb); (try clear hb2); (try clear hk); (try clear hi); (try clear ho0); obtain ⟨Ao17, co17, eo17⟩ := Kd.R_slice HO187.out; subst eo17; obtain ⟨hcz18_0, hcz18_1, hcz18_2, hcz18_3, hcz18_4, hcz18_5, hfz18_0, hfz18_1, hfz18_2, hfz18_3, hfz18_4, hfz18_5⟩ := cells6 BK181.out; obtain ⟨hcz19_0, hcz19_1, hcz19_2, hcz19_3, hcz19_4, hcz19_5, hfz19_0, hfz19_1, hfz19_2, hfz19_3, hfz19_4, hfz19_5⟩ := cells6 BK180.out))
 refine bodyPost_ret (results_cell_row rfl _ _ gb180 62 #[.int .i64 a0_0, .int .i64 a0_1, .bool a0_2, .slice Ao13 t182.length co13, .bool a0_4, .slice Ao17 t185.length co17] (0, 0) _ rfl (tP BK180.out) Tryd.underlying62 rfl (by kernel_rfl)) rfl ?_
 exact ⟨_, _, by first | rfl | (simp [errW_none, errW_some] <;> rfl) | (simp [*, errW_none, errW_some] <;> rfl), tRm (Kd.R_types (Kd.R_types HO184.out BK181.out (by decide)) BK180.out (by decide)), tRm (Kd.R_types (Kd.R_types HO187.out BK181.out (by decide)) BK180.out (by decide)), zb⟩

def laws_toRecordS.l0 : Nat → List (S71) → List (S62) → Int → Option ((List (S62)))
 | 0, _, _, _ => none
 | k + 1, x0, x3, x4 => if x4 < (x0.length : Int) then (if 0 ≤ x4 then ((laws_toRecord.f k ((rd_T71 x0 x4).f0) ((rd_T71 x0 x4).f1) ((rd_T71 x0 x4).f2) ((rd_T71 x0 x4).f3) ((rd_T71 x0 x4).f4) ((rd_T71 x0 x4).f5)).bind fun bt192 => (if x4 < (x3.length : Int) then (laws_toRecordS.l0 k x0 (x3.set (x4 : Int).toNat (⟨bt192.1, bt192.2.1, bt192.2.2.1, bt192.2.2.2.1, bt192.2.2.2.2.1, bt192.2.2.2.2.2⟩ : S62)) (wrap64 (x4 + 1))) else (none))) else (none)) else (some x3)
def laws_toRecordS.f (k : Nat) (l0 : List (S71)) : Option ((List (S62))) := if 0 ≤ (l0.length : Int) then (if ((l0.length : Int) : Int).toNat ≤ 3518437208883 then (laws_toRecordS.l0 k l0 (List.replicate ((l0.length : Int) : Int).toNat z62) 0) else (none)) else (none)
set_option maxHeartbeats 8000000 in
set_option maxRecDepth 100000 in
theorem laws_toRecordS.calls (k : Nat) (A0 : Option Addr) (c0 : Nat) (l0 : List (S71)) (r : List (S62)) (w : World) (hr0 : Kd.C k71 w A0 l0.length l0) (hc0 : l0.length ≤ c0) (h : laws_toRecordS.f k l0 = some r) :
  Calls Tryd.prog 28 #[.slice A0 l0.length c0] w fun e w' => ∃ v0_ : Value, e = .returned (v0_) ∧ Kd.S k62 62 w' w.heap.size (fun _ => True) v0_ r ∧ Below w.heap.size w w' := by
 have hu71 := Tryd.underlying71
 have hu62 := Tryd.underlying62
 have HR0 := Aside0.mk hr0
 have HC0 := Aside0.mk hc0
 clear hr0 hc0
 have HB := Aside0.mk (Below.refl w.heap.size w)
 have H : (if 0 ≤ (l0.length : Int) then (if ((l0.length : Int) : Int).toNat ≤ 3518437208883 then (laws_toRecordS.l0 k l0 (List.replicate ((l0.length : Int) : Int).toNat z62) 0) else (none)) else (none)) = some r := h
 clear h
 by_cases c2 : 0 ≤ (l0.length : Int)
 ·rw [if_pos c2] at H
  have c2b0 := eq_true c2
  have c2b1 : decide (0 ≤ (l0.length : Int)) = true := decide_eq_true c2
  clear c2
  by_cases c3 : ((l0.length : Int) : Int).toNat ≤ 3518437208883
  ·rw [if_pos c3] at H
   have c3b0 := eq_true c3
   have c3b1 : decide (((l0.length : Int) : Int).toNat ≤ 3518437208883) = true := decide_eq_true c3
   clear c3
   obtain ⟨y188, hy188⟩ : ∃ y_ : List (S62), y_ = (List.replicate ((l0.length : Int) : Int).toNat z62) := ⟨_, rfl⟩
   replace H : (laws_toRecordS.l0 k l0 y188 0) = some r := by first | (rw [hy188]; with_reducible exact H) | (have H2_ := (Option.bind_some _ _).symm.trans H; rw [hy188]; with_reducible exact H2_) | (have H2_ := (Option.bind_some _ _).symm.trans H; with_reducible exact H2_) | with_reducible exact H | (rw [hy188]; exact H) | exact H
   have Ny188 := Aside0.mk hy188
   clear hy188
   have H' := Aside0.mk H
   clear H
   go_enter Tryd.func28, Tryd.ntmps28
   go_wp2_with (first | ((with_reducible refine gate_dst (N := 7) rfl ?_); refine Kd.S_make k62 _ 62 rfl (N := 7) rfl 26 _ _ rfl (l0.length : Int) rfl rfl Tryd.underlying26 (.agg #[(.int .i64 0), (.int .i64 0), (.bool false), (.slice none 0 0), (.bool false), (.slice none 0 0)]) 80 info62 rfl (by decide) (by omega) z62 (ok := fun _ => True) (okp := fun _ => True) (k62_mkM _ _ _ z62 (Kd.R_nil _ _ _ _ _) (Kd.R_nil _ _ _ _ _)) (fun _ hk => hk) trivial (td) (Nat.le_trans (Nat.mul_le_mul_right _ (td : (l0.length : Int).toNat ≤ 3518437208883)) (by omega)) (Below.refl _ _) (Nat.le_refl _) ?_; intro v189 w4 ho5 hb hg_ hnew_; clear hg_ hnew_; (first | rw [← Ny188.out] at ho5 | (simp only [Int.reduceToNat] at ho5; rw [← Ny188.out] at ho5)); have HO190 := tSl ho5 HB; replace HB := tBs HB hb; clear hb ho5))
   go_loopg [4] k (fun kq v4 w' => ∃ (x3_1 : List (S62)) (x4_1 : Int), v4 = .int .i64 x4_1 ∧ Aside0 (laws_toRecordS.l0 kq l0 x3_1 x4_1 = some r) ∧ Aside0 (kq ≤ k) ∧ Aside0 (Kd.S k62 62 w' w.heap.size (fun _ => True) v189 x3_1) ∧ Aside0 (Below w.heap.size w w'))
   case atStart => exact ⟨(y188), (0), tr, H', ⟨Nat.le_refl _⟩, ⟨tS HO190.out⟩, ⟨zb⟩⟩
   case round =>
    clear H'
    try clear c2; try clear c2b0; try clear c2b1; try clear c3; try clear c3b0; try clear c3b1
    obtain ⟨x3_1, x4_1, rfl, HA, HK1, HO_3, HB⟩ := hrel
    cases gk with
    | zero => exact absurd HA.out (by simp [laws_toRecordS.l0])
    | succ k1 =>
     have H := HA.out
     clear HA
     simp only [laws_toRecordS.l0] at H
     by_cases c6 : x4_1 < (l0.length : Int)
     ·rw [if_pos c6] at H
      have c6b0 : decide (x4_1 < (l0.length : Int)) = true := decide_eq_true c6
      clear c6
      by_cases c7 : 0 ≤ x4_1
      ·rw [if_pos c7] at H
       have c7b0 : decide (0 ≤ x4_1) = true := decide_eq_true c7
       clear c7
       replace H := tbe H
       obtain ⟨⟨t192, t193, t194, t195, t198, t199⟩, A8, H⟩ := H
       dsimp only at H
       by_cases c9 : x4_1 < (x3_1.length : Int)
       ·rw [if_pos c9] at H
        have c9b0 : decide (x4_1 < (x3_1.length : Int)) = true := decide_eq_true c9
        clear c9
        obtain ⟨y202, hy202⟩ : ∃ y_ : List (S62), y_ = (x3_1.set (x4_1 : Int).toNat (⟨t192, t193, t194, t195, t198, t199⟩ : S62)) := ⟨_, rfl⟩
        replace H : (laws_toRecordS.l0 k1 l0 y202 (wrap64 (x4_1 + 1))) = some r := by first | (rw [hy202]; with_reducible exact H) | (have H2_ := (Option.bind_some _ _).symm.trans H; rw [hy202]; with_reducible exact H2_) | (have H2_ := (Option.bind_some _ _).symm.trans H; with_reducible exact H2_) | with_reducible exact H | (rw [hy202]; exact H) | exact H
        have Ny202 := Aside0.mk hy202
        clear hy202
        have H' := Aside0.mk H
        clear H
        have p191 : 0 ≤ (x4_1 : Int) := td
        have q191 : x4_1 < (l0.length : Int) := td
        obtain ⟨ad191, A191_3, c191_3, A191_5, c191_5, e191, hx191_0, hx191_1, hx191_2, hx191_3, hx191_4, hx191_5, hl191_3, hi191_3, hl191_5, hi191_5⟩ := at_T71 HR0.out x4_1 p191 q191
        cases e191
        replace hx191_0 := tcl HB hx191_0
        replace hx191_1 := tcl HB hx191_1
        replace hx191_2 := tcl HB hx191_2
        replace hx191_3 := tcl HB hx191_3
        replace hx191_4 := tcl HB hx191_4
        replace hx191_5 := tcl HB hx191_5
        have HR191_3 := Aside0.mk hi191_3
        have HC191_3 := Aside0.mk hl191_3
        clear hi191_3 hl191_3
        have HR191_5 := Aside0.mk hi191_5
        have HC191_5 := Aside0.mk hl191_5
        clear hi191_5 hl191_5
        replace p191 := eq_true p191
        replace q191 := eq_true q191
        go_wp2_with (first | ((with_reducible refine gate_callee (f := 46) rfl ?_); refine goesL_ (some 20) rfl rfl Tryd.func46 (by kernel_rfl) rfl #[.agg #[.int .i64 ((rd_T71 l0 x4_1).f0), .int .i64 ((rd_T71 l0 x4_1).f1), .bool ((rd_T71 l0 x4_1).f2), .slice A191_3 ((rd_T71 l0 x4_1).f3).length c191_3, .bool ((rd_T71 l0 x4_1).f4), .slice A191_5 ((rd_T71 l0 x4_1).f5).length c191_5]] rfl tq ?_; (with_reducible refine (laws_toRecord.calls k1 ((rd_T71 l0 x4_1).f0) ((rd_T71 l0 x4_1).f1) ((rd_T71 l0 x4_1).f2) _ _ ((rd_T71 l0 x4_1).f3) ((rd_T71 l0 x4_1).f4) _ _ ((rd_T71 l0 x4_1).f5) t192 t193 t194 t195 t198 t199 _ ?side1 ?side2 ?side3 ?side4 A8.out).mono ?_); (case side1 => exact tC (Kd.C_below HR191_3.out HB.out)); (case side2 => exact HC191_3.out); (case side3 => exact tC (Kd.C_below HR191_5.out HB.out)); (case side4 => exact HC191_5.out); rintro e w11 ⟨v196, v200, rfl, ho0, ho1, hb⟩; have u_v196 := tsv Tryd.prog v196 ho0; have u_v200 := tsv Tryd.prog v200 ho1; refine ⟨_, rfl, ?_⟩; replace HO_3 := Aside0.mk (Kd.S_mono (Kd.S_told (Kd.S_told (Kd.S_old (tS HO_3.out) hb) (Kd.R_base ho0)) (Kd.R_base ho1)) (fun _ h_ => h_.1)); have HO197 := tRl ho0 HB; have HO201 := tRl ho1 HB; replace HB := tBs HB hb; (try clear hb); (try clear hb2); (try clear hk); (try clear hi); (try clear ho0); (try clear ho1); have p10 : 0 ≤ (x4_1 : Int) := td; have q10 : (x4_1 : Int) < ((x3_1.length : Int) : Int) := td; obtain ⟨go10, co10, eo10, gb10, gl10, cl10, HG10⟩ := Kd.S_form HO_3.out (by omega); (first | cases eo10 | (injection eo10 with ea_ en_ ec_; (first | subst ea_ | (injection ea_ with ea_; subst ea_)); subst ec_; clear en_)); have GB10 := Aside0.mk gb10; have GG10 := Aside0.mk HG10; clear gb10 gl10 HG10; obtain ⟨_, ce10, hcl10, hM10, hcc10, hfr10, _, _⟩ := Kd.S_elem HO_3.out z62 (x4_1 : Int) p10 q10; obtain ⟨ve10_3, ve10_5, rfl, ge10_3, ge10_5⟩ := k62_openM hM10; have hx10_0 : w11.cell? ⟨go10, (x4_1 : Int).toNat * 6, none⟩ = some (.int .i64 ((rd_T62 x3_1 x4_1).f0)) := hcc10 0 _ rfl; have hx10_1 : w11.cell? ⟨go10, (x4_1 : Int).toNat * 6 + 1, none⟩ = some (.int .i64 ((rd_T62 x3_1 x4_1).f1)) := hcc10 1 _ rfl; have hx10_2 : w11.cell? ⟨go10, (x4_1 : Int).toNat * 6 + 2, none⟩ = some (.bool ((rd_T62 x3_1 x4_1).f2)) := hcc10 2 _ rfl; have hx10_3 : w11.cell? ⟨go10, (x4_1 : Int).toNat * 6 + 3, none⟩ = some (ve10_3) := hcc10 3 _ rfl; have hx10_4 : w11.cell? ⟨go10, (x4_1 : Int).toNat * 6 + 4, none⟩ = some (.bool ((rd_T62 x3_1 x4_1).f4)) := hcc10 4 _ rfl; have hx10_5 : w11.cell? ⟨go10, (x4_1 : Int).toNat * 6 + 5, none⟩ = some (ve10_5) := hcc10 5 _ rfl; have hf10_0 : w11.frozen? ⟨go10, (x4_1 : Int).toNat * 6, none⟩ = false := hfr10 0; have hf10_1 : w11.frozen? ⟨go10, (x4_1 : Int).toNat * 6 + 1, none⟩ = false := hfr10 1; have hf10_2 : w11.frozen? ⟨go10, (x4_1 : Int).toNat * 6 + 2, none⟩ = false := hfr10 2; have hf10_3 : w11.frozen? ⟨go10, (x4_1 : Int).toNat * 6 + 3, none⟩ = false := hfr10 3; have hf10_4 : w11.frozen? ⟨go10, (x4_1 : Int).toNat * 6 + 4, none⟩ = false := hfr10 4; have hf10_5 : w11.frozen? ⟨go10, (x4_1 : Int).toNat * 6 + 5, none⟩ = false := hfr10 5; clear hcl10 hcc10 hfr10 hM10; replace p10 := eq_true p10; replace q10 := eq_true q10; have n_ := Aside0.mk (Kd.S_mono (ok' := (fun k_ => some k_ ≠ (v196 : Value).ownBlock ∧ some k_ ≠ (v200 : Value).ownBlock)) HO_3.out (fun k_ hk => ⟨hk.1.2, hk.2⟩)); clear HO_3; have HO_3 := n_; clear n_; have HX12 := Aside0.mk (show Kd.S k62 62 w11 w.heap.size (fun k_ => ((fun _ => True)) k_ ∧ ¬ ((fun k_ => some k_ = (v196 : Value).ownBlock ∨ some k_ = (v200 : Value).ownBlock)) k_) (.slice (some ⟨go10, 0, none⟩) x3_1.length co10) x3_1 from (tSm HO_3.out)); obtain ⟨oki12, ce12, hcl12, hM12, hcc12, hfr12, hoki12, hH12⟩ := Kd.S_elem HX12.out z62 (x4_1 : Int) (td) (by have h_ : (x4_1 : Int) < ((x3_1.length : Int) : Int) := td; first | exact h_ | (have e_ := (Kd.S_reads' HO_3.out).1; omega) | simpa using h_); obtain ⟨ve12_3, ve12_5, rfl, ge12_3, ge12_5⟩ := k62_openM hM12; have HP12 := Kd.S_seg hH12 (td) (by have h_ : (x4_1 : Int) < ((x3_1.length : Int) : Int) := td; first | exact h_ | (have e_ := (Kd.S_reads' HO_3.out).1; omega) | simpa using h_) (seg := [.int .i64 t192, .int .i64 t193, .bool t194, v196, .bool t198, v200]) (j := 0) (show 6 ≤ 6 from by decide) (x' := (⟨t192, t193, t194, t195, t198, t199⟩ : S62)) (k62_mkM _ _ _ (⟨t192, t193, t194, t195, t198, t199⟩ : S62) (Kd.R_mono (Kd.R_tight rfl (Kd.R_mono (ok' := fun k_ => ((fun _ => True)) k_ ∧ k_ ≠ go10) (Kd.R_apart' (HO197.out) (Kd.S_typed HO_3.out) (by decide)) (fun k_ hk => ⟨trivial, fun e_ => (hk.2) (by rw [e_]; rfl)⟩))) (fun _ h_ => Or.inr (Or.inl h_))) (Kd.R_mono (Kd.R_tight rfl (Kd.R_mono (ok' := fun k_ => ((fun _ => True)) k_ ∧ k_ ≠ go10) (Kd.R_apart' (HO201.out) (Kd.S_typed HO_3.out) (by decide)) (fun k_ hk => ⟨trivial, fun e_ => (hk.2) (by rw [e_]; rfl)⟩))) (fun _ h_ => Or.inr (Or.inr (h_))))) (fun _ hk => hk) (fun k_ hk_ => hk_.elim (fun h_ => ((Kd.R_mono (ok' := fun k_ => ((fun _ => True)) k_ ∧ k_ ≠ go10) (Kd.R_apart' (HO197.out) (Kd.S_typed HO_3.out) (by decide)) (fun k_ hk => ⟨trivial, fun e_ => (hk.2) (by rw [e_]; rfl)⟩))).1 k_ h_.symm) (fun h_ => ((Kd.R_mono (ok' := fun k_ => ((fun _ => True)) k_ ∧ k_ ≠ go10) (Kd.R_apart' (HO201.out) (Kd.S_typed HO_3.out) (by decide)) (fun k_ hk => ⟨trivial, fun e_ => (hk.2) (by rw [e_]; rfl)⟩))).1 k_ h_.symm)); have hx12_0 := hcc12 0 _ rfl; (try simp only [show (k62).sz = 6 from rfl, Nat.mul_one, Nat.add_zero] at hx12_0); have hf12_0 := hfr12 0; (try simp only [show (k62).sz = 6 from rfl, Nat.mul_one, Nat.add_zero] at hf12_0); have hx12_1 := hcc12 1 _ rfl; (try simp only [show (k62).sz = 6 from rfl, Nat.mul_one, Nat.add_zero] at hx12_1); have hf12_1 := hfr12 1; (try simp only [show (k62).sz = 6 from rfl, Nat.mul_one, Nat.add_zero] at hf12_1); have hx12_2 := hcc12 2 _ rfl; (try simp only [show (k62).sz = 6 from rfl, Nat.mul_one, Nat.add_zero] at hx12_2); have hf12_2 := hfr12 2; (try simp only [show (k62).sz = 6 from rfl, Nat.mul_one, Nat.add_zero] at hf12_2); have hx12_3 := hcc12 3 _ rfl; (try simp only [show (k62).sz = 6 from rfl, Nat.mul_one, Nat.add_zero] at hx12_3); have hf12_3 := hfr12 3; (try simp only [show (k62).sz = 6 from rfl, Nat.mul_one, Nat.add_zero] at hf12_3); have hx12_4 := hcc12 4 _ rfl; (try simp only [show (k62).sz = 6 from rfl, Nat.mul_one, Nat.add_zero] at hx12_4); have hf12_4 := hfr12 4; (try simp only [show (k62).sz = 6 from rfl, Nat.mul_one, Nat.add_zero] at hf12_4); have hx12_5 := hcc12 5 _ rfl; (try simp only [show (k62).sz = 6 from rfl, Nat.mul_one, Nat.add_zero] at hx12_5); have hf12_5 := hfr12 5; (try simp only [show (k62).sz = 6 from rfl, Nat.mul_one, Nat.add_zero] at hf12_5); clear hcl12 hcc12 hfr12 hM12 hoki12 hH12) | ((with_reducible refine gate_store (t := 62) (p := 21) rfl ?_); refine store_event (t := 62) (p := 21) (v := ?vo_w13) (w1 := ((((((w11.setCell ⟨go10, (x4_1 : Int).toNat * 6, none⟩ (.int .i64 t192)).setCell ⟨go10, (x4_1 : Int).toNat * 6 + 1, none⟩ (.int .i64 t193)).setCell ⟨go10, (x4_1 : Int).toNat * 6 + 2, none⟩ (.bool t194)).setCell ⟨go10, (x4_1 : Int).toNat * 6 + 3, none⟩ (v196)).setCell ⟨go10, (x4_1 : Int).toNat * 6 + 4, none⟩ (.bool t198)).setCell ⟨go10, (x4_1 : Int).toNat * 6 + 5, none⟩ (v200))) ?hg ?ho ?hn ?hr ?_; (case ho => rfl); (case hg => rfl); (case hn => rfl); (case hr => first | (go_simp; done) | (go_simp; rfl)); intro w13 hw; have hg : w11.grownBy w13 (some go10) := (by rw [hw]; exact HP12.2); have hp_ : Kd.S k62 62 w13 w.heap.size (fun _ => True) (.slice (some ⟨go10, 0, none⟩) x3_1.length co10) y202 := (by rw [hw, Ny202.out]; exact HP12.1); clear HP12; replace HO_3 := Aside0.mk (hp_); replace HB := Aside0.mk ((by rw [hw]; exact below_set (below_set (below_set (below_set (below_set (below_set (HB.out) GB10.out) GB10.out) GB10.out) GB10.out) GB10.out) GB10.out : Below w.heap.size w w13)); clear HO197 HO201; clear hg hw hp_))
        go_roundg k1
        case measure => have := HK1.out; omega
        case rel => exact ⟨(y202), (wrap64 (x4_1 + 1)), tr, H', ⟨by have := HK1.out; omega⟩, ⟨tS HO_3.out⟩, ⟨zb⟩⟩
       ·rw [if_neg c9] at H
        exact absurd H (by simp)
      ·rw [if_neg c7] at H
       exact absurd H (by simp)
     ·rw [if_neg c6] at H
      have c6b0 : decide (x4_1 < (l0.length : Int)) = false := decide_eq_false c6
      clear c6
      obtain rfl := Option.some.inj H
      go_wp2
      go_ret
      exact ⟨_, by first | rfl | (simp [errW_none, errW_some] <;> rfl) | (simp [*, errW_none, errW_some] <;> rfl), tS HO_3.out, zb⟩
  ·rw [if_neg c3] at H
   exact absurd H (by simp)
 ·rw [if_neg c2] at H
  exact absurd H (by simp)

def laws_toBatch.f (k : Nat) (a0_0 : Bool) (a0_1 : Bool) (a0_2 : Int) (a0_3 : Int) (a0_4 : Int) (l0_5 : List (S71)) : Option (Bool × Bool × Int × Int × Int × (List (S62))) := (laws_toRecordS.f k l0_5).bind fun t206 => (some (a0_0, a0_1, a0_2, a0_3, a0_4, t206))
set_option maxHeartbeats 8000000 in
set_option maxRecDepth 100000 in
theorem laws_toBatch.calls (k : Nat) (a0_0 : Bool) (a0_1 : Bool) (a0_2 : Int) (a0_3 : Int) (a0_4 : Int) (A0_5 : Option Addr) (c0_5 : Nat) (l0_5 : List (S71)) (r1 : Bool) (r2 : Bool) (r3 : Int) (r4 : Int) (r5 : Int) (r6 : List (S62)) (w : World) (hr0_5 : Kd.C k71 w A0_5 l0_5.length l0_5) (hc0_5 : l0_5.length ≤ c0_5) (h : laws_toBatch.f k a0_0 a0_1 a0_2 a0_3 a0_4 l0_5 = some (r1, r2, r3, r4, r5, r6)) :
  Calls Tryd.prog 9 #[.agg #[.bool a0_0, .bool a0_1, .int .i64 a0_2, .int .i64 a0_3, .int .i64 a0_4, .slice A0_5 l0_5.length c0_5]] w fun e w' => ∃ v5_ : Value, e = .returned (.agg #[.bool r1, .bool r2, .int .i64 r3, .int .i64 r4, .int .i64 r5, v5_]) ∧ Kd.S k62 62 w' w.heap.size (fun _ => True) v5_ r6 ∧ Below w.heap.size w w' := by
 have hu24 := Tryd.underlying24
 have hu28 := Tryd.underlying28
 have HR0_5 := Aside0.mk hr0_5
 have HC0_5 := Aside0.mk hc0_5
 clear hr0_5 hc0_5
 have HB := Aside0.mk (Below.refl w.heap.size w)
 have H : ((laws_toRecordS.f k l0_5).bind fun t206 => (some (a0_0, a0_1, a0_2, a0_3, a0_4, t206))) = some (r1, r2, r3, r4, r5, r6) := h
 clear h
 replace H := tbe H
 obtain ⟨t206, A2, H⟩ := H
 simp only [Option.some.injEq, Prod.mk.injEq] at H
 obtain ⟨rfl, rfl, rfl, rfl, rfl, rfl⟩ := H
 go_enter Tryd.func9, Tryd.ntmps9
 go_wp2_with (first | ((with_reducible refine gate_dst (N := 1) rfl ?_); refine box_event ?hg (N := 1) ?hd (cs := #[.bool a0_0, .bool a0_1, .int .i64 a0_2, .int .i64 a0_3, .int .i64 a0_4, .slice A0_5 l0_5.length c0_5]) (t := 24) ?hr ?_; (case hd => rfl); (case hg => rfl); (case hr => first | (go_simp; done) | (go_simp; rfl)); intro gb203 hg w3 hbox hb; have BK203 := Aside0.mk (hbox); have GW203 := tge HB hg; have GE203 := tge HB hg; replace HB := tBs HB hb; clear hb hbox hg) | ((with_reducible refine gate_dst (N := 2) rfl ?_); refine box_event ?hg (N := 2) ?hd (cs := #[.bool false, .bool false, .int .i64 0, .int .i64 0, .int .i64 0, .slice none 0 0]) (t := 28) ?hr ?_; (case hd => rfl); (case hg => rfl); (case hr => first | (go_simp; done) | (go_simp; rfl)); intro gb204 hg w4 hbox hb; have BK204 := Aside0.mk (hbox); have GW204 := tge HB hg; have GE204 := tge HB hg; replace HB := tBs HB hb; have NB203_204 := tlt BK203 hg; have NB204_203 := tgt BK203 hg; replace BK203 := tBb BK203 hb; clear hb hbox hg) | ((with_reducible refine gate_dst (N := 3) rfl ?_); refine box_event ?hg (N := 3) ?hd (cs := #[.bool false, .bool false, .int .i64 0, .int .i64 0, .int .i64 0, .slice none 0 0]) (t := 28) ?hr ?_; (case hd => rfl); (case hg => rfl); (case hr => first | (go_simp; done) | (go_simp; rfl)); intro gb205 hg w5 hbox hb; have BK205 := Aside0.mk (hbox); have GW205 := tge HB hg; have GE205 := tge HB hg; replace HB := tBs HB hb; have NB203_205 := tlt BK203 hg; have NB205_203 := tgt BK203 hg; replace BK203 := tBb BK203 hb; have NB204_205 := tlt BK204 hg; have NB205_204 := tgt BK204 hg; replace BK204 := tBb BK204 hb; clear hb hbox hg; have hnb6 := NB203_204.out; have hnc6 := NB204_203.out; have hnb7 := NB203_205.out; have hnc7 := NB205_203.out; obtain ⟨hcz8_0, hcz8_1, hcz8_2, hcz8_3, hcz8_4, hcz8_5, hfz8_0, hfz8_1, hfz8_2, hfz8_3, hfz8_4, hfz8_5⟩ := cells6 BK203.out; have hnb9 := NB205_204.out; have hnc9 := NB204_205.out; obtain ⟨hcz10_0, hcz10_1, hcz10_2, hcz10_3, hcz10_4, hcz10_5, hfz10_0, hfz10_1, hfz10_2, hfz10_3, hfz10_4, hfz10_5⟩ := cells6 BK205.out) | ((with_reducible refine gate_callee (f := 28) rfl ?_); refine goesL_ (some 21) rfl rfl Tryd.func28 (by kernel_rfl) rfl #[.slice A0_5 l0_5.length c0_5] rfl tq ?_; (with_reducible refine (laws_toRecordS.calls k _ _ l0_5 t206 _ ?side1 ?side2 A2.out).mono ?_); (case side1 => exact Kd.C_below HR0_5.out zb); (case side2 => exact HC0_5.out); rintro e w11 ⟨v207, rfl, ho0, hb⟩; have u_v207 := tsv Tryd.prog v207 ho0; refine ⟨_, rfl, ?_⟩; have HO208 := tSl ho0 HB; replace BK203 := tBb BK203 hb; replace BK204 := tBb BK204 hb; replace BK205 := tBp (o' := .cells #[.bool a0_0, .bool a0_1, .int .i64 a0_2, .int .i64 a0_3, .int .i64 a0_4, .slice none 0 0] 28 (0, 0)) BK205 hb; replace HB := tBs HB hb; (try clear hb); (try clear hb2); (try clear hk); (try clear hi); (try clear ho0); obtain ⟨Ao12, co12, eo12⟩ := Kd.S_slice HO208.out; subst eo12; obtain ⟨hcz13_0, hcz13_1, hcz13_2, hcz13_3, hcz13_4, hcz13_5, hfz13_0, hfz13_1, hfz13_2, hfz13_3, hfz13_4, hfz13_5⟩ := cells6 BK205.out; obtain ⟨hcz14_0, hcz14_1, hcz14_2, hcz14_3, hcz14_4, hcz14_5, hfz14_0, hfz14_1, hfz14_2, hfz14_3, hfz14_4, hfz14_5⟩ := cells6 BK204.out))
 refine bodyPost_ret (results_cell_row rfl _ _ gb204 28 #[.bool a0_0, .bool a0_1, .int .i64 a0_2, .int .i64 a0_3, .int .i64 a0_4, .slice Ao12 t206.length co12] (0, 0) _ rfl (tP BK204.out) Tryd.underlying28 rfl (by kernel_rfl)) rfl ?_
 exact ⟨_, by first | rfl | (simp [errW_none, errW_some] <;> rfl) | (simp [*, errW_none, errW_some] <;> rfl), tSm (Kd.S_types (Kd.S_types HO208.out BK205.out (by decide)) BK204.out (by decide)), zb⟩

end Go.Proofs.YtfjkpdhldeopaaaDoor.G

namespace Go.Proofs.YtfjkpdhldeopaaaDoor.G
open Go.RowKit Go.Proofs.YtfjkpdhldeopaaaDoorW.PrintWords Go.Proofs.YtfjkpdhldeopaaaDoorW.PrintLast Go.Proofs.YtfjkpdhldeopaaaDoorW.PrintMore
set_option linter.unusedVariables false
set_option linter.unusedSimpArgs false
theorem laws_markBatch.callsA (P0 : Nat → Prop) (p m : Bool) (i j s : Int) (u : Value) (l : List S62) (a : Int) (w0 w : World) (hB : Below w0.heap.size w0 w) (ho : Kd.S k62 62 w w0.heap.size P0 u l) (h0 : 0 ≤ a) (h1 : a + (totR l : Int) ≤ 4000000000000000000) :
    Calls Tryd.prog 12 #[BatV p m i j s u, .int .i64 a] w fun e w' => e = .returned (.int .i64 (a + (totR l : Int))) ∧ Kd.S k62 62 w' w0.heap.size P0 u (mkRow a l) ∧ Below w0.heap.size w0 w' ∧ Kept w w' P0 := by
  obtain ⟨U, q, rfl⟩ := Kd.S_slice ho
  have HO := Aside0.mk ho
  have HB := Aside0.mk hB
  have HS := Aside0.mk (St.nil w)
  clear ho hB
  go_enter Tryd.func12, Tryd.ntmps12
  go_wp2_with (first
    | ((with_reducible refine gate_dst (N := 2) rfl ?_); refine w_box HS rfl rfl (by go_simp; try rfl) ?_; intro g W h_; clear HS; have HS := h_; clear h_; obtain ⟨f0, f1⟩ := HS.out.cells 0 rfl)
    | (go_at_call 32; with_reducible refine (laws_markRecordS.callsA P0 _ l a w0 _ (below_step HB.out HS.out.below) (Kd.S_below HO.out HS.out.below) h0 h1).mono ?_; rintro e W ⟨rfl, hs, hb, hk⟩; have HX := Aside0.mk (And.intro hs (And.intro hb hk)); clear hs hb hk))
  go_ret
  exact ⟨rfl, HX.out.1, HX.out.2.1, (Kept.of_below HS.out.below P0).then_ HX.out.2.2 (fun _ h => .inl h)⟩
theorem laws_heldBatch.callsA (k : Nat) (p m : Bool) (i j s : Int) (u : Value) (l : List S62) (a : Int) (b : Nat) (P : Nat → Prop) (W : World) (hs : Kd.S k62 62 W b P u (mkRow a l)) (h : laws_heldBatch.f k p m i j s (mkRow a l) a = some (a + (totR l : Int))) :
    Calls Tryd.prog 13 #[BatV p m i j s u, .int .i64 a] W fun e w' => e = .returned (.int .i64 (a + (totR l : Int))) ∧ Below W.heap.size W w' := by
  obtain ⟨A, c, rfl⟩ := Kd.S_slice hs
  have h2 := Kd.S_reads' hs
  exact laws_heldBatch.calls k p m i j s A c (mkRow a l) a _ W h2.2.2 h2.2.1 h
end Go.Proofs.YtfjkpdhldeopaaaDoor.G

