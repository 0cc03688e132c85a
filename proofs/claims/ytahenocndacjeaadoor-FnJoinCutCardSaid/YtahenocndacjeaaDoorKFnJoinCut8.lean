/- A text of seat YtahenocndacjeaaDoor: what the law FnJoinCut needs of this repo's texts (by pack.py). Not trusted: Lean checks it. -/
import Derived.Test.YtahenocndacjeaaDoorKFnJoinCut7
namespace Go.Proofs.YtahenocndacjeaaDoor.G
open Go.RowKit Go.Proofs.YtahenocndacjeaaDoorW.PrintWords Go.Proofs.YtahenocndacjeaaDoorW.PrintLast Go.Proofs.YtahenocndacjeaaDoorW.PrintMore
attribute [local go_sem] max2_int min2_int max_two min_two max_three min_three max_four min_four   -- for this text's walks alone
set_option linter.unusedVariables false
set_option linter.unusedSimpArgs false

def laws_sameInts.l0 : Nat → List Int → List Int → Int → Option (Bool)
 | 0, _, _, _ => none
 | k + 1, x0, x1, x5 => if x5 < (x0.length : Int) then (if 0 ≤ x5 then (if x5 < (x1.length : Int) then (if (rd x0 x5) = (rd x1 x5) then (laws_sameInts.l0 k x0 x1 (wrap64 (x5 + 1))) else (some false)) else (none)) else (none)) else (some true)
def laws_sameInts.f (k : Nat) (l0 : List Int) (l1 : List Int) : Option (Bool) := if (l0.length : Int) = (l1.length : Int) then (laws_sameInts.l0 k l0 l1 0) else (some false)
set_option maxHeartbeats 8000000 in
set_option maxRecDepth 100000 in
theorem laws_sameInts.calls (k : Nat) (A0 : Option Addr) (c0 : Nat) (l0 : List Int) (A1 : Option Addr) (c1 : Nat) (l1 : List Int) (r : Bool) (w : World) (hr0 : Kd.C (Kd.int .i64) w A0 l0.length l0) (hc0 : l0.length ≤ c0) (hr1 : Kd.C (Kd.int .i64) w A1 l1.length l1) (hc1 : l1.length ≤ c1) (h : laws_sameInts.f k l0 l1 = some r) :
  Calls Tryd.prog 61 #[.slice A0 l0.length c0, .slice A1 l1.length c1] w fun e w' => e = .returned (.bool r) ∧ Drawn0 w w' := by
 have HR0 := Aside0.mk hr0
 have HC0 := Aside0.mk hc0
 clear hr0 hc0
 have HR1 := Aside0.mk hr1
 have HC1 := Aside0.mk hc1
 clear hr1 hc1
 have H : (if (l0.length : Int) = (l1.length : Int) then (laws_sameInts.l0 k l0 l1 0) else (some false)) = some r := h
 clear h
 by_cases c3 : (l0.length : Int) = (l1.length : Int)
 ·rw [if_pos c3] at H
  have c3b0 : ((l0.length : Int) == (l1.length : Int)) = true := beq_iff_eq.mpr c3
  have c3b1 : ((l0.length : Int) != (l1.length : Int)) = false := bne_eq_false_iff_eq.mpr c3
  have c3b2 : (l0.length == l1.length) = true := by first | simpa using c3 | (simp at c3 ⊢; omega)
  clear c3
  have H' := Aside0.mk H
  clear H
  go_enter Tryd.func61, Tryd.ntmps61
  go_wp2
  repeat (go_quiet (fail); try go_wp2)
  go_loopg [5] k (fun kq v5 w' => ∃ (x5_1 : Int), v5 = .int .i64 x5_1 ∧ Aside0 (laws_sameInts.l0 kq l0 l1 x5_1 = some r) ∧ Aside0 (kq ≤ k) ∧ Drawn0 w w')
  case atStart => exact ⟨(0), tr, H', ⟨Nat.le_refl _⟩, by repeat (first | exact Drawn0.refl _ | apply Drawn0.step)⟩
  case round =>
   clear H'
   try clear c1; try clear c3; try clear c3b0; try clear c3b1; try clear c3b2
   obtain ⟨x5_1, rfl, HA, HK1, ⟨m1, rfl⟩⟩ := hrel
   cases gk with
   | zero => exact absurd HA.out (by simp [laws_sameInts.l0])
   | succ k1 =>
    have H := HA.out
    clear HA
    simp only [laws_sameInts.l0] at H
    by_cases c4 : x5_1 < (l0.length : Int)
    ·rw [if_pos c4] at H
     have c4b0 : decide (x5_1 < (l0.length : Int)) = true := decide_eq_true c4
     clear c4
     by_cases c5 : 0 ≤ x5_1
     ·rw [if_pos c5] at H
      have c5b0 : decide (0 ≤ x5_1) = true := decide_eq_true c5
      clear c5
      by_cases c6 : x5_1 < (l1.length : Int)
      ·rw [if_pos c6] at H
       have c6b0 : decide (x5_1 < (l1.length : Int)) = true := decide_eq_true c6
       clear c6
       by_cases c7 : (rd l0 x5_1) = (rd l1 x5_1)
       ·rw [if_pos c7] at H
        have c7b0 : ((rd l0 x5_1) == (rd l1 x5_1)) = true := beq_iff_eq.mpr c7
        have c7b1 : ((rd l0 x5_1) != (rd l1 x5_1)) = false := bne_eq_false_iff_eq.mpr c7
        clear c7
        have H' := Aside0.mk H
        clear H
        have p388 : 0 ≤ (x5_1 : Int) := td
        have q388 : x5_1 < (l0.length : Int) := td
        obtain ⟨ad388, e388, hx388_0⟩ := Kd.at_int HR0.out x5_1 p388 q388
        cases e388
        replace p388 := eq_true p388
        replace q388 := eq_true q388
        have p389 : 0 ≤ (x5_1 : Int) := td
        have q389 : x5_1 < (l1.length : Int) := td
        obtain ⟨ad389, e389, hx389_0⟩ := Kd.at_int HR1.out x5_1 p389 q389
        cases e389
        replace p389 := eq_true p389
        replace q389 := eq_true q389
        go_wp2
        repeat (go_quiet (fail); try go_wp2)
        go_roundg k1
        case measure => have := HK1.out; omega
        case rel => exact ⟨(wrap64 (x5_1 + 1)), tr, H', ⟨by have := HK1.out; omega⟩, by repeat (first | exact Drawn0.refl _ | apply Drawn0.step)⟩
       ·rw [if_neg c7] at H
        have c7b0 : ((rd l0 x5_1) == (rd l1 x5_1)) = false := beq_eq_false_iff_ne.mpr c7
        have c7b1 : ((rd l0 x5_1) != (rd l1 x5_1)) = true := bne_iff_ne.mpr c7
        obtain rfl := Option.some.inj H
        have p388 : 0 ≤ (x5_1 : Int) := td
        have q388 : x5_1 < (l0.length : Int) := td
        obtain ⟨ad388, e388, hx388_0⟩ := Kd.at_int HR0.out x5_1 p388 q388
        cases e388
        replace p388 := eq_true p388
        replace q388 := eq_true q388
        have p389 : 0 ≤ (x5_1 : Int) := td
        have q389 : x5_1 < (l1.length : Int) := td
        obtain ⟨ad389, e389, hx389_0⟩ := Kd.at_int HR1.out x5_1 p389 q389
        cases e389
        replace p389 := eq_true p389
        replace q389 := eq_true q389
        go_wp2
        repeat (go_quiet (fail); try go_wp2)
        go_ret
        exact ⟨by first | rfl | (simp; done) | (simp [*]; done), by repeat (first | exact Drawn0.refl _ | apply Drawn0.step)⟩
      ·rw [if_neg c6] at H
       exact absurd H (by simp)
     ·rw [if_neg c5] at H
      exact absurd H (by simp)
    ·rw [if_neg c4] at H
     have c4b0 : decide (x5_1 < (l0.length : Int)) = false := decide_eq_false c4
     clear c4
     obtain rfl := Option.some.inj H
     go_wp2
     repeat (go_quiet (fail); try go_wp2)
     go_ret
     exact ⟨by first | rfl | (simp; done) | (simp [*]; done), by repeat (first | exact Drawn0.refl _ | apply Drawn0.step)⟩
 ·rw [if_neg c3] at H
  have c3b0 : ((l0.length : Int) == (l1.length : Int)) = false := beq_eq_false_iff_ne.mpr c3
  have c3b1 : ((l0.length : Int) != (l1.length : Int)) = true := bne_iff_ne.mpr c3
  have c3b2 : (l0.length == l1.length) = false := by first | simpa using c3 | (simp at c3 ⊢; omega)
  obtain rfl := Option.some.inj H
  go_enter Tryd.func61, Tryd.ntmps61
  go_wp2
  repeat (go_quiet (fail); try go_wp2)
  go_ret
  exact ⟨by first | rfl | (simp; done) | (simp [*]; done), by repeat (first | exact Drawn0.refl _ | apply Drawn0.step)⟩

def laws_sameRecord.f (k : Nat) (a0_0 : Int) (a0_1 : Int) (a0_2 : Bool) (l0_3 : List Int) (a0_4 : Bool) (l0_5 : List Int) (a1_0 : Int) (a1_1 : Int) (a1_2 : Bool) (l1_3 : List Int) (a1_4 : Bool) (l1_5 : List Int) : Option (Bool) := if a0_0 = a1_0 then (if a0_1 = a1_1 then (if (a0_2 == a1_2) = true then (if (a0_4 == a1_4) = true then ((laws_sameInts.f k l0_3 l1_3).bind fun t392 => (if t392 = true then ((laws_sameInts.f k l0_5 l1_5).bind fun t393 => (some t393)) else (some false))) else (some false)) else (some false)) else (some false)) else (some false)
set_option maxHeartbeats 8000000 in
set_option maxRecDepth 100000 in
theorem laws_sameRecord.calls (k : Nat) (a0_0 : Int) (a0_1 : Int) (a0_2 : Bool) (A0_3 : Option Addr) (c0_3 : Nat) (l0_3 : List Int) (a0_4 : Bool) (A0_5 : Option Addr) (c0_5 : Nat) (l0_5 : List Int) (a1_0 : Int) (a1_1 : Int) (a1_2 : Bool) (A1_3 : Option Addr) (c1_3 : Nat) (l1_3 : List Int) (a1_4 : Bool) (A1_5 : Option Addr) (c1_5 : Nat) (l1_5 : List Int) (r : Bool) (w : World) (hr0_3 : Kd.C (Kd.int .i64) w A0_3 l0_3.length l0_3) (hc0_3 : l0_3.length ≤ c0_3) (hr0_5 : Kd.C (Kd.int .i64) w A0_5 l0_5.length l0_5) (hc0_5 : l0_5.length ≤ c0_5) (hr1_3 : Kd.C (Kd.int .i64) w A1_3 l1_3.length l1_3) (hc1_3 : l1_3.length ≤ c1_3) (hr1_5 : Kd.C (Kd.int .i64) w A1_5 l1_5.length l1_5) (hc1_5 : l1_5.length ≤ c1_5) (h : laws_sameRecord.f k a0_0 a0_1 a0_2 l0_3 a0_4 l0_5 a1_0 a1_1 a1_2 l1_3 a1_4 l1_5 = some r) :
  Calls Tryd.prog 49 #[.agg #[.int .i64 a0_0, .int .i64 a0_1, .bool a0_2, .slice A0_3 l0_3.length c0_3, .bool a0_4, .slice A0_5 l0_5.length c0_5], .agg #[.int .i64 a1_0, .int .i64 a1_1, .bool a1_2, .slice A1_3 l1_3.length c1_3, .bool a1_4, .slice A1_5 l1_5.length c1_5]] w fun e w' => e = .returned (.bool r) ∧ Below w.heap.size w w' := by
 have hu41 := Tryd.underlying41
 have HR0_3 := Aside0.mk hr0_3
 have HC0_3 := Aside0.mk hc0_3
 clear hr0_3 hc0_3
 have HR0_5 := Aside0.mk hr0_5
 have HC0_5 := Aside0.mk hc0_5
 clear hr0_5 hc0_5
 have HR1_3 := Aside0.mk hr1_3
 have HC1_3 := Aside0.mk hc1_3
 clear hr1_3 hc1_3
 have HR1_5 := Aside0.mk hr1_5
 have HC1_5 := Aside0.mk hc1_5
 clear hr1_5 hc1_5
 have HB := Aside0.mk (Below.refl w.heap.size w)
 have H : (if a0_0 = a1_0 then (if a0_1 = a1_1 then (if (a0_2 == a1_2) = true then (if (a0_4 == a1_4) = true then ((laws_sameInts.f k l0_3 l1_3).bind fun t392 => (if t392 = true then ((laws_sameInts.f k l0_5 l1_5).bind fun t393 => (some t393)) else (some false))) else (some false)) else (some false)) else (some false)) else (some false)) = some r := h
 clear h
 by_cases c3 : a0_0 = a1_0
 ·rw [if_pos c3] at H
  have c3b0 : (a0_0 == a1_0) = true := beq_iff_eq.mpr c3
  have c3b1 : (a0_0 != a1_0) = false := bne_eq_false_iff_eq.mpr c3
  clear c3
  by_cases c4 : a0_1 = a1_1
  ·rw [if_pos c4] at H
   have c4b0 : (a0_1 == a1_1) = true := beq_iff_eq.mpr c4
   have c4b1 : (a0_1 != a1_1) = false := bne_eq_false_iff_eq.mpr c4
   clear c4
   by_cases c5 : (a0_2 == a1_2) = true
   ·rw [if_pos c5] at H
    have c5b0 : (a0_2 == a1_2) = true := c5
    (try (have c5b1 : decide (a0_2 = a1_2) = true := by simpa using c5))
    (try (have c5b2 : (a0_2 == a1_2) = true := by simpa using c5))
    clear c5
    by_cases c6 : (a0_4 == a1_4) = true
    ·rw [if_pos c6] at H
     have c6b0 : (a0_4 == a1_4) = true := c6
     (try (have c6b1 : decide (a0_4 = a1_4) = true := by simpa using c6))
     (try (have c6b2 : (a0_4 == a1_4) = true := by simpa using c6))
     clear c6
     replace H := tbe H
     obtain ⟨t392, A7, H⟩ := H
     by_cases c8 : t392 = true
     ·subst c8
      rw [if_pos rfl] at H
      replace H := tbe H
      obtain ⟨t393, A9, H⟩ := H
      obtain rfl := Option.some.inj H
      go_enter Tryd.func49, Tryd.ntmps49
      go_wp2_with (first | ((with_reducible refine gate_dst (N := 2) rfl ?_); refine box_event ?hg (N := 2) ?hd (cs := #[.int .i64 a0_0, .int .i64 a0_1, .bool a0_2, .slice A0_3 l0_3.length c0_3, .bool a0_4, .slice A0_5 l0_5.length c0_5]) (t := 41) ?hr ?_; (case hd => rfl); (case hg => rfl); (case hr => first | (go_simp; done) | (go_simp; rfl)); intro gb390 hg w10 hbox hb; have BK390 := Aside0.mk (hbox); have GW390 := tge HB hg; have GE390 := tge HB hg; replace HB := tBs HB hb; clear hb hbox hg) | ((with_reducible refine gate_dst (N := 3) rfl ?_); refine box_event ?hg (N := 3) ?hd (cs := #[.int .i64 a1_0, .int .i64 a1_1, .bool a1_2, .slice A1_3 l1_3.length c1_3, .bool a1_4, .slice A1_5 l1_5.length c1_5]) (t := 41) ?hr ?_; (case hd => rfl); (case hg => rfl); (case hr => first | (go_simp; done) | (go_simp; rfl)); intro gb391 hg w11 hbox hb; have BK391 := Aside0.mk (hbox); have GW391 := tge HB hg; have GE391 := tge HB hg; replace HB := tBs HB hb; have NB390_391 := tlt BK390 hg; have NB391_390 := tgt BK390 hg; replace BK390 := tBb BK390 hb; clear hb hbox hg; have hnb12 := NB390_391.out; have hnc12 := NB391_390.out; obtain ⟨hcz13_0, hcz13_1, hcz13_2, hcz13_3, hcz13_4, hcz13_5, hfz13_0, hfz13_1, hfz13_2, hfz13_3, hfz13_4, hfz13_5⟩ := cells6 BK390.out; obtain ⟨hcz14_0, hcz14_1, hcz14_2, hcz14_3, hcz14_4, hcz14_5, hfz14_0, hfz14_1, hfz14_2, hfz14_3, hfz14_4, hfz14_5⟩ := cells6 BK391.out) | (go_at_call 61; (with_reducible refine (laws_sameInts.calls k _ _ l0_3 _ _ l1_3 true _ ?side1 ?side2 ?side3 ?side4 A7.out).mono ?_); (case side1 => exact tC (Kd.C_below HR0_3.out HB.out)); (case side2 => exact HC0_3.out); (case side3 => exact tC (Kd.C_below HR1_3.out HB.out)); (case side4 => exact HC1_3.out); rintro e w' ⟨rfl, ⟨nd, rfl⟩⟩) | (go_at_call 61; (with_reducible refine (laws_sameInts.calls k _ _ l0_5 _ _ l1_5 t393 _ ?side1 ?side2 ?side3 ?side4 A9.out).mono ?_); (case side1 => exact tC (Kd.C_below HR0_5.out zb)); (case side2 => exact HC0_5.out); (case side3 => exact tC (Kd.C_below HR1_5.out zb)); (case side4 => exact HC1_5.out); rintro e w' ⟨rfl, ⟨nd, rfl⟩⟩))
      go_ret
      exact ⟨by first | rfl | (simp [errW_none, errW_some] <;> rfl) | (simp [*, errW_none, errW_some] <;> rfl), zb⟩
     ·replace c8 := Bool.eq_false_iff.mpr c8
      subst c8
      rw [if_neg (show ¬ (false = true) by decide)] at H
      obtain rfl := Option.some.inj H
      go_enter Tryd.func49, Tryd.ntmps49
      go_wp2_with (first | ((with_reducible refine gate_dst (N := 2) rfl ?_); refine box_event ?hg (N := 2) ?hd (cs := #[.int .i64 a0_0, .int .i64 a0_1, .bool a0_2, .slice A0_3 l0_3.length c0_3, .bool a0_4, .slice A0_5 l0_5.length c0_5]) (t := 41) ?hr ?_; (case hd => rfl); (case hg => rfl); (case hr => first | (go_simp; done) | (go_simp; rfl)); intro gb390 hg w15 hbox hb; have BK390 := Aside0.mk (hbox); have GW390 := tge HB hg; have GE390 := tge HB hg; replace HB := tBs HB hb; clear hb hbox hg) | ((with_reducible refine gate_dst (N := 3) rfl ?_); refine box_event ?hg (N := 3) ?hd (cs := #[.int .i64 a1_0, .int .i64 a1_1, .bool a1_2, .slice A1_3 l1_3.length c1_3, .bool a1_4, .slice A1_5 l1_5.length c1_5]) (t := 41) ?hr ?_; (case hd => rfl); (case hg => rfl); (case hr => first | (go_simp; done) | (go_simp; rfl)); intro gb391 hg w16 hbox hb; have BK391 := Aside0.mk (hbox); have GW391 := tge HB hg; have GE391 := tge HB hg; replace HB := tBs HB hb; have NB390_391 := tlt BK390 hg; have NB391_390 := tgt BK390 hg; replace BK390 := tBb BK390 hb; clear hb hbox hg; have hnb17 := NB390_391.out; have hnc17 := NB391_390.out; obtain ⟨hcz18_0, hcz18_1, hcz18_2, hcz18_3, hcz18_4, hcz18_5, hfz18_0, hfz18_1, hfz18_2, hfz18_3, hfz18_4, hfz18_5⟩ := cells6 BK390.out; obtain ⟨hcz19_0, hcz19_1, hcz19_2, hcz19_3, hcz19_4, hcz19_5, hfz19_0, hfz19_1, hfz19_2, hfz19_3, hfz19_4, hfz19_5⟩ := cells6 BK391.out) | (go_at_call 61; (with_reducible refine (laws_sameInts.calls k _ _ l0_3 _ _ l1_3 false _ ?side1 ?side2 ?side3 ?side4 A7.out).mono ?_); (case side1 => exact tC (Kd.C_below HR0_3.out HB.out)); (case side2 => exact HC0_3.out); (case side3 => exact tC (Kd.C_below HR1_3.out HB.out)); (case side4 => exact HC1_3.out); rintro e w' ⟨rfl, ⟨nd, rfl⟩⟩))
      go_ret
      exact ⟨by first | rfl | (simp [errW_none, errW_some] <;> rfl) | (simp [*, errW_none, errW_some] <;> rfl), zb⟩
    ·rw [if_neg c6] at H
     have c6b0 : (a0_4 == a1_4) = false := by simpa using c6
     (try (have c6b1 : decide (a0_4 = a1_4) = false := by simpa using c6))
     (try (have c6b2 : (a0_4 == a1_4) = false := by simpa using c6))
     (try (have c6b3 : ¬ (a0_4 = a1_4) := by simpa using c6))
     clear c6
     obtain rfl := Option.some.inj H
     go_enter Tryd.func49, Tryd.ntmps49
     go_wp2_with (first | ((with_reducible refine gate_dst (N := 2) rfl ?_); refine box_event ?hg (N := 2) ?hd (cs := #[.int .i64 a0_0, .int .i64 a0_1, .bool a0_2, .slice A0_3 l0_3.length c0_3, .bool a0_4, .slice A0_5 l0_5.length c0_5]) (t := 41) ?hr ?_; (case hd => rfl); (case hg => rfl); (case hr => first | (go_simp; done) | (go_simp; rfl)); intro gb390 hg w20 hbox hb; have BK390 := Aside0.mk (hbox); have GW390 := tge HB hg; have GE390 := tge HB hg; replace HB := tBs HB hb; clear hb hbox hg) | ((with_reducible refine gate_dst (N := 3) rfl ?_); refine box_event ?hg (N := 3) ?hd (cs := #[.int .i64 a1_0, .int .i64 a1_1, .bool a1_2, .slice A1_3 l1_3.length c1_3, .bool a1_4, .slice A1_5 l1_5.length c1_5]) (t := 41) ?hr ?_; (case hd => rfl); (case hg => rfl); (case hr => first | (go_simp; done) | (go_simp; rfl)); intro gb391 hg w21 hbox hb; have BK391 := Aside0.mk (hbox); have GW391 := tge HB hg; have GE391 := tge HB hg; replace HB := tBs HB hb; have NB390_391 := tlt BK390 hg; have NB391_390 := tgt BK390 hg; replace BK390 := tBb BK390 hb; clear hb hbox hg; have hnb22 := NB390_391.out; have hnc22 := NB391_390.out; obtain ⟨hcz23_0, hcz23_1, hcz23_2, hcz23_3, hcz23_4, hcz23_5, hfz23_0, hfz23_1, hfz23_2, hfz23_3, hfz23_4, hfz23_5⟩ := cells6 BK390.out; obtain ⟨hcz24_0, hcz24_1, hcz24_2, hcz24_3, hcz24_4, hcz24_5, hfz24_0, hfz24_1, hfz24_2, hfz24_3, hfz24_4, hfz24_5⟩ := cells6 BK391.out))
     go_ret
     exact ⟨by first | rfl | (simp [errW_none, errW_some] <;> rfl) | (simp [*, errW_none, errW_some] <;> rfl), zb⟩
   ·rw [if_neg c5] at H
    have c5b0 : (a0_2 == a1_2) = false := by simpa using c5
    (try (have c5b1 : decide (a0_2 = a1_2) = false := by simpa using c5))
    (try (have c5b2 : (a0_2 == a1_2) = false := by simpa using c5))
    (try (have c5b3 : ¬ (a0_2 = a1_2) := by simpa using c5))
    clear c5
    obtain rfl := Option.some.inj H
    go_enter Tryd.func49, Tryd.ntmps49
    go_wp2_with (first | ((with_reducible refine gate_dst (N := 2) rfl ?_); refine box_event ?hg (N := 2) ?hd (cs := #[.int .i64 a0_0, .int .i64 a0_1, .bool a0_2, .slice A0_3 l0_3.length c0_3, .bool a0_4, .slice A0_5 l0_5.length c0_5]) (t := 41) ?hr ?_; (case hd => rfl); (case hg => rfl); (case hr => first | (go_simp; done) | (go_simp; rfl)); intro gb390 hg w25 hbox hb; have BK390 := Aside0.mk (hbox); have GW390 := tge HB hg; have GE390 := tge HB hg; replace HB := tBs HB hb; clear hb hbox hg) | ((with_reducible refine gate_dst (N := 3) rfl ?_); refine box_event ?hg (N := 3) ?hd (cs := #[.int .i64 a1_0, .int .i64 a1_1, .bool a1_2, .slice A1_3 l1_3.length c1_3, .bool a1_4, .slice A1_5 l1_5.length c1_5]) (t := 41) ?hr ?_; (case hd => rfl); (case hg => rfl); (case hr => first | (go_simp; done) | (go_simp; rfl)); intro gb391 hg w26 hbox hb; have BK391 := Aside0.mk (hbox); have GW391 := tge HB hg; have GE391 := tge HB hg; replace HB := tBs HB hb; have NB390_391 := tlt BK390 hg; have NB391_390 := tgt BK390 hg; replace BK390 := tBb BK390 hb; clear hb hbox hg; have hnb27 := NB390_391.out; have hnc27 := NB391_390.out; obtain ⟨hcz28_0, hcz28_1, hcz28_2, hcz28_3, hcz28_4, hcz28_5, hfz28_0, hfz28_1, hfz28_2, hfz28_3, hfz28_4, hfz28_5⟩ := cells6 BK390.out; obtain ⟨hcz29_0, hcz29_1, hcz29_2, hcz29_3, hcz29_4, hcz29_5, hfz29_0, hfz29_1, hfz29_2, hfz29_3, hfz29_4, hfz29_5⟩ := cells6 BK391.out))
    go_ret
    exact ⟨by first | rfl | (simp [errW_none, errW_some] <;> rfl) | (simp [*, errW_none, errW_some] <;> rfl), zb⟩
  ·rw [if_neg c4] at H
   have c4b0 : (a0_1 == a1_1) = false := beq_eq_false_iff_ne.mpr c4
   have c4b1 : (a0_1 != a1_1) = true := bne_iff_ne.mpr c4
   obtain rfl := Option.some.inj H
   go_enter Tryd.func49, Tryd.ntmps49
   go_wp2_with (first | ((with_reducible refine gate_dst (N := 2) rfl ?_); refine box_event ?hg (N := 2) ?hd (cs := #[.int .i64 a0_0, .int .i64 a0_1, .bool a0_2, .slice A0_3 l0_3.length c0_3, .bool a0_4, .slice A0_5 l0_5.length c0_5]) (t := 41) ?hr ?_; (case hd => rfl); (case hg => rfl); (case hr => first | (go_simp; done) | (go_simp; rfl)); intro gb390 hg w30 hbox hb; have BK390 := Aside0.mk (hbox); have GW390 := tge HB hg; have GE390 := tge HB hg; replace HB := tBs HB hb; clear hb hbox hg) | ((with_reducible refine gate_dst (N := 3) rfl ?_); refine box_event ?hg (N := 3) ?hd (cs := #[.int .i64 a1_0, .int .i64 a1_1, .bool a1_2, .slice A1_3 l1_3.length c1_3, .bool a1_4, .slice A1_5 l1_5.length c1_5]) (t := 41) ?hr ?_; (case hd => rfl); (case hg => rfl); (case hr => first | (go_simp; done) | (go_simp; rfl)); intro gb391 hg w31 hbox hb; have BK391 := Aside0.mk (hbox); have GW391 := tge HB hg; have GE391 := tge HB hg; replace HB := tBs HB hb; have NB390_391 := tlt BK390 hg; have NB391_390 := tgt BK390 hg; replace BK390 := tBb BK390 hb; clear hb hbox hg; have hnb32 := NB390_391.out; have hnc32 := NB391_390.out; obtain ⟨hcz33_0, hcz33_1, hcz33_2, hcz33_3, hcz33_4, hcz33_5, hfz33_0, hfz33_1, hfz33_2, hfz33_3, hfz33_4, hfz33_5⟩ := cells6 BK390.out; obtain ⟨hcz34_0, hcz34_1, hcz34_2, hcz34_3, hcz34_4, hcz34_5, hfz34_0, hfz34_1, hfz34_2, hfz34_3, hfz34_4, hfz34_5⟩ := cells6 BK391.out))
   go_ret
   exact ⟨by first | rfl | (simp [errW_none, errW_some] <;> rfl) | (simp [*, errW_none, errW_some] <;> rfl), zb⟩
 ·rw [if_neg c3] at H
  have c3b0 : (a0_0 == a1_0) = false := beq_eq_false_iff_ne.mpr c3
  have c3b1 : (a0_0 != a1_0) = true := bne_iff_ne.mpr c3
  obtain rfl := Option.some.inj H
  go_enter Tryd.func49, Tryd.ntmps49
  go_wp2_with (first | ((with_reducible refine gate_dst (N := 2) rfl ?_); refine box_event ?hg (N := 2) ?hd (cs := #[.int .i64 a0_0, .int .i64 a0_1, .bool a0_2, .slice A0_3 l0_3.length c0_3, .bool a0_4, .slice A0_5 l0_5.length c0_5]) (t := 41) ?hr ?_; (case hd => rfl); (case hg => rfl); (case hr => first | (go_simp; done) | (go_simp; rfl)); intro gb390 hg w35 hbox hb; have BK390 := Aside0.mk (hbox); have GW390 := tge HB hg; have GE390 := tge HB hg; replace HB := tBs HB hb; clear hb hbox hg) | ((with_reducible refine gate_dst (N := 3) rfl ?_); refine box_event ?hg (N := 3) ?hd (cs := #[.int .i64 a1_0, .int .i64 a1_1, .bool a1_2, .slice A1_3 l1_3.length c1_3, .bool a1_4, .slice A1_5 l1_5.length c1_5]) (t := 41) ?hr ?_; (case hd => rfl); (case hg => rfl); (case hr => first | (go_simp; done) | (go_simp; rfl)); intro gb391 hg w36 hbox hb; have BK391 := Aside0.mk (hbox); have GW391 := tge HB hg; have GE391 := tge HB hg; replace HB := tBs HB hb; have NB390_391 := tlt BK390 hg; have NB391_390 := tgt BK390 hg; replace BK390 := tBb BK390 hb; clear hb hbox hg; have hnb37 := NB390_391.out; have hnc37 := NB391_390.out; obtain ⟨hcz38_0, hcz38_1, hcz38_2, hcz38_3, hcz38_4, hcz38_5, hfz38_0, hfz38_1, hfz38_2, hfz38_3, hfz38_4, hfz38_5⟩ := cells6 BK390.out; obtain ⟨hcz39_0, hcz39_1, hcz39_2, hcz39_3, hcz39_4, hcz39_5, hfz39_0, hfz39_1, hfz39_2, hfz39_3, hfz39_4, hfz39_5⟩ := cells6 BK391.out))
  go_ret
  exact ⟨by first | rfl | (simp [errW_none, errW_some] <;> rfl) | (simp [*, errW_none, errW_some] <;> rfl), zb⟩

def laws_sameRecords.l0 : Nat → List (S41) → List (S41) → Int → Option (Bool)
 | 0, _, _, _ => none
 | k + 1, x0, x1, x5 => if x5 < (x0.length : Int) then (if 0 ≤ x5 then (if x5 < (x1.length : Int) then ((laws_sameRecord.f k ((rd_T41 x0 x5).f0) ((rd_T41 x0 x5).f1) ((rd_T41 x0 x5).f2) ((rd_T41 x0 x5).f3) ((rd_T41 x0 x5).f4) ((rd_T41 x0 x5).f5) ((rd_T41 x1 x5).f0) ((rd_T41 x1 x5).f1) ((rd_T41 x1 x5).f2) ((rd_T41 x1 x5).f3) ((rd_T41 x1 x5).f4) ((rd_T41 x1 x5).f5)).bind fun t396 => (if t396 = true then (laws_sameRecords.l0 k x0 x1 (wrap64 (x5 + 1))) else (some false))) else (none)) else (none)) else (some true)
def laws_sameRecords.f (k : Nat) (l0 : List (S41)) (l1 : List (S41)) : Option (Bool) := if (l0.length : Int) = (l1.length : Int) then (laws_sameRecords.l0 k l0 l1 0) else (some false)
def laws_sameRecords.T6 : Bool × List (List Nat × List Nat) := (true, [([], []), ([], []), ([0, 1], [0, 1]), ([2], [2]), ([], []), ([], []), ([4, 5], [4, 5]), ([6], [6]), ([3, 7], [3, 7]), ([8], [8])])
def laws_sameRecords.B6 : List Nat := [0, 0, 3, 7, 0, 0, 48, 112, 255, 511]
theorem laws_sameRecords.tab6 : rtab .any (opsOf Tryd.f30 6) = laws_sameRecords.T6 := by kernel_rfl
theorem laws_sameRecords.bits6 : waitsOk laws_sameRecords.T6.2 laws_sameRecords.B6 = true := by kernel_rfl
set_option maxHeartbeats 8000000 in
set_option maxRecDepth 100000 in
theorem laws_sameRecords.calls (k : Nat) (A0 : Option Addr) (c0 : Nat) (l0 : List (S41)) (A1 : Option Addr) (c1 : Nat) (l1 : List (S41)) (r : Bool) (w : World) (hr0 : Kd.C k41 w A0 l0.length l0) (hc0 : l0.length ≤ c0) (hr1 : Kd.C k41 w A1 l1.length l1) (hc1 : l1.length ≤ c1) (h : laws_sameRecords.f k l0 l1 = some r) :
  Calls Tryd.prog 30 #[.slice A0 l0.length c0, .slice A1 l1.length c1] w fun e w' => e = .returned (.bool r) ∧ Below w.heap.size w w' := by
 have hu41 := Tryd.underlying41
 have HR0 := Aside0.mk hr0
 have HC0 := Aside0.mk hc0
 clear hr0 hc0
 have HR1 := Aside0.mk hr1
 have HC1 := Aside0.mk hc1
 clear hr1 hc1
 have HB := Aside0.mk (Below.refl w.heap.size w)
 have H : (if (l0.length : Int) = (l1.length : Int) then (laws_sameRecords.l0 k l0 l1 0) else (some false)) = some r := h
 clear h
 by_cases c3 : (l0.length : Int) = (l1.length : Int)
 ·rw [if_pos c3] at H
  have c3b0 : ((l0.length : Int) == (l1.length : Int)) = true := beq_iff_eq.mpr c3
  have c3b1 : ((l0.length : Int) != (l1.length : Int)) = false := bne_eq_false_iff_eq.mpr c3
  have c3b2 : (l0.length == l1.length) = true := by first | simpa using c3 | (simp at c3 ⊢; omega)
  clear c3
  have H' := Aside0.mk H
  clear H
  go_enter Tryd.func30, Tryd.ntmps30
  go_wp2
  go_loopg [5] k (fun kq v5 w' => ∃ (x5_1 : Int), v5 = .int .i64 x5_1 ∧ Aside0 (laws_sameRecords.l0 kq l0 l1 x5_1 = some r) ∧ Aside0 (kq ≤ k) ∧ Aside0 (Below w.heap.size w w'))
  case atStart => exact ⟨(0), tr, H', ⟨Nat.le_refl _⟩, ⟨zb⟩⟩
  case round =>
   clear H'
   try clear c1; try clear c3; try clear c3b0; try clear c3b1; try clear c3b2
   obtain ⟨x5_1, rfl, HA, HK1, HB⟩ := hrel
   cases gk with
   | zero => exact absurd HA.out (by simp [laws_sameRecords.l0])
   | succ k1 =>
    have H := HA.out
    clear HA
    simp only [laws_sameRecords.l0] at H
    by_cases c4 : x5_1 < (l0.length : Int)
    ·rw [if_pos c4] at H
     have c4b0 : decide (x5_1 < (l0.length : Int)) = true := decide_eq_true c4
     clear c4
     by_cases c5 : 0 ≤ x5_1
     ·rw [if_pos c5] at H
      have c5b0 : decide (0 ≤ x5_1) = true := decide_eq_true c5
      clear c5
      by_cases c6 : x5_1 < (l1.length : Int)
      ·rw [if_pos c6] at H
       have c6b0 : decide (x5_1 < (l1.length : Int)) = true := decide_eq_true c6
       clear c6
       replace H := tbe H
       obtain ⟨t396, A7, H⟩ := H
       by_cases c8 : t396 = true
       ·subst c8
        rw [if_pos rfl] at H
        have H' := Aside0.mk H
        clear H
        try go_wp2
        replace HB := Aside0.mk (below_drew1 HB.out)
        have p394 : 0 ≤ (x5_1 : Int) := td
        have q394 : x5_1 < (l0.length : Int) := td
        obtain ⟨ad394, A394_3, c394_3, A394_5, c394_5, e394, hx394_0, hx394_1, hx394_2, hx394_3, hx394_4, hx394_5, hl394_3, hi394_3, hl394_5, hi394_5⟩ := at_T41 HR0.out x5_1 p394 q394
        have hw394_5 := hx394_5
        have hw394_4 := hx394_4
        have hw394_3 := hx394_3
        have hw394_2 := hx394_2
        have hw394_1 := hx394_1
        have hw394_0 := hx394_0
        cases e394
        replace hx394_0 := tcl HB hx394_0
        replace hx394_1 := tcl HB hx394_1
        replace hx394_2 := tcl HB hx394_2
        replace hx394_3 := tcl HB hx394_3
        replace hx394_4 := tcl HB hx394_4
        replace hx394_5 := tcl HB hx394_5
        have HR394_3 := Aside0.mk hi394_3
        have HC394_3 := Aside0.mk hl394_3
        clear hi394_3 hl394_3
        have HR394_5 := Aside0.mk hi394_5
        have HC394_5 := Aside0.mk hl394_5
        clear hi394_5 hl394_5
        replace p394 := eq_true p394
        replace q394 := eq_true q394
        have p395 : 0 ≤ (x5_1 : Int) := td
        have q395 : x5_1 < (l1.length : Int) := td
        obtain ⟨ad395, A395_3, c395_3, A395_5, c395_5, e395, hx395_0, hx395_1, hx395_2, hx395_3, hx395_4, hx395_5, hl395_3, hi395_3, hl395_5, hi395_5⟩ := at_T41 HR1.out x5_1 p395 q395
        have hw395_5 := hx395_5
        have hw395_4 := hx395_4
        have hw395_3 := hx395_3
        have hw395_2 := hx395_2
        have hw395_1 := hx395_1
        have hw395_0 := hx395_0
        cases e395
        replace hx395_0 := tcl HB hx395_0
        replace hx395_1 := tcl HB hx395_1
        replace hx395_2 := tcl HB hx395_2
        replace hx395_3 := tcl HB hx395_3
        replace hx395_4 := tcl HB hx395_4
        replace hx395_5 := tcl HB hx395_5
        have HR395_3 := Aside0.mk hi395_3
        have HC395_3 := Aside0.mk hl395_3
        clear hi395_3 hl395_3
        have HR395_5 := Aside0.mk hi395_5
        have HC395_5 := Aside0.mk hl395_5
        clear hi395_5 hl395_5
        replace p395 := eq_true p395
        replace q395 := eq_true q395
        refine start_ (n := 10) (S := fun w' => w'.cell? (ad394.add ((x5_1).toNat * 6)) = some (.int .i64 ((rd_T41 l0 x5_1).f0)) ∧ w'.cell? ⟨(ad394.add ((x5_1).toNat * 6)).block, (ad394.add ((x5_1).toNat * 6)).off + 1, none⟩ = some (.int .i64 ((rd_T41 l0 x5_1).f1)) ∧ w'.cell? ⟨(ad394.add ((x5_1).toNat * 6)).block, (ad394.add ((x5_1).toNat * 6)).off + 2, none⟩ = some (.bool ((rd_T41 l0 x5_1).f2)) ∧ w'.cell? ⟨(ad394.add ((x5_1).toNat * 6)).block, (ad394.add ((x5_1).toNat * 6)).off + 3, none⟩ = some (.slice A394_3 ((rd_T41 l0 x5_1).f3).length c394_3) ∧ w'.cell? ⟨(ad394.add ((x5_1).toNat * 6)).block, (ad394.add ((x5_1).toNat * 6)).off + 4, none⟩ = some (.bool ((rd_T41 l0 x5_1).f4)) ∧ w'.cell? ⟨(ad394.add ((x5_1).toNat * 6)).block, (ad394.add ((x5_1).toNat * 6)).off + 5, none⟩ = some (.slice A394_5 ((rd_T41 l0 x5_1).f5).length c394_5) ∧ w'.cell? (ad395.add ((x5_1).toNat * 6)) = some (.int .i64 ((rd_T41 l1 x5_1).f0)) ∧ w'.cell? ⟨(ad395.add ((x5_1).toNat * 6)).block, (ad395.add ((x5_1).toNat * 6)).off + 1, none⟩ = some (.int .i64 ((rd_T41 l1 x5_1).f1)) ∧ w'.cell? ⟨(ad395.add ((x5_1).toNat * 6)).block, (ad395.add ((x5_1).toNat * 6)).off + 2, none⟩ = some (.bool ((rd_T41 l1 x5_1).f2)) ∧ w'.cell? ⟨(ad395.add ((x5_1).toNat * 6)).block, (ad395.add ((x5_1).toNat * 6)).off + 3, none⟩ = some (.slice A395_3 ((rd_T41 l1 x5_1).f3).length c395_3) ∧ w'.cell? ⟨(ad395.add ((x5_1).toNat * 6)).block, (ad395.add ((x5_1).toNat * 6)).off + 4, none⟩ = some (.bool ((rd_T41 l1 x5_1).f4)) ∧ w'.cell? ⟨(ad395.add ((x5_1).toNat * 6)).block, (ad395.add ((x5_1).toNat * 6)).off + 5, none⟩ = some (.slice A395_5 ((rd_T41 l1 x5_1).f5).length c395_5)) (ds := []) #[false, false, false, false, false, false, false, false, false, false] (by kernel_rfl) rfl rfl ⟨(tcl HB hw394_0), (tcl HB hw394_1), (tcl HB hw394_2), (tcl HB hw394_3), (tcl HB hw394_4), (tcl HB hw394_5), (tcl HB hw395_0), (tcl HB hw395_1), (tcl HB hw395_2), (tcl HB hw395_3), (tcl HB hw395_4), (tcl HB hw395_5)⟩ (fun hHeld => ?_); refine with_tabW laws_sameRecords.tab6 laws_sameRecords.bits6 (fun HT_ HW_ => ?_)
        generalize wr.drew = w9 at HB HR394_3 HR394_5 HR395_3 HR395_5 hx394_0 hx394_1 hx394_2 hx394_3 hx394_4 hx394_5 hx395_0 hx395_1 hx395_2 hx395_3 hx395_4 hx395_5 hHeld ⊢
        refine tpu 0 (some 17) #[true, false, false, false, false, false, false, false, false, false] ?_
        refine tpu 1 (some 18) #[true, true, false, false, false, false, false, false, false, false] ?_
        refine tpu 2 (some 19) #[true, true, true, false, false, false, false, false, false, false] ?_
        refine tpu 4 (some 21) #[true, true, true, false, true, false, false, false, false, false] ?_
        refine tpu 5 (some 22) #[true, true, true, false, true, true, false, false, false, false] ?_
        refine tpu 6 (some 23) #[true, true, true, false, true, true, true, false, false, false] ?_
        refine tta 3 (some 20) #[true, true, true, true, true, true, true, false, false, false] hHeld ?_ (hy := by rintro w' ⟨s0, s1, s2, s3, s4, s5, s6, s7, s8, s9, s10, s11⟩; go_simp; with_reducible rfl)
        refine tta 7 (some 24) #[true, true, true, true, true, true, true, true, false, false] hHeld ?_ (hy := by rintro w' ⟨s0, s1, s2, s3, s4, s5, s6, s7, s8, s9, s10, s11⟩; go_simp; with_reducible rfl)
        refine one_ (i := 8) (N := some 25) #[true, true, true, true, true, true, true, true, true, false] rfl rfl (one_of HT_.out (by kernel_rfl)) (by decide) (fun K hK => ?_)
        refine goes_ Tryd.func49 (by kernel_rfl) rfl #[.agg #[.int .i64 ((rd_T41 l0 x5_1).f0), .int .i64 ((rd_T41 l0 x5_1).f1), .bool ((rd_T41 l0 x5_1).f2), .slice A394_3 ((rd_T41 l0 x5_1).f3).length c394_3, .bool ((rd_T41 l0 x5_1).f4), .slice A394_5 ((rd_T41 l0 x5_1).f5).length c394_5], .agg #[.int .i64 ((rd_T41 l1 x5_1).f0), .int .i64 ((rd_T41 l1 x5_1).f1), .bool ((rd_T41 l1 x5_1).f2), .slice A395_3 ((rd_T41 l1 x5_1).f3).length c395_3, .bool ((rd_T41 l1 x5_1).f4), .slice A395_5 ((rd_T41 l1 x5_1).f5).length c395_5]] (by rfl) rfl rfl tq ?_
        with_reducible refine (laws_sameRecord.calls k1 ((rd_T41 l0 x5_1).f0) ((rd_T41 l0 x5_1).f1) ((rd_T41 l0 x5_1).f2) _ _ ((rd_T41 l0 x5_1).f3) ((rd_T41 l0 x5_1).f4) _ _ ((rd_T41 l0 x5_1).f5) ((rd_T41 l1 x5_1).f0) ((rd_T41 l1 x5_1).f1) ((rd_T41 l1 x5_1).f2) _ _ ((rd_T41 l1 x5_1).f3) ((rd_T41 l1 x5_1).f4) _ _ ((rd_T41 l1 x5_1).f5) true _ ?side1 ?side2 ?side3 ?side4 ?side5 ?side6 ?side7 ?side8 A7.out).mono ?_
        (case side1 => exact tC (Kd.C_below HR394_3.out HB.out))
        (case side2 => exact HC394_3.out)
        (case side3 => exact tC (Kd.C_below HR394_5.out HB.out))
        (case side4 => exact HC394_5.out)
        (case side5 => exact tC (Kd.C_below HR395_3.out HB.out))
        (case side6 => exact HC395_3.out)
        (case side7 => exact tC (Kd.C_below HR395_5.out HB.out))
        (case side8 => exact HC395_5.out)
        rintro e w10 ⟨rfl, hb⟩
        refine ⟨_, rfl, ?_⟩
        replace HB := tBs HB hb
        (try clear hb)
        (try clear hb2)
        (try clear hk)
        (try clear hi)
        refine hK.out _ _ ⟨(tcl HB hw394_0), (tcl HB hw394_1), (tcl HB hw394_2), (tcl HB hw394_3), (tcl HB hw394_4), (tcl HB hw394_5), (tcl HB hw395_0), (tcl HB hw395_1), (tcl HB hw395_2), (tcl HB hw395_3), (tcl HB hw395_4), (tcl HB hw395_5)⟩ (fun hHeld => ?_)
        clear hK K
        refine tnm (some 25) ?_
        refine tpu 9 (some 26) #[true, true, true, true, true, true, true, true, true, true] ?_
        refine done_ (done_of HT_.out (by kernel_rfl)) ?_
        try go_wp2
        go_roundg k1
        case measure => have := HK1.out; omega
        case rel => exact ⟨(wrap64 (x5_1 + 1)), tr, H', ⟨by have := HK1.out; omega⟩, ⟨zb⟩⟩
       ·replace c8 := Bool.eq_false_iff.mpr c8
        subst c8
        rw [if_neg (show ¬ (false = true) by decide)] at H
        obtain rfl := Option.some.inj H
        try go_wp2
        replace HB := Aside0.mk (below_drew1 HB.out)
        have p394 : 0 ≤ (x5_1 : Int) := td
        have q394 : x5_1 < (l0.length : Int) := td
        obtain ⟨ad394, A394_3, c394_3, A394_5, c394_5, e394, hx394_0, hx394_1, hx394_2, hx394_3, hx394_4, hx394_5, hl394_3, hi394_3, hl394_5, hi394_5⟩ := at_T41 HR0.out x5_1 p394 q394
        have hw394_5 := hx394_5
        have hw394_4 := hx394_4
        have hw394_3 := hx394_3
        have hw394_2 := hx394_2
        have hw394_1 := hx394_1
        have hw394_0 := hx394_0
        cases e394
        replace hx394_0 := tcl HB hx394_0
        replace hx394_1 := tcl HB hx394_1
        replace hx394_2 := tcl HB hx394_2
        replace hx394_3 := tcl HB hx394_3
        replace hx394_4 := tcl HB hx394_4
        replace hx394_5 := tcl HB hx394_5
        have HR394_3 := Aside0.mk hi394_3
        have HC394_3 := Aside0.mk hl394_3
        clear hi394_3 hl394_3
        have HR394_5 := Aside0.mk hi394_5
        have HC394_5 := Aside0.mk hl394_5
        clear hi394_5 hl394_5
        replace p394 := eq_true p394
        replace q394 := eq_true q394
        have p395 : 0 ≤ (x5_1 : Int) := td
        have q395 : x5_1 < (l1.length : Int) := td
        obtain ⟨ad395, A395_3, c395_3, A395_5, c395_5, e395, hx395_0, hx395_1, hx395_2, hx395_3, hx395_4, hx395_5, hl395_3, hi395_3, hl395_5, hi395_5⟩ := at_T41 HR1.out x5_1 p395 q395
        have hw395_5 := hx395_5
        have hw395_4 := hx395_4
        have hw395_3 := hx395_3
        have hw395_2 := hx395_2
        have hw395_1 := hx395_1
        have hw395_0 := hx395_0
        cases e395
        replace hx395_0 := tcl HB hx395_0
        replace hx395_1 := tcl HB hx395_1
        replace hx395_2 := tcl HB hx395_2
        replace hx395_3 := tcl HB hx395_3
        replace hx395_4 := tcl HB hx395_4
        replace hx395_5 := tcl HB hx395_5
        have HR395_3 := Aside0.mk hi395_3
        have HC395_3 := Aside0.mk hl395_3
        clear hi395_3 hl395_3
        have HR395_5 := Aside0.mk hi395_5
        have HC395_5 := Aside0.mk hl395_5
        clear hi395_5 hl395_5
        replace p395 := eq_true p395
        replace q395 := eq_true q395
        refine start_ (n := 10) (S := fun w' => w'.cell? (ad394.add ((x5_1).toNat * 6)) = some (.int .i64 ((rd_T41 l0 x5_1).f0)) ∧ w'.cell? ⟨(ad394.add ((x5_1).toNat * 6)).block, (ad394.add ((x5_1).toNat * 6)).off + 1, none⟩ = some (.int .i64 ((rd_T41 l0 x5_1).f1)) ∧ w'.cell? ⟨(ad394.add ((x5_1).toNat * 6)).block, (ad394.add ((x5_1).toNat * 6)).off + 2, none⟩ = some (.bool ((rd_T41 l0 x5_1).f2)) ∧ w'.cell? ⟨(ad394.add ((x5_1).toNat * 6)).block, (ad394.add ((x5_1).toNat * 6)).off + 3, none⟩ = some (.slice A394_3 ((rd_T41 l0 x5_1).f3).length c394_3) ∧ w'.cell? ⟨(ad394.add ((x5_1).toNat * 6)).block, (ad394.add ((x5_1).toNat * 6)).off + 4, none⟩ = some (.bool ((rd_T41 l0 x5_1).f4)) ∧ w'.cell? ⟨(ad394.add ((x5_1).toNat * 6)).block, (ad394.add ((x5_1).toNat * 6)).off + 5, none⟩ = some (.slice A394_5 ((rd_T41 l0 x5_1).f5).length c394_5) ∧ w'.cell? (ad395.add ((x5_1).toNat * 6)) = some (.int .i64 ((rd_T41 l1 x5_1).f0)) ∧ w'.cell? ⟨(ad395.add ((x5_1).toNat * 6)).block, (ad395.add ((x5_1).toNat * 6)).off + 1, none⟩ = some (.int .i64 ((rd_T41 l1 x5_1).f1)) ∧ w'.cell? ⟨(ad395.add ((x5_1).toNat * 6)).block, (ad395.add ((x5_1).toNat * 6)).off + 2, none⟩ = some (.bool ((rd_T41 l1 x5_1).f2)) ∧ w'.cell? ⟨(ad395.add ((x5_1).toNat * 6)).block, (ad395.add ((x5_1).toNat * 6)).off + 3, none⟩ = some (.slice A395_3 ((rd_T41 l1 x5_1).f3).length c395_3) ∧ w'.cell? ⟨(ad395.add ((x5_1).toNat * 6)).block, (ad395.add ((x5_1).toNat * 6)).off + 4, none⟩ = some (.bool ((rd_T41 l1 x5_1).f4)) ∧ w'.cell? ⟨(ad395.add ((x5_1).toNat * 6)).block, (ad395.add ((x5_1).toNat * 6)).off + 5, none⟩ = some (.slice A395_5 ((rd_T41 l1 x5_1).f5).length c395_5)) (ds := []) #[false, false, false, false, false, false, false, false, false, false] (by kernel_rfl) rfl rfl ⟨(tcl HB hw394_0), (tcl HB hw394_1), (tcl HB hw394_2), (tcl HB hw394_3), (tcl HB hw394_4), (tcl HB hw394_5), (tcl HB hw395_0), (tcl HB hw395_1), (tcl HB hw395_2), (tcl HB hw395_3), (tcl HB hw395_4), (tcl HB hw395_5)⟩ (fun hHeld => ?_); refine with_tabW laws_sameRecords.tab6 laws_sameRecords.bits6 (fun HT_ HW_ => ?_)
        generalize wr.drew = w11 at HB HR394_3 HR394_5 HR395_3 HR395_5 hx394_0 hx394_1 hx394_2 hx394_3 hx394_4 hx394_5 hx395_0 hx395_1 hx395_2 hx395_3 hx395_4 hx395_5 hHeld ⊢
        refine tpu 0 (some 17) #[true, false, false, false, false, false, false, false, false, false] ?_
        refine tpu 1 (some 18) #[true, true, false, false, false, false, false, false, false, false] ?_
        refine tpu 2 (some 19) #[true, true, true, false, false, false, false, false, false, false] ?_
        refine tpu 4 (some 21) #[true, true, true, false, true, false, false, false, false, false] ?_
        refine tpu 5 (some 22) #[true, true, true, false, true, true, false, false, false, false] ?_
        refine tpu 6 (some 23) #[true, true, true, false, true, true, true, false, false, false] ?_
        refine tta 3 (some 20) #[true, true, true, true, true, true, true, false, false, false] hHeld ?_ (hy := by rintro w' ⟨s0, s1, s2, s3, s4, s5, s6, s7, s8, s9, s10, s11⟩; go_simp; with_reducible rfl)
        refine tta 7 (some 24) #[true, true, true, true, true, true, true, true, false, false] hHeld ?_ (hy := by rintro w' ⟨s0, s1, s2, s3, s4, s5, s6, s7, s8, s9, s10, s11⟩; go_simp; with_reducible rfl)
        refine one_ (i := 8) (N := some 25) #[true, true, true, true, true, true, true, true, true, false] rfl rfl (one_of HT_.out (by kernel_rfl)) (by decide) (fun K hK => ?_)
        refine goes_ Tryd.func49 (by kernel_rfl) rfl #[.agg #[.int .i64 ((rd_T41 l0 x5_1).f0), .int .i64 ((rd_T41 l0 x5_1).f1), .bool ((rd_T41 l0 x5_1).f2), .slice A394_3 ((rd_T41 l0 x5_1).f3).length c394_3, .bool ((rd_T41 l0 x5_1).f4), .slice A394_5 ((rd_T41 l0 x5_1).f5).length c394_5], .agg #[.int .i64 ((rd_T41 l1 x5_1).f0), .int .i64 ((rd_T41 l1 x5_1).f1), .bool ((rd_T41 l1 x5_1).f2), .slice A395_3 ((rd_T41 l1 x5_1).f3).length c395_3, .bool ((rd_T41 l1 x5_1).f4), .slice A395_5 ((rd_T41 l1 x5_1).f5).length c395_5]] (by rfl) rfl rfl tq ?_
        with_reducible refine (laws_sameRecord.calls k1 ((rd_T41 l0 x5_1).f0) ((rd_T41 l0 x5_1).f1) ((rd_T41 l0 x5_1).f2) _ _ ((rd_T41 l0 x5_1).f3) ((rd_T41 l0 x5_1).f4) _ _ ((rd_T41 l0 x5_1).f5) ((rd_T41 l1 x5_1).f0) ((rd_T41 l1 x5_1).f1) ((rd_T41 l1 x5_1).f2) _ _ ((rd_T41 l1 x5_1).f3) ((rd_T41 l1 x5_1).f4) _ _ ((rd_T41 l1 x5_1).f5) false _ ?side1 ?side2 ?side3 ?side4 ?side5 ?side6 ?side7 ?side8 A7.out).mono ?_
        (case side1 => exact tC (Kd.C_below HR394_3.out HB.out))
        (case side2 => exact HC394_3.out)
        (case side3 => exact tC (Kd.C_below HR394_5.out HB.out))
        (case side4 => exact HC394_5.out)
        (case side5 => exact tC (Kd.C_below HR395_3.out HB.out))
        (case side6 => exact HC395_3.out)
        (case side7 => exact tC (Kd.C_below HR395_5.out HB.out))
        (case side8 => exact HC395_5.out)
        rintro e w12 ⟨rfl, hb⟩
        refine ⟨_, rfl, ?_⟩
        replace HB := tBs HB hb
        (try clear hb)
        (try clear hb2)
        (try clear hk)
        (try clear hi)
        refine hK.out _ _ ⟨(tcl HB hw394_0), (tcl HB hw394_1), (tcl HB hw394_2), (tcl HB hw394_3), (tcl HB hw394_4), (tcl HB hw394_5), (tcl HB hw395_0), (tcl HB hw395_1), (tcl HB hw395_2), (tcl HB hw395_3), (tcl HB hw395_4), (tcl HB hw395_5)⟩ (fun hHeld => ?_)
        clear hK K
        refine tnm (some 25) ?_
        refine tpu 9 (some 26) #[true, true, true, true, true, true, true, true, true, true] ?_
        refine done_ (done_of HT_.out (by kernel_rfl)) ?_
        try go_wp2
        go_ret
        exact ⟨by first | rfl | (simp [errW_none, errW_some] <;> rfl) | (simp [*, errW_none, errW_some] <;> rfl), zb⟩
      ·rw [if_neg c6] at H
       exact absurd H (by simp)
     ·rw [if_neg c5] at H
      exact absurd H (by simp)
    ·rw [if_neg c4] at H
     have c4b0 : decide (x5_1 < (l0.length : Int)) = false := decide_eq_false c4
     clear c4
     obtain rfl := Option.some.inj H
     go_wp2
     go_ret
     exact ⟨by first | rfl | (simp [errW_none, errW_some] <;> rfl) | (simp [*, errW_none, errW_some] <;> rfl), zb⟩
 ·rw [if_neg c3] at H
  have c3b0 : ((l0.length : Int) == (l1.length : Int)) = false := beq_eq_false_iff_ne.mpr c3
  have c3b1 : ((l0.length : Int) != (l1.length : Int)) = true := bne_iff_ne.mpr c3
  have c3b2 : (l0.length == l1.length) = false := by first | simpa using c3 | (simp at c3 ⊢; omega)
  obtain rfl := Option.some.inj H
  go_enter Tryd.func30, Tryd.ntmps30
  go_wp2
  go_ret
  exact ⟨by first | rfl | (simp [errW_none, errW_some] <;> rfl) | (simp [*, errW_none, errW_some] <;> rfl), zb⟩

def laws_sameBatch.f (k : Nat) (a0_0 : Bool) (a0_1 : Bool) (a0_2 : Int) (a0_3 : Int) (a0_4 : Int) (l0_5 : List (S41)) (a1_0 : Bool) (a1_1 : Bool) (a1_2 : Int) (a1_3 : Int) (a1_4 : Int) (l1_5 : List (S41)) : Option (Bool) := if (a0_0 == a1_0) = true then (if (a0_1 == a1_1) = true then (if a0_2 = a1_2 then (if a0_3 = a1_3 then (if a0_4 = a1_4 then ((laws_sameRecords.f k l0_5 l1_5).bind fun t399 => (some t399)) else (some false)) else (some false)) else (some false)) else (some false)) else (some false)
set_option maxHeartbeats 8000000 in
set_option maxRecDepth 100000 in
theorem laws_sameBatch.calls (k : Nat) (a0_0 : Bool) (a0_1 : Bool) (a0_2 : Int) (a0_3 : Int) (a0_4 : Int) (A0_5 : Option Addr) (c0_5 : Nat) (l0_5 : List (S41)) (a1_0 : Bool) (a1_1 : Bool) (a1_2 : Int) (a1_3 : Int) (a1_4 : Int) (A1_5 : Option Addr) (c1_5 : Nat) (l1_5 : List (S41)) (r : Bool) (w : World) (hr0_5 : Kd.C k41 w A0_5 l0_5.length l0_5) (hc0_5 : l0_5.length ≤ c0_5) (hr1_5 : Kd.C k41 w A1_5 l1_5.length l1_5) (hc1_5 : l1_5.length ≤ c1_5) (h : laws_sameBatch.f k a0_0 a0_1 a0_2 a0_3 a0_4 l0_5 a1_0 a1_1 a1_2 a1_3 a1_4 l1_5 = some r) :
  Calls Tryd.prog 11 #[.agg #[.bool a0_0, .bool a0_1, .int .i64 a0_2, .int .i64 a0_3, .int .i64 a0_4, .slice A0_5 l0_5.length c0_5], .agg #[.bool a1_0, .bool a1_1, .int .i64 a1_2, .int .i64 a1_3, .int .i64 a1_4, .slice A1_5 l1_5.length c1_5]] w fun e w' => e = .returned (.bool r) ∧ Below w.heap.size w w' := by
 have hu25 := Tryd.underlying25
 have HR0_5 := Aside0.mk hr0_5
 have HC0_5 := Aside0.mk hc0_5
 clear hr0_5 hc0_5
 have HR1_5 := Aside0.mk hr1_5
 have HC1_5 := Aside0.mk hc1_5
 clear hr1_5 hc1_5
 have HB := Aside0.mk (Below.refl w.heap.size w)
 have H : (if (a0_0 == a1_0) = true then (if (a0_1 == a1_1) = true then (if a0_2 = a1_2 then (if a0_3 = a1_3 then (if a0_4 = a1_4 then ((laws_sameRecords.f k l0_5 l1_5).bind fun t399 => (some t399)) else (some false)) else (some false)) else (some false)) else (some false)) else (some false)) = some r := h
 clear h
 by_cases c3 : (a0_0 == a1_0) = true
 ·rw [if_pos c3] at H
  have c3b0 : (a0_0 == a1_0) = true := c3
  (try (have c3b1 : decide (a0_0 = a1_0) = true := by simpa using c3))
  (try (have c3b2 : (a0_0 == a1_0) = true := by simpa using c3))
  clear c3
  by_cases c4 : (a0_1 == a1_1) = true
  ·rw [if_pos c4] at H
   have c4b0 : (a0_1 == a1_1) = true := c4
   (try (have c4b1 : decide (a0_1 = a1_1) = true := by simpa using c4))
   (try (have c4b2 : (a0_1 == a1_1) = true := by simpa using c4))
   clear c4
   by_cases c5 : a0_2 = a1_2
   ·rw [if_pos c5] at H
    have c5b0 : (a0_2 == a1_2) = true := beq_iff_eq.mpr c5
    have c5b1 : (a0_2 != a1_2) = false := bne_eq_false_iff_eq.mpr c5
    clear c5
    by_cases c6 : a0_3 = a1_3
    ·rw [if_pos c6] at H
     have c6b0 : (a0_3 == a1_3) = true := beq_iff_eq.mpr c6
     have c6b1 : (a0_3 != a1_3) = false := bne_eq_false_iff_eq.mpr c6
     clear c6
     by_cases c7 : a0_4 = a1_4
     ·rw [if_pos c7] at H
      have c7b0 : (a0_4 == a1_4) = true := beq_iff_eq.mpr c7
      have c7b1 : (a0_4 != a1_4) = false := bne_eq_false_iff_eq.mpr c7
      clear c7
      replace H := tbe H
      obtain ⟨t399, A8, H⟩ := H
      obtain rfl := Option.some.inj H
      go_enter Tryd.func11, Tryd.ntmps11
      go_wp2_with (first | ((with_reducible refine gate_dst (N := 2) rfl ?_); refine box_event ?hg (N := 2) ?hd (cs := #[.bool a0_0, .bool a0_1, .int .i64 a0_2, .int .i64 a0_3, .int .i64 a0_4, .slice A0_5 l0_5.length c0_5]) (t := 25) ?hr ?_; (case hd => rfl); (case hg => rfl); (case hr => first | (go_simp; done) | (go_simp; rfl)); intro gb397 hg w9 hbox hb; have BK397 := Aside0.mk (hbox); have GW397 := tge HB hg; have GE397 := tge HB hg; replace HB := tBs HB hb; clear hb hbox hg) | ((with_reducible refine gate_dst (N := 3) rfl ?_); refine box_event ?hg (N := 3) ?hd (cs := #[.bool a1_0, .bool a1_1, .int .i64 a1_2, .int .i64 a1_3, .int .i64 a1_4, .slice A1_5 l1_5.length c1_5]) (t := 25) ?hr ?_; (case hd => rfl); (case hg => rfl); (case hr => first | (go_simp; done) | (go_simp; rfl)); intro gb398 hg w10 hbox hb; have BK398 := Aside0.mk (hbox); have GW398 := tge HB hg; have GE398 := tge HB hg; replace HB := tBs HB hb; have NB397_398 := tlt BK397 hg; have NB398_397 := tgt BK397 hg; replace BK397 := tBb BK397 hb; clear hb hbox hg; have hnb11 := NB397_398.out; have hnc11 := NB398_397.out; obtain ⟨hcz12_0, hcz12_1, hcz12_2, hcz12_3, hcz12_4, hcz12_5, hfz12_0, hfz12_1, hfz12_2, hfz12_3, hfz12_4, hfz12_5⟩ := cells6 BK397.out; obtain ⟨hcz13_0, hcz13_1, hcz13_2, hcz13_3, hcz13_4, hcz13_5, hfz13_0, hfz13_1, hfz13_2, hfz13_3, hfz13_4, hfz13_5⟩ := cells6 BK398.out) | (go_at_call 30; (with_reducible refine (laws_sameRecords.calls k _ _ l0_5 _ _ l1_5 t399 _ ?side1 ?side2 ?side3 ?side4 A8.out).mono ?_); (case side1 => exact tC (Kd.C_below HR0_5.out HB.out)); (case side2 => exact HC0_5.out); (case side3 => exact tC (Kd.C_below HR1_5.out HB.out)); (case side4 => exact HC1_5.out); rintro e w14 ⟨rfl, hb⟩; replace BK397 := tBb BK397 hb; replace BK398 := tBb BK398 hb; replace HB := tBs HB hb; (try clear hb); (try clear hb2); (try clear hk); (try clear hi)))
      go_ret
      exact ⟨by first | rfl | (simp [errW_none, errW_some] <;> rfl) | (simp [*, errW_none, errW_some] <;> rfl), zb⟩
     ·rw [if_neg c7] at H
      have c7b0 : (a0_4 == a1_4) = false := beq_eq_false_iff_ne.mpr c7
      have c7b1 : (a0_4 != a1_4) = true := bne_iff_ne.mpr c7
      obtain rfl := Option.some.inj H
      go_enter Tryd.func11, Tryd.ntmps11
      go_wp2_with (first | ((with_reducible refine gate_dst (N := 2) rfl ?_); refine box_event ?hg (N := 2) ?hd (cs := #[.bool a0_0, .bool a0_1, .int .i64 a0_2, .int .i64 a0_3, .int .i64 a0_4, .slice A0_5 l0_5.length c0_5]) (t := 25) ?hr ?_; (case hd => rfl); (case hg => rfl); (case hr => first | (go_simp; done) | (go_simp; rfl)); intro gb397 hg w15 hbox hb; have BK397 := Aside0.mk (hbox); have GW397 := tge HB hg; have GE397 := tge HB hg; replace HB := tBs HB hb; clear hb hbox hg) | ((with_reducible refine gate_dst (N := 3) rfl ?_); refine box_event ?hg (N := 3) ?hd (cs := #[.bool a1_0, .bool a1_1, .int .i64 a1_2, .int .i64 a1_3, .int .i64 a1_4, .slice A1_5 l1_5.length c1_5]) (t := 25) ?hr ?_; (case hd => rfl); (case hg => rfl); (case hr => first | (go_simp; done) | (go_simp; rfl)); intro gb398 hg w16 hbox hb; have BK398 := Aside0.mk (hbox); have GW398 := tge HB hg; have GE398 := tge HB hg; replace HB := tBs HB hb; have NB397_398 := tlt BK397 hg; have NB398_397 := tgt BK397 hg; replace BK397 := tBb BK397 hb; clear hb hbox hg; have hnb17 := NB397_398.out; have hnc17 := NB398_397.out; obtain ⟨hcz18_0, hcz18_1, hcz18_2, hcz18_3, hcz18_4, hcz18_5, hfz18_0, hfz18_1, hfz18_2, hfz18_3, hfz18_4, hfz18_5⟩ := cells6 BK397.out; obtain ⟨hcz19_0, hcz19_1, hcz19_2, hcz19_3, hcz19_4, hcz19_5, hfz19_0, hfz19_1, hfz19_2, hfz19_3, hfz19_4, hfz19_5⟩ := cells6 BK398.out))
      go_ret
      exact ⟨by first | rfl | (simp [errW_none, errW_some] <;> rfl) | (simp [*, errW_none, errW_some] <;> rfl), zb⟩
    ·rw [if_neg c6] at H
     have c6b0 : (a0_3 == a1_3) = false := beq_eq_false_iff_ne.mpr c6
     have c6b1 : (a0_3 != a1_3) = true := bne_iff_ne.mpr c6
     obtain rfl := Option.some.inj H
     go_enter Tryd.func11, Tryd.ntmps11
     go_wp2_with (first | ((with_reducible refine gate_dst (N := 2) rfl ?_); refine box_event ?hg (N := 2) ?hd (cs := #[.bool a0_0, .bool a0_1, .int .i64 a0_2, .int .i64 a0_3, .int .i64 a0_4, .slice A0_5 l0_5.length c0_5]) (t := 25) ?hr ?_; (case hd => rfl); (case hg => rfl); (case hr => first | (go_simp; done) | (go_simp; rfl)); intro gb397 hg w20 hbox hb; have BK397 := Aside0.mk (hbox); have GW397 := tge HB hg; have GE397 := tge HB hg; replace HB := tBs HB hb; clear hb hbox hg) | ((with_reducible refine gate_dst (N := 3) rfl ?_); refine box_event ?hg (N := 3) ?hd (cs := #[.bool a1_0, .bool a1_1, .int .i64 a1_2, .int .i64 a1_3, .int .i64 a1_4, .slice A1_5 l1_5.length c1_5]) (t := 25) ?hr ?_; (case hd => rfl); (case hg => rfl); (case hr => first | (go_simp; done) | (go_simp; rfl)); intro gb398 hg w21 hbox hb; have BK398 := Aside0.mk (hbox); have GW398 := tge HB hg; have GE398 := tge HB hg; replace HB := tBs HB hb; have NB397_398 := tlt BK397 hg; have NB398_397 := tgt BK397 hg; replace BK397 := tBb BK397 hb; clear hb hbox hg; have hnb22 := NB397_398.out; have hnc22 := NB398_397.out; obtain ⟨hcz23_0, hcz23_1, hcz23_2, hcz23_3, hcz23_4, hcz23_5, hfz23_0, hfz23_1, hfz23_2, hfz23_3, hfz23_4, hfz23_5⟩ := cells6 BK397.out; obtain ⟨hcz24_0, hcz24_1, hcz24_2, hcz24_3, hcz24_4, hcz24_5, hfz24_0, hfz24_1, hfz24_2, hfz24_3, hfz24_4, hfz24_5⟩ := cells6 BK398.out))
     go_ret
     exact ⟨by first | rfl | (simp [errW_none, errW_some] <;> rfl) | (simp [*, errW_none, errW_some] <;> rfl), zb⟩
   ·rw [if_neg c5] at H
    have c5b0 : (a0_2 == a1_2) = false := beq_eq_false_iff_ne.mpr c5
    have c5b1 : (a0_2 != a1_2) = true := bne_iff_ne.mpr c5
    obtain rfl := Option.some.inj H
    go_enter Tryd.func11, Tryd.ntmps11
    go_wp2_with (first | ((with_reducible refine gate_dst (N := 2) rfl ?_); refine box_event ?hg (N := 2) ?hd (cs := #[.bool a0_0, .bool a0_1, .int .i64 a0_2, .int .i64 a0_3, .int .i64 a0_4, .slice A0_5 l0_5.length c0_5]) (t := 25) ?hr ?_; (case hd => rfl); (case hg => rfl); (case hr => first | (go_simp; done) | (go_simp; rfl)); intro gb397 hg w25 hbox hb; have BK397 := Aside0.mk (hbox); have GW397 := tge HB hg; have GE397 := tge HB hg; replace HB := tBs HB hb; clear hb hbox hg) | ((with_reducible refine gate_dst (N := 3) rfl ?_); refine box_event ?hg (N := 3) ?hd (cs := #[.bool a1_0, .bool a1_1, .int .i64 a1_2, .int .i64 a1_3, .int .i64 a1_4, .slice A1_5 l1_5.length c1_5]) (t := 25) ?hr ?_; (case hd => rfl); (case hg => rfl); (case hr => first | (go_simp; done) | (go_simp; rfl)); intro gb398 hg w26 hbox hb; have BK398 := Aside0.mk (hbox); have GW398 := tge HB hg; have GE398 := tge HB hg; replace HB := tBs HB hb; have NB397_398 := tlt BK397 hg; have NB398_397 := tgt BK397 hg; replace BK397 := tBb BK397 hb; clear hb hbox hg; have hnb27 := NB397_398.out; have hnc27 := NB398_397.out; obtain ⟨hcz28_0, hcz28_1, hcz28_2, hcz28_3, hcz28_4, hcz28_5, hfz28_0, hfz28_1, hfz28_2, hfz28_3, hfz28_4, hfz28_5⟩ := cells6 BK397.out; obtain ⟨hcz29_0, hcz29_1, hcz29_2, hcz29_3, hcz29_4, hcz29_5, hfz29_0, hfz29_1, hfz29_2, hfz29_3, hfz29_4, hfz29_5⟩ := cells6 BK398.out))
    go_ret
    exact ⟨by first | rfl | (simp [errW_none, errW_some] <;> rfl) | (simp [*, errW_none, errW_some] <;> rfl), zb⟩
  ·rw [if_neg c4] at H
   have c4b0 : (a0_1 == a1_1) = false := by simpa using c4
   (try (have c4b1 : decide (a0_1 = a1_1) = false := by simpa using c4))
   (try (have c4b2 : (a0_1 == a1_1) = false := by simpa using c4))
   (try (have c4b3 : ¬ (a0_1 = a1_1) := by simpa using c4))
   clear c4
   obtain rfl := Option.some.inj H
   go_enter Tryd.func11, Tryd.ntmps11
   go_wp2_with (first | ((with_reducible refine gate_dst (N := 2) rfl ?_); refine box_event ?hg (N := 2) ?hd (cs := #[.bool a0_0, .bool a0_1, .int .i64 a0_2, .int .i64 a0_3, .int .i64 a0_4, .slice A0_5 l0_5.length c0_5]) (t := 25) ?hr ?_; (case hd => rfl); (case hg => rfl); (case hr => first | (go_simp; done) | (go_simp; rfl)); intro gb397 hg w30 hbox hb; have BK397 := Aside0.mk (hbox); have GW397 := tge HB hg; have GE397 := tge HB hg; replace HB := tBs HB hb; clear hb hbox hg) | ((with_reducible refine gate_dst (N := 3) rfl ?_); refine box_event ?hg (N := 3) ?hd (cs := #[.bool a1_0, .bool a1_1, .int .i64 a1_2, .int .i64 a1_3, .int .i64 a1_4, .slice A1_5 l1_5.length c1_5]) (t := 25) ?hr ?_; (case hd => rfl); (case hg => rfl); (case hr => first | (go_simp; done) | (go_simp; rfl)); intro gb398 hg w31 hbox hb; have BK398 := Aside0.mk (hbox); have GW398 := tge HB hg; have GE398 := tge HB hg; replace HB := tBs HB hb; have NB397_398 := tlt BK397 hg; have NB398_397 := tgt BK397 hg; replace BK397 := tBb BK397 hb; clear hb hbox hg; have hnb32 := NB397_398.out; have hnc32 := NB398_397.out; obtain ⟨hcz33_0, hcz33_1, hcz33_2, hcz33_3, hcz33_4, hcz33_5, hfz33_0, hfz33_1, hfz33_2, hfz33_3, hfz33_4, hfz33_5⟩ := cells6 BK397.out; obtain ⟨hcz34_0, hcz34_1, hcz34_2, hcz34_3, hcz34_4, hcz34_5, hfz34_0, hfz34_1, hfz34_2, hfz34_3, hfz34_4, hfz34_5⟩ := cells6 BK398.out))
   go_ret
   exact ⟨by first | rfl | (simp [errW_none, errW_some] <;> rfl) | (simp [*, errW_none, errW_some] <;> rfl), zb⟩
 ·rw [if_neg c3] at H
  have c3b0 : (a0_0 == a1_0) = false := by simpa using c3
  (try (have c3b1 : decide (a0_0 = a1_0) = false := by simpa using c3))
  (try (have c3b2 : (a0_0 == a1_0) = false := by simpa using c3))
  (try (have c3b3 : ¬ (a0_0 = a1_0) := by simpa using c3))
  clear c3
  obtain rfl := Option.some.inj H
  go_enter Tryd.func11, Tryd.ntmps11
  go_wp2_with (first | ((with_reducible refine gate_dst (N := 2) rfl ?_); refine box_event ?hg (N := 2) ?hd (cs := #[.bool a0_0, .bool a0_1, .int .i64 a0_2, .int .i64 a0_3, .int .i64 a0_4, .slice A0_5 l0_5.length c0_5]) (t := 25) ?hr ?_; (case hd => rfl); (case hg => rfl); (case hr => first | (go_simp; done) | (go_simp; rfl)); intro gb397 hg w35 hbox hb; have BK397 := Aside0.mk (hbox); have GW397 := tge HB hg; have GE397 := tge HB hg; replace HB := tBs HB hb; clear hb hbox hg) | ((with_reducible refine gate_dst (N := 3) rfl ?_); refine box_event ?hg (N := 3) ?hd (cs := #[.bool a1_0, .bool a1_1, .int .i64 a1_2, .int .i64 a1_3, .int .i64 a1_4, .slice A1_5 l1_5.length c1_5]) (t := 25) ?hr ?_; (case hd => rfl); (case hg => rfl); (case hr => first | (go_simp; done) | (go_simp; rfl)); intro gb398 hg w36 hbox hb; have BK398 := Aside0.mk (hbox); have GW398 := tge HB hg; have GE398 := tge HB hg; replace HB := tBs HB hb; have NB397_398 := tlt BK397 hg; have NB398_397 := tgt BK397 hg; replace BK397 := tBb BK397 hb; clear hb hbox hg; have hnb37 := NB397_398.out; have hnc37 := NB398_397.out; obtain ⟨hcz38_0, hcz38_1, hcz38_2, hcz38_3, hcz38_4, hcz38_5, hfz38_0, hfz38_1, hfz38_2, hfz38_3, hfz38_4, hfz38_5⟩ := cells6 BK397.out; obtain ⟨hcz39_0, hcz39_1, hcz39_2, hcz39_3, hcz39_4, hcz39_5, hfz39_0, hfz39_1, hfz39_2, hfz39_3, hfz39_4, hfz39_5⟩ := cells6 BK398.out))
  go_ret
  exact ⟨by first | rfl | (simp [errW_none, errW_some] <;> rfl) | (simp [*, errW_none, errW_some] <;> rfl), zb⟩

end Go.Proofs.YtahenocndacjeaaDoor.G

namespace Go.Proofs.YtahenocndacjeaaDoorW.PrintWords
open Go.RowKit
namespace Kd
section
variable {P : Program} {ops : Array Oper} {rest : List Oper} {o : Oper} {a : Act} {W : World} {α : Type} {Q : Exit → Act → World → Prop} {Kc : Act → World → Prop}
theorem own_room (W : World) (base e size m : Nat) (cs : Array Value) (hb : base ≤ W.heap.size) (hm : m ≤ maxLen) (hs : cs.size = m * size) :
    (W.alloc (.cells cs e)).ownsRow base e size (.slice (some ⟨W.heap.size, 0, none⟩) 0 m) 0 [] :=
  ⟨by simp, .inr ⟨W.heap.size, m, cs, rfl, hb, heap_alloc_new W _, Nat.zero_le _, hm, hs, by simp⟩⟩
theorem R_room (d : Kd α) (W : World) (base e m : Nat) (cs : Array Value) {ok : Nat → Prop} (hfresh : ok W.heap.size) (hb : base ≤ W.heap.size) (hm : m ≤ maxLen) (hs : cs.size = m * d.sz) :
    d.R e (W.alloc (.cells cs e)) base ok (.slice (some ⟨W.heap.size, 0, none⟩) 0 m) [] :=
  ⟨fun k hk => by
    have : W.heap.size = k := by simpa [Value.ownBlock] using hk
    subst this
    exact hfresh, [], own_room W base e d.sz m cs hb hm hs, ⟨by simp, fun j p hj => by simp at hj⟩⟩
theorem makec_run {d : Kd α} (t e : TypeId) (x y : Operand) (ho : o.op = .makeSlice t x y) (n : Nat) (hx : a.eval x = .int .i64 0) (hy : a.eval y = .int .i64 (n : Int))
    (ht : P.underlying t = some (.slice e)) (z : Value) (bytes : Nat) (hinfo : (P.info? e).map (fun i => (i.zero, i.size, i.bytes)) = some (some z, d.sz, bytes)) (hb0 : 0 < bytes) (hl : n * bytes ≤ 281474976710656) :
    (execOp a.eval o).run P W = .ok (.value (.slice (some ⟨W.heap.size, 0, none⟩) 0 n)) (W.alloc (.cells (madeCells z.cells (n * d.sz)) e)) := by
  obtain ⟨i0, hi, hzz⟩ := Option.map_eq_some_iff.1 hinfo
  simp only [Prod.mk.injEq] at hzz
  obtain ⟨hz0, hz1, hz2⟩ := hzz
  have hm : n ≤ 281474976710656 := Nat.le_trans (Nat.le_mul_of_pos_right _ hb0) hl
  have hr := run_make (P := P) (w := W) t e i0 z ht hi hz0 .i64 .i64 0 (n : Int) (by omega) (by omega)
    (by
      have h3 : ((i0.bytes * n : Nat) : Int) ≤ 281474976710656 := by rw [hz2, Nat.mul_comm]; omega
      rwa [Int.natCast_mul] at h3) (by omega)
  simp only [Int.toNat_natCast] at hr
  rw [hz1] at hr
  have e0 : (0 : Int).toNat = 0 := rfl
  rw [e0] at hr
  simp [execOp, ho, hx, hy, hr]
theorem makec_max {n bytes : Nat} (hb0 : 0 < bytes) (hl : n * bytes ≤ 281474976710656) : n ≤ maxLen := by
  have : n ≤ 281474976710656 := Nat.le_trans (Nat.le_mul_of_pos_right _ hb0) hl
  simp only [maxLen]
  omega
theorem R_makec (d : Kd α) {w0 : World} (base e : Nat) (hgd : o.guard = none) {N : Tmp} (_hd : o.dst = some N) (t : TypeId) (x y : Operand) (ho : o.op = .makeSlice t x y) (n : Int) (hx : a.eval x = .int .i64 0) (hy : a.eval y = .int .i64 n)
    (ht : P.underlying t = some (.slice e)) (z : Value) (bytes : Nat) (hinfo : (P.info? e).map (fun i => (i.zero, i.size, i.bytes)) = some (some z, d.sz, bytes)) (_hz : z.cells.size = d.sz) (_hs0 : 0 < d.sz) (hb0 : 0 < bytes)
    {ok : Nat → Prop} (hfresh : ok W.heap.size) (h0 : 0 ≤ n) (hl : n.toNat * bytes ≤ 281474976710656) (HB : Below base w0 W) (hbase : base ≤ W.heap.size)
    (h : ∀ v1 w1, d.R e w1 base ok v1 [] → Below base w0 w1 → W.grownBy w1 none → (∃ b, v1.ownBlock = some b ∧ W.heap.size ≤ b) → wpList P ops Q rest (a.put o.dst v1) w1) : wpList P ops Q (o :: rest) a W := by
  obtain ⟨m, rfl⟩ := Int.eq_ofNat_of_zero_le h0
  simp only [Int.toNat_natCast] at hl
  exact event_run hgd (makec_run (d := d) t e x y ho m hx hy ht z bytes hinfo hb0 hl) (h _ _ (R_room d W base e m _ hfresh hbase (makec_max hb0 hl) (by simp [size_madeCells])) (HB.alloc hbase _) (World.grownBy_alloc W _ none) ⟨W.heap.size, by simp [Value.ownBlock], Nat.le_refl _⟩)
theorem S_makec (d : Kd α) {w0 : World} (base e : Nat) (hgd : o.guard = none) {N : Tmp} (hd : o.dst = some N) (t : TypeId) (x y : Operand) (ho : o.op = .makeSlice t x y) (n : Int) (hx : a.eval x = .int .i64 0) (hy : a.eval y = .int .i64 n)
    (ht : P.underlying t = some (.slice e)) (z : Value) (bytes : Nat) (hinfo : (P.info? e).map (fun i => (i.zero, i.size, i.bytes)) = some (some z, d.sz, bytes)) (hz : z.cells.size = d.sz) (hs0 : 0 < d.sz) (hb0 : 0 < bytes)
    {ok : Nat → Prop} (hfresh : ok W.heap.size) (h0 : 0 ≤ n) (hl : n.toNat * bytes ≤ 281474976710656) (HB : Below base w0 W) (hbase : base ≤ W.heap.size)
    (h : ∀ v1 w1, S d e w1 base ok v1 [] → Below base w0 w1 → W.grownBy w1 none → (∃ b, v1.ownBlock = some b ∧ W.heap.size ≤ b) → wpList P ops Q rest (a.put o.dst v1) w1) : wpList P ops Q (o :: rest) a W :=
  R_makec (bare d) base e hgd hd t x y ho n hx hy ht z bytes hinfo hz hs0 hb0 (ok := ok) hfresh h0 hl HB hbase (fun v1 w1 hr => h v1 w1 (S_bare hr))
end
end Kd
end Go.Proofs.YtahenocndacjeaaDoorW.PrintWords

namespace Go.Proofs.YtahenocndacjeaaDoor.G
open Go.RowKit Go.Proofs.YtahenocndacjeaaDoorW.PrintWords Go.Proofs.YtahenocndacjeaaDoorW.PrintLast Go.Proofs.YtahenocndacjeaaDoorW.PrintMore
attribute [local go_sem] max2_int min2_int max_two min_two max_three min_three max_four min_four   -- for this text's walks alone
set_option linter.unusedVariables false
set_option linter.unusedSimpArgs false

def impl_copyRecords.l0 : Nat → List (S41) → List (S41) → Int → Int → Option ((List (S41)))
 | 0, _, _, _, _ => none
 | k + 1, x3, x9, x10, x11 => if x11 < x10 then (if 0 ≤ x11 then (if x11 < (x9.length : Int) then ((impl_Record_copyOf.f ((rd_T41 x9 x11).f0) ((rd_T41 x9 x11).f1) ((rd_T41 x9 x11).f2) ((rd_T41 x9 x11).f3) ((rd_T41 x9 x11).f4) ((rd_T41 x9 x11).f5)).bind fun bt473 => (if x3.length < 1759218604441 then (impl_copyRecords.l0 k (x3 ++ [(⟨bt473.1, bt473.2.1, bt473.2.2.1, bt473.2.2.2.1, bt473.2.2.2.2.1, bt473.2.2.2.2.2⟩ : S41)]) x9 x10 (wrap64 (x11 + 1))) else (none))) else (none)) else (none)) else (some x3)
def impl_copyRecords.f (k : Nat) (l0 : List (S41)) : Option ((List (S41))) := if 0 ≤ (l0.length : Int) then (if ((l0.length : Int) : Int).toNat ≤ 3518437208883 then (impl_copyRecords.l0 k (([] : List (S41))) l0 (l0.length : Int) 0) else (none)) else (none)
set_option maxHeartbeats 8000000 in
set_option maxRecDepth 100000 in
theorem impl_copyRecords.calls (k : Nat) (A0 : Option Addr) (c0 : Nat) (l0 : List (S41)) (r : List (S41)) (w : World) (hr0 : Kd.C k41 w A0 l0.length l0) (hc0 : l0.length ≤ c0) (h : impl_copyRecords.f k l0 = some r) :
  Calls Tryd.prog 53 #[.slice A0 l0.length c0] w fun e w' => ∃ v0_ : Value, e = .returned (v0_) ∧ Kd.S k41 41 w' w.heap.size (fun _ => True) v0_ r ∧ Below w.heap.size w w' := by
 have hu41 := Tryd.underlying41
 have HR0 := Aside0.mk hr0
 have HC0 := Aside0.mk hc0
 clear hr0 hc0
 have HB := Aside0.mk (Below.refl w.heap.size w)
 have H : (if 0 ≤ (l0.length : Int) then (if ((l0.length : Int) : Int).toNat ≤ 3518437208883 then (impl_copyRecords.l0 k (([] : List (S41))) l0 (l0.length : Int) 0) else (none)) else (none)) = some r := h
 clear h
 by_cases c2 : 0 ≤ (l0.length : Int)
 ·rw [if_pos c2] at H
  have c2b0 := eq_true c2
  have c2b1 : decide (0 ≤ (l0.length : Int)) = true := decide_eq_true c2
  clear c2
  by_cases c3 : ((l0.length : Int) : Int).toNat ≤ 3518437208883
  ·rw [if_pos c3] at H
   have c3b0 := eq_true c3
   have c3b1 : decide (((l0.length : Int) : Int).toNat ≤ 3518437208883) = true := decide_eq_true c3
   clear c3
   obtain ⟨y468, hy468⟩ : ∃ y_ : List (S41), y_ = (([] : List (S41))) := ⟨_, rfl⟩
   replace H : (impl_copyRecords.l0 k y468 l0 (l0.length : Int) 0) = some r := by first | (rw [hy468]; with_reducible exact H) | (have H2_ := (Option.bind_some _ _).symm.trans H; rw [hy468]; with_reducible exact H2_) | (have H2_ := (Option.bind_some _ _).symm.trans H; with_reducible exact H2_) | with_reducible exact H | (rw [hy468]; exact H) | exact H
   have Ny468 := Aside0.mk hy468
   clear hy468
   have H' := Aside0.mk H
   clear H
   go_enter Tryd.func53, Tryd.ntmps53
   go_wp2_with (first | ((with_reducible refine gate_dst (N := 8) rfl ?_); refine Kd.S_makec k41 _ 41 rfl (N := 8) rfl 23 _ _ rfl (l0.length : Int) rfl rfl Tryd.underlying23 (.agg #[(.int .i64 0), (.int .i64 0), (.bool false), (.slice none 0 0), (.bool false), (.slice none 0 0)]) 80 info41 rfl (by decide) (by omega) (ok := fun _ => True) trivial (td) (Nat.le_trans (Nat.mul_le_mul_right _ (td : (l0.length : Int).toNat ≤ 3518437208883)) (by omega)) (Below.refl _ _) (Nat.le_refl _) ?_; intro v469 w4 ho5 hb hg_ hnew_; clear hg_ hnew_; (first | rw [← Ny468.out] at ho5 | (simp only [Int.reduceToNat] at ho5; rw [← Ny468.out] at ho5)); have HO470 := tSl ho5 HB; replace HB := tBs HB hb; clear hb ho5))
   go_loopg [3, 11] k (fun kq v3 v11 w' => ∃ (x3_1 : List (S41)) (x11_1 : Int), v11 = .int .i64 x11_1 ∧ Aside0 (impl_copyRecords.l0 kq x3_1 l0 (l0.length : Int) x11_1 = some r) ∧ Aside0 (kq ≤ k) ∧ Aside0 (Kd.S k41 41 w' w.heap.size (fun _ => True) v3 x3_1) ∧ Aside0 (Below w.heap.size w w'))
   case atStart => exact ⟨(y468), (0), tr, H', ⟨Nat.le_refl _⟩, ⟨tS HO470.out⟩, ⟨zb⟩⟩
   case round =>
    clear H'
    try clear c2; try clear c2b0; try clear c2b1; try clear c3; try clear c3b0; try clear c3b1
    obtain ⟨x3_1, x11_1, rfl, HA, HK1, HO_3, HB⟩ := hrel
    cases gk with
    | zero => exact absurd HA.out (by simp [impl_copyRecords.l0])
    | succ k1 =>
     have H := HA.out
     clear HA
     simp only [impl_copyRecords.l0] at H
     by_cases c6 : x11_1 < (l0.length : Int)
     ·rw [if_pos c6] at H
      have c6b0 : decide (x11_1 < (l0.length : Int)) = true := decide_eq_true c6
      clear c6
      by_cases c7 : 0 ≤ x11_1
      ·rw [if_pos c7] at H
       have c7b0 : decide (0 ≤ x11_1) = true := decide_eq_true c7
       clear c7
       by_cases c8 : x11_1 < (l0.length : Int)
       ·rw [if_pos c8] at H
        have c8b0 : decide (x11_1 < (l0.length : Int)) = true := decide_eq_true c8
        clear c8
        replace H := tbe H
        obtain ⟨⟨t473, t474, t475, t476, t479, t480⟩, A9, H⟩ := H
        dsimp only at H
        by_cases c10 : x3_1.length < 1759218604441
        ·rw [if_pos c10] at H
         have LMc10 := Aside0.mk c10
         clear c10
         obtain ⟨y483, hy483⟩ : ∃ y_ : List (S41), y_ = (x3_1 ++ [(⟨t473, t474, t475, t476, t479, t480⟩ : S41)]) := ⟨_, rfl⟩
         replace H : (impl_copyRecords.l0 k1 y483 l0 (l0.length : Int) (wrap64 (x11_1 + 1))) = some r := by first | (rw [hy483]; with_reducible exact H) | (have H2_ := (Option.bind_some _ _).symm.trans H; rw [hy483]; with_reducible exact H2_) | (have H2_ := (Option.bind_some _ _).symm.trans H; with_reducible exact H2_) | with_reducible exact H | (rw [hy483]; exact H) | exact H
         have Ny483 := Aside0.mk hy483
         clear hy483
         have H' := Aside0.mk H
         clear H
         have p471 : 0 ≤ (x11_1 : Int) := td
         have q471 : x11_1 < (l0.length : Int) := td
         obtain ⟨ad471, A471_3, c471_3, A471_5, c471_5, e471, hx471_0, hx471_1, hx471_2, hx471_3, hx471_4, hx471_5, hl471_3, hi471_3, hl471_5, hi471_5⟩ := at_T41 HR0.out x11_1 p471 q471
         cases e471
         replace hx471_0 := tcl HB hx471_0
         replace hx471_1 := tcl HB hx471_1
         replace hx471_2 := tcl HB hx471_2
         replace hx471_3 := tcl HB hx471_3
         replace hx471_4 := tcl HB hx471_4
         replace hx471_5 := tcl HB hx471_5
         have HR471_3 := Aside0.mk hi471_3
         have HC471_3 := Aside0.mk hl471_3
         clear hi471_3 hl471_3
         have HR471_5 := Aside0.mk hi471_5
         have HC471_5 := Aside0.mk hl471_5
         clear hi471_5 hl471_5
         replace p471 := eq_true p471
         replace q471 := eq_true q471
         go_wp2_with (first | ((with_reducible refine gate_dst (N := 5) rfl ?_); refine box_event ?hg (N := 5) ?hd (cs := #[.int .i64 0, .int .i64 0, .bool false, .slice none 0 0, .bool false, .slice none 0 0]) (t := 41) ?hr ?_; (case hd => rfl); (case hg => rfl); (case hr => first | (go_simp; done) | (go_simp; rfl)); intro gb472 hg w11 hbox hb; replace HO_3 := tSB HO_3 hg hb; have BK472 := Aside0.mk (hbox); have GW472 := tge HB hg; have GE472 := tge HB hg; replace HB := tBs HB hb; clear hb hbox hg; obtain ⟨hcz12_0, hcz12_1, hcz12_2, hcz12_3, hcz12_4, hcz12_5, hfz12_0, hfz12_1, hfz12_2, hfz12_3, hfz12_4, hfz12_5⟩ := cells6 BK472.out) | ((with_reducible refine gate_callee (f := 43) rfl ?_); refine goesL_ (some 17) rfl rfl Tryd.func43 (by kernel_rfl) rfl #[.agg #[.int .i64 ((rd_T41 l0 x11_1).f0), .int .i64 ((rd_T41 l0 x11_1).f1), .bool ((rd_T41 l0 x11_1).f2), .slice A471_3 ((rd_T41 l0 x11_1).f3).length c471_3, .bool ((rd_T41 l0 x11_1).f4), .slice A471_5 ((rd_T41 l0 x11_1).f5).length c471_5]] rfl tq ?_; (with_reducible refine (impl_Record_copyOf.calls ((rd_T41 l0 x11_1).f0) ((rd_T41 l0 x11_1).f1) ((rd_T41 l0 x11_1).f2) _ _ ((rd_T41 l0 x11_1).f3) ((rd_T41 l0 x11_1).f4) _ _ ((rd_T41 l0 x11_1).f5) t473 t474 t475 t476 t479 t480 _ ?side1 ?side2 ?side3 ?side4 A9.out).mono ?_); (case side1 => exact Kd.C_below HR471_3.out zb); (case side2 => exact HC471_3.out); (case side3 => exact Kd.C_below HR471_5.out zb); (case side4 => exact HC471_5.out); rintro e w13 ⟨v477, v481, rfl, ho0, ho1, hb⟩; have u_v477 := tsv Tryd.prog v477 ho0; have u_v481 := tsv Tryd.prog v481 ho1; refine ⟨_, rfl, ?_⟩; replace HO_3 := Aside0.mk (Kd.S_mono (Kd.S_told (Kd.S_told (Kd.S_old (tS HO_3.out) hb) (Kd.R_base ho0)) (Kd.R_base ho1)) (fun _ h_ => h_.1)); have HO478 := tRl ho0 HB; have HO482 := tRl ho1 HB; replace BK472 := tBp (o' := .cells #[.int .i64 ((rd_T41 l0 x11_1).f0), .int .i64 ((rd_T41 l0 x11_1).f1), .bool ((rd_T41 l0 x11_1).f2), .slice A471_3 ((rd_T41 l0 x11_1).f3).length c471_3, .bool ((rd_T41 l0 x11_1).f4), .slice A471_5 ((rd_T41 l0 x11_1).f5).length c471_5] 41 (0, 0)) BK472 hb; replace HB := tBs HB hb; (try clear hb); (try clear hb2); (try clear hk); (try clear hi); (try clear ho0); (try clear ho1); obtain ⟨Ao15, co15, eo15⟩ := Kd.R_slice HO478.out; subst eo15; obtain ⟨Ao16, co16, eo16⟩ := Kd.R_slice HO482.out; subst eo16) | ((with_reducible refine gate_builtin (b := .append) (xs := #[.tmp 15, .tmp 18]) rfl ?_); at_builtin; refine Kd.S_append k41 (w0 := w) w.heap.size rfl (.tmp 15) (.tmp 18) 23 41 (.agg #[(.int .i64 0), (.int .i64 0), (.bool false), (.slice none 0 0), (.bool false), (.slice none 0 0)]) 80 rfl Tryd.underlying23 info41 rfl (by decide) (by omega) u3 x3_1 (⟨t473, t474, t475, t476, t479, t480⟩ : S41) [.int .i64 t473, .int .i64 t474, .bool t475, .slice Ao15 t476.length co15, .bool t479, .slice Ao16 t480.length co16] (fun k_ => k_ ≠ gb472) (fun k_ => some k_ = (.slice Ao15 t476.length co15 : Value).ownBlock ∨ some k_ = (.slice Ao16 t480.length co16 : Value).ownBlock) rfl rfl ?aP (fun k_ hk_ => hk_.elim (fun h_ => ((Kd.R_mono (ok' := fun k_ => ((fun k_ => k_ ≠ gb472)) k_ ∧ some k_ ≠ (u3 : Value).ownBlock) (Kd.R_types (Kd.R_apart' (HO478.out) (Kd.S_typed HO_3.out) (by decide)) BK472.out (by decide)) (fun k_ hk => ⟨hk.2, hk.1.2⟩))).1 k_ h_.symm) (fun h_ => ((Kd.R_mono (ok' := fun k_ => ((fun k_ => k_ ≠ gb472)) k_ ∧ some k_ ≠ (u3 : Value).ownBlock) (Kd.R_types (Kd.R_apart' (HO482.out) (Kd.S_typed HO_3.out) (by decide)) BK472.out (by decide)) (fun k_ hk => ⟨hk.2, hk.1.2⟩))).1 k_ h_.symm)) ?aF ?aO ?aB ?aS ?aL ?_; (case aP => exact k41_mkM _ _ _ (⟨t473, t474, t475, t476, t479, t480⟩ : S41) (Kd.R_mono (Kd.R_tight rfl (Kd.R_mono (ok' := fun k_ => ((fun k_ => k_ ≠ gb472)) k_ ∧ some k_ ≠ (u3 : Value).ownBlock) (Kd.R_types (Kd.R_apart' (HO478.out) (Kd.S_typed HO_3.out) (by decide)) BK472.out (by decide)) (fun k_ hk => ⟨hk.2, hk.1.2⟩))) (fun _ h_ => Or.inl h_)) (Kd.R_mono (Kd.R_tight rfl (Kd.R_mono (ok' := fun k_ => ((fun k_ => k_ ≠ gb472)) k_ ∧ some k_ ≠ (u3 : Value).ownBlock) (Kd.R_types (Kd.R_apart' (HO482.out) (Kd.S_typed HO_3.out) (by decide)) BK472.out (by decide)) (fun k_ hk => ⟨hk.2, hk.1.2⟩))) (fun _ h_ => Or.inr (h_)))); (case aB => exact zb); (case aF => exact (fun k_ hk => tfB BK472 k_ hk)); (case aO => exact (tSm HO_3.out)); (case aS => exact (below_size zb)); (case aL => have := LMc10.out; omega); intro v484 w14 ho hb hg hat; rw [← Ny483.out] at ho; replace BK472 := Aside0.mk (blk_grown (tH BK472.out) hg (Kd.S_away HO_3.out (fun _ hk => hk.1.1.2))); replace HB := Aside0.mk (hb); have HO485 := Aside0.mk (ho); clear HO_3 HO478 HO482; clear ho hb hg hat))
         go_roundg k1
         case measure => have := HK1.out; omega
         case rel => exact ⟨(y483), (wrap64 (x11_1 + 1)), tr, H', ⟨by have := HK1.out; omega⟩, ⟨tSm HO485.out⟩, ⟨zb⟩⟩
        ·rw [if_neg c10] at H
         exact absurd H (by simp)
       ·rw [if_neg c8] at H
        exact absurd H (by simp)
      ·rw [if_neg c7] at H
       exact absurd H (by simp)
     ·rw [if_neg c6] at H
      have c6b0 : decide (x11_1 < (l0.length : Int)) = false := decide_eq_false c6
      clear c6
      obtain rfl := Option.some.inj H
      go_wp2
      go_ret
      exact ⟨_, by first | rfl | (simp [errW_none, errW_some] <;> rfl) | (simp [*, errW_none, errW_some] <;> rfl), tS HO_3.out, zb⟩
  ·rw [if_neg c3] at H
   exact absurd H (by simp)
 ·rw [if_neg c2] at H
  exact absurd H (by simp)

def impl_Batch_copyOf.f (k : Nat) (a0_0 : Bool) (a0_1 : Bool) (a0_2 : Int) (a0_3 : Int) (a0_4 : Int) (l0_5 : List (S41)) : Option (Bool × Bool × Int × Int × Int × (List (S41))) := (impl_copyRecords.f k l0_5).bind fun t488 => (some (a0_0, a0_1, a0_2, a0_3, a0_4, t488))
set_option maxHeartbeats 8000000 in
set_option maxRecDepth 100000 in
theorem impl_Batch_copyOf.calls (k : Nat) (a0_0 : Bool) (a0_1 : Bool) (a0_2 : Int) (a0_3 : Int) (a0_4 : Int) (A0_5 : Option Addr) (c0_5 : Nat) (l0_5 : List (S41)) (r1 : Bool) (r2 : Bool) (r3 : Int) (r4 : Int) (r5 : Int) (r6 : List (S41)) (w : World) (hr0_5 : Kd.C k41 w A0_5 l0_5.length l0_5) (hc0_5 : l0_5.length ≤ c0_5) (h : impl_Batch_copyOf.f k a0_0 a0_1 a0_2 a0_3 a0_4 l0_5 = some (r1, r2, r3, r4, r5, r6)) :
  Calls Tryd.prog 52 #[.agg #[.bool a0_0, .bool a0_1, .int .i64 a0_2, .int .i64 a0_3, .int .i64 a0_4, .slice A0_5 l0_5.length c0_5]] w fun e w' => ∃ v5_ : Value, e = .returned (.agg #[.bool r1, .bool r2, .int .i64 r3, .int .i64 r4, .int .i64 r5, v5_]) ∧ Kd.S k41 41 w' w.heap.size (fun _ => True) v5_ r6 ∧ Below w.heap.size w w' := by
 have hu25 := Tryd.underlying25
 have HR0_5 := Aside0.mk hr0_5
 have HC0_5 := Aside0.mk hc0_5
 clear hr0_5 hc0_5
 have HB := Aside0.mk (Below.refl w.heap.size w)
 have H : ((impl_copyRecords.f k l0_5).bind fun t488 => (some (a0_0, a0_1, a0_2, a0_3, a0_4, t488))) = some (r1, r2, r3, r4, r5, r6) := h
 clear h
 replace H := tbe H
 obtain ⟨t488, A2, H⟩ := H
 simp only [Option.some.injEq, Prod.mk.injEq] at H
 obtain ⟨rfl, rfl, rfl, rfl, rfl, rfl⟩ := H
 go_enter Tryd.func52, Tryd.ntmps52
 go_wp2_with (first | ((with_reducible refine gate_dst (N := 1) rfl ?_); refine box_event ?hg (N := 1) ?hd (cs := #[.bool a0_0, .bool a0_1, .int .i64 a0_2, .int .i64 a0_3, .int .i64 a0_4, .slice A0_5 l0_5.length c0_5]) (t := 25) ?hr ?_; (case hd => rfl); (case hg => rfl); (case hr => first | (go_simp; done) | (go_simp; rfl)); intro gb486 hg w3 hbox hb; have BK486 := Aside0.mk (hbox); have GW486 := tge HB hg; have GE486 := tge HB hg; replace HB := tBs HB hb; clear hb hbox hg) | ((with_reducible refine gate_dst (N := 2) rfl ?_); refine box_event ?hg (N := 2) ?hd (cs := #[.bool false, .bool false, .int .i64 0, .int .i64 0, .int .i64 0, .slice none 0 0]) (t := 25) ?hr ?_; (case hd => rfl); (case hg => rfl); (case hr => first | (go_simp; done) | (go_simp; rfl)); intro gb487 hg w4 hbox hb; have BK487 := Aside0.mk (hbox); have GW487 := tge HB hg; have GE487 := tge HB hg; replace HB := tBs HB hb; have NB486_487 := tlt BK486 hg; have NB487_486 := tgt BK486 hg; replace BK486 := tBb BK486 hb; clear hb hbox hg; have hnb5 := NB486_487.out; have hnc5 := NB487_486.out; obtain ⟨hcz6_0, hcz6_1, hcz6_2, hcz6_3, hcz6_4, hcz6_5, hfz6_0, hfz6_1, hfz6_2, hfz6_3, hfz6_4, hfz6_5⟩ := cells6 BK486.out) | ((with_reducible refine gate_callee (f := 53) rfl ?_); refine goesL_ (some 5) rfl rfl Tryd.func53 (by kernel_rfl) rfl #[.slice A0_5 l0_5.length c0_5] rfl tq ?_; (with_reducible refine (impl_copyRecords.calls k _ _ l0_5 t488 _ ?side1 ?side2 A2.out).mono ?_); (case side1 => exact tC (Kd.C_below HR0_5.out HB.out)); (case side2 => exact HC0_5.out); rintro e w7 ⟨v489, rfl, ho0, hb⟩; have u_v489 := tsv Tryd.prog v489 ho0; refine ⟨_, rfl, ?_⟩; have HO490 := tSl ho0 HB; replace BK486 := tBb BK486 hb; replace BK487 := tBb BK487 hb; replace HB := tBs HB hb; (try clear hb); (try clear hb2); (try clear hk); (try clear hi); (try clear ho0); obtain ⟨Ao8, co8, eo8⟩ := Kd.S_slice HO490.out; subst eo8; obtain ⟨hcz9_0, hcz9_1, hcz9_2, hcz9_3, hcz9_4, hcz9_5, hfz9_0, hfz9_1, hfz9_2, hfz9_3, hfz9_4, hfz9_5⟩ := cells6 BK486.out; obtain ⟨hcz10_0, hcz10_1, hcz10_2, hcz10_3, hcz10_4, hcz10_5, hfz10_0, hfz10_1, hfz10_2, hfz10_3, hfz10_4, hfz10_5⟩ := cells6 BK487.out))
 refine bodyPost_ret (results_cell_row rfl _ _ gb487 25 #[.bool a0_0, .bool a0_1, .int .i64 a0_2, .int .i64 a0_3, .int .i64 a0_4, .slice Ao8 t488.length co8] (0, 0) _ rfl (tP BK487.out) Tryd.underlying25 rfl (by kernel_rfl)) rfl ?_
 exact ⟨_, by first | rfl | (simp [errW_none, errW_some] <;> rfl) | (simp [*, errW_none, errW_some] <;> rfl), tSm (Kd.S_types (Kd.S_types HO490.out BK486.out (by decide)) BK487.out (by decide)), zb⟩

end Go.Proofs.YtahenocndacjeaaDoor.G

namespace Go.Proofs.YtahenocndacjeaaDoor.G
open Go.RowKit Go.Proofs.YtahenocndacjeaaDoorW.PrintWords Go.Proofs.YtahenocndacjeaaDoorW.PrintLast Go.Proofs.YtahenocndacjeaaDoorW.PrintMore
attribute [local go_sem] max2_int min2_int max_two min_two max_three min_three max_four min_four   -- for this text's walks alone
set_option linter.unusedVariables false
set_option linter.unusedSimpArgs false

def impl_Batch_join.j0 : Nat → Bool → Bool → Bool → Int → Int → Int → List (S41) → Bool → Bool → Int → Int → Int → List (S41) → Option (Bool × Bool × Int × Int × Int × (List (S41)) × Option Int)
 | 0, _, _, _, _, _, _, _, _, _, _, _, _, _ => none
 | k + 1, x31, x492000, x492001, x492002, x492003, x492004, x492005, x493000, x493001, x493002, x493003, x493004, x493005 => if x31 = true then (some (false, false, 0, 0, 0, ([] : List (S41)), some 2)) else ((impl_Batch_copyOf.f k x492000 x492001 x492002 x492003 x492004 x492005).bind fun bt496 => ((impl_copyRecords.f k x493005).bind fun t505 => (if bt496.2.2.2.2.2.length + t505.length < 1759218604441 then ((some (bt496.2.2.2.2.2 ++ t505 : List (S41))).bind fun y508 => ((impl_BatchValid.f k bt496.1 bt496.2.1 bt496.2.2.1 bt496.2.2.2.1 bt496.2.2.2.2.1 y508).bind fun t511 => (if t511 = true then (some (bt496.1, bt496.2.1, bt496.2.2.1, bt496.2.2.2.1, bt496.2.2.2.2.1, y508, none)) else (some (false, false, 0, 0, 0, ([] : List (S41)), some 2))))) else (none))))
def impl_Batch_join.f (k : Nat) (a0_0 : Bool) (a0_1 : Bool) (a0_2 : Int) (a0_3 : Int) (a0_4 : Int) (l0_5 : List (S41)) (a1_0 : Bool) (a1_1 : Bool) (a1_2 : Int) (a1_3 : Int) (a1_4 : Int) (l1_5 : List (S41)) : Option (Bool × Bool × Int × Int × Int × (List (S41)) × Option Int) := (impl_BatchValid.f k a0_0 a0_1 a0_2 a0_3 a0_4 l0_5).bind fun t494 => (if t494 = true then ((impl_BatchValid.f k a1_0 a1_1 a1_2 a1_3 a1_4 l1_5).bind fun t495 => (if t495 = true then (if a0_2 = 255 then (if a1_2 = 255 then (impl_Batch_join.j0 k (a0_0 != a1_0) a0_0 a0_1 a0_2 a0_3 a0_4 l0_5 a1_0 a1_1 a1_2 a1_3 a1_4 l1_5) else (impl_Batch_join.j0 k true a0_0 a0_1 a0_2 a0_3 a0_4 l0_5 a1_0 a1_1 a1_2 a1_3 a1_4 l1_5)) else (impl_Batch_join.j0 k true a0_0 a0_1 a0_2 a0_3 a0_4 l0_5 a1_0 a1_1 a1_2 a1_3 a1_4 l1_5)) else (impl_Batch_join.j0 k true a0_0 a0_1 a0_2 a0_3 a0_4 l0_5 a1_0 a1_1 a1_2 a1_3 a1_4 l1_5))) else (impl_Batch_join.j0 k true a0_0 a0_1 a0_2 a0_3 a0_4 l0_5 a1_0 a1_1 a1_2 a1_3 a1_4 l1_5))
def impl_Batch_join.T4 : Bool × List (List Nat × List Nat) := (true, [([], []), ([0], [0]), ([], []), ([2], [2]), ([3], [3]), ([1, 4, 4], [1, 4]), ([0, 1, 2, 3, 4, 5], []), ([6, 5, 5, 0, 1, 2, 3, 4, 5], [5, 6])])
def impl_Batch_join.B4 : List Nat := [0, 1, 0, 4, 12, 31, 63, 127]
theorem impl_Batch_join.tab4 : rtab .any (opsOf Tryd.f36 4) = impl_Batch_join.T4 := by kernel_rfl
theorem impl_Batch_join.bits4 : waitsOk impl_Batch_join.T4.2 impl_Batch_join.B4 = true := by kernel_rfl
set_option maxHeartbeats 40000000 in
set_option maxRecDepth 100000 in
theorem impl_Batch_join.calls [ErrA] (k : Nat) (a0_0 : Bool) (a0_1 : Bool) (a0_2 : Int) (a0_3 : Int) (a0_4 : Int) (A0_5 : Option Addr) (c0_5 : Nat) (l0_5 : List (S41)) (a1_0 : Bool) (a1_1 : Bool) (a1_2 : Int) (a1_3 : Int) (a1_4 : Int) (A1_5 : Option Addr) (c1_5 : Nat) (l1_5 : List (S41)) (r1 : Bool) (r2 : Bool) (r3 : Int) (r4 : Int) (r5 : Int) (r6 : List (S41)) (r7 : Option Int) (w : World) (hE : ErrOk [1] w) (hr0_5 : Kd.C k41 w A0_5 l0_5.length l0_5) (hc0_5 : l0_5.length ≤ c0_5) (hr1_5 : Kd.C k41 w A1_5 l1_5.length l1_5) (hc1_5 : l1_5.length ≤ c1_5) (h : impl_Batch_join.f k a0_0 a0_1 a0_2 a0_3 a0_4 l0_5 a1_0 a1_1 a1_2 a1_3 a1_4 l1_5 = some (r1, r2, r3, r4, r5, r6, r7)) :
  Calls Tryd.prog 36 #[.agg #[.bool a0_0, .bool a0_1, .int .i64 a0_2, .int .i64 a0_3, .int .i64 a0_4, .slice A0_5 l0_5.length c0_5], .agg #[.bool a1_0, .bool a1_1, .int .i64 a1_2, .int .i64 a1_3, .int .i64 a1_4, .slice A1_5 l1_5.length c1_5]] w fun e w' => ∃ v5_ : Value, e = .returned (.tuple #[.agg #[.bool r1, .bool r2, .int .i64 r3, .int .i64 r4, .int .i64 r5, v5_], errW r7]) ∧ Kd.N k41 41 w' w.heap.size (fun k_ => (w.heap.size ≤ k_)) v5_ r6 ∧ Below w.heap.size w w' := by
 have HE := Aside0.mk hE
 clear hE
 have hu25 := Tryd.underlying25
 have HR0_5 := Aside0.mk hr0_5
 have HC0_5 := Aside0.mk hc0_5
 clear hr0_5 hc0_5
 have HR1_5 := Aside0.mk hr1_5
 have HC1_5 := Aside0.mk hc1_5
 clear hr1_5 hc1_5
 have HB := Aside0.mk (Below.refl w.heap.size w)
 have H : ((impl_BatchValid.f k a0_0 a0_1 a0_2 a0_3 a0_4 l0_5).bind fun t494 => (if t494 = true then ((impl_BatchValid.f k a1_0 a1_1 a1_2 a1_3 a1_4 l1_5).bind fun t495 => (if t495 = true then (if a0_2 = 255 then (if a1_2 = 255 then (impl_Batch_join.j0 k (a0_0 != a1_0) a0_0 a0_1 a0_2 a0_3 a0_4 l0_5 a1_0 a1_1 a1_2 a1_3 a1_4 l1_5) else (impl_Batch_join.j0 k true a0_0 a0_1 a0_2 a0_3 a0_4 l0_5 a1_0 a1_1 a1_2 a1_3 a1_4 l1_5)) else (impl_Batch_join.j0 k true a0_0 a0_1 a0_2 a0_3 a0_4 l0_5 a1_0 a1_1 a1_2 a1_3 a1_4 l1_5)) else (impl_Batch_join.j0 k true a0_0 a0_1 a0_2 a0_3 a0_4 l0_5 a1_0 a1_1 a1_2 a1_3 a1_4 l1_5))) else (impl_Batch_join.j0 k true a0_0 a0_1 a0_2 a0_3 a0_4 l0_5 a1_0 a1_1 a1_2 a1_3 a1_4 l1_5))) = some (r1, r2, r3, r4, r5, r6, r7) := h
 clear h
 have HC3 := Aside0.mk H
 clear H
 go_enter Tryd.func36, Tryd.ntmps36
 go_upto_region 1 with (first | ((with_reducible refine gate_dst (N := 2) rfl ?_); refine box_event ?hg (N := 2) ?hd (cs := #[.bool a0_0, .bool a0_1, .int .i64 a0_2, .int .i64 a0_3, .int .i64 a0_4, .slice A0_5 l0_5.length c0_5]) (t := 25) ?hr ?_; (case hd => rfl); (case hg => rfl); (case hr => first | (go_simp; done) | (go_simp; rfl)); intro gb491 hg w4 hbox hb; have BK491 := Aside0.mk (hbox); have GW491 := tge HB hg; have GE491 := tge HB hg; replace HB := tBs HB hb; clear hb hbox hg) | ((with_reducible refine gate_dst (N := 3) rfl ?_); refine box_event ?hg (N := 3) ?hd (cs := #[.bool a1_0, .bool a1_1, .int .i64 a1_2, .int .i64 a1_3, .int .i64 a1_4, .slice A1_5 l1_5.length c1_5]) (t := 25) ?hr ?_; (case hd => rfl); (case hg => rfl); (case hr => first | (go_simp; done) | (go_simp; rfl)); intro gb492 hg w5 hbox hb; have BK492 := Aside0.mk (hbox); have GW492 := tge HB hg; have GE492 := tge HB hg; replace HB := tBs HB hb; have NB491_492 := tlt BK491 hg; have NB492_491 := tgt BK491 hg; replace BK491 := tBb BK491 hb; clear hb hbox hg) | ((with_reducible refine gate_dst (N := 4) rfl ?_); refine box_event ?hg (N := 4) ?hd (cs := #[.bool false, .bool false, .int .i64 0, .int .i64 0, .int .i64 0, .slice none 0 0]) (t := 25) ?hr ?_; (case hd => rfl); (case hg => rfl); (case hr => first | (go_simp; done) | (go_simp; rfl)); intro gb493 hg w6 hbox hb; have BK493 := Aside0.mk (hbox); have GW493 := tge HB hg; have GE493 := tge HB hg; replace HB := tBs HB hb; have NB491_493 := tlt BK491 hg; have NB493_491 := tgt BK491 hg; replace BK491 := tBb BK491 hb; have NB492_493 := tlt BK492 hg; have NB493_492 := tgt BK492 hg; replace BK492 := tBb BK492 hb; clear hb hbox hg))
 (try simp only [Act.put, List.setIfInBounds_toArray, List.set_cons_zero, List.set_cons_succ])
 go_cut [31] (fun v31 wc => ∃ (kq : Nat) (x31_2 : Bool), v31 = .bool x31_2 ∧ Aside0 (impl_Batch_join.j0 kq x31_2 a0_0 a0_1 a0_2 a0_3 a0_4 l0_5 a1_0 a1_1 a1_2 a1_3 a1_4 l1_5 = some (r1, r2, r3, r4, r5, r6, r7)) ∧ Aside0 (kq ≤ k) ∧ Aside0 (wc.heap[gb491]? = some (.cells #[.bool a0_0, .bool a0_1, .int .i64 a0_2, .int .i64 a0_3, .int .i64 a0_4, (.slice A0_5 l0_5.length c0_5)] 25 (0, 0))) ∧ Aside0 (wc.heap[gb492]? = some (.cells #[.bool a1_0, .bool a1_1, .int .i64 a1_2, .int .i64 a1_3, .int .i64 a1_4, (.slice A1_5 l1_5.length c1_5)] 25 (0, 0))) ∧ Aside0 (wc.heap[gb493]? = some (.cells #[.bool false, .bool false, .int .i64 0, .int .i64 0, .int .i64 0, (.slice none 0 0)] 25 (0, 0))) ∧ Aside0 (Below w.heap.size w wc))
 case first =>
  have H := HC3.out
  clear HC3
  replace H := tbe H
  obtain ⟨t494, A7, H⟩ := H
  by_cases c8 : t494 = true
  ·subst c8
   rw [if_pos rfl] at H
   replace H := tbe H
   obtain ⟨t495, A9, H⟩ := H
   by_cases c10 : t495 = true
   ·subst c10
    rw [if_pos rfl] at H
    by_cases c11 : a0_2 = 255
    ·rw [if_pos c11] at H
     have c11b0 : (a0_2 == 255) = true := beq_iff_eq.mpr c11
     have c11b1 : (a0_2 != 255) = false := bne_eq_false_iff_eq.mpr c11
     clear c11
     (first | rw [c11b0] | (simp only [i64_w, i32_w]; rw [c11b0]) | skip)
     by_cases c12 : a1_2 = 255
     ·rw [if_pos c12] at H
      have c12b0 : (a1_2 == 255) = true := beq_iff_eq.mpr c12
      have c12b1 : (a1_2 != 255) = false := bne_eq_false_iff_eq.mpr c12
      clear c12
      have H' := Aside0.mk H
      clear H
      have hnb13 := NB491_492.out
      have hnc13 := NB492_491.out
      have hnb14 := NB491_493.out
      have hnc14 := NB493_491.out
      obtain ⟨hcz15_0, hcz15_1, hcz15_2, hcz15_3, hcz15_4, hcz15_5, hfz15_0, hfz15_1, hfz15_2, hfz15_3, hfz15_4, hfz15_5⟩ := cells6 BK491.out
      go_wp2_with (first | ((with_reducible refine gate_dst (N := 47) rfl ?_); refine glob_ rfl (v := .iface 106 (.pointer (some (ErrA.errA 2)))) (g := 1) ?hr ?hc ?_; (case hc => exact ErrOk.g1 (ErrOk.below HE.out zb) (by decide)); (case hr => intro W_ hc_; go_simp)) | ((with_reducible refine gate_dst (N := 33) rfl ?_); refine glob_ rfl (v := .iface 106 (.pointer (some (ErrA.errA 2)))) (g := 1) ?hr ?hc ?_; (case hc => exact ErrOk.g1 (ErrOk.below HE.out zb) (by decide)); (case hr => intro W_ hc_; go_simp)) | ((with_reducible refine gate_callee (f := 13) rfl ?_); refine goesL_ (some 8) rfl rfl Tryd.func13 (by kernel_rfl) rfl #[.agg #[.bool a0_0, .bool a0_1, .int .i64 a0_2, .int .i64 a0_3, .int .i64 a0_4, .slice A0_5 l0_5.length c0_5]] rfl tq ?_; (with_reducible refine (impl_BatchValid.calls k a0_0 a0_1 a0_2 a0_3 a0_4 _ _ l0_5 true _ ?side1 ?side2 A7.out).mono ?_); (case side1 => exact tC (Kd.C_below HR0_5.out HB.out)); (case side2 => exact HC0_5.out); rintro e w16 ⟨rfl, hb⟩; refine ⟨_, rfl, ?_⟩; replace BK491 := tBb BK491 hb; replace BK492 := tBb BK492 hb; replace BK493 := tBb BK493 hb; replace HB := tBs HB hb; (try clear hb); (try clear hb2); (try clear hk); (try clear hi); have hnb17 := NB492_493.out; have hnc17 := NB493_492.out; obtain ⟨hcz18_0, hcz18_1, hcz18_2, hcz18_3, hcz18_4, hcz18_5, hfz18_0, hfz18_1, hfz18_2, hfz18_3, hfz18_4, hfz18_5⟩ := cells6 BK492.out) | (go_at_call 13; (with_reducible refine (impl_BatchValid.calls k a1_0 a1_1 a1_2 a1_3 a1_4 _ _ l1_5 true _ ?side1 ?side2 A9.out).mono ?_); (case side1 => exact tC (Kd.C_below HR1_5.out HB.out)); (case side2 => exact HC1_5.out); rintro e w19 ⟨rfl, hb⟩; replace BK491 := tBb BK491 hb; replace BK492 := tBb BK492 hb; replace BK493 := tBb BK493 hb; replace HB := tBs HB hb; (try clear hb); (try clear hb2); (try clear hk); (try clear hi); obtain ⟨hcz20_0, hcz20_1, hcz20_2, hcz20_3, hcz20_4, hcz20_5, hfz20_0, hfz20_1, hfz20_2, hfz20_3, hfz20_4, hfz20_5⟩ := cells6 BK491.out; obtain ⟨hcz21_0, hcz21_1, hcz21_2, hcz21_3, hcz21_4, hcz21_5, hfz21_0, hfz21_1, hfz21_2, hfz21_3, hfz21_4, hfz21_5⟩ := cells6 BK492.out))
      go_meet
      case rel => exact ⟨_, ((a0_0 != a1_0)), tr, H', ⟨by first | omega | exact Nat.le_refl _⟩, ⟨tH BK491.out⟩, ⟨tH BK492.out⟩, ⟨tH BK493.out⟩, ⟨zb⟩⟩
     ·rw [if_neg c12] at H
      have c12b0 : (a1_2 == 255) = false := beq_eq_false_iff_ne.mpr c12
      have c12b1 : (a1_2 != 255) = true := bne_iff_ne.mpr c12
      have H' := Aside0.mk H
      clear H
      have hnb22 := NB491_492.out
      have hnc22 := NB492_491.out
      have hnb23 := NB491_493.out
      have hnc23 := NB493_491.out
      obtain ⟨hcz24_0, hcz24_1, hcz24_2, hcz24_3, hcz24_4, hcz24_5, hfz24_0, hfz24_1, hfz24_2, hfz24_3, hfz24_4, hfz24_5⟩ := cells6 BK491.out
      go_wp2_with (first | ((with_reducible refine gate_dst (N := 47) rfl ?_); refine glob_ rfl (v := .iface 106 (.pointer (some (ErrA.errA 2)))) (g := 1) ?hr ?hc ?_; (case hc => exact ErrOk.g1 (ErrOk.below HE.out zb) (by decide)); (case hr => intro W_ hc_; go_simp)) | ((with_reducible refine gate_dst (N := 33) rfl ?_); refine glob_ rfl (v := .iface 106 (.pointer (some (ErrA.errA 2)))) (g := 1) ?hr ?hc ?_; (case hc => exact ErrOk.g1 (ErrOk.below HE.out zb) (by decide)); (case hr => intro W_ hc_; go_simp)) | ((with_reducible refine gate_callee (f := 13) rfl ?_); refine goesL_ (some 8) rfl rfl Tryd.func13 (by kernel_rfl) rfl #[.agg #[.bool a0_0, .bool a0_1, .int .i64 a0_2, .int .i64 a0_3, .int .i64 a0_4, .slice A0_5 l0_5.length c0_5]] rfl tq ?_; (with_reducible refine (impl_BatchValid.calls k a0_0 a0_1 a0_2 a0_3 a0_4 _ _ l0_5 true _ ?side1 ?side2 A7.out).mono ?_); (case side1 => exact tC (Kd.C_below HR0_5.out HB.out)); (case side2 => exact HC0_5.out); rintro e w25 ⟨rfl, hb⟩; refine ⟨_, rfl, ?_⟩; replace BK491 := tBb BK491 hb; replace BK492 := tBb BK492 hb; replace BK493 := tBb BK493 hb; replace HB := tBs HB hb; (try clear hb); (try clear hb2); (try clear hk); (try clear hi); have hnb26 := NB492_493.out; have hnc26 := NB493_492.out; obtain ⟨hcz27_0, hcz27_1, hcz27_2, hcz27_3, hcz27_4, hcz27_5, hfz27_0, hfz27_1, hfz27_2, hfz27_3, hfz27_4, hfz27_5⟩ := cells6 BK492.out) | (go_at_call 13; (with_reducible refine (impl_BatchValid.calls k a1_0 a1_1 a1_2 a1_3 a1_4 _ _ l1_5 true _ ?side1 ?side2 A9.out).mono ?_); (case side1 => exact tC (Kd.C_below HR1_5.out HB.out)); (case side2 => exact HC1_5.out); rintro e w28 ⟨rfl, hb⟩; replace BK491 := tBb BK491 hb; replace BK492 := tBb BK492 hb; replace BK493 := tBb BK493 hb; replace HB := tBs HB hb; (try clear hb); (try clear hb2); (try clear hk); (try clear hi); obtain ⟨hcz29_0, hcz29_1, hcz29_2, hcz29_3, hcz29_4, hcz29_5, hfz29_0, hfz29_1, hfz29_2, hfz29_3, hfz29_4, hfz29_5⟩ := cells6 BK491.out; obtain ⟨hcz30_0, hcz30_1, hcz30_2, hcz30_3, hcz30_4, hcz30_5, hfz30_0, hfz30_1, hfz30_2, hfz30_3, hfz30_4, hfz30_5⟩ := cells6 BK492.out))
      go_meet
      case rel => exact ⟨_, (true), tr, H', ⟨by first | omega | exact Nat.le_refl _⟩, ⟨tH BK491.out⟩, ⟨tH BK492.out⟩, ⟨tH BK493.out⟩, ⟨zb⟩⟩
    ·rw [if_neg c11] at H
     have c11b0 : (a0_2 == 255) = false := beq_eq_false_iff_ne.mpr c11
     have c11b1 : (a0_2 != 255) = true := bne_iff_ne.mpr c11
     (first | rw [c11b0] | (simp only [i64_w, i32_w]; rw [c11b0]) | skip)
     have H' := Aside0.mk H
     clear H
     have hnb31 := NB491_492.out
     have hnc31 := NB492_491.out
     have hnb32 := NB491_493.out
     have hnc32 := NB493_491.out
     obtain ⟨hcz33_0, hcz33_1, hcz33_2, hcz33_3, hcz33_4, hcz33_5, hfz33_0, hfz33_1, hfz33_2, hfz33_3, hfz33_4, hfz33_5⟩ := cells6 BK491.out
     go_wp2_with (first | ((with_reducible refine gate_dst (N := 47) rfl ?_); refine glob_ rfl (v := .iface 106 (.pointer (some (ErrA.errA 2)))) (g := 1) ?hr ?hc ?_; (case hc => exact ErrOk.g1 (ErrOk.below HE.out zb) (by decide)); (case hr => intro W_ hc_; go_simp)) | ((with_reducible refine gate_dst (N := 33) rfl ?_); refine glob_ rfl (v := .iface 106 (.pointer (some (ErrA.errA 2)))) (g := 1) ?hr ?hc ?_; (case hc => exact ErrOk.g1 (ErrOk.below HE.out zb) (by decide)); (case hr => intro W_ hc_; go_simp)) | ((with_reducible refine gate_callee (f := 13) rfl ?_); refine goesL_ (some 8) rfl rfl Tryd.func13 (by kernel_rfl) rfl #[.agg #[.bool a0_0, .bool a0_1, .int .i64 a0_2, .int .i64 a0_3, .int .i64 a0_4, .slice A0_5 l0_5.length c0_5]] rfl tq ?_; (with_reducible refine (impl_BatchValid.calls k a0_0 a0_1 a0_2 a0_3 a0_4 _ _ l0_5 true _ ?side1 ?side2 A7.out).mono ?_); (case side1 => exact tC (Kd.C_below HR0_5.out HB.out)); (case side2 => exact HC0_5.out); rintro e w34 ⟨rfl, hb⟩; refine ⟨_, rfl, ?_⟩; replace BK491 := tBb BK491 hb; replace BK492 := tBb BK492 hb; replace BK493 := tBb BK493 hb; replace HB := tBs HB hb; (try clear hb); (try clear hb2); (try clear hk); (try clear hi); have hnb35 := NB492_493.out; have hnc35 := NB493_492.out; obtain ⟨hcz36_0, hcz36_1, hcz36_2, hcz36_3, hcz36_4, hcz36_5, hfz36_0, hfz36_1, hfz36_2, hfz36_3, hfz36_4, hfz36_5⟩ := cells6 BK492.out) | (go_at_call 13; (with_reducible refine (impl_BatchValid.calls k a1_0 a1_1 a1_2 a1_3 a1_4 _ _ l1_5 true _ ?side1 ?side2 A9.out).mono ?_); (case side1 => exact tC (Kd.C_below HR1_5.out HB.out)); (case side2 => exact HC1_5.out); rintro e w37 ⟨rfl, hb⟩; replace BK491 := tBb BK491 hb; replace BK492 := tBb BK492 hb; replace BK493 := tBb BK493 hb; replace HB := tBs HB hb; (try clear hb); (try clear hb2); (try clear hk); (try clear hi); obtain ⟨hcz38_0, hcz38_1, hcz38_2, hcz38_3, hcz38_4, hcz38_5, hfz38_0, hfz38_1, hfz38_2, hfz38_3, hfz38_4, hfz38_5⟩ := cells6 BK491.out))
     go_meet
     case rel => exact ⟨_, (true), tr, H', ⟨by first | omega | exact Nat.le_refl _⟩, ⟨tH BK491.out⟩, ⟨tH BK492.out⟩, ⟨tH BK493.out⟩, ⟨zb⟩⟩
   ·replace c10 := Bool.eq_false_iff.mpr c10
    subst c10
    rw [if_neg (show ¬ (false = true) by decide)] at H
    have H' := Aside0.mk H
    clear H
    have hnb39 := NB491_492.out
    have hnc39 := NB492_491.out
    have hnb40 := NB491_493.out
    have hnc40 := NB493_491.out
    obtain ⟨hcz41_0, hcz41_1, hcz41_2, hcz41_3, hcz41_4, hcz41_5, hfz41_0, hfz41_1, hfz41_2, hfz41_3, hfz41_4, hfz41_5⟩ := cells6 BK491.out
    go_wp2_with (first | ((with_reducible refine gate_dst (N := 47) rfl ?_); refine glob_ rfl (v := .iface 106 (.pointer (some (ErrA.errA 2)))) (g := 1) ?hr ?hc ?_; (case hc => exact ErrOk.g1 (ErrOk.below HE.out zb) (by decide)); (case hr => intro W_ hc_; go_simp)) | ((with_reducible refine gate_dst (N := 33) rfl ?_); refine glob_ rfl (v := .iface 106 (.pointer (some (ErrA.errA 2)))) (g := 1) ?hr ?hc ?_; (case hc => exact ErrOk.g1 (ErrOk.below HE.out zb) (by decide)); (case hr => intro W_ hc_; go_simp)) | ((with_reducible refine gate_callee (f := 13) rfl ?_); refine goesL_ (some 8) rfl rfl Tryd.func13 (by kernel_rfl) rfl #[.agg #[.bool a0_0, .bool a0_1, .int .i64 a0_2, .int .i64 a0_3, .int .i64 a0_4, .slice A0_5 l0_5.length c0_5]] rfl tq ?_; (with_reducible refine (impl_BatchValid.calls k a0_0 a0_1 a0_2 a0_3 a0_4 _ _ l0_5 true _ ?side1 ?side2 A7.out).mono ?_); (case side1 => exact tC (Kd.C_below HR0_5.out HB.out)); (case side2 => exact HC0_5.out); rintro e w42 ⟨rfl, hb⟩; refine ⟨_, rfl, ?_⟩; replace BK491 := tBb BK491 hb; replace BK492 := tBb BK492 hb; replace BK493 := tBb BK493 hb; replace HB := tBs HB hb; (try clear hb); (try clear hb2); (try clear hk); (try clear hi); have hnb43 := NB492_493.out; have hnc43 := NB493_492.out; obtain ⟨hcz44_0, hcz44_1, hcz44_2, hcz44_3, hcz44_4, hcz44_5, hfz44_0, hfz44_1, hfz44_2, hfz44_3, hfz44_4, hfz44_5⟩ := cells6 BK492.out) | (go_at_call 13; (with_reducible refine (impl_BatchValid.calls k a1_0 a1_1 a1_2 a1_3 a1_4 _ _ l1_5 false _ ?side1 ?side2 A9.out).mono ?_); (case side1 => exact tC (Kd.C_below HR1_5.out HB.out)); (case side2 => exact HC1_5.out); rintro e w45 ⟨rfl, hb⟩; replace BK491 := tBb BK491 hb; replace BK492 := tBb BK492 hb; replace BK493 := tBb BK493 hb; replace HB := tBs HB hb; (try clear hb); (try clear hb2); (try clear hk); (try clear hi)))
    go_meet
    case rel => exact ⟨_, (true), tr, H', ⟨by first | omega | exact Nat.le_refl _⟩, ⟨tH BK491.out⟩, ⟨tH BK492.out⟩, ⟨tH BK493.out⟩, ⟨zb⟩⟩
  ·replace c8 := Bool.eq_false_iff.mpr c8
   subst c8
   rw [if_neg (show ¬ (false = true) by decide)] at H
   have H' := Aside0.mk H
   clear H
   have hnb46 := NB491_492.out
   have hnc46 := NB492_491.out
   have hnb47 := NB491_493.out
   have hnc47 := NB493_491.out
   obtain ⟨hcz48_0, hcz48_1, hcz48_2, hcz48_3, hcz48_4, hcz48_5, hfz48_0, hfz48_1, hfz48_2, hfz48_3, hfz48_4, hfz48_5⟩ := cells6 BK491.out
   go_wp2_with (first | ((with_reducible refine gate_dst (N := 47) rfl ?_); refine glob_ rfl (v := .iface 106 (.pointer (some (ErrA.errA 2)))) (g := 1) ?hr ?hc ?_; (case hc => exact ErrOk.g1 (ErrOk.below HE.out zb) (by decide)); (case hr => intro W_ hc_; go_simp)) | ((with_reducible refine gate_dst (N := 33) rfl ?_); refine glob_ rfl (v := .iface 106 (.pointer (some (ErrA.errA 2)))) (g := 1) ?hr ?hc ?_; (case hc => exact ErrOk.g1 (ErrOk.below HE.out zb) (by decide)); (case hr => intro W_ hc_; go_simp)) | ((with_reducible refine gate_callee (f := 13) rfl ?_); refine goesL_ (some 8) rfl rfl Tryd.func13 (by kernel_rfl) rfl #[.agg #[.bool a0_0, .bool a0_1, .int .i64 a0_2, .int .i64 a0_3, .int .i64 a0_4, .slice A0_5 l0_5.length c0_5]] rfl tq ?_; (with_reducible refine (impl_BatchValid.calls k a0_0 a0_1 a0_2 a0_3 a0_4 _ _ l0_5 false _ ?side1 ?side2 A7.out).mono ?_); (case side1 => exact tC (Kd.C_below HR0_5.out HB.out)); (case side2 => exact HC0_5.out); rintro e w49 ⟨rfl, hb⟩; refine ⟨_, rfl, ?_⟩; replace BK491 := tBb BK491 hb; replace BK492 := tBb BK492 hb; replace BK493 := tBb BK493 hb; replace HB := tBs HB hb; (try clear hb); (try clear hb2); (try clear hk); (try clear hi)))
   go_meet
   case rel => exact ⟨_, (true), tr, H', ⟨by first | omega | exact Nat.le_refl _⟩, ⟨tH BK491.out⟩, ⟨tH BK492.out⟩, ⟨tH BK493.out⟩, ⟨zb⟩⟩
 case rest =>
  clear HC3
  obtain ⟨kq, x31_2, rfl, HA, HJ2, BK491, BK492, BK493, HB⟩ := hcut
  cases kq with
  | zero => exact absurd HA.out (by simp [impl_Batch_join.j0])
  | succ kj2 =>
   have H := HA.out
   clear HA
   simp only [impl_Batch_join.j0] at H
   by_cases c50 : x31_2 = true
   ·subst c50
    rw [if_pos rfl] at H
    simp only [Option.some.injEq, Prod.mk.injEq] at H
    obtain ⟨rfl, rfl, rfl, rfl, rfl, rfl, rfl⟩ := H
    try go_wp2
    replace BK491 := Aside0.mk (blk_drew BK491.out)
    replace BK492 := Aside0.mk (blk_drew BK492.out)
    replace BK493 := Aside0.mk (blk_drew BK493.out)
    replace HB := Aside0.mk (below_drew1 HB.out)
    refine start_ (n := 4) (S := ErrOk [1]) (ds := []) #[false, false, false, false] (by kernel_rfl) rfl rfl (ErrOk.below HE.out HB.out) (fun hHeld => ?_)
    generalize wc.drew = w51 at BK491 BK492 BK493 HB hHeld ⊢
    refine pure_ (i := 0) (N := some 32) (v := ?_) (a' := ?_) #[true, false, false, false] rfl rfl (by kernel_rfl) (fun _ _ _ h => h) (Or.inl ⟨by rfl, ?_⟩) ?_ ?_
    rotate_left
    ·intro w'
     go_simp
     with_reducible rfl
    rotate_left
    ·simp only [Act.put, List.setIfInBounds_toArray, List.set_cons_zero, List.set_cons_succ, i64_w, i32_w]
     rfl
    refine take_ (i := 1) (N := some 33) (v := ?_) (a' := ?_) #[true, true, false, false] rfl rfl (by kernel_rfl) (fun _ _ _ h => h) (Or.inl ⟨by rfl, ?_⟩) hHeld ?_ ?_
    rotate_left
    ·intro w' hS_
     try have hg0_ := ErrOk.g0 hS_ (by decide)
     try have hg1_ := ErrOk.g1 hS_ (by decide)
     clear hS_
     go_simp
     with_reducible rfl
    rotate_left
    ·simp only [Act.put, List.setIfInBounds_toArray, List.set_cons_zero, List.set_cons_succ, i64_w, i32_w]
     rfl
    refine one_ (i := 2) (N := none) #[true, true, true, false] rfl rfl (by kernel_rfl) (by decide) (fun K hK => ?_)
    have hs52 : w51.cell? ⟨gb493, 0, none⟩ = some (.bool false) := (blk_cell BK493.out 0).trans rfl
    have hfs52 := blk_frozen BK493.out 0
    have hns52_0 := NB491_493.out
    have hns52_1 := NB492_493.out
    have hms52_0 := NB493_491.out
    have hms52_1 := NB493_492.out
    have hs53 : w51.cell? ⟨gb493, 1, none⟩ = some (.bool false) := (blk_cell BK493.out 1).trans rfl
    have hfs53 := blk_frozen BK493.out 1
    have hs54 : w51.cell? ⟨gb493, 2, none⟩ = some (.int .i64 0) := (blk_cell BK493.out 2).trans rfl
    have hfs54 := blk_frozen BK493.out 2
    have hs55 : w51.cell? ⟨gb493, 3, none⟩ = some (.int .i64 0) := (blk_cell BK493.out 3).trans rfl
    have hfs55 := blk_frozen BK493.out 3
    have hs56 : w51.cell? ⟨gb493, 4, none⟩ = some (.int .i64 0) := (blk_cell BK493.out 4).trans rfl
    have hfs56 := blk_frozen BK493.out 4
    have hs57 : w51.cell? ⟨gb493, 5, none⟩ = some (.slice none 0 0) := (blk_cell BK493.out 5).trans rfl
    have hfs57 := blk_frozen BK493.out 5
    refine tsk ?_
    refine hK.out _ _ (by repeat (first | (with_reducible exact hHeld) | (with_reducible refine ErrOk.set HE.out ?_ (by with_reducible first | exact GE491.out | exact GE492.out | exact GE493.out | exact GE504.out) _ _))) (fun hHeld => ?_)
    clear hK K
    refine pure_ (i := 3) (N := some 5) (v := ?_) (a' := ?_) #[true, true, true, true] rfl rfl (by kernel_rfl) (fun _ _ _ h => h) (Or.inl ⟨by rfl, ?_⟩) ?_ ?_
    rotate_left
    ·intro w'
     go_simp
     with_reducible rfl
    rotate_left
    ·simp only [Act.put, List.setIfInBounds_toArray, List.set_cons_zero, List.set_cons_succ, i64_w, i32_w]
     rfl
    refine done_ (by kernel_rfl) ?_
    try go_wp2
    refine bodyPost_ret (results_ct rfl _ _ gb493 25 #[.bool false, .bool false, .int .i64 0, .int .i64 0, .int .i64 0, .slice none 0 0] (0, 0) _ rfl (tP BK493.out) Tryd.underlying25 rfl (by kernel_rfl)) rfl ?_
    exact ⟨_, by first | rfl | (simp [errW_none, errW_some] <;> rfl) | (simp [*, errW_none, errW_some] <;> rfl), by first | exact Kd.S_nil _ _ _ _ _ | exact Kd.N_nil _ _ _ _ _ | exact Kd.V_nil _ _ _ _ _ | exact Kd.Q_nil _ _ _ _ _ | exact Kd.R_nil _ _ _ _ _, zb⟩
   ·replace c50 := Bool.eq_false_iff.mpr c50
    subst c50
    rw [if_neg (show ¬ (false = true) by decide)] at H
    replace H := tbe H
    obtain ⟨⟨t496, t497, t498, t499, t500, t501⟩, A58, H⟩ := H
    dsimp only at H
    replace H := tbe H
    obtain ⟨t505, A59, H⟩ := H
    by_cases c60 : t501.length + t505.length < 1759218604441
    ·rw [if_pos c60] at H
     have LMc60 := Aside0.mk c60
     clear c60
     obtain ⟨y508, hy508⟩ : ∃ y_ : List (S41), y_ = (t501 ++ t505) := ⟨_, rfl⟩
     replace H : ((impl_BatchValid.f kj2 t496 t497 t498 t499 t500 y508).bind fun t511 => (if t511 = true then (some (t496, t497, t498, t499, t500, y508, none)) else (some (false, false, 0, 0, 0, ([] : List (S41)), some 2)))) = some (r1, r2, r3, r4, r5, r6, r7) := by first | (rw [hy508]; with_reducible exact H) | (have H2_ := (Option.bind_some _ _).symm.trans H; rw [hy508]; with_reducible exact H2_) | (have H2_ := (Option.bind_some _ _).symm.trans H; with_reducible exact H2_) | with_reducible exact H | (rw [hy508]; exact H) | exact H
     have Ny508 := Aside0.mk hy508
     clear hy508
     replace H := tbe H
     obtain ⟨t511, A61, H⟩ := H
     by_cases c62 : t511 = true
     ·subst c62
      rw [if_pos rfl] at H
      simp only [Option.some.injEq, Prod.mk.injEq] at H
      obtain ⟨rfl, rfl, rfl, rfl, rfl, rfl, rfl⟩ := H
      have hnb63 := NB491_492.out
      have hnc63 := NB492_491.out
      have hnb64 := NB491_493.out
      have hnc64 := NB493_491.out
      obtain ⟨hcz65_0, hcz65_1, hcz65_2, hcz65_3, hcz65_4, hcz65_5, hfz65_0, hfz65_1, hfz65_2, hfz65_3, hfz65_4, hfz65_5⟩ := cells6 BK491.out
      try go_wp2_with (first | ((with_reducible refine gate_dst (N := 47) rfl ?_); refine glob_ rfl (v := .iface 106 (.pointer (some (ErrA.errA 2)))) (g := 1) ?hr ?hc ?_; (case hc => exact ErrOk.g1 (ErrOk.below HE.out zb) (by decide)); (case hr => intro W_ hc_; go_simp)) | ((with_reducible refine gate_dst (N := 33) rfl ?_); refine glob_ rfl (v := .iface 106 (.pointer (some (ErrA.errA 2)))) (g := 1) ?hr ?hc ?_; (case hc => exact ErrOk.g1 (ErrOk.below HE.out zb) (by decide)); (case hr => intro W_ hc_; go_simp)) | ((with_reducible refine gate_callee (f := 52) rfl ?_); refine goesL_ (some 35) rfl rfl Tryd.func52 (by kernel_rfl) rfl #[.agg #[.bool a0_0, .bool a0_1, .int .i64 a0_2, .int .i64 a0_3, .int .i64 a0_4, .slice A0_5 l0_5.length c0_5]] rfl tq ?_; (with_reducible refine (impl_Batch_copyOf.calls kj2 a0_0 a0_1 a0_2 a0_3 a0_4 _ _ l0_5 t496 t497 t498 t499 t500 t501 _ ?side1 ?side2 A58.out).mono ?_); (case side1 => exact tC (Kd.C_below HR0_5.out HB.out)); (case side2 => exact HC0_5.out); rintro e w66 ⟨v502, rfl, ho0, hb⟩; have u_v502 := tsv Tryd.prog v502 ho0; refine ⟨_, rfl, ?_⟩; have HO503 := Aside0.mk (Kd.N_lower (Kd.N_mono (ok' := fun k_ => (w.heap.size ≤ k_) ∧ k_ ≠ gb491 ∧ k_ ≠ gb492 ∧ k_ ≠ gb493) (Kd.S_N (Kd.S_bound ho0)) (fun k_ hk_ => ⟨(Nat.le_trans (below_size zb) hk_.2.1), (tfB BK491 k_ hk_.2.1), (tfB BK492 k_ hk_.2.1), (tfB BK493 k_ hk_.2.1)⟩)) (below_size zb)); replace BK491 := tBb BK491 hb; replace BK492 := tBb BK492 hb; replace BK493 := tBb BK493 hb; replace HB := tBs HB hb; (try clear hb); (try clear hb2); (try clear hk); (try clear hi); (try clear ho0)) | ((with_reducible refine gate_dst (N := 6) rfl ?_); refine box_event ?hg (N := 6) ?hd (cs := #[.bool false, .bool false, .int .i64 0, .int .i64 0, .int .i64 0, .slice none 0 0]) (t := 25) ?hr ?_; (case hd => rfl); (case hg => rfl); (case hr => first | (go_simp; done) | (go_simp; rfl)); intro gb504 hg w67 hbox hb; replace HO503 := tNB HO503 hg hb; have BK504 := Aside0.mk (hbox); have GW504 := tge HB hg; have GE504 := tge HB hg; replace HB := tBs HB hb; have NB491_504 := tlt BK491 hg; have NB504_491 := tgt BK491 hg; replace BK491 := tBb BK491 hb; have NB492_504 := tlt BK492 hg; have NB504_492 := tgt BK492 hg; replace BK492 := tBb BK492 hb; have NB493_504 := tlt BK493 hg; have NB504_493 := tgt BK493 hg; replace BK493 := tBb BK493 hb; clear hb hbox hg; have hnb68 := NB504_491.out; have hnc68 := NB491_504.out; have hnb69 := NB504_492.out; have hnc69 := NB492_504.out; have hnb70 := NB504_493.out; have hnc70 := NB493_504.out; obtain ⟨hcz71_0, hcz71_1, hcz71_2, hcz71_3, hcz71_4, hcz71_5, hfz71_0, hfz71_1, hfz71_2, hfz71_3, hfz71_4, hfz71_5⟩ := cells6 BK504.out; obtain ⟨Ao72, co72, eo72⟩ := Kd.N_slice HO503.out; subst eo72))
      have n0_ : Aside0 (Kd.N k41 41 ((((((w67.setCell ⟨gb504, 0, none⟩ (.bool t496)).setCell ⟨gb504, 1, none⟩ (.bool t497)).setCell ⟨gb504, 2, none⟩ (.int .i64 t498)).setCell ⟨gb504, 3, none⟩ (.int .i64 t499)).setCell ⟨gb504, 4, none⟩ (.int .i64 t500)).setCell ⟨gb504, 5, none⟩ (.slice Ao72 t501.length co72)) w.heap.size (fun k_ => (w.heap.size ≤ k_) ∧ k_ ≠ gb491 ∧ k_ ≠ gb492 ∧ k_ ≠ gb493 ∧ k_ ≠ gb504) (.slice Ao72 t501.length co72) t501) := ⟨tNm HO503.out⟩
      have n1_ : Aside0 (((((((w67.setCell ⟨gb504, 0, none⟩ (.bool t496)).setCell ⟨gb504, 1, none⟩ (.bool t497)).setCell ⟨gb504, 2, none⟩ (.int .i64 t498)).setCell ⟨gb504, 3, none⟩ (.int .i64 t499)).setCell ⟨gb504, 4, none⟩ (.int .i64 t500)).setCell ⟨gb504, 5, none⟩ (.slice Ao72 t501.length co72)).heap[gb491]? = some (.cells #[.bool a0_0, .bool a0_1, .int .i64 a0_2, .int .i64 a0_3, .int .i64 a0_4, .slice A0_5 l0_5.length c0_5] 25 (0, 0))) := ⟨tH BK491.out⟩
      have n2_ : Aside0 (((((((w67.setCell ⟨gb504, 0, none⟩ (.bool t496)).setCell ⟨gb504, 1, none⟩ (.bool t497)).setCell ⟨gb504, 2, none⟩ (.int .i64 t498)).setCell ⟨gb504, 3, none⟩ (.int .i64 t499)).setCell ⟨gb504, 4, none⟩ (.int .i64 t500)).setCell ⟨gb504, 5, none⟩ (.slice Ao72 t501.length co72)).heap[gb492]? = some (.cells #[.bool a1_0, .bool a1_1, .int .i64 a1_2, .int .i64 a1_3, .int .i64 a1_4, .slice A1_5 l1_5.length c1_5] 25 (0, 0))) := ⟨tH BK492.out⟩
      have n3_ : Aside0 (((((((w67.setCell ⟨gb504, 0, none⟩ (.bool t496)).setCell ⟨gb504, 1, none⟩ (.bool t497)).setCell ⟨gb504, 2, none⟩ (.int .i64 t498)).setCell ⟨gb504, 3, none⟩ (.int .i64 t499)).setCell ⟨gb504, 4, none⟩ (.int .i64 t500)).setCell ⟨gb504, 5, none⟩ (.slice Ao72 t501.length co72)).heap[gb493]? = some (.cells #[.bool false, .bool false, .int .i64 0, .int .i64 0, .int .i64 0, .slice none 0 0] 25 (0, 0))) := ⟨tH BK493.out⟩
      have n4_ : Aside0 (((((((w67.setCell ⟨gb504, 0, none⟩ (.bool t496)).setCell ⟨gb504, 1, none⟩ (.bool t497)).setCell ⟨gb504, 2, none⟩ (.int .i64 t498)).setCell ⟨gb504, 3, none⟩ (.int .i64 t499)).setCell ⟨gb504, 4, none⟩ (.int .i64 t500)).setCell ⟨gb504, 5, none⟩ (.slice Ao72 t501.length co72)).heap[gb504]? = some (.cells #[.bool t496, .bool t497, .int .i64 t498, .int .i64 t499, .int .i64 t500, .slice Ao72 t501.length co72] 25 (0, 0))) := ⟨tP BK504.out⟩
      have n5_ : Aside0 (Below w.heap.size w ((((((w67.setCell ⟨gb504, 0, none⟩ (.bool t496)).setCell ⟨gb504, 1, none⟩ (.bool t497)).setCell ⟨gb504, 2, none⟩ (.int .i64 t498)).setCell ⟨gb504, 3, none⟩ (.int .i64 t499)).setCell ⟨gb504, 4, none⟩ (.int .i64 t500)).setCell ⟨gb504, 5, none⟩ (.slice Ao72 t501.length co72))) := ⟨zb⟩
      (try clear HO503)
      (try clear BK491)
      (try clear BK492)
      (try clear BK493)
      (try clear BK504)
      (try clear HB)
      generalize ((((((w67.setCell ⟨gb504, 0, none⟩ (.bool t496)).setCell ⟨gb504, 1, none⟩ (.bool t497)).setCell ⟨gb504, 2, none⟩ (.int .i64 t498)).setCell ⟨gb504, 3, none⟩ (.int .i64 t499)).setCell ⟨gb504, 4, none⟩ (.int .i64 t500)).setCell ⟨gb504, 5, none⟩ (.slice Ao72 t501.length co72)) = w73 at n0_ n1_ n2_ n3_ n4_ n5_ ⊢
      have HO503 := n0_
      have BK491 := n1_
      have BK492 := n2_
      have BK493 := n3_
      have BK504 := n4_
      have HB := n5_
      clear n0_ n1_ n2_ n3_ n4_ n5_
      replace HO503 := Aside0.mk (Kd.N_drew HO503.out)
      replace BK491 := Aside0.mk (blk_drew BK491.out)
      replace BK492 := Aside0.mk (blk_drew BK492.out)
      replace BK493 := Aside0.mk (blk_drew BK493.out)
      replace BK504 := Aside0.mk (blk_drew BK504.out)
      replace HB := Aside0.mk (below_drew1 HB.out)
      refine start_ (n := 8) (S := fun w' => w'.cell? ⟨gb504, 0, none⟩ = some (.bool t496) ∧ w'.cell? ⟨gb504, 1, none⟩ = some (.bool t497) ∧ w'.cell? ⟨gb504, 2, none⟩ = some (.int .i64 t498) ∧ w'.cell? ⟨gb504, 3, none⟩ = some (.int .i64 t499) ∧ w'.cell? ⟨gb504, 4, none⟩ = some (.int .i64 t500) ∧ w'.cell? ⟨gb504, 5, none⟩ = some (.slice Ao72 t501.length co72) ∧ w'.cell? ⟨gb492, 0, none⟩ = some (.bool a1_0) ∧ w'.cell? ⟨gb492, 1, none⟩ = some (.bool a1_1) ∧ w'.cell? ⟨gb492, 2, none⟩ = some (.int .i64 a1_2) ∧ w'.cell? ⟨gb492, 3, none⟩ = some (.int .i64 a1_3) ∧ w'.cell? ⟨gb492, 4, none⟩ = some (.int .i64 a1_4) ∧ w'.cell? ⟨gb492, 5, none⟩ = some (.slice A1_5 l1_5.length c1_5)) (ds := [7]) #[false, false, false, false, false, false, false, false] (by kernel_rfl) rfl rfl ⟨(blk_cell BK504.out 0).trans rfl, (blk_cell BK504.out 1).trans rfl, (blk_cell BK504.out 2).trans rfl, (blk_cell BK504.out 3).trans rfl, (blk_cell BK504.out 4).trans rfl, (blk_cell BK504.out 5).trans rfl, (blk_cell BK492.out 0).trans rfl, (blk_cell BK492.out 1).trans rfl, (blk_cell BK492.out 2).trans rfl, (blk_cell BK492.out 3).trans rfl, (blk_cell BK492.out 4).trans rfl, (blk_cell BK492.out 5).trans rfl⟩ (fun hHeld => ?_); refine with_tabW impl_Batch_join.tab4 impl_Batch_join.bits4 (fun HT_ HW_ => ?_)
      generalize w73.drew = w74 at HO503 BK491 BK492 BK493 BK504 HB hHeld ⊢
      refine tpu 0 (some 36) #[true, false, false, false, false, false, false, false] ?_
      refine tpu 2 (some 38) #[true, false, true, false, false, false, false, false] ?_
      refine tta 1 (some 37) #[true, true, true, false, false, false, false, false] hHeld ?_ (hy := by rintro w' ⟨s0, s1, s2, s3, s4, s5, s6, s7, s8, s9, s10, s11⟩; go_simp; with_reducible rfl)
      refine tta 3 (some 39) #[true, true, true, true, false, false, false, false] hHeld ?_ (hy := by rintro w' ⟨s0, s1, s2, s3, s4, s5, s6, s7, s8, s9, s10, s11⟩; go_simp; with_reducible rfl)
      refine one_ (i := 4) (N := some 40) #[true, true, true, true, true, false, false, false] rfl rfl (one_of HT_.out (by kernel_rfl)) (by decide) (fun K hK => ?_)
      refine goes_ Tryd.func53 (by kernel_rfl) rfl #[.slice A1_5 l1_5.length c1_5] (by rfl) rfl rfl tq ?_
      with_reducible refine (impl_copyRecords.calls kj2 _ _ l1_5 t505 _ ?side1 ?side2 A59.out).mono ?_
      (case side1 => exact tC (Kd.C_below HR1_5.out HB.out))
      (case side2 => exact HC1_5.out)
      rintro e w75 ⟨v506, rfl, ho0, hb⟩
      refine ⟨_, rfl, ?_⟩
      have HO507 := Aside0.mk (Kd.N_lower (Kd.N_mono (ok' := fun k_ => (w.heap.size ≤ k_) ∧ some k_ ≠ (.slice Ao72 t501.length co72 : Value).ownBlock ∧ k_ ≠ gb491 ∧ k_ ≠ gb492 ∧ k_ ≠ gb493 ∧ k_ ≠ gb504) (Kd.S_N (Kd.S_bound ho0)) (fun k_ hk_ => ⟨(Nat.le_trans (below_size zb) hk_.2.1), (tfr HO503 k_ hk_.2.1), (tfB BK491 k_ hk_.2.1), (tfB BK492 k_ hk_.2.1), (tfB BK493 k_ hk_.2.1), (tfB BK504 k_ hk_.2.1)⟩)) (below_size zb))
      replace HO503 := tNe HO503 ho0 hb
      replace BK491 := tBb BK491 hb
      replace BK492 := tBb BK492 hb
      replace BK493 := tBb BK493 hb
      replace BK504 := tBb BK504 hb
      replace HB := tBs HB hb
      (try clear hb)
      (try clear hb2)
      (try clear hk)
      (try clear hi)
      (try clear ho0)
      obtain ⟨Ao77, co77, eo77⟩ := Kd.N_slice HO507.out
      (first | subst eo77 | (injection eo77 with f1_ f2_ f3_; have f4_ := f1_.symm; have f5_ := f3_.symm; clear f1_ f2_ f3_; subst f4_; subst f5_))
      refine hK.out _ _ ⟨(blk_cell BK504.out 0).trans rfl, (blk_cell BK504.out 1).trans rfl, (blk_cell BK504.out 2).trans rfl, (blk_cell BK504.out 3).trans rfl, (blk_cell BK504.out 4).trans rfl, (blk_cell BK504.out 5).trans rfl, (blk_cell BK492.out 0).trans rfl, (blk_cell BK492.out 1).trans rfl, (blk_cell BK492.out 2).trans rfl, (blk_cell BK492.out 3).trans rfl, (blk_cell BK492.out 4).trans rfl, (blk_cell BK492.out 5).trans rfl⟩ (fun hHeld => ?_)
      clear hK K
      refine tnm (some 40) ?_
      refine one_ (i := 5) (N := some 41) #[true, true, true, true, true, true, false, false] rfl rfl (one_of HT_.out (by kernel_rfl)) (by decide) (fun K hK => ?_)
      refine Kd.N_append_rows_step k41 (w0 := w) w.heap.size (by rfl) (.tmp 37) (.tmp 40) 23 41 (.agg #[(.int .i64 0), (.int .i64 0), (.bool false), (.slice none 0 0), (.bool false), (.slice none 0 0)]) 80 rfl Tryd.underlying23 info41 rfl (by decide) (by omega) (.slice Ao72 t501.length co72) t501 t505 _ _ _ (fun k_ => (w.heap.size ≤ k_) ∧ k_ ≠ gb491 ∧ k_ ≠ gb492 ∧ k_ ≠ gb493 ∧ k_ ≠ gb504) (fun k_ => ((fun k_ => (w.heap.size ≤ k_) ∧ k_ ≠ gb491 ∧ k_ ≠ gb492 ∧ k_ ≠ gb493 ∧ k_ ≠ gb504)) k_ ∧ some k_ ≠ (.slice Ao72 t501.length co72 : Value).ownBlock) rfl rfl ?aO ?aR (fun _ hk => hk) ?aF ?aB ?aS ?aL ?_
      (case aR => exact (by skip; exact Kd.N_F (Kd.N_mono (ok' := (fun k_ => ((fun k_ => (w.heap.size ≤ k_) ∧ k_ ≠ gb491 ∧ k_ ≠ gb492 ∧ k_ ≠ gb493 ∧ k_ ≠ gb504)) k_ ∧ some k_ ≠ (.slice Ao72 t501.length co72 : Value).ownBlock)) (HO507.out) (fun k_ hk => ⟨⟨hk.1, ⟨hk.2.2.1, ⟨hk.2.2.2.1, ⟨hk.2.2.2.2.1, hk.2.2.2.2.2⟩⟩⟩⟩, hk.2.1⟩))))
      (case aB => exact zb)
      (case aF => exact (fun k_ hk => ⟨(Nat.le_trans (below_size zb) hk), tfB BK491 k_ hk, tfB BK492 k_ hk, tfB BK493 k_ hk, tfB BK504 k_ hk⟩))
      (case aO => exact (tNm HO503.out))
      (case aS => exact (below_size zb))
      (case aL => have := LMc60.out; omega)
      intro v509 w76 ho hb hg hat
      rw [← Ny508.out] at ho
      replace BK491 := Aside0.mk (blk_grown (tH BK491.out) hg (Kd.N_ne HO503.out BK491.out (by decide)))
      replace BK492 := Aside0.mk (blk_grown (tH BK492.out) hg (Kd.N_ne HO503.out BK492.out (by decide)))
      replace BK493 := Aside0.mk (blk_grown (tH BK493.out) hg (Kd.N_ne HO503.out BK493.out (by decide)))
      replace BK504 := Aside0.mk (blk_grown (tH BK504.out) hg (Kd.N_ne HO503.out BK504.out (by decide)))
      replace HO507 := Aside0.mk (Kd.N_afterv (ok := (fun k_ => (w.heap.size ≤ k_) ∧ k_ ≠ gb491 ∧ k_ ≠ gb492 ∧ k_ ≠ gb493 ∧ k_ ≠ gb504)) (tNm HO507.out) hg hat)
      replace HB := Aside0.mk (hb)
      have HO510 := Aside0.mk (ho)
      clear HO503
      clear ho hb hg hat
      obtain ⟨Ao78, co78, eo78⟩ := Kd.N_slice HO510.out
      (first | subst eo78 | (injection eo78 with f1_ f2_ f3_; have f4_ := f1_.symm; have f5_ := f3_.symm; clear f1_ f2_ f3_; subst f4_; subst f5_))
      refine hK.out _ _ ⟨(blk_cell BK504.out 0).trans rfl, (blk_cell BK504.out 1).trans rfl, (blk_cell BK504.out 2).trans rfl, (blk_cell BK504.out 3).trans rfl, (blk_cell BK504.out 4).trans rfl, (blk_cell BK504.out 5).trans rfl, (blk_cell BK492.out 0).trans rfl, (blk_cell BK492.out 1).trans rfl, (blk_cell BK492.out 2).trans rfl, (blk_cell BK492.out 3).trans rfl, (blk_cell BK492.out 4).trans rfl, (blk_cell BK492.out 5).trans rfl⟩ (fun hHeld => ?_)
      clear hK K
      refine tnm (some 41) ?_
      refine tpu 6 (some 42) #[true, true, true, true, true, true, true, false] ?_
      refine last_ (i := 7) (N := none) #[true, true, true, true, true, true, true, true] rfl rfl (one_of HT_.out (by kernel_rfl)) (by decide) (fun K hK => ?_)
      have hs79 : w76.cell? ⟨gb504, 5, none⟩ = some (.slice Ao72 t501.length co72) := (blk_cell BK504.out 5).trans rfl
      have hfs79 := blk_frozen BK504.out 5
      have hns79_0 := NB491_504.out
      have hns79_1 := NB492_504.out
      have hns79_2 := NB493_504.out
      have hms79_0 := NB504_491.out
      have hms79_1 := NB504_492.out
      have hms79_2 := NB504_493.out
      refine tsk ?_
      refine hK.out _ _ ?_
      clear hK K
      refine done_ (done_of HT_.out (by kernel_rfl)) ?_
      obtain ⟨hcz80_0, hcz80_1, hcz80_2, hcz80_3, hcz80_4, hcz80_5, hfz80_0, hfz80_1, hfz80_2, hfz80_3, hfz80_4, hfz80_5⟩ := cells6 BK504.out
      try go_wp2_with (first | ((with_reducible refine gate_dst (N := 47) rfl ?_); refine glob_ rfl (v := .iface 106 (.pointer (some (ErrA.errA 2)))) (g := 1) ?hr ?hc ?_; (case hc => exact ErrOk.g1 (ErrOk.below HE.out zb) (by decide)); (case hr => intro W_ hc_; go_simp)) | ((with_reducible refine gate_dst (N := 33) rfl ?_); refine glob_ rfl (v := .iface 106 (.pointer (some (ErrA.errA 2)))) (g := 1) ?hr ?hc ?_; (case hc => exact ErrOk.g1 (ErrOk.below HE.out zb) (by decide)); (case hr => intro W_ hc_; go_simp)) | ((with_reducible refine gate_callee (f := 13) rfl ?_); refine goesL_ (some 44) rfl rfl Tryd.func13 (by kernel_rfl) rfl #[.agg #[.bool t496, .bool t497, .int .i64 t498, .int .i64 t499, .int .i64 t500, .slice Ao78 y508.length co78]] rfl tq ?_; (with_reducible refine (impl_BatchValid.calls kj2 t496 t497 t498 t499 t500 _ _ y508 true _ ?side1 ?side2 A61.out).mono ?_); (case side1 => exact (Kd.N_reads' (tN HO510.out)).2.2); (case side2 => exact (Kd.N_reads' HO510.out).2.1); rintro e w81 ⟨rfl, hb⟩; refine ⟨_, rfl, ?_⟩; replace HO507 := tNb HO507 hb; replace HO510 := tNb HO510 hb; replace BK491 := tBb BK491 hb; replace BK492 := tBb BK492 hb; replace BK493 := tBb BK493 hb; replace BK504 := tBp (o' := .cells #[.bool t496, .bool t497, .int .i64 t498, .int .i64 t499, .int .i64 t500, .slice Ao78 y508.length co78] 25 (0, 0)) BK504 hb; replace HB := tBs HB hb; (try clear hb); (try clear hb2); (try clear hk); (try clear hi); obtain ⟨hcz82_0, hcz82_1, hcz82_2, hcz82_3, hcz82_4, hcz82_5, hfz82_0, hfz82_1, hfz82_2, hfz82_3, hfz82_4, hfz82_5⟩ := cells6 BK504.out; have hnb83 := NB493_492.out; have hnc83 := NB492_493.out; obtain ⟨hcz84_0, hcz84_1, hcz84_2, hcz84_3, hcz84_4, hcz84_5, hfz84_0, hfz84_1, hfz84_2, hfz84_3, hfz84_4, hfz84_5⟩ := cells6 BK493.out))
      refine bodyPost_ret (results_ct rfl _ _ gb493 25 #[.bool t496, .bool t497, .int .i64 t498, .int .i64 t499, .int .i64 t500, .slice Ao78 y508.length co78] (0, 0) _ rfl (tP BK493.out) Tryd.underlying25 rfl (by kernel_rfl)) rfl ?_
      exact ⟨_, by first | rfl | (simp [errW_none, errW_some] <;> rfl) | (simp [*, errW_none, errW_some] <;> rfl), tNm HO510.out, zb⟩
     ·replace c62 := Bool.eq_false_iff.mpr c62
      subst c62
      rw [if_neg (show ¬ (false = true) by decide)] at H
      simp only [Option.some.injEq, Prod.mk.injEq] at H
      obtain ⟨rfl, rfl, rfl, rfl, rfl, rfl, rfl⟩ := H
      have hnb85 := NB491_492.out
      have hnc85 := NB492_491.out
      have hnb86 := NB491_493.out
      have hnc86 := NB493_491.out
      obtain ⟨hcz87_0, hcz87_1, hcz87_2, hcz87_3, hcz87_4, hcz87_5, hfz87_0, hfz87_1, hfz87_2, hfz87_3, hfz87_4, hfz87_5⟩ := cells6 BK491.out
      try go_wp2_with (first | ((with_reducible refine gate_dst (N := 47) rfl ?_); refine glob_ rfl (v := .iface 106 (.pointer (some (ErrA.errA 2)))) (g := 1) ?hr ?hc ?_; (case hc => exact ErrOk.g1 (ErrOk.below HE.out zb) (by decide)); (case hr => intro W_ hc_; go_simp)) | ((with_reducible refine gate_dst (N := 33) rfl ?_); refine glob_ rfl (v := .iface 106 (.pointer (some (ErrA.errA 2)))) (g := 1) ?hr ?hc ?_; (case hc => exact ErrOk.g1 (ErrOk.below HE.out zb) (by decide)); (case hr => intro W_ hc_; go_simp)) | ((with_reducible refine gate_callee (f := 52) rfl ?_); refine goesL_ (some 35) rfl rfl Tryd.func52 (by kernel_rfl) rfl #[.agg #[.bool a0_0, .bool a0_1, .int .i64 a0_2, .int .i64 a0_3, .int .i64 a0_4, .slice A0_5 l0_5.length c0_5]] rfl tq ?_; (with_reducible refine (impl_Batch_copyOf.calls kj2 a0_0 a0_1 a0_2 a0_3 a0_4 _ _ l0_5 t496 t497 t498 t499 t500 t501 _ ?side1 ?side2 A58.out).mono ?_); (case side1 => exact tC (Kd.C_below HR0_5.out HB.out)); (case side2 => exact HC0_5.out); rintro e w88 ⟨v502, rfl, ho0, hb⟩; have u_v502 := tsv Tryd.prog v502 ho0; refine ⟨_, rfl, ?_⟩; have HO503 := Aside0.mk (Kd.N_lower (Kd.N_mono (ok' := fun k_ => (w.heap.size ≤ k_) ∧ k_ ≠ gb491 ∧ k_ ≠ gb492 ∧ k_ ≠ gb493) (Kd.S_N (Kd.S_bound ho0)) (fun k_ hk_ => ⟨(Nat.le_trans (below_size zb) hk_.2.1), (tfB BK491 k_ hk_.2.1), (tfB BK492 k_ hk_.2.1), (tfB BK493 k_ hk_.2.1)⟩)) (below_size zb)); replace BK491 := tBb BK491 hb; replace BK492 := tBb BK492 hb; replace BK493 := tBb BK493 hb; replace HB := tBs HB hb; (try clear hb); (try clear hb2); (try clear hk); (try clear hi); (try clear ho0)) | ((with_reducible refine gate_dst (N := 6) rfl ?_); refine box_event ?hg (N := 6) ?hd (cs := #[.bool false, .bool false, .int .i64 0, .int .i64 0, .int .i64 0, .slice none 0 0]) (t := 25) ?hr ?_; (case hd => rfl); (case hg => rfl); (case hr => first | (go_simp; done) | (go_simp; rfl)); intro gb504 hg w89 hbox hb; replace HO503 := tNB HO503 hg hb; have BK504 := Aside0.mk (hbox); have GW504 := tge HB hg; have GE504 := tge HB hg; replace HB := tBs HB hb; have NB491_504 := tlt BK491 hg; have NB504_491 := tgt BK491 hg; replace BK491 := tBb BK491 hb; have NB492_504 := tlt BK492 hg; have NB504_492 := tgt BK492 hg; replace BK492 := tBb BK492 hb; have NB493_504 := tlt BK493 hg; have NB504_493 := tgt BK493 hg; replace BK493 := tBb BK493 hb; clear hb hbox hg; have hnb90 := NB504_491.out; have hnc90 := NB491_504.out; have hnb91 := NB504_492.out; have hnc91 := NB492_504.out; have hnb92 := NB504_493.out; have hnc92 := NB493_504.out; obtain ⟨hcz93_0, hcz93_1, hcz93_2, hcz93_3, hcz93_4, hcz93_5, hfz93_0, hfz93_1, hfz93_2, hfz93_3, hfz93_4, hfz93_5⟩ := cells6 BK504.out; obtain ⟨Ao94, co94, eo94⟩ := Kd.N_slice HO503.out; subst eo94))
      have n0_ : Aside0 (Kd.N k41 41 ((((((w89.setCell ⟨gb504, 0, none⟩ (.bool t496)).setCell ⟨gb504, 1, none⟩ (.bool t497)).setCell ⟨gb504, 2, none⟩ (.int .i64 t498)).setCell ⟨gb504, 3, none⟩ (.int .i64 t499)).setCell ⟨gb504, 4, none⟩ (.int .i64 t500)).setCell ⟨gb504, 5, none⟩ (.slice Ao94 t501.length co94)) w.heap.size (fun k_ => (w.heap.size ≤ k_) ∧ k_ ≠ gb491 ∧ k_ ≠ gb492 ∧ k_ ≠ gb493 ∧ k_ ≠ gb504) (.slice Ao94 t501.length co94) t501) := ⟨tNm HO503.out⟩
      have n1_ : Aside0 (((((((w89.setCell ⟨gb504, 0, none⟩ (.bool t496)).setCell ⟨gb504, 1, none⟩ (.bool t497)).setCell ⟨gb504, 2, none⟩ (.int .i64 t498)).setCell ⟨gb504, 3, none⟩ (.int .i64 t499)).setCell ⟨gb504, 4, none⟩ (.int .i64 t500)).setCell ⟨gb504, 5, none⟩ (.slice Ao94 t501.length co94)).heap[gb491]? = some (.cells #[.bool a0_0, .bool a0_1, .int .i64 a0_2, .int .i64 a0_3, .int .i64 a0_4, .slice A0_5 l0_5.length c0_5] 25 (0, 0))) := ⟨tH BK491.out⟩
      have n2_ : Aside0 (((((((w89.setCell ⟨gb504, 0, none⟩ (.bool t496)).setCell ⟨gb504, 1, none⟩ (.bool t497)).setCell ⟨gb504, 2, none⟩ (.int .i64 t498)).setCell ⟨gb504, 3, none⟩ (.int .i64 t499)).setCell ⟨gb504, 4, none⟩ (.int .i64 t500)).setCell ⟨gb504, 5, none⟩ (.slice Ao94 t501.length co94)).heap[gb492]? = some (.cells #[.bool a1_0, .bool a1_1, .int .i64 a1_2, .int .i64 a1_3, .int .i64 a1_4, .slice A1_5 l1_5.length c1_5] 25 (0, 0))) := ⟨tH BK492.out⟩
      have n3_ : Aside0 (((((((w89.setCell ⟨gb504, 0, none⟩ (.bool t496)).setCell ⟨gb504, 1, none⟩ (.bool t497)).setCell ⟨gb504, 2, none⟩ (.int .i64 t498)).setCell ⟨gb504, 3, none⟩ (.int .i64 t499)).setCell ⟨gb504, 4, none⟩ (.int .i64 t500)).setCell ⟨gb504, 5, none⟩ (.slice Ao94 t501.length co94)).heap[gb493]? = some (.cells #[.bool false, .bool false, .int .i64 0, .int .i64 0, .int .i64 0, .slice none 0 0] 25 (0, 0))) := ⟨tH BK493.out⟩
      have n4_ : Aside0 (((((((w89.setCell ⟨gb504, 0, none⟩ (.bool t496)).setCell ⟨gb504, 1, none⟩ (.bool t497)).setCell ⟨gb504, 2, none⟩ (.int .i64 t498)).setCell ⟨gb504, 3, none⟩ (.int .i64 t499)).setCell ⟨gb504, 4, none⟩ (.int .i64 t500)).setCell ⟨gb504, 5, none⟩ (.slice Ao94 t501.length co94)).heap[gb504]? = some (.cells #[.bool t496, .bool t497, .int .i64 t498, .int .i64 t499, .int .i64 t500, .slice Ao94 t501.length co94] 25 (0, 0))) := ⟨tP BK504.out⟩
      have n5_ : Aside0 (Below w.heap.size w ((((((w89.setCell ⟨gb504, 0, none⟩ (.bool t496)).setCell ⟨gb504, 1, none⟩ (.bool t497)).setCell ⟨gb504, 2, none⟩ (.int .i64 t498)).setCell ⟨gb504, 3, none⟩ (.int .i64 t499)).setCell ⟨gb504, 4, none⟩ (.int .i64 t500)).setCell ⟨gb504, 5, none⟩ (.slice Ao94 t501.length co94))) := ⟨zb⟩
      (try clear HO503)
      (try clear BK491)
      (try clear BK492)
      (try clear BK493)
      (try clear BK504)
      (try clear HB)
      generalize ((((((w89.setCell ⟨gb504, 0, none⟩ (.bool t496)).setCell ⟨gb504, 1, none⟩ (.bool t497)).setCell ⟨gb504, 2, none⟩ (.int .i64 t498)).setCell ⟨gb504, 3, none⟩ (.int .i64 t499)).setCell ⟨gb504, 4, none⟩ (.int .i64 t500)).setCell ⟨gb504, 5, none⟩ (.slice Ao94 t501.length co94)) = w95 at n0_ n1_ n2_ n3_ n4_ n5_ ⊢
      have HO503 := n0_
      have BK491 := n1_
      have BK492 := n2_
      have BK493 := n3_
      have BK504 := n4_
      have HB := n5_
      clear n0_ n1_ n2_ n3_ n4_ n5_
      replace HO503 := Aside0.mk (Kd.N_drew HO503.out)
      replace BK491 := Aside0.mk (blk_drew BK491.out)
      replace BK492 := Aside0.mk (blk_drew BK492.out)
      replace BK493 := Aside0.mk (blk_drew BK493.out)
      replace BK504 := Aside0.mk (blk_drew BK504.out)
      replace HB := Aside0.mk (below_drew1 HB.out)
      refine start_ (n := 8) (S := fun w' => w'.cell? ⟨gb504, 0, none⟩ = some (.bool t496) ∧ w'.cell? ⟨gb504, 1, none⟩ = some (.bool t497) ∧ w'.cell? ⟨gb504, 2, none⟩ = some (.int .i64 t498) ∧ w'.cell? ⟨gb504, 3, none⟩ = some (.int .i64 t499) ∧ w'.cell? ⟨gb504, 4, none⟩ = some (.int .i64 t500) ∧ w'.cell? ⟨gb504, 5, none⟩ = some (.slice Ao94 t501.length co94) ∧ w'.cell? ⟨gb492, 0, none⟩ = some (.bool a1_0) ∧ w'.cell? ⟨gb492, 1, none⟩ = some (.bool a1_1) ∧ w'.cell? ⟨gb492, 2, none⟩ = some (.int .i64 a1_2) ∧ w'.cell? ⟨gb492, 3, none⟩ = some (.int .i64 a1_3) ∧ w'.cell? ⟨gb492, 4, none⟩ = some (.int .i64 a1_4) ∧ w'.cell? ⟨gb492, 5, none⟩ = some (.slice A1_5 l1_5.length c1_5)) (ds := [7]) #[false, false, false, false, false, false, false, false] (by kernel_rfl) rfl rfl ⟨(blk_cell BK504.out 0).trans rfl, (blk_cell BK504.out 1).trans rfl, (blk_cell BK504.out 2).trans rfl, (blk_cell BK504.out 3).trans rfl, (blk_cell BK504.out 4).trans rfl, (blk_cell BK504.out 5).trans rfl, (blk_cell BK492.out 0).trans rfl, (blk_cell BK492.out 1).trans rfl, (blk_cell BK492.out 2).trans rfl, (blk_cell BK492.out 3).trans rfl, (blk_cell BK492.out 4).trans rfl, (blk_cell BK492.out 5).trans rfl⟩ (fun hHeld => ?_); refine with_tabW impl_Batch_join.tab4 impl_Batch_join.bits4 (fun HT_ HW_ => ?_)
      generalize w95.drew = w96 at HO503 BK491 BK492 BK493 BK504 HB hHeld ⊢
      refine tpu 0 (some 36) #[true, false, false, false, false, false, false, false] ?_
      refine tpu 2 (some 38) #[true, false, true, false, false, false, false, false] ?_
      refine tta 1 (some 37) #[true, true, true, false, false, false, false, false] hHeld ?_ (hy := by rintro w' ⟨s0, s1, s2, s3, s4, s5, s6, s7, s8, s9, s10, s11⟩; go_simp; with_reducible rfl)
      refine tta 3 (some 39) #[true, true, true, true, false, false, false, false] hHeld ?_ (hy := by rintro w' ⟨s0, s1, s2, s3, s4, s5, s6, s7, s8, s9, s10, s11⟩; go_simp; with_reducible rfl)
      refine one_ (i := 4) (N := some 40) #[true, true, true, true, true, false, false, false] rfl rfl (one_of HT_.out (by kernel_rfl)) (by decide) (fun K hK => ?_)
      refine goes_ Tryd.func53 (by kernel_rfl) rfl #[.slice A1_5 l1_5.length c1_5] (by rfl) rfl rfl tq ?_
      with_reducible refine (impl_copyRecords.calls kj2 _ _ l1_5 t505 _ ?side1 ?side2 A59.out).mono ?_
      (case side1 => exact tC (Kd.C_below HR1_5.out HB.out))
      (case side2 => exact HC1_5.out)
      rintro e w97 ⟨v506, rfl, ho0, hb⟩
      refine ⟨_, rfl, ?_⟩
      have HO507 := Aside0.mk (Kd.N_lower (Kd.N_mono (ok' := fun k_ => (w.heap.size ≤ k_) ∧ some k_ ≠ (.slice Ao94 t501.length co94 : Value).ownBlock ∧ k_ ≠ gb491 ∧ k_ ≠ gb492 ∧ k_ ≠ gb493 ∧ k_ ≠ gb504) (Kd.S_N (Kd.S_bound ho0)) (fun k_ hk_ => ⟨(Nat.le_trans (below_size zb) hk_.2.1), (tfr HO503 k_ hk_.2.1), (tfB BK491 k_ hk_.2.1), (tfB BK492 k_ hk_.2.1), (tfB BK493 k_ hk_.2.1), (tfB BK504 k_ hk_.2.1)⟩)) (below_size zb))
      replace HO503 := tNe HO503 ho0 hb
      replace BK491 := tBb BK491 hb
      replace BK492 := tBb BK492 hb
      replace BK493 := tBb BK493 hb
      replace BK504 := tBb BK504 hb
      replace HB := tBs HB hb
      (try clear hb)
      (try clear hb2)
      (try clear hk)
      (try clear hi)
      (try clear ho0)
      obtain ⟨Ao99, co99, eo99⟩ := Kd.N_slice HO507.out
      (first | subst eo99 | (injection eo99 with f1_ f2_ f3_; have f4_ := f1_.symm; have f5_ := f3_.symm; clear f1_ f2_ f3_; subst f4_; subst f5_))
      refine hK.out _ _ ⟨(blk_cell BK504.out 0).trans rfl, (blk_cell BK504.out 1).trans rfl, (blk_cell BK504.out 2).trans rfl, (blk_cell BK504.out 3).trans rfl, (blk_cell BK504.out 4).trans rfl, (blk_cell BK504.out 5).trans rfl, (blk_cell BK492.out 0).trans rfl, (blk_cell BK492.out 1).trans rfl, (blk_cell BK492.out 2).trans rfl, (blk_cell BK492.out 3).trans rfl, (blk_cell BK492.out 4).trans rfl, (blk_cell BK492.out 5).trans rfl⟩ (fun hHeld => ?_)
      clear hK K
      refine tnm (some 40) ?_
      refine one_ (i := 5) (N := some 41) #[true, true, true, true, true, true, false, false] rfl rfl (one_of HT_.out (by kernel_rfl)) (by decide) (fun K hK => ?_)
      refine Kd.N_append_rows_step k41 (w0 := w) w.heap.size (by rfl) (.tmp 37) (.tmp 40) 23 41 (.agg #[(.int .i64 0), (.int .i64 0), (.bool false), (.slice none 0 0), (.bool false), (.slice none 0 0)]) 80 rfl Tryd.underlying23 info41 rfl (by decide) (by omega) (.slice Ao94 t501.length co94) t501 t505 _ _ _ (fun k_ => (w.heap.size ≤ k_) ∧ k_ ≠ gb491 ∧ k_ ≠ gb492 ∧ k_ ≠ gb493 ∧ k_ ≠ gb504) (fun k_ => ((fun k_ => (w.heap.size ≤ k_) ∧ k_ ≠ gb491 ∧ k_ ≠ gb492 ∧ k_ ≠ gb493 ∧ k_ ≠ gb504)) k_ ∧ some k_ ≠ (.slice Ao94 t501.length co94 : Value).ownBlock) rfl rfl ?aO ?aR (fun _ hk => hk) ?aF ?aB ?aS ?aL ?_
      (case aR => exact (by skip; exact Kd.N_F (Kd.N_mono (ok' := (fun k_ => ((fun k_ => (w.heap.size ≤ k_) ∧ k_ ≠ gb491 ∧ k_ ≠ gb492 ∧ k_ ≠ gb493 ∧ k_ ≠ gb504)) k_ ∧ some k_ ≠ (.slice Ao94 t501.length co94 : Value).ownBlock)) (HO507.out) (fun k_ hk => ⟨⟨hk.1, ⟨hk.2.2.1, ⟨hk.2.2.2.1, ⟨hk.2.2.2.2.1, hk.2.2.2.2.2⟩⟩⟩⟩, hk.2.1⟩))))
      (case aB => exact zb)
      (case aF => exact (fun k_ hk => ⟨(Nat.le_trans (below_size zb) hk), tfB BK491 k_ hk, tfB BK492 k_ hk, tfB BK493 k_ hk, tfB BK504 k_ hk⟩))
      (case aO => exact (tNm HO503.out))
      (case aS => exact (below_size zb))
      (case aL => have := LMc60.out; omega)
      intro v509 w98 ho hb hg hat
      rw [← Ny508.out] at ho
      replace BK491 := Aside0.mk (blk_grown (tH BK491.out) hg (Kd.N_ne HO503.out BK491.out (by decide)))
      replace BK492 := Aside0.mk (blk_grown (tH BK492.out) hg (Kd.N_ne HO503.out BK492.out (by decide)))
      replace BK493 := Aside0.mk (blk_grown (tH BK493.out) hg (Kd.N_ne HO503.out BK493.out (by decide)))
      replace BK504 := Aside0.mk (blk_grown (tH BK504.out) hg (Kd.N_ne HO503.out BK504.out (by decide)))
      replace HO507 := Aside0.mk (Kd.N_afterv (ok := (fun k_ => (w.heap.size ≤ k_) ∧ k_ ≠ gb491 ∧ k_ ≠ gb492 ∧ k_ ≠ gb493 ∧ k_ ≠ gb504)) (tNm HO507.out) hg hat)
      replace HB := Aside0.mk (hb)
      have HO510 := Aside0.mk (ho)
      clear HO503
      clear ho hb hg hat
      obtain ⟨Ao100, co100, eo100⟩ := Kd.N_slice HO510.out
      (first | subst eo100 | (injection eo100 with f1_ f2_ f3_; have f4_ := f1_.symm; have f5_ := f3_.symm; clear f1_ f2_ f3_; subst f4_; subst f5_))
      refine hK.out _ _ ⟨(blk_cell BK504.out 0).trans rfl, (blk_cell BK504.out 1).trans rfl, (blk_cell BK504.out 2).trans rfl, (blk_cell BK504.out 3).trans rfl, (blk_cell BK504.out 4).trans rfl, (blk_cell BK504.out 5).trans rfl, (blk_cell BK492.out 0).trans rfl, (blk_cell BK492.out 1).trans rfl, (blk_cell BK492.out 2).trans rfl, (blk_cell BK492.out 3).trans rfl, (blk_cell BK492.out 4).trans rfl, (blk_cell BK492.out 5).trans rfl⟩ (fun hHeld => ?_)
      clear hK K
      refine tnm (some 41) ?_
      refine tpu 6 (some 42) #[true, true, true, true, true, true, true, false] ?_
      refine last_ (i := 7) (N := none) #[true, true, true, true, true, true, true, true] rfl rfl (one_of HT_.out (by kernel_rfl)) (by decide) (fun K hK => ?_)
      have hs101 : w98.cell? ⟨gb504, 5, none⟩ = some (.slice Ao94 t501.length co94) := (blk_cell BK504.out 5).trans rfl
      have hfs101 := blk_frozen BK504.out 5
      have hns101_0 := NB491_504.out
      have hns101_1 := NB492_504.out
      have hns101_2 := NB493_504.out
      have hms101_0 := NB504_491.out
      have hms101_1 := NB504_492.out
      have hms101_2 := NB504_493.out
      refine tsk ?_
      refine hK.out _ _ ?_
      clear hK K
      refine done_ (done_of HT_.out (by kernel_rfl)) ?_
      obtain ⟨hcz102_0, hcz102_1, hcz102_2, hcz102_3, hcz102_4, hcz102_5, hfz102_0, hfz102_1, hfz102_2, hfz102_3, hfz102_4, hfz102_5⟩ := cells6 BK504.out
      try go_wp2_with (first | ((with_reducible refine gate_dst (N := 47) rfl ?_); refine glob_ rfl (v := .iface 106 (.pointer (some (ErrA.errA 2)))) (g := 1) ?hr ?hc ?_; (case hc => exact ErrOk.g1 (ErrOk.below HE.out zb) (by decide)); (case hr => intro W_ hc_; go_simp)) | ((with_reducible refine gate_dst (N := 33) rfl ?_); refine glob_ rfl (v := .iface 106 (.pointer (some (ErrA.errA 2)))) (g := 1) ?hr ?hc ?_; (case hc => exact ErrOk.g1 (ErrOk.below HE.out zb) (by decide)); (case hr => intro W_ hc_; go_simp)) | ((with_reducible refine gate_callee (f := 13) rfl ?_); refine goesL_ (some 44) rfl rfl Tryd.func13 (by kernel_rfl) rfl #[.agg #[.bool t496, .bool t497, .int .i64 t498, .int .i64 t499, .int .i64 t500, .slice Ao100 y508.length co100]] rfl tq ?_; (with_reducible refine (impl_BatchValid.calls kj2 t496 t497 t498 t499 t500 _ _ y508 false _ ?side1 ?side2 A61.out).mono ?_); (case side1 => exact (Kd.N_reads' (tN HO510.out)).2.2); (case side2 => exact (Kd.N_reads' HO510.out).2.1); rintro e w103 ⟨rfl, hb⟩; refine ⟨_, rfl, ?_⟩; replace HO507 := tNb HO507 hb; replace HO510 := tNb HO510 hb; replace BK491 := tBb BK491 hb; replace BK492 := tBb BK492 hb; replace BK493 := tBb BK493 hb; replace BK504 := tBp (o' := .cells #[.bool t496, .bool t497, .int .i64 t498, .int .i64 t499, .int .i64 t500, .slice Ao100 y508.length co100] 25 (0, 0)) BK504 hb; replace HB := tBs HB hb; (try clear hb); (try clear hb2); (try clear hk); (try clear hi)))
      replace HO507 := Aside0.mk (Kd.N_drew HO507.out)
      replace HO510 := Aside0.mk (Kd.N_drew HO510.out)
      replace BK491 := Aside0.mk (blk_drew BK491.out)
      replace BK492 := Aside0.mk (blk_drew BK492.out)
      replace BK493 := Aside0.mk (blk_drew BK493.out)
      replace BK504 := Aside0.mk (blk_drew BK504.out)
      replace HB := Aside0.mk (below_drew1 HB.out)
      refine start_ (n := 4) (S := ErrOk [1]) (ds := []) #[false, false, false, false] (by kernel_rfl) rfl rfl (ErrOk.below HE.out HB.out) (fun hHeld => ?_)
      generalize w103.drew = w104 at HO507 HO510 BK491 BK492 BK493 BK504 HB hHeld ⊢
      refine pure_ (i := 0) (N := some 46) (v := ?_) (a' := ?_) #[true, false, false, false] rfl rfl (by kernel_rfl) (fun _ _ _ h => h) (Or.inl ⟨by rfl, ?_⟩) ?_ ?_
      rotate_left
      ·intro w'
       go_simp
       with_reducible rfl
      rotate_left
      ·simp only [Act.put, List.setIfInBounds_toArray, List.set_cons_zero, List.set_cons_succ, i64_w, i32_w]
       rfl
      refine take_ (i := 1) (N := some 47) (v := ?_) (a' := ?_) #[true, true, false, false] rfl rfl (by kernel_rfl) (fun _ _ _ h => h) (Or.inl ⟨by rfl, ?_⟩) hHeld ?_ ?_
      rotate_left
      ·intro w' hS_
       try have hg0_ := ErrOk.g0 hS_ (by decide)
       try have hg1_ := ErrOk.g1 hS_ (by decide)
       clear hS_
       go_simp
       with_reducible rfl
      rotate_left
      ·simp only [Act.put, List.setIfInBounds_toArray, List.set_cons_zero, List.set_cons_succ, i64_w, i32_w]
       rfl
      refine one_ (i := 2) (N := none) #[true, true, true, false] rfl rfl (by kernel_rfl) (by decide) (fun K hK => ?_)
      have hs105 : w104.cell? ⟨gb493, 0, none⟩ = some (.bool false) := (blk_cell BK493.out 0).trans rfl
      have hfs105 := blk_frozen BK493.out 0
      have hns105_0 := NB491_493.out
      have hns105_1 := NB492_493.out
      have hns105_3 := NB504_493.out
      have hms105_0 := NB493_491.out
      have hms105_1 := NB493_492.out
      have hms105_3 := NB493_504.out
      have hs106 : w104.cell? ⟨gb493, 1, none⟩ = some (.bool false) := (blk_cell BK493.out 1).trans rfl
      have hfs106 := blk_frozen BK493.out 1
      have hs107 : w104.cell? ⟨gb493, 2, none⟩ = some (.int .i64 0) := (blk_cell BK493.out 2).trans rfl
      have hfs107 := blk_frozen BK493.out 2
      have hs108 : w104.cell? ⟨gb493, 3, none⟩ = some (.int .i64 0) := (blk_cell BK493.out 3).trans rfl
      have hfs108 := blk_frozen BK493.out 3
      have hs109 : w104.cell? ⟨gb493, 4, none⟩ = some (.int .i64 0) := (blk_cell BK493.out 4).trans rfl
      have hfs109 := blk_frozen BK493.out 4
      have hs110 : w104.cell? ⟨gb493, 5, none⟩ = some (.slice none 0 0) := (blk_cell BK493.out 5).trans rfl
      have hfs110 := blk_frozen BK493.out 5
      refine tsk ?_
      refine hK.out _ _ (by repeat (first | (with_reducible exact hHeld) | (with_reducible refine ErrOk.set HE.out ?_ (by with_reducible first | exact GE491.out | exact GE492.out | exact GE493.out | exact GE504.out) _ _))) (fun hHeld => ?_)
      clear hK K
      refine pure_ (i := 3) (N := some 5) (v := ?_) (a' := ?_) #[true, true, true, true] rfl rfl (by kernel_rfl) (fun _ _ _ h => h) (Or.inl ⟨by rfl, ?_⟩) ?_ ?_
      rotate_left
      ·intro w'
       go_simp
       with_reducible rfl
      rotate_left
      ·simp only [Act.put, List.setIfInBounds_toArray, List.set_cons_zero, List.set_cons_succ, i64_w, i32_w]
       rfl
      refine done_ (by kernel_rfl) ?_
      try go_wp2
      refine bodyPost_ret (results_ct rfl _ _ gb493 25 #[.bool false, .bool false, .int .i64 0, .int .i64 0, .int .i64 0, .slice none 0 0] (0, 0) _ rfl (tP BK493.out) Tryd.underlying25 rfl (by kernel_rfl)) rfl ?_
      exact ⟨_, by first | rfl | (simp [errW_none, errW_some] <;> rfl) | (simp [*, errW_none, errW_some] <;> rfl), by first | exact Kd.S_nil _ _ _ _ _ | exact Kd.N_nil _ _ _ _ _ | exact Kd.V_nil _ _ _ _ _ | exact Kd.Q_nil _ _ _ _ _ | exact Kd.R_nil _ _ _ _ _, zb⟩
    ·rw [if_neg c60] at H
     exact absurd H (by simp)

end Go.Proofs.YtahenocndacjeaaDoor.G

