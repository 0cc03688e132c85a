/- A text of seat YtfjkpdhldeopaaaDoor: what the law FnExactLogEven needs of this repo's texts (by pack.py). Not trusted: Lean checks it. -/
import Derived.Test.YtfjkpdhldeopaaaDoorKFnExactLogEven6
namespace Go.Proofs.YtfjkpdhldeopaaaDoor.G
open Go.RowKit Go.Proofs.YtfjkpdhldeopaaaDoorW.PrintWords Go.Proofs.YtfjkpdhldeopaaaDoorW.PrintLast Go.Proofs.YtfjkpdhldeopaaaDoorW.PrintMore
attribute [local go_sem] max2_int min2_int max_two min_two max_three min_three max_four min_four   -- for this text's walks alone
set_option linter.unusedVariables false
set_option linter.unusedSimpArgs false

def impl_BatchJoin.f (k : Nat) (a0_0 : Bool) (a0_1 : Bool) (a0_2 : Int) (a0_3 : Int) (a0_4 : Int) (l0_5 : List (S62)) (a1_0 : Bool) (a1_1 : Bool) (a1_2 : Int) (a1_3 : Int) (a1_4 : Int) (l1_5 : List (S62)) : Option (Bool × Bool × Int × Int × Int × (List (S62)) × Bool) := (impl_Batch_join.f k a0_0 a0_1 a0_2 a0_3 a0_4 l0_5 a1_0 a1_1 a1_2 a1_3 a1_4 l1_5).bind fun bt274 => ((errors_Is.f bt274.2.2.2.2.2.2 (some 1)).bind fun t284 => (if t284 = true then (some (false, false, 0, 0, 0, ([] : List (S62)), false)) else (some (bt274.1, bt274.2.1, bt274.2.2.1, bt274.2.2.2.1, bt274.2.2.2.2.1, bt274.2.2.2.2.2.1, true))))
def laws_eqIntS.l0 : Nat → List Int → List Int → Int → Option (Bool)
 | 0, _, _, _ => none
 | k + 1, x0, x1, x5 => if x5 < (x0.length : Int) then (if 0 ≤ x5 then (if x5 < (x1.length : Int) then (if (rd x0 x5) = (rd x1 x5) then (laws_eqIntS.l0 k x0 x1 (wrap64 (x5 + 1))) else (some false)) else (none)) else (none)) else (some true)
def laws_eqIntS.f (k : Nat) (l0 : List Int) (l1 : List Int) : Option (Bool) := if (l0.length : Int) = (l1.length : Int) then (laws_eqIntS.l0 k l0 l1 0) else (some false)
set_option maxHeartbeats 8000000 in
set_option maxRecDepth 100000 in
theorem laws_eqIntS.calls (k : Nat) (A0 : Option Addr) (c0 : Nat) (l0 : List Int) (A1 : Option Addr) (c1 : Nat) (l1 : List Int) (r : Bool) (w : World) (hr0 : Kd.C (Kd.int .i64) w A0 l0.length l0) (hc0 : l0.length ≤ c0) (hr1 : Kd.C (Kd.int .i64) w A1 l1.length l1) (hc1 : l1.length ≤ c1) (h : laws_eqIntS.f k l0 l1 = some r) :
  Calls Tryd.prog 61 #[.slice A0 l0.length c0, .slice A1 l1.length c1] w fun e w' => e = .returned (.bool r) ∧ Drawn0 w w' := by
 have HR0 := Aside0.mk hr0
 have HC0 := Aside0.mk hc0
 clear hr0 hc0
 have HR1 := Aside0.mk hr1
 have HC1 := Aside0.mk hc1
 clear hr1 hc1
 have H : (if (l0.length : Int) = (l1.length : Int) then (laws_eqIntS.l0 k l0 l1 0) else (some false)) = some r := h
 clear h
 by_cases c3 : (l0.length : Int) = (l1.length : Int)
 ·rw [if_pos c3] at H
  have c3b0 : ((l0.length : Int) == (l1.length : Int)) = true := beq_iff_eq.mpr c3
  have c3b1 : ((l0.length : Int) != (l1.length : Int)) = false := bne_eq_false_iff_eq.mpr c3
  have c3b2 : (l0.length == l1.length) = true := by first | simpa using c3 | (simp at c3 ⊢; omega)
  clear c3
  have H' := Aside0.mk H
  clear H
  go_enter Tryd.func61, Tryd.ntmps61
  go_wp2
  repeat (go_quiet (fail); try go_wp2)
  go_loopg [5] k (fun kq v5 w' => ∃ (x5_1 : Int), v5 = .int .i64 x5_1 ∧ Aside0 (laws_eqIntS.l0 kq l0 l1 x5_1 = some r) ∧ Aside0 (kq ≤ k) ∧ Drawn0 w w')
  case atStart => exact ⟨(0), tr, H', ⟨Nat.le_refl _⟩, by repeat (first | exact Drawn0.refl _ | apply Drawn0.step)⟩
  case round =>
   clear H'
   try clear c1; try clear c3; try clear c3b0; try clear c3b1; try clear c3b2
   obtain ⟨x5_1, rfl, HA, HK1, ⟨m1, rfl⟩⟩ := hrel
   cases gk with
   | zero => exact absurd HA.out (by simp [laws_eqIntS.l0])
   | succ k1 =>
    have H := HA.out
    clear HA
    simp only [laws_eqIntS.l0] at H
    by_cases c4 : x5_1 < (l0.length : Int)
    ·rw [if_pos c4] at H
     have c4b0 : decide (x5_1 < (l0.length : Int)) = true := decide_eq_true c4
     clear c4
     by_cases c5 : 0 ≤ x5_1
     ·rw [if_pos c5] at H
      have c5b0 : decide (0 ≤ x5_1) = true := decide_eq_true c5
      clear c5
      by_cases c6 : x5_1 < (l1.length : Int)
      ·rw [if_pos c6] at H
       have c6b0 : decide (x5_1 < (l1.length : Int)) = true := decide_eq_true c6
       clear c6
       by_cases c7 : (rd l0 x5_1) = (rd l1 x5_1)
       ·rw [if_pos c7] at H
        have c7b0 : ((rd l0 x5_1) == (rd l1 x5_1)) = true := beq_iff_eq.mpr c7
        have c7b1 : ((rd l0 x5_1) != (rd l1 x5_1)) = false := bne_eq_false_iff_eq.mpr c7
        clear c7
        have H' := Aside0.mk H
        clear H
        have p285 : 0 ≤ (x5_1 : Int) := td
        have q285 : x5_1 < (l0.length : Int) := td
        obtain ⟨ad285, e285, hx285_0⟩ := Kd.at_int HR0.out x5_1 p285 q285
        cases e285
        replace p285 := eq_true p285
        replace q285 := eq_true q285
        have p286 : 0 ≤ (x5_1 : Int) := td
        have q286 : x5_1 < (l1.length : Int) := td
        obtain ⟨ad286, e286, hx286_0⟩ := Kd.at_int HR1.out x5_1 p286 q286
        cases e286
        replace p286 := eq_true p286
        replace q286 := eq_true q286
        go_wp2
        repeat (go_quiet (fail); try go_wp2)
        go_roundg k1
        case measure => have := HK1.out; omega
        case rel => exact ⟨(wrap64 (x5_1 + 1)), tr, H', ⟨by have := HK1.out; omega⟩, by repeat (first | exact Drawn0.refl _ | apply Drawn0.step)⟩
       ·rw [if_neg c7] at H
        have c7b0 : ((rd l0 x5_1) == (rd l1 x5_1)) = false := beq_eq_false_iff_ne.mpr c7
        have c7b1 : ((rd l0 x5_1) != (rd l1 x5_1)) = true := bne_iff_ne.mpr c7
        obtain rfl := Option.some.inj H
        have p285 : 0 ≤ (x5_1 : Int) := td
        have q285 : x5_1 < (l0.length : Int) := td
        obtain ⟨ad285, e285, hx285_0⟩ := Kd.at_int HR0.out x5_1 p285 q285
        cases e285
        replace p285 := eq_true p285
        replace q285 := eq_true q285
        have p286 : 0 ≤ (x5_1 : Int) := td
        have q286 : x5_1 < (l1.length : Int) := td
        obtain ⟨ad286, e286, hx286_0⟩ := Kd.at_int HR1.out x5_1 p286 q286
        cases e286
        replace p286 := eq_true p286
        replace q286 := eq_true q286
        go_wp2
        repeat (go_quiet (fail); try go_wp2)
        go_ret
        exact ⟨by first | rfl | (simp; done) | (simp [*]; done), by repeat (first | exact Drawn0.refl _ | apply Drawn0.step)⟩
      ·rw [if_neg c6] at H
       exact absurd H (by simp)
     ·rw [if_neg c5] at H
      exact absurd H (by simp)
    ·rw [if_neg c4] at H
     have c4b0 : decide (x5_1 < (l0.length : Int)) = false := decide_eq_false c4
     clear c4
     obtain rfl := Option.some.inj H
     go_wp2
     repeat (go_quiet (fail); try go_wp2)
     go_ret
     exact ⟨by first | rfl | (simp; done) | (simp [*]; done), by repeat (first | exact Drawn0.refl _ | apply Drawn0.step)⟩
 ·rw [if_neg c3] at H
  have c3b0 : ((l0.length : Int) == (l1.length : Int)) = false := beq_eq_false_iff_ne.mpr c3
  have c3b1 : ((l0.length : Int) != (l1.length : Int)) = true := bne_iff_ne.mpr c3
  have c3b2 : (l0.length == l1.length) = false := by first | simpa using c3 | (simp at c3 ⊢; omega)
  obtain rfl := Option.some.inj H
  go_enter Tryd.func61, Tryd.ntmps61
  go_wp2
  repeat (go_quiet (fail); try go_wp2)
  go_ret
  exact ⟨by first | rfl | (simp; done) | (simp [*]; done), by repeat (first | exact Drawn0.refl _ | apply Drawn0.step)⟩

def laws_eqRecord.f (k : Nat) (a0_0 : Int) (a0_1 : Int) (a0_2 : Bool) (l0_3 : List Int) (a0_4 : Bool) (l0_5 : List Int) (a1_0 : Int) (a1_1 : Int) (a1_2 : Bool) (l1_3 : List Int) (a1_4 : Bool) (l1_5 : List Int) : Option (Bool) := if a0_0 = a1_0 then (if a0_1 = a1_1 then (if (a0_2 != a1_2) = true then (some false) else ((laws_eqIntS.f k l0_3 l1_3).bind fun t289 => (if t289 = true then (if (a0_4 != a1_4) = true then (some false) else ((laws_eqIntS.f k l0_5 l1_5).bind fun t290 => (if t290 = true then (some true) else (some false)))) else (some false)))) else (some false)) else (some false)
set_option maxHeartbeats 8000000 in
set_option maxRecDepth 100000 in
theorem laws_eqRecord.calls (k : Nat) (a0_0 : Int) (a0_1 : Int) (a0_2 : Bool) (A0_3 : Option Addr) (c0_3 : Nat) (l0_3 : List Int) (a0_4 : Bool) (A0_5 : Option Addr) (c0_5 : Nat) (l0_5 : List Int) (a1_0 : Int) (a1_1 : Int) (a1_2 : Bool) (A1_3 : Option Addr) (c1_3 : Nat) (l1_3 : List Int) (a1_4 : Bool) (A1_5 : Option Addr) (c1_5 : Nat) (l1_5 : List Int) (r : Bool) (w : World) (hr0_3 : Kd.C (Kd.int .i64) w A0_3 l0_3.length l0_3) (hc0_3 : l0_3.length ≤ c0_3) (hr0_5 : Kd.C (Kd.int .i64) w A0_5 l0_5.length l0_5) (hc0_5 : l0_5.length ≤ c0_5) (hr1_3 : Kd.C (Kd.int .i64) w A1_3 l1_3.length l1_3) (hc1_3 : l1_3.length ≤ c1_3) (hr1_5 : Kd.C (Kd.int .i64) w A1_5 l1_5.length l1_5) (hc1_5 : l1_5.length ≤ c1_5) (h : laws_eqRecord.f k a0_0 a0_1 a0_2 l0_3 a0_4 l0_5 a1_0 a1_1 a1_2 l1_3 a1_4 l1_5 = some r) :
  Calls Tryd.prog 51 #[.agg #[.int .i64 a0_0, .int .i64 a0_1, .bool a0_2, .slice A0_3 l0_3.length c0_3, .bool a0_4, .slice A0_5 l0_5.length c0_5], .agg #[.int .i64 a1_0, .int .i64 a1_1, .bool a1_2, .slice A1_3 l1_3.length c1_3, .bool a1_4, .slice A1_5 l1_5.length c1_5]] w fun e w' => e = .returned (.bool r) ∧ Below w.heap.size w w' := by
 have hu62 := Tryd.underlying62
 have HR0_3 := Aside0.mk hr0_3
 have HC0_3 := Aside0.mk hc0_3
 clear hr0_3 hc0_3
 have HR0_5 := Aside0.mk hr0_5
 have HC0_5 := Aside0.mk hc0_5
 clear hr0_5 hc0_5
 have HR1_3 := Aside0.mk hr1_3
 have HC1_3 := Aside0.mk hc1_3
 clear hr1_3 hc1_3
 have HR1_5 := Aside0.mk hr1_5
 have HC1_5 := Aside0.mk hc1_5
 clear hr1_5 hc1_5
 have HB := Aside0.mk (Below.refl w.heap.size w)
 have H : (if a0_0 = a1_0 then (if a0_1 = a1_1 then (if (a0_2 != a1_2) = true then (some false) else ((laws_eqIntS.f k l0_3 l1_3).bind fun t289 => (if t289 = true then (if (a0_4 != a1_4) = true then (some false) else ((laws_eqIntS.f k l0_5 l1_5).bind fun t290 => (if t290 = true then (some true) else (some false)))) else (some false)))) else (some false)) else (some false)) = some r := h
 clear h
 by_cases c3 : a0_0 = a1_0
 ·rw [if_pos c3] at H
  have c3b0 : (a0_0 == a1_0) = true := beq_iff_eq.mpr c3
  have c3b1 : (a0_0 != a1_0) = false := bne_eq_false_iff_eq.mpr c3
  clear c3
  by_cases c4 : a0_1 = a1_1
  ·rw [if_pos c4] at H
   have c4b0 : (a0_1 == a1_1) = true := beq_iff_eq.mpr c4
   have c4b1 : (a0_1 != a1_1) = false := bne_eq_false_iff_eq.mpr c4
   clear c4
   by_cases c5 : (a0_2 != a1_2) = true
   ·rw [if_pos c5] at H
    have c5b0 : (a0_2 != a1_2) = true := c5
    (try (have c5b1 : decide (a0_2 = a1_2) = false := by simpa using c5))
    (try (have c5b2 : (a0_2 == a1_2) = false := by simpa using c5))
    (try (have c5b3 : ¬ (a0_2 = a1_2) := by simpa using c5))
    clear c5
    obtain rfl := Option.some.inj H
    go_enter Tryd.func51, Tryd.ntmps51
    go_wp2_with (first | ((with_reducible refine gate_dst (N := 2) rfl ?_); refine box_event ?hg (N := 2) ?hd (cs := #[.int .i64 a0_0, .int .i64 a0_1, .bool a0_2, .slice A0_3 l0_3.length c0_3, .bool a0_4, .slice A0_5 l0_5.length c0_5]) (t := 62) ?hr ?_; (case hd => rfl); (case hg => rfl); (case hr => first | (go_simp; done) | (go_simp; rfl)); intro gb287 hg w6 hbox hb; have BK287 := Aside0.mk (hbox); have GW287 := tge HB hg; have GE287 := tge HB hg; replace HB := tBs HB hb; clear hb hbox hg) | ((with_reducible refine gate_dst (N := 3) rfl ?_); refine box_event ?hg (N := 3) ?hd (cs := #[.int .i64 a1_0, .int .i64 a1_1, .bool a1_2, .slice A1_3 l1_3.length c1_3, .bool a1_4, .slice A1_5 l1_5.length c1_5]) (t := 62) ?hr ?_; (case hd => rfl); (case hg => rfl); (case hr => first | (go_simp; done) | (go_simp; rfl)); intro gb288 hg w7 hbox hb; have BK288 := Aside0.mk (hbox); have GW288 := tge HB hg; have GE288 := tge HB hg; replace HB := tBs HB hb; have NB287_288 := tlt BK287 hg; have NB288_287 := tgt BK287 hg; replace BK287 := tBb BK287 hb; clear hb hbox hg; have hnb8 := NB287_288.out; have hnc8 := NB288_287.out; obtain ⟨hcz9_0, hcz9_1, hcz9_2, hcz9_3, hcz9_4, hcz9_5, hfz9_0, hfz9_1, hfz9_2, hfz9_3, hfz9_4, hfz9_5⟩ := cells6 BK287.out; obtain ⟨hcz10_0, hcz10_1, hcz10_2, hcz10_3, hcz10_4, hcz10_5, hfz10_0, hfz10_1, hfz10_2, hfz10_3, hfz10_4, hfz10_5⟩ := cells6 BK288.out))
    go_ret
    exact ⟨by first | rfl | (simp [errW_none, errW_some] <;> rfl) | (simp [*, errW_none, errW_some] <;> rfl), zb⟩
   ·rw [if_neg c5] at H
    have c5b0 : (a0_2 != a1_2) = false := by simpa using c5
    (try (have c5b1 : decide (a0_2 = a1_2) = true := by simpa using c5))
    (try (have c5b2 : (a0_2 == a1_2) = true := by simpa using c5))
    clear c5
    replace H := tbe H
    obtain ⟨t289, A11, H⟩ := H
    by_cases c12 : t289 = true
    ·subst c12
     rw [if_pos rfl] at H
     by_cases c13 : (a0_4 != a1_4) = true
     ·rw [if_pos c13] at H
      have c13b0 : (a0_4 != a1_4) = true := c13
      (try (have c13b1 : decide (a0_4 = a1_4) = false := by simpa using c13))
      (try (have c13b2 : (a0_4 == a1_4) = false := by simpa using c13))
      (try (have c13b3 : ¬ (a0_4 = a1_4) := by simpa using c13))
      clear c13
      obtain rfl := Option.some.inj H
      go_enter Tryd.func51, Tryd.ntmps51
      go_wp2_with (first | ((with_reducible refine gate_dst (N := 2) rfl ?_); refine box_event ?hg (N := 2) ?hd (cs := #[.int .i64 a0_0, .int .i64 a0_1, .bool a0_2, .slice A0_3 l0_3.length c0_3, .bool a0_4, .slice A0_5 l0_5.length c0_5]) (t := 62) ?hr ?_; (case hd => rfl); (case hg => rfl); (case hr => first | (go_simp; done) | (go_simp; rfl)); intro gb287 hg w14 hbox hb; have BK287 := Aside0.mk (hbox); have GW287 := tge HB hg; have GE287 := tge HB hg; replace HB := tBs HB hb; clear hb hbox hg) | ((with_reducible refine gate_dst (N := 3) rfl ?_); refine box_event ?hg (N := 3) ?hd (cs := #[.int .i64 a1_0, .int .i64 a1_1, .bool a1_2, .slice A1_3 l1_3.length c1_3, .bool a1_4, .slice A1_5 l1_5.length c1_5]) (t := 62) ?hr ?_; (case hd => rfl); (case hg => rfl); (case hr => first | (go_simp; done) | (go_simp; rfl)); intro gb288 hg w15 hbox hb; have BK288 := Aside0.mk (hbox); have GW288 := tge HB hg; have GE288 := tge HB hg; replace HB := tBs HB hb; have NB287_288 := tlt BK287 hg; have NB288_287 := tgt BK287 hg; replace BK287 := tBb BK287 hb; clear hb hbox hg; have hnb16 := NB287_288.out; have hnc16 := NB288_287.out; obtain ⟨hcz17_0, hcz17_1, hcz17_2, hcz17_3, hcz17_4, hcz17_5, hfz17_0, hfz17_1, hfz17_2, hfz17_3, hfz17_4, hfz17_5⟩ := cells6 BK287.out; obtain ⟨hcz18_0, hcz18_1, hcz18_2, hcz18_3, hcz18_4, hcz18_5, hfz18_0, hfz18_1, hfz18_2, hfz18_3, hfz18_4, hfz18_5⟩ := cells6 BK288.out) | ((with_reducible refine gate_callee (f := 61) rfl ?_); refine goesL_ (some 24) rfl rfl Tryd.func61 (by kernel_rfl) rfl #[.slice A0_3 l0_3.length c0_3, .slice A1_3 l1_3.length c1_3] rfl tq ?_; (with_reducible refine (laws_eqIntS.calls k _ _ l0_3 _ _ l1_3 true _ ?side1 ?side2 ?side3 ?side4 A11.out).mono ?_); (case side1 => exact tC (Kd.C_below HR0_3.out HB.out)); (case side2 => exact HC0_3.out); (case side3 => exact tC (Kd.C_below HR1_3.out HB.out)); (case side4 => exact HC1_3.out); rintro e w' ⟨rfl, ⟨nd, rfl⟩⟩; refine ⟨_, rfl, ?_⟩))
      go_ret
      exact ⟨by first | rfl | (simp [errW_none, errW_some] <;> rfl) | (simp [*, errW_none, errW_some] <;> rfl), zb⟩
     ·rw [if_neg c13] at H
      have c13b0 : (a0_4 != a1_4) = false := by simpa using c13
      (try (have c13b1 : decide (a0_4 = a1_4) = true := by simpa using c13))
      (try (have c13b2 : (a0_4 == a1_4) = true := by simpa using c13))
      clear c13
      replace H := tbe H
      obtain ⟨t290, A19, H⟩ := H
      by_cases c20 : t290 = true
      ·subst c20
       rw [if_pos rfl] at H
       obtain rfl := Option.some.inj H
       go_enter Tryd.func51, Tryd.ntmps51
       go_wp2_with (first | ((with_reducible refine gate_dst (N := 2) rfl ?_); refine box_event ?hg (N := 2) ?hd (cs := #[.int .i64 a0_0, .int .i64 a0_1, .bool a0_2, .slice A0_3 l0_3.length c0_3, .bool a0_4, .slice A0_5 l0_5.length c0_5]) (t := 62) ?hr ?_; (case hd => rfl); (case hg => rfl); (case hr => first | (go_simp; done) | (go_simp; rfl)); intro gb287 hg w21 hbox hb; have BK287 := Aside0.mk (hbox); have GW287 := tge HB hg; have GE287 := tge HB hg; replace HB := tBs HB hb; clear hb hbox hg) | ((with_reducible refine gate_dst (N := 3) rfl ?_); refine box_event ?hg (N := 3) ?hd (cs := #[.int .i64 a1_0, .int .i64 a1_1, .bool a1_2, .slice A1_3 l1_3.length c1_3, .bool a1_4, .slice A1_5 l1_5.length c1_5]) (t := 62) ?hr ?_; (case hd => rfl); (case hg => rfl); (case hr => first | (go_simp; done) | (go_simp; rfl)); intro gb288 hg w22 hbox hb; have BK288 := Aside0.mk (hbox); have GW288 := tge HB hg; have GE288 := tge HB hg; replace HB := tBs HB hb; have NB287_288 := tlt BK287 hg; have NB288_287 := tgt BK287 hg; replace BK287 := tBb BK287 hb; clear hb hbox hg; have hnb23 := NB287_288.out; have hnc23 := NB288_287.out; obtain ⟨hcz24_0, hcz24_1, hcz24_2, hcz24_3, hcz24_4, hcz24_5, hfz24_0, hfz24_1, hfz24_2, hfz24_3, hfz24_4, hfz24_5⟩ := cells6 BK287.out; obtain ⟨hcz25_0, hcz25_1, hcz25_2, hcz25_3, hcz25_4, hcz25_5, hfz25_0, hfz25_1, hfz25_2, hfz25_3, hfz25_4, hfz25_5⟩ := cells6 BK288.out) | ((with_reducible refine gate_callee (f := 61) rfl ?_); refine goesL_ (some 24) rfl rfl Tryd.func61 (by kernel_rfl) rfl #[.slice A0_3 l0_3.length c0_3, .slice A1_3 l1_3.length c1_3] rfl tq ?_; (with_reducible refine (laws_eqIntS.calls k _ _ l0_3 _ _ l1_3 true _ ?side1 ?side2 ?side3 ?side4 A11.out).mono ?_); (case side1 => exact tC (Kd.C_below HR0_3.out HB.out)); (case side2 => exact HC0_3.out); (case side3 => exact tC (Kd.C_below HR1_3.out HB.out)); (case side4 => exact HC1_3.out); rintro e w' ⟨rfl, ⟨nd, rfl⟩⟩; refine ⟨_, rfl, ?_⟩) | ((with_reducible refine gate_callee (f := 61) rfl ?_); refine goesL_ (some 35) rfl rfl Tryd.func61 (by kernel_rfl) rfl #[.slice A0_5 l0_5.length c0_5, .slice A1_5 l1_5.length c1_5] rfl tq ?_; (with_reducible refine (laws_eqIntS.calls k _ _ l0_5 _ _ l1_5 true _ ?side1 ?side2 ?side3 ?side4 A19.out).mono ?_); (case side1 => exact tC (Kd.C_below HR0_5.out zb)); (case side2 => exact HC0_5.out); (case side3 => exact tC (Kd.C_below HR1_5.out zb)); (case side4 => exact HC1_5.out); rintro e w' ⟨rfl, ⟨nd, rfl⟩⟩; refine ⟨_, rfl, ?_⟩))
       go_ret
       exact ⟨by first | rfl | (simp [errW_none, errW_some] <;> rfl) | (simp [*, errW_none, errW_some] <;> rfl), zb⟩
      ·replace c20 := Bool.eq_false_iff.mpr c20
       subst c20
       rw [if_neg (show ¬ (false = true) by decide)] at H
       obtain rfl := Option.some.inj H
       go_enter Tryd.func51, Tryd.ntmps51
       go_wp2_with (first | ((with_reducible refine gate_dst (N := 2) rfl ?_); refine box_event ?hg (N := 2) ?hd (cs := #[.int .i64 a0_0, .int .i64 a0_1, .bool a0_2, .slice A0_3 l0_3.length c0_3, .bool a0_4, .slice A0_5 l0_5.length c0_5]) (t := 62) ?hr ?_; (case hd => rfl); (case hg => rfl); (case hr => first | (go_simp; done) | (go_simp; rfl)); intro gb287 hg w26 hbox hb; have BK287 := Aside0.mk (hbox); have GW287 := tge HB hg; have GE287 := tge HB hg; replace HB := tBs HB hb; clear hb hbox hg) | ((with_reducible refine gate_dst (N := 3) rfl ?_); refine box_event ?hg (N := 3) ?hd (cs := #[.int .i64 a1_0, .int .i64 a1_1, .bool a1_2, .slice A1_3 l1_3.length c1_3, .bool a1_4, .slice A1_5 l1_5.length c1_5]) (t := 62) ?hr ?_; (case hd => rfl); (case hg => rfl); (case hr => first | (go_simp; done) | (go_simp; rfl)); intro gb288 hg w27 hbox hb; have BK288 := Aside0.mk (hbox); have GW288 := tge HB hg; have GE288 := tge HB hg; replace HB := tBs HB hb; have NB287_288 := tlt BK287 hg; have NB288_287 := tgt BK287 hg; replace BK287 := tBb BK287 hb; clear hb hbox hg; have hnb28 := NB287_288.out; have hnc28 := NB288_287.out; obtain ⟨hcz29_0, hcz29_1, hcz29_2, hcz29_3, hcz29_4, hcz29_5, hfz29_0, hfz29_1, hfz29_2, hfz29_3, hfz29_4, hfz29_5⟩ := cells6 BK287.out; obtain ⟨hcz30_0, hcz30_1, hcz30_2, hcz30_3, hcz30_4, hcz30_5, hfz30_0, hfz30_1, hfz30_2, hfz30_3, hfz30_4, hfz30_5⟩ := cells6 BK288.out) | ((with_reducible refine gate_callee (f := 61) rfl ?_); refine goesL_ (some 24) rfl rfl Tryd.func61 (by kernel_rfl) rfl #[.slice A0_3 l0_3.length c0_3, .slice A1_3 l1_3.length c1_3] rfl tq ?_; (with_reducible refine (laws_eqIntS.calls k _ _ l0_3 _ _ l1_3 true _ ?side1 ?side2 ?side3 ?side4 A11.out).mono ?_); (case side1 => exact tC (Kd.C_below HR0_3.out HB.out)); (case side2 => exact HC0_3.out); (case side3 => exact tC (Kd.C_below HR1_3.out HB.out)); (case side4 => exact HC1_3.out); rintro e w' ⟨rfl, ⟨nd, rfl⟩⟩; refine ⟨_, rfl, ?_⟩) | ((with_reducible refine gate_callee (f := 61) rfl ?_); refine goesL_ (some 35) rfl rfl Tryd.func61 (by kernel_rfl) rfl #[.slice A0_5 l0_5.length c0_5, .slice A1_5 l1_5.length c1_5] rfl tq ?_; (with_reducible refine (laws_eqIntS.calls k _ _ l0_5 _ _ l1_5 false _ ?side1 ?side2 ?side3 ?side4 A19.out).mono ?_); (case side1 => exact tC (Kd.C_below HR0_5.out zb)); (case side2 => exact HC0_5.out); (case side3 => exact tC (Kd.C_below HR1_5.out zb)); (case side4 => exact HC1_5.out); rintro e w' ⟨rfl, ⟨nd, rfl⟩⟩; refine ⟨_, rfl, ?_⟩))
       go_ret
       exact ⟨by first | rfl | (simp [errW_none, errW_some] <;> rfl) | (simp [*, errW_none, errW_some] <;> rfl), zb⟩
    ·replace c12 := Bool.eq_false_iff.mpr c12
     subst c12
     rw [if_neg (show ¬ (false = true) by decide)] at H
     obtain rfl := Option.some.inj H
     go_enter Tryd.func51, Tryd.ntmps51
     go_wp2_with (first | ((with_reducible refine gate_dst (N := 2) rfl ?_); refine box_event ?hg (N := 2) ?hd (cs := #[.int .i64 a0_0, .int .i64 a0_1, .bool a0_2, .slice A0_3 l0_3.length c0_3, .bool a0_4, .slice A0_5 l0_5.length c0_5]) (t := 62) ?hr ?_; (case hd => rfl); (case hg => rfl); (case hr => first | (go_simp; done) | (go_simp; rfl)); intro gb287 hg w31 hbox hb; have BK287 := Aside0.mk (hbox); have GW287 := tge HB hg; have GE287 := tge HB hg; replace HB := tBs HB hb; clear hb hbox hg) | ((with_reducible refine gate_dst (N := 3) rfl ?_); refine box_event ?hg (N := 3) ?hd (cs := #[.int .i64 a1_0, .int .i64 a1_1, .bool a1_2, .slice A1_3 l1_3.length c1_3, .bool a1_4, .slice A1_5 l1_5.length c1_5]) (t := 62) ?hr ?_; (case hd => rfl); (case hg => rfl); (case hr => first | (go_simp; done) | (go_simp; rfl)); intro gb288 hg w32 hbox hb; have BK288 := Aside0.mk (hbox); have GW288 := tge HB hg; have GE288 := tge HB hg; replace HB := tBs HB hb; have NB287_288 := tlt BK287 hg; have NB288_287 := tgt BK287 hg; replace BK287 := tBb BK287 hb; clear hb hbox hg; have hnb33 := NB287_288.out; have hnc33 := NB288_287.out; obtain ⟨hcz34_0, hcz34_1, hcz34_2, hcz34_3, hcz34_4, hcz34_5, hfz34_0, hfz34_1, hfz34_2, hfz34_3, hfz34_4, hfz34_5⟩ := cells6 BK287.out; obtain ⟨hcz35_0, hcz35_1, hcz35_2, hcz35_3, hcz35_4, hcz35_5, hfz35_0, hfz35_1, hfz35_2, hfz35_3, hfz35_4, hfz35_5⟩ := cells6 BK288.out) | ((with_reducible refine gate_callee (f := 61) rfl ?_); refine goesL_ (some 24) rfl rfl Tryd.func61 (by kernel_rfl) rfl #[.slice A0_3 l0_3.length c0_3, .slice A1_3 l1_3.length c1_3] rfl tq ?_; (with_reducible refine (laws_eqIntS.calls k _ _ l0_3 _ _ l1_3 false _ ?side1 ?side2 ?side3 ?side4 A11.out).mono ?_); (case side1 => exact tC (Kd.C_below HR0_3.out HB.out)); (case side2 => exact HC0_3.out); (case side3 => exact tC (Kd.C_below HR1_3.out HB.out)); (case side4 => exact HC1_3.out); rintro e w' ⟨rfl, ⟨nd, rfl⟩⟩; refine ⟨_, rfl, ?_⟩))
     go_ret
     exact ⟨by first | rfl | (simp [errW_none, errW_some] <;> rfl) | (simp [*, errW_none, errW_some] <;> rfl), zb⟩
  ·rw [if_neg c4] at H
   have c4b0 : (a0_1 == a1_1) = false := beq_eq_false_iff_ne.mpr c4
   have c4b1 : (a0_1 != a1_1) = true := bne_iff_ne.mpr c4
   obtain rfl := Option.some.inj H
   go_enter Tryd.func51, Tryd.ntmps51
   go_wp2_with (first | ((with_reducible refine gate_dst (N := 2) rfl ?_); refine box_event ?hg (N := 2) ?hd (cs := #[.int .i64 a0_0, .int .i64 a0_1, .bool a0_2, .slice A0_3 l0_3.length c0_3, .bool a0_4, .slice A0_5 l0_5.length c0_5]) (t := 62) ?hr ?_; (case hd => rfl); (case hg => rfl); (case hr => first | (go_simp; done) | (go_simp; rfl)); intro gb287 hg w36 hbox hb; have BK287 := Aside0.mk (hbox); have GW287 := tge HB hg; have GE287 := tge HB hg; replace HB := tBs HB hb; clear hb hbox hg) | ((with_reducible refine gate_dst (N := 3) rfl ?_); refine box_event ?hg (N := 3) ?hd (cs := #[.int .i64 a1_0, .int .i64 a1_1, .bool a1_2, .slice A1_3 l1_3.length c1_3, .bool a1_4, .slice A1_5 l1_5.length c1_5]) (t := 62) ?hr ?_; (case hd => rfl); (case hg => rfl); (case hr => first | (go_simp; done) | (go_simp; rfl)); intro gb288 hg w37 hbox hb; have BK288 := Aside0.mk (hbox); have GW288 := tge HB hg; have GE288 := tge HB hg; replace HB := tBs HB hb; have NB287_288 := tlt BK287 hg; have NB288_287 := tgt BK287 hg; replace BK287 := tBb BK287 hb; clear hb hbox hg; have hnb38 := NB287_288.out; have hnc38 := NB288_287.out; obtain ⟨hcz39_0, hcz39_1, hcz39_2, hcz39_3, hcz39_4, hcz39_5, hfz39_0, hfz39_1, hfz39_2, hfz39_3, hfz39_4, hfz39_5⟩ := cells6 BK287.out; obtain ⟨hcz40_0, hcz40_1, hcz40_2, hcz40_3, hcz40_4, hcz40_5, hfz40_0, hfz40_1, hfz40_2, hfz40_3, hfz40_4, hfz40_5⟩ := cells6 BK288.out))
   go_ret
   exact ⟨by first | rfl | (simp [errW_none, errW_some] <;> rfl) | (simp [*, errW_none, errW_some] <;> rfl), zb⟩
 ·rw [if_neg c3] at H
  have c3b0 : (a0_0 == a1_0) = false := beq_eq_false_iff_ne.mpr c3
  have c3b1 : (a0_0 != a1_0) = true := bne_iff_ne.mpr c3
  obtain rfl := Option.some.inj H
  go_enter Tryd.func51, Tryd.ntmps51
  go_wp2_with (first | ((with_reducible refine gate_dst (N := 2) rfl ?_); refine box_event ?hg (N := 2) ?hd (cs := #[.int .i64 a0_0, .int .i64 a0_1, .bool a0_2, .slice A0_3 l0_3.length c0_3, .bool a0_4, .slice A0_5 l0_5.length c0_5]) (t := 62) ?hr ?_; (case hd => rfl); (case hg => rfl); (case hr => first | (go_simp; done) | (go_simp; rfl)); intro gb287 hg w41 hbox hb; have BK287 := Aside0.mk (hbox); have GW287 := tge HB hg; have GE287 := tge HB hg; replace HB := tBs HB hb; clear hb hbox hg) | ((with_reducible refine gate_dst (N := 3) rfl ?_); refine box_event ?hg (N := 3) ?hd (cs := #[.int .i64 a1_0, .int .i64 a1_1, .bool a1_2, .slice A1_3 l1_3.length c1_3, .bool a1_4, .slice A1_5 l1_5.length c1_5]) (t := 62) ?hr ?_; (case hd => rfl); (case hg => rfl); (case hr => first | (go_simp; done) | (go_simp; rfl)); intro gb288 hg w42 hbox hb; have BK288 := Aside0.mk (hbox); have GW288 := tge HB hg; have GE288 := tge HB hg; replace HB := tBs HB hb; have NB287_288 := tlt BK287 hg; have NB288_287 := tgt BK287 hg; replace BK287 := tBb BK287 hb; clear hb hbox hg; have hnb43 := NB287_288.out; have hnc43 := NB288_287.out; obtain ⟨hcz44_0, hcz44_1, hcz44_2, hcz44_3, hcz44_4, hcz44_5, hfz44_0, hfz44_1, hfz44_2, hfz44_3, hfz44_4, hfz44_5⟩ := cells6 BK287.out; obtain ⟨hcz45_0, hcz45_1, hcz45_2, hcz45_3, hcz45_4, hcz45_5, hfz45_0, hfz45_1, hfz45_2, hfz45_3, hfz45_4, hfz45_5⟩ := cells6 BK288.out))
  go_ret
  exact ⟨by first | rfl | (simp [errW_none, errW_some] <;> rfl) | (simp [*, errW_none, errW_some] <;> rfl), zb⟩

def laws_eqRecordS.l0 : Nat → List (S62) → List (S62) → Int → Option (Bool)
 | 0, _, _, _ => none
 | k + 1, x0, x1, x5 => if x5 < (x0.length : Int) then (if 0 ≤ x5 then (if x5 < (x1.length : Int) then ((laws_eqRecord.f k ((rd_T62 x0 x5).f0) ((rd_T62 x0 x5).f1) ((rd_T62 x0 x5).f2) ((rd_T62 x0 x5).f3) ((rd_T62 x0 x5).f4) ((rd_T62 x0 x5).f5) ((rd_T62 x1 x5).f0) ((rd_T62 x1 x5).f1) ((rd_T62 x1 x5).f2) ((rd_T62 x1 x5).f3) ((rd_T62 x1 x5).f4) ((rd_T62 x1 x5).f5)).bind fun t293 => (if t293 = true then (laws_eqRecordS.l0 k x0 x1 (wrap64 (x5 + 1))) else (some false))) else (none)) else (none)) else (some true)
def laws_eqRecordS.f (k : Nat) (l0 : List (S62)) (l1 : List (S62)) : Option (Bool) := if (l0.length : Int) = (l1.length : Int) then (laws_eqRecordS.l0 k l0 l1 0) else (some false)
def laws_eqRecordS.T6 : Bool × List (List Nat × List Nat) := (true, [([], []), ([], []), ([0, 1], [0, 1]), ([2], [2]), ([], []), ([], []), ([4, 5], [4, 5]), ([6], [6]), ([3, 7], [3, 7]), ([8], [8])])
def laws_eqRecordS.B6 : List Nat := [0, 0, 3, 7, 0, 0, 48, 112, 255, 511]
theorem laws_eqRecordS.tab6 : rtab .any (opsOf Tryd.f31 6) = laws_eqRecordS.T6 := by kernel_rfl
theorem laws_eqRecordS.bits6 : waitsOk laws_eqRecordS.T6.2 laws_eqRecordS.B6 = true := by kernel_rfl
set_option maxHeartbeats 8000000 in
set_option maxRecDepth 100000 in
theorem laws_eqRecordS.calls (k : Nat) (A0 : Option Addr) (c0 : Nat) (l0 : List (S62)) (A1 : Option Addr) (c1 : Nat) (l1 : List (S62)) (r : Bool) (w : World) (hr0 : Kd.C k62 w A0 l0.length l0) (hc0 : l0.length ≤ c0) (hr1 : Kd.C k62 w A1 l1.length l1) (hc1 : l1.length ≤ c1) (h : laws_eqRecordS.f k l0 l1 = some r) :
  Calls Tryd.prog 31 #[.slice A0 l0.length c0, .slice A1 l1.length c1] w fun e w' => e = .returned (.bool r) ∧ Below w.heap.size w w' := by
 have hu62 := Tryd.underlying62
 have HR0 := Aside0.mk hr0
 have HC0 := Aside0.mk hc0
 clear hr0 hc0
 have HR1 := Aside0.mk hr1
 have HC1 := Aside0.mk hc1
 clear hr1 hc1
 have HB := Aside0.mk (Below.refl w.heap.size w)
 have H : (if (l0.length : Int) = (l1.length : Int) then (laws_eqRecordS.l0 k l0 l1 0) else (some false)) = some r := h
 clear h
 by_cases c3 : (l0.length : Int) = (l1.length : Int)
 ·rw [if_pos c3] at H
  have c3b0 : ((l0.length : Int) == (l1.length : Int)) = true := beq_iff_eq.mpr c3
  have c3b1 : ((l0.length : Int) != (l1.length : Int)) = false := bne_eq_false_iff_eq.mpr c3
  have c3b2 : (l0.length == l1.length) = true := by first | simpa using c3 | (simp at c3 ⊢; omega)
  clear c3
  have H' := Aside0.mk H
  clear H
  go_enter Tryd.func31, Tryd.ntmps31
  go_wp2
  go_loopg [5] k (fun kq v5 w' => ∃ (x5_1 : Int), v5 = .int .i64 x5_1 ∧ Aside0 (laws_eqRecordS.l0 kq l0 l1 x5_1 = some r) ∧ Aside0 (kq ≤ k) ∧ Aside0 (Below w.heap.size w w'))
  case atStart => exact ⟨(0), tr, H', ⟨Nat.le_refl _⟩, ⟨zb⟩⟩
  case round =>
   clear H'
   try clear c1; try clear c3; try clear c3b0; try clear c3b1; try clear c3b2
   obtain ⟨x5_1, rfl, HA, HK1, HB⟩ := hrel
   cases gk with
   | zero => exact absurd HA.out (by simp [laws_eqRecordS.l0])
   | succ k1 =>
    have H := HA.out
    clear HA
    simp only [laws_eqRecordS.l0] at H
    by_cases c4 : x5_1 < (l0.length : Int)
    ·rw [if_pos c4] at H
     have c4b0 : decide (x5_1 < (l0.length : Int)) = true := decide_eq_true c4
     clear c4
     by_cases c5 : 0 ≤ x5_1
     ·rw [if_pos c5] at H
      have c5b0 : decide (0 ≤ x5_1) = true := decide_eq_true c5
      clear c5
      by_cases c6 : x5_1 < (l1.length : Int)
      ·rw [if_pos c6] at H
       have c6b0 : decide (x5_1 < (l1.length : Int)) = true := decide_eq_true c6
       clear c6
       replace H := tbe H
       obtain ⟨t293, A7, H⟩ := H
       by_cases c8 : t293 = true
       ·subst c8
        rw [if_pos rfl] at H
        have H' := Aside0.mk H
        clear H
        try go_wp2
        replace HB := Aside0.mk (below_drew1 HB.out)
        have p291 : 0 ≤ (x5_1 : Int) := td
        have q291 : x5_1 < (l0.length : Int) := td
        obtain ⟨ad291, A291_3, c291_3, A291_5, c291_5, e291, hx291_0, hx291_1, hx291_2, hx291_3, hx291_4, hx291_5, hl291_3, hi291_3, hl291_5, hi291_5⟩ := at_T62 HR0.out x5_1 p291 q291
        have hw291_5 := hx291_5
        have hw291_4 := hx291_4
        have hw291_3 := hx291_3
        have hw291_2 := hx291_2
        have hw291_1 := hx291_1
        have hw291_0 := hx291_0
        cases e291
        replace hx291_0 := tcl HB hx291_0
        replace hx291_1 := tcl HB hx291_1
        replace hx291_2 := tcl HB hx291_2
        replace hx291_3 := tcl HB hx291_3
        replace hx291_4 := tcl HB hx291_4
        replace hx291_5 := tcl HB hx291_5
        have HR291_3 := Aside0.mk hi291_3
        have HC291_3 := Aside0.mk hl291_3
        clear hi291_3 hl291_3
        have HR291_5 := Aside0.mk hi291_5
        have HC291_5 := Aside0.mk hl291_5
        clear hi291_5 hl291_5
        replace p291 := eq_true p291
        replace q291 := eq_true q291
        have p292 : 0 ≤ (x5_1 : Int) := td
        have q292 : x5_1 < (l1.length : Int) := td
        obtain ⟨ad292, A292_3, c292_3, A292_5, c292_5, e292, hx292_0, hx292_1, hx292_2, hx292_3, hx292_4, hx292_5, hl292_3, hi292_3, hl292_5, hi292_5⟩ := at_T62 HR1.out x5_1 p292 q292
        have hw292_5 := hx292_5
        have hw292_4 := hx292_4
        have hw292_3 := hx292_3
        have hw292_2 := hx292_2
        have hw292_1 := hx292_1
        have hw292_0 := hx292_0
        cases e292
        replace hx292_0 := tcl HB hx292_0
        replace hx292_1 := tcl HB hx292_1
        replace hx292_2 := tcl HB hx292_2
        replace hx292_3 := tcl HB hx292_3
        replace hx292_4 := tcl HB hx292_4
        replace hx292_5 := tcl HB hx292_5
        have HR292_3 := Aside0.mk hi292_3
        have HC292_3 := Aside0.mk hl292_3
        clear hi292_3 hl292_3
        have HR292_5 := Aside0.mk hi292_5
        have HC292_5 := Aside0.mk hl292_5
        clear hi292_5 hl292_5
        replace p292 := eq_true p292
        replace q292 := eq_true q292
        refine start_ (n := 10) (S := fun w' => w'.cell? (ad291.add ((x5_1).toNat * 6)) = some (.int .i64 ((rd_T62 l0 x5_1).f0)) ∧ w'.cell? ⟨(ad291.add ((x5_1).toNat * 6)).block, (ad291.add ((x5_1).toNat * 6)).off + 1, none⟩ = some (.int .i64 ((rd_T62 l0 x5_1).f1)) ∧ w'.cell? ⟨(ad291.add ((x5_1).toNat * 6)).block, (ad291.add ((x5_1).toNat * 6)).off + 2, none⟩ = some (.bool ((rd_T62 l0 x5_1).f2)) ∧ w'.cell? ⟨(ad291.add ((x5_1).toNat * 6)).block, (ad291.add ((x5_1).toNat * 6)).off + 3, none⟩ = some (.slice A291_3 ((rd_T62 l0 x5_1).f3).length c291_3) ∧ w'.cell? ⟨(ad291.add ((x5_1).toNat * 6)).block, (ad291.add ((x5_1).toNat * 6)).off + 4, none⟩ = some (.bool ((rd_T62 l0 x5_1).f4)) ∧ w'.cell? ⟨(ad291.add ((x5_1).toNat * 6)).block, (ad291.add ((x5_1).toNat * 6)).off + 5, none⟩ = some (.slice A291_5 ((rd_T62 l0 x5_1).f5).length c291_5) ∧ w'.cell? (ad292.add ((x5_1).toNat * 6)) = some (.int .i64 ((rd_T62 l1 x5_1).f0)) ∧ w'.cell? ⟨(ad292.add ((x5_1).toNat * 6)).block, (ad292.add ((x5_1).toNat * 6)).off + 1, none⟩ = some (.int .i64 ((rd_T62 l1 x5_1).f1)) ∧ w'.cell? ⟨(ad292.add ((x5_1).toNat * 6)).block, (ad292.add ((x5_1).toNat * 6)).off + 2, none⟩ = some (.bool ((rd_T62 l1 x5_1).f2)) ∧ w'.cell? ⟨(ad292.add ((x5_1).toNat * 6)).block, (ad292.add ((x5_1).toNat * 6)).off + 3, none⟩ = some (.slice A292_3 ((rd_T62 l1 x5_1).f3).length c292_3) ∧ w'.cell? ⟨(ad292.add ((x5_1).toNat * 6)).block, (ad292.add ((x5_1).toNat * 6)).off + 4, none⟩ = some (.bool ((rd_T62 l1 x5_1).f4)) ∧ w'.cell? ⟨(ad292.add ((x5_1).toNat * 6)).block, (ad292.add ((x5_1).toNat * 6)).off + 5, none⟩ = some (.slice A292_5 ((rd_T62 l1 x5_1).f5).length c292_5)) (ds := []) #[false, false, false, false, false, false, false, false, false, false] (by kernel_rfl) rfl rfl ⟨(tcl HB hw291_0), (tcl HB hw291_1), (tcl HB hw291_2), (tcl HB hw291_3), (tcl HB hw291_4), (tcl HB hw291_5), (tcl HB hw292_0), (tcl HB hw292_1), (tcl HB hw292_2), (tcl HB hw292_3), (tcl HB hw292_4), (tcl HB hw292_5)⟩ (fun hHeld => ?_); refine with_tabW laws_eqRecordS.tab6 laws_eqRecordS.bits6 (fun HT_ HW_ => ?_)
        generalize wr.drew = w9 at HB HR291_3 HR291_5 HR292_3 HR292_5 hx291_0 hx291_1 hx291_2 hx291_3 hx291_4 hx291_5 hx292_0 hx292_1 hx292_2 hx292_3 hx292_4 hx292_5 hHeld ⊢
        refine tpu 0 (some 17) #[true, false, false, false, false, false, false, false, false, false] ?_
        refine tpu 1 (some 18) #[true, true, false, false, false, false, false, false, false, false] ?_
        refine tpu 2 (some 19) #[true, true, true, false, false, false, false, false, false, false] ?_
        refine tpu 4 (some 21) #[true, true, true, false, true, false, false, false, false, false] ?_
        refine tpu 5 (some 22) #[true, true, true, false, true, true, false, false, false, false] ?_
        refine tpu 6 (some 23) #[true, true, true, false, true, true, true, false, false, false] ?_
        refine tta 3 (some 20) #[true, true, true, true, true, true, true, false, false, false] hHeld ?_ (hy := by rintro w' ⟨s0, s1, s2, s3, s4, s5, s6, s7, s8, s9, s10, s11⟩; go_simp; with_reducible rfl)
        refine tta 7 (some 24) #[true, true, true, true, true, true, true, true, false, false] hHeld ?_ (hy := by rintro w' ⟨s0, s1, s2, s3, s4, s5, s6, s7, s8, s9, s10, s11⟩; go_simp; with_reducible rfl)
        refine one_ (i := 8) (N := some 25) #[true, true, true, true, true, true, true, true, true, false] rfl rfl (one_of HT_.out (by kernel_rfl)) (by decide) (fun K hK => ?_)
        refine goes_ Tryd.func51 (by kernel_rfl) rfl #[.agg #[.int .i64 ((rd_T62 l0 x5_1).f0), .int .i64 ((rd_T62 l0 x5_1).f1), .bool ((rd_T62 l0 x5_1).f2), .slice A291_3 ((rd_T62 l0 x5_1).f3).length c291_3, .bool ((rd_T62 l0 x5_1).f4), .slice A291_5 ((rd_T62 l0 x5_1).f5).length c291_5], .agg #[.int .i64 ((rd_T62 l1 x5_1).f0), .int .i64 ((rd_T62 l1 x5_1).f1), .bool ((rd_T62 l1 x5_1).f2), .slice A292_3 ((rd_T62 l1 x5_1).f3).length c292_3, .bool ((rd_T62 l1 x5_1).f4), .slice A292_5 ((rd_T62 l1 x5_1).f5).length c292_5]] (by rfl) rfl rfl tq ?_
        with_reducible refine (laws_eqRecord.calls k1 ((rd_T62 l0 x5_1).f0) ((rd_T62 l0 x5_1).f1) ((rd_T62 l0 x5_1).f2) _ _ ((rd_T62 l0 x5_1).f3) ((rd_T62 l0 x5_1).f4) _ _ ((rd_T62 l0 x5_1).f5) ((rd_T62 l1 x5_1).f0) ((rd_T62 l1 x5_1).f1) ((rd_T62 l1 x5_1).f2) _ _ ((rd_T62 l1 x5_1).f3) ((rd_T62 l1 x5_1).f4) _ _ ((rd_T62 l1 x5_1).f5) true _ ?side1 ?side2 ?side3 ?side4 ?side5 ?side6 ?side7 ?side8 A7.out).mono ?_
        (case side1 => exact tC (Kd.C_below HR291_3.out HB.out))
        (case side2 => exact HC291_3.out)
        (case side3 => exact tC (Kd.C_below HR291_5.out HB.out))
        (case side4 => exact HC291_5.out)
        (case side5 => exact tC (Kd.C_below HR292_3.out HB.out))
        (case side6 => exact HC292_3.out)
        (case side7 => exact tC (Kd.C_below HR292_5.out HB.out))
        (case side8 => exact HC292_5.out)
        rintro e w10 ⟨rfl, hb⟩
        refine ⟨_, rfl, ?_⟩
        replace HB := tBs HB hb
        (try clear hb)
        (try clear hb2)
        (try clear hk)
        (try clear hi)
        refine hK.out _ _ ⟨(tcl HB hw291_0), (tcl HB hw291_1), (tcl HB hw291_2), (tcl HB hw291_3), (tcl HB hw291_4), (tcl HB hw291_5), (tcl HB hw292_0), (tcl HB hw292_1), (tcl HB hw292_2), (tcl HB hw292_3), (tcl HB hw292_4), (tcl HB hw292_5)⟩ (fun hHeld => ?_)
        clear hK K
        refine tnm (some 25) ?_
        refine tpu 9 (some 26) #[true, true, true, true, true, true, true, true, true, true] ?_
        refine done_ (done_of HT_.out (by kernel_rfl)) ?_
        try go_wp2
        go_roundg k1
        case measure => have := HK1.out; omega
        case rel => exact ⟨(wrap64 (x5_1 + 1)), tr, H', ⟨by have := HK1.out; omega⟩, ⟨zb⟩⟩
       ·replace c8 := Bool.eq_false_iff.mpr c8
        subst c8
        rw [if_neg (show ¬ (false = true) by decide)] at H
        obtain rfl := Option.some.inj H
        try go_wp2
        replace HB := Aside0.mk (below_drew1 HB.out)
        have p291 : 0 ≤ (x5_1 : Int) := td
        have q291 : x5_1 < (l0.length : Int) := td
        obtain ⟨ad291, A291_3, c291_3, A291_5, c291_5, e291, hx291_0, hx291_1, hx291_2, hx291_3, hx291_4, hx291_5, hl291_3, hi291_3, hl291_5, hi291_5⟩ := at_T62 HR0.out x5_1 p291 q291
        have hw291_5 := hx291_5
        have hw291_4 := hx291_4
        have hw291_3 := hx291_3
        have hw291_2 := hx291_2
        have hw291_1 := hx291_1
        have hw291_0 := hx291_0
        cases e291
        replace hx291_0 := tcl HB hx291_0
        replace hx291_1 := tcl HB hx291_1
        replace hx291_2 := tcl HB hx291_2
        replace hx291_3 := tcl HB hx291_3
        replace hx291_4 := tcl HB hx291_4
        replace hx291_5 := tcl HB hx291_5
        have HR291_3 := Aside0.mk hi291_3
        have HC291_3 := Aside0.mk hl291_3
        clear hi291_3 hl291_3
        have HR291_5 := Aside0.mk hi291_5
        have HC291_5 := Aside0.mk hl291_5
        clear hi291_5 hl291_5
        replace p291 := eq_true p291
        replace q291 := eq_true q291
        have p292 : 0 ≤ (x5_1 : Int) := td
        have q292 : x5_1 < (l1.length : Int) := td
        obtain ⟨ad292, A292_3, c292_3, A292_5, c292_5, e292, hx292_0, hx292_1, hx292_2, hx292_3, hx292_4, hx292_5, hl292_3, hi292_3, hl292_5, hi292_5⟩ := at_T62 HR1.out x5_1 p292 q292
        have hw292_5 := hx292_5
        have hw292_4 := hx292_4
        have hw292_3 := hx292_3
        have hw292_2 := hx292_2
        have hw292_1 := hx292_1
        have hw292_0 := hx292_0
        cases e292
        replace hx292_0 := tcl HB hx292_0
        replace hx292_1 := tcl HB hx292_1
        replace hx292_2 := tcl HB hx292_2
        replace hx292_3 := tcl HB hx292_3
        replace hx292_4 := tcl HB hx292_4
        replace hx292_5 := tcl HB hx292_5
        have HR292_3 := Aside0.mk hi292_3
        have HC292_3 := Aside0.mk hl292_3
        clear hi292_3 hl292_3
        have HR292_5 := Aside0.mk hi292_5
        have HC292_5 := Aside0.mk hl292_5
        clear hi292_5 hl292_5
        replace p292 := eq_true p292
        replace q292 := eq_true q292
        refine start_ (n := 10) (S := fun w' => w'.cell? (ad291.add ((x5_1).toNat * 6)) = some (.int .i64 ((rd_T62 l0 x5_1).f0)) ∧ w'.cell? ⟨(ad291.add ((x5_1).toNat * 6)).block, (ad291.add ((x5_1).toNat * 6)).off + 1, none⟩ = some (.int .i64 ((rd_T62 l0 x5_1).f1)) ∧ w'.cell? ⟨(ad291.add ((x5_1).toNat * 6)).block, (ad291.add ((x5_1).toNat * 6)).off + 2, none⟩ = some (.bool ((rd_T62 l0 x5_1).f2)) ∧ w'.cell? ⟨(ad291.add ((x5_1).toNat * 6)).block, (ad291.add ((x5_1).toNat * 6)).off + 3, none⟩ = some (.slice A291_3 ((rd_T62 l0 x5_1).f3).length c291_3) ∧ w'.cell? ⟨(ad291.add ((x5_1).toNat * 6)).block, (ad291.add ((x5_1).toNat * 6)).off + 4, none⟩ = some (.bool ((rd_T62 l0 x5_1).f4)) ∧ w'.cell? ⟨(ad291.add ((x5_1).toNat * 6)).block, (ad291.add ((x5_1).toNat * 6)).off + 5, none⟩ = some (.slice A291_5 ((rd_T62 l0 x5_1).f5).length c291_5) ∧ w'.cell? (ad292.add ((x5_1).toNat * 6)) = some (.int .i64 ((rd_T62 l1 x5_1).f0)) ∧ w'.cell? ⟨(ad292.add ((x5_1).toNat * 6)).block, (ad292.add ((x5_1).toNat * 6)).off + 1, none⟩ = some (.int .i64 ((rd_T62 l1 x5_1).f1)) ∧ w'.cell? ⟨(ad292.add ((x5_1).toNat * 6)).block, (ad292.add ((x5_1).toNat * 6)).off + 2, none⟩ = some (.bool ((rd_T62 l1 x5_1).f2)) ∧ w'.cell? ⟨(ad292.add ((x5_1).toNat * 6)).block, (ad292.add ((x5_1).toNat * 6)).off + 3, none⟩ = some (.slice A292_3 ((rd_T62 l1 x5_1).f3).length c292_3) ∧ w'.cell? ⟨(ad292.add ((x5_1).toNat * 6)).block, (ad292.add ((x5_1).toNat * 6)).off + 4, none⟩ = some (.bool ((rd_T62 l1 x5_1).f4)) ∧ w'.cell? ⟨(ad292.add ((x5_1).toNat * 6)).block, (ad292.add ((x5_1).toNat * 6)).off + 5, none⟩ = some (.slice A292_5 ((rd_T62 l1 x5_1).f5).length c292_5)) (ds := []) #[false, false, false, false, false, false, false, false, false, false] (by kernel_rfl) rfl rfl ⟨(tcl HB hw291_0), (tcl HB hw291_1), (tcl HB hw291_2), (tcl HB hw291_3), (tcl HB hw291_4), (tcl HB hw291_5), (tcl HB hw292_0), (tcl HB hw292_1), (tcl HB hw292_2), (tcl HB hw292_3), (tcl HB hw292_4), (tcl HB hw292_5)⟩ (fun hHeld => ?_); refine with_tabW laws_eqRecordS.tab6 laws_eqRecordS.bits6 (fun HT_ HW_ => ?_)
        generalize wr.drew = w11 at HB HR291_3 HR291_5 HR292_3 HR292_5 hx291_0 hx291_1 hx291_2 hx291_3 hx291_4 hx291_5 hx292_0 hx292_1 hx292_2 hx292_3 hx292_4 hx292_5 hHeld ⊢
        refine tpu 0 (some 17) #[true, false, false, false, false, false, false, false, false, false] ?_
        refine tpu 1 (some 18) #[true, true, false, false, false, false, false, false, false, false] ?_
        refine tpu 2 (some 19) #[true, true, true, false, false, false, false, false, false, false] ?_
        refine tpu 4 (some 21) #[true, true, true, false, true, false, false, false, false, false] ?_
        refine tpu 5 (some 22) #[true, true, true, false, true, true, false, false, false, false] ?_
        refine tpu 6 (some 23) #[true, true, true, false, true, true, true, false, false, false] ?_
        refine tta 3 (some 20) #[true, true, true, true, true, true, true, false, false, false] hHeld ?_ (hy := by rintro w' ⟨s0, s1, s2, s3, s4, s5, s6, s7, s8, s9, s10, s11⟩; go_simp; with_reducible rfl)
        refine tta 7 (some 24) #[true, true, true, true, true, true, true, true, false, false] hHeld ?_ (hy := by rintro w' ⟨s0, s1, s2, s3, s4, s5, s6, s7, s8, s9, s10, s11⟩; go_simp; with_reducible rfl)
        refine one_ (i := 8) (N := some 25) #[true, true, true, true, true, true, true, true, true, false] rfl rfl (one_of HT_.out (by kernel_rfl)) (by decide) (fun K hK => ?_)
        refine goes_ Tryd.func51 (by kernel_rfl) rfl #[.agg #[.int .i64 ((rd_T62 l0 x5_1).f0), .int .i64 ((rd_T62 l0 x5_1).f1), .bool ((rd_T62 l0 x5_1).f2), .slice A291_3 ((rd_T62 l0 x5_1).f3).length c291_3, .bool ((rd_T62 l0 x5_1).f4), .slice A291_5 ((rd_T62 l0 x5_1).f5).length c291_5], .agg #[.int .i64 ((rd_T62 l1 x5_1).f0), .int .i64 ((rd_T62 l1 x5_1).f1), .bool ((rd_T62 l1 x5_1).f2), .slice A292_3 ((rd_T62 l1 x5_1).f3).length c292_3, .bool ((rd_T62 l1 x5_1).f4), .slice A292_5 ((rd_T62 l1 x5_1).f5).length c292_5]] (by rfl) rfl rfl tq ?_
        with_reducible refine (laws_eqRecord.calls k1 ((rd_T62 l0 x5_1).f0) ((rd_T62 l0 x5_1).f1) ((rd_T62 l0 x5_1).f2) _ _ ((rd_T62 l0 x5_1).f3) ((rd_T62 l0 x5_1).f4) _ _ ((rd_T62 l0 x5_1).f5) ((rd_T62 l1 x5_1).f0) ((rd_T62 l1 x5_1).f1) ((rd_T62 l1 x5_1).f2) _ _ ((rd_T62 l1 x5_1).f3) ((rd_T62 l1 x5_1).f4) _ _ ((rd_T62 l1 x5_1).f5) false _ ?side1 ?side2 ?side3 ?side4 ?side5 ?side6 ?side7 ?side8 A7.out).mono ?_
        (case side1 => exact tC (Kd.C_below HR291_3.out HB.out))
        (case side2 => exact HC291_3.out)
        (case side3 => exact tC (Kd.C_below HR291_5.out HB.out))
        (case side4 => exact HC291_5.out)
        (case side5 => exact tC (Kd.C_below HR292_3.out HB.out))
        (case side6 => exact HC292_3.out)
        (case side7 => exact tC (Kd.C_below HR292_5.out HB.out))
        (case side8 => exact HC292_5.out)
        rintro e w12 ⟨rfl, hb⟩
        refine ⟨_, rfl, ?_⟩
        replace HB := tBs HB hb
        (try clear hb)
        (try clear hb2)
        (try clear hk)
        (try clear hi)
        refine hK.out _ _ ⟨(tcl HB hw291_0), (tcl HB hw291_1), (tcl HB hw291_2), (tcl HB hw291_3), (tcl HB hw291_4), (tcl HB hw291_5), (tcl HB hw292_0), (tcl HB hw292_1), (tcl HB hw292_2), (tcl HB hw292_3), (tcl HB hw292_4), (tcl HB hw292_5)⟩ (fun hHeld => ?_)
        clear hK K
        refine tnm (some 25) ?_
        refine tpu 9 (some 26) #[true, true, true, true, true, true, true, true, true, true] ?_
        refine done_ (done_of HT_.out (by kernel_rfl)) ?_
        try go_wp2
        go_ret
        exact ⟨by first | rfl | (simp [errW_none, errW_some] <;> rfl) | (simp [*, errW_none, errW_some] <;> rfl), zb⟩
      ·rw [if_neg c6] at H
       exact absurd H (by simp)
     ·rw [if_neg c5] at H
      exact absurd H (by simp)
    ·rw [if_neg c4] at H
     have c4b0 : decide (x5_1 < (l0.length : Int)) = false := decide_eq_false c4
     clear c4
     obtain rfl := Option.some.inj H
     go_wp2
     go_ret
     exact ⟨by first | rfl | (simp [errW_none, errW_some] <;> rfl) | (simp [*, errW_none, errW_some] <;> rfl), zb⟩
 ·rw [if_neg c3] at H
  have c3b0 : ((l0.length : Int) == (l1.length : Int)) = false := beq_eq_false_iff_ne.mpr c3
  have c3b1 : ((l0.length : Int) != (l1.length : Int)) = true := bne_iff_ne.mpr c3
  have c3b2 : (l0.length == l1.length) = false := by first | simpa using c3 | (simp at c3 ⊢; omega)
  obtain rfl := Option.some.inj H
  go_enter Tryd.func31, Tryd.ntmps31
  go_wp2
  go_ret
  exact ⟨by first | rfl | (simp [errW_none, errW_some] <;> rfl) | (simp [*, errW_none, errW_some] <;> rfl), zb⟩

end Go.Proofs.YtfjkpdhldeopaaaDoor.G

namespace Go.Proofs.YtfjkpdhldeopaaaDoor.G
open Go.RowKit Go.Proofs.YtfjkpdhldeopaaaDoorW.PrintWords Go.Proofs.YtfjkpdhldeopaaaDoorW.PrintLast Go.Proofs.YtfjkpdhldeopaaaDoorW.PrintMore
attribute [local go_sem] max2_int min2_int max_two min_two max_three min_three max_four min_four   -- for this text's walks alone
set_option linter.unusedVariables false
set_option linter.unusedSimpArgs false

def laws_eqBatch.f (k : Nat) (a0_0 : Bool) (a0_1 : Bool) (a0_2 : Int) (a0_3 : Int) (a0_4 : Int) (l0_5 : List (S62)) (a1_0 : Bool) (a1_1 : Bool) (a1_2 : Int) (a1_3 : Int) (a1_4 : Int) (l1_5 : List (S62)) : Option (Bool) := if (a0_0 != a1_0) = true then (some false) else (if (a0_1 != a1_1) = true then (some false) else (if a0_2 = a1_2 then (if a0_3 = a1_3 then (if a0_4 = a1_4 then ((laws_eqRecordS.f k l0_5 l1_5).bind fun t296 => (if t296 = true then (some true) else (some false))) else (some false)) else (some false)) else (some false)))
set_option maxHeartbeats 8000000 in
set_option maxRecDepth 100000 in
theorem laws_eqBatch.calls (k : Nat) (a0_0 : Bool) (a0_1 : Bool) (a0_2 : Int) (a0_3 : Int) (a0_4 : Int) (A0_5 : Option Addr) (c0_5 : Nat) (l0_5 : List (S62)) (a1_0 : Bool) (a1_1 : Bool) (a1_2 : Int) (a1_3 : Int) (a1_4 : Int) (A1_5 : Option Addr) (c1_5 : Nat) (l1_5 : List (S62)) (r : Bool) (w : World) (hr0_5 : Kd.C k62 w A0_5 l0_5.length l0_5) (hc0_5 : l0_5.length ≤ c0_5) (hr1_5 : Kd.C k62 w A1_5 l1_5.length l1_5) (hc1_5 : l1_5.length ≤ c1_5) (h : laws_eqBatch.f k a0_0 a0_1 a0_2 a0_3 a0_4 l0_5 a1_0 a1_1 a1_2 a1_3 a1_4 l1_5 = some r) :
  Calls Tryd.prog 11 #[.agg #[.bool a0_0, .bool a0_1, .int .i64 a0_2, .int .i64 a0_3, .int .i64 a0_4, .slice A0_5 l0_5.length c0_5], .agg #[.bool a1_0, .bool a1_1, .int .i64 a1_2, .int .i64 a1_3, .int .i64 a1_4, .slice A1_5 l1_5.length c1_5]] w fun e w' => e = .returned (.bool r) ∧ Below w.heap.size w w' := by
 have hu28 := Tryd.underlying28
 have HR0_5 := Aside0.mk hr0_5
 have HC0_5 := Aside0.mk hc0_5
 clear hr0_5 hc0_5
 have HR1_5 := Aside0.mk hr1_5
 have HC1_5 := Aside0.mk hc1_5
 clear hr1_5 hc1_5
 have HB := Aside0.mk (Below.refl w.heap.size w)
 have H : (if (a0_0 != a1_0) = true then (some false) else (if (a0_1 != a1_1) = true then (some false) else (if a0_2 = a1_2 then (if a0_3 = a1_3 then (if a0_4 = a1_4 then ((laws_eqRecordS.f k l0_5 l1_5).bind fun t296 => (if t296 = true then (some true) else (some false))) else (some false)) else (some false)) else (some false)))) = some r := h
 clear h
 by_cases c3 : (a0_0 != a1_0) = true
 ·rw [if_pos c3] at H
  have c3b0 : (a0_0 != a1_0) = true := c3
  (try (have c3b1 : decide (a0_0 = a1_0) = false := by simpa using c3))
  (try (have c3b2 : (a0_0 == a1_0) = false := by simpa using c3))
  (try (have c3b3 : ¬ (a0_0 = a1_0) := by simpa using c3))
  clear c3
  obtain rfl := Option.some.inj H
  go_enter Tryd.func11, Tryd.ntmps11
  go_wp2_with (first | ((with_reducible refine gate_dst (N := 2) rfl ?_); refine box_event ?hg (N := 2) ?hd (cs := #[.bool a0_0, .bool a0_1, .int .i64 a0_2, .int .i64 a0_3, .int .i64 a0_4, .slice A0_5 l0_5.length c0_5]) (t := 28) ?hr ?_; (case hd => rfl); (case hg => rfl); (case hr => first | (go_simp; done) | (go_simp; rfl)); intro gb294 hg w4 hbox hb; have BK294 := Aside0.mk (hbox); have GW294 := tge HB hg; have GE294 := tge HB hg; replace HB := tBs HB hb; clear hb hbox hg) | ((with_reducible refine gate_dst (N := 3) rfl ?_); refine box_event ?hg (N := 3) ?hd (cs := #[.bool a1_0, .bool a1_1, .int .i64 a1_2, .int .i64 a1_3, .int .i64 a1_4, .slice A1_5 l1_5.length c1_5]) (t := 28) ?hr ?_; (case hd => rfl); (case hg => rfl); (case hr => first | (go_simp; done) | (go_simp; rfl)); intro gb295 hg w5 hbox hb; have BK295 := Aside0.mk (hbox); have GW295 := tge HB hg; have GE295 := tge HB hg; replace HB := tBs HB hb; have NB294_295 := tlt BK294 hg; have NB295_294 := tgt BK294 hg; replace BK294 := tBb BK294 hb; clear hb hbox hg; have hnb6 := NB294_295.out; have hnc6 := NB295_294.out; obtain ⟨hcz7_0, hcz7_1, hcz7_2, hcz7_3, hcz7_4, hcz7_5, hfz7_0, hfz7_1, hfz7_2, hfz7_3, hfz7_4, hfz7_5⟩ := cells6 BK294.out; obtain ⟨hcz8_0, hcz8_1, hcz8_2, hcz8_3, hcz8_4, hcz8_5, hfz8_0, hfz8_1, hfz8_2, hfz8_3, hfz8_4, hfz8_5⟩ := cells6 BK295.out))
  go_ret
  exact ⟨by first | rfl | (simp [errW_none, errW_some] <;> rfl) | (simp [*, errW_none, errW_some] <;> rfl), zb⟩
 ·rw [if_neg c3] at H
  have c3b0 : (a0_0 != a1_0) = false := by simpa using c3
  (try (have c3b1 : decide (a0_0 = a1_0) = true := by simpa using c3))
  (try (have c3b2 : (a0_0 == a1_0) = true := by simpa using c3))
  clear c3
  by_cases c9 : (a0_1 != a1_1) = true
  ·rw [if_pos c9] at H
   have c9b0 : (a0_1 != a1_1) = true := c9
   (try (have c9b1 : decide (a0_1 = a1_1) = false := by simpa using c9))
   (try (have c9b2 : (a0_1 == a1_1) = false := by simpa using c9))
   (try (have c9b3 : ¬ (a0_1 = a1_1) := by simpa using c9))
   clear c9
   obtain rfl := Option.some.inj H
   go_enter Tryd.func11, Tryd.ntmps11
   go_wp2_with (first | ((with_reducible refine gate_dst (N := 2) rfl ?_); refine box_event ?hg (N := 2) ?hd (cs := #[.bool a0_0, .bool a0_1, .int .i64 a0_2, .int .i64 a0_3, .int .i64 a0_4, .slice A0_5 l0_5.length c0_5]) (t := 28) ?hr ?_; (case hd => rfl); (case hg => rfl); (case hr => first | (go_simp; done) | (go_simp; rfl)); intro gb294 hg w10 hbox hb; have BK294 := Aside0.mk (hbox); have GW294 := tge HB hg; have GE294 := tge HB hg; replace HB := tBs HB hb; clear hb hbox hg) | ((with_reducible refine gate_dst (N := 3) rfl ?_); refine box_event ?hg (N := 3) ?hd (cs := #[.bool a1_0, .bool a1_1, .int .i64 a1_2, .int .i64 a1_3, .int .i64 a1_4, .slice A1_5 l1_5.length c1_5]) (t := 28) ?hr ?_; (case hd => rfl); (case hg => rfl); (case hr => first | (go_simp; done) | (go_simp; rfl)); intro gb295 hg w11 hbox hb; have BK295 := Aside0.mk (hbox); have GW295 := tge HB hg; have GE295 := tge HB hg; replace HB := tBs HB hb; have NB294_295 := tlt BK294 hg; have NB295_294 := tgt BK294 hg; replace BK294 := tBb BK294 hb; clear hb hbox hg; have hnb12 := NB294_295.out; have hnc12 := NB295_294.out; obtain ⟨hcz13_0, hcz13_1, hcz13_2, hcz13_3, hcz13_4, hcz13_5, hfz13_0, hfz13_1, hfz13_2, hfz13_3, hfz13_4, hfz13_5⟩ := cells6 BK294.out; obtain ⟨hcz14_0, hcz14_1, hcz14_2, hcz14_3, hcz14_4, hcz14_5, hfz14_0, hfz14_1, hfz14_2, hfz14_3, hfz14_4, hfz14_5⟩ := cells6 BK295.out))
   go_ret
   exact ⟨by first | rfl | (simp [errW_none, errW_some] <;> rfl) | (simp [*, errW_none, errW_some] <;> rfl), zb⟩
  ·rw [if_neg c9] at H
   have c9b0 : (a0_1 != a1_1) = false := by simpa using c9
   (try (have c9b1 : decide (a0_1 = a1_1) = true := by simpa using c9))
   (try (have c9b2 : (a0_1 == a1_1) = true := by simpa using c9))
   clear c9
   by_cases c15 : a0_2 = a1_2
   ·rw [if_pos c15] at H
    have c15b0 : (a0_2 == a1_2) = true := beq_iff_eq.mpr c15
    have c15b1 : (a0_2 != a1_2) = false := bne_eq_false_iff_eq.mpr c15
    clear c15
    by_cases c16 : a0_3 = a1_3
    ·rw [if_pos c16] at H
     have c16b0 : (a0_3 == a1_3) = true := beq_iff_eq.mpr c16
     have c16b1 : (a0_3 != a1_3) = false := bne_eq_false_iff_eq.mpr c16
     clear c16
     by_cases c17 : a0_4 = a1_4
     ·rw [if_pos c17] at H
      have c17b0 : (a0_4 == a1_4) = true := beq_iff_eq.mpr c17
      have c17b1 : (a0_4 != a1_4) = false := bne_eq_false_iff_eq.mpr c17
      clear c17
      replace H := tbe H
      obtain ⟨t296, A18, H⟩ := H
      by_cases c19 : t296 = true
      ·subst c19
       rw [if_pos rfl] at H
       obtain rfl := Option.some.inj H
       go_enter Tryd.func11, Tryd.ntmps11
       go_wp2_with (first | ((with_reducible refine gate_dst (N := 2) rfl ?_); refine box_event ?hg (N := 2) ?hd (cs := #[.bool a0_0, .bool a0_1, .int .i64 a0_2, .int .i64 a0_3, .int .i64 a0_4, .slice A0_5 l0_5.length c0_5]) (t := 28) ?hr ?_; (case hd => rfl); (case hg => rfl); (case hr => first | (go_simp; done) | (go_simp; rfl)); intro gb294 hg w20 hbox hb; have BK294 := Aside0.mk (hbox); have GW294 := tge HB hg; have GE294 := tge HB hg; replace HB := tBs HB hb; clear hb hbox hg) | ((with_reducible refine gate_dst (N := 3) rfl ?_); refine box_event ?hg (N := 3) ?hd (cs := #[.bool a1_0, .bool a1_1, .int .i64 a1_2, .int .i64 a1_3, .int .i64 a1_4, .slice A1_5 l1_5.length c1_5]) (t := 28) ?hr ?_; (case hd => rfl); (case hg => rfl); (case hr => first | (go_simp; done) | (go_simp; rfl)); intro gb295 hg w21 hbox hb; have BK295 := Aside0.mk (hbox); have GW295 := tge HB hg; have GE295 := tge HB hg; replace HB := tBs HB hb; have NB294_295 := tlt BK294 hg; have NB295_294 := tgt BK294 hg; replace BK294 := tBb BK294 hb; clear hb hbox hg; have hnb22 := NB294_295.out; have hnc22 := NB295_294.out; obtain ⟨hcz23_0, hcz23_1, hcz23_2, hcz23_3, hcz23_4, hcz23_5, hfz23_0, hfz23_1, hfz23_2, hfz23_3, hfz23_4, hfz23_5⟩ := cells6 BK294.out; obtain ⟨hcz24_0, hcz24_1, hcz24_2, hcz24_3, hcz24_4, hcz24_5, hfz24_0, hfz24_1, hfz24_2, hfz24_3, hfz24_4, hfz24_5⟩ := cells6 BK295.out) | ((with_reducible refine gate_callee (f := 31) rfl ?_); refine goesL_ (some 34) rfl rfl Tryd.func31 (by kernel_rfl) rfl #[.slice A0_5 l0_5.length c0_5, .slice A1_5 l1_5.length c1_5] rfl tq ?_; (with_reducible refine (laws_eqRecordS.calls k _ _ l0_5 _ _ l1_5 true _ ?side1 ?side2 ?side3 ?side4 A18.out).mono ?_); (case side1 => exact tC (Kd.C_below HR0_5.out HB.out)); (case side2 => exact HC0_5.out); (case side3 => exact tC (Kd.C_below HR1_5.out HB.out)); (case side4 => exact HC1_5.out); rintro e w25 ⟨rfl, hb⟩; refine ⟨_, rfl, ?_⟩; replace BK294 := tBb BK294 hb; replace BK295 := tBb BK295 hb; replace HB := tBs HB hb; (try clear hb); (try clear hb2); (try clear hk); (try clear hi)))
       go_ret
       exact ⟨by first | rfl | (simp [errW_none, errW_some] <;> rfl) | (simp [*, errW_none, errW_some] <;> rfl), zb⟩
      ·replace c19 := Bool.eq_false_iff.mpr c19
       subst c19
       rw [if_neg (show ¬ (false = true) by decide)] at H
       obtain rfl := Option.some.inj H
       go_enter Tryd.func11, Tryd.ntmps11
       go_wp2_with (first | ((with_reducible refine gate_dst (N := 2) rfl ?_); refine box_event ?hg (N := 2) ?hd (cs := #[.bool a0_0, .bool a0_1, .int .i64 a0_2, .int .i64 a0_3, .int .i64 a0_4, .slice A0_5 l0_5.length c0_5]) (t := 28) ?hr ?_; (case hd => rfl); (case hg => rfl); (case hr => first | (go_simp; done) | (go_simp; rfl)); intro gb294 hg w26 hbox hb; have BK294 := Aside0.mk (hbox); have GW294 := tge HB hg; have GE294 := tge HB hg; replace HB := tBs HB hb; clear hb hbox hg) | ((with_reducible refine gate_dst (N := 3) rfl ?_); refine box_event ?hg (N := 3) ?hd (cs := #[.bool a1_0, .bool a1_1, .int .i64 a1_2, .int .i64 a1_3, .int .i64 a1_4, .slice A1_5 l1_5.length c1_5]) (t := 28) ?hr ?_; (case hd => rfl); (case hg => rfl); (case hr => first | (go_simp; done) | (go_simp; rfl)); intro gb295 hg w27 hbox hb; have BK295 := Aside0.mk (hbox); have GW295 := tge HB hg; have GE295 := tge HB hg; replace HB := tBs HB hb; have NB294_295 := tlt BK294 hg; have NB295_294 := tgt BK294 hg; replace BK294 := tBb BK294 hb; clear hb hbox hg; have hnb28 := NB294_295.out; have hnc28 := NB295_294.out; obtain ⟨hcz29_0, hcz29_1, hcz29_2, hcz29_3, hcz29_4, hcz29_5, hfz29_0, hfz29_1, hfz29_2, hfz29_3, hfz29_4, hfz29_5⟩ := cells6 BK294.out; obtain ⟨hcz30_0, hcz30_1, hcz30_2, hcz30_3, hcz30_4, hcz30_5, hfz30_0, hfz30_1, hfz30_2, hfz30_3, hfz30_4, hfz30_5⟩ := cells6 BK295.out) | ((with_reducible refine gate_callee (f := 31) rfl ?_); refine goesL_ (some 34) rfl rfl Tryd.func31 (by kernel_rfl) rfl #[.slice A0_5 l0_5.length c0_5, .slice A1_5 l1_5.length c1_5] rfl tq ?_; (with_reducible refine (laws_eqRecordS.calls k _ _ l0_5 _ _ l1_5 false _ ?side1 ?side2 ?side3 ?side4 A18.out).mono ?_); (case side1 => exact tC (Kd.C_below HR0_5.out HB.out)); (case side2 => exact HC0_5.out); (case side3 => exact tC (Kd.C_below HR1_5.out HB.out)); (case side4 => exact HC1_5.out); rintro e w31 ⟨rfl, hb⟩; refine ⟨_, rfl, ?_⟩; replace BK294 := tBb BK294 hb; replace BK295 := tBb BK295 hb; replace HB := tBs HB hb; (try clear hb); (try clear hb2); (try clear hk); (try clear hi)))
       go_ret
       exact ⟨by first | rfl | (simp [errW_none, errW_some] <;> rfl) | (simp [*, errW_none, errW_some] <;> rfl), zb⟩
     ·rw [if_neg c17] at H
      have c17b0 : (a0_4 == a1_4) = false := beq_eq_false_iff_ne.mpr c17
      have c17b1 : (a0_4 != a1_4) = true := bne_iff_ne.mpr c17
      obtain rfl := Option.some.inj H
      go_enter Tryd.func11, Tryd.ntmps11
      go_wp2_with (first | ((with_reducible refine gate_dst (N := 2) rfl ?_); refine box_event ?hg (N := 2) ?hd (cs := #[.bool a0_0, .bool a0_1, .int .i64 a0_2, .int .i64 a0_3, .int .i64 a0_4, .slice A0_5 l0_5.length c0_5]) (t := 28) ?hr ?_; (case hd => rfl); (case hg => rfl); (case hr => first | (go_simp; done) | (go_simp; rfl)); intro gb294 hg w32 hbox hb; have BK294 := Aside0.mk (hbox); have GW294 := tge HB hg; have GE294 := tge HB hg; replace HB := tBs HB hb; clear hb hbox hg) | ((with_reducible refine gate_dst (N := 3) rfl ?_); refine box_event ?hg (N := 3) ?hd (cs := #[.bool a1_0, .bool a1_1, .int .i64 a1_2, .int .i64 a1_3, .int .i64 a1_4, .slice A1_5 l1_5.length c1_5]) (t := 28) ?hr ?_; (case hd => rfl); (case hg => rfl); (case hr => first | (go_simp; done) | (go_simp; rfl)); intro gb295 hg w33 hbox hb; have BK295 := Aside0.mk (hbox); have GW295 := tge HB hg; have GE295 := tge HB hg; replace HB := tBs HB hb; have NB294_295 := tlt BK294 hg; have NB295_294 := tgt BK294 hg; replace BK294 := tBb BK294 hb; clear hb hbox hg; have hnb34 := NB294_295.out; have hnc34 := NB295_294.out; obtain ⟨hcz35_0, hcz35_1, hcz35_2, hcz35_3, hcz35_4, hcz35_5, hfz35_0, hfz35_1, hfz35_2, hfz35_3, hfz35_4, hfz35_5⟩ := cells6 BK294.out; obtain ⟨hcz36_0, hcz36_1, hcz36_2, hcz36_3, hcz36_4, hcz36_5, hfz36_0, hfz36_1, hfz36_2, hfz36_3, hfz36_4, hfz36_5⟩ := cells6 BK295.out))
      go_ret
      exact ⟨by first | rfl | (simp [errW_none, errW_some] <;> rfl) | (simp [*, errW_none, errW_some] <;> rfl), zb⟩
    ·rw [if_neg c16] at H
     have c16b0 : (a0_3 == a1_3) = false := beq_eq_false_iff_ne.mpr c16
     have c16b1 : (a0_3 != a1_3) = true := bne_iff_ne.mpr c16
     obtain rfl := Option.some.inj H
     go_enter Tryd.func11, Tryd.ntmps11
     go_wp2_with (first | ((with_reducible refine gate_dst (N := 2) rfl ?_); refine box_event ?hg (N := 2) ?hd (cs := #[.bool a0_0, .bool a0_1, .int .i64 a0_2, .int .i64 a0_3, .int .i64 a0_4, .slice A0_5 l0_5.length c0_5]) (t := 28) ?hr ?_; (case hd => rfl); (case hg => rfl); (case hr => first | (go_simp; done) | (go_simp; rfl)); intro gb294 hg w37 hbox hb; have BK294 := Aside0.mk (hbox); have GW294 := tge HB hg; have GE294 := tge HB hg; replace HB := tBs HB hb; clear hb hbox hg) | ((with_reducible refine gate_dst (N := 3) rfl ?_); refine box_event ?hg (N := 3) ?hd (cs := #[.bool a1_0, .bool a1_1, .int .i64 a1_2, .int .i64 a1_3, .int .i64 a1_4, .slice A1_5 l1_5.length c1_5]) (t := 28) ?hr ?_; (case hd => rfl); (case hg => rfl); (case hr => first | (go_simp; done) | (go_simp; rfl)); intro gb295 hg w38 hbox hb; have BK295 := Aside0.mk (hbox); have GW295 := tge HB hg; have GE295 := tge HB hg; replace HB := tBs HB hb; have NB294_295 := tlt BK294 hg; have NB295_294 := tgt BK294 hg; replace BK294 := tBb BK294 hb; clear hb hbox hg; have hnb39 := NB294_295.out; have hnc39 := NB295_294.out; obtain ⟨hcz40_0, hcz40_1, hcz40_2, hcz40_3, hcz40_4, hcz40_5, hfz40_0, hfz40_1, hfz40_2, hfz40_3, hfz40_4, hfz40_5⟩ := cells6 BK294.out; obtain ⟨hcz41_0, hcz41_1, hcz41_2, hcz41_3, hcz41_4, hcz41_5, hfz41_0, hfz41_1, hfz41_2, hfz41_3, hfz41_4, hfz41_5⟩ := cells6 BK295.out))
     go_ret
     exact ⟨by first | rfl | (simp [errW_none, errW_some] <;> rfl) | (simp [*, errW_none, errW_some] <;> rfl), zb⟩
   ·rw [if_neg c15] at H
    have c15b0 : (a0_2 == a1_2) = false := beq_eq_false_iff_ne.mpr c15
    have c15b1 : (a0_2 != a1_2) = true := bne_iff_ne.mpr c15
    obtain rfl := Option.some.inj H
    go_enter Tryd.func11, Tryd.ntmps11
    go_wp2_with (first | ((with_reducible refine gate_dst (N := 2) rfl ?_); refine box_event ?hg (N := 2) ?hd (cs := #[.bool a0_0, .bool a0_1, .int .i64 a0_2, .int .i64 a0_3, .int .i64 a0_4, .slice A0_5 l0_5.length c0_5]) (t := 28) ?hr ?_; (case hd => rfl); (case hg => rfl); (case hr => first | (go_simp; done) | (go_simp; rfl)); intro gb294 hg w42 hbox hb; have BK294 := Aside0.mk (hbox); have GW294 := tge HB hg; have GE294 := tge HB hg; replace HB := tBs HB hb; clear hb hbox hg) | ((with_reducible refine gate_dst (N := 3) rfl ?_); refine box_event ?hg (N := 3) ?hd (cs := #[.bool a1_0, .bool a1_1, .int .i64 a1_2, .int .i64 a1_3, .int .i64 a1_4, .slice A1_5 l1_5.length c1_5]) (t := 28) ?hr ?_; (case hd => rfl); (case hg => rfl); (case hr => first | (go_simp; done) | (go_simp; rfl)); intro gb295 hg w43 hbox hb; have BK295 := Aside0.mk (hbox); have GW295 := tge HB hg; have GE295 := tge HB hg; replace HB := tBs HB hb; have NB294_295 := tlt BK294 hg; have NB295_294 := tgt BK294 hg; replace BK294 := tBb BK294 hb; clear hb hbox hg; have hnb44 := NB294_295.out; have hnc44 := NB295_294.out; obtain ⟨hcz45_0, hcz45_1, hcz45_2, hcz45_3, hcz45_4, hcz45_5, hfz45_0, hfz45_1, hfz45_2, hfz45_3, hfz45_4, hfz45_5⟩ := cells6 BK294.out; obtain ⟨hcz46_0, hcz46_1, hcz46_2, hcz46_3, hcz46_4, hcz46_5, hfz46_0, hfz46_1, hfz46_2, hfz46_3, hfz46_4, hfz46_5⟩ := cells6 BK295.out))
    go_ret
    exact ⟨by first | rfl | (simp [errW_none, errW_some] <;> rfl) | (simp [*, errW_none, errW_some] <;> rfl), zb⟩

def laws_markIntS.l0 : Nat → List Int → Int → Int → Option (Int × List Int)
 | 0, _, _, _ => none
 | k + 1, x0, x1, x5 => if x5 < (x0.length : Int) then (if 0 ≤ x5 then (laws_markIntS.l0 k (x0.set (x5 : Int).toNat x1) (wrap64 (x1 + 1)) (wrap64 (x5 + 1))) else (none)) else (some (x1, x0))
def laws_markIntS.f (k : Nat) (l0 : List Int) (a1 : Int) : Option (Int × List Int) := laws_markIntS.l0 k l0 a1 0
set_option maxHeartbeats 8000000 in
set_option maxRecDepth 100000 in
theorem laws_markIntS.calls (k : Nat) (P0_ : Nat → Prop) (u9000_ : Value) (l0 : List Int) (a1 : Int) (r1 : Int) (r2 : List Int) (w0 w : World) (hB : Below w0.heap.size w0 w) (ho0 : Kd.R (Kd.int .i64) 3 w w0.heap.size P0_ u9000_ l0) (h : laws_markIntS.f k l0 a1 = some (r1, r2)) :
  Calls Tryd.prog 52 #[u9000_, .int .i64 a1] w fun e w' => e = .returned (.int .i64 r1) ∧ Kd.R (Kd.int .i64) 3 w' w0.heap.size (fun k_ => (P0_ k_ ∨ w.heap.size ≤ k_)) u9000_ r2 ∧ Below w0.heap.size w0 w' ∧ Kept w w' (fun k_ => P0_ k_) := by
 have HO0 := Aside0.mk (show Kd.R (Kd.int .i64) 3 w w0.heap.size (fun k_ => (P0_ k_ ∨ w.heap.size ≤ k_)) u9000_ l0 from Kd.R_mono ho0 (fun k_ hk => (.inl hk)))
 have HK := Aside0.mk (Kept.refl w (fun k_ => P0_ k_))
 have HW0 := Aside0.mk hB.size
 have HB := Aside0.mk hB
 clear hB
 have H : (laws_markIntS.l0 k l0 a1 0) = some (r1, r2) := h
 clear h
 have H' := Aside0.mk H
 clear H
 go_enter Tryd.func52, Tryd.ntmps52
 go_wp2
 go_loopg [1, 5] k (fun kq v1 v5 w' => ∃ (x0_1 : List Int) (x1_1 : Int) (x5_1 : Int), v1 = .int .i64 x1_1 ∧ v5 = .int .i64 x5_1 ∧ Aside0 (laws_markIntS.l0 kq x0_1 x1_1 x5_1 = some (r1, r2)) ∧ Aside0 (kq ≤ k) ∧ Aside0 (Kd.R (Kd.int .i64) 3 w' w0.heap.size (fun k_ => (P0_ k_ ∨ w.heap.size ≤ k_)) u9000_ x0_1) ∧ Aside0 (Kept w w' (fun k_ => P0_ k_)) ∧ Aside0 (Below w0.heap.size w0 w'))
 case atStart => exact ⟨(l0), (a1), (0), tr, tr, H', ⟨Nat.le_refl _⟩, ⟨tR HO0.out⟩, ⟨by repeat (first | (with_reducible first | exact HK.out | apply Kept.alloc | apply Kept.drewN | apply Kept.drew) | exact HK.out)⟩, ⟨zb⟩⟩
 case round =>
  clear H'
  obtain ⟨x0_1, x1_1, x5_1, rfl, rfl, HA, HK1, HO_0, HK, HB⟩ := hrel
  cases gk with
  | zero => exact absurd HA.out (by simp [laws_markIntS.l0])
  | succ k1 =>
   have H := HA.out
   clear HA
   simp only [laws_markIntS.l0] at H
   by_cases c3 : x5_1 < (x0_1.length : Int)
   ·rw [if_pos c3] at H
    have c3b0 : decide (x5_1 < (x0_1.length : Int)) = true := decide_eq_true c3
    clear c3
    by_cases c4 : 0 ≤ x5_1
    ·rw [if_pos c4] at H
     have c4b0 : decide (0 ≤ x5_1) = true := decide_eq_true c4
     clear c4
     obtain ⟨y297, hy297⟩ : ∃ y_ : List Int, y_ = (x0_1.set (x5_1 : Int).toNat x1_1) := ⟨_, rfl⟩
     replace H : (laws_markIntS.l0 k1 y297 (wrap64 (x1_1 + 1)) (wrap64 (x5_1 + 1))) = some (r1, r2) := by first | (rw [hy297]; with_reducible exact H) | (have H2_ := (Option.bind_some _ _).symm.trans H; rw [hy297]; with_reducible exact H2_) | (have H2_ := (Option.bind_some _ _).symm.trans H; with_reducible exact H2_) | with_reducible exact H | (rw [hy297]; exact H) | exact H
     have Ny297 := Aside0.mk hy297
     clear hy297
     have H' := Aside0.mk H
     clear H
     obtain ⟨Ao6, co6, eo6⟩ := Kd.R_slice HO_0.out
     subst eo6
     have p5 : 0 ≤ (x5_1 : Int) := td
     have q5 : (x5_1 : Int) < ((x0_1.length : Int) : Int) := td
     obtain ⟨go5, co5, eo5, gb5, gl5, cl5, HG5⟩ := Kd.R_form HO_0.out (by omega)
     (first | cases eo5 | (injection eo5 with ea_ en_ ec_; (first | subst ea_ | (injection ea_ with ea_; subst ea_)); subst ec_; clear en_))
     have GB5 := Aside0.mk gb5
     have GG5 := Aside0.mk HG5
     clear gb5 gl5 HG5
     have HMgo5 := Aside0.mk (show (P0_ go5 ∨ w.heap.size ≤ go5) from (HO_0.out.1 _ rfl))
     obtain ⟨hx5_0, hf5_0⟩ := Kd.R_celln 0 HO_0.out (x5_1 : Int) p5 q5
     replace p5 := eq_true p5
     replace q5 := eq_true q5
     have HP7 := Kd.R_putg HO_0.out (x5_1 : Int) x1_1
     go_wp2_with (first | ((with_reducible refine gate_store (t := 3) (p := 15) rfl ?_); refine store_event (t := 3) (p := 15) (v := ?vo_w8) (w1 := (wr.setCell ⟨go5, (x5_1 : Int).toNat, none⟩ (.int .i64 x1_1))) ?hg ?ho ?hn ?hr ?_; (case ho => rfl); (case hg => rfl); (case hn => rfl); (case hr => first | (go_simp; done) | (go_simp; rfl)); intro w8 hw; have hg : wr.grownBy w8 (some go5) := (by rw [hw]; exact HP7.2); have hp_ : Kd.R (Kd.int .i64) 3 w8 w0.heap.size (fun k_ => (P0_ k_ ∨ w.heap.size ≤ k_)) (.slice (some ⟨go5, 0, none⟩) x0_1.length co6) y297 := (by rw [hw, Ny297.out]; exact HP7.1); clear HP7; replace HB := Aside0.mk ((by rw [hw]; exact below_set (HB.out) GB5.out : Below w0.heap.size w0 w8)); replace HK := Aside0.mk (Kept.of_grown (S := (fun k_ => P0_ k_)) hg (by repeat (first | (with_reducible first | exact HK.out | apply Kept.alloc | apply Kept.drewN | apply Kept.drew) | exact HK.out)) (fun k_ e_ => (HO_0.out.1 k_ e_))); replace HO_0 := Aside0.mk (hp_); clear hg hw hp_))
     go_roundg k1
     case measure => have := HK1.out; omega
     case rel => exact ⟨(y297), (wrap64 (x1_1 + 1)), (wrap64 (x5_1 + 1)), tr, tr, H', ⟨by have := HK1.out; omega⟩, ⟨tR HO_0.out⟩, ⟨by repeat (first | (with_reducible first | exact HK.out | apply Kept.alloc | apply Kept.drewN | apply Kept.drew) | exact HK.out)⟩, ⟨zb⟩⟩
    ·rw [if_neg c4] at H
     exact absurd H (by simp)
   ·rw [if_neg c3] at H
    have c3b0 : decide (x5_1 < (x0_1.length : Int)) = false := decide_eq_false c3
    clear c3
    simp only [Option.some.injEq, Prod.mk.injEq] at H
    obtain ⟨rfl, rfl⟩ := H
    obtain ⟨Ao9, co9, eo9⟩ := Kd.R_slice HO_0.out
    subst eo9
    go_wp2
    go_ret
    exact ⟨by first | rfl | (simp [errW_none, errW_some] <;> rfl) | (simp [*, errW_none, errW_some] <;> rfl), tR HO_0.out, zb, by repeat (first | (with_reducible first | exact HK.out | apply Kept.alloc | apply Kept.drewN | apply Kept.drew) | exact HK.out)⟩

end Go.Proofs.YtfjkpdhldeopaaaDoor.G

namespace Go.Proofs.YtfjkpdhldeopaaaDoor.G
open Go.RowKit Go.Proofs.YtfjkpdhldeopaaaDoorW.PrintWords Go.Proofs.YtfjkpdhldeopaaaDoorW.PrintLast Go.Proofs.YtfjkpdhldeopaaaDoorW.PrintMore
attribute [local go_sem] max2_int min2_int max_two min_two max_three min_three max_four min_four   -- for this text's walks alone
set_option linter.unusedVariables false
set_option linter.unusedSimpArgs false

def laws_heldIntS.l0 : Nat → List Int → Int → Int → Option (Int)
 | 0, _, _, _ => none
 | k + 1, x0, x1, x5 => if x5 < (x0.length : Int) then (if 0 ≤ x5 then (if (rd x0 x5) = x1 then (laws_heldIntS.l0 k x0 (wrap64 (x1 + 1)) (wrap64 (x5 + 1))) else (some (-1))) else (none)) else (some x1)
def laws_heldIntS.f (k : Nat) (l0 : List Int) (a1 : Int) : Option (Int) := laws_heldIntS.l0 k l0 a1 0
set_option maxHeartbeats 8000000 in
set_option maxRecDepth 100000 in
theorem laws_heldIntS.calls (k : Nat) (A0 : Option Addr) (c0 : Nat) (l0 : List Int) (a1 : Int) (r : Int) (w : World) (hr0 : Kd.C (Kd.int .i64) w A0 l0.length l0) (hc0 : l0.length ≤ c0) (h : laws_heldIntS.f k l0 a1 = some r) :
  Calls Tryd.prog 53 #[.slice A0 l0.length c0, .int .i64 a1] w fun e w' => e = .returned (.int .i64 r) ∧ Drawn0 w w' := by
 have HR0 := Aside0.mk hr0
 have HC0 := Aside0.mk hc0
 clear hr0 hc0
 have H : (laws_heldIntS.l0 k l0 a1 0) = some r := h
 clear h
 have H' := Aside0.mk H
 clear H
 go_enter Tryd.func53, Tryd.ntmps53
 go_wp2
 go_loopg [1, 5] k (fun kq v1 v5 w' => ∃ (x1_1 : Int) (x5_1 : Int), v1 = .int .i64 x1_1 ∧ v5 = .int .i64 x5_1 ∧ Aside0 (laws_heldIntS.l0 kq l0 x1_1 x5_1 = some r) ∧ Aside0 (kq ≤ k) ∧ Drawn0 w w')
 case atStart => exact ⟨(a1), (0), tr, tr, H', ⟨Nat.le_refl _⟩, by repeat (first | exact Drawn0.refl _ | apply Drawn0.step)⟩
 case round =>
  clear H'
  obtain ⟨x1_1, x5_1, rfl, rfl, HA, HK1, ⟨m1, rfl⟩⟩ := hrel
  cases gk with
  | zero => exact absurd HA.out (by simp [laws_heldIntS.l0])
  | succ k1 =>
   have H := HA.out
   clear HA
   simp only [laws_heldIntS.l0] at H
   by_cases c3 : x5_1 < (l0.length : Int)
   ·rw [if_pos c3] at H
    have c3b0 : decide (x5_1 < (l0.length : Int)) = true := decide_eq_true c3
    clear c3
    by_cases c4 : 0 ≤ x5_1
    ·rw [if_pos c4] at H
     have c4b0 : decide (0 ≤ x5_1) = true := decide_eq_true c4
     clear c4
     by_cases c5 : (rd l0 x5_1) = x1_1
     ·rw [if_pos c5] at H
      have c5b0 : ((rd l0 x5_1) == x1_1) = true := beq_iff_eq.mpr c5
      have c5b1 : ((rd l0 x5_1) != x1_1) = false := bne_eq_false_iff_eq.mpr c5
      clear c5
      have H' := Aside0.mk H
      clear H
      have p299 : 0 ≤ (x5_1 : Int) := td
      have q299 : x5_1 < (l0.length : Int) := td
      obtain ⟨ad299, e299, hx299_0⟩ := Kd.at_int HR0.out x5_1 p299 q299
      cases e299
      replace p299 := eq_true p299
      replace q299 := eq_true q299
      go_wp2
      go_roundg k1
      case measure => have := HK1.out; omega
      case rel => exact ⟨(wrap64 (x1_1 + 1)), (wrap64 (x5_1 + 1)), tr, tr, H', ⟨by have := HK1.out; omega⟩, by repeat (first | exact Drawn0.refl _ | apply Drawn0.step)⟩
     ·rw [if_neg c5] at H
      have c5b0 : ((rd l0 x5_1) == x1_1) = false := beq_eq_false_iff_ne.mpr c5
      have c5b1 : ((rd l0 x5_1) != x1_1) = true := bne_iff_ne.mpr c5
      obtain rfl := Option.some.inj H
      have p299 : 0 ≤ (x5_1 : Int) := td
      have q299 : x5_1 < (l0.length : Int) := td
      obtain ⟨ad299, e299, hx299_0⟩ := Kd.at_int HR0.out x5_1 p299 q299
      cases e299
      replace p299 := eq_true p299
      replace q299 := eq_true q299
      go_wp2
      go_ret
      exact ⟨by first | rfl | (simp; done) | (simp [*]; done), by repeat (first | exact Drawn0.refl _ | apply Drawn0.step)⟩
    ·rw [if_neg c4] at H
     exact absurd H (by simp)
   ·rw [if_neg c3] at H
    have c3b0 : decide (x5_1 < (l0.length : Int)) = false := decide_eq_false c3
    clear c3
    obtain rfl := Option.some.inj H
    go_wp2
    go_ret
    exact ⟨by first | rfl | (simp; done) | (simp [*]; done), by repeat (first | exact Drawn0.refl _ | apply Drawn0.step)⟩

def laws_heldRecordS.l0 : Nat → List (S62) → Int → Int → Option (Int)
 | 0, _, _, _ => none
 | k + 1, x0, x1, x5 => if x5 < (x0.length : Int) then (if 0 ≤ x5 then (if ((rd_T62 x0 x5).f0) = x1 then (if ((rd_T62 x0 x5).f1) = (wrap64 (x1 + 1)) then (if (((rd_T62 x0 x5).f2) != ((Int.tmod (wrap64 ((wrap64 (x1 + 1)) + 1)) 3) == 0)) = true then (some (-1)) else ((laws_heldIntS.f k ((rd_T62 x0 x5).f3) (wrap64 ((wrap64 ((wrap64 (x1 + 1)) + 1)) + 1))).bind fun t304 => (if t304 < 0 then (some (-1)) else (if (((rd_T62 x0 x5).f4) != ((Int.tmod t304 3) == 0)) = true then (some (-1)) else ((laws_heldIntS.f k ((rd_T62 x0 x5).f5) (wrap64 (t304 + 1))).bind fun t307 => (if t307 < 0 then (some (-1)) else (laws_heldRecordS.l0 k x0 t307 (wrap64 (x5 + 1))))))))) else (some (-1))) else (some (-1))) else (none)) else (some x1)
def laws_heldRecordS.f (k : Nat) (l0 : List (S62)) (a1 : Int) : Option (Int) := laws_heldRecordS.l0 k l0 a1 0
set_option maxHeartbeats 8000000 in
set_option maxRecDepth 100000 in
theorem laws_heldRecordS.calls (k : Nat) (A0 : Option Addr) (c0 : Nat) (l0 : List (S62)) (a1 : Int) (r : Int) (w : World) (hr0 : Kd.C k62 w A0 l0.length l0) (hc0 : l0.length ≤ c0) (h : laws_heldRecordS.f k l0 a1 = some r) :
  Calls Tryd.prog 33 #[.slice A0 l0.length c0, .int .i64 a1] w fun e w' => e = .returned (.int .i64 r) ∧ Drawn0 w w' := by
 have HR0 := Aside0.mk hr0
 have HC0 := Aside0.mk hc0
 clear hr0 hc0
 have H : (laws_heldRecordS.l0 k l0 a1 0) = some r := h
 clear h
 have H' := Aside0.mk H
 clear H
 go_enter Tryd.func33, Tryd.ntmps33
 go_wp2
 go_loopg [1, 5] k (fun kq v1 v5 w' => ∃ (x1_1 : Int) (x5_1 : Int), v1 = .int .i64 x1_1 ∧ v5 = .int .i64 x5_1 ∧ Aside0 (laws_heldRecordS.l0 kq l0 x1_1 x5_1 = some r) ∧ Aside0 (kq ≤ k) ∧ Drawn0 w w')
 case atStart => exact ⟨(a1), (0), tr, tr, H', ⟨Nat.le_refl _⟩, by repeat (first | exact Drawn0.refl _ | apply Drawn0.step)⟩
 case round =>
  clear H'
  obtain ⟨x1_1, x5_1, rfl, rfl, HA, HK1, ⟨m1, rfl⟩⟩ := hrel
  cases gk with
  | zero => exact absurd HA.out (by simp [laws_heldRecordS.l0])
  | succ k1 =>
   have H := HA.out
   clear HA
   simp only [laws_heldRecordS.l0] at H
   by_cases c3 : x5_1 < (l0.length : Int)
   ·rw [if_pos c3] at H
    have c3b0 : decide (x5_1 < (l0.length : Int)) = true := decide_eq_true c3
    clear c3
    by_cases c4 : 0 ≤ x5_1
    ·rw [if_pos c4] at H
     have c4b0 : decide (0 ≤ x5_1) = true := decide_eq_true c4
     clear c4
     by_cases c5 : ((rd_T62 l0 x5_1).f0) = x1_1
     ·rw [if_pos c5] at H
      have c5b0 : (((rd_T62 l0 x5_1).f0) == x1_1) = true := beq_iff_eq.mpr c5
      have c5b1 : (((rd_T62 l0 x5_1).f0) != x1_1) = false := bne_eq_false_iff_eq.mpr c5
      clear c5
      by_cases c6 : ((rd_T62 l0 x5_1).f1) = (wrap64 (x1_1 + 1))
      ·rw [if_pos c6] at H
       have c6b0 : (((rd_T62 l0 x5_1).f1) == (wrap64 (x1_1 + 1))) = true := beq_iff_eq.mpr c6
       have c6b1 : (((rd_T62 l0 x5_1).f1) != (wrap64 (x1_1 + 1))) = false := bne_eq_false_iff_eq.mpr c6
       clear c6
       by_cases c7 : (((rd_T62 l0 x5_1).f2) != ((Int.tmod (wrap64 ((wrap64 (x1_1 + 1)) + 1)) 3) == 0)) = true
       ·rw [if_pos c7] at H
        have c7b0 : (((rd_T62 l0 x5_1).f2) != ((Int.tmod (wrap64 ((wrap64 (x1_1 + 1)) + 1)) 3) == 0)) = true := c7
        (try (have c7b1 : decide (((rd_T62 l0 x5_1).f2) = ((Int.tmod (wrap64 ((wrap64 (x1_1 + 1)) + 1)) 3) == 0)) = false := by simpa using c7))
        (try (have c7b2 : (((rd_T62 l0 x5_1).f2) == ((Int.tmod (wrap64 ((wrap64 (x1_1 + 1)) + 1)) 3) == 0)) = false := by simpa using c7))
        (try (have c7b3 : ¬ (((rd_T62 l0 x5_1).f2) = ((Int.tmod (wrap64 ((wrap64 (x1_1 + 1)) + 1)) 3) == 0)) := by simpa using c7))
        clear c7
        obtain rfl := Option.some.inj H
        have p300 : 0 ≤ (x5_1 : Int) := td
        have q300 : x5_1 < (l0.length : Int) := td
        obtain ⟨ad300, A300_3, c300_3, A300_5, c300_5, e300, hx300_0, hx300_1, hx300_2, hx300_3, hx300_4, hx300_5, hl300_3, hi300_3, hl300_5, hi300_5⟩ := at_T62 HR0.out x5_1 p300 q300
        cases e300
        have HR300_3 := Aside0.mk hi300_3
        have HC300_3 := Aside0.mk hl300_3
        clear hi300_3 hl300_3
        have HR300_5 := Aside0.mk hi300_5
        have HC300_5 := Aside0.mk hl300_5
        clear hi300_5 hl300_5
        replace p300 := eq_true p300
        replace q300 := eq_true q300
        have p301 : 0 ≤ (x5_1 : Int) := td
        have q301 : x5_1 < (l0.length : Int) := td
        obtain ⟨ad301, A301_3, c301_3, A301_5, c301_5, e301, hx301_0, hx301_1, hx301_2, hx301_3, hx301_4, hx301_5, hl301_3, hi301_3, hl301_5, hi301_5⟩ := at_T62 HR0.out x5_1 p301 q301
        obtain rfl : ad300 = ad301 := (by injection e301)
        have HR301_3 := Aside0.mk hi301_3
        have HC301_3 := Aside0.mk hl301_3
        clear hi301_3 hl301_3
        have HR301_5 := Aside0.mk hi301_5
        have HC301_5 := Aside0.mk hl301_5
        clear hi301_5 hl301_5
        replace p301 := eq_true p301
        replace q301 := eq_true q301
        have ea_ := Option.some.inj (hx300_3.symm.trans hx301_3)
        injection ea_ with ea_ en_ ec_
        subst ea_
        subst ec_
        clear en_
        have ea_ := Option.some.inj (hx300_5.symm.trans hx301_5)
        injection ea_ with ea_ en_ ec_
        subst ea_
        subst ec_
        clear en_
        have p302 : 0 ≤ (x5_1 : Int) := td
        have q302 : x5_1 < (l0.length : Int) := td
        obtain ⟨ad302, A302_3, c302_3, A302_5, c302_5, e302, hx302_0, hx302_1, hx302_2, hx302_3, hx302_4, hx302_5, hl302_3, hi302_3, hl302_5, hi302_5⟩ := at_T62 HR0.out x5_1 p302 q302
        obtain rfl : ad300 = ad302 := (by injection e302)
        have HR302_3 := Aside0.mk hi302_3
        have HC302_3 := Aside0.mk hl302_3
        clear hi302_3 hl302_3
        have HR302_5 := Aside0.mk hi302_5
        have HC302_5 := Aside0.mk hl302_5
        clear hi302_5 hl302_5
        replace p302 := eq_true p302
        replace q302 := eq_true q302
        have ea_ := Option.some.inj (hx300_3.symm.trans hx302_3)
        injection ea_ with ea_ en_ ec_
        subst ea_
        subst ec_
        clear en_
        have ea_ := Option.some.inj (hx300_5.symm.trans hx302_5)
        injection ea_ with ea_ en_ ec_
        subst ea_
        subst ec_
        clear en_
        go_wp2
        go_ret
        exact ⟨by first | rfl | (simp; done) | (simp [*]; done), by repeat (first | exact Drawn0.refl _ | apply Drawn0.step)⟩
       ·rw [if_neg c7] at H
        have c7b0 : (((rd_T62 l0 x5_1).f2) != ((Int.tmod (wrap64 ((wrap64 (x1_1 + 1)) + 1)) 3) == 0)) = false := by simpa using c7
        (try (have c7b1 : decide (((rd_T62 l0 x5_1).f2) = ((Int.tmod (wrap64 ((wrap64 (x1_1 + 1)) + 1)) 3) == 0)) = true := by simpa using c7))
        (try (have c7b2 : (((rd_T62 l0 x5_1).f2) == ((Int.tmod (wrap64 ((wrap64 (x1_1 + 1)) + 1)) 3) == 0)) = true := by simpa using c7))
        clear c7
        replace H := tbe H
        obtain ⟨t304, A8, H⟩ := H
        by_cases c9 : t304 < 0
        ·rw [if_pos c9] at H
         have c9b0 : decide (t304 < 0) = true := decide_eq_true c9
         clear c9
         obtain rfl := Option.some.inj H
         have p300 : 0 ≤ (x5_1 : Int) := td
         have q300 : x5_1 < (l0.length : Int) := td
         obtain ⟨ad300, A300_3, c300_3, A300_5, c300_5, e300, hx300_0, hx300_1, hx300_2, hx300_3, hx300_4, hx300_5, hl300_3, hi300_3, hl300_5, hi300_5⟩ := at_T62 HR0.out x5_1 p300 q300
         cases e300
         have HR300_3 := Aside0.mk hi300_3
         have HC300_3 := Aside0.mk hl300_3
         clear hi300_3 hl300_3
         have HR300_5 := Aside0.mk hi300_5
         have HC300_5 := Aside0.mk hl300_5
         clear hi300_5 hl300_5
         replace p300 := eq_true p300
         replace q300 := eq_true q300
         have p301 : 0 ≤ (x5_1 : Int) := td
         have q301 : x5_1 < (l0.length : Int) := td
         obtain ⟨ad301, A301_3, c301_3, A301_5, c301_5, e301, hx301_0, hx301_1, hx301_2, hx301_3, hx301_4, hx301_5, hl301_3, hi301_3, hl301_5, hi301_5⟩ := at_T62 HR0.out x5_1 p301 q301
         obtain rfl : ad300 = ad301 := (by injection e301)
         have HR301_3 := Aside0.mk hi301_3
         have HC301_3 := Aside0.mk hl301_3
         clear hi301_3 hl301_3
         have HR301_5 := Aside0.mk hi301_5
         have HC301_5 := Aside0.mk hl301_5
         clear hi301_5 hl301_5
         replace p301 := eq_true p301
         replace q301 := eq_true q301
         have ea_ := Option.some.inj (hx300_3.symm.trans hx301_3)
         injection ea_ with ea_ en_ ec_
         subst ea_
         subst ec_
         clear en_
         have ea_ := Option.some.inj (hx300_5.symm.trans hx301_5)
         injection ea_ with ea_ en_ ec_
         subst ea_
         subst ec_
         clear en_
         have p302 : 0 ≤ (x5_1 : Int) := td
         have q302 : x5_1 < (l0.length : Int) := td
         obtain ⟨ad302, A302_3, c302_3, A302_5, c302_5, e302, hx302_0, hx302_1, hx302_2, hx302_3, hx302_4, hx302_5, hl302_3, hi302_3, hl302_5, hi302_5⟩ := at_T62 HR0.out x5_1 p302 q302
         obtain rfl : ad300 = ad302 := (by injection e302)
         have HR302_3 := Aside0.mk hi302_3
         have HC302_3 := Aside0.mk hl302_3
         clear hi302_3 hl302_3
         have HR302_5 := Aside0.mk hi302_5
         have HC302_5 := Aside0.mk hl302_5
         clear hi302_5 hl302_5
         replace p302 := eq_true p302
         replace q302 := eq_true q302
         have ea_ := Option.some.inj (hx300_3.symm.trans hx302_3)
         injection ea_ with ea_ en_ ec_
         subst ea_
         subst ec_
         clear en_
         have ea_ := Option.some.inj (hx300_5.symm.trans hx302_5)
         injection ea_ with ea_ en_ ec_
         subst ea_
         subst ec_
         clear en_
         have p303 : 0 ≤ (x5_1 : Int) := td
         have q303 : x5_1 < (l0.length : Int) := td
         obtain ⟨ad303, A303_3, c303_3, A303_5, c303_5, e303, hx303_0, hx303_1, hx303_2, hx303_3, hx303_4, hx303_5, hl303_3, hi303_3, hl303_5, hi303_5⟩ := at_T62 HR0.out x5_1 p303 q303
         obtain rfl : ad300 = ad303 := (by injection e303)
         have HR303_3 := Aside0.mk hi303_3
         have HC303_3 := Aside0.mk hl303_3
         clear hi303_3 hl303_3
         have HR303_5 := Aside0.mk hi303_5
         have HC303_5 := Aside0.mk hl303_5
         clear hi303_5 hl303_5
         replace p303 := eq_true p303
         replace q303 := eq_true q303
         have ea_ := Option.some.inj (hx300_3.symm.trans hx303_3)
         injection ea_ with ea_ en_ ec_
         subst ea_
         subst ec_
         clear en_
         have ea_ := Option.some.inj (hx300_5.symm.trans hx303_5)
         injection ea_ with ea_ en_ ec_
         subst ea_
         subst ec_
         clear en_
         go_wp2_with (first | ((with_reducible refine gate_callee (f := 53) rfl ?_); refine goesL_ (some 47) rfl rfl Tryd.func53 (by kernel_rfl) rfl #[.slice A300_3 ((rd_T62 l0 x5_1).f3).length c300_3, .int .i64 (wrap64 ((wrap64 ((wrap64 (x1_1 + 1)) + 1)) + 1))] rfl tq ?_; (with_reducible refine (laws_heldIntS.calls k1 _ _ ((rd_T62 l0 x5_1).f3) (wrap64 ((wrap64 ((wrap64 (x1_1 + 1)) + 1)) + 1)) t304 _ ?side1 ?side2 A8.out).mono ?_); (case side1 => exact tC HR303_3.out); (case side2 => exact HC303_3.out); rintro e w' ⟨rfl, ⟨nd, rfl⟩⟩; refine ⟨_, rfl, ?_⟩))
         go_ret
         exact ⟨by first | rfl | (simp; done) | (simp [*]; done), by repeat (first | exact Drawn0.refl _ | apply Drawn0.step)⟩
        ·rw [if_neg c9] at H
         have c9b0 : decide (t304 < 0) = false := decide_eq_false c9
         clear c9
         by_cases c10 : (((rd_T62 l0 x5_1).f4) != ((Int.tmod t304 3) == 0)) = true
         ·rw [if_pos c10] at H
          have c10b0 : (((rd_T62 l0 x5_1).f4) != ((Int.tmod t304 3) == 0)) = true := c10
          (try (have c10b1 : decide (((rd_T62 l0 x5_1).f4) = ((Int.tmod t304 3) == 0)) = false := by simpa using c10))
          (try (have c10b2 : (((rd_T62 l0 x5_1).f4) == ((Int.tmod t304 3) == 0)) = false := by simpa using c10))
          (try (have c10b3 : ¬ (((rd_T62 l0 x5_1).f4) = ((Int.tmod t304 3) == 0)) := by simpa using c10))
          clear c10
          obtain rfl := Option.some.inj H
          have p300 : 0 ≤ (x5_1 : Int) := td
          have q300 : x5_1 < (l0.length : Int) := td
          obtain ⟨ad300, A300_3, c300_3, A300_5, c300_5, e300, hx300_0, hx300_1, hx300_2, hx300_3, hx300_4, hx300_5, hl300_3, hi300_3, hl300_5, hi300_5⟩ := at_T62 HR0.out x5_1 p300 q300
          cases e300
          have HR300_3 := Aside0.mk hi300_3
          have HC300_3 := Aside0.mk hl300_3
          clear hi300_3 hl300_3
          have HR300_5 := Aside0.mk hi300_5
          have HC300_5 := Aside0.mk hl300_5
          clear hi300_5 hl300_5
          replace p300 := eq_true p300
          replace q300 := eq_true q300
          have p301 : 0 ≤ (x5_1 : Int) := td
          have q301 : x5_1 < (l0.length : Int) := td
          obtain ⟨ad301, A301_3, c301_3, A301_5, c301_5, e301, hx301_0, hx301_1, hx301_2, hx301_3, hx301_4, hx301_5, hl301_3, hi301_3, hl301_5, hi301_5⟩ := at_T62 HR0.out x5_1 p301 q301
          obtain rfl : ad300 = ad301 := (by injection e301)
          have HR301_3 := Aside0.mk hi301_3
          have HC301_3 := Aside0.mk hl301_3
          clear hi301_3 hl301_3
          have HR301_5 := Aside0.mk hi301_5
          have HC301_5 := Aside0.mk hl301_5
          clear hi301_5 hl301_5
          replace p301 := eq_true p301
          replace q301 := eq_true q301
          have ea_ := Option.some.inj (hx300_3.symm.trans hx301_3)
          injection ea_ with ea_ en_ ec_
          subst ea_
          subst ec_
          clear en_
          have ea_ := Option.some.inj (hx300_5.symm.trans hx301_5)
          injection ea_ with ea_ en_ ec_
          subst ea_
          subst ec_
          clear en_
          have p302 : 0 ≤ (x5_1 : Int) := td
          have q302 : x5_1 < (l0.length : Int) := td
          obtain ⟨ad302, A302_3, c302_3, A302_5, c302_5, e302, hx302_0, hx302_1, hx302_2, hx302_3, hx302_4, hx302_5, hl302_3, hi302_3, hl302_5, hi302_5⟩ := at_T62 HR0.out x5_1 p302 q302
          obtain rfl : ad300 = ad302 := (by injection e302)
          have HR302_3 := Aside0.mk hi302_3
          have HC302_3 := Aside0.mk hl302_3
          clear hi302_3 hl302_3
          have HR302_5 := Aside0.mk hi302_5
          have HC302_5 := Aside0.mk hl302_5
          clear hi302_5 hl302_5
          replace p302 := eq_true p302
          replace q302 := eq_true q302
          have ea_ := Option.some.inj (hx300_3.symm.trans hx302_3)
          injection ea_ with ea_ en_ ec_
          subst ea_
          subst ec_
          clear en_
          have ea_ := Option.some.inj (hx300_5.symm.trans hx302_5)
          injection ea_ with ea_ en_ ec_
          subst ea_
          subst ec_
          clear en_
          have p303 : 0 ≤ (x5_1 : Int) := td
          have q303 : x5_1 < (l0.length : Int) := td
          obtain ⟨ad303, A303_3, c303_3, A303_5, c303_5, e303, hx303_0, hx303_1, hx303_2, hx303_3, hx303_4, hx303_5, hl303_3, hi303_3, hl303_5, hi303_5⟩ := at_T62 HR0.out x5_1 p303 q303
          obtain rfl : ad300 = ad303 := (by injection e303)
          have HR303_3 := Aside0.mk hi303_3
          have HC303_3 := Aside0.mk hl303_3
          clear hi303_3 hl303_3
          have HR303_5 := Aside0.mk hi303_5
          have HC303_5 := Aside0.mk hl303_5
          clear hi303_5 hl303_5
          replace p303 := eq_true p303
          replace q303 := eq_true q303
          have ea_ := Option.some.inj (hx300_3.symm.trans hx303_3)
          injection ea_ with ea_ en_ ec_
          subst ea_
          subst ec_
          clear en_
          have ea_ := Option.some.inj (hx300_5.symm.trans hx303_5)
          injection ea_ with ea_ en_ ec_
          subst ea_
          subst ec_
          clear en_
          go_wp2_with (first | ((with_reducible refine gate_callee (f := 53) rfl ?_); refine goesL_ (some 47) rfl rfl Tryd.func53 (by kernel_rfl) rfl #[.slice A300_3 ((rd_T62 l0 x5_1).f3).length c300_3, .int .i64 (wrap64 ((wrap64 ((wrap64 (x1_1 + 1)) + 1)) + 1))] rfl tq ?_; (with_reducible refine (laws_heldIntS.calls k1 _ _ ((rd_T62 l0 x5_1).f3) (wrap64 ((wrap64 ((wrap64 (x1_1 + 1)) + 1)) + 1)) t304 _ ?side1 ?side2 A8.out).mono ?_); (case side1 => exact tC HR303_3.out); (case side2 => exact HC303_3.out); rintro e w' ⟨rfl, ⟨nd, rfl⟩⟩; refine ⟨_, rfl, ?_⟩; have p305 : 0 ≤ (x5_1 : Int) := td; have q305 : x5_1 < (l0.length : Int) := td; obtain ⟨ad305, A305_3, c305_3, A305_5, c305_5, e305, hx305_0, hx305_1, hx305_2, hx305_3, hx305_4, hx305_5, hl305_3, hi305_3, hl305_5, hi305_5⟩ := at_T62 HR0.out x5_1 p305 q305; obtain rfl : ad300 = ad305 := (by injection e305); have HR305_3 := Aside0.mk hi305_3; have HC305_3 := Aside0.mk hl305_3; clear hi305_3 hl305_3; have HR305_5 := Aside0.mk hi305_5; have HC305_5 := Aside0.mk hl305_5; clear hi305_5 hl305_5; replace p305 := eq_true p305; replace q305 := eq_true q305; have ea_ := Option.some.inj (hx300_3.symm.trans hx305_3); injection ea_ with ea_ en_ ec_; subst ea_; subst ec_; clear en_; have ea_ := Option.some.inj (hx300_5.symm.trans hx305_5); injection ea_ with ea_ en_ ec_; subst ea_; subst ec_; clear en_))
          go_ret
          exact ⟨by first | rfl | (simp; done) | (simp [*]; done), by repeat (first | exact Drawn0.refl _ | apply Drawn0.step)⟩
         ·rw [if_neg c10] at H
          have c10b0 : (((rd_T62 l0 x5_1).f4) != ((Int.tmod t304 3) == 0)) = false := by simpa using c10
          (try (have c10b1 : decide (((rd_T62 l0 x5_1).f4) = ((Int.tmod t304 3) == 0)) = true := by simpa using c10))
          (try (have c10b2 : (((rd_T62 l0 x5_1).f4) == ((Int.tmod t304 3) == 0)) = true := by simpa using c10))
          clear c10
          replace H := tbe H
          obtain ⟨t307, A11, H⟩ := H
          by_cases c12 : t307 < 0
          ·rw [if_pos c12] at H
           have c12b0 : decide (t307 < 0) = true := decide_eq_true c12
           clear c12
           obtain rfl := Option.some.inj H
           have p300 : 0 ≤ (x5_1 : Int) := td
           have q300 : x5_1 < (l0.length : Int) := td
           obtain ⟨ad300, A300_3, c300_3, A300_5, c300_5, e300, hx300_0, hx300_1, hx300_2, hx300_3, hx300_4, hx300_5, hl300_3, hi300_3, hl300_5, hi300_5⟩ := at_T62 HR0.out x5_1 p300 q300
           cases e300
           have HR300_3 := Aside0.mk hi300_3
           have HC300_3 := Aside0.mk hl300_3
           clear hi300_3 hl300_3
           have HR300_5 := Aside0.mk hi300_5
           have HC300_5 := Aside0.mk hl300_5
           clear hi300_5 hl300_5
           replace p300 := eq_true p300
           replace q300 := eq_true q300
           have p301 : 0 ≤ (x5_1 : Int) := td
           have q301 : x5_1 < (l0.length : Int) := td
           obtain ⟨ad301, A301_3, c301_3, A301_5, c301_5, e301, hx301_0, hx301_1, hx301_2, hx301_3, hx301_4, hx301_5, hl301_3, hi301_3, hl301_5, hi301_5⟩ := at_T62 HR0.out x5_1 p301 q301
           obtain rfl : ad300 = ad301 := (by injection e301)
           have HR301_3 := Aside0.mk hi301_3
           have HC301_3 := Aside0.mk hl301_3
           clear hi301_3 hl301_3
           have HR301_5 := Aside0.mk hi301_5
           have HC301_5 := Aside0.mk hl301_5
           clear hi301_5 hl301_5
           replace p301 := eq_true p301
           replace q301 := eq_true q301
           have ea_ := Option.some.inj (hx300_3.symm.trans hx301_3)
           injection ea_ with ea_ en_ ec_
           subst ea_
           subst ec_
           clear en_
           have ea_ := Option.some.inj (hx300_5.symm.trans hx301_5)
           injection ea_ with ea_ en_ ec_
           subst ea_
           subst ec_
           clear en_
           have p302 : 0 ≤ (x5_1 : Int) := td
           have q302 : x5_1 < (l0.length : Int) := td
           obtain ⟨ad302, A302_3, c302_3, A302_5, c302_5, e302, hx302_0, hx302_1, hx302_2, hx302_3, hx302_4, hx302_5, hl302_3, hi302_3, hl302_5, hi302_5⟩ := at_T62 HR0.out x5_1 p302 q302
           obtain rfl : ad300 = ad302 := (by injection e302)
           have HR302_3 := Aside0.mk hi302_3
           have HC302_3 := Aside0.mk hl302_3
           clear hi302_3 hl302_3
           have HR302_5 := Aside0.mk hi302_5
           have HC302_5 := Aside0.mk hl302_5
           clear hi302_5 hl302_5
           replace p302 := eq_true p302
           replace q302 := eq_true q302
           have ea_ := Option.some.inj (hx300_3.symm.trans hx302_3)
           injection ea_ with ea_ en_ ec_
           subst ea_
           subst ec_
           clear en_
           have ea_ := Option.some.inj (hx300_5.symm.trans hx302_5)
           injection ea_ with ea_ en_ ec_
           subst ea_
           subst ec_
           clear en_
           have p303 : 0 ≤ (x5_1 : Int) := td
           have q303 : x5_1 < (l0.length : Int) := td
           obtain ⟨ad303, A303_3, c303_3, A303_5, c303_5, e303, hx303_0, hx303_1, hx303_2, hx303_3, hx303_4, hx303_5, hl303_3, hi303_3, hl303_5, hi303_5⟩ := at_T62 HR0.out x5_1 p303 q303
           obtain rfl : ad300 = ad303 := (by injection e303)
           have HR303_3 := Aside0.mk hi303_3
           have HC303_3 := Aside0.mk hl303_3
           clear hi303_3 hl303_3
           have HR303_5 := Aside0.mk hi303_5
           have HC303_5 := Aside0.mk hl303_5
           clear hi303_5 hl303_5
           replace p303 := eq_true p303
           replace q303 := eq_true q303
           have ea_ := Option.some.inj (hx300_3.symm.trans hx303_3)
           injection ea_ with ea_ en_ ec_
           subst ea_
           subst ec_
           clear en_
           have ea_ := Option.some.inj (hx300_5.symm.trans hx303_5)
           injection ea_ with ea_ en_ ec_
           subst ea_
           subst ec_
           clear en_
           go_wp2_with (first | ((with_reducible refine gate_callee (f := 53) rfl ?_); refine goesL_ (some 47) rfl rfl Tryd.func53 (by kernel_rfl) rfl #[.slice A300_3 ((rd_T62 l0 x5_1).f3).length c300_3, .int .i64 (wrap64 ((wrap64 ((wrap64 (x1_1 + 1)) + 1)) + 1))] rfl tq ?_; (with_reducible refine (laws_heldIntS.calls k1 _ _ ((rd_T62 l0 x5_1).f3) (wrap64 ((wrap64 ((wrap64 (x1_1 + 1)) + 1)) + 1)) t304 _ ?side1 ?side2 A8.out).mono ?_); (case side1 => exact tC HR303_3.out); (case side2 => exact HC303_3.out); rintro e w' ⟨rfl, ⟨nd, rfl⟩⟩; refine ⟨_, rfl, ?_⟩; have p305 : 0 ≤ (x5_1 : Int) := td; have q305 : x5_1 < (l0.length : Int) := td; obtain ⟨ad305, A305_3, c305_3, A305_5, c305_5, e305, hx305_0, hx305_1, hx305_2, hx305_3, hx305_4, hx305_5, hl305_3, hi305_3, hl305_5, hi305_5⟩ := at_T62 HR0.out x5_1 p305 q305; obtain rfl : ad300 = ad305 := (by injection e305); have HR305_3 := Aside0.mk hi305_3; have HC305_3 := Aside0.mk hl305_3; clear hi305_3 hl305_3; have HR305_5 := Aside0.mk hi305_5; have HC305_5 := Aside0.mk hl305_5; clear hi305_5 hl305_5; replace p305 := eq_true p305; replace q305 := eq_true q305; have ea_ := Option.some.inj (hx300_3.symm.trans hx305_3); injection ea_ with ea_ en_ ec_; subst ea_; subst ec_; clear en_; have ea_ := Option.some.inj (hx300_5.symm.trans hx305_5); injection ea_ with ea_ en_ ec_; subst ea_; subst ec_; clear en_; have p306 : 0 ≤ (x5_1 : Int) := td; have q306 : x5_1 < (l0.length : Int) := td; obtain ⟨ad306, A306_3, c306_3, A306_5, c306_5, e306, hx306_0, hx306_1, hx306_2, hx306_3, hx306_4, hx306_5, hl306_3, hi306_3, hl306_5, hi306_5⟩ := at_T62 HR0.out x5_1 p306 q306; obtain rfl : ad300 = ad306 := (by injection e306); have HR306_3 := Aside0.mk hi306_3; have HC306_3 := Aside0.mk hl306_3; clear hi306_3 hl306_3; have HR306_5 := Aside0.mk hi306_5; have HC306_5 := Aside0.mk hl306_5; clear hi306_5 hl306_5; replace p306 := eq_true p306; replace q306 := eq_true q306; have ea_ := Option.some.inj (hx300_3.symm.trans hx306_3); injection ea_ with ea_ en_ ec_; subst ea_; subst ec_; clear en_; have ea_ := Option.some.inj (hx300_5.symm.trans hx306_5); injection ea_ with ea_ en_ ec_; subst ea_; subst ec_; clear en_) | ((with_reducible refine gate_callee (f := 53) rfl ?_); refine goesL_ (some 67) rfl rfl Tryd.func53 (by kernel_rfl) rfl #[.slice A300_5 ((rd_T62 l0 x5_1).f5).length c300_5, .int .i64 (wrap64 (t304 + 1))] rfl tq ?_; (with_reducible refine (laws_heldIntS.calls k1 _ _ ((rd_T62 l0 x5_1).f5) (wrap64 (t304 + 1)) t307 _ ?side1 ?side2 A11.out).mono ?_); (case side1 => exact tC HR306_5.out); (case side2 => exact HC306_5.out); rintro e w' ⟨rfl, ⟨nd, rfl⟩⟩; refine ⟨_, rfl, ?_⟩))
           go_ret
           exact ⟨by first | rfl | (simp; done) | (simp [*]; done), by repeat (first | exact Drawn0.refl _ | apply Drawn0.step)⟩
          ·rw [if_neg c12] at H
           have c12b0 : decide (t307 < 0) = false := decide_eq_false c12
           clear c12
           have H' := Aside0.mk H
           clear H
           have p300 : 0 ≤ (x5_1 : Int) := td
           have q300 : x5_1 < (l0.length : Int) := td
           obtain ⟨ad300, A300_3, c300_3, A300_5, c300_5, e300, hx300_0, hx300_1, hx300_2, hx300_3, hx300_4, hx300_5, hl300_3, hi300_3, hl300_5, hi300_5⟩ := at_T62 HR0.out x5_1 p300 q300
           cases e300
           have HR300_3 := Aside0.mk hi300_3
           have HC300_3 := Aside0.mk hl300_3
           clear hi300_3 hl300_3
           have HR300_5 := Aside0.mk hi300_5
           have HC300_5 := Aside0.mk hl300_5
           clear hi300_5 hl300_5
           replace p300 := eq_true p300
           replace q300 := eq_true q300
           have p301 : 0 ≤ (x5_1 : Int) := td
           have q301 : x5_1 < (l0.length : Int) := td
           obtain ⟨ad301, A301_3, c301_3, A301_5, c301_5, e301, hx301_0, hx301_1, hx301_2, hx301_3, hx301_4, hx301_5, hl301_3, hi301_3, hl301_5, hi301_5⟩ := at_T62 HR0.out x5_1 p301 q301
           obtain rfl : ad300 = ad301 := (by injection e301)
           have HR301_3 := Aside0.mk hi301_3
           have HC301_3 := Aside0.mk hl301_3
           clear hi301_3 hl301_3
           have HR301_5 := Aside0.mk hi301_5
           have HC301_5 := Aside0.mk hl301_5
           clear hi301_5 hl301_5
           replace p301 := eq_true p301
           replace q301 := eq_true q301
           have ea_ := Option.some.inj (hx300_3.symm.trans hx301_3)
           injection ea_ with ea_ en_ ec_
           subst ea_
           subst ec_
           clear en_
           have ea_ := Option.some.inj (hx300_5.symm.trans hx301_5)
           injection ea_ with ea_ en_ ec_
           subst ea_
           subst ec_
           clear en_
           have p302 : 0 ≤ (x5_1 : Int) := td
           have q302 : x5_1 < (l0.length : Int) := td
           obtain ⟨ad302, A302_3, c302_3, A302_5, c302_5, e302, hx302_0, hx302_1, hx302_2, hx302_3, hx302_4, hx302_5, hl302_3, hi302_3, hl302_5, hi302_5⟩ := at_T62 HR0.out x5_1 p302 q302
           obtain rfl : ad300 = ad302 := (by injection e302)
           have HR302_3 := Aside0.mk hi302_3
           have HC302_3 := Aside0.mk hl302_3
           clear hi302_3 hl302_3
           have HR302_5 := Aside0.mk hi302_5
           have HC302_5 := Aside0.mk hl302_5
           clear hi302_5 hl302_5
           replace p302 := eq_true p302
           replace q302 := eq_true q302
           have ea_ := Option.some.inj (hx300_3.symm.trans hx302_3)
           injection ea_ with ea_ en_ ec_
           subst ea_
           subst ec_
           clear en_
           have ea_ := Option.some.inj (hx300_5.symm.trans hx302_5)
           injection ea_ with ea_ en_ ec_
           subst ea_
           subst ec_
           clear en_
           have p303 : 0 ≤ (x5_1 : Int) := td
           have q303 : x5_1 < (l0.length : Int) := td
           obtain ⟨ad303, A303_3, c303_3, A303_5, c303_5, e303, hx303_0, hx303_1, hx303_2, hx303_3, hx303_4, hx303_5, hl303_3, hi303_3, hl303_5, hi303_5⟩ := at_T62 HR0.out x5_1 p303 q303
           obtain rfl : ad300 = ad303 := (by injection e303)
           have HR303_3 := Aside0.mk hi303_3
           have HC303_3 := Aside0.mk hl303_3
           clear hi303_3 hl303_3
           have HR303_5 := Aside0.mk hi303_5
           have HC303_5 := Aside0.mk hl303_5
           clear hi303_5 hl303_5
           replace p303 := eq_true p303
           replace q303 := eq_true q303
           have ea_ := Option.some.inj (hx300_3.symm.trans hx303_3)
           injection ea_ with ea_ en_ ec_
           subst ea_
           subst ec_
           clear en_
           have ea_ := Option.some.inj (hx300_5.symm.trans hx303_5)
           injection ea_ with ea_ en_ ec_
           subst ea_
           subst ec_
           clear en_
           go_wp2_with (first | ((with_reducible refine gate_callee (f := 53) rfl ?_); refine goesL_ (some 47) rfl rfl Tryd.func53 (by kernel_rfl) rfl #[.slice A300_3 ((rd_T62 l0 x5_1).f3).length c300_3, .int .i64 (wrap64 ((wrap64 ((wrap64 (x1_1 + 1)) + 1)) + 1))] rfl tq ?_; (with_reducible refine (laws_heldIntS.calls k1 _ _ ((rd_T62 l0 x5_1).f3) (wrap64 ((wrap64 ((wrap64 (x1_1 + 1)) + 1)) + 1)) t304 _ ?side1 ?side2 A8.out).mono ?_); (case side1 => exact tC HR303_3.out); (case side2 => exact HC303_3.out); rintro e w' ⟨rfl, ⟨nd, rfl⟩⟩; refine ⟨_, rfl, ?_⟩; have p305 : 0 ≤ (x5_1 : Int) := td; have q305 : x5_1 < (l0.length : Int) := td; obtain ⟨ad305, A305_3, c305_3, A305_5, c305_5, e305, hx305_0, hx305_1, hx305_2, hx305_3, hx305_4, hx305_5, hl305_3, hi305_3, hl305_5, hi305_5⟩ := at_T62 HR0.out x5_1 p305 q305; obtain rfl : ad300 = ad305 := (by injection e305); have HR305_3 := Aside0.mk hi305_3; have HC305_3 := Aside0.mk hl305_3; clear hi305_3 hl305_3; have HR305_5 := Aside0.mk hi305_5; have HC305_5 := Aside0.mk hl305_5; clear hi305_5 hl305_5; replace p305 := eq_true p305; replace q305 := eq_true q305; have ea_ := Option.some.inj (hx300_3.symm.trans hx305_3); injection ea_ with ea_ en_ ec_; subst ea_; subst ec_; clear en_; have ea_ := Option.some.inj (hx300_5.symm.trans hx305_5); injection ea_ with ea_ en_ ec_; subst ea_; subst ec_; clear en_; have p306 : 0 ≤ (x5_1 : Int) := td; have q306 : x5_1 < (l0.length : Int) := td; obtain ⟨ad306, A306_3, c306_3, A306_5, c306_5, e306, hx306_0, hx306_1, hx306_2, hx306_3, hx306_4, hx306_5, hl306_3, hi306_3, hl306_5, hi306_5⟩ := at_T62 HR0.out x5_1 p306 q306; obtain rfl : ad300 = ad306 := (by injection e306); have HR306_3 := Aside0.mk hi306_3; have HC306_3 := Aside0.mk hl306_3; clear hi306_3 hl306_3; have HR306_5 := Aside0.mk hi306_5; have HC306_5 := Aside0.mk hl306_5; clear hi306_5 hl306_5; replace p306 := eq_true p306; replace q306 := eq_true q306; have ea_ := Option.some.inj (hx300_3.symm.trans hx306_3); injection ea_ with ea_ en_ ec_; subst ea_; subst ec_; clear en_; have ea_ := Option.some.inj (hx300_5.symm.trans hx306_5); injection ea_ with ea_ en_ ec_; subst ea_; subst ec_; clear en_) | ((with_reducible refine gate_callee (f := 53) rfl ?_); refine goesL_ (some 67) rfl rfl Tryd.func53 (by kernel_rfl) rfl #[.slice A300_5 ((rd_T62 l0 x5_1).f5).length c300_5, .int .i64 (wrap64 (t304 + 1))] rfl tq ?_; (with_reducible refine (laws_heldIntS.calls k1 _ _ ((rd_T62 l0 x5_1).f5) (wrap64 (t304 + 1)) t307 _ ?side1 ?side2 A11.out).mono ?_); (case side1 => exact tC HR306_5.out); (case side2 => exact HC306_5.out); rintro e w' ⟨rfl, ⟨nd, rfl⟩⟩; refine ⟨_, rfl, ?_⟩))
           go_roundg k1
           case measure => have := HK1.out; omega
           case rel => exact ⟨(t307), (wrap64 (x5_1 + 1)), tr, tr, H', ⟨by have := HK1.out; omega⟩, by repeat (first | exact Drawn0.refl _ | apply Drawn0.step)⟩
      ·rw [if_neg c6] at H
       have c6b0 : (((rd_T62 l0 x5_1).f1) == (wrap64 (x1_1 + 1))) = false := beq_eq_false_iff_ne.mpr c6
       have c6b1 : (((rd_T62 l0 x5_1).f1) != (wrap64 (x1_1 + 1))) = true := bne_iff_ne.mpr c6
       obtain rfl := Option.some.inj H
       have p300 : 0 ≤ (x5_1 : Int) := td
       have q300 : x5_1 < (l0.length : Int) := td
       obtain ⟨ad300, A300_3, c300_3, A300_5, c300_5, e300, hx300_0, hx300_1, hx300_2, hx300_3, hx300_4, hx300_5, hl300_3, hi300_3, hl300_5, hi300_5⟩ := at_T62 HR0.out x5_1 p300 q300
       cases e300
       have HR300_3 := Aside0.mk hi300_3
       have HC300_3 := Aside0.mk hl300_3
       clear hi300_3 hl300_3
       have HR300_5 := Aside0.mk hi300_5
       have HC300_5 := Aside0.mk hl300_5
       clear hi300_5 hl300_5
       replace p300 := eq_true p300
       replace q300 := eq_true q300
       have p301 : 0 ≤ (x5_1 : Int) := td
       have q301 : x5_1 < (l0.length : Int) := td
       obtain ⟨ad301, A301_3, c301_3, A301_5, c301_5, e301, hx301_0, hx301_1, hx301_2, hx301_3, hx301_4, hx301_5, hl301_3, hi301_3, hl301_5, hi301_5⟩ := at_T62 HR0.out x5_1 p301 q301
       obtain rfl : ad300 = ad301 := (by injection e301)
       have HR301_3 := Aside0.mk hi301_3
       have HC301_3 := Aside0.mk hl301_3
       clear hi301_3 hl301_3
       have HR301_5 := Aside0.mk hi301_5
       have HC301_5 := Aside0.mk hl301_5
       clear hi301_5 hl301_5
       replace p301 := eq_true p301
       replace q301 := eq_true q301
       have ea_ := Option.some.inj (hx300_3.symm.trans hx301_3)
       injection ea_ with ea_ en_ ec_
       subst ea_
       subst ec_
       clear en_
       have ea_ := Option.some.inj (hx300_5.symm.trans hx301_5)
       injection ea_ with ea_ en_ ec_
       subst ea_
       subst ec_
       clear en_
       go_wp2
       go_ret
       exact ⟨by first | rfl | (simp; done) | (simp [*]; done), by repeat (first | exact Drawn0.refl _ | apply Drawn0.step)⟩
     ·rw [if_neg c5] at H
      have c5b0 : (((rd_T62 l0 x5_1).f0) == x1_1) = false := beq_eq_false_iff_ne.mpr c5
      have c5b1 : (((rd_T62 l0 x5_1).f0) != x1_1) = true := bne_iff_ne.mpr c5
      obtain rfl := Option.some.inj H
      have p300 : 0 ≤ (x5_1 : Int) := td
      have q300 : x5_1 < (l0.length : Int) := td
      obtain ⟨ad300, A300_3, c300_3, A300_5, c300_5, e300, hx300_0, hx300_1, hx300_2, hx300_3, hx300_4, hx300_5, hl300_3, hi300_3, hl300_5, hi300_5⟩ := at_T62 HR0.out x5_1 p300 q300
      cases e300
      have HR300_3 := Aside0.mk hi300_3
      have HC300_3 := Aside0.mk hl300_3
      clear hi300_3 hl300_3
      have HR300_5 := Aside0.mk hi300_5
      have HC300_5 := Aside0.mk hl300_5
      clear hi300_5 hl300_5
      replace p300 := eq_true p300
      replace q300 := eq_true q300
      go_wp2
      go_ret
      exact ⟨by first | rfl | (simp; done) | (simp [*]; done), by repeat (first | exact Drawn0.refl _ | apply Drawn0.step)⟩
    ·rw [if_neg c4] at H
     exact absurd H (by simp)
   ·rw [if_neg c3] at H
    have c3b0 : decide (x5_1 < (l0.length : Int)) = false := decide_eq_false c3
    clear c3
    obtain rfl := Option.some.inj H
    go_wp2
    go_ret
    exact ⟨by first | rfl | (simp; done) | (simp [*]; done), by repeat (first | exact Drawn0.refl _ | apply Drawn0.step)⟩

end Go.Proofs.YtfjkpdhldeopaaaDoor.G

namespace Go.Proofs.YtfjkpdhldeopaaaDoor.Pu
open Go.RowKit Go.Proofs.YtfjkpdhldeopaaaDoorW.PrintWords Go.Proofs.YtfjkpdhldeopaaaDoorW.PrintLast Go.Proofs.YtfjkpdhldeopaaaDoor.G
set_option linter.unusedVariables false
set_option linter.unusedSimpArgs false
def marks (a : Int) (n : Nat) : List Int := (List.range n).map fun (i : Nat) => a + (i : Int)
theorem marks_len (a : Int) (n : Nat) : (marks a n).length = n := by simp [marks]
theorem marks_at (a : Int) (n i : Nat) (h : i < n) : rd (marks a n) (i : Int) = a + i := by
  rw [rdi_nat _ _ (by rw [marks_len]; exact h)]
  simp [marks]
theorem marks_succ (a : Int) (n : Nat) : marks a (n + 1) = marks a n ++ [a + (n : Int)] := by
  unfold marks
  rw [List.range_succ, List.map_append]
  rfl
theorem marks_set (a : Int) (l : List Int) (i : Nat) (h : i < l.length) : (marks a i ++ l.drop i).set i (a + (i : Int)) = marks a (i + 1) ++ l.drop (i + 1) := by
  rw [List.drop_eq_getElem_cons h, List.set_append_right _ _ (by rw [marks_len]; omega), marks_len, Nat.sub_self, List.set_cons_zero, marks_succ, List.append_assoc]
  rfl
theorem mark_loop (l : List Int) (a : Int) (hl : l.length ≤ 4000000000000000000) (h0 : 0 ≤ a) (h1 : a ≤ 4000000000000000000) : ∀ d i, l.length - i = d → i ≤ l.length → Ev (fun k => laws_markIntS.l0 k (marks a i ++ l.drop i) (a + (i : Int)) (i : Int)) (a + (l.length : Int), marks a l.length) := by
  intro d
  induction d with
  | zero =>
    intro i hd hi
    obtain rfl : i = l.length := by omega
    refine Ev.step (fun k => by rw [laws_markIntS.l0]) ?_
    rw [List.drop_length, List.append_nil, marks_len]
    simp only [if_neg (show ¬ ((l.length : Int) < (l.length : Int)) by omega)]
    exact Ev.now _
  | succ d ih =>
    intro i hd hi
    have hlt : i < l.length := by omega
    refine Ev.step (fun k => by rw [laws_markIntS.l0]) ?_
    have hlen : (marks a i ++ l.drop i).length = l.length := by rw [List.length_append, marks_len, List.length_drop]; omega
    simp only [hlen, if_pos (show (i : Int) < (l.length : Int) by omega), if_pos (show (0 : Int) ≤ (i : Int) by omega), Int.toNat_natCast, marks_set a l i hlt, w64 (a := a + (i : Int) + 1) (by omega) (by omega), w64 (a := (i : Int) + 1) (by omega) (by omega)]
    have := ih (i + 1) (by omega) (by omega)
    rw [show a + ((i + 1 : Nat) : Int) = a + (i : Int) + 1 by omega, show ((i + 1 : Nat) : Int) = (i : Int) + 1 by omega] at this
    exact this
theorem markIntS_ev (l : List Int) (a : Int) (hl : l.length ≤ 4000000000000000000) (h0 : 0 ≤ a) (h1 : a ≤ 4000000000000000000) : Ev (fun k => laws_markIntS.f k l a) (a + (l.length : Int), marks a l.length) := by
  unfold laws_markIntS.f
  have := mark_loop l a hl h0 h1 l.length 0 (by omega) (by omega)
  simpa [marks] using this
theorem held_loop (a : Int) (n : Nat) (hl : n ≤ 4000000000000000000) (h0 : 0 ≤ a) (h1 : a ≤ 4000000000000000000) : ∀ d i, n - i = d → i ≤ n → Ev (fun k => laws_heldIntS.l0 k (marks a n) (a + (i : Int)) (i : Int)) (a + (n : Int)) := by
  intro d
  induction d with
  | zero =>
    intro i hd hi
    obtain rfl : i = n := by omega
    refine Ev.step (fun k => by rw [laws_heldIntS.l0]) ?_
    rw [marks_len]
    simp only [if_neg (show ¬ ((i : Int) < (i : Int)) by omega)]
    exact Ev.now _
  | succ d ih =>
    intro i hd hi
    have hlt : i < n := by omega
    refine Ev.step (fun k => by rw [laws_heldIntS.l0]) ?_
    rw [marks_len, marks_at a n i hlt]
    simp only [if_pos (show (i : Int) < (n : Int) by omega), if_pos (show (0 : Int) ≤ (i : Int) by omega), if_true, w64 (a := a + (i : Int) + 1) (by omega) (by omega), w64 (a := (i : Int) + 1) (by omega) (by omega)]
    have := ih (i + 1) (by omega) (by omega)
    rw [show a + ((i + 1 : Nat) : Int) = a + (i : Int) + 1 by omega, show ((i + 1 : Nat) : Int) = (i : Int) + 1 by omega] at this
    exact this
theorem heldIntS_ev (a : Int) (n : Nat) (hl : n ≤ 4000000000000000000) (h0 : 0 ≤ a) (h1 : a ≤ 4000000000000000000) : Ev (fun k => laws_heldIntS.f k (marks a n) a) (a + (n : Int)) := by
  unfold laws_heldIntS.f
  have := held_loop a n hl h0 h1 n 0 (by omega) (by omega)
  simpa using this
end Go.Proofs.YtfjkpdhldeopaaaDoor.Pu

namespace Go.Proofs.YtfjkpdhldeopaaaDoor.G
open Go.RowKit Go.Proofs.YtfjkpdhldeopaaaDoorW.PrintWords Go.Proofs.YtfjkpdhldeopaaaDoorW.PrintLast Go.Proofs.YtfjkpdhldeopaaaDoorW.PrintMore
set_option linter.unusedVariables false
set_option linter.unusedSimpArgs false
section
variable {α : Type} {d : Kd α} {e g n cap base : Nat} {W : World} {ok oki : Nat → Prop} {xs : List α} {i : Int} {c : List Value}
theorem H_at (h : Kd.H d e W base ok (.slice (some ⟨g, 0, none⟩) n cap) xs i oki c) (h0 : 0 ≤ i) (h1 : i < n) (j : Nat) (u : Value) (hu : c[j]? = some u) :
    W.cell? ⟨g, i.toNat * d.sz + j, none⟩ = some u ∧ W.frozen? ⟨g, i.toNat * d.sz + j, none⟩ = false := by
  obtain ⟨rows, hl, hraw, _, _, hcc, _⟩ := Kd.H_raw h h0 h1
  obtain ⟨_, _, _, _, hfr⟩ := Kd.R_elem hraw [] i h0 h1
  exact ⟨hcc j u hu, hfr j⟩
theorem H_put (h : Kd.H d e W base ok (.slice (some ⟨g, 0, none⟩) n cap) xs i oki c) (h0 : 0 ≤ i) (h1 : i < n) (j : Nat) (u : Value) (hj : j < c.length) (hc : c.length = d.sz) (hu : u.oneCell' = true) :
    Kd.H d e (W.setCell ⟨g, i.toNat * d.sz + j, none⟩ u) base ok (.slice (some ⟨g, 0, none⟩) n cap) xs i oki (c.set j u) ∧ W.grownBy (W.setCell ⟨g, i.toNat * d.sz + j, none⟩ u) (some g) := by
  have := Kd.H_seg h h0 h1 (seg := [u]) (j := j) (by rw [← hc]; exact hj) (fun q hq => by rw [List.mem_singleton.1 hq]; exact hu)
  have e2 : c.take j ++ [u] ++ c.drop (j + [u].length) = c.set j u := by
    rw [List.set_eq_take_append_cons_drop, if_pos hj]
    simp
  rw [e2] at this
  exact this
end
/-- The marks of a record, and of a row of records. -/
def mkRec (a : Int) (x : S62) : S62 := ⟨a, a + 1, Int.tmod (a + 2) 3 == 0, Pu.marks (a + 3) x.f3.length, Int.tmod (a + 3 + x.f3.length) 3 == 0, Pu.marks (a + 4 + x.f3.length) x.f5.length⟩
def cntR (x : S62) : Nat := 4 + x.f3.length + x.f5.length
def totR : List S62 → Nat
  | [] => 0
  | x :: l => cntR x + totR l
def mkRow : Int → List S62 → List S62
  | _, [] => []
  | a, x :: l => mkRec a x :: mkRow (a + (cntR x : Int)) l
theorem mkRow_len : ∀ (l : List S62) (a : Int), (mkRow a l).length = l.length
  | [], _ => rfl
  | x :: l, a => by simp [mkRow, mkRow_len l]
theorem totR_append : ∀ (l m : List S62), totR (l ++ m) = totR l + totR m
  | [], m => by simp [totR]
  | x :: l, m => by simp [totR, totR_append l m, Nat.add_assoc]
theorem mkRow_append : ∀ (l m : List S62) (a : Int), mkRow a (l ++ m) = mkRow a l ++ mkRow (a + (totR l : Int)) m
  | [], m, a => by simp [mkRow, totR]
  | x :: l, m, a => by
    simp only [List.cons_append, mkRow, totR, mkRow_append l m]
    rw [show a + (cntR x : Int) + (totR l : Int) = a + ((cntR x + totR l : Nat) : Int) by omega]
theorem totR_take {l : List S62} {i : Nat} (h : i < l.length) : totR (l.take (i + 1)) = totR (l.take i) + cntR l[i] := by
  rw [← List.take_append_getElem h, totR_append]
  simp [totR]
theorem totR_le (l : List S62) (i : Nat) : totR (l.take i) ≤ totR l := by
  have := totR_append (l.take i) (l.drop i)
  rw [List.take_append_drop] at this
  omega
theorem cntR_le {l : List S62} {i : Nat} (h : i < l.length) : totR (l.take i) + cntR l[i] ≤ totR l := by
  rw [← totR_take h]
  exact totR_le l _
theorem mkRow_set (a : Int) (l : List S62) (i : Nat) (h : i < l.length) : (mkRow a (l.take i) ++ l.drop i).set i (mkRec (a + (totR (l.take i) : Int)) l[i]) = mkRow a (l.take (i + 1)) ++ l.drop (i + 1) := by
  have hl : (mkRow a (l.take i)).length = i := by rw [mkRow_len, List.length_take]; omega
  rw [List.drop_eq_getElem_cons h, List.set_append_right _ _ (by omega), hl, Nat.sub_self, List.set_cons_zero, ← List.take_append_getElem h, mkRow_append]
  simp [mkRow]
theorem mkRow_at (a : Int) (l : List S62) (i : Nat) (h : i < l.length) (z : S62) : (mkRow a (l.take i) ++ l.drop i).getD i z = l[i] := by
  have hl : (mkRow a (l.take i)).length = i := by rw [mkRow_len, List.length_take]; omega
  rw [List.getD_eq_getElem?_getD, List.getElem?_append_right (by omega), hl, Nat.sub_self, List.getElem?_drop]
  simp [h]
theorem mkRow_len2 (a : Int) (l : List S62) (i : Nat) (h : i ≤ l.length) : (mkRow a (l.take i) ++ l.drop i).length = l.length := by
  rw [List.length_append, mkRow_len, List.length_take, List.length_drop]
  omega
theorem markI (u : Value) (l : List Int) (a : Int) (w0 w : World) (hB : Below w0.heap.size w0 w) (ho : Kd.R (Kd.int .i64) 3 w w0.heap.size (fun k => some k = u.ownBlock) u l) (hl : l.length ≤ 4000000000000000000) (h0 : 0 ≤ a) (h1 : a ≤ 4000000000000000000) :
    Calls Tryd.prog 52 #[u, .int .i64 a] w fun e w' => e = .returned (.int .i64 (a + (l.length : Int))) ∧ Kd.R (Kd.int .i64) 3 w' w0.heap.size (fun k => some k = u.ownBlock) u (Pu.marks a l.length) ∧ Below w0.heap.size w0 w' ∧ Kept w w' (fun k => some k = u.ownBlock) := by
  obtain ⟨K, hK⟩ := Pu.markIntS_ev l a hl h0 h1
  refine (laws_markIntS.calls K (fun k => some k = u.ownBlock) u l a _ _ w0 w hB ho (hK K (Nat.le_refl _))).mono ?_
  rintro e w' ⟨rfl, h2, h3, h4⟩
  exact ⟨rfl, Kd.R_reok rfl h2 (fun k hk => hk.symm), h3, h4⟩
/-- A round's state: the row with the element lent (its cells c), and the element's two rows. -/
def MkS (w0 w : World) (P0 oki : Nat → Prop) (g n cap : Nat) (ys : List S62) (i : Nat) (v3 : Value) (l3 : List Int) (v5 : Value) (l5 : List Int) (c : List Value) (W : World) : Prop :=
  Kd.H k62 62 W w0.heap.size P0 (.slice (some ⟨g, 0, none⟩) n cap) ys i oki c ∧ Below w0.heap.size w0 W ∧ Kept w W P0 ∧ Kd.R (Kd.int .i64) 3 W w0.heap.size oki v3 l3 ∧ Kd.R (Kd.int .i64) 3 W w0.heap.size oki v5 l5 ∧ (∀ k, oki k → P0 k ∧ k ≠ g) ∧ w0.heap.size ≤ g ∧ P0 g ∧ i < n ∧ KV v3 v5
section
variable {w0 w W : World} {P0 oki : Nat → Prop} {g n cap i : Nat} {ys : List S62} {v3 v5 : Value} {l3 l5 : List Int} {c : List Value}
theorem MkS.at_ (h : MkS w0 w P0 oki g n cap ys i v3 l3 v5 l5 c W) (j : Nat) (u : Value) (hu : c[j]? = some u) : W.cell? ⟨g, i * 6 + j, none⟩ = some u ∧ W.frozen? ⟨g, i * 6 + j, none⟩ = false := H_at h.1 (by omega) (by have := h.2.2.2.2.2.2.2.2.1; omega) j u hu
theorem MkS.below (h : MkS w0 w P0 oki g n cap ys i v3 l3 v5 l5 c W) : Below w0.heap.size w0 W := h.2.1
theorem MkS.r3 (h : MkS w0 w P0 oki g n cap ys i v3 l3 v5 l5 c W) : Kd.R (Kd.int .i64) 3 W w0.heap.size (fun k => some k = v3.ownBlock) v3 l3 := Kd.R_tight rfl h.2.2.2.1
theorem MkS.r5 (h : MkS w0 w P0 oki g n cap ys i v3 l3 v5 l5 c W) : Kd.R (Kd.int .i64) 3 W w0.heap.size (fun k => some k = v5.ownBlock) v5 l5 := Kd.R_tight rfl h.2.2.2.2.1
theorem MkS.put (h : MkS w0 w P0 oki g n cap ys i v3 l3 v5 l5 c W) (hc : c.length = 6) (j : Nat) (hj : j < 6) (u : Value) (hu : u.oneCell' = true) {W' : World} (hw : W' = W.setCell ⟨g, i * 6 + j, none⟩ u) : MkS w0 w P0 oki g n cap ys i v3 l3 v5 l5 (c.set j u) W' := by
  obtain ⟨h1, h2, h3, h4, h5, h6, h7, h8, h9, h10⟩ := h
  obtain ⟨p1, p2⟩ := H_put h1 (by omega) (by omega) j u (by omega) hc hu
  have e : (W.setCell ⟨g, (i : Int).toNat * (k62).sz + j, none⟩ u) = W' := hw.symm
  rw [e] at p1 p2
  have hn : ∀ k, oki k → some k ≠ some g := fun k hk he => (h6 k hk).2 (by injection he)
  exact ⟨p1, by rw [hw]; exact below_set h2 h7, Kept.of_grown p2 h3 (fun k he => by injection he with he; subst he; exact .inl h8), Kd.R_grown h4 p2 hn, Kd.R_grown h5 p2 hn, h6, h7, h8, h9, h10⟩
/-- The key's row has been marked. -/
theorem MkS.key {W' : World} {l3' : List Int} (h : MkS w0 w P0 oki g n cap ys i v3 l3 v5 l5 c W) (hr : Kd.R (Kd.int .i64) 3 W' w0.heap.size (fun k => some k = v3.ownBlock) v3 l3') (hb : Below w0.heap.size w0 W') (hk : Kept W W' (fun k => some k = v3.ownBlock)) : MkS w0 w P0 oki g n cap ys i v3 l3' v5 l5 c W' := by
  obtain ⟨h1, h2, h3, h4, h5, h6, h7, h8, h9, h10⟩ := h
  have hin : ∀ k, some k = v3.ownBlock → oki k := fun k hk => h4.1 k hk.symm
  refine ⟨Kd.H_step h1 (fun k _ hn hlt => hk.2 k hlt (fun he => hn (hin k he))), hb, h3.then_ hk (fun k he => .inl (h6 k (hin k he)).1), Kd.R_mono hr hin, ?_, h6, h7, h8, h9, h10⟩
  refine Kd.R_reok rfl (Kd.R_move (Kd.R_tight rfl h5) (fun k he => hk.2 k (Kd.R_lt h5 k he.symm) (fun he2 => h10 k he2.symm he.symm))) (fun k he => h5.1 k he)
theorem MkS.val {W' : World} {l5' : List Int} (h : MkS w0 w P0 oki g n cap ys i v3 l3 v5 l5 c W) (hr : Kd.R (Kd.int .i64) 3 W' w0.heap.size (fun k => some k = v5.ownBlock) v5 l5') (hb : Below w0.heap.size w0 W') (hk : Kept W W' (fun k => some k = v5.ownBlock)) : MkS w0 w P0 oki g n cap ys i v3 l3 v5 l5' c W' := by
  obtain ⟨h1, h2, h3, h4, h5, h6, h7, h8, h9, h10⟩ := h
  have hin : ∀ k, some k = v5.ownBlock → oki k := fun k hk => h5.1 k hk.symm
  refine ⟨Kd.H_step h1 (fun k _ hn hlt => hk.2 k hlt (fun he => hn (hin k he))), hb, h3.then_ hk (fun k he => .inl (h6 k (hin k he)).1), ?_, Kd.R_mono hr hin, h6, h7, h8, h9, h10⟩
  refine Kd.R_reok rfl (Kd.R_move (Kd.R_tight rfl h4) (fun k he => hk.2 k (Kd.R_lt h4 k he.symm) (fun he2 => h10 k he.symm he2.symm))) (fun k he => h4.1 k he)
theorem MkS.done (h : MkS w0 w P0 oki g n cap ys i v3 l3 v5 l5 c W) (x' : S62) (hc : c = [.int .i64 x'.f0, .int .i64 x'.f1, .bool x'.f2, v3, .bool x'.f4, v5]) (e3 : x'.f3 = l3) (e5 : x'.f5 = l5) : Kd.S k62 62 W w0.heap.size P0 (.slice (some ⟨g, 0, none⟩) n cap) (ys.set i x') ∧ Below w0.heap.size w0 W ∧ Kept w W P0 := by
  obtain ⟨h1, h2, h3, h4, h5, h6, h7, h8, h9, h10⟩ := h
  subst hc
  exact ⟨Kd.H_back h1 (k62_mkM _ _ _ x' (by rw [e3]; exact h4) (by rw [e5]; exact h5) h10) (fun _ hk => hk), h2, h3⟩
end
set_option maxHeartbeats 4000000 in
set_option maxRecDepth 100000 in
theorem laws_markRecordS.callsA (P0 : Nat → Prop) (u : Value) (l : List S62) (a : Int) (w0 w : World) (hB : Below w0.heap.size w0 w) (ho : Kd.S k62 62 w w0.heap.size P0 u l) (h0 : 0 ≤ a) (h1 : a + (totR l : Int) ≤ 4000000000000000000) :
    Calls Tryd.prog 32 #[u, .int .i64 a] w fun e w' => e = .returned (.int .i64 (a + (totR l : Int))) ∧ Kd.S k62 62 w' w0.heap.size P0 u (mkRow a l) ∧ Below w0.heap.size w0 w' ∧ Kept w w' P0 := by
  obtain ⟨A, cap, rfl⟩ := Kd.S_slice ho
  have HN := Aside0.mk h0
  have HT := Aside0.mk h1
  have HS0 := Aside0.mk ho
  have HB0 := Aside0.mk hB
  have hmax : l.length ≤ 9223372036854775807 := by
    have := (Kd.S_reads' ho).2.2.2.1
    exact this
  clear h0 h1 ho hB
  go_enter Tryd.func32, Tryd.ntmps32
  go_wp2
  go_loopw [1, 5] (fun v1 v5 wr => ∃ i : Nat, v5 = .int .i64 i ∧ v1 = .int .i64 (a + (totR (l.take i) : Int)) ∧ i ≤ l.length ∧ Aside0 (Kd.S k62 62 wr w0.heap.size P0 (.slice A l.length cap) (mkRow a (l.take i) ++ l.drop i)) ∧ Aside0 (Below w0.heap.size w0 wr) ∧ Aside0 (Kept w wr P0)) (fun _ v5 _ => l.length - (intOf v5).toNat)
  case atStart => exact ⟨0, rfl, by simp [totR], Nat.zero_le _, by simpa [mkRow] using HS0, HB0, ⟨Kept.refl _ _⟩⟩
  case round =>
    obtain ⟨i, rfl, rfl, hi, HS, HB, HK⟩ := hrel
    by_cases hlt : i < l.length
    · have hx := mkRow_at a l i hlt z62
      have hset := Aside0.mk (mkRow_set a l i hlt)
      have htk := Aside0.mk (totR_take hlt)
      have hle := cntR_le hlt
      have hlen := Aside0.mk (mkRow_len2 a l i hi)
      have hT := HT.out
      have hN := HN.out
      have hx1b : 0 ≤ a + (totR (l.take i) : Int) := by omega
      have hx1c : a + (totR (l.take i) : Int) + (cntR l[i] : Int) ≤ 4000000000000000000 := by omega
      have HNX := Aside0.mk (show a + (totR (l.take (i + 1)) : Int) = (a + (totR (l.take i) : Int)) + (cntR l[i] : Int) by rw [htk.out]; omega)
      clear hT hN hle htk
      generalize a + (totR (l.take i) : Int) = x1 at *
      generalize mkRow a (l.take i) ++ l.drop i = ys at *
      generalize l[i] = x at *
      have hcx : (cntR x : Int) = 4 + x.f3.length + x.f5.length := by simp [cntR]
      obtain ⟨g, cap', e0, hgb, hgl, cells, hgc⟩ := Kd.S_form HS.out (by rw [hlen.out]; omega)
      injection e0 with e1 e2 e3
      subst e1
      subst e3
      clear e2
      obtain ⟨oki, c, hcl, hM, hcc, hfr, hoki, hH⟩ := Kd.S_elem HS.out z62 (i : Int) (by omega) (by omega)
      rw [Int.toNat_natCast, hx] at hM
      have hkv := k62_kv hM
      obtain ⟨v3, v5, rfl, g3, g5⟩ := k62_openM hM
      have hkv' : KV v3 v5 := hkv
      have hPg : P0 g := (Kd.S_R HS.out).1 g rfl
      obtain ⟨A3, c3, rfl⟩ := Kd.R_slice g3
      obtain ⟨A5, c5, rfl⟩ := Kd.R_slice g5
      have HH := Aside0.mk (show MkS w0 w P0 oki g l.length cap ys i (.slice A3 x.f3.length c3) x.f3 (.slice A5 x.f5.length c5) x.f5 _ wr from ⟨hH, HB.out, HK.out, g3, g5, hoki, hgb, hPg, hlt, hkv'⟩)
      have d0 := HH.out.at_ 0 _ rfl
      have hwA : wrap64 (x1 + 1) = x1 + 1 := by simp only [wrap64]; omega
      have hwB : wrap64 (x1 + 1 + 1) = x1 + 2 := by simp only [wrap64]; omega
      have hwC : wrap64 (x1 + 2 + 1) = x1 + 3 := by simp only [wrap64]; omega
      have hwD : wrap64 (x1 + 3 + (x.f3.length : Int) + 1) = x1 + 4 + x.f3.length := by simp only [wrap64]; omega
      have HX1 := Aside0.mk hx1b
      have HX2 := Aside0.mk (And.intro hx1c hcx)
      clear hkv hcc hfr hcl hM hH g3 g5 hkv' hoki hgc hgl hgb hx hPg HB HK HS hx1b hx1c hcx
      rw [Nat.add_zero] at d0
      obtain ⟨hd, hf⟩ := d0
      go_wp2_with (first
        | ((with_reducible refine gate_store (t := 3) (p := 16) rfl ?_); refine store_event (t := 3) (p := 16) (v := ?v1) (w1 := (wr.setCell ⟨g, i * 6, none⟩ (.int .i64 x1))) ?hg ?ho ?hn ?hr ?_; (case ho => rfl); (case hg => rfl); (case hn => rfl); (case hr => first | (go_simp; done) | (go_simp; rfl)); intro w1 hw; replace HH := Aside0.mk (HH.out.put rfl 0 (by decide) _ rfl hw); clear hw hd hf; obtain ⟨hd, hf⟩ := HH.out.at_ 1 _ rfl)
        | ((with_reducible refine gate_store (t := 3) (p := 23) rfl ?_); refine store_event (t := 3) (p := 23) (v := ?v2) (w1 := (w1.setCell ⟨g, i * 6 + 1, none⟩ (.int .i64 (x1 + 1)))) ?hg ?ho ?hn ?hr ?_; (case ho => rfl); (case hg => rfl); (case hn => rfl); (case hr => first | (go_simp; done) | (go_simp; rfl)); intro w2 hw; replace HH := Aside0.mk (HH.out.put rfl 1 (by decide) _ rfl hw); clear hw hd hf; obtain ⟨hd, hf⟩ := HH.out.at_ 2 _ rfl)
        | ((with_reducible refine gate_store (t := 4) (p := 32) rfl ?_); refine store_event (t := 4) (p := 32) (v := ?v3) (w1 := (w2.setCell ⟨g, i * 6 + 2, none⟩ (.bool (Int.tmod (x1 + 2) 3 == 0)))) ?hg ?ho ?hn ?hr ?_; (case ho => rfl); (case hg => rfl); (case hn => rfl); (case hr => first | (go_simp; done) | (go_simp; rfl)); intro w3 hw; replace HH := Aside0.mk (HH.out.put rfl 2 (by decide) _ rfl hw); clear hw hd hf; obtain ⟨hd, hf⟩ := HH.out.at_ 3 _ rfl)
        | (go_at_call 52; with_reducible refine (markI (.slice A3 x.f3.length c3) x.f3 (x1 + 3) w0 w3 HH.out.below HH.out.r3 (by have := HX1.out; have := HX2.out; omega) (by have := HX1.out; omega) (by have := HX2.out; omega)).mono ?_; rintro e w4 ⟨rfl, m1, m2, m3⟩; replace HH := Aside0.mk (HH.out.key m1 m2 m3); clear m1 m2 m3 hd hf; obtain ⟨hd, hf⟩ := HH.out.at_ 4 _ rfl)
        | ((with_reducible refine gate_store (t := 4) (p := 48) rfl ?_); refine store_event (t := 4) (p := 48) (v := ?v4) (w1 := (w4.setCell ⟨g, i * 6 + 4, none⟩ (.bool (Int.tmod (x1 + 3 + (x.f3.length : Int)) 3 == 0)))) ?hg ?ho ?hn ?hr ?_; (case ho => rfl); (case hg => rfl); (case hn => rfl); (case hr => first | (go_simp; done) | (go_simp; rfl)); intro w5 hw; replace HH := Aside0.mk (HH.out.put rfl 4 (by decide) _ rfl hw); clear hw hd hf; obtain ⟨hd, hf⟩ := HH.out.at_ 5 _ rfl)
        | (go_at_call 52; with_reducible refine (markI (.slice A5 x.f5.length c5) x.f5 (x1 + 4 + (x.f3.length : Int)) w0 w5 HH.out.below HH.out.r5 (by have := HX1.out; have := HX2.out; omega) (by have := HX1.out; omega) (by have := HX2.out; omega)).mono ?_; rintro e w6 ⟨rfl, m1, m2, m3⟩; replace HH := Aside0.mk (HH.out.val m1 m2 m3); clear m1 m2 m3 hd hf))
      have HD := HH.out.done (mkRec x1 x) rfl rfl rfl
      rw [hset.out] at HD
      go_roundw
      case measure => simp only [intOf]; omega
      case rel => exact ⟨i + 1, by simp, by rw [HNX.out]; have := HX2.out.2; congr 1; omega, by omega, ⟨HD.1⟩, ⟨HD.2.1⟩, ⟨HD.2.2⟩⟩
    · have hil : i = l.length := by omega
      subst hil
      go_wp2
      go_ret
      rw [List.take_length, List.drop_length, List.append_nil] at HS
      exact ⟨by simp, HS.out, HB.out, HK.out⟩
end Go.Proofs.YtfjkpdhldeopaaaDoor.G

namespace Go.Proofs.YtfjkpdhldeopaaaDoor.G
open Go.RowKit Go.Proofs.YtfjkpdhldeopaaaDoorW.PrintWords Go.Proofs.YtfjkpdhldeopaaaDoorW.PrintLast Go.Proofs.YtfjkpdhldeopaaaDoorW.PrintMore
set_option linter.unusedVariables false
/-- A fact of the world and the blocks on which it rests: a variable, or a row. -/
inductive En where
  | box (b : Nat) (cs : Array Value) (t : Nat)
  | row (Q : World → Prop) (P : Nat → Prop)
def En.Q : En → World → Prop
  | .box b cs t, W => W.heap[b]? = some (.cells cs t (0, 0))
  | .row Q _, W => Q W
def En.P : En → Nat → Prop
  | .box b _ _, k => k = b
  | .row _ P, k => P k
def St (w W : World) (es : List En) : Prop := Below w.heap.size w W ∧ (∀ e ∈ es, Foot e.Q W e.P ∧ ∀ k, e.P k → w.heap.size ≤ k ∧ k < W.heap.size) ∧ (es.map En.P).Pairwise (fun p q => ∀ k, p k → q k → False)
section
variable {w W W' : World} {es es' : List En} {e : En} {i : Nat}
theorem St.nil (w : World) : St w w [] := ⟨Below.refl _ _, fun _ h => by simp at h, List.Pairwise.nil⟩
theorem St.below (h : St w W es) : Below w.heap.size w W := h.1
theorem St.get (h : St w W es) (i : Nat) {e : En} (he : es[i]? = some e) : e.Q W := Foot.now (h.2.1 e (List.mem_of_getElem? he)).1
theorem St.call (h : St w W es) (hb : Below W.heap.size W W') : St w W' es :=
  ⟨below_step h.1 hb, fun e he => ⟨(h.2.1 e he).1.step (fun k _ hlt => hb.block k hlt), fun k hk => ⟨((h.2.1 e he).2 k hk).1, Nat.lt_of_lt_of_le ((h.2.1 e he).2 k hk).2 hb.size⟩⟩, h.2.2⟩
theorem St.push (h : St w W es) (hb : Below W.heap.size W W') (e : En) (hf : Foot e.Q W' e.P) (hP : ∀ k, e.P k → W.heap.size ≤ k ∧ k < W'.heap.size) : St w W' (e :: es) := by
  obtain ⟨h1, h2, h3⟩ := h.call hb
  refine ⟨h1, fun f hf' => ?_, ?_⟩
  · rcases List.mem_cons.1 hf' with rfl | hf'
    · exact ⟨hf, fun k hk => ⟨Nat.le_trans h.1.size (hP k hk).1, (hP k hk).2⟩⟩
    · exact h2 f hf'
  · rw [List.map_cons, List.pairwise_cons]
    refine ⟨fun q hq k hk hqk => ?_, h3⟩
    obtain ⟨f, hf', rfl⟩ := List.mem_map.1 hq
    have := ((h.2.1 f hf').2 k hqk).2
    have := (hP k hk).1
    omega
theorem St.sub (h : St w W es) (hs : es'.Sublist es) : St w W es' := ⟨h.1, fun e he => h.2.1 e (hs.subset he), h.2.2.sublist (hs.map _)⟩
theorem St.mark (h : St w W es) (i : Nat) (he : es[i]? = some e) (e' : En) (hP : e'.P = e.P) (hb : Below w.heap.size w W') (hk : Kept W W' e.P) (hf : Foot e'.Q W' e'.P) : St w W' (es.set i e') := by
  obtain ⟨h1, h2, h3⟩ := h
  obtain ⟨hil, hie⟩ := List.getElem?_eq_some_iff.1 he
  refine ⟨hb, fun f hf' => ?_, ?_⟩
  · obtain ⟨j, hj⟩ := List.getElem?_of_mem hf'
    by_cases hij : j = i
    · subst hij
      rw [List.getElem?_set_self hil] at hj
      injection hj with hj
      subst hj
      exact ⟨hf, fun k hk2 => by rw [hP] at hk2; exact ⟨((h2 e (List.mem_of_getElem? he)).2 k hk2).1, Nat.lt_of_lt_of_le ((h2 e (List.mem_of_getElem? he)).2 k hk2).2 hk.1⟩⟩
    · rw [List.getElem?_set_ne (Ne.symm hij)] at hj
      obtain ⟨p1, p2⟩ := h2 f (List.mem_of_getElem? hj)
      refine ⟨p1.step (fun k hk2 hlt => hk.2 k hlt (fun hk3 => ?_)), fun k hk2 => ⟨(p2 k hk2).1, Nat.lt_of_lt_of_le (p2 k hk2).2 hk.1⟩⟩
      obtain ⟨hjl, hje⟩ := List.getElem?_eq_some_iff.1 hj
      rw [List.pairwise_iff_getElem] at h3
      rcases Nat.lt_or_gt_of_ne hij with hlt2 | hlt2
      · have := h3 j i (by rw [List.length_map]; exact hjl) (by rw [List.length_map]; exact hil) hlt2 k
        rw [List.getElem_map, List.getElem_map, hje, hie] at this
        exact this hk2 hk3
      · have := h3 i j (by rw [List.length_map]; exact hil) (by rw [List.length_map]; exact hjl) hlt2 k
        rw [List.getElem_map, List.getElem_map, hje, hie] at this
        exact this hk3 hk2
  · have : (es.set i e').map En.P = es.map En.P := by
      rw [List.map_set]
      rw [hP]
      apply List.ext_getElem?
      intro j
      by_cases hij : i = j
      · subst hij
        rw [List.getElem?_set_self (by rw [List.length_map]; exact hil), List.getElem?_map, he]
        rfl
      · rw [List.getElem?_set_ne hij]
    rw [this]
    exact h3
end
/-- A row of one's own, whose elements lie apart; a row that is read. -/
def rowS {α : Type} (d : Kd α) (e b : Nat) (v : Value) (xs : List α) (P : Nat → Prop) : En := .row (fun W => Kd.S d e W b P v xs) P
def rowF {α : Type} (d : Kd α) (A : Option Addr) (n : Nat) (xs : List α) (P : Nat → Prop) : En := .row (fun W => d.C W A n xs) P
section
variable {α : Type} {d : Kd α} {e b n c i : Nat} {w W W' : World} {es : List En} {v : Value} {A : Option Addr} {xs ys : List α} {P ok : Nat → Prop}
theorem foot_S (h : Kd.S d e W b P v xs) : Foot (fun W => Kd.S d e W b P v xs) W P := fun W' hW => Kd.S_step h hW
theorem St.pushS (h : St w W es) (hs : Kd.S d e W' W.heap.size ok v xs) (hb : Below W.heap.size W W') : St w W' (rowS d e w.heap.size v xs (fun k => W.heap.size ≤ k ∧ k < W'.heap.size) :: es) := by
  refine h.push hb (rowS d e w.heap.size v xs _) (foot_S ?_) (fun k hk => hk)
  exact Kd.S_lower (Kd.S_mono (Kd.S_bound hs) (fun k hk => ⟨hk.2.1, hk.2.2.1⟩)) h.1.size
theorem St.getS (h : St w W es) (i : Nat) (he : es[i]? = some (rowS d e b v xs P)) : Kd.S d e W b P v xs := h.get i he
theorem St.getC (h : St w W es) (i : Nat) (he : es[i]? = some (rowS d e b (.slice A xs.length c) xs P)) : d.C W A xs.length xs := (Kd.S_reads' (h.getS i he)).2.2
theorem St.getL (h : St w W es) (i : Nat) (he : es[i]? = some (rowS d e b (.slice A xs.length c) xs P)) : xs.length ≤ c := (Kd.S_reads' (h.getS i he)).2.1
theorem St.getF (h : St w W es) (i : Nat) (he : es[i]? = some (rowF d A n xs P)) : d.C W A n xs := h.get i he
theorem St.markS (h : St w W es) (i : Nat) (he : es[i]? = some (rowS d e w.heap.size v xs P)) (hs : Kd.S d e W' w.heap.size P v ys) (hb : Below w.heap.size w W') (hk : Kept W W' P) : St w W' (es.set i (rowS d e w.heap.size v ys P)) := h.mark i he _ rfl hb hk (foot_S hs)
end
end Go.Proofs.YtfjkpdhldeopaaaDoor.G

namespace Go.Proofs.YtfjkpdhldeopaaaDoor.G
open Go.RowKit Go.Proofs.YtfjkpdhldeopaaaDoorW.PrintWords Go.Proofs.YtfjkpdhldeopaaaDoorW.PrintLast Go.Proofs.YtfjkpdhldeopaaaDoorW.PrintMore
set_option linter.unusedVariables false
section
variable {α : Type} {d : Kd α} {e b n c i base : Nat} {w w0 w1 W W' : World} {es : List En} {u v : Value} {A : Option Addr} {xs ys : List α} {P ok okX okY : Nat → Prop}
open Classical in
theorem S_two {m : Nat} (HO : Kd.S d e W base okX v xs) (HY : Kd.S d e W base okY (.slice A m c) ys) (hap : ∀ k, okX k → ¬ okY k) :
    ∃ f, (Kd.tag f d).R e W base okX v xs.zipIdx ∧ ReadsRow ((Kd.tag f d).M W base okY) d.sz W A m (ys.zipIdx xs.length) := by
  obtain ⟨f1, h1⟩ := HO
  obtain ⟨f2, h2⟩ := HY
  refine ⟨fun k => if okY k then xs.length + f2 k else f1 k, Kd.R_tag h1 (fun k hk _ => if_neg (hap k hk)), ?_⟩
  obtain ⟨A', c', he, hl, hr⟩ := OwnRow.reads h2.2
  injection he with e1 e2 e3
  subst e1
  subst e3
  rw [List.length_zipIdx] at e2 hr
  subst e2
  refine ⟨by rw [List.length_zipIdx], hr.2.1, fun h0 => ?_⟩
  obtain ⟨ad, ha, hj⟩ := hr.2.2 h0
  refine ⟨ad, ha, fun j p hp => ?_⟩
  rw [List.getElem?_zipIdx] at hp
  obtain ⟨q, hq, rfl⟩ := Option.map_eq_some_iff.1 hp
  obtain ⟨cs, hcs, hM, hcell⟩ := hj j (q, j) (Kd.zip_at hq)
  refine ⟨cs, hcs, d.M_mono (fun k hk => ⟨hk.1.1, ?_⟩) hM, hcell⟩
  have h3 : f2 k = j := hk.2
  show (if okY k then xs.length + f2 k else f1 k) = xs.length + j
  rw [if_pos hk.1.1, h3]
section
variable {P : Program} {ops : Array Oper} {rest : List Oper} {o : Oper} {a : Act} {Q : Exit → Act → World → Prop} {Kc : Act → World → Prop}
theorem S_append_rows_step (d : Kd α) (base : Nat) (hw : Region.wanted o (yielded ops a.tmps) = true) (s x : Operand) (t e : TypeId) (z : Value) (bytes : Nat)
    (ho : o.op = .call { callee := .builtin .append, args := #[s, x], argTypes := #[t, t] })
    (ht : P.underlying t = some (.slice e)) (hinfo : (P.info? e).map (fun i => (i.zero, i.size, i.bytes)) = some (some z, d.sz, bytes)) (hz : z.cells.size = d.sz) (hs0 : 0 < d.sz) (hb0 : 0 < bytes)
    (v : Value) (xs ys : List α) (A : Option Addr) (m c : Nat) (ok okX okY : Nat → Prop) (hs : a.eval s = v) (hx : a.eval x = .slice A m c)
    (HO : Kd.S d e W base okX v xs) (HY : Kd.S d e W base okY (.slice A m c) ys) (hap : ∀ k, okX k → ¬ okY k) (h1 : ∀ k, okX k → ok k) (h2 : ∀ k, okY k → ok k) (hfresh : ∀ k, W.heap.size ≤ k → ok k)
    (HB : Below base w0 W) (hbase : base ≤ W.heap.size) (hl : (xs.length + m) * bytes ≤ 140737488355328)
    (h : ∀ v1 w1, Kd.S d e w1 base ok v1 (xs ++ ys) → Below base w0 w1 → W.grownBy w1 v.ownBlock → (v1.ownBlock = v.ownBlock ∨ ∃ b, v1.ownBlock = some b ∧ W.heap.size ≤ b) → Kc (a.put o.dst v1) w1) :
    if Region.wanted o (yielded ops a.tmps) = true then Oper.wp P o a W Kc Q else Kc (a.put o.dst undef) W := by
  obtain ⟨f, hX, hY⟩ := S_two HO HY hap
  refine Kd.R_append_rows_step (Kd.tag f d) base hw s x t e z bytes ho ht hinfo hz hs0 hb0 v xs.zipIdx (ys.zipIdx xs.length) A m c ok okY hs hx (Kd.R_mono hX h1) hY (fun _ _ h => h) (fun k hk => ⟨h2 k hk, fun he => hap k (hX.1 k he.symm) hk⟩) hfresh HB hbase (by rw [List.length_zipIdx]; exact hl) ?_
  intro v1 w1 hr
  rw [← Nat.zero_add xs.length, ← List.zipIdx_append] at hr
  exact h v1 w1 ⟨f, hr⟩
end
end
/-- A kind that leads to a row whose elements lie apart. -/
def sS {α : Type} (e : Nat) (d : Kd α) : Kd (List α) where
  sz := 1
  E := e :: d.E
  K := (Kd.slice e d).K
  M := fun w base ok xs cs => ∃ v, cs = [v] ∧ Kd.S d e w base ok v xs
  K_len := (Kd.slice e d).K_len
  K_one := (Kd.slice e d).K_one
  K_below := (Kd.slice e d).K_below
  K_of_M := fun ⟨v, hv, h⟩ => (Kd.slice e d).K_of_M ⟨v, hv, Kd.S_R h⟩
  M_mono := fun hok ⟨v, hv, h⟩ => ⟨v, hv, Kd.S_mono h hok⟩
  M_bound := fun ⟨v, hv, h⟩ => ⟨v, hv, Kd.S_bound h⟩
  M_move := fun hm ⟨v, hv, h⟩ => ⟨v, hv, Kd.S_move h hm⟩
  M_lower := fun hb ⟨v, hv, h⟩ => ⟨v, hv, Kd.S_lower h hb⟩
/-- A variable in memory. -/
abbrev boxE (b : Nat) (cs : Array Value) (t : TypeId) : En := .box b cs t
section
variable {b i t : Nat} {cs : Array Value} {w W W' : World} {es : List En}
theorem St.getB (h : St w W es) (i : Nat) (he : es[i]? = some (boxE b cs t)) : W.heap[b]? = some (.cells cs t (0, 0)) := h.get i he
theorem St.pushB (h : St w W es) (hg : b = W.heap.size) (hbox : W'.heap[b]? = some (.cells cs t (0, 0))) (hb : Below W.heap.size W W') : St w W' (boxE b cs t :: es) := by
  subst hg
  refine h.push hb (boxE W.heap.size cs t) ?_ (fun k hk => ?_)
  · intro W2 h2
    exact (h2 _ rfl (blk_lt hbox)).trans hbox
  · obtain rfl : k = W.heap.size := hk
    exact ⟨Nat.le_refl _, blk_lt hbox⟩
end
end Go.Proofs.YtfjkpdhldeopaaaDoor.G

