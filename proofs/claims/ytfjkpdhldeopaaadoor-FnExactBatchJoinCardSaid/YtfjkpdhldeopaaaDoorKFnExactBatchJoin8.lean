/- A text of seat YtfjkpdhldeopaaaDoor: what the law FnExactBatchJoin needs of this repo's texts (by pack.py). Not trusted: Lean checks it. -/
import Derived.Test.YtfjkpdhldeopaaaDoorKFnExactBatchJoin7
import Derived.OwnWalkIn
namespace Go.Proofs.YtfjkpdhldeopaaaDoor.G
open Go.RowKit Go.Proofs.YtfjkpdhldeopaaaDoorW.PrintWords Go.Proofs.YtfjkpdhldeopaaaDoorW.PrintLast Go.Proofs.YtfjkpdhldeopaaaDoorW.PrintMore
attribute [local go_sem] max2_int min2_int max_two min_two max_three min_three max_four min_four   -- for this text's walks alone
set_option linter.unusedVariables false
set_option linter.unusedSimpArgs false

def impl_BatchJoin.f (k : Nat) (a0_0 : Bool) (a0_1 : Bool) (a0_2 : Int) (a0_3 : Int) (a0_4 : Int) (l0_5 : List (S62)) (a1_0 : Bool) (a1_1 : Bool) (a1_2 : Int) (a1_3 : Int) (a1_4 : Int) (l1_5 : List (S62)) : Option (Bool × Bool × Int × Int × Int × (List (S62)) × Bool) := (impl_Batch_join.f k a0_0 a0_1 a0_2 a0_3 a0_4 l0_5 a1_0 a1_1 a1_2 a1_3 a1_4 l1_5).bind fun bt274 => ((errors_Is.f bt274.2.2.2.2.2.2 (some 1)).bind fun t284 => (if t284 = true then (some (false, false, 0, 0, 0, ([] : List (S62)), false)) else (some (bt274.1, bt274.2.1, bt274.2.2.1, bt274.2.2.2.1, bt274.2.2.2.2.1, bt274.2.2.2.2.2.1, true))))
def laws_eqIntS.l0 : Nat → List Int → List Int → Int → Option (Bool)
 | 0, _, _, _ => none
 | k + 1, x0, x1, x5 => if x5 < (x0.length : Int) then (if 0 ≤ x5 then (if x5 < (x1.length : Int) then (if (rd x0 x5) = (rd x1 x5) then (laws_eqIntS.l0 k x0 x1 (wrap64 (x5 + 1))) else (some false)) else (none)) else (none)) else (some true)
def laws_eqIntS.f (k : Nat) (l0 : List Int) (l1 : List Int) : Option (Bool) := if (l0.length : Int) = (l1.length : Int) then (laws_eqIntS.l0 k l0 l1 0) else (some false)
set_option maxHeartbeats 8000000 in
set_option maxRecDepth 100000 in
theorem laws_eqIntS.calls (k : Nat) (A0 : Option Addr) (c0 : Nat) (l0 : List Int) (A1 : Option Addr) (c1 : Nat) (l1 : List Int) (r : Bool) (w : World) (hr0 : Kd.C (Kd.int .i64) w A0 l0.length l0) (hc0 : l0.length ≤ c0) (hr1 : Kd.C (Kd.int .i64) w A1 l1.length l1) (hc1 : l1.length ≤ c1) (h : laws_eqIntS.f k l0 l1 = some r) :
  Calls Tryd.prog 61 #[.slice A0 l0.length c0, .slice A1 l1.length c1] w fun e w' => e = .returned (.bool r) ∧ Drawn0 w w' := by
 have HR0 := Aside0.mk hr0
 have HC0 := Aside0.mk hc0
 clear hr0 hc0
 have HR1 := Aside0.mk hr1
 have HC1 := Aside0.mk hc1
 clear hr1 hc1
 have H : (if (l0.length : Int) = (l1.length : Int) then (laws_eqIntS.l0 k l0 l1 0) else (some false)) = some r := h
 clear h
 by_cases c3 : (l0.length : Int) = (l1.length : Int)
 ·rw [if_pos c3] at H
  have c3b0 : ((l0.length : Int) == (l1.length : Int)) = true := beq_iff_eq.mpr c3
  have c3b1 : ((l0.length : Int) != (l1.length : Int)) = false := bne_eq_false_iff_eq.mpr c3
  have c3b2 : (l0.length == l1.length) = true := by first | simpa using c3 | (simp at c3 ⊢; omega)
  clear c3
  have H' := Aside0.mk H
  clear H
  go_enter Tryd.func61, Tryd.ntmps61
  go_wp2
  repeat (go_quiet (fail); try go_wp2)
  go_loopg [5] k (fun kq v5 w' => ∃ (x5_1 : Int), v5 = .int .i64 x5_1 ∧ Aside0 (laws_eqIntS.l0 kq l0 l1 x5_1 = some r) ∧ Aside0 (kq ≤ k) ∧ Drawn0 w w')
  case atStart => exact ⟨(0), tr, H', ⟨Nat.le_refl _⟩, by repeat (first | exact Drawn0.refl _ | apply Drawn0.step)⟩
  case round =>
   clear H'
   try clear c1; try clear c3; try clear c3b0; try clear c3b1; try clear c3b2
   obtain ⟨x5_1, rfl, HA, HK1, ⟨m1, rfl⟩⟩ := hrel
   cases gk with
   | zero => exact absurd HA.out (by simp [laws_eqIntS.l0])
   | succ k1 =>
    have H := HA.out
    clear HA
    simp only [laws_eqIntS.l0] at H
    by_cases c4 : x5_1 < (l0.length : Int)
    ·rw [if_pos c4] at H
     have c4b0 : decide (x5_1 < (l0.length : Int)) = true := decide_eq_true c4
     clear c4
     by_cases c5 : 0 ≤ x5_1
     ·rw [if_pos c5] at H
      have c5b0 : decide (0 ≤ x5_1) = true := decide_eq_true c5
      clear c5
      by_cases c6 : x5_1 < (l1.length : Int)
      ·rw [if_pos c6] at H
       have c6b0 : decide (x5_1 < (l1.length : Int)) = true := decide_eq_true c6
       clear c6
       by_cases c7 : (rd l0 x5_1) = (rd l1 x5_1)
       ·rw [if_pos c7] at H
        have c7b0 : ((rd l0 x5_1) == (rd l1 x5_1)) = true := beq_iff_eq.mpr c7
        have c7b1 : ((rd l0 x5_1) != (rd l1 x5_1)) = false := bne_eq_false_iff_eq.mpr c7
        clear c7
        have H' := Aside0.mk H
        clear H
        have p285 : 0 ≤ (x5_1 : Int) := td
        have q285 : x5_1 < (l0.length : Int) := td
        obtain ⟨ad285, e285, hx285_0⟩ := Kd.at_int HR0.out x5_1 p285 q285
        cases e285
        replace p285 := eq_true p285
        replace q285 := eq_true q285
        have p286 : 0 ≤ (x5_1 : Int) := td
        have q286 : x5_1 < (l1.length : Int) := td
        obtain ⟨ad286, e286, hx286_0⟩ := Kd.at_int HR1.out x5_1 p286 q286
        cases e286
        replace p286 := eq_true p286
        replace q286 := eq_true q286
        go_wp2
        repeat (go_quiet (fail); try go_wp2)
        go_roundg k1
        case measure => have := HK1.out; omega
        case rel => exact ⟨(wrap64 (x5_1 + 1)), tr, H', ⟨by have := HK1.out; omega⟩, by repeat (first | exact Drawn0.refl _ | apply Drawn0.step)⟩
       ·rw [if_neg c7] at H
        have c7b0 : ((rd l0 x5_1) == (rd l1 x5_1)) = false := beq_eq_false_iff_ne.mpr c7
        have c7b1 : ((rd l0 x5_1) != (rd l1 x5_1)) = true := bne_iff_ne.mpr c7
        obtain rfl := Option.some.inj H
        have p285 : 0 ≤ (x5_1 : Int) := td
        have q285 : x5_1 < (l0.length : Int) := td
        obtain ⟨ad285, e285, hx285_0⟩ := Kd.at_int HR0.out x5_1 p285 q285
        cases e285
        replace p285 := eq_true p285
        replace q285 := eq_true q285
        have p286 : 0 ≤ (x5_1 : Int) := td
        have q286 : x5_1 < (l1.length : Int) := td
        obtain ⟨ad286, e286, hx286_0⟩ := Kd.at_int HR1.out x5_1 p286 q286
        cases e286
        replace p286 := eq_true p286
        replace q286 := eq_true q286
        go_wp2
        repeat (go_quiet (fail); try go_wp2)
        go_ret
        exact ⟨by first | rfl | (simp; done) | (simp [*]; done), by repeat (first | exact Drawn0.refl _ | apply Drawn0.step)⟩
      ·rw [if_neg c6] at H
       exact absurd H (by simp)
     ·rw [if_neg c5] at H
      exact absurd H (by simp)
    ·rw [if_neg c4] at H
     have c4b0 : decide (x5_1 < (l0.length : Int)) = false := decide_eq_false c4
     clear c4
     obtain rfl := Option.some.inj H
     go_wp2
     repeat (go_quiet (fail); try go_wp2)
     go_ret
     exact ⟨by first | rfl | (simp; done) | (simp [*]; done), by repeat (first | exact Drawn0.refl _ | apply Drawn0.step)⟩
 ·rw [if_neg c3] at H
  have c3b0 : ((l0.length : Int) == (l1.length : Int)) = false := beq_eq_false_iff_ne.mpr c3
  have c3b1 : ((l0.length : Int) != (l1.length : Int)) = true := bne_iff_ne.mpr c3
  have c3b2 : (l0.length == l1.length) = false := by first | simpa using c3 | (simp at c3 ⊢; omega)
  obtain rfl := Option.some.inj H
  go_enter Tryd.func61, Tryd.ntmps61
  go_wp2
  repeat (go_quiet (fail); try go_wp2)
  go_ret
  exact ⟨by first | rfl | (simp; done) | (simp [*]; done), by repeat (first | exact Drawn0.refl _ | apply Drawn0.step)⟩

def laws_eqRecord.f (k : Nat) (a0_0 : Int) (a0_1 : Int) (a0_2 : Bool) (l0_3 : List Int) (a0_4 : Bool) (l0_5 : List Int) (a1_0 : Int) (a1_1 : Int) (a1_2 : Bool) (l1_3 : List Int) (a1_4 : Bool) (l1_5 : List Int) : Option (Bool) := if a0_0 = a1_0 then (if a0_1 = a1_1 then (if (a0_2 != a1_2) = true then (some false) else ((laws_eqIntS.f k l0_3 l1_3).bind fun t289 => (if t289 = true then (if (a0_4 != a1_4) = true then (some false) else ((laws_eqIntS.f k l0_5 l1_5).bind fun t290 => (if t290 = true then (some true) else (some false)))) else (some false)))) else (some false)) else (some false)
set_option maxHeartbeats 8000000 in
set_option maxRecDepth 100000 in
theorem laws_eqRecord.calls (k : Nat) (a0_0 : Int) (a0_1 : Int) (a0_2 : Bool) (A0_3 : Option Addr) (c0_3 : Nat) (l0_3 : List Int) (a0_4 : Bool) (A0_5 : Option Addr) (c0_5 : Nat) (l0_5 : List Int) (a1_0 : Int) (a1_1 : Int) (a1_2 : Bool) (A1_3 : Option Addr) (c1_3 : Nat) (l1_3 : List Int) (a1_4 : Bool) (A1_5 : Option Addr) (c1_5 : Nat) (l1_5 : List Int) (r : Bool) (w : World) (hr0_3 : Kd.C (Kd.int .i64) w A0_3 l0_3.length l0_3) (hc0_3 : l0_3.length ≤ c0_3) (hr0_5 : Kd.C (Kd.int .i64) w A0_5 l0_5.length l0_5) (hc0_5 : l0_5.length ≤ c0_5) (hr1_3 : Kd.C (Kd.int .i64) w A1_3 l1_3.length l1_3) (hc1_3 : l1_3.length ≤ c1_3) (hr1_5 : Kd.C (Kd.int .i64) w A1_5 l1_5.length l1_5) (hc1_5 : l1_5.length ≤ c1_5) (h : laws_eqRecord.f k a0_0 a0_1 a0_2 l0_3 a0_4 l0_5 a1_0 a1_1 a1_2 l1_3 a1_4 l1_5 = some r) :
  Calls Tryd.prog 51 #[.agg #[.int .i64 a0_0, .int .i64 a0_1, .bool a0_2, .slice A0_3 l0_3.length c0_3, .bool a0_4, .slice A0_5 l0_5.length c0_5], .agg #[.int .i64 a1_0, .int .i64 a1_1, .bool a1_2, .slice A1_3 l1_3.length c1_3, .bool a1_4, .slice A1_5 l1_5.length c1_5]] w fun e w' => e = .returned (.bool r) ∧ Below w.heap.size w w' := by
 have hu62 := Tryd.underlying62
 have HR0_3 := Aside0.mk hr0_3
 have HC0_3 := Aside0.mk hc0_3
 clear hr0_3 hc0_3
 have HR0_5 := Aside0.mk hr0_5
 have HC0_5 := Aside0.mk hc0_5
 clear hr0_5 hc0_5
 have HR1_3 := Aside0.mk hr1_3
 have HC1_3 := Aside0.mk hc1_3
 clear hr1_3 hc1_3
 have HR1_5 := Aside0.mk hr1_5
 have HC1_5 := Aside0.mk hc1_5
 clear hr1_5 hc1_5
 have HB := Aside0.mk (Below.refl w.heap.size w)
 have H : (if a0_0 = a1_0 then (if a0_1 = a1_1 then (if (a0_2 != a1_2) = true then (some false) else ((laws_eqIntS.f k l0_3 l1_3).bind fun t289 => (if t289 = true then (if (a0_4 != a1_4) = true then (some false) else ((laws_eqIntS.f k l0_5 l1_5).bind fun t290 => (if t290 = true then (some true) else (some false)))) else (some false)))) else (some false)) else (some false)) = some r := h
 clear h
 by_cases c3 : a0_0 = a1_0
 ·rw [if_pos c3] at H
  have c3b0 : (a0_0 == a1_0) = true := beq_iff_eq.mpr c3
  have c3b1 : (a0_0 != a1_0) = false := bne_eq_false_iff_eq.mpr c3
  clear c3
  by_cases c4 : a0_1 = a1_1
  ·rw [if_pos c4] at H
   have c4b0 : (a0_1 == a1_1) = true := beq_iff_eq.mpr c4
   have c4b1 : (a0_1 != a1_1) = false := bne_eq_false_iff_eq.mpr c4
   clear c4
   by_cases c5 : (a0_2 != a1_2) = true
   ·rw [if_pos c5] at H
    have c5b0 : (a0_2 != a1_2) = true := c5
    (try (have c5b1 : decide (a0_2 = a1_2) = false := by simpa using c5))
    (try (have c5b2 : (a0_2 == a1_2) = false := by simpa using c5))
    (try (have c5b3 : ¬ (a0_2 = a1_2) := by simpa using c5))
    clear c5
    obtain rfl := Option.some.inj H
    go_enter Tryd.func51, Tryd.ntmps51
    go_wp2_with (first | ((with_reducible refine gate_dst (N := 2) rfl ?_); refine box_event ?hg (N := 2) ?hd (cs := #[.int .i64 a0_0, .int .i64 a0_1, .bool a0_2, .slice A0_3 l0_3.length c0_3, .bool a0_4, .slice A0_5 l0_5.length c0_5]) (t := 62) ?hr ?_; (case hd => rfl); (case hg => rfl); (case hr => first | (go_simp; done) | (go_simp; rfl)); intro gb287 hg w6 hbox hb; have BK287 := Aside0.mk (hbox); have GW287 := tge HB hg; have GE287 := tge HB hg; replace HB := tBs HB hb; clear hb hbox hg) | ((with_reducible refine gate_dst (N := 3) rfl ?_); refine box_event ?hg (N := 3) ?hd (cs := #[.int .i64 a1_0, .int .i64 a1_1, .bool a1_2, .slice A1_3 l1_3.length c1_3, .bool a1_4, .slice A1_5 l1_5.length c1_5]) (t := 62) ?hr ?_; (case hd => rfl); (case hg => rfl); (case hr => first | (go_simp; done) | (go_simp; rfl)); intro gb288 hg w7 hbox hb; have BK288 := Aside0.mk (hbox); have GW288 := tge HB hg; have GE288 := tge HB hg; replace HB := tBs HB hb; have NB287_288 := tlt BK287 hg; have NB288_287 := tgt BK287 hg; replace BK287 := tBb BK287 hb; clear hb hbox hg; have hnb8 := NB287_288.out; have hnc8 := NB288_287.out; obtain ⟨hcz9_0, hcz9_1, hcz9_2, hcz9_3, hcz9_4, hcz9_5, hfz9_0, hfz9_1, hfz9_2, hfz9_3, hfz9_4, hfz9_5⟩ := cells6 BK287.out; obtain ⟨hcz10_0, hcz10_1, hcz10_2, hcz10_3, hcz10_4, hcz10_5, hfz10_0, hfz10_1, hfz10_2, hfz10_3, hfz10_4, hfz10_5⟩ := cells6 BK288.out))
    go_ret
    exact ⟨by first | rfl | (simp [errW_none, errW_some] <;> rfl) | (simp [*, errW_none, errW_some] <;> rfl), zb⟩
   ·rw [if_neg c5] at H
    have c5b0 : (a0_2 != a1_2) = false := by simpa using c5
    (try (have c5b1 : decide (a0_2 = a1_2) = true := by simpa using c5))
    (try (have c5b2 : (a0_2 == a1_2) = true := by simpa using c5))
    clear c5
    replace H := tbe H
    obtain ⟨t289, A11, H⟩ := H
    by_cases c12 : t289 = true
    ·subst c12
     rw [if_pos rfl] at H
     by_cases c13 : (a0_4 != a1_4) = true
     ·rw [if_pos c13] at H
      have c13b0 : (a0_4 != a1_4) = true := c13
      (try (have c13b1 : decide (a0_4 = a1_4) = false := by simpa using c13))
      (try (have c13b2 : (a0_4 == a1_4) = false := by simpa using c13))
      (try (have c13b3 : ¬ (a0_4 = a1_4) := by simpa using c13))
      clear c13
      obtain rfl := Option.some.inj H
      go_enter Tryd.func51, Tryd.ntmps51
      go_wp2_with (first | ((with_reducible refine gate_dst (N := 2) rfl ?_); refine box_event ?hg (N := 2) ?hd (cs := #[.int .i64 a0_0, .int .i64 a0_1, .bool a0_2, .slice A0_3 l0_3.length c0_3, .bool a0_4, .slice A0_5 l0_5.length c0_5]) (t := 62) ?hr ?_; (case hd => rfl); (case hg => rfl); (case hr => first | (go_simp; done) | (go_simp; rfl)); intro gb287 hg w14 hbox hb; have BK287 := Aside0.mk (hbox); have GW287 := tge HB hg; have GE287 := tge HB hg; replace HB := tBs HB hb; clear hb hbox hg) | ((with_reducible refine gate_dst (N := 3) rfl ?_); refine box_event ?hg (N := 3) ?hd (cs := #[.int .i64 a1_0, .int .i64 a1_1, .bool a1_2, .slice A1_3 l1_3.length c1_3, .bool a1_4, .slice A1_5 l1_5.length c1_5]) (t := 62) ?hr ?_; (case hd => rfl); (case hg => rfl); (case hr => first | (go_simp; done) | (go_simp; rfl)); intro gb288 hg w15 hbox hb; have BK288 := Aside0.mk (hbox); have GW288 := tge HB hg; have GE288 := tge HB hg; replace HB := tBs HB hb; have NB287_288 := tlt BK287 hg; have NB288_287 := tgt BK287 hg; replace BK287 := tBb BK287 hb; clear hb hbox hg; have hnb16 := NB287_288.out; have hnc16 := NB288_287.out; obtain ⟨hcz17_0, hcz17_1, hcz17_2, hcz17_3, hcz17_4, hcz17_5, hfz17_0, hfz17_1, hfz17_2, hfz17_3, hfz17_4, hfz17_5⟩ := cells6 BK287.out; obtain ⟨hcz18_0, hcz18_1, hcz18_2, hcz18_3, hcz18_4, hcz18_5, hfz18_0, hfz18_1, hfz18_2, hfz18_3, hfz18_4, hfz18_5⟩ := cells6 BK288.out) | ((with_reducible refine gate_callee (f := 61) rfl ?_); refine goesL_ (some 24) rfl rfl Tryd.func61 (by kernel_rfl) rfl #[.slice A0_3 l0_3.length c0_3, .slice A1_3 l1_3.length c1_3] rfl tq ?_; (with_reducible refine (laws_eqIntS.calls k _ _ l0_3 _ _ l1_3 true _ ?side1 ?side2 ?side3 ?side4 A11.out).mono ?_); (case side1 => exact tC (Kd.C_below HR0_3.out HB.out)); (case side2 => exact HC0_3.out); (case side3 => exact tC (Kd.C_below HR1_3.out HB.out)); (case side4 => exact HC1_3.out); rintro e w' ⟨rfl, ⟨nd, rfl⟩⟩; refine ⟨_, rfl, ?_⟩))
      go_ret
      exact ⟨by first | rfl | (simp [errW_none, errW_some] <;> rfl) | (simp [*, errW_none, errW_some] <;> rfl), zb⟩
     ·rw [if_neg c13] at H
      have c13b0 : (a0_4 != a1_4) = false := by simpa using c13
      (try (have c13b1 : decide (a0_4 = a1_4) = true := by simpa using c13))
      (try (have c13b2 : (a0_4 == a1_4) = true := by simpa using c13))
      clear c13
      replace H := tbe H
      obtain ⟨t290, A19, H⟩ := H
      by_cases c20 : t290 = true
      ·subst c20
       rw [if_pos rfl] at H
       obtain rfl := Option.some.inj H
       go_enter Tryd.func51, Tryd.ntmps51
       go_wp2_with (first | ((with_reducible refine gate_dst (N := 2) rfl ?_); refine box_event ?hg (N := 2) ?hd (cs := #[.int .i64 a0_0, .int .i64 a0_1, .bool a0_2, .slice A0_3 l0_3.length c0_3, .bool a0_4, .slice A0_5 l0_5.length c0_5]) (t := 62) ?hr ?_; (case hd => rfl); (case hg => rfl); (case hr => first | (go_simp; done) | (go_simp; rfl)); intro gb287 hg w21 hbox hb; have BK287 := Aside0.mk (hbox); have GW287 := tge HB hg; have GE287 := tge HB hg; replace HB := tBs HB hb; clear hb hbox hg) | ((with_reducible refine gate_dst (N := 3) rfl ?_); refine box_event ?hg (N := 3) ?hd (cs := #[.int .i64 a1_0, .int .i64 a1_1, .bool a1_2, .slice A1_3 l1_3.length c1_3, .bool a1_4, .slice A1_5 l1_5.length c1_5]) (t := 62) ?hr ?_; (case hd => rfl); (case hg => rfl); (case hr => first | (go_simp; done) | (go_simp; rfl)); intro gb288 hg w22 hbox hb; have BK288 := Aside0.mk (hbox); have GW288 := tge HB hg; have GE288 := tge HB hg; replace HB := tBs HB hb; have NB287_288 := tlt BK287 hg; have NB288_287 := tgt BK287 hg; replace BK287 := tBb BK287 hb; clear hb hbox hg; have hnb23 := NB287_288.out; have hnc23 := NB288_287.out; obtain ⟨hcz24_0, hcz24_1, hcz24_2, hcz24_3, hcz24_4, hcz24_5, hfz24_0, hfz24_1, hfz24_2, hfz24_3, hfz24_4, hfz24_5⟩ := cells6 BK287.out; obtain ⟨hcz25_0, hcz25_1, hcz25_2, hcz25_3, hcz25_4, hcz25_5, hfz25_0, hfz25_1, hfz25_2, hfz25_3, hfz25_4, hfz25_5⟩ := cells6 BK288.out) | ((with_reducible refine gate_callee (f := 61) rfl ?_); refine goesL_ (some 24) rfl rfl Tryd.func61 (by kernel_rfl) rfl #[.slice A0_3 l0_3.length c0_3, .slice A1_3 l1_3.length c1_3] rfl tq ?_; (with_reducible refine (laws_eqIntS.calls k _ _ l0_3 _ _ l1_3 true _ ?side1 ?side2 ?side3 ?side4 A11.out).mono ?_); (case side1 => exact tC (Kd.C_below HR0_3.out HB.out)); (case side2 => exact HC0_3.out); (case side3 => exact tC (Kd.C_below HR1_3.out HB.out)); (case side4 => exact HC1_3.out); rintro e w' ⟨rfl, ⟨nd, rfl⟩⟩; refine ⟨_, rfl, ?_⟩) | ((with_reducible refine gate_callee (f := 61) rfl ?_); refine goesL_ (some 35) rfl rfl Tryd.func61 (by kernel_rfl) rfl #[.slice A0_5 l0_5.length c0_5, .slice A1_5 l1_5.length c1_5] rfl tq ?_; (with_reducible refine (laws_eqIntS.calls k _ _ l0_5 _ _ l1_5 true _ ?side1 ?side2 ?side3 ?side4 A19.out).mono ?_); (case side1 => exact tC (Kd.C_below HR0_5.out zb)); (case side2 => exact HC0_5.out); (case side3 => exact tC (Kd.C_below HR1_5.out zb)); (case side4 => exact HC1_5.out); rintro e w' ⟨rfl, ⟨nd, rfl⟩⟩; refine ⟨_, rfl, ?_⟩))
       go_ret
       exact ⟨by first | rfl | (simp [errW_none, errW_some] <;> rfl) | (simp [*, errW_none, errW_some] <;> rfl), zb⟩
      ·replace c20 := Bool.eq_false_iff.mpr c20
       subst c20
       rw [if_neg (show ¬ (false = true) by decide)] at H
       obtain rfl := Option.some.inj H
       go_enter Tryd.func51, Tryd.ntmps51
       go_wp2_with (first | ((with_reducible refine gate_dst (N := 2) rfl ?_); refine box_event ?hg (N := 2) ?hd (cs := #[.int .i64 a0_0, .int .i64 a0_1, .bool a0_2, .slice A0_3 l0_3.length c0_3, .bool a0_4, .slice A0_5 l0_5.length c0_5]) (t := 62) ?hr ?_; (case hd => rfl); (case hg => rfl); (case hr => first | (go_simp; done) | (go_simp; rfl)); intro gb287 hg w26 hbox hb; have BK287 := Aside0.mk (hbox); have GW287 := tge HB hg; have GE287 := tge HB hg; replace HB := tBs HB hb; clear hb hbox hg) | ((with_reducible refine gate_dst (N := 3) rfl ?_); refine box_event ?hg (N := 3) ?hd (cs := #[.int .i64 a1_0, .int .i64 a1_1, .bool a1_2, .slice A1_3 l1_3.length c1_3, .bool a1_4, .slice A1_5 l1_5.length c1_5]) (t := 62) ?hr ?_; (case hd => rfl); (case hg => rfl); (case hr => first | (go_simp; done) | (go_simp; rfl)); intro gb288 hg w27 hbox hb; have BK288 := Aside0.mk (hbox); have GW288 := tge HB hg; have GE288 := tge HB hg; replace HB := tBs HB hb; have NB287_288 := tlt BK287 hg; have NB288_287 := tgt BK287 hg; replace BK287 := tBb BK287 hb; clear hb hbox hg; have hnb28 := NB287_288.out; have hnc28 := NB288_287.out; obtain ⟨hcz29_0, hcz29_1, hcz29_2, hcz29_3, hcz29_4, hcz29_5, hfz29_0, hfz29_1, hfz29_2, hfz29_3, hfz29_4, hfz29_5⟩ := cells6 BK287.out; obtain ⟨hcz30_0, hcz30_1, hcz30_2, hcz30_3, hcz30_4, hcz30_5, hfz30_0, hfz30_1, hfz30_2, hfz30_3, hfz30_4, hfz30_5⟩ := cells6 BK288.out) | ((with_reducible refine gate_callee (f := 61) rfl ?_); refine goesL_ (some 24) rfl rfl Tryd.func61 (by kernel_rfl) rfl #[.slice A0_3 l0_3.length c0_3, .slice A1_3 l1_3.length c1_3] rfl tq ?_; (with_reducible refine (laws_eqIntS.calls k _ _ l0_3 _ _ l1_3 true _ ?side1 ?side2 ?side3 ?side4 A11.out).mono ?_); (case side1 => exact tC (Kd.C_below HR0_3.out HB.out)); (case side2 => exact HC0_3.out); (case side3 => exact tC (Kd.C_below HR1_3.out HB.out)); (case side4 => exact HC1_3.out); rintro e w' ⟨rfl, ⟨nd, rfl⟩⟩; refine ⟨_, rfl, ?_⟩) | ((with_reducible refine gate_callee (f := 61) rfl ?_); refine goesL_ (some 35) rfl rfl Tryd.func61 (by kernel_rfl) rfl #[.slice A0_5 l0_5.length c0_5, .slice A1_5 l1_5.length c1_5] rfl tq ?_; (with_reducible refine (laws_eqIntS.calls k _ _ l0_5 _ _ l1_5 false _ ?side1 ?side2 ?side3 ?side4 A19.out).mono ?_); (case side1 => exact tC (Kd.C_below HR0_5.out zb)); (case side2 => exact HC0_5.out); (case side3 => exact tC (Kd.C_below HR1_5.out zb)); (case side4 => exact HC1_5.out); rintro e w' ⟨rfl, ⟨nd, rfl⟩⟩; refine ⟨_, rfl, ?_⟩))
       go_ret
       exact ⟨by first | rfl | (simp [errW_none, errW_some] <;> rfl) | (simp [*, errW_none, errW_some] <;> rfl), zb⟩
    ·replace c12 := Bool.eq_false_iff.mpr c12
     subst c12
     rw [if_neg (show ¬ (false = true) by decide)] at H
     obtain rfl := Option.some.inj H
     go_enter Tryd.func51, Tryd.ntmps51
     go_wp2_with (first | ((with_reducible refine gate_dst (N := 2) rfl ?_); refine box_event ?hg (N := 2) ?hd (cs := #[.int .i64 a0_0, .int .i64 a0_1, .bool a0_2, .slice A0_3 l0_3.length c0_3, .bool a0_4, .slice A0_5 l0_5.length c0_5]) (t := 62) ?hr ?_; (case hd => rfl); (case hg => rfl); (case hr => first | (go_simp; done) | (go_simp; rfl)); intro gb287 hg w31 hbox hb; have BK287 := Aside0.mk (hbox); have GW287 := tge HB hg; have GE287 := tge HB hg; replace HB := tBs HB hb; clear hb hbox hg) | ((with_reducible refine gate_dst (N := 3) rfl ?_); refine box_event ?hg (N := 3) ?hd (cs := #[.int .i64 a1_0, .int .i64 a1_1, .bool a1_2, .slice A1_3 l1_3.length c1_3, .bool a1_4, .slice A1_5 l1_5.length c1_5]) (t := 62) ?hr ?_; (case hd => rfl); (case hg => rfl); (case hr => first | (go_simp; done) | (go_simp; rfl)); intro gb288 hg w32 hbox hb; have BK288 := Aside0.mk (hbox); have GW288 := tge HB hg; have GE288 := tge HB hg; replace HB := tBs HB hb; have NB287_288 := tlt BK287 hg; have NB288_287 := tgt BK287 hg; replace BK287 := tBb BK287 hb; clear hb hbox hg; have hnb33 := NB287_288.out; have hnc33 := NB288_287.out; obtain ⟨hcz34_0, hcz34_1, hcz34_2, hcz34_3, hcz34_4, hcz34_5, hfz34_0, hfz34_1, hfz34_2, hfz34_3, hfz34_4, hfz34_5⟩ := cells6 BK287.out; obtain ⟨hcz35_0, hcz35_1, hcz35_2, hcz35_3, hcz35_4, hcz35_5, hfz35_0, hfz35_1, hfz35_2, hfz35_3, hfz35_4, hfz35_5⟩ := cells6 BK288.out) | ((with_reducible refine gate_callee (f := 61) rfl ?_); refine goesL_ (some 24) rfl rfl Tryd.func61 (by kernel_rfl) rfl #[.slice A0_3 l0_3.length c0_3, .slice A1_3 l1_3.length c1_3] rfl tq ?_; (with_reducible refine (laws_eqIntS.calls k _ _ l0_3 _ _ l1_3 false _ ?side1 ?side2 ?side3 ?side4 A11.out).mono ?_); (case side1 => exact tC (Kd.C_below HR0_3.out HB.out)); (case side2 => exact HC0_3.out); (case side3 => exact tC (Kd.C_below HR1_3.out HB.out)); (case side4 => exact HC1_3.out); rintro e w' ⟨rfl, ⟨nd, rfl⟩⟩; refine ⟨_, rfl, ?_⟩))
     go_ret
     exact ⟨by first | rfl | (simp [errW_none, errW_some] <;> rfl) | (simp [*, errW_none, errW_some] <;> rfl), zb⟩
  ·rw [if_neg c4] at H
   have c4b0 : (a0_1 == a1_1) = false := beq_eq_false_iff_ne.mpr c4
   have c4b1 : (a0_1 != a1_1) = true := bne_iff_ne.mpr c4
   obtain rfl := Option.some.inj H
   go_enter Tryd.func51, Tryd.ntmps51
   go_wp2_with (first | ((with_reducible refine gate_dst (N := 2) rfl ?_); refine box_event ?hg (N := 2) ?hd (cs := #[.int .i64 a0_0, .int .i64 a0_1, .bool a0_2, .slice A0_3 l0_3.length c0_3, .bool a0_4, .slice A0_5 l0_5.length c0_5]) (t := 62) ?hr ?_; (case hd => rfl); (case hg => rfl); (case hr => first | (go_simp; done) | (go_simp; rfl)); intro gb287 hg w36 hbox hb; have BK287 := Aside0.mk (hbox); have GW287 := tge HB hg; have GE287 := tge HB hg; replace HB := tBs HB hb; clear hb hbox hg) | ((with_reducible refine gate_dst (N := 3) rfl ?_); refine box_event ?hg (N := 3) ?hd (cs := #[.int .i64 a1_0, .int .i64 a1_1, .bool a1_2, .slice A1_3 l1_3.length c1_3, .bool a1_4, .slice A1_5 l1_5.length c1_5]) (t := 62) ?hr ?_; (case hd => rfl); (case hg => rfl); (case hr => first | (go_simp; done) | (go_simp; rfl)); intro gb288 hg w37 hbox hb; have BK288 := Aside0.mk (hbox); have GW288 := tge HB hg; have GE288 := tge HB hg; replace HB := tBs HB hb; have NB287_288 := tlt BK287 hg; have NB288_287 := tgt BK287 hg; replace BK287 := tBb BK287 hb; clear hb hbox hg; have hnb38 := NB287_288.out; have hnc38 := NB288_287.out; obtain ⟨hcz39_0, hcz39_1, hcz39_2, hcz39_3, hcz39_4, hcz39_5, hfz39_0, hfz39_1, hfz39_2, hfz39_3, hfz39_4, hfz39_5⟩ := cells6 BK287.out; obtain ⟨hcz40_0, hcz40_1, hcz40_2, hcz40_3, hcz40_4, hcz40_5, hfz40_0, hfz40_1, hfz40_2, hfz40_3, hfz40_4, hfz40_5⟩ := cells6 BK288.out))
   go_ret
   exact ⟨by first | rfl | (simp [errW_none, errW_some] <;> rfl) | (simp [*, errW_none, errW_some] <;> rfl), zb⟩
 ·rw [if_neg c3] at H
  have c3b0 : (a0_0 == a1_0) = false := beq_eq_false_iff_ne.mpr c3
  have c3b1 : (a0_0 != a1_0) = true := bne_iff_ne.mpr c3
  obtain rfl := Option.some.inj H
  go_enter Tryd.func51, Tryd.ntmps51
  go_wp2_with (first | ((with_reducible refine gate_dst (N := 2) rfl ?_); refine box_event ?hg (N := 2) ?hd (cs := #[.int .i64 a0_0, .int .i64 a0_1, .bool a0_2, .slice A0_3 l0_3.length c0_3, .bool a0_4, .slice A0_5 l0_5.length c0_5]) (t := 62) ?hr ?_; (case hd => rfl); (case hg => rfl); (case hr => first | (go_simp; done) | (go_simp; rfl)); intro gb287 hg w41 hbox hb; have BK287 := Aside0.mk (hbox); have GW287 := tge HB hg; have GE287 := tge HB hg; replace HB := tBs HB hb; clear hb hbox hg) | ((with_reducible refine gate_dst (N := 3) rfl ?_); refine box_event ?hg (N := 3) ?hd (cs := #[.int .i64 a1_0, .int .i64 a1_1, .bool a1_2, .slice A1_3 l1_3.length c1_3, .bool a1_4, .slice A1_5 l1_5.length c1_5]) (t := 62) ?hr ?_; (case hd => rfl); (case hg => rfl); (case hr => first | (go_simp; done) | (go_simp; rfl)); intro gb288 hg w42 hbox hb; have BK288 := Aside0.mk (hbox); have GW288 := tge HB hg; have GE288 := tge HB hg; replace HB := tBs HB hb; have NB287_288 := tlt BK287 hg; have NB288_287 := tgt BK287 hg; replace BK287 := tBb BK287 hb; clear hb hbox hg; have hnb43 := NB287_288.out; have hnc43 := NB288_287.out; obtain ⟨hcz44_0, hcz44_1, hcz44_2, hcz44_3, hcz44_4, hcz44_5, hfz44_0, hfz44_1, hfz44_2, hfz44_3, hfz44_4, hfz44_5⟩ := cells6 BK287.out; obtain ⟨hcz45_0, hcz45_1, hcz45_2, hcz45_3, hcz45_4, hcz45_5, hfz45_0, hfz45_1, hfz45_2, hfz45_3, hfz45_4, hfz45_5⟩ := cells6 BK288.out))
  go_ret
  exact ⟨by first | rfl | (simp [errW_none, errW_some] <;> rfl) | (simp [*, errW_none, errW_some] <;> rfl), zb⟩

def laws_eqRecordS.l0 : Nat → List (S62) → List (S62) → Int → Option (Bool)
 | 0, _, _, _ => none
 | k + 1, x0, x1, x5 => if x5 < (x0.length : Int) then (if 0 ≤ x5 then (if x5 < (x1.length : Int) then ((laws_eqRecord.f k ((rd_T62 x0 x5).f0) ((rd_T62 x0 x5).f1) ((rd_T62 x0 x5).f2) ((rd_T62 x0 x5).f3) ((rd_T62 x0 x5).f4) ((rd_T62 x0 x5).f5) ((rd_T62 x1 x5).f0) ((rd_T62 x1 x5).f1) ((rd_T62 x1 x5).f2) ((rd_T62 x1 x5).f3) ((rd_T62 x1 x5).f4) ((rd_T62 x1 x5).f5)).bind fun t293 => (if t293 = true then (laws_eqRecordS.l0 k x0 x1 (wrap64 (x5 + 1))) else (some false))) else (none)) else (none)) else (some true)
def laws_eqRecordS.f (k : Nat) (l0 : List (S62)) (l1 : List (S62)) : Option (Bool) := if (l0.length : Int) = (l1.length : Int) then (laws_eqRecordS.l0 k l0 l1 0) else (some false)
def laws_eqRecordS.T6 : Bool × List (List Nat × List Nat) := (true, [([], []), ([], []), ([0, 1], [0, 1]), ([2], [2]), ([], []), ([], []), ([4, 5], [4, 5]), ([6], [6]), ([3, 7], [3, 7]), ([8], [8])])
def laws_eqRecordS.B6 : List Nat := [0, 0, 3, 7, 0, 0, 48, 112, 255, 511]
theorem laws_eqRecordS.tab6 : rtab .any (opsOf Tryd.f31 6) = laws_eqRecordS.T6 := by kernel_rfl
theorem laws_eqRecordS.bits6 : waitsOk laws_eqRecordS.T6.2 laws_eqRecordS.B6 = true := by kernel_rfl
set_option maxHeartbeats 8000000 in
set_option maxRecDepth 100000 in
theorem laws_eqRecordS.calls (k : Nat) (A0 : Option Addr) (c0 : Nat) (l0 : List (S62)) (A1 : Option Addr) (c1 : Nat) (l1 : List (S62)) (r : Bool) (w : World) (hr0 : Kd.C k62 w A0 l0.length l0) (hc0 : l0.length ≤ c0) (hr1 : Kd.C k62 w A1 l1.length l1) (hc1 : l1.length ≤ c1) (h : laws_eqRecordS.f k l0 l1 = some r) :
  Calls Tryd.prog 31 #[.slice A0 l0.length c0, .slice A1 l1.length c1] w fun e w' => e = .returned (.bool r) ∧ Below w.heap.size w w' := by
 have hu62 := Tryd.underlying62
 have HR0 := Aside0.mk hr0
 have HC0 := Aside0.mk hc0
 clear hr0 hc0
 have HR1 := Aside0.mk hr1
 have HC1 := Aside0.mk hc1
 clear hr1 hc1
 have HB := Aside0.mk (Below.refl w.heap.size w)
 have H : (if (l0.length : Int) = (l1.length : Int) then (laws_eqRecordS.l0 k l0 l1 0) else (some false)) = some r := h
 clear h
 by_cases c3 : (l0.length : Int) = (l1.length : Int)
 ·rw [if_pos c3] at H
  have c3b0 : ((l0.length : Int) == (l1.length : Int)) = true := beq_iff_eq.mpr c3
  have c3b1 : ((l0.length : Int) != (l1.length : Int)) = false := bne_eq_false_iff_eq.mpr c3
  have c3b2 : (l0.length == l1.length) = true := by first | simpa using c3 | (simp at c3 ⊢; omega)
  clear c3
  have H' := Aside0.mk H
  clear H
  go_enter Tryd.func31, Tryd.ntmps31
  go_wp2
  go_loopg [5] k (fun kq v5 w' => ∃ (x5_1 : Int), v5 = .int .i64 x5_1 ∧ Aside0 (laws_eqRecordS.l0 kq l0 l1 x5_1 = some r) ∧ Aside0 (kq ≤ k) ∧ Aside0 (Below w.heap.size w w'))
  case atStart => exact ⟨(0), tr, H', ⟨Nat.le_refl _⟩, ⟨zb⟩⟩
  case round =>
   clear H'
   try clear c1; try clear c3; try clear c3b0; try clear c3b1; try clear c3b2
   obtain ⟨x5_1, rfl, HA, HK1, HB⟩ := hrel
   cases gk with
   | zero => exact absurd HA.out (by simp [laws_eqRecordS.l0])
   | succ k1 =>
    have H := HA.out
    clear HA
    simp only [laws_eqRecordS.l0] at H
    by_cases c4 : x5_1 < (l0.length : Int)
    ·rw [if_pos c4] at H
     have c4b0 : decide (x5_1 < (l0.length : Int)) = true := decide_eq_true c4
     clear c4
     by_cases c5 : 0 ≤ x5_1
     ·rw [if_pos c5] at H
      have c5b0 : decide (0 ≤ x5_1) = true := decide_eq_true c5
      clear c5
      by_cases c6 : x5_1 < (l1.length : Int)
      ·rw [if_pos c6] at H
       have c6b0 : decide (x5_1 < (l1.length : Int)) = true := decide_eq_true c6
       clear c6
       replace H := tbe H
       obtain ⟨t293, A7, H⟩ := H
       by_cases c8 : t293 = true
       ·subst c8
        rw [if_pos rfl] at H
        have H' := Aside0.mk H
        clear H
        try go_wp2
        replace HB := Aside0.mk (below_drew1 HB.out)
        have p291 : 0 ≤ (x5_1 : Int) := td
        have q291 : x5_1 < (l0.length : Int) := td
        obtain ⟨ad291, A291_3, c291_3, A291_5, c291_5, e291, hx291_0, hx291_1, hx291_2, hx291_3, hx291_4, hx291_5, hl291_3, hi291_3, hl291_5, hi291_5⟩ := at_T62 HR0.out x5_1 p291 q291
        have hw291_5 := hx291_5
        have hw291_4 := hx291_4
        have hw291_3 := hx291_3
        have hw291_2 := hx291_2
        have hw291_1 := hx291_1
        have hw291_0 := hx291_0
        cases e291
        replace hx291_0 := tcl HB hx291_0
        replace hx291_1 := tcl HB hx291_1
        replace hx291_2 := tcl HB hx291_2
        replace hx291_3 := tcl HB hx291_3
        replace hx291_4 := tcl HB hx291_4
        replace hx291_5 := tcl HB hx291_5
        have HR291_3 := Aside0.mk hi291_3
        have HC291_3 := Aside0.mk hl291_3
        clear hi291_3 hl291_3
        have HR291_5 := Aside0.mk hi291_5
        have HC291_5 := Aside0.mk hl291_5
        clear hi291_5 hl291_5
        replace p291 := eq_true p291
        replace q291 := eq_true q291
        have p292 : 0 ≤ (x5_1 : Int) := td
        have q292 : x5_1 < (l1.length : Int) := td
        obtain ⟨ad292, A292_3, c292_3, A292_5, c292_5, e292, hx292_0, hx292_1, hx292_2, hx292_3, hx292_4, hx292_5, hl292_3, hi292_3, hl292_5, hi292_5⟩ := at_T62 HR1.out x5_1 p292 q292
        have hw292_5 := hx292_5
        have hw292_4 := hx292_4
        have hw292_3 := hx292_3
        have hw292_2 := hx292_2
        have hw292_1 := hx292_1
        have hw292_0 := hx292_0
        cases e292
        replace hx292_0 := tcl HB hx292_0
        replace hx292_1 := tcl HB hx292_1
        replace hx292_2 := tcl HB hx292_2
        replace hx292_3 := tcl HB hx292_3
        replace hx292_4 := tcl HB hx292_4
        replace hx292_5 := tcl HB hx292_5
        have HR292_3 := Aside0.mk hi292_3
        have HC292_3 := Aside0.mk hl292_3
        clear hi292_3 hl292_3
        have HR292_5 := Aside0.mk hi292_5
        have HC292_5 := Aside0.mk hl292_5
        clear hi292_5 hl292_5
        replace p292 := eq_true p292
        replace q292 := eq_true q292
        refine start_ (n := 10) (S := fun w' => w'.cell? (ad291.add ((x5_1).toNat * 6)) = some (.int .i64 ((rd_T62 l0 x5_1).f0)) ∧ w'.cell? ⟨(ad291.add ((x5_1).toNat * 6)).block, (ad291.add ((x5_1).toNat * 6)).off + 1, none⟩ = some (.int .i64 ((rd_T62 l0 x5_1).f1)) ∧ w'.cell? ⟨(ad291.add ((x5_1).toNat * 6)).block, (ad291.add ((x5_1).toNat * 6)).off + 2, none⟩ = some (.bool ((rd_T62 l0 x5_1).f2)) ∧ w'.cell? ⟨(ad291.add ((x5_1).toNat * 6)).block, (ad291.add ((x5_1).toNat * 6)).off + 3, none⟩ = some (.slice A291_3 ((rd_T62 l0 x5_1).f3).length c291_3) ∧ w'.cell? ⟨(ad291.add ((x5_1).toNat * 6)).block, (ad291.add ((x5_1).toNat * 6)).off + 4, none⟩ = some (.bool ((rd_T62 l0 x5_1).f4)) ∧ w'.cell? ⟨(ad291.add ((x5_1).toNat * 6)).block, (ad291.add ((x5_1).toNat * 6)).off + 5, none⟩ = some (.slice A291_5 ((rd_T62 l0 x5_1).f5).length c291_5) ∧ w'.cell? (ad292.add ((x5_1).toNat * 6)) = some (.int .i64 ((rd_T62 l1 x5_1).f0)) ∧ w'.cell? ⟨(ad292.add ((x5_1).toNat * 6)).block, (ad292.add ((x5_1).toNat * 6)).off + 1, none⟩ = some (.int .i64 ((rd_T62 l1 x5_1).f1)) ∧ w'.cell? ⟨(ad292.add ((x5_1).toNat * 6)).block, (ad292.add ((x5_1).toNat * 6)).off + 2, none⟩ = some (.bool ((rd_T62 l1 x5_1).f2)) ∧ w'.cell? ⟨(ad292.add ((x5_1).toNat * 6)).block, (ad292.add ((x5_1).toNat * 6)).off + 3, none⟩ = some (.slice A292_3 ((rd_T62 l1 x5_1).f3).length c292_3) ∧ w'.cell? ⟨(ad292.add ((x5_1).toNat * 6)).block, (ad292.add ((x5_1).toNat * 6)).off + 4, none⟩ = some (.bool ((rd_T62 l1 x5_1).f4)) ∧ w'.cell? ⟨(ad292.add ((x5_1).toNat * 6)).block, (ad292.add ((x5_1).toNat * 6)).off + 5, none⟩ = some (.slice A292_5 ((rd_T62 l1 x5_1).f5).length c292_5)) (ds := []) #[false, false, false, false, false, false, false, false, false, false] (by kernel_rfl) rfl rfl ⟨(tcl HB hw291_0), (tcl HB hw291_1), (tcl HB hw291_2), (tcl HB hw291_3), (tcl HB hw291_4), (tcl HB hw291_5), (tcl HB hw292_0), (tcl HB hw292_1), (tcl HB hw292_2), (tcl HB hw292_3), (tcl HB hw292_4), (tcl HB hw292_5)⟩ (fun hHeld => ?_); refine with_tabW laws_eqRecordS.tab6 laws_eqRecordS.bits6 (fun HT_ HW_ => ?_)
        generalize wr.drew = w9 at HB HR291_3 HR291_5 HR292_3 HR292_5 hx291_0 hx291_1 hx291_2 hx291_3 hx291_4 hx291_5 hx292_0 hx292_1 hx292_2 hx292_3 hx292_4 hx292_5 hHeld ⊢
        refine tpu 0 (some 17) #[true, false, false, false, false, false, false, false, false, false] ?_
        refine tpu 1 (some 18) #[true, true, false, false, false, false, false, false, false, false] ?_
        refine tpu 2 (some 19) #[true, true, true, false, false, false, false, false, false, false] ?_
        refine tpu 4 (some 21) #[true, true, true, false, true, false, false, false, false, false] ?_
        refine tpu 5 (some 22) #[true, true, true, false, true, true, false, false, false, false] ?_
        refine tpu 6 (some 23) #[true, true, true, false, true, true, true, false, false, false] ?_
        refine tta 3 (some 20) #[true, true, true, true, true, true, true, false, false, false] hHeld ?_ (hy := by rintro w' ⟨s0, s1, s2, s3, s4, s5, s6, s7, s8, s9, s10, s11⟩; go_simp; with_reducible rfl)
        refine tta 7 (some 24) #[true, true, true, true, true, true, true, true, false, false] hHeld ?_ (hy := by rintro w' ⟨s0, s1, s2, s3, s4, s5, s6, s7, s8, s9, s10, s11⟩; go_simp; with_reducible rfl)
        refine one_ (i := 8) (N := some 25) #[true, true, true, true, true, true, true, true, true, false] rfl rfl (one_of HT_.out (by kernel_rfl)) (by decide) (fun K hK => ?_)
        refine goes_ Tryd.func51 (by kernel_rfl) rfl #[.agg #[.int .i64 ((rd_T62 l0 x5_1).f0), .int .i64 ((rd_T62 l0 x5_1).f1), .bool ((rd_T62 l0 x5_1).f2), .slice A291_3 ((rd_T62 l0 x5_1).f3).length c291_3, .bool ((rd_T62 l0 x5_1).f4), .slice A291_5 ((rd_T62 l0 x5_1).f5).length c291_5], .agg #[.int .i64 ((rd_T62 l1 x5_1).f0), .int .i64 ((rd_T62 l1 x5_1).f1), .bool ((rd_T62 l1 x5_1).f2), .slice A292_3 ((rd_T62 l1 x5_1).f3).length c292_3, .bool ((rd_T62 l1 x5_1).f4), .slice A292_5 ((rd_T62 l1 x5_1).f5).length c292_5]] (by rfl) rfl rfl tq ?_
        with_reducible refine (laws_eqRecord.calls k1 ((rd_T62 l0 x5_1).f0) ((rd_T62 l0 x5_1).f1) ((rd_T62 l0 x5_1).f2) _ _ ((rd_T62 l0 x5_1).f3) ((rd_T62 l0 x5_1).f4) _ _ ((rd_T62 l0 x5_1).f5) ((rd_T62 l1 x5_1).f0) ((rd_T62 l1 x5_1).f1) ((rd_T62 l1 x5_1).f2) _ _ ((rd_T62 l1 x5_1).f3) ((rd_T62 l1 x5_1).f4) _ _ ((rd_T62 l1 x5_1).f5) true _ ?side1 ?side2 ?side3 ?side4 ?side5 ?side6 ?side7 ?side8 A7.out).mono ?_
        (case side1 => exact tC (Kd.C_below HR291_3.out HB.out))
        (case side2 => exact HC291_3.out)
        (case side3 => exact tC (Kd.C_below HR291_5.out HB.out))
        (case side4 => exact HC291_5.out)
        (case side5 => exact tC (Kd.C_below HR292_3.out HB.out))
        (case side6 => exact HC292_3.out)
        (case side7 => exact tC (Kd.C_below HR292_5.out HB.out))
        (case side8 => exact HC292_5.out)
        rintro e w10 ⟨rfl, hb⟩
        refine ⟨_, rfl, ?_⟩
        replace HB := tBs HB hb
        (try clear hb)
        (try clear hb2)
        (try clear hk)
        (try clear hi)
        refine hK.out _ _ ⟨(tcl HB hw291_0), (tcl HB hw291_1), (tcl HB hw291_2), (tcl HB hw291_3), (tcl HB hw291_4), (tcl HB hw291_5), (tcl HB hw292_0), (tcl HB hw292_1), (tcl HB hw292_2), (tcl HB hw292_3), (tcl HB hw292_4), (tcl HB hw292_5)⟩ (fun hHeld => ?_)
        clear hK K
        refine tnm (some 25) ?_
        refine tpu 9 (some 26) #[true, true, true, true, true, true, true, true, true, true] ?_
        refine done_ (done_of HT_.out (by kernel_rfl)) ?_
        try go_wp2
        go_roundg k1
        case measure => have := HK1.out; omega
        case rel => exact ⟨(wrap64 (x5_1 + 1)), tr, H', ⟨by have := HK1.out; omega⟩, ⟨zb⟩⟩
       ·replace c8 := Bool.eq_false_iff.mpr c8
        subst c8
        rw [if_neg (show ¬ (false = true) by decide)] at H
        obtain rfl := Option.some.inj H
        try go_wp2
        replace HB := Aside0.mk (below_drew1 HB.out)
        have p291 : 0 ≤ (x5_1 : Int) := td
        have q291 : x5_1 < (l0.length : Int) := td
        obtain ⟨ad291, A291_3, c291_3, A291_5, c291_5, e291, hx291_0, hx291_1, hx291_2, hx291_3, hx291_4, hx291_5, hl291_3, hi291_3, hl291_5, hi291_5⟩ := at_T62 HR0.out x5_1 p291 q291
        have hw291_5 := hx291_5
        have hw291_4 := hx291_4
        have hw291_3 := hx291_3
        have hw291_2 := hx291_2
        have hw291_1 := hx291_1
        have hw291_0 := hx291_0
        cases e291
        replace hx291_0 := tcl HB hx291_0
        replace hx291_1 := tcl HB hx291_1
        replace hx291_2 := tcl HB hx291_2
        replace hx291_3 := tcl HB hx291_3
        replace hx291_4 := tcl HB hx291_4
        replace hx291_5 := tcl HB hx291_5
        have HR291_3 := Aside0.mk hi291_3
        have HC291_3 := Aside0.mk hl291_3
        clear hi291_3 hl291_3
        have HR291_5 := Aside0.mk hi291_5
        have HC291_5 := Aside0.mk hl291_5
        clear hi291_5 hl291_5
        replace p291 := eq_true p291
        replace q291 := eq_true q291
        have p292 : 0 ≤ (x5_1 : Int) := td
        have q292 : x5_1 < (l1.length : Int) := td
        obtain ⟨ad292, A292_3, c292_3, A292_5, c292_5, e292, hx292_0, hx292_1, hx292_2, hx292_3, hx292_4, hx292_5, hl292_3, hi292_3, hl292_5, hi292_5⟩ := at_T62 HR1.out x5_1 p292 q292
        have hw292_5 := hx292_5
        have hw292_4 := hx292_4
        have hw292_3 := hx292_3
        have hw292_2 := hx292_2
        have hw292_1 := hx292_1
        have hw292_0 := hx292_0
        cases e292
        replace hx292_0 := tcl HB hx292_0
        replace hx292_1 := tcl HB hx292_1
        replace hx292_2 := tcl HB hx292_2
        replace hx292_3 := tcl HB hx292_3
        replace hx292_4 := tcl HB hx292_4
        replace hx292_5 := tcl HB hx292_5
        have HR292_3 := Aside0.mk hi292_3
        have HC292_3 := Aside0.mk hl292_3
        clear hi292_3 hl292_3
        have HR292_5 := Aside0.mk hi292_5
        have HC292_5 := Aside0.mk hl292_5
        clear hi292_5 hl292_5
        replace p292 := eq_true p292
        replace q292 := eq_true q292
        refine start_ (n := 10) (S := fun w' => w'.cell? (ad291.add ((x5_1).toNat * 6)) = some (.int .i64 ((rd_T62 l0 x5_1).f0)) ∧ w'.cell? ⟨(ad291.add ((x5_1).toNat * 6)).block, (ad291.add ((x5_1).toNat * 6)).off + 1, none⟩ = some (.int .i64 ((rd_T62 l0 x5_1).f1)) ∧ w'.cell? ⟨(ad291.add ((x5_1).toNat * 6)).block, (ad291.add ((x5_1).toNat * 6)).off + 2, none⟩ = some (.bool ((rd_T62 l0 x5_1).f2)) ∧ w'.cell? ⟨(ad291.add ((x5_1).toNat * 6)).block, (ad291.add ((x5_1).toNat * 6)).off + 3, none⟩ = some (.slice A291_3 ((rd_T62 l0 x5_1).f3).length c291_3) ∧ w'.cell? ⟨(ad291.add ((x5_1).toNat * 6)).block, (ad291.add ((x5_1).toNat * 6)).off + 4, none⟩ = some (.bool ((rd_T62 l0 x5_1).f4)) ∧ w'.cell? ⟨(ad291.add ((x5_1).toNat * 6)).block, (ad291.add ((x5_1).toNat * 6)).off + 5, none⟩ = some (.slice A291_5 ((rd_T62 l0 x5_1).f5).length c291_5) ∧ w'.cell? (ad292.add ((x5_1).toNat * 6)) = some (.int .i64 ((rd_T62 l1 x5_1).f0)) ∧ w'.cell? ⟨(ad292.add ((x5_1).toNat * 6)).block, (ad292.add ((x5_1).toNat * 6)).off + 1, none⟩ = some (.int .i64 ((rd_T62 l1 x5_1).f1)) ∧ w'.cell? ⟨(ad292.add ((x5_1).toNat * 6)).block, (ad292.add ((x5_1).toNat * 6)).off + 2, none⟩ = some (.bool ((rd_T62 l1 x5_1).f2)) ∧ w'.cell? ⟨(ad292.add ((x5_1).toNat * 6)).block, (ad292.add ((x5_1).toNat * 6)).off + 3, none⟩ = some (.slice A292_3 ((rd_T62 l1 x5_1).f3).length c292_3) ∧ w'.cell? ⟨(ad292.add ((x5_1).toNat * 6)).block, (ad292.add ((x5_1).toNat * 6)).off + 4, none⟩ = some (.bool ((rd_T62 l1 x5_1).f4)) ∧ w'.cell? ⟨(ad292.add ((x5_1).toNat * 6)).block, (ad292.add ((x5_1).toNat * 6)).off + 5, none⟩ = some (.slice A292_5 ((rd_T62 l1 x5_1).f5).length c292_5)) (ds := []) #[false, false, false, false, false, false, false, false, false, false] (by kernel_rfl) rfl rfl ⟨(tcl HB hw291_0), (tcl HB hw291_1), (tcl HB hw291_2), (tcl HB hw291_3), (tcl HB hw291_4), (tcl HB hw291_5), (tcl HB hw292_0), (tcl HB hw292_1), (tcl HB hw292_2), (tcl HB hw292_3), (tcl HB hw292_4), (tcl HB hw292_5)⟩ (fun hHeld => ?_); refine with_tabW laws_eqRecordS.tab6 laws_eqRecordS.bits6 (fun HT_ HW_ => ?_)
        generalize wr.drew = w11 at HB HR291_3 HR291_5 HR292_3 HR292_5 hx291_0 hx291_1 hx291_2 hx291_3 hx291_4 hx291_5 hx292_0 hx292_1 hx292_2 hx292_3 hx292_4 hx292_5 hHeld ⊢
        refine tpu 0 (some 17) #[true, false, false, false, false, false, false, false, false, false] ?_
        refine tpu 1 (some 18) #[true, true, false, false, false, false, false, false, false, false] ?_
        refine tpu 2 (some 19) #[true, true, true, false, false, false, false, false, false, false] ?_
        refine tpu 4 (some 21) #[true, true, true, false, true, false, false, false, false, false] ?_
        refine tpu 5 (some 22) #[true, true, true, false, true, true, false, false, false, false] ?_
        refine tpu 6 (some 23) #[true, true, true, false, true, true, true, false, false, false] ?_
        refine tta 3 (some 20) #[true, true, true, true, true, true, true, false, false, false] hHeld ?_ (hy := by rintro w' ⟨s0, s1, s2, s3, s4, s5, s6, s7, s8, s9, s10, s11⟩; go_simp; with_reducible rfl)
        refine tta 7 (some 24) #[true, true, true, true, true, true, true, true, false, false] hHeld ?_ (hy := by rintro w' ⟨s0, s1, s2, s3, s4, s5, s6, s7, s8, s9, s10, s11⟩; go_simp; with_reducible rfl)
        refine one_ (i := 8) (N := some 25) #[true, true, true, true, true, true, true, true, true, false] rfl rfl (one_of HT_.out (by kernel_rfl)) (by decide) (fun K hK => ?_)
        refine goes_ Tryd.func51 (by kernel_rfl) rfl #[.agg #[.int .i64 ((rd_T62 l0 x5_1).f0), .int .i64 ((rd_T62 l0 x5_1).f1), .bool ((rd_T62 l0 x5_1).f2), .slice A291_3 ((rd_T62 l0 x5_1).f3).length c291_3, .bool ((rd_T62 l0 x5_1).f4), .slice A291_5 ((rd_T62 l0 x5_1).f5).length c291_5], .agg #[.int .i64 ((rd_T62 l1 x5_1).f0), .int .i64 ((rd_T62 l1 x5_1).f1), .bool ((rd_T62 l1 x5_1).f2), .slice A292_3 ((rd_T62 l1 x5_1).f3).length c292_3, .bool ((rd_T62 l1 x5_1).f4), .slice A292_5 ((rd_T62 l1 x5_1).f5).length c292_5]] (by rfl) rfl rfl tq ?_
        with_reducible refine (laws_eqRecord.calls k1 ((rd_T62 l0 x5_1).f0) ((rd_T62 l0 x5_1).f1) ((rd_T62 l0 x5_1).f2) _ _ ((rd_T62 l0 x5_1).f3) ((rd_T62 l0 x5_1).f4) _ _ ((rd_T62 l0 x5_1).f5) ((rd_T62 l1 x5_1).f0) ((rd_T62 l1 x5_1).f1) ((rd_T62 l1 x5_1).f2) _ _ ((rd_T62 l1 x5_1).f3) ((rd_T62 l1 x5_1).f4) _ _ ((rd_T62 l1 x5_1).f5) false _ ?side1 ?side2 ?side3 ?side4 ?side5 ?side6 ?side7 ?side8 A7.out).mono ?_
        (case side1 => exact tC (Kd.C_below HR291_3.out HB.out))
        (case side2 => exact HC291_3.out)
        (case side3 => exact tC (Kd.C_below HR291_5.out HB.out))
        (case side4 => exact HC291_5.out)
        (case side5 => exact tC (Kd.C_below HR292_3.out HB.out))
        (case side6 => exact HC292_3.out)
        (case side7 => exact tC (Kd.C_below HR292_5.out HB.out))
        (case side8 => exact HC292_5.out)
        rintro e w12 ⟨rfl, hb⟩
        refine ⟨_, rfl, ?_⟩
        replace HB := tBs HB hb
        (try clear hb)
        (try clear hb2)
        (try clear hk)
        (try clear hi)
        refine hK.out _ _ ⟨(tcl HB hw291_0), (tcl HB hw291_1), (tcl HB hw291_2), (tcl HB hw291_3), (tcl HB hw291_4), (tcl HB hw291_5), (tcl HB hw292_0), (tcl HB hw292_1), (tcl HB hw292_2), (tcl HB hw292_3), (tcl HB hw292_4), (tcl HB hw292_5)⟩ (fun hHeld => ?_)
        clear hK K
        refine tnm (some 25) ?_
        refine tpu 9 (some 26) #[true, true, true, true, true, true, true, true, true, true] ?_
        refine done_ (done_of HT_.out (by kernel_rfl)) ?_
        try go_wp2
        go_ret
        exact ⟨by first | rfl | (simp [errW_none, errW_some] <;> rfl) | (simp [*, errW_none, errW_some] <;> rfl), zb⟩
      ·rw [if_neg c6] at H
       exact absurd H (by simp)
     ·rw [if_neg c5] at H
      exact absurd H (by simp)
    ·rw [if_neg c4] at H
     have c4b0 : decide (x5_1 < (l0.length : Int)) = false := decide_eq_false c4
     clear c4
     obtain rfl := Option.some.inj H
     go_wp2
     go_ret
     exact ⟨by first | rfl | (simp [errW_none, errW_some] <;> rfl) | (simp [*, errW_none, errW_some] <;> rfl), zb⟩
 ·rw [if_neg c3] at H
  have c3b0 : ((l0.length : Int) == (l1.length : Int)) = false := beq_eq_false_iff_ne.mpr c3
  have c3b1 : ((l0.length : Int) != (l1.length : Int)) = true := bne_iff_ne.mpr c3
  have c3b2 : (l0.length == l1.length) = false := by first | simpa using c3 | (simp at c3 ⊢; omega)
  obtain rfl := Option.some.inj H
  go_enter Tryd.func31, Tryd.ntmps31
  go_wp2
  go_ret
  exact ⟨by first | rfl | (simp [errW_none, errW_some] <;> rfl) | (simp [*, errW_none, errW_some] <;> rfl), zb⟩

end Go.Proofs.YtfjkpdhldeopaaaDoor.G

namespace Go.Proofs.YtfjkpdhldeopaaaDoor.G
open Go.RowKit Go.Proofs.YtfjkpdhldeopaaaDoorW.PrintWords Go.Proofs.YtfjkpdhldeopaaaDoorW.PrintLast Go.Proofs.YtfjkpdhldeopaaaDoorW.PrintMore
set_option linter.unusedVariables false
set_option linter.unusedSimpArgs false
abbrev BatV (p m : Bool) (i j s : Int) (v : Value) : Value := .agg #[.bool p, .bool m, .int .i64 i, .int .i64 j, .int .i64 s, v]
abbrev batE (g : Nat) (p m : Bool) (i j s : Int) (v : Value) : En := boxE g #[.bool p, .bool m, .int .i64 i, .int .i64 j, .int .i64 s, v] 28
theorem join_split {k : Nat} {a0 a1 : Bool} {a2 a3 a4 : Int} {l : List S62} {b0 b1 : Bool} {b2 b3 b4 : Int} {m : List S62} {r : Bool × Bool × Int × Int × Int × List S62 × Option Int} (h : impl_Batch_join.f k a0 a1 a2 a3 a4 l b0 b1 b2 b3 b4 m = some r) :
    impl_BatchValid.f k a0 a1 a2 a3 a4 l = some false ∧ impl_Batch_join.j0 k true a0 a1 a2 a3 a4 l b0 b1 b2 b3 b4 m = some r ∨
    impl_BatchValid.f k a0 a1 a2 a3 a4 l = some true ∧ (impl_BatchValid.f k b0 b1 b2 b3 b4 m = some false ∧ impl_Batch_join.j0 k true a0 a1 a2 a3 a4 l b0 b1 b2 b3 b4 m = some r ∨
      impl_BatchValid.f k b0 b1 b2 b3 b4 m = some true ∧ ((a2 != 255) = true ∧ impl_Batch_join.j0 k true a0 a1 a2 a3 a4 l b0 b1 b2 b3 b4 m = some r ∨
        (a2 != 255) = false ∧ ((b2 != 255) = true ∧ impl_Batch_join.j0 k true a0 a1 a2 a3 a4 l b0 b1 b2 b3 b4 m = some r ∨
          (b2 != 255) = false ∧ impl_Batch_join.j0 k (a0 != b0) a0 a1 a2 a3 a4 l b0 b1 b2 b3 b4 m = some r))) := by
  unfold impl_Batch_join.f at h
  obtain ⟨u, hu, h⟩ := Option.bind_eq_some_iff.mp h
  cases u
  · exact .inl ⟨hu, by simpa using h⟩
  simp only [if_true] at h
  obtain ⟨v, hv, h⟩ := Option.bind_eq_some_iff.mp h
  refine .inr ⟨hu, ?_⟩
  cases v
  · exact .inl ⟨hv, by simpa using h⟩
  simp only [if_true] at h
  refine .inr ⟨hv, ?_⟩
  by_cases h2 : a2 = 255
  · rw [if_pos h2] at h
    refine .inr ⟨bne_eq_false_iff_eq.2 h2, ?_⟩
    by_cases h3 : b2 = 255
    · rw [if_pos h3] at h
      exact .inr ⟨bne_eq_false_iff_eq.2 h3, h⟩
    · rw [if_neg h3] at h
      exact .inl ⟨bne_iff_ne.2 h3, h⟩
  · rw [if_neg h2] at h
    exact .inl ⟨bne_iff_ne.2 h2, h⟩
set_option maxHeartbeats 4000000 in
set_option maxRecDepth 100000 in
theorem impl_Batch_join.callsS [ErrA] (k : Nat) (a0 a1 : Bool) (a2 a3 a4 : Int) (A : Option Addr) (c : Nat) (l : List S62) (b0 b1 : Bool) (b2 b3 b4 : Int) (B : Option Addr) (d : Nat) (m : List S62) (r1 r2 : Bool) (r3 r4 r5 : Int) (r6 : List S62) (r7 : Option Int) (w : World)
    (hE : ErrOk [0] w) (hr0 : Kd.C k62 w A l.length l) (hc0 : l.length ≤ c) (hr1 : Kd.C k62 w B m.length m) (hc1 : m.length ≤ d) (h : impl_Batch_join.f k a0 a1 a2 a3 a4 l b0 b1 b2 b3 b4 m = some (r1, r2, r3, r4, r5, r6, r7)) :
    Calls Tryd.prog 29 #[BatV a0 a1 a2 a3 a4 (.slice A l.length c), BatV b0 b1 b2 b3 b4 (.slice B m.length d)] w fun e w' => ∃ v : Value, e = .returned (.tuple #[BatV r1 r2 r3 r4 r5 v, errW r7]) ∧ Kd.S k62 62 w' w.heap.size (fun _ => True) v r6 ∧ Below w.heap.size w w' := by
  have HE := Aside0.mk hE
  have HR0 := Aside0.mk hr0
  have HR1 := Aside0.mk hr1
  have HC := Aside0.mk (And.intro hc0 hc1)
  have HS := Aside0.mk (St.nil w)
  have hu := Tryd.underlying28
  clear hE hr0 hr1 hc0 hc1
  have HH := Aside0.mk h
  clear h
  go_enter Tryd.func29, Tryd.ntmps29
  go_upto_region 1 with (first
    | ((with_reducible refine gate_dst (N := 2) rfl ?_); refine w_box HS rfl rfl (by go_simp; try rfl) ?_; intro g2 W h_; clear HS; have HS := h_; clear h_)
    | ((with_reducible refine gate_dst (N := 3) rfl ?_); refine w_box HS rfl rfl (by go_simp; try rfl) ?_; intro g3 W h_; clear HS; have HS := h_; clear h_)
    | ((with_reducible refine gate_dst (N := 4) rfl ?_); refine w_box HS rfl rfl (by go_simp; try rfl) ?_; intro g4 W h_; clear HS; have HS := h_; clear h_))
  go_cut [31] (fun v31 wc => ∃ x : Bool, v31 = .bool x ∧ Aside0 (impl_Batch_join.j0 k x a0 a1 a2 a3 a4 l b0 b1 b2 b3 b4 m = some (r1, r2, r3, r4, r5, r6, r7)) ∧ Aside0 (St w wc [batE g4 false false 0 0 0 (.slice none 0 0), batE g3 b0 b1 b2 b3 b4 (.slice B m.length d), batE g2 a0 a1 a2 a3 a4 (.slice A l.length c)]))
  case first =>
    rcases join_split HH.out with ⟨hu0, hj⟩ | ⟨hu0, ⟨hv0, hj⟩ | ⟨hv0, ⟨h2, hj⟩ | ⟨h2, ⟨h3, hj⟩ | ⟨h3, hj⟩⟩⟩⟩
    all_goals
      obtain ⟨f0, f1⟩ := HS.out.cells 2 rfl
      clear HH
      have HJ := Aside0.mk hj
      have HU := Aside0.mk hu0
      try have HV := Aside0.mk hv0
      try clear hv0
      clear hj hu0
      go_wp2_with (first
        | (go_at_call 47; with_reducible refine (impl_BatchValid.calls k a0 a1 a2 a3 a4 _ _ l _ _ (Kd.C_below HR0.out HS.out.below) HC.out.1 HU.out).mono ?_; rintro e W ⟨rfl, hb⟩; replace HS := Aside0.mk (HS.out.call hb); clear hb f0 f1; obtain ⟨f0, f1⟩ := HS.out.cells 2 rfl; obtain ⟨p0, p1⟩ := HS.out.cells 1 rfl)
        | (go_at_call 47; with_reducible refine (impl_BatchValid.calls k b0 b1 b2 b3 b4 _ _ m _ _ (Kd.C_below HR1.out HS.out.below) HC.out.2 HV.out).mono ?_; rintro e W ⟨rfl, hb⟩; replace HS := Aside0.mk (HS.out.call hb); clear hb f0 f1 p0 p1; obtain ⟨f0, f1⟩ := HS.out.cells 2 rfl; obtain ⟨p0, p1⟩ := HS.out.cells 1 rfl))
      go_meet
      case rel => exact ⟨_, rfl, HJ, HS⟩
  case rest =>
    clear HH
    obtain ⟨x, rfl, HJ, HS⟩ := hcut
    obtain ⟨n, rfl⟩ : ∃ n, k = n + 1 := by
      cases k with
      | zero => exact absurd HJ.out (by simp [impl_Batch_join.j0])
      | succ n => exact ⟨n, rfl⟩
    cases x
    · have hj := HJ.out
      simp only [impl_Batch_join.j0, Bool.false_eq_true, if_false] at hj
      obtain ⟨⟨t0, t1, t2, t3, t4, ys⟩, hcp, hj⟩ := Option.bind_eq_some_iff.mp hj
      obtain ⟨zs, hcr, hj⟩ := Option.bind_eq_some_iff.mp hj
      by_cases hlen : ys.length + zs.length < 1759218604441
      case neg => rw [if_neg hlen] at hj; cases hj
      rw [if_pos hlen] at hj
      have hj := (Option.bind_some _ _).symm.trans hj
      obtain ⟨ls, hls⟩ : ∃ ls, ls = ys ++ zs := ⟨_, rfl⟩
      rw [← hls] at hj
      obtain ⟨vb, hvb, hj⟩ := Option.bind_eq_some_iff.mp hj
      have HLS := Aside0.mk hls
      clear hls
      have HA := Aside0.mk (And.intro hcp (And.intro hcr hvb))
      have HL := Aside0.mk hlen
      have HK := Aside0.mk hj
      clear HJ hcp hcr hvb hlen hj
      obtain ⟨f0, f1⟩ := HS.out.cells 2 rfl
      go_upto_region 4 with (first
        | (go_at_call 40; with_reducible refine (impl_Batch_copyOf.calls n a0 a1 a2 a3 a4 _ _ l t0 t1 t2 t3 t4 ys _ (Kd.C_below HR0.out HS.out.below) HC.out.1 HA.out.1).mono ?_; rintro e W ⟨v, rfl, hs, hb⟩; obtain ⟨Y, y, rfl⟩ := Kd.S_slice hs; replace HS := Aside0.mk (HS.out.pushS hs hb); clear hs hb f0 f1)
        | ((with_reducible refine gate_dst (N := 6) rfl ?_); refine w_box HS rfl rfl (by go_simp; try rfl) ?_; intro g6 W h_; clear HS; have HS := h_; clear h_; obtain ⟨f0, f1⟩ := HS.out.cells 0 rfl)
        | ((with_reducible refine gate_store (t := 28) (p := 6) rfl ?_); refine w_put rfl rfl (by go_simp; try rfl) (HS.out.set6 0 rfl _ _ _ _ _ _) ?_; intro W h_; clear HS f0 f1; have HS := h_; clear h_))
      have HS2 := Aside0.mk HS.out.drew
      refine q_begin (fun W => St w W [batE g6 t0 t1 t2 t3 t4 (.slice Y ys.length y), batE g4 false false 0 0 0 (.slice none 0 0), batE g3 b0 b1 b2 b3 b4 (.slice B m.length d), batE g2 a0 a1 a2 a3 a4 (.slice A l.length c)]) [7] 8 (by kernel_rfl) rfl (HS2.out.front 1 rfl).drop1 (fun hS => ?_)
      generalize World.drew _ = W at hS HS2 ⊢
      repeat (first | (refine q_go (v := ?_) (by kernel_rfl) (by rfl) (fun _ _ _ h => h) hS ?_ ?_; rotate_left; (focus (intro w hS; obtain ⟨f0, f1⟩ := hS.cells 0 rfl; obtain ⟨p0, p1⟩ := hS.cells 2 rfl; go_simp; first | done | with_reducible rfl)); simp only [Act.put, List.setIfInBounds_toArray, List.set_cons_zero, List.set_cons_succ, Nat.reduceAdd]))
      refine q_call (by kernel_rfl) (by decide) (by rfl) Tryd.func48 (by kernel_rfl) rfl #[.slice B m.length d] rfl tq ?_
      refine (impl_copyRecords.calls n B d m zs _ (Kd.C_below HR1.out hS.below) HC.out.2 HA.out.2.1).mono ?_
      rintro e W2 ⟨v, rfl, hs, hb⟩
      obtain ⟨Z, z, rfl⟩ := Kd.S_slice hs
      refine ⟨_, rfl, hS.call hb, fun hS => ?_⟩
      replace HS2 := Aside0.mk ((HS2.out.pushS hs hb).front 2 rfl)
      clear hs hb
      simp only [Act.put, List.setIfInBounds_toArray, List.set_cons_zero, List.set_cons_succ, Nat.reduceAdd]
      refine q_stp (by kernel_rfl) (by decide) (fun K hK => ?_)
      refine S_append_rows_step k62 (w0 := w) w.heap.size rfl (.tmp 37) (.tmp 40) 26 62 (.agg #[.int .i64 0, .int .i64 0, .bool false, .slice none 0 0, .bool false, .slice none 0 0]) 80 rfl Tryd.underlying26 (by kernel_rfl) rfl (by decide) (by omega) _ ys zs _ _ _ (fun k => (_ ∨ _) ∨ W2.heap.size ≤ k) _ _ rfl rfl (HS2.out.getS 0 rfl) (HS2.out.getS 1 rfl) (HS2.out.apart 0 1 rfl rfl (by omega)) (fun k hk => .inl (.inl hk)) (fun k hk => .inl (.inr hk)) (fun k hk => .inr hk) HS2.out.below HS2.out.below.size (by have := HL.out; omega) ?_
      intro v1 W3 hs hb hg hat
      rw [← HLS.out] at hs
      obtain ⟨V, q, rfl⟩ := Kd.S_slice hs
      have HS3 := Aside0.mk (HS2.out.app2 hs hg hb)
      clear hs hg hb hat HS2
      refine hK.out _ _ HS3.out.drop1 (fun hS => ?_)
      clear hK K
      simp only [Act.put, List.setIfInBounds_toArray, List.set_cons_zero, List.set_cons_succ, Nat.reduceAdd]
      refine q_go (v := ?_) (by kernel_rfl) (by rfl) (fun _ _ _ h => h) hS ?_ ?_
      rotate_left
      focus (intro w hS; go_simp; first | done | with_reducible rfl)
      simp only [Act.put, List.setIfInBounds_toArray, List.set_cons_zero, List.set_cons_succ, Nat.reduceAdd]
      obtain ⟨f0, f1⟩ := hS.cells 0 rfl
      refine q_store (by kernel_rfl) (by decide) (by rfl) rfl (by go_simp; try rfl) ?_
      have HS := Aside0.mk (show St w _ [_, batE g6 t0 t1 t2 t3 t4 (.slice V ls.length q), batE g4 false false 0 0 0 (.slice none 0 0), batE g3 b0 b1 b2 b3 b4 (.slice B m.length d), batE g2 a0 a1 a2 a3 a4 (.slice A l.length c)] from HS3.out.set1 1 rfl 5 (.slice V ls.length q))
      generalize World.setCell _ _ _ = W4 at HS ⊢
      clear HS3 hS f0 f1
      refine q_done (by kernel_rfl) ?_
      obtain ⟨f0, f1⟩ := HS.out.cells 1 rfl
      cases vb
      · go_wp2_with (first
          | (go_at_call 47; with_reducible refine (impl_BatchValid.calls n t0 t1 t2 t3 t4 _ _ ls false _ (HS.out.getC 0 rfl) (HS.out.getL 0 rfl) HA.out.2.2).mono ?_; rintro e W ⟨rfl, hb⟩; replace HS := Aside0.mk (HS.out.call hb); clear hb f0 f1))
        refine q_begin (fun W => St w W [batE g4 false false 0 0 0 (.slice none 0 0)]) [] 4 (by kernel_rfl) rfl (HS.out.drew.sub (by simp)) (fun hS => ?_)
        generalize World.drew _ = W at hS ⊢
        cases HK.out
        repeat (first | (refine q_go (v := ?_) (by kernel_rfl) (by rfl) (fun _ _ _ h => h) hS ?_ ?_; rotate_left; (focus (intro w hS; have hg := ErrOk.g0 (ErrOk.below HE.out hS.below) (by decide); go_simp; first | done | with_reducible rfl)); simp only [Act.put, List.setIfInBounds_toArray, List.set_cons_zero, List.set_cons_succ, Nat.reduceAdd]))
        obtain ⟨f0, f1⟩ := hS.cells 0 rfl
        refine q_put (by kernel_rfl) (by simp) (by rfl) rfl (by go_simp; try rfl) (hS.set6 0 rfl _ _ _ _ _ _) (fun hS => ?_)
        repeat (first | (refine q_go (v := ?_) (by kernel_rfl) (by rfl) (fun _ _ _ h => h) hS ?_ ?_; rotate_left; (focus (intro w hS; go_simp; first | done | with_reducible rfl)); simp only [Act.put, List.setIfInBounds_toArray, List.set_cons_zero, List.set_cons_succ, Nat.reduceAdd]))
        refine q_done (by kernel_rfl) ?_
        go_wp2
        refine bodyPost_ret (results_ct rfl _ _ g4 28 #[.bool false, .bool false, .int .i64 0, .int .i64 0, .int .i64 0, .slice none 0 0] (0, 0) _ rfl (hS.getB 0 rfl) Tryd.underlying28 rfl (by kernel_rfl)) rfl ?_
        exact ⟨_, by rfl, Kd.S_nil _ _ _ _ _, hS.below⟩
      · go_wp2_with (first
          | (go_at_call 47; with_reducible refine (impl_BatchValid.calls n t0 t1 t2 t3 t4 _ _ ls true _ (HS.out.getC 0 rfl) (HS.out.getL 0 rfl) HA.out.2.2).mono ?_; rintro e W ⟨rfl, hb⟩; replace HS := Aside0.mk (HS.out.call hb); clear hb f0 f1; obtain ⟨f0, f1⟩ := HS.out.cells 1 rfl; obtain ⟨p0, p1⟩ := HS.out.cells 2 rfl)
          | ((with_reducible refine gate_store (t := 28) (p := 4) rfl ?_); refine w_put rfl rfl (by go_simp; try rfl) (HS.out.set6 2 rfl _ _ _ _ _ _) ?_; intro W h_; clear HS f0 f1 p0 p1; have HS := h_; clear h_))
        cases HK.out
        refine bodyPost_ret (results_ct rfl _ _ g4 28 #[.bool r1, .bool r2, .int .i64 r3, .int .i64 r4, .int .i64 r5, .slice V r6.length q] (0, 0) _ rfl (HS.out.getB 2 rfl) Tryd.underlying28 rfl (by kernel_rfl)) rfl ?_
        exact ⟨_, by rfl, Kd.S_mono (HS.out.getS 0 rfl) (fun _ _ => trivial), HS.out.below⟩
    · go_wp2
      refine q_begin (fun W => St w W [batE g4 false false 0 0 0 (.slice none 0 0), batE g3 b0 b1 b2 b3 b4 (.slice B m.length d), batE g2 a0 a1 a2 a3 a4 (.slice A l.length c)]) [] 4 (by kernel_rfl) rfl HS.out.drew (fun hS => ?_)
      generalize wc.drew = W at hS ⊢
      have hj := HJ.out
      simp only [impl_Batch_join.j0, if_true] at hj
      cases hj
      repeat (first | (refine q_go (v := ?_) (by kernel_rfl) (by rfl) (fun _ _ _ h => h) hS ?_ ?_; rotate_left; (focus (intro w hS; have hg := ErrOk.g0 (ErrOk.below HE.out hS.below) (by decide); go_simp; first | done | with_reducible rfl)); simp only [Act.put, List.setIfInBounds_toArray, List.set_cons_zero, List.set_cons_succ, Nat.reduceAdd]))
      obtain ⟨f0, f1⟩ := hS.cells 0 rfl
      refine q_put (by kernel_rfl) (by simp) (by rfl) rfl (by go_simp; try rfl) (hS.set6 0 rfl _ _ _ _ _ _) (fun hS => ?_)
      repeat (first | (refine q_go (v := ?_) (by kernel_rfl) (by rfl) (fun _ _ _ h => h) hS ?_ ?_; rotate_left; (focus (intro w hS; go_simp; first | done | with_reducible rfl)); simp only [Act.put, List.setIfInBounds_toArray, List.set_cons_zero, List.set_cons_succ, Nat.reduceAdd]))
      refine q_done (by kernel_rfl) ?_
      go_wp2
      refine bodyPost_ret (results_ct rfl _ _ g4 28 #[.bool false, .bool false, .int .i64 0, .int .i64 0, .int .i64 0, .slice none 0 0] (0, 0) _ rfl (hS.getB 0 rfl) Tryd.underlying28 rfl (by kernel_rfl)) rfl ?_
      exact ⟨_, by rfl, Kd.S_nil _ _ _ _ _, hS.below⟩
set_option maxHeartbeats 4000000 in
set_option maxRecDepth 100000 in
theorem impl_BatchJoin.callsS [ErrA] (k : Nat) (a0 a1 : Bool) (a2 a3 a4 : Int) (A : Option Addr) (c : Nat) (l : List S62) (b0 b1 : Bool) (b2 b3 b4 : Int) (B : Option Addr) (d : Nat) (m : List S62) (r1 r2 : Bool) (r3 r4 r5 : Int) (r6 : List S62) (r7 : Bool) (w : World)
    (hE : ErrOk [0] w) (hr0 : Kd.C k62 w A l.length l) (hc0 : l.length ≤ c) (hr1 : Kd.C k62 w B m.length m) (hc1 : m.length ≤ d) (h : impl_BatchJoin.f k a0 a1 a2 a3 a4 l b0 b1 b2 b3 b4 m = some (r1, r2, r3, r4, r5, r6, r7)) :
    Calls Tryd.prog 10 #[BatV a0 a1 a2 a3 a4 (.slice A l.length c), BatV b0 b1 b2 b3 b4 (.slice B m.length d)] w fun e w' => ∃ v : Value, e = .returned (.tuple #[BatV r1 r2 r3 r4 r5 v, .bool r7]) ∧ Kd.S k62 62 w' w.heap.size (fun _ => True) v r6 ∧ Below w.heap.size w w' := by
  have HE := Aside0.mk hE
  have HR0 := Aside0.mk hr0
  have HR1 := Aside0.mk hr1
  have HC := Aside0.mk (And.intro hc0 hc1)
  have HS := Aside0.mk (St.nil w)
  have hu := Tryd.underlying28
  clear hE hr0 hr1 hc0 hc1
  unfold impl_BatchJoin.f at h
  obtain ⟨⟨t0, t1, t2, t3, t4, ys, er⟩, hj, h⟩ := Option.bind_eq_some_iff.mp h
  obtain ⟨x, hx, h⟩ := Option.bind_eq_some_iff.mp h
  have HJ := Aside0.mk (And.intro hj hx)
  have HK := Aside0.mk h
  clear hj hx h
  go_enter Tryd.func10, Tryd.ntmps10
  cases x
  all_goals
    go_wp2_with (first
      | ((with_reducible refine gate_dst (N := 2) rfl ?_); refine w_box HS rfl rfl (by go_simp; try rfl) ?_; intro g2 W h_; clear HS; have HS := h_; clear h_)
      | ((with_reducible refine gate_dst (N := 3) rfl ?_); refine w_box HS rfl rfl (by go_simp; try rfl) ?_; intro g3 W h_; clear HS; have HS := h_; clear h_)
      | ((with_reducible refine gate_dst (N := 4) rfl ?_); refine w_box HS rfl rfl (by go_simp; try rfl) ?_; intro g4 W h_; clear HS; have HS := h_; clear h_; obtain ⟨f0, f1⟩ := HS.out.cells 2 rfl; obtain ⟨p0, p1⟩ := HS.out.cells 1 rfl)
      | ((with_reducible refine gate_dst (N := 6) rfl ?_); refine w_box HS rfl rfl (by go_simp; try rfl) ?_; intro g6 W h_; clear HS; have HS := h_; clear h_; obtain ⟨f0, f1⟩ := HS.out.cells 0 rfl)
      | (go_at_call 29; with_reducible refine (impl_Batch_join.callsS k a0 a1 a2 a3 a4 _ _ l b0 b1 b2 b3 b4 _ _ m t0 t1 t2 t3 t4 ys er _ (ErrOk.below HE.out HS.out.below) (Kd.C_below HR0.out HS.out.below) HC.out.1 (Kd.C_below HR1.out HS.out.below) HC.out.2 HJ.out.1).mono ?_; rintro e W ⟨v, rfl, hs, hb⟩; obtain ⟨Y, y, rfl⟩ := Kd.S_slice hs; replace HS := Aside0.mk (HS.out.pushS hs hb); clear hs hb f0 f1 p0 p1)
      | ((with_reducible refine gate_store (t := 28) (p := 6) rfl ?_); refine w_put rfl rfl (by go_simp; try rfl) (HS.out.set6 0 rfl _ _ _ _ _ _) ?_; intro W h_; clear HS f0 f1; have HS := h_; clear h_; obtain ⟨f0, f1⟩ := HS.out.cells 0 rfl; obtain ⟨p0, p1⟩ := HS.out.cells 2 rfl)
      | ((with_reducible refine gate_dst (N := 15) rfl ?_); refine glob_ rfl (v := errW (some 1)) (g := 0) ?hr ?hc ?_; (case hc => exact ErrOk.g0 (ErrOk.below HE.out HS.out.below) (by decide)); (case hr => intro W_ hc_; go_simp))
      | (go_at_call 30; with_reducible refine (errors_Is.calls er (some 1) _ _ HJ.out.2).mono ?_; rintro e W ⟨rfl, hb⟩; replace HS := Aside0.mk (HS.out.call hb); clear hb f0 f1 p0 p1; obtain ⟨f0, f1⟩ := HS.out.cells 0 rfl; obtain ⟨p0, p1⟩ := HS.out.cells 2 rfl)
      | ((with_reducible refine gate_store (t := 28) (p := 4) rfl ?_); refine w_put rfl rfl (by go_simp; try rfl) (HS.out.set6 2 rfl _ _ _ _ _ _) ?_; intro W h_; clear HS f0 f1 p0 p1; have HS := h_; clear h_))
    cases HK.out
    refine bodyPost_ret (results_ct rfl _ _ g4 28 _ (0, 0) _ rfl (HS.out.getB 2 rfl) Tryd.underlying28 rfl (by kernel_rfl)) rfl ?_
    first | exact ⟨_, by rfl, Kd.S_nil _ _ _ _ _, HS.out.below⟩ | exact ⟨_, by rfl, Kd.S_mono (HS.out.getS 1 rfl) (fun _ _ => trivial), HS.out.below⟩
end Go.Proofs.YtfjkpdhldeopaaaDoor.G

namespace Go.Proofs.YtfjkpdhldeopaaaDoor.G
open Go.RowKit Go.Proofs.YtfjkpdhldeopaaaDoorW.PrintWords Go.Proofs.YtfjkpdhldeopaaaDoorW.PrintLast Go.Proofs.YtfjkpdhldeopaaaDoorW.PrintMore
attribute [local go_sem] max2_int min2_int max_two min_two max_three min_three max_four min_four   -- for this text's walks alone
set_option linter.unusedVariables false
set_option linter.unusedSimpArgs false

def spec_l12Copy.f (a0_0 : Int) (a0_1 : Int) (a0_2 : Bool) (l0_3 : List Int) (a0_4 : Bool) (l0_5 : List Int) : Option (Int × Int × Bool × List Int × Bool × List Int) := (some (([] : List Int) : List Int)).bind fun y119 => (if y119.length + l0_3.length < 17592186044416 then ((some (([] : List Int) : List Int)).bind fun y125 => (if y125.length + l0_5.length < 17592186044416 then (some (a0_0, a0_1, a0_2, (y119 ++ l0_3), a0_4, (y125 ++ l0_5))) else (none))) else (none))
set_option maxHeartbeats 8000000 in
set_option maxRecDepth 100000 in
theorem spec_l12Copy.calls (a0_0 : Int) (a0_1 : Int) (a0_2 : Bool) (A0_3 : Option Addr) (c0_3 : Nat) (l0_3 : List Int) (a0_4 : Bool) (A0_5 : Option Addr) (c0_5 : Nat) (l0_5 : List Int) (r1 : Int) (r2 : Int) (r3 : Bool) (r4 : List Int) (r5 : Bool) (r6 : List Int) (w : World) (hr0_3 : Kd.C (Kd.int .i64) w A0_3 l0_3.length l0_3) (hc0_3 : l0_3.length ≤ c0_3) (hr0_5 : Kd.C (Kd.int .i64) w A0_5 l0_5.length l0_5) (hc0_5 : l0_5.length ≤ c0_5) (h : spec_l12Copy.f a0_0 a0_1 a0_2 l0_3 a0_4 l0_5 = some (r1, r2, r3, r4, r5, r6)) :
  Calls Tryd.prog 45 #[.agg #[.int .i64 a0_0, .int .i64 a0_1, .bool a0_2, .slice A0_3 l0_3.length c0_3, .bool a0_4, .slice A0_5 l0_5.length c0_5]] w fun e w' => ∃ v3_ v5_ : Value, e = .returned (.agg #[.int .i64 r1, .int .i64 r2, .bool r3, v3_, .bool r5, v5_]) ∧ Kd.R (Kd.int .i64) 3 w' w.heap.size (fun k_ => some k_ ≠ (v5_ : Value).ownBlock) v3_ r4 ∧ Kd.R (Kd.int .i64) 3 w' w.heap.size (fun k_ => some k_ ≠ (v3_ : Value).ownBlock) v5_ r6 ∧ Below w.heap.size w w' := by
 have hu62 := Tryd.underlying62
 have HR0_3 := Aside0.mk hr0_3
 have HC0_3 := Aside0.mk hc0_3
 clear hr0_3 hc0_3
 have HR0_5 := Aside0.mk hr0_5
 have HC0_5 := Aside0.mk hc0_5
 clear hr0_5 hc0_5
 have HB := Aside0.mk (Below.refl w.heap.size w)
 have H : ((some (([] : List Int) : List Int)).bind fun y119 => (if y119.length + l0_3.length < 17592186044416 then ((some (([] : List Int) : List Int)).bind fun y125 => (if y125.length + l0_5.length < 17592186044416 then (some (a0_0, a0_1, a0_2, (y119 ++ l0_3), a0_4, (y125 ++ l0_5))) else (none))) else (none))) = some (r1, r2, r3, r4, r5, r6) := h
 clear h
 obtain ⟨y119, hy119⟩ : ∃ y_ : List Int, y_ = (([] : List Int)) := ⟨_, rfl⟩
 replace H : (if y119.length + l0_3.length < 17592186044416 then ((some (([] : List Int) : List Int)).bind fun y125 => (if y125.length + l0_5.length < 17592186044416 then (some (a0_0, a0_1, a0_2, (y119 ++ l0_3), a0_4, (y125 ++ l0_5))) else (none))) else (none)) = some (r1, r2, r3, r4, r5, r6) := by first | (rw [hy119]; with_reducible exact H) | (have H2_ := (Option.bind_some _ _).symm.trans H; rw [hy119]; with_reducible exact H2_) | (have H2_ := (Option.bind_some _ _).symm.trans H; with_reducible exact H2_) | with_reducible exact H | (rw [hy119]; exact H) | exact H
 have Ny119 := Aside0.mk hy119
 clear hy119
 by_cases c2 : y119.length + l0_3.length < 17592186044416
 ·rw [if_pos c2] at H
  have LMc2 := Aside0.mk c2
  clear c2
  obtain ⟨y122, hy122⟩ : ∃ y_ : List Int, y_ = (y119 ++ l0_3) := ⟨_, rfl⟩
  replace H : ((some (([] : List Int) : List Int)).bind fun y125 => (if y125.length + l0_5.length < 17592186044416 then (some (a0_0, a0_1, a0_2, y122, a0_4, (y125 ++ l0_5))) else (none))) = some (r1, r2, r3, r4, r5, r6) := by first | (rw [hy122]; with_reducible exact H) | (have H2_ := (Option.bind_some _ _).symm.trans H; rw [hy122]; with_reducible exact H2_) | (have H2_ := (Option.bind_some _ _).symm.trans H; with_reducible exact H2_) | with_reducible exact H | (rw [hy122]; exact H) | exact H
  have Ny122 := Aside0.mk hy122
  clear hy122
  obtain ⟨y125, hy125⟩ : ∃ y_ : List Int, y_ = (([] : List Int)) := ⟨_, rfl⟩
  replace H : (if y125.length + l0_5.length < 17592186044416 then (some (a0_0, a0_1, a0_2, y122, a0_4, (y125 ++ l0_5))) else (none)) = some (r1, r2, r3, r4, r5, r6) := by first | (rw [hy125]; with_reducible exact H) | (have H2_ := (Option.bind_some _ _).symm.trans H; rw [hy125]; with_reducible exact H2_) | (have H2_ := (Option.bind_some _ _).symm.trans H; with_reducible exact H2_) | with_reducible exact H | (rw [hy125]; exact H) | exact H
  have Ny125 := Aside0.mk hy125
  clear hy125
  by_cases c3 : y125.length + l0_5.length < 17592186044416
  ·rw [if_pos c3] at H
   have LMc3 := Aside0.mk c3
   clear c3
   obtain ⟨y128, hy128⟩ : ∃ y_ : List Int, y_ = (y125 ++ l0_5) := ⟨_, rfl⟩
   replace H : (some (a0_0, a0_1, a0_2, y122, a0_4, y128)) = some (r1, r2, r3, r4, r5, r6) := by first | (rw [hy128]; with_reducible exact H) | (have H2_ := (Option.bind_some _ _).symm.trans H; rw [hy128]; with_reducible exact H2_) | (have H2_ := (Option.bind_some _ _).symm.trans H; with_reducible exact H2_) | with_reducible exact H | (rw [hy128]; exact H) | exact H
   have Ny128 := Aside0.mk hy128
   clear hy128
   simp only [Option.some.injEq, Prod.mk.injEq] at H
   obtain ⟨rfl, rfl, rfl, rfl, rfl, rfl⟩ := H
   go_enter Tryd.func45, Tryd.ntmps45
   go_wp2_with (first | ((with_reducible refine gate_dst (N := 1) rfl ?_); refine box_event ?hg (N := 1) ?hd (cs := #[.int .i64 a0_0, .int .i64 a0_1, .bool a0_2, .slice A0_3 l0_3.length c0_3, .bool a0_4, .slice A0_5 l0_5.length c0_5]) (t := 62) ?hr ?_; (case hd => rfl); (case hg => rfl); (case hr => first | (go_simp; done) | (go_simp; rfl)); intro gb117 hg w4 hbox hb; have BK117 := Aside0.mk (hbox); have GW117 := tge HB hg; have GE117 := tge HB hg; replace HB := tBs HB hb; clear hb hbox hg) | ((with_reducible refine gate_dst (N := 2) rfl ?_); refine box_event ?hg (N := 2) ?hd (cs := #[.int .i64 0, .int .i64 0, .bool false, .slice none 0 0, .bool false, .slice none 0 0]) (t := 62) ?hr ?_; (case hd => rfl); (case hg => rfl); (case hr => first | (go_simp; done) | (go_simp; rfl)); intro gb118 hg w5 hbox hb; have BK118 := Aside0.mk (hbox); have GW118 := tge HB hg; have GE118 := tge HB hg; replace HB := tBs HB hb; have NB117_118 := tlt BK117 hg; have NB118_117 := tgt BK117 hg; replace BK117 := tBb BK117 hb; clear hb hbox hg) | ((with_reducible refine gate_dst (N := 3) rfl ?_); refine Kd.R_lit (Kd.int .i64) _ 3 ?hg (N := 3) ?hd (xs := ([] : List Int)) (inner := []) (ok := fun _ => True) (okp := fun _ => True) ?hr ?hp (fun _ hk => hk) trivial (Below.refl _ _) (Nat.le_refl _) (by simp) ?_; (case hd => rfl); (case hg => rfl); (case hr => first | (go_simp; done) | (go_simp; rfl)); (case hp => exact (Reps.none _ _)); intro v120 w6 ho7 hb hg_ hnew_; clear hg_ hnew_; (first | rw [← Ny119.out] at ho7 | (simp only [Int.reduceToNat] at ho7; rw [← Ny119.out] at ho7)); have HO121 := tRl ho7 HB; replace BK117 := tBb BK117 hb; replace BK118 := tBb BK118 hb; replace HB := tBs HB hb; clear hb ho7; have hnb8 := NB117_118.out; have hnc8 := NB118_117.out; obtain ⟨hcz9_0, hcz9_1, hcz9_2, hcz9_3, hcz9_4, hcz9_5, hfz9_0, hfz9_1, hfz9_2, hfz9_3, hfz9_4, hfz9_5⟩ := cells6 BK117.out) | ((with_reducible refine gate_builtin (b := .append) (xs := #[.tmp 3, .tmp 5]) rfl ?_); at_builtin; refine Kd.R_append_rows (Kd.int .i64) (w0 := w) w.heap.size rfl (.tmp 3) (.tmp 5) 60 3 (.int .i64 0) 8 rfl Tryd.underlying60 info3 rfl (by decide) (by omega) v120 y119 l0_3 _ _ _ (fun _ => True) (fun _ => False) rfl rfl ?aO ?aR (fun _ _ h => h) (fun _ h => h.elim) ?aF ?aB ?aS ?aL ?_; (case aR => exact tC (Kd.C_below HR0_3.out HB.out)); (case aB => exact zb); (case aF => exact (fun _ _ => trivial)); (case aO => exact (tR HO121.out)); (case aS => exact (below_size zb)); (case aL => have := LMc2.out; omega); intro v123 w10 ho hb hg hat; rw [← Ny122.out] at ho; replace BK117 := Aside0.mk (blk_grown (tH BK117.out) hg (Kd.R_ne HO121.out BK117.out (by decide))); replace BK118 := Aside0.mk (blk_grown (tH BK118.out) hg (Kd.R_ne HO121.out BK118.out (by decide))); replace HB := Aside0.mk (hb); have HO124 := Aside0.mk (ho); clear HO121; clear ho hb hg hat; obtain ⟨Ao11, co11, eo11⟩ := Kd.R_slice HO124.out; subst eo11; obtain ⟨hcz12_0, hcz12_1, hcz12_2, hcz12_3, hcz12_4, hcz12_5, hfz12_0, hfz12_1, hfz12_2, hfz12_3, hfz12_4, hfz12_5⟩ := cells6 BK117.out) | ((with_reducible refine gate_dst (N := 8) rfl ?_); refine Kd.R_lit (Kd.int .i64) _ 3 ?hg (N := 8) ?hd (xs := ([] : List Int)) (inner := []) (ok := fun _ => True) (okp := fun _ => True) ?hr ?hp (fun _ hk => hk) trivial (Below.refl _ _) (Nat.le_refl _) (by simp) ?_; (case hd => rfl); (case hg => rfl); (case hr => first | (go_simp; done) | (go_simp; rfl)); (case hp => exact (Reps.none _ _)); intro v126 w13 ho14 hb hg_ hnew_; clear hg_ hnew_; (first | rw [← Ny125.out] at ho14 | (simp only [Int.reduceToNat] at ho14; rw [← Ny125.out] at ho14)); have HO127 := Aside0.mk (Kd.R_lower (Kd.R_new' ho14 (Kd.R_lt (tRt HO124.out BK117.out))) (below_size zb)); replace HO124 := Aside0.mk (Kd.R_elder' (tRt HO124.out BK117.out) (Kd.R_base ho14) hb); replace BK117 := tBp (o' := .cells #[.int .i64 a0_0, .int .i64 a0_1, .bool a0_2, .slice Ao11 y122.length co11, .bool a0_4, .slice A0_5 l0_5.length c0_5] 62 (0, 0)) BK117 hb; replace BK118 := tBb BK118 hb; replace HB := tBs HB hb; clear hb ho14; obtain ⟨hcz15_0, hcz15_1, hcz15_2, hcz15_3, hcz15_4, hcz15_5, hfz15_0, hfz15_1, hfz15_2, hfz15_3, hfz15_4, hfz15_5⟩ := cells6 BK117.out) | ((with_reducible refine gate_builtin (b := .append) (xs := #[.tmp 8, .tmp 10]) rfl ?_); at_builtin; refine Kd.R_append_rows (Kd.int .i64) (w0 := w) w.heap.size rfl (.tmp 8) (.tmp 10) 60 3 (.int .i64 0) 8 rfl Tryd.underlying60 info3 rfl (by decide) (by omega) v126 y125 l0_5 _ _ _ (fun k_ => some k_ ≠ (.slice Ao11 y122.length co11 : Value).ownBlock) (fun _ => False) rfl rfl ?aO ?aR (fun _ _ h => h) (fun _ h => h.elim) ?aF ?aB ?aS ?aL ?_; (case aR => exact tC (Kd.C_below HR0_5.out HB.out)); (case aB => exact zb); (case aF => exact (fun k_ hk => Kd.fresh' (Kd.R_lt (tR HO124.out)) k_ hk)); (case aO => exact (tRm HO127.out)); (case aS => exact (below_size zb)); (case aL => have := LMc3.out; omega); intro v129 w16 ho hb hg hat; rw [← Ny128.out] at ho; replace BK117 := Aside0.mk (blk_grown (tH BK117.out) hg (Kd.R_ne HO127.out BK117.out (by decide))); replace BK118 := Aside0.mk (blk_grown (tH BK118.out) hg (Kd.R_ne HO127.out BK118.out (by decide))); replace HO124 := Aside0.mk (Kd.R_after (ok := (fun _ => True)) (tR HO124.out) hg hat); replace HB := Aside0.mk (hb); have HO130 := Aside0.mk (ho); clear HO127; clear ho hb hg hat; obtain ⟨Ao17, co17, eo17⟩ := Kd.R_slice HO130.out; subst eo17; obtain ⟨hcz18_0, hcz18_1, hcz18_2, hcz18_3, hcz18_4, hcz18_5, hfz18_0, hfz18_1, hfz18_2, hfz18_3, hfz18_4, hfz18_5⟩ := cells6 BK117.out; obtain ⟨hcz19_0, hcz19_1, hcz19_2, hcz19_3, hcz19_4, hcz19_5, hfz19_0, hfz19_1, hfz19_2, hfz19_3, hfz19_4, hfz19_5⟩ := cells6 BK118.out))
   refine bodyPost_ret (results_cell_row rfl _ _ gb118 62 #[.int .i64 a0_0, .int .i64 a0_1, .bool a0_2, .slice Ao11 y122.length co11, .bool a0_4, .slice Ao17 y128.length co17] (0, 0) _ rfl (tP BK118.out) Tryd.underlying62 rfl (by kernel_rfl)) rfl ?_
   exact ⟨_, _, by first | rfl | (simp [errW_none, errW_some] <;> rfl) | (simp [*, errW_none, errW_some] <;> rfl), tRm (Kd.R_types (Kd.R_types HO124.out BK117.out (by decide)) BK118.out (by decide)), tRm (Kd.R_types (Kd.R_types HO130.out BK117.out (by decide)) BK118.out (by decide)), zb⟩
  ·rw [if_neg c3] at H
   exact absurd H (by simp)
 ·rw [if_neg c2] at H
  exact absurd H (by simp)

def spec_l31Free.l0 : Nat → List (S62) → Int → Bool → Bool → Int → Int → Int → List (S62) → Option (Bool × Bool × Int × Int × Int × (List (S62)))
 | 0, _, _, _, _, _, _, _, _ => none
 | k + 1, x1, x6, x136000, x136001, x136002, x136003, x136004, x136005 => if x6 < (x1.length : Int) then (if 0 ≤ x6 then ((spec_l12Copy.f ((rd_T62 x1 x6).f0) ((rd_T62 x1 x6).f1) ((rd_T62 x1 x6).f2) ((rd_T62 x1 x6).f3) ((rd_T62 x1 x6).f4) ((rd_T62 x1 x6).f5)).bind fun bt137 => (if x136005.length < 1759218604441 then (spec_l31Free.l0 k x1 (wrap64 (x6 + 1)) x136000 x136001 x136002 x136003 x136004 (x136005 ++ [(⟨bt137.1, bt137.2.1, bt137.2.2.1, bt137.2.2.2.1, bt137.2.2.2.2.1, bt137.2.2.2.2.2⟩ : S62)])) else (none))) else (none)) else (some (x136000, x136001, x136002, x136003, x136004, x136005))
def spec_l31Free.f (k : Nat) (a0 : Bool) (l1 : List (S62)) : Option (Bool × Bool × Int × Int × Int × (List (S62))) := spec_l31Free.l0 k l1 0 a0 false 255 0 0 (([] : List (S62)))
def spec_l31Free.T5 : Bool × List (List Nat × List Nat) := (true, [([], []), ([0], [0]), ([], []), ([], []), ([2, 3], [2, 3]), ([4], [4]), ([5], [5]), ([6], [6]), ([1, 7, 6], [1, 7]), ([0, 1, 2, 3, 4, 5, 6, 7, 8], []), ([9, 8, 8, 0, 1, 2, 3, 4, 5, 6, 7, 8], [8, 9])])
def spec_l31Free.B5 : List Nat := [0, 1, 0, 0, 12, 28, 60, 124, 255, 511, 1023]
theorem spec_l31Free.tab5 : rtab .any (opsOf Tryd.f27 5) = spec_l31Free.T5 := by kernel_rfl
theorem spec_l31Free.bits5 : waitsOk spec_l31Free.T5.2 spec_l31Free.B5 = true := by kernel_rfl
set_option maxHeartbeats 8000000 in
set_option maxRecDepth 100000 in
theorem spec_l31Free.calls (k : Nat) (a0 : Bool) (A1 : Option Addr) (c1 : Nat) (l1 : List (S62)) (r1 : Bool) (r2 : Bool) (r3 : Int) (r4 : Int) (r5 : Int) (r6 : List (S62)) (w : World) (hr1 : Kd.C k62 w A1 l1.length l1) (hc1 : l1.length ≤ c1) (h : spec_l31Free.f k a0 l1 = some (r1, r2, r3, r4, r5, r6)) :
  Calls Tryd.prog 27 #[.bool a0, .slice A1 l1.length c1] w fun e w' => ∃ v5_ : Value, e = .returned (.agg #[.bool r1, .bool r2, .int .i64 r3, .int .i64 r4, .int .i64 r5, v5_]) ∧ Kd.S k62 62 w' w.heap.size (fun _ => True) v5_ r6 ∧ Below w.heap.size w w' := by
 have hu28 := Tryd.underlying28
 have hu62 := Tryd.underlying62
 have HR1 := Aside0.mk hr1
 have HC1 := Aside0.mk hc1
 clear hr1 hc1
 have HB := Aside0.mk (Below.refl w.heap.size w)
 have H : (spec_l31Free.l0 k l1 0 a0 false 255 0 0 (([] : List (S62)))) = some (r1, r2, r3, r4, r5, r6) := h
 clear h
 obtain ⟨y132, hy132⟩ : ∃ y_ : List (S62), y_ = (([] : List (S62))) := ⟨_, rfl⟩
 replace H : (spec_l31Free.l0 k l1 0 a0 false 255 0 0 y132) = some (r1, r2, r3, r4, r5, r6) := by first | (rw [hy132]; with_reducible exact H) | (have H2_ := (Option.bind_some _ _).symm.trans H; rw [hy132]; with_reducible exact H2_) | (have H2_ := (Option.bind_some _ _).symm.trans H; with_reducible exact H2_) | with_reducible exact H | (rw [hy132]; exact H) | exact H
 have Ny132 := Aside0.mk hy132
 clear hy132
 have H' := Aside0.mk H
 clear H
 go_enter Tryd.func27, Tryd.ntmps27
 go_wp2_with (first | ((with_reducible refine gate_dst (N := 4) rfl ?_); refine box_event ?hg (N := 4) ?hd (cs := #[.bool false, .bool false, .int .i64 0, .int .i64 0, .int .i64 0, .slice none 0 0]) (t := 28) ?hr ?_; (case hd => rfl); (case hg => rfl); (case hr => first | (go_simp; done) | (go_simp; rfl)); intro gb131 hg w3 hbox hb; have BK131 := Aside0.mk (hbox); have GW131 := tge HB hg; have GE131 := tge HB hg; replace HB := tBs HB hb; clear hb hbox hg) | ((with_reducible refine gate_dst (N := 8) rfl ?_); refine Kd.S_lit k62 _ 62 ?hg (N := 8) ?hd (xs := ([] : List (S62))) (inner := []) (ok := fun _ => True) (okp := fun _ => True) ?hr ?hp (fun _ hk => hk) trivial (Below.refl _ _) (Nat.le_refl _) (by simp) ?_; (case hd => rfl); (case hg => rfl); (case hr => first | (go_simp; done) | (go_simp; rfl)); (case hp => exact (Reps.none _ _)); intro v133 w4 ho5 hb hg_ hnew_; clear hg_ hnew_; (first | rw [← Ny132.out] at ho5 | (simp only [Int.reduceToNat] at ho5; rw [← Ny132.out] at ho5)); have HO134 := tSl ho5 HB; replace BK131 := tBb BK131 hb; replace HB := tBs HB hb; clear hb ho5; obtain ⟨Ao6, co6, eo6⟩ := Kd.S_slice HO134.out; subst eo6) | ((with_reducible refine gate_dst (N := 5) rfl ?_); refine box_event ?hg (N := 5) ?hd (cs := #[.bool false, .bool false, .int .i64 0, .int .i64 0, .int .i64 0, .slice none 0 0]) (t := 28) ?hr ?_; (case hd => rfl); (case hg => rfl); (case hr => first | (go_simp; done) | (go_simp; rfl)); intro gb135 hg w7 hbox hb; replace HO134 := tSb HO134 hb; have BK135 := Aside0.mk (hbox); have GW135 := tge HB hg; have GE135 := tge HB hg; replace HB := tBs HB hb; have NB131_135 := tlt BK131 hg; have NB135_131 := tgt BK131 hg; replace BK131 := tBb BK131 hb; clear hb hbox hg; have hnb8 := NB135_131.out; have hnc8 := NB131_135.out; obtain ⟨hcz9_0, hcz9_1, hcz9_2, hcz9_3, hcz9_4, hcz9_5, hfz9_0, hfz9_1, hfz9_2, hfz9_3, hfz9_4, hfz9_5⟩ := cells6 BK135.out))
 go_loopg [6] k (fun kq v6 w' => ∃ (x6_1 : Int) (x136005_1 : List (S62)) (u136005 : Value), v6 = .int .i64 x6_1 ∧ Aside0 (spec_l31Free.l0 kq l1 x6_1 a0 false 255 0 0 x136005_1 = some (r1, r2, r3, r4, r5, r6)) ∧ Aside0 (kq ≤ k) ∧ Aside0 (Kd.S k62 62 w' w.heap.size (fun _ => True) u136005 x136005_1) ∧ Aside0 (w'.heap[gb131]? = some (.cells #[.bool false, .bool false, .int .i64 0, .int .i64 0, .int .i64 0, (.slice none 0 0)] 28 (0, 0))) ∧ Aside0 (w'.heap[gb135]? = some (.cells #[.bool a0, .bool false, .int .i64 255, .int .i64 0, .int .i64 0, u136005] 28 (0, 0))) ∧ Aside0 (Below w.heap.size w w'))
 case atStart => exact ⟨(0), (y132), (.slice Ao6 y132.length co6), tr, H', ⟨Nat.le_refl _⟩, ⟨tSm (Kd.S_types HO134.out BK135.out (by decide))⟩, ⟨tH BK131.out⟩, ⟨tP BK135.out⟩, ⟨zb⟩⟩
 case round =>
  clear H'
  try clear c1; try clear hcz9_0; try clear hcz9_1; try clear hcz9_2; try clear hcz9_3; try clear hcz9_4; try clear hcz9_5; try clear hfz9_0; try clear hfz9_1; try clear hfz9_2; try clear hfz9_3; try clear hfz9_4; try clear hfz9_5
  obtain ⟨x6_1, x136005_1, u136005, rfl, HA, HK1, HO_136005, BK131, BK135, HB⟩ := hrel
  cases gk with
  | zero => exact absurd HA.out (by simp [spec_l31Free.l0])
  | succ k1 =>
   have H := HA.out
   clear HA
   simp only [spec_l31Free.l0] at H
   by_cases c10 : x6_1 < (l1.length : Int)
   ·rw [if_pos c10] at H
    have c10b0 : decide (x6_1 < (l1.length : Int)) = true := decide_eq_true c10
    clear c10
    by_cases c11 : 0 ≤ x6_1
    ·rw [if_pos c11] at H
     have c11b0 : decide (0 ≤ x6_1) = true := decide_eq_true c11
     clear c11
     replace H := tbe H
     obtain ⟨⟨t137, t138, t139, t140, t143, t144⟩, A12, H⟩ := H
     dsimp only at H
     by_cases c13 : x136005_1.length < 1759218604441
     ·rw [if_pos c13] at H
      have LMc13 := Aside0.mk c13
      clear c13
      obtain ⟨y147, hy147⟩ : ∃ y_ : List (S62), y_ = (x136005_1 ++ [(⟨t137, t138, t139, t140, t143, t144⟩ : S62)]) := ⟨_, rfl⟩
      replace H : (spec_l31Free.l0 k1 l1 (wrap64 (x6_1 + 1)) a0 false 255 0 0 y147) = some (r1, r2, r3, r4, r5, r6) := by first | (rw [hy147]; with_reducible exact H) | (have H2_ := (Option.bind_some _ _).symm.trans H; rw [hy147]; with_reducible exact H2_) | (have H2_ := (Option.bind_some _ _).symm.trans H; with_reducible exact H2_) | with_reducible exact H | (rw [hy147]; exact H) | exact H
      have Ny147 := Aside0.mk hy147
      clear hy147
      have H' := Aside0.mk H
      clear H
      try go_wp2
      replace HO_136005 := Aside0.mk (Kd.S_drew HO_136005.out)
      replace BK131 := Aside0.mk (blk_drew BK131.out)
      replace BK135 := Aside0.mk (blk_drew BK135.out)
      replace HB := Aside0.mk (below_drew1 HB.out)
      have p136 : 0 ≤ (x6_1 : Int) := td
      have q136 : x6_1 < (l1.length : Int) := td
      obtain ⟨ad136, A136_3, c136_3, A136_5, c136_5, e136, hx136_0, hx136_1, hx136_2, hx136_3, hx136_4, hx136_5, hl136_3, hi136_3, hl136_5, hi136_5⟩ := at_T62 HR1.out x6_1 p136 q136
      have hw136_5 := hx136_5
      have hw136_4 := hx136_4
      have hw136_3 := hx136_3
      have hw136_2 := hx136_2
      have hw136_1 := hx136_1
      have hw136_0 := hx136_0
      cases e136
      replace hx136_0 := tcl HB hx136_0
      replace hx136_1 := tcl HB hx136_1
      replace hx136_2 := tcl HB hx136_2
      replace hx136_3 := tcl HB hx136_3
      replace hx136_4 := tcl HB hx136_4
      replace hx136_5 := tcl HB hx136_5
      have HR136_3 := Aside0.mk hi136_3
      have HC136_3 := Aside0.mk hl136_3
      clear hi136_3 hl136_3
      have HR136_5 := Aside0.mk hi136_5
      have HC136_5 := Aside0.mk hl136_5
      clear hi136_5 hl136_5
      replace p136 := eq_true p136
      replace q136 := eq_true q136
      refine start_ (n := 11) (S := fun w' => w'.cell? ⟨gb135, 0, none⟩ = some (.bool a0) ∧ w'.cell? ⟨gb135, 1, none⟩ = some (.bool false) ∧ w'.cell? ⟨gb135, 2, none⟩ = some (.int .i64 255) ∧ w'.cell? ⟨gb135, 3, none⟩ = some (.int .i64 0) ∧ w'.cell? ⟨gb135, 4, none⟩ = some (.int .i64 0) ∧ w'.cell? ⟨gb135, 5, none⟩ = some (u136005) ∧ w'.cell? (ad136.add ((x6_1).toNat * 6)) = some (.int .i64 ((rd_T62 l1 x6_1).f0)) ∧ w'.cell? ⟨(ad136.add ((x6_1).toNat * 6)).block, (ad136.add ((x6_1).toNat * 6)).off + 1, none⟩ = some (.int .i64 ((rd_T62 l1 x6_1).f1)) ∧ w'.cell? ⟨(ad136.add ((x6_1).toNat * 6)).block, (ad136.add ((x6_1).toNat * 6)).off + 2, none⟩ = some (.bool ((rd_T62 l1 x6_1).f2)) ∧ w'.cell? ⟨(ad136.add ((x6_1).toNat * 6)).block, (ad136.add ((x6_1).toNat * 6)).off + 3, none⟩ = some (.slice A136_3 ((rd_T62 l1 x6_1).f3).length c136_3) ∧ w'.cell? ⟨(ad136.add ((x6_1).toNat * 6)).block, (ad136.add ((x6_1).toNat * 6)).off + 4, none⟩ = some (.bool ((rd_T62 l1 x6_1).f4)) ∧ w'.cell? ⟨(ad136.add ((x6_1).toNat * 6)).block, (ad136.add ((x6_1).toNat * 6)).off + 5, none⟩ = some (.slice A136_5 ((rd_T62 l1 x6_1).f5).length c136_5)) (ds := [10]) #[false, false, false, false, false, false, false, false, false, false, false] (by kernel_rfl) rfl rfl ⟨(blk_cell BK135.out 0).trans rfl, (blk_cell BK135.out 1).trans rfl, (blk_cell BK135.out 2).trans rfl, (blk_cell BK135.out 3).trans rfl, (blk_cell BK135.out 4).trans rfl, (blk_cell BK135.out 5).trans rfl, (tcl HB hw136_0), (tcl HB hw136_1), (tcl HB hw136_2), (tcl HB hw136_3), (tcl HB hw136_4), (tcl HB hw136_5)⟩ (fun hHeld => ?_); refine with_tabW spec_l31Free.tab5 spec_l31Free.bits5 (fun HT_ HW_ => ?_)
      generalize wr.drew = w14 at HO_136005 BK131 BK135 HB HR136_3 HR136_5 hx136_0 hx136_1 hx136_2 hx136_3 hx136_4 hx136_5 hHeld ⊢
      refine tpu 0 (some 16) #[true, false, false, false, false, false, false, false, false, false, false] ?_
      refine tpu 2 (some 18) #[true, false, true, false, false, false, false, false, false, false, false] ?_
      refine tpu 3 (some 19) #[true, false, true, true, false, false, false, false, false, false, false] ?_
      refine tpu 4 (some 20) #[true, false, true, true, true, false, false, false, false, false, false] ?_
      refine tta 1 (some 17) #[true, true, true, true, true, false, false, false, false, false, false] hHeld ?_ (hy := by rintro w' ⟨s0, s1, s2, s3, s4, s5, s6, s7, s8, s9, s10, s11⟩; go_simp; with_reducible rfl)
      refine tta 5 (some 21) #[true, true, true, true, true, true, false, false, false, false, false] hHeld ?_ (hy := by rintro w' ⟨s0, s1, s2, s3, s4, s5, s6, s7, s8, s9, s10, s11⟩; go_simp; with_reducible rfl)
      refine one_ (i := 6) (N := some 22) #[true, true, true, true, true, true, true, false, false, false, false] rfl rfl (one_of HT_.out (by kernel_rfl)) (by decide) (fun K hK => ?_)
      refine goes_ Tryd.func45 (by kernel_rfl) rfl #[.agg #[.int .i64 ((rd_T62 l1 x6_1).f0), .int .i64 ((rd_T62 l1 x6_1).f1), .bool ((rd_T62 l1 x6_1).f2), .slice A136_3 ((rd_T62 l1 x6_1).f3).length c136_3, .bool ((rd_T62 l1 x6_1).f4), .slice A136_5 ((rd_T62 l1 x6_1).f5).length c136_5]] (by rfl) rfl rfl tq ?_
      with_reducible refine (spec_l12Copy.calls ((rd_T62 l1 x6_1).f0) ((rd_T62 l1 x6_1).f1) ((rd_T62 l1 x6_1).f2) _ _ ((rd_T62 l1 x6_1).f3) ((rd_T62 l1 x6_1).f4) _ _ ((rd_T62 l1 x6_1).f5) t137 t138 t139 t140 t143 t144 _ ?side1 ?side2 ?side3 ?side4 A12.out).mono ?_
      (case side1 => exact tC (Kd.C_below HR136_3.out HB.out))
      (case side2 => exact HC136_3.out)
      (case side3 => exact tC (Kd.C_below HR136_5.out HB.out))
      (case side4 => exact HC136_5.out)
      rintro e w15 ⟨v141, v145, rfl, ho0, ho1, hb⟩
      refine ⟨_, rfl, ?_⟩
      replace HO_136005 := Aside0.mk (Kd.S_mono (Kd.S_told (Kd.S_told (Kd.S_old (tS HO_136005.out) hb) (Kd.R_base ho0)) (Kd.R_base ho1)) (fun _ h_ => h_.1))
      have HO142 := tRl ho0 HB
      have HO146 := tRl ho1 HB
      replace BK131 := tBb BK131 hb
      replace BK135 := tBb BK135 hb
      replace HB := tBs HB hb
      (try clear hb)
      (try clear hb2)
      (try clear hk)
      (try clear hi)
      (try clear ho0)
      (try clear ho1)
      obtain ⟨Ao17, co17, eo17⟩ := Kd.R_slice HO142.out
      (first | subst eo17 | (injection eo17 with f1_ f2_ f3_; have f4_ := f1_.symm; have f5_ := f3_.symm; clear f1_ f2_ f3_; subst f4_; subst f5_))
      obtain ⟨Ao18, co18, eo18⟩ := Kd.R_slice HO146.out
      (first | subst eo18 | (injection eo18 with f1_ f2_ f3_; have f4_ := f1_.symm; have f5_ := f3_.symm; clear f1_ f2_ f3_; subst f4_; subst f5_))
      refine hK.out _ _ ⟨(blk_cell BK135.out 0).trans rfl, (blk_cell BK135.out 1).trans rfl, (blk_cell BK135.out 2).trans rfl, (blk_cell BK135.out 3).trans rfl, (blk_cell BK135.out 4).trans rfl, (blk_cell BK135.out 5).trans rfl, (tcl HB hw136_0), (tcl HB hw136_1), (tcl HB hw136_2), (tcl HB hw136_3), (tcl HB hw136_4), (tcl HB hw136_5)⟩ (fun hHeld => ?_)
      clear hK K
      refine tnm (some 22) ?_
      refine one_ (i := 7) (N := some 23) #[true, true, true, true, true, true, true, true, false, false, false] rfl rfl (one_of HT_.out (by kernel_rfl)) (by decide) (fun K hK => ?_)
      refine value_ (w1 := ?_) (v := ?_) (by rfl) rfl ?_ ?_
      rotate_left 2
      ·go_simp
       constructor
       ·rfl
       ·rfl
      refine hK.out _ _ ⟨(blk_cell (blk_alloc BK135.out _) 0).trans rfl, (blk_cell (blk_alloc BK135.out _) 1).trans rfl, (blk_cell (blk_alloc BK135.out _) 2).trans rfl, (blk_cell (blk_alloc BK135.out _) 3).trans rfl, (blk_cell (blk_alloc BK135.out _) 4).trans rfl, (blk_cell (blk_alloc BK135.out _) 5).trans rfl, (World.cell?_alloc_lt _ _ _ (World.block_lt_of_cell? _ _ ((tcl HB hw136_0)))).trans ((tcl HB hw136_0)), (World.cell?_alloc_lt _ _ _ (World.block_lt_of_cell? _ _ ((tcl HB hw136_1)))).trans ((tcl HB hw136_1)), (World.cell?_alloc_lt _ _ _ (World.block_lt_of_cell? _ _ ((tcl HB hw136_2)))).trans ((tcl HB hw136_2)), (World.cell?_alloc_lt _ _ _ (World.block_lt_of_cell? _ _ ((tcl HB hw136_3)))).trans ((tcl HB hw136_3)), (World.cell?_alloc_lt _ _ _ (World.block_lt_of_cell? _ _ ((tcl HB hw136_4)))).trans ((tcl HB hw136_4)), (World.cell?_alloc_lt _ _ _ (World.block_lt_of_cell? _ _ ((tcl HB hw136_5)))).trans ((tcl HB hw136_5))⟩ (fun hHeld => ?_)
      clear hK K
      refine tnm (some 23) ?_
      refine one_ (i := 8) (N := some 24) #[true, true, true, true, true, true, true, true, true, false, false] rfl rfl (one_of HT_.out (by kernel_rfl)) (by decide) (fun K hK => ?_)
      refine Kd.S_append_step k62 (w0 := w) w.heap.size (by rfl) (.tmp 17) (.tmp 23) 26 62 (.agg #[(.int .i64 0), (.int .i64 0), (.bool false), (.slice none 0 0), (.bool false), (.slice none 0 0)]) 80 rfl Tryd.underlying26 info62 rfl (by decide) (by omega) u136005 x136005_1 (⟨t137, t138, t139, t140, t143, t144⟩ : S62) [.int .i64 t137, .int .i64 t138, .bool t139, .slice Ao17 t140.length co17, .bool t143, .slice Ao18 t144.length co18] (fun _ => True) (fun k_ => some k_ = (.slice Ao17 t140.length co17 : Value).ownBlock ∨ some k_ = (.slice Ao18 t144.length co18 : Value).ownBlock) rfl rfl ?aP (fun k_ hk_ => hk_.elim (fun h_ => ((Kd.R_mono (ok' := fun k_ => ((fun _ => True)) k_ ∧ some k_ ≠ (u136005 : Value).ownBlock) (Kd.R_apart' (HO142.out) (Kd.S_typed HO_136005.out) (by decide)) (fun k_ hk => ⟨trivial, hk.2⟩))).1 k_ h_.symm) (fun h_ => ((Kd.R_mono (ok' := fun k_ => ((fun _ => True)) k_ ∧ some k_ ≠ (u136005 : Value).ownBlock) (Kd.R_apart' (HO146.out) (Kd.S_typed HO_136005.out) (by decide)) (fun k_ hk => ⟨trivial, hk.2⟩))).1 k_ h_.symm)) ?aF ?aO ?aB ?aS ?aL ?_
      (case aP => exact k62_mkM _ _ _ (⟨t137, t138, t139, t140, t143, t144⟩ : S62) (Kd.R_mono (Kd.R_tight rfl (Kd.R_mono (ok' := fun k_ => ((fun _ => True)) k_ ∧ some k_ ≠ (u136005 : Value).ownBlock) (Kd.R_apart' (HO142.out) (Kd.S_typed HO_136005.out) (by decide)) (fun k_ hk => ⟨trivial, hk.2⟩))) (fun _ h_ => Or.inl h_)) (Kd.R_mono (Kd.R_tight rfl (Kd.R_mono (ok' := fun k_ => ((fun _ => True)) k_ ∧ some k_ ≠ (u136005 : Value).ownBlock) (Kd.R_apart' (HO146.out) (Kd.S_typed HO_136005.out) (by decide)) (fun k_ hk => ⟨trivial, hk.2⟩))) (fun _ h_ => Or.inr (h_))))
      (case aB => exact zb)
      (case aF => exact (fun _ _ => trivial))
      (case aO => exact (tSm HO_136005.out))
      (case aS => exact (below_size zb))
      (case aL => have := LMc13.out; omega)
      intro v148 w16 ho hb hg hat
      rw [← Ny147.out] at ho
      replace BK131 := Aside0.mk (blk_grown (tH BK131.out) hg (Kd.S_ne HO_136005.out BK131.out (by decide)))
      replace BK135 := Aside0.mk (blk_grown (tH BK135.out) hg (Kd.S_ne HO_136005.out BK135.out (by decide)))
      replace HB := Aside0.mk (hb)
      have HO149 := Aside0.mk (ho)
      clear HO_136005 HO142 HO146
      clear ho hb hg hat
      obtain ⟨Ao19, co19, eo19⟩ := Kd.S_slice HO149.out
      (first | subst eo19 | (injection eo19 with f1_ f2_ f3_; have f4_ := f1_.symm; have f5_ := f3_.symm; clear f1_ f2_ f3_; subst f4_; subst f5_))
      refine hK.out _ _ ⟨(blk_cell BK135.out 0).trans rfl, (blk_cell BK135.out 1).trans rfl, (blk_cell BK135.out 2).trans rfl, (blk_cell BK135.out 3).trans rfl, (blk_cell BK135.out 4).trans rfl, (blk_cell BK135.out 5).trans rfl, (tcl HB hw136_0), (tcl HB hw136_1), (tcl HB hw136_2), (tcl HB hw136_3), (tcl HB hw136_4), (tcl HB hw136_5)⟩ (fun hHeld => ?_)
      clear hK K
      refine tnm (some 24) ?_
      refine tpu 9 (some 25) #[true, true, true, true, true, true, true, true, true, true, false] ?_
      refine last_ (i := 10) (N := none) #[true, true, true, true, true, true, true, true, true, true, true] rfl rfl (one_of HT_.out (by kernel_rfl)) (by decide) (fun K hK => ?_)
      have hs20 : w16.cell? ⟨gb135, 5, none⟩ = some (u136005) := (blk_cell BK135.out 5).trans rfl
      have hfs20 := blk_frozen BK135.out 5
      have hns20_0 := NB131_135.out
      have hms20_0 := NB135_131.out
      refine tsk ?_
      refine hK.out _ _ ?_
      clear hK K
      refine done_ (done_of HT_.out (by kernel_rfl)) ?_
      try go_wp2
      go_roundg k1
      case measure => have := HK1.out; omega
      case rel => exact ⟨(wrap64 (x6_1 + 1)), (y147), (.slice Ao19 y147.length co19), tr, H', ⟨by have := HK1.out; omega⟩, ⟨tSm (Kd.S_types HO149.out BK135.out (by decide))⟩, ⟨tH BK131.out⟩, ⟨tP BK135.out⟩, ⟨zb⟩⟩
     ·rw [if_neg c13] at H
      exact absurd H (by simp)
    ·rw [if_neg c11] at H
     exact absurd H (by simp)
   ·rw [if_neg c10] at H
    have c10b0 : decide (x6_1 < (l1.length : Int)) = false := decide_eq_false c10
    clear c10
    simp only [Option.some.injEq, Prod.mk.injEq] at H
    obtain ⟨rfl, rfl, rfl, rfl, rfl, rfl⟩ := H
    have hnb21 := NB135_131.out
    have hnc21 := NB131_135.out
    obtain ⟨hcz22_0, hcz22_1, hcz22_2, hcz22_3, hcz22_4, hcz22_5, hfz22_0, hfz22_1, hfz22_2, hfz22_3, hfz22_4, hfz22_5⟩ := cells6 BK135.out
    obtain ⟨hcz23_0, hcz23_1, hcz23_2, hcz23_3, hcz23_4, hcz23_5, hfz23_0, hfz23_1, hfz23_2, hfz23_3, hfz23_4, hfz23_5⟩ := cells6 BK131.out
    obtain ⟨Ao24, co24, eo24⟩ := Kd.S_slice HO_136005.out
    subst eo24
    go_wp2
    refine bodyPost_ret (results_cell_row rfl _ _ gb131 28 #[.bool a0, .bool false, .int .i64 255, .int .i64 0, .int .i64 0, .slice Ao24 x136005_1.length co24] (0, 0) _ rfl (tP BK131.out) Tryd.underlying28 rfl (by kernel_rfl)) rfl ?_
    exact ⟨_, by first | rfl | (simp [errW_none, errW_some] <;> rfl) | (simp [*, errW_none, errW_some] <;> rfl), tSm (Kd.S_types HO_136005.out BK131.out (by decide)), zb⟩

end Go.Proofs.YtfjkpdhldeopaaaDoor.G

namespace Go.Proofs.YtfjkpdhldeopaaaDoor.G
open Go.RowKit Go.Proofs.YtfjkpdhldeopaaaDoorW.PrintWords Go.Proofs.YtfjkpdhldeopaaaDoorW.PrintLast Go.Proofs.YtfjkpdhldeopaaaDoorW.PrintMore Go.Proofs.YtfjkpdhldeopaaaDoor.Pu
set_option linter.unusedVariables false
set_option linter.unusedSimpArgs false
/-- The cells that hold a record. -/
def CellsR (W : World) (p : Addr) (r : S62) (A3 : Option Addr) (c3 : Nat) (A5 : Option Addr) (c5 : Nat) : Prop :=
  W.cell? p = some (.int .i64 r.f0) ∧ W.cell? ⟨p.block, p.off + 1, none⟩ = some (.int .i64 r.f1) ∧ W.cell? ⟨p.block, p.off + 2, none⟩ = some (.bool r.f2) ∧ W.cell? ⟨p.block, p.off + 3, none⟩ = some (.slice A3 r.f3.length c3) ∧ W.cell? ⟨p.block, p.off + 4, none⟩ = some (.bool r.f4) ∧ W.cell? ⟨p.block, p.off + 5, none⟩ = some (.slice A5 r.f5.length c5)
theorem CellsR.below {W W' : World} {p : Addr} {r : S62} {A3 A5 : Option Addr} {c3 c5 : Nat} (h : CellsR W p r A3 c3 A5 c5) (hb : Below W.heap.size W W') : CellsR W' p r A3 c3 A5 c5 := ⟨pw_cell_below hb h.1, pw_cell_below hb h.2.1, pw_cell_below hb h.2.2.1, pw_cell_below hb h.2.2.2.1, pw_cell_below hb h.2.2.2.2.1, pw_cell_below hb h.2.2.2.2.2⟩
theorem in_q (a b c : Int) (w : World) : Calls Tryd.prog 44 #[.int .i64 a, .int .i64 b, .int .i64 c] w fun e w' => e = .returned (.bool (decide (b ≤ a) && decide (a ≤ c))) ∧ ∃ n, w' = w.drewN n :=
  (spec_l6In.calls a b c _ w (in_ev a b c)).mono fun e w' h => ⟨h.1, h.2.out⟩
set_option maxRecDepth 100000 in
set_option maxHeartbeats 4000000 in
theorem specrecs_q (l : List S62) (A : Option Addr) (c : Nat) (w : World) (hr : Kd.C k62 w A l.length l) (hc : l.length ≤ c) :
    Calls Tryd.prog 43 #[.slice A l.length c] w fun e w' => e = .returned (.bool (recsInc l && lenOk l)) ∧ Below w.heap.size w w' := by
  have hl := hr.2.1
  have HR := Aside0.mk hr
  clear hr
  go_enter Tryd.func43, Tryd.ntmps43
  go_wp2
  go_loopw [3] (fun v3 wr => ∃ i : Nat, v3 = .int .i64 i ∧ i ≤ l.length ∧ (∀ j, j < i → recStep l j = true) ∧ Below w.heap.size w wr) (fun v3 _ => l.length - (intOf v3).toNat)
  case atStart => exact ⟨0, rfl, Nat.zero_le _, fun j hj => absurd hj (Nat.not_lt_zero j), Below.refl _ _⟩
  case round =>
    obtain ⟨i, rfl, hi, hall, hB1⟩ := hrel
    by_cases hlt : i < l.length
    · obtain ⟨ad, A3, c3, A5, c5, rfl, e0, e1, e2, e3, e4, e5, l3, g3, l5, g5⟩ := at_T62 (Kd.C_below HR.out hB1) (i : Int) (by omega) (by omega)
      rw [show ((i : Int)).toNat = i from rfl] at e0 e1 e2 e3 e4 e5
      have hrec : recStep l i = (recOk (rd_T62 l (i : Int)) && (decide (i = 0) || decide ((rd_T62 l ((i : Int) - 1)).f0 < (rd_T62 l (i : Int)).f0))) := rfl
      generalize rd_T62 l (i : Int) = ri at *
      have ci : CellsR wr (ad.add (i * 6)) ri A3 c3 A5 c5 := ⟨e0, e1, e2, e3, e4, e5⟩
      clear e0 e1 e2 e3 e4 e5
      go_wp2
      obtain ⟨kR, hkR⟩ := (sRecordValid_ev ri ⟨g3.2.1, g5.2.1⟩).rounds
      have hrc : ∀ (W2 : World), Below wr.heap.size wr W2 → Calls Tryd.prog 56 #[.agg #[.int .i64 ri.f0, .int .i64 ri.f1, .bool ri.f2, .slice A3 ri.f3.length c3, .bool ri.f4, .slice A5 ri.f5.length c5]] W2 fun e w' => e = .returned (.bool (recOk ri)) ∧ Below W2.heap.size W2 w' := fun (W2 : World) (hb : Below wr.heap.size wr W2) => spec_RecordValid.calls kR ri.f0 ri.f1 ri.f2 A3 c3 ri.f3 ri.f4 A5 c5 ri.f5 _ W2 (Kd.C_below g3 hb) l3 (Kd.C_below g5 hb) l5 hkR
      have HRC := Aside0.mk hrc
      clear hrc
      have kS : ∀ w' : World, Below wr.drew.heap.size wr.drew w' → CellsR w' (ad.add (i * 6)) ri A3 c3 A5 c5 ∧ Below wr.heap.size wr w' := fun w' h => ⟨ci.below (below_step (below_drew (Below.refl _ wr)) h), below_step (below_drew (Below.refl _ wr)) h⟩
      have hil : (i : Int) < (l.length : Int) := by omega
      rcases hok : recOk ri with _ | _ <;> rw [hok] at hkR HRC
      · have hno := Aside0.mk (incs_no hlt (hrec.trans (by rw [hok]; rfl)))
        refine r_begin (fun w' => CellsR w' (ad.add (i * 6)) ri A3 c3 A5 c5 ∧ Below wr.heap.size wr w') 24 (by kernel_rfl) rfl (kS _ (Below.refl _ _)) (fun hH => ?_)
        repeat (first | (refine r_skip (by kernel_rfl) (by rfl) (fun _ _ _ h => h) hH ?_; simp only [Act.put, List.setIfInBounds_toArray, List.set_cons_zero, List.set_cons_succ, Nat.reduceAdd]) | (refine r_go (v := ?_) (by kernel_rfl) (by rfl) (fun _ _ _ h => h) hH ?_ ?_; rotate_left; (focus (intro w hS; obtain ⟨⟨e0, e1, e2, e3, e4, e5⟩, e6⟩ := hS; go_simp; first | done | with_reducible rfl)); simp only [Act.put, List.setIfInBounds_toArray, List.set_cons_zero, List.set_cons_succ, Nat.reduceAdd]) | (fail "x"))
        refine r_one (by kernel_rfl) (by rfl) (fun K hK => ?_)
        go_simp
        go_at_call 56
        refine (HRC.out _ hH.2).mono ?_
        rintro e w2 ⟨rfl, hb⟩
        go_wp2_with fail
        refine hK.out _ _ (kS _ hb) (fun hH => ?_)
        clear hK K
        simp only [Act.put, List.setIfInBounds_toArray, List.set_cons_zero, List.set_cons_succ, Nat.reduceAdd]
        repeat (first | (refine r_skip (by kernel_rfl) (by rfl) (fun _ _ _ h => h) hH ?_; simp only [Act.put, List.setIfInBounds_toArray, List.set_cons_zero, List.set_cons_succ, Nat.reduceAdd]) | (refine r_go (v := ?_) (by kernel_rfl) (by rfl) (fun _ _ _ h => h) hH ?_ ?_; rotate_left; (focus (intro w hS; obtain ⟨⟨e0, e1, e2, e3, e4, e5⟩, e6⟩ := hS; go_simp; first | done | with_reducible rfl)); simp only [Act.put, List.setIfInBounds_toArray, List.set_cons_zero, List.set_cons_succ, Nat.reduceAdd]) | (fail "x"))
        refine r_done (by kernel_rfl) ?_
        go_wp2
        go_ret
        exact ⟨by rw [hno.out]; rfl, below_step hB1 hH.2⟩
      · rcases i with _ | j
        · have ez : ad.add (0 * 6) = ad := by go_simp
          rw [ez] at ci
          simp only [ez] at kS
          refine r_begin (fun w' => CellsR w' ad ri A3 c3 A5 c5 ∧ Below wr.heap.size wr w') 24 (by kernel_rfl) rfl (kS _ (Below.refl _ _)) (fun hH => ?_)
          repeat (first | (refine r_skip (by kernel_rfl) (by rfl) (fun _ _ _ h => h) hH ?_; simp only [Act.put, List.setIfInBounds_toArray, List.set_cons_zero, List.set_cons_succ, Nat.reduceAdd]) | (refine r_go (v := ?_) (by kernel_rfl) (by rfl) (fun _ _ _ h => h) hH ?_ ?_; rotate_left; (focus (intro w hS; obtain ⟨⟨e0, e1, e2, e3, e4, e5⟩, e6⟩ := hS; go_simp; first | done | with_reducible rfl)); simp only [Act.put, List.setIfInBounds_toArray, List.set_cons_zero, List.set_cons_succ, Nat.reduceAdd]) | (fail "x"))
          refine r_one (by kernel_rfl) (by rfl) (fun K hK => ?_)
          go_simp
          go_at_call 56
          refine (HRC.out _ hH.2).mono ?_
          rintro e w2 ⟨rfl, hb⟩
          go_wp2_with fail
          refine hK.out _ _ (kS _ hb) (fun hH => ?_)
          clear hK K
          simp only [Act.put, List.setIfInBounds_toArray, List.set_cons_zero, List.set_cons_succ, Nat.reduceAdd]
          repeat (first | (refine r_skip (by kernel_rfl) (by rfl) (fun _ _ _ h => h) hH ?_; simp only [Act.put, List.setIfInBounds_toArray, List.set_cons_zero, List.set_cons_succ, Nat.reduceAdd]) | (refine r_go (v := ?_) (by kernel_rfl) (by rfl) (fun _ _ _ h => h) hH ?_ ?_; rotate_left; (focus (intro w hS; obtain ⟨⟨e0, e1, e2, e3, e4, e5⟩, e6⟩ := hS; go_simp; first | done | with_reducible rfl)); simp only [Act.put, List.setIfInBounds_toArray, List.set_cons_zero, List.set_cons_succ, Nat.reduceAdd]) | (fail "x"))
          refine r_done (by kernel_rfl) ?_
          go_wp2
          go_roundw
          case rel =>
            have hst : ∀ j, j < 0 + 1 → recStep l j = true := by
              intro j hj
              obtain rfl : j = 0 := by omega
              exact hrec.trans (by rw [hok]; rfl)
            first | exact ⟨0 + 1, by simp, hlt, hst, below_step hB1 hH.2⟩ | ((repeat apply Exists.intro); refine ⟨⟨0 + 1, ?_, hlt, hst, below_step hB1 hH.2⟩, by first | rfl | (repeat' apply And.intro) <;> rfl⟩; simp)
          case measure => simp [intOf]; omega
        · obtain ⟨ad2, _, _, _, _, hq, f0, _⟩ := at_T62 (Kd.C_below HR.out hB1) (j : Int) (by omega) (by omega)
          cases hq
          rw [show ((j : Int)).toNat = j from rfl] at f0
          have hrec2 : recStep l (j + 1) = (recOk ri && (decide (j + 1 = 0) || decide ((rd_T62 l (j : Int)).f0 < ri.f0))) := by
            rw [hrec, show ((j + 1 : Nat) : Int) - 1 = (j : Int) by omega]
          generalize (rd_T62 l (j : Int)).f0 = pj at f0 hrec2
          have hwj : IntKind.i64.wrap (j : Int) = (j : Int) := by rw [i64_w]; unfold wrap64; omega
          have hjl : (j : Int) < (l.length : Int) := by omega
          have hjl1 : (j : Int) + 1 < (l.length : Int) := by omega
          have hj0 : (0 : Int) ≤ (j : Int) + 1 := by omega
          have htn : ((j : Int) + 1).toNat = j + 1 := by omega
          have kS2 : ∀ w' : World, Below wr.drew.heap.size wr.drew w' → (CellsR w' (ad.add ((j + 1) * 6)) ri A3 c3 A5 c5 ∧ Below wr.heap.size wr w') ∧ w'.cell? (ad.add (j * 6)) = some (.int .i64 pj) := fun w' h => ⟨kS w' h, pw_cell_below (below_step (below_drew (Below.refl _ wr)) h) f0⟩
          have hno := Aside0.mk hrec2
          clear hrec hrec2
          refine r_begin (fun w' => (CellsR w' (ad.add ((j + 1) * 6)) ri A3 c3 A5 c5 ∧ Below wr.heap.size wr w') ∧ w'.cell? (ad.add (j * 6)) = some (.int .i64 pj)) 24 (by kernel_rfl) rfl (kS2 _ (Below.refl _ _)) (fun hH => ?_)
          repeat (first | (refine r_skip (by kernel_rfl) (by rfl) (fun _ _ _ h => h) hH ?_; simp only [Act.put, List.setIfInBounds_toArray, List.set_cons_zero, List.set_cons_succ, Nat.reduceAdd]) | (refine r_go (v := ?_) (by kernel_rfl) (by rfl) (fun _ _ _ h => h) hH ?_ ?_; rotate_left; (focus (intro w hS; obtain ⟨⟨⟨e0, e1, e2, e3, e4, e5⟩, e6⟩, e7⟩ := hS; go_simp; first | done | with_reducible rfl)); simp only [Act.put, List.setIfInBounds_toArray, List.set_cons_zero, List.set_cons_succ, Nat.reduceAdd]) | (fail "x"))
          refine r_one (by kernel_rfl) (by rfl) (fun K hK => ?_)
          go_simp
          go_at_call 56
          refine (HRC.out _ hH.1.2).mono ?_
          rintro e w2 ⟨rfl, hb⟩
          go_wp2_with fail
          refine hK.out _ _ (kS2 _ hb) (fun hH => ?_)
          clear hK K
          simp only [Act.put, List.setIfInBounds_toArray, List.set_cons_zero, List.set_cons_succ, Nat.reduceAdd]
          repeat (first | (refine r_skip (by kernel_rfl) (by rfl) (fun _ _ _ h => h) hH ?_; simp only [Act.put, List.setIfInBounds_toArray, List.set_cons_zero, List.set_cons_succ, Nat.reduceAdd]) | (refine r_go (v := ?_) (by kernel_rfl) (by rfl) (fun _ _ _ h => h) hH ?_ ?_; rotate_left; (focus (intro w hS; obtain ⟨⟨⟨e0, e1, e2, e3, e4, e5⟩, e6⟩, e7⟩ := hS; go_simp; first | done | with_reducible rfl)); simp only [Act.put, List.setIfInBounds_toArray, List.set_cons_zero, List.set_cons_succ, Nat.reduceAdd]) | (fail "x"))
          refine r_done (by kernel_rfl) ?_
          have hBw := below_step hB1 hH.1.2
          by_cases hlt2 : pj < ri.f0
          · have hst : ∀ j', j' < j + 1 + 1 → recStep l j' = true := by
              intro j' hj
              by_cases h' : j' < j + 1
              · exact hall j' h'
              · obtain rfl : j' = j + 1 := by omega
                rw [hno.out, hok, decide_eq_true hlt2, Bool.or_true]; rfl
            have hng : ¬ ri.f0 ≤ pj := by omega
            go_wp2
            go_roundw
            case rel => first | exact ⟨j + 1 + 1, by simp, hlt, hst, hBw⟩ | ((repeat apply Exists.intro); refine ⟨⟨j + 1 + 1, ?_, hlt, hst, hBw⟩, by first | rfl | (repeat' apply And.intro) <;> rfl⟩; simp)
            case measure => simp [intOf]; omega
          · have hn2 := Aside0.mk (incs_no hlt (hno.out.trans (by rw [hok, decide_eq_false hlt2, decide_eq_false (show ¬ j + 1 = 0 by omega)]; rfl)))
            have hng : ri.f0 ≤ pj := by omega
            go_wp2
            go_ret
            exact ⟨by rw [hn2.out]; rfl, hBw⟩
    · obtain rfl : i = l.length := by omega
      go_wp2_with (go_at_call 44; refine (in_q _ _ _ _).mono ?_; rintro e w' ⟨rfl, ⟨n, rfl⟩⟩)
      go_ret
      exact ⟨by rw [incs_of hall]; rfl, pw_below_drewN hB1 _⟩
def batTail (b : S28) : Bool := if b.f2 = 255 then decide (b.f3 = 0) && (decide (b.f4 = 0) && !b.f1) else (!b.f1 || decide ((b.f5.length : Int) = 1))
theorem batOk_spec (b : S28) : batOk b = ((recsInc b.f5 && lenOk b.f5) && ((decide (0 ≤ b.f2) && decide (b.f2 ≤ 255)) && ((decide (0 ≤ b.f3) && decide (b.f3 ≤ 99)) && ((decide (0 ≤ b.f4) && decide (b.f4 ≤ 9999)) && batTail b)))) := by
  unfold batOk headOk batTail
  by_cases h : b.f2 = 255
  · rw [if_pos h, if_pos h, h]
    cases recsInc b.f5
    · simp
    · rw [Bool.eq_iff_iff]
      simp only [lenOk, Bool.and_eq_true, Bool.or_eq_true, decide_eq_true_eq, Bool.not_eq_true']
      constructor
      · rintro ⟨⟨h3, h4, h1⟩, hl, hm, _⟩
        exact ⟨⟨trivial, hl⟩, ⟨by omega, by omega⟩, ⟨by omega, by omega⟩, ⟨by omega, by omega⟩, h3, h4, h1⟩
      · rintro ⟨⟨_, hl⟩, _, _, _, h3, h4, h1⟩
        exact ⟨⟨h3, h4, h1⟩, hl, .inl h1, trivial⟩
  · rw [if_neg h, if_neg h]
    rw [Bool.eq_iff_iff]
    simp only [Bool.and_eq_true, decide_eq_true_eq]
    constructor
    · rintro ⟨⟨h2, h3, h4⟩, hl, hm, hr⟩
      exact ⟨⟨hr, hl⟩, ⟨by omega, by omega⟩, h3, h4, hm⟩
    · rintro ⟨⟨hr, hl⟩, h2, h3, h4, hm⟩
      exact ⟨⟨⟨by omega, by omega⟩, h3, h4⟩, hl, hm, hr⟩
theorem sb_no {b2 b3 b4 : Int} {x : Bool} (h : ¬(0 ≤ b2 ∧ b2 ≤ 255) ∨ ¬(0 ≤ b3 ∧ b3 ≤ 99) ∨ ((!decide (0 ≤ b4)) = true ∨ (!decide (b4 ≤ 9999)) = true)) : Ending.returned (.bool false) = .returned (.bool (true && ((decide (0 ≤ b2) && decide (b2 ≤ 255)) && ((decide (0 ≤ b3) && decide (b3 ≤ 99)) && ((decide (0 ≤ b4) && decide (b4 ≤ 9999)) && x))))) := by
  congr 2
  grind
theorem sb_t {b2 b3 b4 : Int} {x y : Bool} (h2 : 0 ≤ b2 ∧ b2 ≤ 255) (h3 : 0 ≤ b3 ∧ b3 ≤ 99) (h4 : (!decide (0 ≤ b4)) = false ∧ (!decide (b4 ≤ 9999)) = false) (hx : x = y) : Ending.returned (.bool y) = .returned (.bool (true && ((decide (0 ≤ b2) && decide (b2 ≤ 255)) && ((decide (0 ≤ b3) && decide (b3 ≤ 99)) && ((decide (0 ≤ b4) && decide (b4 ≤ 9999)) && x))))) := by
  subst hx
  congr 2
  grind
section
variable {b0 b1 : Bool} {b2 b3 b4 : Int} {l : List S62}
theorem tl1 (h : (b2 == 255) = true) (h3 : b3 = 0) (h4 : b4 = 0) : batTail ⟨b0, b1, b2, b3, b4, l⟩ = !b1 := by unfold batTail; grind
theorem tl2 (h : (b2 == 255) = true) (h3 : b3 = 0) (h4 : ¬ b4 = 0) : batTail ⟨b0, b1, b2, b3, b4, l⟩ = false := by unfold batTail; grind
theorem tl3 (h : (b2 == 255) = true) (h3 : ¬ b3 = 0) : batTail ⟨b0, b1, b2, b3, b4, l⟩ = false := by unfold batTail; grind
theorem tl4 (h : (b2 == 255) = false) (h1 : b1 = true) : batTail ⟨b0, b1, b2, b3, b4, l⟩ = ((l.length : Int) == 1) := by unfold batTail; grind
theorem tl5 (h : (b2 == 255) = false) (h1 : ¬ b1 = true) : batTail ⟨b0, b1, b2, b3, b4, l⟩ = true := by unfold batTail; grind
end
set_option maxRecDepth 100000 in
set_option maxHeartbeats 4000000 in
theorem specbat_q (b : S28) (A : Option Addr) (c : Nat) (w : World) (hr : Kd.C k62 w A b.f5.length b.f5) (hc : b.f5.length ≤ c) :
    Calls Tryd.prog 26 #[.agg #[.bool b.f0, .bool b.f1, .int .i64 b.f2, .int .i64 b.f3, .int .i64 b.f4, .slice A b.f5.length c]] w fun e w' => e = .returned (.bool (batOk b)) ∧ Below w.heap.size w w' := by
  rw [batOk_spec]
  obtain ⟨b0, b1, b2, b3, b4, l⟩ := b
  simp only at hr hc ⊢
  have hl := hr.2.1
  have HL := Aside0.mk (fun (W2 : World) (hb : Below w.heap.size w W2) => specrecs_q l A c W2 (Kd.C_below hr hb) hc)
  clear hr
  rcases hok : (recsInc l && lenOk l) with _ | _ <;> rw [hok] at HL
  · go_enter Tryd.func26, Tryd.ntmps26
    go_wp2_with (go_at_call 43; refine (HL.out _ (below_alloc (Below.refl _ _) _)).mono ?_; rintro e w1 ⟨rfl, hb⟩)
    go_ret
    exact ⟨rfl, below_step (below_alloc (Below.refl _ _) _) hb⟩
  · go_enter Tryd.func26, Tryd.ntmps26
    go_wp2_with (first | (go_at_call 44; refine (in_q _ _ _ _).mono ?_; rintro e w' ⟨rfl, ⟨n, rfl⟩⟩) | (go_at_call 43; refine (HL.out _ (below_alloc (Below.refl _ _) _)).mono ?_; rintro e w1 ⟨rfl, hb⟩; have hB := below_step (below_alloc (Below.refl _ _) _) hb; have hw := blk_below (heap_alloc_new w _) hb; have q1 := blk_cell hw 1; have q2 := blk_cell hw 2; have q3 := blk_cell hw 3; have q4 := blk_cell hw 4; have q5 := blk_cell hw 5; clear hb hw))
    all_goals (go_ret; exact ⟨by first | exact sb_no (.inl ‹_›) | exact sb_no (.inr (.inl ‹_›)) | exact sb_no (.inr (.inr ‹_›)) | exact sb_t ‹_› ‹_› ‹_› (tl1 ‹_› ‹_› ‹_›) | exact sb_t ‹_› ‹_› ‹_› (tl2 ‹_› ‹_› ‹_›) | exact sb_t ‹_› ‹_› ‹_› (tl3 ‹_› ‹_›) | exact sb_t ‹_› ‹_› ‹_› (tl4 ‹_› ‹_›) | exact sb_t ‹_› ‹_› ‹_› (tl5 ‹_› ‹_›), pw_below_drewN hB _⟩)
def spec_BatchValid.f (k : Nat) (a0 : Bool) (a1 : Bool) (a2 a3 a4 : Int) (a5 : List S62) : Option Bool := some (batOk ⟨a0, a1, a2, a3, a4, a5⟩)
theorem spec_BatchValid.calls (k : Nat) (a0_0 : Bool) (a0_1 : Bool) (a0_2 : Int) (a0_3 : Int) (a0_4 : Int) (A0_5 : Option Addr) (c0_5 : Nat) (l0_5 : List (S62)) (r : Bool) (w : World) (hr0_5 : Kd.C k62 w A0_5 l0_5.length l0_5) (hc0_5 : l0_5.length ≤ c0_5) (h : spec_BatchValid.f k a0_0 a0_1 a0_2 a0_3 a0_4 l0_5 = some r) :
    Calls Tryd.prog 26 #[.agg #[.bool a0_0, .bool a0_1, .int .i64 a0_2, .int .i64 a0_3, .int .i64 a0_4, .slice A0_5 l0_5.length c0_5]] w fun e w' => e = .returned (.bool r) ∧ Below w.heap.size w w' := by
  obtain rfl := Option.some.inj h
  exact specbat_q ⟨a0_0, a0_1, a0_2, a0_3, a0_4, l0_5⟩ A0_5 c0_5 w hr0_5 hc0_5
end Go.Proofs.YtfjkpdhldeopaaaDoor.G

namespace Go.Proofs.YtfjkpdhldeopaaaDoor.G
open Go.RowKit Go.Proofs.YtfjkpdhldeopaaaDoorW.PrintWords Go.Proofs.YtfjkpdhldeopaaaDoorW.PrintLast Go.Proofs.YtfjkpdhldeopaaaDoorW.PrintMore
attribute [local go_sem] max2_int min2_int max_two min_two max_three min_three max_four min_four   -- for this text's walks alone
set_option linter.unusedVariables false
set_option linter.unusedSimpArgs false

def spec_BatchJoin.j0 : Nat → Bool → Bool → Bool → Int → Int → Int → List (S62) → Bool → Bool → Int → Int → Int → List (S62) → Option (Bool × Bool × Int × Int × Int × (List (S62)) × Bool)
 | 0, _, _, _, _, _, _, _, _, _, _, _, _, _ => none
 | k + 1, x31, x151000, x151001, x151002, x151003, x151004, x151005, x152000, x152001, x152002, x152003, x152004, x152005 => if x31 = true then (some (false, false, 0, 0, 0, ([] : List (S62)), false)) else ((some (([] : List (S62)) : List (S62))).bind fun y155 => (if y155.length + x151005.length < 1759218604441 then ((some (y155 ++ x151005 : List (S62))).bind fun y158 => (if y158.length + x152005.length < 1759218604441 then ((spec_l31Free.f k x151000 (y158 ++ x152005)).bind fun bt164 => ((spec_BatchValid.f k bt164.1 bt164.2.1 bt164.2.2.1 bt164.2.2.2.1 bt164.2.2.2.2.1 bt164.2.2.2.2.2).bind fun t173 => (if t173 = true then (some (bt164.1, bt164.2.1, bt164.2.2.1, bt164.2.2.2.1, bt164.2.2.2.2.1, bt164.2.2.2.2.2, true)) else (some (false, false, 0, 0, 0, ([] : List (S62)), false))))) else (none))) else (none)))
def spec_BatchJoin.f (k : Nat) (a0_0 : Bool) (a0_1 : Bool) (a0_2 : Int) (a0_3 : Int) (a0_4 : Int) (l0_5 : List (S62)) (a1_0 : Bool) (a1_1 : Bool) (a1_2 : Int) (a1_3 : Int) (a1_4 : Int) (l1_5 : List (S62)) : Option (Bool × Bool × Int × Int × Int × (List (S62)) × Bool) := (spec_BatchValid.f k a0_0 a0_1 a0_2 a0_3 a0_4 l0_5).bind fun t153 => (if t153 = true then ((spec_BatchValid.f k a1_0 a1_1 a1_2 a1_3 a1_4 l1_5).bind fun t154 => (if t154 = true then (if a0_2 = 255 then (if a1_2 = 255 then (spec_BatchJoin.j0 k (a0_0 != a1_0) a0_0 a0_1 a0_2 a0_3 a0_4 l0_5 a1_0 a1_1 a1_2 a1_3 a1_4 l1_5) else (spec_BatchJoin.j0 k true a0_0 a0_1 a0_2 a0_3 a0_4 l0_5 a1_0 a1_1 a1_2 a1_3 a1_4 l1_5)) else (spec_BatchJoin.j0 k true a0_0 a0_1 a0_2 a0_3 a0_4 l0_5 a1_0 a1_1 a1_2 a1_3 a1_4 l1_5)) else (spec_BatchJoin.j0 k true a0_0 a0_1 a0_2 a0_3 a0_4 l0_5 a1_0 a1_1 a1_2 a1_3 a1_4 l1_5))) else (spec_BatchJoin.j0 k true a0_0 a0_1 a0_2 a0_3 a0_4 l0_5 a1_0 a1_1 a1_2 a1_3 a1_4 l1_5))
end Go.Proofs.YtfjkpdhldeopaaaDoor.G

namespace Go.Proofs.YtfjkpdhldeopaaaDoor.G
open Go.RowKit Go.Proofs.YtfjkpdhldeopaaaDoorW.PrintWords Go.Proofs.YtfjkpdhldeopaaaDoorW.PrintLast Go.Proofs.YtfjkpdhldeopaaaDoorW.PrintMore
set_option linter.unusedVariables false
set_option linter.unusedSimpArgs false
theorem joinSp_split {k : Nat} {a0 a1 : Bool} {a2 a3 a4 : Int} {l : List S62} {b0 b1 : Bool} {b2 b3 b4 : Int} {m : List S62} {r : Bool × Bool × Int × Int × Int × List S62 × Bool} (h : spec_BatchJoin.f k a0 a1 a2 a3 a4 l b0 b1 b2 b3 b4 m = some r) :
    spec_BatchValid.f k a0 a1 a2 a3 a4 l = some false ∧ spec_BatchJoin.j0 k true a0 a1 a2 a3 a4 l b0 b1 b2 b3 b4 m = some r ∨
    spec_BatchValid.f k a0 a1 a2 a3 a4 l = some true ∧ (spec_BatchValid.f k b0 b1 b2 b3 b4 m = some false ∧ spec_BatchJoin.j0 k true a0 a1 a2 a3 a4 l b0 b1 b2 b3 b4 m = some r ∨
      spec_BatchValid.f k b0 b1 b2 b3 b4 m = some true ∧ ((a2 != 255) = true ∧ spec_BatchJoin.j0 k true a0 a1 a2 a3 a4 l b0 b1 b2 b3 b4 m = some r ∨
        (a2 != 255) = false ∧ ((b2 != 255) = true ∧ spec_BatchJoin.j0 k true a0 a1 a2 a3 a4 l b0 b1 b2 b3 b4 m = some r ∨
          (b2 != 255) = false ∧ spec_BatchJoin.j0 k (a0 != b0) a0 a1 a2 a3 a4 l b0 b1 b2 b3 b4 m = some r))) := by
  unfold spec_BatchJoin.f at h
  obtain ⟨u, hu, h⟩ := Option.bind_eq_some_iff.mp h
  cases u
  · exact .inl ⟨hu, by simpa using h⟩
  simp only [if_true] at h
  obtain ⟨v, hv, h⟩ := Option.bind_eq_some_iff.mp h
  refine .inr ⟨hu, ?_⟩
  cases v
  · exact .inl ⟨hv, by simpa using h⟩
  simp only [if_true] at h
  refine .inr ⟨hv, ?_⟩
  by_cases h2 : a2 = 255
  · rw [if_pos h2] at h
    refine .inr ⟨bne_eq_false_iff_eq.2 h2, ?_⟩
    by_cases h3 : b2 = 255
    · rw [if_pos h3] at h
      exact .inr ⟨bne_eq_false_iff_eq.2 h3, h⟩
    · rw [if_neg h3] at h
      exact .inl ⟨bne_iff_ne.2 h3, h⟩
  · rw [if_neg h2] at h
    exact .inl ⟨bne_iff_ne.2 h2, h⟩
set_option maxHeartbeats 4000000 in
set_option maxRecDepth 100000 in
theorem spec_BatchJoin.callsS (k : Nat) (a0 a1 : Bool) (a2 a3 a4 : Int) (A : Option Addr) (c : Nat) (l : List S62) (b0 b1 : Bool) (b2 b3 b4 : Int) (B : Option Addr) (d : Nat) (m : List S62) (r1 r2 : Bool) (r3 r4 r5 : Int) (r6 : List S62) (r7 : Bool) (w : World)
    (hr0 : Kd.C k62 w A l.length l) (hc0 : l.length ≤ c) (hr1 : Kd.C k62 w B m.length m) (hc1 : m.length ≤ d) (h : spec_BatchJoin.f k a0 a1 a2 a3 a4 l b0 b1 b2 b3 b4 m = some (r1, r2, r3, r4, r5, r6, r7)) :
    Calls Tryd.prog 8 #[BatV a0 a1 a2 a3 a4 (.slice A l.length c), BatV b0 b1 b2 b3 b4 (.slice B m.length d)] w fun e w' => ∃ v : Value, e = .returned (.tuple #[BatV r1 r2 r3 r4 r5 v, .bool r7]) ∧ Kd.S k62 62 w' w.heap.size (fun _ => True) v r6 ∧ Below w.heap.size w w' := by
  have HR0 := Aside0.mk hr0
  have HR1 := Aside0.mk hr1
  have HC := Aside0.mk (And.intro hc0 hc1)
  have HS := Aside0.mk (St.nil w)
  have hu := Tryd.underlying28
  clear hr0 hr1 hc0 hc1
  have HH := Aside0.mk h
  clear h
  go_enter Tryd.func8, Tryd.ntmps8
  go_upto_region 1 with (first
    | ((with_reducible refine gate_dst (N := 2) rfl ?_); refine w_box HS rfl rfl (by go_simp; try rfl) ?_; intro g2 W h_; clear HS; have HS := h_; clear h_)
    | ((with_reducible refine gate_dst (N := 3) rfl ?_); refine w_box HS rfl rfl (by go_simp; try rfl) ?_; intro g3 W h_; clear HS; have HS := h_; clear h_)
    | ((with_reducible refine gate_dst (N := 4) rfl ?_); refine w_box HS rfl rfl (by go_simp; try rfl) ?_; intro g4 W h_; clear HS; have HS := h_; clear h_))
  go_cut [31] (fun v31 wc => ∃ x : Bool, v31 = .bool x ∧ Aside0 (spec_BatchJoin.j0 k x a0 a1 a2 a3 a4 l b0 b1 b2 b3 b4 m = some (r1, r2, r3, r4, r5, r6, r7)) ∧ Aside0 (St w wc [batE g4 false false 0 0 0 (.slice none 0 0), batE g3 b0 b1 b2 b3 b4 (.slice B m.length d), batE g2 a0 a1 a2 a3 a4 (.slice A l.length c)]))
  case first =>
    rcases joinSp_split HH.out with ⟨hu0, hj⟩ | ⟨hu0, ⟨hv0, hj⟩ | ⟨hv0, ⟨h2, hj⟩ | ⟨h2, ⟨h3, hj⟩ | ⟨h3, hj⟩⟩⟩⟩
    all_goals
      obtain ⟨f0, f1⟩ := HS.out.cells 2 rfl
      clear HH
      have HJ := Aside0.mk hj
      have HU := Aside0.mk hu0
      try have HV := Aside0.mk hv0
      try clear hv0
      clear hj hu0
      go_wp2_with (first
        | (go_at_call 26; with_reducible refine (spec_BatchValid.calls k a0 a1 a2 a3 a4 _ _ l _ _ (Kd.C_below HR0.out HS.out.below) HC.out.1 HU.out).mono ?_; rintro e W ⟨rfl, hb⟩; replace HS := Aside0.mk (HS.out.call hb); clear hb f0 f1; obtain ⟨f0, f1⟩ := HS.out.cells 2 rfl; obtain ⟨p0, p1⟩ := HS.out.cells 1 rfl)
        | (go_at_call 26; with_reducible refine (spec_BatchValid.calls k b0 b1 b2 b3 b4 _ _ m _ _ (Kd.C_below HR1.out HS.out.below) HC.out.2 HV.out).mono ?_; rintro e W ⟨rfl, hb⟩; replace HS := Aside0.mk (HS.out.call hb); clear hb f0 f1 p0 p1; obtain ⟨f0, f1⟩ := HS.out.cells 2 rfl; obtain ⟨p0, p1⟩ := HS.out.cells 1 rfl))
      go_meet
      case rel => exact ⟨_, rfl, HJ, HS⟩
  case rest =>
    clear HH
    obtain ⟨x, rfl, HJ, HS⟩ := hcut
    obtain ⟨n, rfl⟩ : ∃ n, k = n + 1 := by
      cases k with
      | zero => exact absurd HJ.out (by simp [spec_BatchJoin.j0])
      | succ n => exact ⟨n, rfl⟩
    cases x
    · have hj := HJ.out
      simp only [spec_BatchJoin.j0, Bool.false_eq_true, if_false] at hj
      have hj := (Option.bind_some _ _).symm.trans hj
      have hl1 : l.length < 1759218604441 := by
        by_cases hlen : (([] : List S62)).length + l.length < 1759218604441
        · simpa using hlen
        · rw [if_neg hlen] at hj; cases hj
      rw [if_pos (by simpa using hl1)] at hj
      have hj := (Option.bind_some _ _).symm.trans hj
      rw [List.nil_append] at hj
      by_cases hlen : l.length + m.length < 1759218604441
      case neg => rw [if_neg hlen] at hj; cases hj
      rw [if_pos hlen] at hj
      obtain ⟨ls, hls⟩ : ∃ ls, ls = l ++ m := ⟨_, rfl⟩
      rw [← hls] at hj
      obtain ⟨⟨t0, t1, t2, t3, t4, ys⟩, hf, hj⟩ := Option.bind_eq_some_iff.mp hj
      obtain ⟨vb, hvb, hj⟩ := Option.bind_eq_some_iff.mp hj
      have HLS := Aside0.mk hls
      have HA := Aside0.mk (And.intro hf hvb)
      have HL := Aside0.mk (And.intro hl1 hlen)
      have HK := Aside0.mk hj
      clear HJ hf hvb hlen hj hl1 hls
      go_upto_region 3 with (fail)
      go_cut [6] (fun v6 wc => ∃ (g6 : Nat) (Y : Option Addr) (y : Nat) (P6 : Nat → Prop), v6 = .pointer (some ⟨g6, 0, none⟩) ∧ Aside0 (St w wc [batE g6 t0 t1 t2 t3 t4 (.slice Y ys.length y), rowS k62 62 w.heap.size (.slice Y ys.length y) ys P6, batE g4 false false 0 0 0 (.slice none 0 0)]))
      case first =>
        go_region_held3 (fun w' => (∀ j, w'.cell? ⟨g2, j, none⟩ = #[.bool a0, .bool a1, .int .i64 a2, .int .i64 a3, .int .i64 a4, .slice A l.length c][j]?) ∧ (∀ j, w'.cell? ⟨g3, j, none⟩ = #[.bool b0, .bool b1, .int .i64 b2, .int .i64 b3, .int .i64 b4, .slice B m.length d][j]?)) (first | (apply St.two (w := w) (i := 2) (j := 1) (c1 := #[.bool a0, .bool a1, .int .i64 a2, .int .i64 a3, .int .i64 a4, .slice A l.length c]) (c2 := #[.bool b0, .bool b1, .int .i64 b2, .int .i64 b3, .int .i64 b4, .slice B m.length d]) (t1 := 28) (t2 := 28); (focus ((repeat (first | (with_reducible apply St.drew) | (with_reducible apply St.al))); with_reducible exact HS.out)); (focus (exact rfl)); exact rfl) | (apply St.two (w := w) (i := 3) (j := 2) (c1 := #[.bool a0, .bool a1, .int .i64 a2, .int .i64 a3, .int .i64 a4, .slice A l.length c]) (c2 := #[.bool b0, .bool b1, .int .i64 b2, .int .i64 b3, .int .i64 b4, .slice B m.length d]) (t1 := 28) (t2 := 28); (focus ((repeat (first | (with_reducible apply St.drew) | (with_reducible apply St.al))); with_reducible exact HS.out)); (focus (exact rfl)); exact rfl) | (apply St.two (w := w) (i := 4) (j := 3) (c1 := #[.bool a0, .bool a1, .int .i64 a2, .int .i64 a3, .int .i64 a4, .slice A l.length c]) (c2 := #[.bool b0, .bool b1, .int .i64 b2, .int .i64 b3, .int .i64 b4, .slice B m.length d]) (t1 := 28) (t2 := 28); (focus ((repeat (first | (with_reducible apply St.drew) | (with_reducible apply St.al))); with_reducible exact HS.out)); (focus (exact rfl)); exact rfl) | (apply St.two (w := w) (i := 5) (j := 4) (c1 := #[.bool a0, .bool a1, .int .i64 a2, .int .i64 a3, .int .i64 a4, .slice A l.length c]) (c2 := #[.bool b0, .bool b1, .int .i64 b2, .int .i64 b3, .int .i64 b4, .slice B m.length d]) (t1 := 28) (t2 := 28); (focus ((repeat (first | (with_reducible apply St.drew) | (with_reducible apply St.al))); with_reducible exact HS.out)); (focus (exact rfl)); exact rfl) | (apply St.two (w := w) (i := 6) (j := 5) (c1 := #[.bool a0, .bool a1, .int .i64 a2, .int .i64 a3, .int .i64 a4, .slice A l.length c]) (c2 := #[.bool b0, .bool b1, .int .i64 b2, .int .i64 b3, .int .i64 b4, .slice B m.length d]) (t1 := 28) (t2 := 28); (focus ((repeat (first | (with_reducible apply St.drew) | (with_reducible apply St.al))); with_reducible exact HS.out)); (focus (exact rfl)); exact rfl) | (have h_ := (HS.out.set6 1 rfl (.bool t0) (.bool t1) (.int .i64 t2) (.int .i64 t3) (.int .i64 t4) (.slice Y ys.length y)).two (i := 5) (j := 4) rfl rfl; with_reducible exact h_) | (have h_ := (HS.out.set6 2 rfl (.bool t0) (.bool t1) (.int .i64 t2) (.int .i64 t3) (.int .i64 t4) (.slice Y ys.length y)).two (i := 5) (j := 4) rfl rfl; with_reducible exact h_) | fail) (first | (apply step_st (w := w); (focus ((repeat (first | (with_reducible apply St.drew) | (with_reducible apply St.alN (e := 62) k62) | (with_reducible apply St.al))); with_reducible exact HS.out)); intro HS2; clear HS; have HS := HS2; clear HS2; (try simp only [alloc_size] at HS); refine N_in (d := k62) (e := 62) k62_heap HS.out rfl (.tmp 35) (.tmp 37) 26 (.agg #[.int .i64 0, .int .i64 0, .bool false, .slice none 0 0, .bool false, .slice none 0 0]) 80 rfl Tryd.underlying26 (by kernel_rfl) rfl (by decide) (by omega) rfl rfl HR0.out (by have := HL.out; (try simp only [List.length_nil]); omega) ?_; intro v1 W1 P1 HS2; rw [List.nil_append] at HS2; clear HS; obtain ⟨V1, q1, rfl, _⟩ := Kd.N_reads (HS2.getN 0 rfl); have HS := Aside0.mk HS2; clear HS2) | (apply step_st (w := w); (focus ((repeat (first | (with_reducible apply St.drew) | (with_reducible apply St.alN (e := 62) k62) | (with_reducible apply St.al))); with_reducible exact HS.out)); intro HS2; clear HS; have HS := HS2; clear HS2; (try simp only [alloc_size] at HS); refine N_in (d := k62) (e := 62) k62_heap (HS.out.front 1 rfl) rfl (.tmp 35) (.tmp 37) 26 (.agg #[.int .i64 0, .int .i64 0, .bool false, .slice none 0 0, .bool false, .slice none 0 0]) 80 rfl Tryd.underlying26 (by kernel_rfl) rfl (by decide) (by omega) rfl rfl HR0.out (by have := HL.out; (try simp only [List.length_nil]); omega) ?_; intro v1 W1 P1 HS2; rw [List.nil_append] at HS2; clear HS; obtain ⟨V1, q1, rfl, _⟩ := Kd.N_reads (HS2.getN 0 rfl); have HS := Aside0.mk HS2; clear HS2) | (apply step_st (w := w); (focus ((repeat (first | (with_reducible apply St.drew) | (with_reducible apply St.alN (e := 62) k62) | (with_reducible apply St.al))); with_reducible exact HS.out)); intro HS2; clear HS; have HS := HS2; clear HS2; (try simp only [alloc_size] at HS); refine N_in (d := k62) (e := 62) k62_heap HS.out rfl (.tmp 38) (.tmp 40) 26 (.agg #[.int .i64 0, .int .i64 0, .bool false, .slice none 0 0, .bool false, .slice none 0 0]) 80 rfl Tryd.underlying26 (by kernel_rfl) rfl (by decide) (by omega) rfl rfl HR1.out (by have := HL.out; (try simp only [List.length_nil]); omega) ?_; intro v1 W1 P1 HS2; rw [← HLS.out] at HS2; clear HS; obtain ⟨V1, q1, rfl, _⟩ := Kd.N_reads (HS2.getN 0 rfl); have HS := Aside0.mk HS2; clear HS2) | (apply step_st (w := w); (focus ((repeat (first | (with_reducible apply St.drew) | (with_reducible apply St.alN (e := 62) k62) | (with_reducible apply St.al))); with_reducible exact HS.out)); intro HS2; clear HS; have HS := HS2; clear HS2; (try simp only [alloc_size] at HS); refine N_in (d := k62) (e := 62) k62_heap (HS.out.front 1 rfl) rfl (.tmp 38) (.tmp 40) 26 (.agg #[.int .i64 0, .int .i64 0, .bool false, .slice none 0 0, .bool false, .slice none 0 0]) 80 rfl Tryd.underlying26 (by kernel_rfl) rfl (by decide) (by omega) rfl rfl HR1.out (by have := HL.out; (try simp only [List.length_nil]); omega) ?_; intro v1 W1 P1 HS2; rw [← HLS.out] at HS2; clear HS; obtain ⟨V1, q1, rfl, _⟩ := Kd.N_reads (HS2.getN 0 rfl); have HS := Aside0.mk HS2; clear HS2) | (go_at_call 27; apply calls_st (w := w); (focus ((repeat (first | (with_reducible apply St.drew) | (with_reducible apply St.alN (e := 62) k62) | (with_reducible apply St.al))); with_reducible exact HS.out)); intro HS2; clear HS; have HS := HS2; clear HS2; with_reducible refine (spec_l31Free.calls n _ _ _ ls t0 t1 t2 t3 t4 ys _ ?c1 ?c2 HA.out.1).mono ?_; (case c1 => (have h_ := HS.out.getNC 0 rfl; with_reducible exact h_)); (case c2 => (have h_ := HS.out.getNL 0 rfl; with_reducible exact h_)); rintro e W2 ⟨v, rfl, hs, hb⟩; obtain ⟨Y, y, rfl⟩ := Kd.S_slice hs; replace HS := Aside0.mk (HS.out.pushS hs hb); clear hs hb; (first | (obtain ⟨q0, q1⟩ := HS.out.cells (cs := #[.bool false, .bool false, .int .i64 0, .int .i64 0, .int .i64 0, .slice none 0 0]) (t := 28) 1 rfl) | (obtain ⟨q0, q1⟩ := HS.out.cells (cs := #[.bool false, .bool false, .int .i64 0, .int .i64 0, .int .i64 0, .slice none 0 0]) (t := 28) 2 rfl) | skip)) | fail | (go_at_call 27; apply calls_st (w := w); (focus ((repeat (first | (with_reducible apply St.drew) | (with_reducible apply St.alN (e := 62) k62) | (with_reducible apply St.al))); with_reducible exact HS.out)); intro HS2; clear HS; have HS := HS2; clear HS2; with_reducible refine (spec_l31Free.calls n _ _ _ ls t0 t1 t2 t3 t4 ys _ ?c1 ?c2 HA.out.1).mono ?_; (case c1 => (have h_ := HS.out.getNC 1 rfl; with_reducible exact h_)); (case c2 => (have h_ := HS.out.getNL 1 rfl; with_reducible exact h_)); rintro e W2 ⟨v, rfl, hs, hb⟩; obtain ⟨Y, y, rfl⟩ := Kd.S_slice hs; replace HS := Aside0.mk (HS.out.pushS hs hb); clear hs hb; (first | (obtain ⟨q0, q1⟩ := HS.out.cells (cs := #[.bool false, .bool false, .int .i64 0, .int .i64 0, .int .i64 0, .slice none 0 0]) (t := 28) 1 rfl) | (obtain ⟨q0, q1⟩ := HS.out.cells (cs := #[.bool false, .bool false, .int .i64 0, .int .i64 0, .int .i64 0, .slice none 0 0]) (t := 28) 2 rfl) | skip)))
        all_goals
          go_step
          go_step
          go_meet
          case rel => first | (have h_ := (((HS.out.al (cs := #[.bool t0, .bool t1, .int .i64 t2, .int .i64 t3, .int .i64 t4, .slice Y ys.length y]) (t := 28)).del 2).del 3).del 3; simp only [List.eraseIdx_cons_zero, List.eraseIdx_cons_succ, List.set_cons_zero, List.set_cons_succ] at h_; with_reducible exact ⟨_, _, _, _, rfl, ⟨h_⟩⟩) | (have h_ := ((((HS.out.set6 1 rfl (.bool t0) (.bool t1) (.int .i64 t2) (.int .i64 t3) (.int .i64 t4) (.slice Y ys.length y)).front 1 rfl).del 2).del 3).del 3; simp only [List.eraseIdx_cons_zero, List.eraseIdx_cons_succ, List.set_cons_zero, List.set_cons_succ] at h_; with_reducible exact ⟨_, _, _, _, rfl, ⟨h_⟩⟩) | (have h_ := ((((HS.out.set6 2 rfl (.bool t0) (.bool t1) (.int .i64 t2) (.int .i64 t3) (.int .i64 t4) (.slice Y ys.length y)).front 2 rfl).del 2).del 3).del 3; simp only [List.eraseIdx_cons_zero, List.eraseIdx_cons_succ, List.set_cons_zero, List.set_cons_succ] at h_; with_reducible exact ⟨_, _, _, _, rfl, ⟨h_⟩⟩)
      case rest =>
        obtain ⟨g6, Y, y, P6, rfl, HS⟩ := hcut
        obtain ⟨f0, f1⟩ := HS.out.cells 0 rfl
        cases vb
        · cases HK.out
          go_wp2_with (first
            | (go_at_call 26; with_reducible refine (spec_BatchValid.calls n t0 t1 t2 t3 t4 _ _ ys false _ (HS.out.getC 1 rfl) (HS.out.getL 1 rfl) HA.out.2).mono ?_; rintro e W ⟨rfl, hb⟩; replace HS := Aside0.mk (HS.out.call hb); clear hb f0 f1; obtain ⟨f0, f1⟩ := HS.out.cells 0 rfl; obtain ⟨p0, p1⟩ := HS.out.cells 2 rfl)
            | ((with_reducible refine gate_store (t := 28) (p := 4) rfl ?_); refine w_put rfl rfl (by go_simp; try rfl) (HS.out.set6 2 rfl _ _ _ _ _ _) ?_; intro W h_; clear HS f0 f1 p0 p1; have HS := h_; clear h_))
          refine bodyPost_ret (results_ct rfl _ _ g4 28 #[.bool false, .bool false, .int .i64 0, .int .i64 0, .int .i64 0, .slice none 0 0] (0, 0) _ rfl (HS.out.getB 2 rfl) Tryd.underlying28 rfl (by kernel_rfl)) rfl ?_
          exact ⟨_, by rfl, Kd.S_nil _ _ _ _ _, HS.out.below⟩
        · go_wp2_with (first
            | (go_at_call 26; with_reducible refine (spec_BatchValid.calls n t0 t1 t2 t3 t4 _ _ ys true _ (HS.out.getC 1 rfl) (HS.out.getL 1 rfl) HA.out.2).mono ?_; rintro e W ⟨rfl, hb⟩; replace HS := Aside0.mk (HS.out.call hb); clear hb f0 f1; obtain ⟨f0, f1⟩ := HS.out.cells 0 rfl; obtain ⟨p0, p1⟩ := HS.out.cells 2 rfl)
            | ((with_reducible refine gate_store (t := 28) (p := 4) rfl ?_); refine w_put rfl rfl (by go_simp; try rfl) (HS.out.set6 2 rfl _ _ _ _ _ _) ?_; intro W h_; clear HS f0 f1 p0 p1; have HS := h_; clear h_))
          cases HK.out
          refine bodyPost_ret (results_ct rfl _ _ g4 28 #[.bool r1, .bool r2, .int .i64 r3, .int .i64 r4, .int .i64 r5, .slice Y r6.length y] (0, 0) _ rfl (HS.out.getB 2 rfl) Tryd.underlying28 rfl (by kernel_rfl)) rfl ?_
          exact ⟨_, by rfl, Kd.S_mono (HS.out.getS 1 rfl) (fun _ _ => trivial), HS.out.below⟩
    · have hj := HJ.out
      simp only [spec_BatchJoin.j0, if_true] at hj
      cases hj
      obtain ⟨f0, f1⟩ := HS.out.cells 0 rfl
      go_wp2_with (first
          | ((with_reducible refine gate_store (t := 28) (p := 4) rfl ?_); refine w_put rfl rfl (by go_simp; try rfl) (HS.out.set6 0 rfl _ _ _ _ _ _) ?_; intro W h_; clear HS f0 f1; have HS := h_; clear h_))
      refine bodyPost_ret (results_ct rfl _ _ g4 28 #[.bool false, .bool false, .int .i64 0, .int .i64 0, .int .i64 0, .slice none 0 0] (0, 0) _ rfl (HS.out.getB 0 rfl) Tryd.underlying28 rfl (by kernel_rfl)) rfl ?_
      exact ⟨_, by rfl, Kd.S_nil _ _ _ _ _, HS.out.below⟩
end Go.Proofs.YtfjkpdhldeopaaaDoor.G

