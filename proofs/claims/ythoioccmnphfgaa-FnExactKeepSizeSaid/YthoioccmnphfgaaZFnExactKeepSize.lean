/- A text of seat Ythoioccmnphfgaa: what the law FnExactKeepSize needs of this repo's texts (by pack.py). Not trusted: Lean checks it. -/
import Derived.Test.YthoioccmnphfgaaKFnExactKeepSize9
import Derived.Deep.Slices
import Derived.SizedLaws
import Derived.Laws.BitsLemmas
import Derived.Test.YthoioccmnphfgaaRows
import Derived.WalkKit
import Derived.ProofKit
import Derived.OpenShut
import Derived.ShutString
import Derived.ChangeOld
import Derived.Below
import Derived.Lib.SmallJoins
import Derived.Laws.StructEq
import Derived.ChangeSlices
namespace Go.Proofs.Ythoioccmnphfgaa.G
open Go.RowKit Go.Proofs.YthoioccmnphfgaaW.PrintWords Go.Proofs.YthoioccmnphfgaaW.PrintLast Go.Proofs.YthoioccmnphfgaaW.PrintMore
attribute [local go_sem] max2_int min2_int max_two min_two max_three min_three max_four min_four   -- for this text's walks alone
set_option linter.unusedVariables false
set_option linter.unusedSimpArgs false

def laws_eqBatch.f (k : Nat) (a0_0 : Bool) (a0_1 : Bool) (a0_2 : Int) (a0_3 : Int) (a0_4 : Int) (l0_5 : List (S63)) (a1_0 : Bool) (a1_1 : Bool) (a1_2 : Int) (a1_3 : Int) (a1_4 : Int) (l1_5 : List (S63)) : Option (Bool) := if (a0_0 != a1_0) = true then (some false) else (if (a0_1 != a1_1) = true then (some false) else (if a0_2 = a1_2 then (if a0_3 = a1_3 then (if a0_4 = a1_4 then ((laws_eqRecordS.f k l0_5 l1_5).bind fun t746 => (if t746 = true then (some true) else (some false))) else (some false)) else (some false)) else (some false)))
set_option maxHeartbeats 8000000 in
set_option maxRecDepth 100000 in
theorem laws_eqBatch.calls (k : Nat) (a0_0 : Bool) (a0_1 : Bool) (a0_2 : Int) (a0_3 : Int) (a0_4 : Int) (A0_5 : Option Addr) (c0_5 : Nat) (l0_5 : List (S63)) (a1_0 : Bool) (a1_1 : Bool) (a1_2 : Int) (a1_3 : Int) (a1_4 : Int) (A1_5 : Option Addr) (c1_5 : Nat) (l1_5 : List (S63)) (r : Bool) (w : World) (hr0_5 : Kd.C k63 w A0_5 l0_5.length l0_5) (hc0_5 : l0_5.length ≤ c0_5) (hr1_5 : Kd.C k63 w A1_5 l1_5.length l1_5) (hc1_5 : l1_5.length ≤ c1_5) (h : laws_eqBatch.f k a0_0 a0_1 a0_2 a0_3 a0_4 l0_5 a1_0 a1_1 a1_2 a1_3 a1_4 l1_5 = some r) :
  Calls Try.prog 33 #[.agg #[.bool a0_0, .bool a0_1, .int .i64 a0_2, .int .i64 a0_3, .int .i64 a0_4, .slice A0_5 l0_5.length c0_5], .agg #[.bool a1_0, .bool a1_1, .int .i64 a1_2, .int .i64 a1_3, .int .i64 a1_4, .slice A1_5 l1_5.length c1_5]] w fun e w' => e = .returned (.bool r) ∧ Below w.heap.size w w' := by
 have hu46 := Try.underlying46
 have HR0_5 := Aside0.mk hr0_5
 have HC0_5 := Aside0.mk hc0_5
 clear hr0_5 hc0_5
 have HR1_5 := Aside0.mk hr1_5
 have HC1_5 := Aside0.mk hc1_5
 clear hr1_5 hc1_5
 have HB := Aside0.mk (Below.refl w.heap.size w)
 have H : (if (a0_0 != a1_0) = true then (some false) else (if (a0_1 != a1_1) = true then (some false) else (if a0_2 = a1_2 then (if a0_3 = a1_3 then (if a0_4 = a1_4 then ((laws_eqRecordS.f k l0_5 l1_5).bind fun t746 => (if t746 = true then (some true) else (some false))) else (some false)) else (some false)) else (some false)))) = some r := h
 clear h
 by_cases c3 : (a0_0 != a1_0) = true
 ·rw [if_pos c3] at H
  have c3b0 : (a0_0 != a1_0) = true := c3
  (try (have c3b1 : decide (a0_0 = a1_0) = false := by simpa using c3))
  (try (have c3b2 : (a0_0 == a1_0) = false := by simpa using c3))
  (try (have c3b3 : ¬ (a0_0 = a1_0) := by simpa using c3))
  clear c3
  obtain rfl := Option.some.inj H
  go_enter Try.func33, Try.ntmps33
  go_wp2_with (first | ((with_reducible refine gate_dst (N := 2) rfl ?_); refine box_event ?hg (N := 2) ?hd (cs := #[.bool a0_0, .bool a0_1, .int .i64 a0_2, .int .i64 a0_3, .int .i64 a0_4, .slice A0_5 l0_5.length c0_5]) (t := 46) ?hr ?_; (case hd => rfl); (case hg => rfl); (case hr => first | (go_simp; done) | (go_simp; rfl)); intro gb744 hg w4 hbox hb; have BK744 := Aside0.mk (hbox); have GW744 := tge HB hg; have GE744 := tge HB hg; replace HB := tBs HB hb; clear hb hbox hg) | ((with_reducible refine gate_dst (N := 3) rfl ?_); refine box_event ?hg (N := 3) ?hd (cs := #[.bool a1_0, .bool a1_1, .int .i64 a1_2, .int .i64 a1_3, .int .i64 a1_4, .slice A1_5 l1_5.length c1_5]) (t := 46) ?hr ?_; (case hd => rfl); (case hg => rfl); (case hr => first | (go_simp; done) | (go_simp; rfl)); intro gb745 hg w5 hbox hb; have BK745 := Aside0.mk (hbox); have GW745 := tge HB hg; have GE745 := tge HB hg; replace HB := tBs HB hb; have NB744_745 := tlt BK744 hg; have NB745_744 := tgt BK744 hg; replace BK744 := tBb BK744 hb; clear hb hbox hg; have hnb6 := NB744_745.out; have hnc6 := NB745_744.out; obtain ⟨hcz7_0, hcz7_1, hcz7_2, hcz7_3, hcz7_4, hcz7_5, hfz7_0, hfz7_1, hfz7_2, hfz7_3, hfz7_4, hfz7_5⟩ := cells6 BK744.out; obtain ⟨hcz8_0, hcz8_1, hcz8_2, hcz8_3, hcz8_4, hcz8_5, hfz8_0, hfz8_1, hfz8_2, hfz8_3, hfz8_4, hfz8_5⟩ := cells6 BK745.out))
  go_ret
  exact ⟨by first | rfl | (simp [errW_none, errW_some] <;> rfl) | (simp [*, errW_none, errW_some] <;> rfl), zb⟩
 ·rw [if_neg c3] at H
  have c3b0 : (a0_0 != a1_0) = false := by simpa using c3
  (try (have c3b1 : decide (a0_0 = a1_0) = true := by simpa using c3))
  (try (have c3b2 : (a0_0 == a1_0) = true := by simpa using c3))
  clear c3
  by_cases c9 : (a0_1 != a1_1) = true
  ·rw [if_pos c9] at H
   have c9b0 : (a0_1 != a1_1) = true := c9
   (try (have c9b1 : decide (a0_1 = a1_1) = false := by simpa using c9))
   (try (have c9b2 : (a0_1 == a1_1) = false := by simpa using c9))
   (try (have c9b3 : ¬ (a0_1 = a1_1) := by simpa using c9))
   clear c9
   obtain rfl := Option.some.inj H
   go_enter Try.func33, Try.ntmps33
   go_wp2_with (first | ((with_reducible refine gate_dst (N := 2) rfl ?_); refine box_event ?hg (N := 2) ?hd (cs := #[.bool a0_0, .bool a0_1, .int .i64 a0_2, .int .i64 a0_3, .int .i64 a0_4, .slice A0_5 l0_5.length c0_5]) (t := 46) ?hr ?_; (case hd => rfl); (case hg => rfl); (case hr => first | (go_simp; done) | (go_simp; rfl)); intro gb744 hg w10 hbox hb; have BK744 := Aside0.mk (hbox); have GW744 := tge HB hg; have GE744 := tge HB hg; replace HB := tBs HB hb; clear hb hbox hg) | ((with_reducible refine gate_dst (N := 3) rfl ?_); refine box_event ?hg (N := 3) ?hd (cs := #[.bool a1_0, .bool a1_1, .int .i64 a1_2, .int .i64 a1_3, .int .i64 a1_4, .slice A1_5 l1_5.length c1_5]) (t := 46) ?hr ?_; (case hd => rfl); (case hg => rfl); (case hr => first | (go_simp; done) | (go_simp; rfl)); intro gb745 hg w11 hbox hb; have BK745 := Aside0.mk (hbox); have GW745 := tge HB hg; have GE745 := tge HB hg; replace HB := tBs HB hb; have NB744_745 := tlt BK744 hg; have NB745_744 := tgt BK744 hg; replace BK744 := tBb BK744 hb; clear hb hbox hg; have hnb12 := NB744_745.out; have hnc12 := NB745_744.out; obtain ⟨hcz13_0, hcz13_1, hcz13_2, hcz13_3, hcz13_4, hcz13_5, hfz13_0, hfz13_1, hfz13_2, hfz13_3, hfz13_4, hfz13_5⟩ := cells6 BK744.out; obtain ⟨hcz14_0, hcz14_1, hcz14_2, hcz14_3, hcz14_4, hcz14_5, hfz14_0, hfz14_1, hfz14_2, hfz14_3, hfz14_4, hfz14_5⟩ := cells6 BK745.out))
   go_ret
   exact ⟨by first | rfl | (simp [errW_none, errW_some] <;> rfl) | (simp [*, errW_none, errW_some] <;> rfl), zb⟩
  ·rw [if_neg c9] at H
   have c9b0 : (a0_1 != a1_1) = false := by simpa using c9
   (try (have c9b1 : decide (a0_1 = a1_1) = true := by simpa using c9))
   (try (have c9b2 : (a0_1 == a1_1) = true := by simpa using c9))
   clear c9
   by_cases c15 : a0_2 = a1_2
   ·rw [if_pos c15] at H
    have c15b0 : (a0_2 == a1_2) = true := beq_iff_eq.mpr c15
    have c15b1 : (a0_2 != a1_2) = false := bne_eq_false_iff_eq.mpr c15
    clear c15
    by_cases c16 : a0_3 = a1_3
    ·rw [if_pos c16] at H
     have c16b0 : (a0_3 == a1_3) = true := beq_iff_eq.mpr c16
     have c16b1 : (a0_3 != a1_3) = false := bne_eq_false_iff_eq.mpr c16
     clear c16
     by_cases c17 : a0_4 = a1_4
     ·rw [if_pos c17] at H
      have c17b0 : (a0_4 == a1_4) = true := beq_iff_eq.mpr c17
      have c17b1 : (a0_4 != a1_4) = false := bne_eq_false_iff_eq.mpr c17
      clear c17
      replace H := tbe H
      obtain ⟨t746, A18, H⟩ := H
      by_cases c19 : t746 = true
      ·subst c19
       rw [if_pos rfl] at H
       obtain rfl := Option.some.inj H
       go_enter Try.func33, Try.ntmps33
       go_wp2_with (first | ((with_reducible refine gate_dst (N := 2) rfl ?_); refine box_event ?hg (N := 2) ?hd (cs := #[.bool a0_0, .bool a0_1, .int .i64 a0_2, .int .i64 a0_3, .int .i64 a0_4, .slice A0_5 l0_5.length c0_5]) (t := 46) ?hr ?_; (case hd => rfl); (case hg => rfl); (case hr => first | (go_simp; done) | (go_simp; rfl)); intro gb744 hg w20 hbox hb; have BK744 := Aside0.mk (hbox); have GW744 := tge HB hg; have GE744 := tge HB hg; replace HB := tBs HB hb; clear hb hbox hg) | ((with_reducible refine gate_dst (N := 3) rfl ?_); refine box_event ?hg (N := 3) ?hd (cs := #[.bool a1_0, .bool a1_1, .int .i64 a1_2, .int .i64 a1_3, .int .i64 a1_4, .slice A1_5 l1_5.length c1_5]) (t := 46) ?hr ?_; (case hd => rfl); (case hg => rfl); (case hr => first | (go_simp; done) | (go_simp; rfl)); intro gb745 hg w21 hbox hb; have BK745 := Aside0.mk (hbox); have GW745 := tge HB hg; have GE745 := tge HB hg; replace HB := tBs HB hb; have NB744_745 := tlt BK744 hg; have NB745_744 := tgt BK744 hg; replace BK744 := tBb BK744 hb; clear hb hbox hg; have hnb22 := NB744_745.out; have hnc22 := NB745_744.out; obtain ⟨hcz23_0, hcz23_1, hcz23_2, hcz23_3, hcz23_4, hcz23_5, hfz23_0, hfz23_1, hfz23_2, hfz23_3, hfz23_4, hfz23_5⟩ := cells6 BK744.out; obtain ⟨hcz24_0, hcz24_1, hcz24_2, hcz24_3, hcz24_4, hcz24_5, hfz24_0, hfz24_1, hfz24_2, hfz24_3, hfz24_4, hfz24_5⟩ := cells6 BK745.out) | ((with_reducible refine gate_callee (f := 49) rfl ?_); refine goesL_ (some 34) rfl rfl Try.func49 (by kernel_rfl) rfl #[.slice A0_5 l0_5.length c0_5, .slice A1_5 l1_5.length c1_5] rfl tq ?_; (with_reducible refine (laws_eqRecordS.calls k _ _ l0_5 _ _ l1_5 true _ ?side1 ?side2 ?side3 ?side4 A18.out).mono ?_); (case side1 => exact tC (Kd.C_below HR0_5.out HB.out)); (case side2 => exact HC0_5.out); (case side3 => exact tC (Kd.C_below HR1_5.out HB.out)); (case side4 => exact HC1_5.out); rintro e w25 ⟨rfl, hb⟩; refine ⟨_, rfl, ?_⟩; replace BK744 := tBb BK744 hb; replace BK745 := tBb BK745 hb; replace HB := tBs HB hb; (try clear hb); (try clear hb2); (try clear hk); (try clear hi)))
       go_ret
       exact ⟨by first | rfl | (simp [errW_none, errW_some] <;> rfl) | (simp [*, errW_none, errW_some] <;> rfl), zb⟩
      ·replace c19 := Bool.eq_false_iff.mpr c19
       subst c19
       rw [if_neg (show ¬ (false = true) by decide)] at H
       obtain rfl := Option.some.inj H
       go_enter Try.func33, Try.ntmps33
       go_wp2_with (first | ((with_reducible refine gate_dst (N := 2) rfl ?_); refine box_event ?hg (N := 2) ?hd (cs := #[.bool a0_0, .bool a0_1, .int .i64 a0_2, .int .i64 a0_3, .int .i64 a0_4, .slice A0_5 l0_5.length c0_5]) (t := 46) ?hr ?_; (case hd => rfl); (case hg => rfl); (case hr => first | (go_simp; done) | (go_simp; rfl)); intro gb744 hg w26 hbox hb; have BK744 := Aside0.mk (hbox); have GW744 := tge HB hg; have GE744 := tge HB hg; replace HB := tBs HB hb; clear hb hbox hg) | ((with_reducible refine gate_dst (N := 3) rfl ?_); refine box_event ?hg (N := 3) ?hd (cs := #[.bool a1_0, .bool a1_1, .int .i64 a1_2, .int .i64 a1_3, .int .i64 a1_4, .slice A1_5 l1_5.length c1_5]) (t := 46) ?hr ?_; (case hd => rfl); (case hg => rfl); (case hr => first | (go_simp; done) | (go_simp; rfl)); intro gb745 hg w27 hbox hb; have BK745 := Aside0.mk (hbox); have GW745 := tge HB hg; have GE745 := tge HB hg; replace HB := tBs HB hb; have NB744_745 := tlt BK744 hg; have NB745_744 := tgt BK744 hg; replace BK744 := tBb BK744 hb; clear hb hbox hg; have hnb28 := NB744_745.out; have hnc28 := NB745_744.out; obtain ⟨hcz29_0, hcz29_1, hcz29_2, hcz29_3, hcz29_4, hcz29_5, hfz29_0, hfz29_1, hfz29_2, hfz29_3, hfz29_4, hfz29_5⟩ := cells6 BK744.out; obtain ⟨hcz30_0, hcz30_1, hcz30_2, hcz30_3, hcz30_4, hcz30_5, hfz30_0, hfz30_1, hfz30_2, hfz30_3, hfz30_4, hfz30_5⟩ := cells6 BK745.out) | ((with_reducible refine gate_callee (f := 49) rfl ?_); refine goesL_ (some 34) rfl rfl Try.func49 (by kernel_rfl) rfl #[.slice A0_5 l0_5.length c0_5, .slice A1_5 l1_5.length c1_5] rfl tq ?_; (with_reducible refine (laws_eqRecordS.calls k _ _ l0_5 _ _ l1_5 false _ ?side1 ?side2 ?side3 ?side4 A18.out).mono ?_); (case side1 => exact tC (Kd.C_below HR0_5.out HB.out)); (case side2 => exact HC0_5.out); (case side3 => exact tC (Kd.C_below HR1_5.out HB.out)); (case side4 => exact HC1_5.out); rintro e w31 ⟨rfl, hb⟩; refine ⟨_, rfl, ?_⟩; replace BK744 := tBb BK744 hb; replace BK745 := tBb BK745 hb; replace HB := tBs HB hb; (try clear hb); (try clear hb2); (try clear hk); (try clear hi)))
       go_ret
       exact ⟨by first | rfl | (simp [errW_none, errW_some] <;> rfl) | (simp [*, errW_none, errW_some] <;> rfl), zb⟩
     ·rw [if_neg c17] at H
      have c17b0 : (a0_4 == a1_4) = false := beq_eq_false_iff_ne.mpr c17
      have c17b1 : (a0_4 != a1_4) = true := bne_iff_ne.mpr c17
      obtain rfl := Option.some.inj H
      go_enter Try.func33, Try.ntmps33
      go_wp2_with (first | ((with_reducible refine gate_dst (N := 2) rfl ?_); refine box_event ?hg (N := 2) ?hd (cs := #[.bool a0_0, .bool a0_1, .int .i64 a0_2, .int .i64 a0_3, .int .i64 a0_4, .slice A0_5 l0_5.length c0_5]) (t := 46) ?hr ?_; (case hd => rfl); (case hg => rfl); (case hr => first | (go_simp; done) | (go_simp; rfl)); intro gb744 hg w32 hbox hb; have BK744 := Aside0.mk (hbox); have GW744 := tge HB hg; have GE744 := tge HB hg; replace HB := tBs HB hb; clear hb hbox hg) | ((with_reducible refine gate_dst (N := 3) rfl ?_); refine box_event ?hg (N := 3) ?hd (cs := #[.bool a1_0, .bool a1_1, .int .i64 a1_2, .int .i64 a1_3, .int .i64 a1_4, .slice A1_5 l1_5.length c1_5]) (t := 46) ?hr ?_; (case hd => rfl); (case hg => rfl); (case hr => first | (go_simp; done) | (go_simp; rfl)); intro gb745 hg w33 hbox hb; have BK745 := Aside0.mk (hbox); have GW745 := tge HB hg; have GE745 := tge HB hg; replace HB := tBs HB hb; have NB744_745 := tlt BK744 hg; have NB745_744 := tgt BK744 hg; replace BK744 := tBb BK744 hb; clear hb hbox hg; have hnb34 := NB744_745.out; have hnc34 := NB745_744.out; obtain ⟨hcz35_0, hcz35_1, hcz35_2, hcz35_3, hcz35_4, hcz35_5, hfz35_0, hfz35_1, hfz35_2, hfz35_3, hfz35_4, hfz35_5⟩ := cells6 BK744.out; obtain ⟨hcz36_0, hcz36_1, hcz36_2, hcz36_3, hcz36_4, hcz36_5, hfz36_0, hfz36_1, hfz36_2, hfz36_3, hfz36_4, hfz36_5⟩ := cells6 BK745.out))
      go_ret
      exact ⟨by first | rfl | (simp [errW_none, errW_some] <;> rfl) | (simp [*, errW_none, errW_some] <;> rfl), zb⟩
    ·rw [if_neg c16] at H
     have c16b0 : (a0_3 == a1_3) = false := beq_eq_false_iff_ne.mpr c16
     have c16b1 : (a0_3 != a1_3) = true := bne_iff_ne.mpr c16
     obtain rfl := Option.some.inj H
     go_enter Try.func33, Try.ntmps33
     go_wp2_with (first | ((with_reducible refine gate_dst (N := 2) rfl ?_); refine box_event ?hg (N := 2) ?hd (cs := #[.bool a0_0, .bool a0_1, .int .i64 a0_2, .int .i64 a0_3, .int .i64 a0_4, .slice A0_5 l0_5.length c0_5]) (t := 46) ?hr ?_; (case hd => rfl); (case hg => rfl); (case hr => first | (go_simp; done) | (go_simp; rfl)); intro gb744 hg w37 hbox hb; have BK744 := Aside0.mk (hbox); have GW744 := tge HB hg; have GE744 := tge HB hg; replace HB := tBs HB hb; clear hb hbox hg) | ((with_reducible refine gate_dst (N := 3) rfl ?_); refine box_event ?hg (N := 3) ?hd (cs := #[.bool a1_0, .bool a1_1, .int .i64 a1_2, .int .i64 a1_3, .int .i64 a1_4, .slice A1_5 l1_5.length c1_5]) (t := 46) ?hr ?_; (case hd => rfl); (case hg => rfl); (case hr => first | (go_simp; done) | (go_simp; rfl)); intro gb745 hg w38 hbox hb; have BK745 := Aside0.mk (hbox); have GW745 := tge HB hg; have GE745 := tge HB hg; replace HB := tBs HB hb; have NB744_745 := tlt BK744 hg; have NB745_744 := tgt BK744 hg; replace BK744 := tBb BK744 hb; clear hb hbox hg; have hnb39 := NB744_745.out; have hnc39 := NB745_744.out; obtain ⟨hcz40_0, hcz40_1, hcz40_2, hcz40_3, hcz40_4, hcz40_5, hfz40_0, hfz40_1, hfz40_2, hfz40_3, hfz40_4, hfz40_5⟩ := cells6 BK744.out; obtain ⟨hcz41_0, hcz41_1, hcz41_2, hcz41_3, hcz41_4, hcz41_5, hfz41_0, hfz41_1, hfz41_2, hfz41_3, hfz41_4, hfz41_5⟩ := cells6 BK745.out))
     go_ret
     exact ⟨by first | rfl | (simp [errW_none, errW_some] <;> rfl) | (simp [*, errW_none, errW_some] <;> rfl), zb⟩
   ·rw [if_neg c15] at H
    have c15b0 : (a0_2 == a1_2) = false := beq_eq_false_iff_ne.mpr c15
    have c15b1 : (a0_2 != a1_2) = true := bne_iff_ne.mpr c15
    obtain rfl := Option.some.inj H
    go_enter Try.func33, Try.ntmps33
    go_wp2_with (first | ((with_reducible refine gate_dst (N := 2) rfl ?_); refine box_event ?hg (N := 2) ?hd (cs := #[.bool a0_0, .bool a0_1, .int .i64 a0_2, .int .i64 a0_3, .int .i64 a0_4, .slice A0_5 l0_5.length c0_5]) (t := 46) ?hr ?_; (case hd => rfl); (case hg => rfl); (case hr => first | (go_simp; done) | (go_simp; rfl)); intro gb744 hg w42 hbox hb; have BK744 := Aside0.mk (hbox); have GW744 := tge HB hg; have GE744 := tge HB hg; replace HB := tBs HB hb; clear hb hbox hg) | ((with_reducible refine gate_dst (N := 3) rfl ?_); refine box_event ?hg (N := 3) ?hd (cs := #[.bool a1_0, .bool a1_1, .int .i64 a1_2, .int .i64 a1_3, .int .i64 a1_4, .slice A1_5 l1_5.length c1_5]) (t := 46) ?hr ?_; (case hd => rfl); (case hg => rfl); (case hr => first | (go_simp; done) | (go_simp; rfl)); intro gb745 hg w43 hbox hb; have BK745 := Aside0.mk (hbox); have GW745 := tge HB hg; have GE745 := tge HB hg; replace HB := tBs HB hb; have NB744_745 := tlt BK744 hg; have NB745_744 := tgt BK744 hg; replace BK744 := tBb BK744 hb; clear hb hbox hg; have hnb44 := NB744_745.out; have hnc44 := NB745_744.out; obtain ⟨hcz45_0, hcz45_1, hcz45_2, hcz45_3, hcz45_4, hcz45_5, hfz45_0, hfz45_1, hfz45_2, hfz45_3, hfz45_4, hfz45_5⟩ := cells6 BK744.out; obtain ⟨hcz46_0, hcz46_1, hcz46_2, hcz46_3, hcz46_4, hcz46_5, hfz46_0, hfz46_1, hfz46_2, hfz46_3, hfz46_4, hfz46_5⟩ := cells6 BK745.out))
    go_ret
    exact ⟨by first | rfl | (simp [errW_none, errW_some] <;> rfl) | (simp [*, errW_none, errW_some] <;> rfl), zb⟩

def laws_eqBatchS.l0 : Nat → List (S46) → List (S46) → Int → Option (Bool)
 | 0, _, _, _ => none
 | k + 1, x0, x1, x5 => if x5 < (x0.length : Int) then (if 0 ≤ x5 then (if x5 < (x1.length : Int) then ((laws_eqBatch.f k ((rd_T46 x0 x5).f0) ((rd_T46 x0 x5).f1) ((rd_T46 x0 x5).f2) ((rd_T46 x0 x5).f3) ((rd_T46 x0 x5).f4) ((rd_T46 x0 x5).f5) ((rd_T46 x1 x5).f0) ((rd_T46 x1 x5).f1) ((rd_T46 x1 x5).f2) ((rd_T46 x1 x5).f3) ((rd_T46 x1 x5).f4) ((rd_T46 x1 x5).f5)).bind fun t749 => (if t749 = true then (laws_eqBatchS.l0 k x0 x1 (wrap64 (x5 + 1))) else (some false))) else (none)) else (none)) else (some true)
def laws_eqBatchS.f (k : Nat) (l0 : List (S46)) (l1 : List (S46)) : Option (Bool) := if (l0.length : Int) = (l1.length : Int) then (laws_eqBatchS.l0 k l0 l1 0) else (some false)
def laws_eqBatchS.T6 : Bool × List (List Nat × List Nat) := (true, [([], []), ([], []), ([0, 1], [0, 1]), ([2], [2]), ([], []), ([], []), ([4, 5], [4, 5]), ([6], [6]), ([3, 7], [3, 7]), ([8], [8])])
def laws_eqBatchS.B6 : List Nat := [0, 0, 3, 7, 0, 0, 48, 112, 255, 511]
theorem laws_eqBatchS.tab6 : rtab .any (opsOf Try.f18 6) = laws_eqBatchS.T6 := by kernel_rfl
theorem laws_eqBatchS.bits6 : waitsOk laws_eqBatchS.T6.2 laws_eqBatchS.B6 = true := by kernel_rfl
set_option maxHeartbeats 8000000 in
set_option maxRecDepth 100000 in
theorem laws_eqBatchS.calls (k : Nat) (A0 : Option Addr) (c0 : Nat) (l0 : List (S46)) (A1 : Option Addr) (c1 : Nat) (l1 : List (S46)) (r : Bool) (w : World) (hr0 : Kd.C k46 w A0 l0.length l0) (hc0 : l0.length ≤ c0) (hr1 : Kd.C k46 w A1 l1.length l1) (hc1 : l1.length ≤ c1) (h : laws_eqBatchS.f k l0 l1 = some r) :
  Calls Try.prog 18 #[.slice A0 l0.length c0, .slice A1 l1.length c1] w fun e w' => e = .returned (.bool r) ∧ Below w.heap.size w w' := by
 have hu46 := Try.underlying46
 have HR0 := Aside0.mk hr0
 have HC0 := Aside0.mk hc0
 clear hr0 hc0
 have HR1 := Aside0.mk hr1
 have HC1 := Aside0.mk hc1
 clear hr1 hc1
 have HB := Aside0.mk (Below.refl w.heap.size w)
 have H : (if (l0.length : Int) = (l1.length : Int) then (laws_eqBatchS.l0 k l0 l1 0) else (some false)) = some r := h
 clear h
 by_cases c3 : (l0.length : Int) = (l1.length : Int)
 ·rw [if_pos c3] at H
  have c3b0 : ((l0.length : Int) == (l1.length : Int)) = true := beq_iff_eq.mpr c3
  have c3b1 : ((l0.length : Int) != (l1.length : Int)) = false := bne_eq_false_iff_eq.mpr c3
  have c3b2 : (l0.length == l1.length) = true := by first | simpa using c3 | (simp at c3 ⊢; omega)
  clear c3
  have H' := Aside0.mk H
  clear H
  go_enter Try.func18, Try.ntmps18
  go_wp2
  go_loopg [5] k (fun kq v5 w' => ∃ (x5_1 : Int), v5 = .int .i64 x5_1 ∧ Aside0 (laws_eqBatchS.l0 kq l0 l1 x5_1 = some r) ∧ Aside0 (kq ≤ k) ∧ Aside0 (Below w.heap.size w w'))
  case atStart => exact ⟨(0), tr, H', ⟨Nat.le_refl _⟩, ⟨zb⟩⟩
  case round =>
   clear H'
   try clear c1; try clear c3; try clear c3b0; try clear c3b1; try clear c3b2
   obtain ⟨x5_1, rfl, HA, HK1, HB⟩ := hrel
   cases gk with
   | zero => exact absurd HA.out (by simp [laws_eqBatchS.l0])
   | succ k1 =>
    have H := HA.out
    clear HA
    simp only [laws_eqBatchS.l0] at H
    by_cases c4 : x5_1 < (l0.length : Int)
    ·rw [if_pos c4] at H
     have c4b0 : decide (x5_1 < (l0.length : Int)) = true := decide_eq_true c4
     clear c4
     by_cases c5 : 0 ≤ x5_1
     ·rw [if_pos c5] at H
      have c5b0 : decide (0 ≤ x5_1) = true := decide_eq_true c5
      clear c5
      by_cases c6 : x5_1 < (l1.length : Int)
      ·rw [if_pos c6] at H
       have c6b0 : decide (x5_1 < (l1.length : Int)) = true := decide_eq_true c6
       clear c6
       replace H := tbe H
       obtain ⟨t749, A7, H⟩ := H
       by_cases c8 : t749 = true
       ·subst c8
        rw [if_pos rfl] at H
        have H' := Aside0.mk H
        clear H
        try go_wp2
        replace HB := Aside0.mk (below_drew1 HB.out)
        have p747 : 0 ≤ (x5_1 : Int) := td
        have q747 : x5_1 < (l0.length : Int) := td
        obtain ⟨ad747, A747_5, c747_5, e747, hx747_0, hx747_1, hx747_2, hx747_3, hx747_4, hx747_5, hl747_5, hi747_5⟩ := at_T46 HR0.out x5_1 p747 q747
        have hw747_5 := hx747_5
        have hw747_4 := hx747_4
        have hw747_3 := hx747_3
        have hw747_2 := hx747_2
        have hw747_1 := hx747_1
        have hw747_0 := hx747_0
        cases e747
        replace hx747_0 := tcl HB hx747_0
        replace hx747_1 := tcl HB hx747_1
        replace hx747_2 := tcl HB hx747_2
        replace hx747_3 := tcl HB hx747_3
        replace hx747_4 := tcl HB hx747_4
        replace hx747_5 := tcl HB hx747_5
        have HR747_5 := Aside0.mk hi747_5
        have HC747_5 := Aside0.mk hl747_5
        clear hi747_5 hl747_5
        replace p747 := eq_true p747
        replace q747 := eq_true q747
        have p748 : 0 ≤ (x5_1 : Int) := td
        have q748 : x5_1 < (l1.length : Int) := td
        obtain ⟨ad748, A748_5, c748_5, e748, hx748_0, hx748_1, hx748_2, hx748_3, hx748_4, hx748_5, hl748_5, hi748_5⟩ := at_T46 HR1.out x5_1 p748 q748
        have hw748_5 := hx748_5
        have hw748_4 := hx748_4
        have hw748_3 := hx748_3
        have hw748_2 := hx748_2
        have hw748_1 := hx748_1
        have hw748_0 := hx748_0
        cases e748
        replace hx748_0 := tcl HB hx748_0
        replace hx748_1 := tcl HB hx748_1
        replace hx748_2 := tcl HB hx748_2
        replace hx748_3 := tcl HB hx748_3
        replace hx748_4 := tcl HB hx748_4
        replace hx748_5 := tcl HB hx748_5
        have HR748_5 := Aside0.mk hi748_5
        have HC748_5 := Aside0.mk hl748_5
        clear hi748_5 hl748_5
        replace p748 := eq_true p748
        replace q748 := eq_true q748
        refine start_ (n := 10) (S := fun w' => w'.cell? (ad747.add ((x5_1).toNat * 6)) = some (.bool ((rd_T46 l0 x5_1).f0)) ∧ w'.cell? ⟨(ad747.add ((x5_1).toNat * 6)).block, (ad747.add ((x5_1).toNat * 6)).off + 1, none⟩ = some (.bool ((rd_T46 l0 x5_1).f1)) ∧ w'.cell? ⟨(ad747.add ((x5_1).toNat * 6)).block, (ad747.add ((x5_1).toNat * 6)).off + 2, none⟩ = some (.int .i64 ((rd_T46 l0 x5_1).f2)) ∧ w'.cell? ⟨(ad747.add ((x5_1).toNat * 6)).block, (ad747.add ((x5_1).toNat * 6)).off + 3, none⟩ = some (.int .i64 ((rd_T46 l0 x5_1).f3)) ∧ w'.cell? ⟨(ad747.add ((x5_1).toNat * 6)).block, (ad747.add ((x5_1).toNat * 6)).off + 4, none⟩ = some (.int .i64 ((rd_T46 l0 x5_1).f4)) ∧ w'.cell? ⟨(ad747.add ((x5_1).toNat * 6)).block, (ad747.add ((x5_1).toNat * 6)).off + 5, none⟩ = some (.slice A747_5 ((rd_T46 l0 x5_1).f5).length c747_5) ∧ w'.cell? (ad748.add ((x5_1).toNat * 6)) = some (.bool ((rd_T46 l1 x5_1).f0)) ∧ w'.cell? ⟨(ad748.add ((x5_1).toNat * 6)).block, (ad748.add ((x5_1).toNat * 6)).off + 1, none⟩ = some (.bool ((rd_T46 l1 x5_1).f1)) ∧ w'.cell? ⟨(ad748.add ((x5_1).toNat * 6)).block, (ad748.add ((x5_1).toNat * 6)).off + 2, none⟩ = some (.int .i64 ((rd_T46 l1 x5_1).f2)) ∧ w'.cell? ⟨(ad748.add ((x5_1).toNat * 6)).block, (ad748.add ((x5_1).toNat * 6)).off + 3, none⟩ = some (.int .i64 ((rd_T46 l1 x5_1).f3)) ∧ w'.cell? ⟨(ad748.add ((x5_1).toNat * 6)).block, (ad748.add ((x5_1).toNat * 6)).off + 4, none⟩ = some (.int .i64 ((rd_T46 l1 x5_1).f4)) ∧ w'.cell? ⟨(ad748.add ((x5_1).toNat * 6)).block, (ad748.add ((x5_1).toNat * 6)).off + 5, none⟩ = some (.slice A748_5 ((rd_T46 l1 x5_1).f5).length c748_5)) (ds := []) #[false, false, false, false, false, false, false, false, false, false] (by kernel_rfl) rfl rfl ⟨(tcl HB hw747_0), (tcl HB hw747_1), (tcl HB hw747_2), (tcl HB hw747_3), (tcl HB hw747_4), (tcl HB hw747_5), (tcl HB hw748_0), (tcl HB hw748_1), (tcl HB hw748_2), (tcl HB hw748_3), (tcl HB hw748_4), (tcl HB hw748_5)⟩ (fun hHeld => ?_); refine with_tabW laws_eqBatchS.tab6 laws_eqBatchS.bits6 (fun HT_ HW_ => ?_)
        generalize wr.drew = w9 at HB HR747_5 HR748_5 hx747_0 hx747_1 hx747_2 hx747_3 hx747_4 hx747_5 hx748_0 hx748_1 hx748_2 hx748_3 hx748_4 hx748_5 hHeld ⊢
        refine tpu 0 (some 17) #[true, false, false, false, false, false, false, false, false, false] ?_
        refine tpu 1 (some 18) #[true, true, false, false, false, false, false, false, false, false] ?_
        refine tpu 2 (some 19) #[true, true, true, false, false, false, false, false, false, false] ?_
        refine tpu 4 (some 21) #[true, true, true, false, true, false, false, false, false, false] ?_
        refine tpu 5 (some 22) #[true, true, true, false, true, true, false, false, false, false] ?_
        refine tpu 6 (some 23) #[true, true, true, false, true, true, true, false, false, false] ?_
        refine tta 3 (some 20) #[true, true, true, true, true, true, true, false, false, false] hHeld ?_ (hy := by rintro w' ⟨s0, s1, s2, s3, s4, s5, s6, s7, s8, s9, s10, s11⟩; go_simp; with_reducible rfl)
        refine tta 7 (some 24) #[true, true, true, true, true, true, true, true, false, false] hHeld ?_ (hy := by rintro w' ⟨s0, s1, s2, s3, s4, s5, s6, s7, s8, s9, s10, s11⟩; go_simp; with_reducible rfl)
        refine one_ (i := 8) (N := some 25) #[true, true, true, true, true, true, true, true, true, false] rfl rfl (one_of HT_.out (by kernel_rfl)) (by decide) (fun K hK => ?_)
        refine goes_ Try.func33 (by kernel_rfl) rfl #[.agg #[.bool ((rd_T46 l0 x5_1).f0), .bool ((rd_T46 l0 x5_1).f1), .int .i64 ((rd_T46 l0 x5_1).f2), .int .i64 ((rd_T46 l0 x5_1).f3), .int .i64 ((rd_T46 l0 x5_1).f4), .slice A747_5 ((rd_T46 l0 x5_1).f5).length c747_5], .agg #[.bool ((rd_T46 l1 x5_1).f0), .bool ((rd_T46 l1 x5_1).f1), .int .i64 ((rd_T46 l1 x5_1).f2), .int .i64 ((rd_T46 l1 x5_1).f3), .int .i64 ((rd_T46 l1 x5_1).f4), .slice A748_5 ((rd_T46 l1 x5_1).f5).length c748_5]] (by rfl) rfl rfl tq ?_
        with_reducible refine (laws_eqBatch.calls k1 ((rd_T46 l0 x5_1).f0) ((rd_T46 l0 x5_1).f1) ((rd_T46 l0 x5_1).f2) ((rd_T46 l0 x5_1).f3) ((rd_T46 l0 x5_1).f4) _ _ ((rd_T46 l0 x5_1).f5) ((rd_T46 l1 x5_1).f0) ((rd_T46 l1 x5_1).f1) ((rd_T46 l1 x5_1).f2) ((rd_T46 l1 x5_1).f3) ((rd_T46 l1 x5_1).f4) _ _ ((rd_T46 l1 x5_1).f5) true _ ?side1 ?side2 ?side3 ?side4 A7.out).mono ?_
        (case side1 => exact tC (Kd.C_below HR747_5.out HB.out))
        (case side2 => exact HC747_5.out)
        (case side3 => exact tC (Kd.C_below HR748_5.out HB.out))
        (case side4 => exact HC748_5.out)
        rintro e w10 ⟨rfl, hb⟩
        refine ⟨_, rfl, ?_⟩
        replace HB := tBs HB hb
        (try clear hb)
        (try clear hb2)
        (try clear hk)
        (try clear hi)
        refine hK.out _ _ ⟨(tcl HB hw747_0), (tcl HB hw747_1), (tcl HB hw747_2), (tcl HB hw747_3), (tcl HB hw747_4), (tcl HB hw747_5), (tcl HB hw748_0), (tcl HB hw748_1), (tcl HB hw748_2), (tcl HB hw748_3), (tcl HB hw748_4), (tcl HB hw748_5)⟩ (fun hHeld => ?_)
        clear hK K
        refine tnm (some 25) ?_
        refine tpu 9 (some 26) #[true, true, true, true, true, true, true, true, true, true] ?_
        refine done_ (done_of HT_.out (by kernel_rfl)) ?_
        try go_wp2
        go_roundg k1
        case measure => have := HK1.out; omega
        case rel => exact ⟨(wrap64 (x5_1 + 1)), tr, H', ⟨by have := HK1.out; omega⟩, ⟨zb⟩⟩
       ·replace c8 := Bool.eq_false_iff.mpr c8
        subst c8
        rw [if_neg (show ¬ (false = true) by decide)] at H
        obtain rfl := Option.some.inj H
        try go_wp2
        replace HB := Aside0.mk (below_drew1 HB.out)
        have p747 : 0 ≤ (x5_1 : Int) := td
        have q747 : x5_1 < (l0.length : Int) := td
        obtain ⟨ad747, A747_5, c747_5, e747, hx747_0, hx747_1, hx747_2, hx747_3, hx747_4, hx747_5, hl747_5, hi747_5⟩ := at_T46 HR0.out x5_1 p747 q747
        have hw747_5 := hx747_5
        have hw747_4 := hx747_4
        have hw747_3 := hx747_3
        have hw747_2 := hx747_2
        have hw747_1 := hx747_1
        have hw747_0 := hx747_0
        cases e747
        replace hx747_0 := tcl HB hx747_0
        replace hx747_1 := tcl HB hx747_1
        replace hx747_2 := tcl HB hx747_2
        replace hx747_3 := tcl HB hx747_3
        replace hx747_4 := tcl HB hx747_4
        replace hx747_5 := tcl HB hx747_5
        have HR747_5 := Aside0.mk hi747_5
        have HC747_5 := Aside0.mk hl747_5
        clear hi747_5 hl747_5
        replace p747 := eq_true p747
        replace q747 := eq_true q747
        have p748 : 0 ≤ (x5_1 : Int) := td
        have q748 : x5_1 < (l1.length : Int) := td
        obtain ⟨ad748, A748_5, c748_5, e748, hx748_0, hx748_1, hx748_2, hx748_3, hx748_4, hx748_5, hl748_5, hi748_5⟩ := at_T46 HR1.out x5_1 p748 q748
        have hw748_5 := hx748_5
        have hw748_4 := hx748_4
        have hw748_3 := hx748_3
        have hw748_2 := hx748_2
        have hw748_1 := hx748_1
        have hw748_0 := hx748_0
        cases e748
        replace hx748_0 := tcl HB hx748_0
        replace hx748_1 := tcl HB hx748_1
        replace hx748_2 := tcl HB hx748_2
        replace hx748_3 := tcl HB hx748_3
        replace hx748_4 := tcl HB hx748_4
        replace hx748_5 := tcl HB hx748_5
        have HR748_5 := Aside0.mk hi748_5
        have HC748_5 := Aside0.mk hl748_5
        clear hi748_5 hl748_5
        replace p748 := eq_true p748
        replace q748 := eq_true q748
        refine start_ (n := 10) (S := fun w' => w'.cell? (ad747.add ((x5_1).toNat * 6)) = some (.bool ((rd_T46 l0 x5_1).f0)) ∧ w'.cell? ⟨(ad747.add ((x5_1).toNat * 6)).block, (ad747.add ((x5_1).toNat * 6)).off + 1, none⟩ = some (.bool ((rd_T46 l0 x5_1).f1)) ∧ w'.cell? ⟨(ad747.add ((x5_1).toNat * 6)).block, (ad747.add ((x5_1).toNat * 6)).off + 2, none⟩ = some (.int .i64 ((rd_T46 l0 x5_1).f2)) ∧ w'.cell? ⟨(ad747.add ((x5_1).toNat * 6)).block, (ad747.add ((x5_1).toNat * 6)).off + 3, none⟩ = some (.int .i64 ((rd_T46 l0 x5_1).f3)) ∧ w'.cell? ⟨(ad747.add ((x5_1).toNat * 6)).block, (ad747.add ((x5_1).toNat * 6)).off + 4, none⟩ = some (.int .i64 ((rd_T46 l0 x5_1).f4)) ∧ w'.cell? ⟨(ad747.add ((x5_1).toNat * 6)).block, (ad747.add ((x5_1).toNat * 6)).off + 5, none⟩ = some (.slice A747_5 ((rd_T46 l0 x5_1).f5).length c747_5) ∧ w'.cell? (ad748.add ((x5_1).toNat * 6)) = some (.bool ((rd_T46 l1 x5_1).f0)) ∧ w'.cell? ⟨(ad748.add ((x5_1).toNat * 6)).block, (ad748.add ((x5_1).toNat * 6)).off + 1, none⟩ = some (.bool ((rd_T46 l1 x5_1).f1)) ∧ w'.cell? ⟨(ad748.add ((x5_1).toNat * 6)).block, (ad748.add ((x5_1).toNat * 6)).off + 2, none⟩ = some (.int .i64 ((rd_T46 l1 x5_1).f2)) ∧ w'.cell? ⟨(ad748.add ((x5_1).toNat * 6)).block, (ad748.add ((x5_1).toNat * 6)).off + 3, none⟩ = some (.int .i64 ((rd_T46 l1 x5_1).f3)) ∧ w'.cell? ⟨(ad748.add ((x5_1).toNat * 6)).block, (ad748.add ((x5_1).toNat * 6)).off + 4, none⟩ = some (.int .i64 ((rd_T46 l1 x5_1).f4)) ∧ w'.cell? ⟨(ad748.add ((x5_1).toNat * 6)).block, (ad748.add ((x5_1).toNat * 6)).off + 5, none⟩ = some (.slice A748_5 ((rd_T46 l1 x5_1).f5).length c748_5)) (ds := []) #[false, false, false, false, false, false, false, false, false, false] (by kernel_rfl) rfl rfl ⟨(tcl HB hw747_0), (tcl HB hw747_1), (tcl HB hw747_2), (tcl HB hw747_3), (tcl HB hw747_4), (tcl HB hw747_5), (tcl HB hw748_0), (tcl HB hw748_1), (tcl HB hw748_2), (tcl HB hw748_3), (tcl HB hw748_4), (tcl HB hw748_5)⟩ (fun hHeld => ?_); refine with_tabW laws_eqBatchS.tab6 laws_eqBatchS.bits6 (fun HT_ HW_ => ?_)
        generalize wr.drew = w11 at HB HR747_5 HR748_5 hx747_0 hx747_1 hx747_2 hx747_3 hx747_4 hx747_5 hx748_0 hx748_1 hx748_2 hx748_3 hx748_4 hx748_5 hHeld ⊢
        refine tpu 0 (some 17) #[true, false, false, false, false, false, false, false, false, false] ?_
        refine tpu 1 (some 18) #[true, true, false, false, false, false, false, false, false, false] ?_
        refine tpu 2 (some 19) #[true, true, true, false, false, false, false, false, false, false] ?_
        refine tpu 4 (some 21) #[true, true, true, false, true, false, false, false, false, false] ?_
        refine tpu 5 (some 22) #[true, true, true, false, true, true, false, false, false, false] ?_
        refine tpu 6 (some 23) #[true, true, true, false, true, true, true, false, false, false] ?_
        refine tta 3 (some 20) #[true, true, true, true, true, true, true, false, false, false] hHeld ?_ (hy := by rintro w' ⟨s0, s1, s2, s3, s4, s5, s6, s7, s8, s9, s10, s11⟩; go_simp; with_reducible rfl)
        refine tta 7 (some 24) #[true, true, true, true, true, true, true, true, false, false] hHeld ?_ (hy := by rintro w' ⟨s0, s1, s2, s3, s4, s5, s6, s7, s8, s9, s10, s11⟩; go_simp; with_reducible rfl)
        refine one_ (i := 8) (N := some 25) #[true, true, true, true, true, true, true, true, true, false] rfl rfl (one_of HT_.out (by kernel_rfl)) (by decide) (fun K hK => ?_)
        refine goes_ Try.func33 (by kernel_rfl) rfl #[.agg #[.bool ((rd_T46 l0 x5_1).f0), .bool ((rd_T46 l0 x5_1).f1), .int .i64 ((rd_T46 l0 x5_1).f2), .int .i64 ((rd_T46 l0 x5_1).f3), .int .i64 ((rd_T46 l0 x5_1).f4), .slice A747_5 ((rd_T46 l0 x5_1).f5).length c747_5], .agg #[.bool ((rd_T46 l1 x5_1).f0), .bool ((rd_T46 l1 x5_1).f1), .int .i64 ((rd_T46 l1 x5_1).f2), .int .i64 ((rd_T46 l1 x5_1).f3), .int .i64 ((rd_T46 l1 x5_1).f4), .slice A748_5 ((rd_T46 l1 x5_1).f5).length c748_5]] (by rfl) rfl rfl tq ?_
        with_reducible refine (laws_eqBatch.calls k1 ((rd_T46 l0 x5_1).f0) ((rd_T46 l0 x5_1).f1) ((rd_T46 l0 x5_1).f2) ((rd_T46 l0 x5_1).f3) ((rd_T46 l0 x5_1).f4) _ _ ((rd_T46 l0 x5_1).f5) ((rd_T46 l1 x5_1).f0) ((rd_T46 l1 x5_1).f1) ((rd_T46 l1 x5_1).f2) ((rd_T46 l1 x5_1).f3) ((rd_T46 l1 x5_1).f4) _ _ ((rd_T46 l1 x5_1).f5) false _ ?side1 ?side2 ?side3 ?side4 A7.out).mono ?_
        (case side1 => exact tC (Kd.C_below HR747_5.out HB.out))
        (case side2 => exact HC747_5.out)
        (case side3 => exact tC (Kd.C_below HR748_5.out HB.out))
        (case side4 => exact HC748_5.out)
        rintro e w12 ⟨rfl, hb⟩
        refine ⟨_, rfl, ?_⟩
        replace HB := tBs HB hb
        (try clear hb)
        (try clear hb2)
        (try clear hk)
        (try clear hi)
        refine hK.out _ _ ⟨(tcl HB hw747_0), (tcl HB hw747_1), (tcl HB hw747_2), (tcl HB hw747_3), (tcl HB hw747_4), (tcl HB hw747_5), (tcl HB hw748_0), (tcl HB hw748_1), (tcl HB hw748_2), (tcl HB hw748_3), (tcl HB hw748_4), (tcl HB hw748_5)⟩ (fun hHeld => ?_)
        clear hK K
        refine tnm (some 25) ?_
        refine tpu 9 (some 26) #[true, true, true, true, true, true, true, true, true, true] ?_
        refine done_ (done_of HT_.out (by kernel_rfl)) ?_
        try go_wp2
        go_ret
        exact ⟨by first | rfl | (simp [errW_none, errW_some] <;> rfl) | (simp [*, errW_none, errW_some] <;> rfl), zb⟩
      ·rw [if_neg c6] at H
       exact absurd H (by simp)
     ·rw [if_neg c5] at H
      exact absurd H (by simp)
    ·rw [if_neg c4] at H
     have c4b0 : decide (x5_1 < (l0.length : Int)) = false := decide_eq_false c4
     clear c4
     obtain rfl := Option.some.inj H
     go_wp2
     go_ret
     exact ⟨by first | rfl | (simp [errW_none, errW_some] <;> rfl) | (simp [*, errW_none, errW_some] <;> rfl), zb⟩
 ·rw [if_neg c3] at H
  have c3b0 : ((l0.length : Int) == (l1.length : Int)) = false := beq_eq_false_iff_ne.mpr c3
  have c3b1 : ((l0.length : Int) != (l1.length : Int)) = true := bne_iff_ne.mpr c3
  have c3b2 : (l0.length == l1.length) = false := by first | simpa using c3 | (simp at c3 ⊢; omega)
  obtain rfl := Option.some.inj H
  go_enter Try.func18, Try.ntmps18
  go_wp2
  go_ret
  exact ⟨by first | rfl | (simp [errW_none, errW_some] <;> rfl) | (simp [*, errW_none, errW_some] <;> rfl), zb⟩

end Go.Proofs.Ythoioccmnphfgaa.G

namespace Go.Proofs.Ythoioccmnphfgaa.G
open Go.RowKit Go.Proofs.YthoioccmnphfgaaW.PrintWords Go.Proofs.YthoioccmnphfgaaW.PrintLast Go.Proofs.YthoioccmnphfgaaW.PrintMore
attribute [local go_sem] max2_int min2_int max_two min_two max_three min_three max_four min_four   -- for this text's walks alone
set_option linter.unusedVariables false
set_option linter.unusedSimpArgs false

def laws_FnExactKeepSize.f (k : Nat) (l0 : List (S56)) (a1 : Int) : Option (Bool) := (laws_szBatchS.f k l0 1048576).bind fun t763 => (if t763 < 0 then (some true) else ((laws_toBatchS.f k l0).bind fun t764 => ((spec_KeepSize.f k t764 a1).bind fun t767 => ((laws_toBatchS.f k l0).bind fun t768 => ((impl_KeepSize.f k t768 a1).bind fun t771 => (if t771 = t767 then ((laws_toBatchS.f k l0).bind fun t772 => ((laws_eqBatchS.f k t768 t772).bind fun t775 => (if t775 = true then (some true) else (some false)))) else (some false)))))))
set_option maxHeartbeats 8000000 in
set_option maxRecDepth 100000 in
theorem laws_FnExactKeepSize.calls (k : Nat) (A0 : Option Addr) (c0 : Nat) (l0 : List (S56)) (a1 : Int) (r : Bool) (w : World) (hr0 : Kd.C k56 w A0 l0.length l0) (hc0 : l0.length ≤ c0) (h : laws_FnExactKeepSize.f k l0 a1 = some r) :
  Calls Try.prog 8 #[.slice A0 l0.length c0, .int .i64 a1] w fun e w' => e = .returned (.bool r) ∧ Below w.heap.size w w' := by
 have HR0 := Aside0.mk hr0
 have HC0 := Aside0.mk hc0
 clear hr0 hc0
 have HB := Aside0.mk (Below.refl w.heap.size w)
 have H : ((laws_szBatchS.f k l0 1048576).bind fun t763 => (if t763 < 0 then (some true) else ((laws_toBatchS.f k l0).bind fun t764 => ((spec_KeepSize.f k t764 a1).bind fun t767 => ((laws_toBatchS.f k l0).bind fun t768 => ((impl_KeepSize.f k t768 a1).bind fun t771 => (if t771 = t767 then ((laws_toBatchS.f k l0).bind fun t772 => ((laws_eqBatchS.f k t768 t772).bind fun t775 => (if t775 = true then (some true) else (some false)))) else (some false)))))))) = some r := h
 clear h
 replace H := tbe H
 obtain ⟨t763, A3, H⟩ := H
 by_cases c4 : t763 < 0
 ·rw [if_pos c4] at H
  have c4b0 : decide (t763 < 0) = true := decide_eq_true c4
  clear c4
  obtain rfl := Option.some.inj H
  go_enter Try.func8, Try.ntmps8
  go_wp2_with (first | ((with_reducible refine gate_callee (f := 16) rfl ?_); refine goesL_ (some 11) rfl rfl Try.func16 (by kernel_rfl) rfl #[.slice A0 l0.length c0, .int .i64 1048576] rfl tq ?_; (with_reducible refine (laws_szBatchS.calls k _ _ l0 1048576 t763 _ ?side1 ?side2 A3.out).mono ?_); (case side1 => exact tC HR0.out); (case side2 => exact HC0.out); rintro e w5 ⟨rfl, hb⟩; refine ⟨_, rfl, ?_⟩; replace HB := tBs HB hb; (try clear hb); (try clear hb2); (try clear hk); (try clear hi)))
  all_goals go_ret
  all_goals exact ⟨by first | rfl | (simp [errW_none, errW_some] <;> rfl) | (simp [*, errW_none, errW_some] <;> rfl), zb⟩
 ·rw [if_neg c4] at H
  have c4b0 : decide (t763 < 0) = false := decide_eq_false c4
  clear c4
  replace H := tbe H
  obtain ⟨t764, A6, H⟩ := H
  replace H := tbe H
  obtain ⟨t767, A7, H⟩ := H
  replace H := tbe H
  obtain ⟨t768, A8, H⟩ := H
  replace H := tbe H
  obtain ⟨t771, A9, H⟩ := H
  by_cases c10 : t771 = t767
  ·rw [if_pos c10] at H
   have c10b0 : (t771 == t767) = true := beq_iff_eq.mpr c10
   have c10b1 : (t771 != t767) = false := bne_eq_false_iff_eq.mpr c10
   clear c10
   replace H := tbe H
   obtain ⟨t772, A11, H⟩ := H
   replace H := tbe H
   obtain ⟨t775, A12, H⟩ := H
   by_cases c13 : t775 = true
   ·subst c13
    rw [if_pos rfl] at H
    obtain rfl := Option.some.inj H
    go_enter Try.func8, Try.ntmps8
    go_wp2_with (first | ((with_reducible refine gate_callee (f := 16) rfl ?_); refine goesL_ (some 11) rfl rfl Try.func16 (by kernel_rfl) rfl #[.slice A0 l0.length c0, .int .i64 1048576] rfl tq ?_; (with_reducible refine (laws_szBatchS.calls k _ _ l0 1048576 t763 _ ?side1 ?side2 A3.out).mono ?_); (case side1 => exact tC HR0.out); (case side2 => exact HC0.out); rintro e w14 ⟨rfl, hb⟩; refine ⟨_, rfl, ?_⟩; replace HB := tBs HB hb; (try clear hb); (try clear hb2); (try clear hk); (try clear hi)) | ((with_reducible refine gate_callee (f := 17) rfl ?_); refine goesL_ (some 15) rfl rfl Try.func17 (by kernel_rfl) rfl #[.slice A0 l0.length c0] rfl tq ?_; (with_reducible refine (laws_toBatchS.calls k _ _ l0 t764 _ ?side1 ?side2 A6.out).mono ?_); (case side1 => exact tC (Kd.C_below HR0.out HB.out)); (case side2 => exact HC0.out); rintro e w15 ⟨v765, rfl, ho0, hb⟩; have u_v765 := tsv Try.prog v765 ho0; refine ⟨_, rfl, ?_⟩; have HO766 := tRl ho0 HB; replace HB := tBs HB hb; (try clear hb); (try clear hb2); (try clear hk); (try clear hi); (try clear ho0); obtain ⟨Ao16, co16, eo16⟩ := Kd.R_slice HO766.out; subst eo16) | ((with_reducible refine gate_callee (f := 15) rfl ?_); refine goesL_ (some 17) rfl rfl Try.func15 (by kernel_rfl) rfl #[.slice Ao16 t764.length co16, .int .i64 a1] rfl tq ?_; (with_reducible refine (spec_KeepSize.calls k _ _ t764 a1 t767 _ ?side1 ?side2 A7.out).mono ?_); (case side1 => repeat (first | exact (Kd.R_reads' HO766.out).2.2 | (with_reducible refine Kd.C_alloc ?_ _) | (with_reducible refine Kd.C_drewN ?_ _) | (with_reducible refine Kd.C_drew ?_))); (case side2 => exact (Kd.R_reads' HO766.out).2.1); rintro e w17 ⟨rfl, hb⟩; refine ⟨_, rfl, ?_⟩; replace HO766 := tRb HO766 hb; replace HB := tBs HB hb; (try clear hb); (try clear hb2); (try clear hk); (try clear hi)) | ((with_reducible refine gate_callee (f := 17) rfl ?_); refine goesL_ (some 19) rfl rfl Try.func17 (by kernel_rfl) rfl #[.slice A0 l0.length c0] rfl tq ?_; (with_reducible refine (laws_toBatchS.calls k _ _ l0 t768 _ ?side1 ?side2 A8.out).mono ?_); (case side1 => exact tC (Kd.C_below HR0.out HB.out)); (case side2 => exact HC0.out); rintro e w18 ⟨v769, rfl, ho0, hb⟩; have u_v769 := tsv Try.prog v769 ho0; refine ⟨_, rfl, ?_⟩; have HO770 := Aside0.mk (Kd.R_lower (Kd.R_new' ho0 (Kd.R_lt (tR HO766.out))) (below_size zb)); replace HO766 := Aside0.mk (Kd.R_elder' (tR HO766.out) (Kd.R_base ho0) hb); replace HB := tBs HB hb; (try clear hb); (try clear hb2); (try clear hk); (try clear hi); (try clear ho0); obtain ⟨Ao19, co19, eo19⟩ := Kd.R_slice HO770.out; subst eo19) | ((with_reducible refine gate_callee (f := 14) rfl ?_); refine goesL_ (some 22) rfl rfl Try.func14 (by kernel_rfl) rfl #[.slice Ao19 t768.length co19, .int .i64 a1] rfl tq ?_; (with_reducible refine (impl_KeepSize.calls k _ _ t768 a1 t771 _ ?side1 ?side2 A9.out).mono ?_); (case side1 => repeat (first | exact (Kd.R_reads' HO770.out).2.2 | (with_reducible refine Kd.C_alloc ?_ _) | (with_reducible refine Kd.C_drewN ?_ _) | (with_reducible refine Kd.C_drew ?_))); (case side2 => exact (Kd.R_reads' HO770.out).2.1); rintro e w20 ⟨rfl, hb⟩; refine ⟨_, rfl, ?_⟩; replace HO766 := tRb HO766 hb; replace HO770 := tRb HO770 hb; replace HB := tBs HB hb; (try clear hb); (try clear hb2); (try clear hk); (try clear hi)) | ((with_reducible refine gate_callee (f := 17) rfl ?_); refine goesL_ (some 28) rfl rfl Try.func17 (by kernel_rfl) rfl #[.slice A0 l0.length c0] rfl tq ?_; (with_reducible refine (laws_toBatchS.calls k _ _ l0 t772 _ ?side1 ?side2 A11.out).mono ?_); (case side1 => exact tC (Kd.C_below HR0.out HB.out)); (case side2 => exact HC0.out); rintro e w21 ⟨v773, rfl, ho0, hb⟩; have u_v773 := tsv Try.prog v773 ho0; refine ⟨_, rfl, ?_⟩; have HO774 := Aside0.mk (Kd.R_lower (Kd.R_new' (Kd.R_new' ho0 (Kd.R_lt (tR HO766.out))) (Kd.R_lt (tR HO770.out))) (below_size zb)); replace HO766 := Aside0.mk (Kd.R_elder' (tR HO766.out) (Kd.R_base ho0) hb); replace HO770 := Aside0.mk (Kd.R_elder' (tR HO770.out) (Kd.R_base ho0) hb); replace HB := tBs HB hb; (try clear hb); (try clear hb2); (try clear hk); (try clear hi); (try clear ho0); obtain ⟨Ao22, co22, eo22⟩ := Kd.R_slice HO774.out; subst eo22) | ((with_reducible refine gate_callee (f := 18) rfl ?_); refine goesL_ (some 29) rfl rfl Try.func18 (by kernel_rfl) rfl #[.slice Ao19 t768.length co19, .slice Ao22 t772.length co22] rfl tq ?_; (with_reducible refine (laws_eqBatchS.calls k _ _ t768 _ _ t772 true _ ?side1 ?side2 ?side3 ?side4 A12.out).mono ?_); (case side1 => repeat (first | exact (Kd.R_reads' HO770.out).2.2 | (with_reducible refine Kd.C_alloc ?_ _) | (with_reducible refine Kd.C_drewN ?_ _) | (with_reducible refine Kd.C_drew ?_))); (case side2 => exact (Kd.R_reads' HO770.out).2.1); (case side3 => repeat (first | exact (Kd.R_reads' HO774.out).2.2 | (with_reducible refine Kd.C_alloc ?_ _) | (with_reducible refine Kd.C_drewN ?_ _) | (with_reducible refine Kd.C_drew ?_))); (case side4 => exact (Kd.R_reads' HO774.out).2.1); rintro e w23 ⟨rfl, hb⟩; refine ⟨_, rfl, ?_⟩; replace HO766 := tRb HO766 hb; replace HO770 := tRb HO770 hb; replace HO774 := tRb HO774 hb; replace HB := tBs HB hb; (try clear hb); (try clear hb2); (try clear hk); (try clear hi)))
    all_goals go_ret
    all_goals exact ⟨by first | rfl | (simp [errW_none, errW_some] <;> rfl) | (simp [*, errW_none, errW_some] <;> rfl), zb⟩
   ·replace c13 := Bool.eq_false_iff.mpr c13
    subst c13
    rw [if_neg (show ¬ (false = true) by decide)] at H
    obtain rfl := Option.some.inj H
    go_enter Try.func8, Try.ntmps8
    go_wp2_with (first | ((with_reducible refine gate_callee (f := 16) rfl ?_); refine goesL_ (some 11) rfl rfl Try.func16 (by kernel_rfl) rfl #[.slice A0 l0.length c0, .int .i64 1048576] rfl tq ?_; (with_reducible refine (laws_szBatchS.calls k _ _ l0 1048576 t763 _ ?side1 ?side2 A3.out).mono ?_); (case side1 => exact tC HR0.out); (case side2 => exact HC0.out); rintro e w24 ⟨rfl, hb⟩; refine ⟨_, rfl, ?_⟩; replace HB := tBs HB hb; (try clear hb); (try clear hb2); (try clear hk); (try clear hi)) | ((with_reducible refine gate_callee (f := 17) rfl ?_); refine goesL_ (some 15) rfl rfl Try.func17 (by kernel_rfl) rfl #[.slice A0 l0.length c0] rfl tq ?_; (with_reducible refine (laws_toBatchS.calls k _ _ l0 t764 _ ?side1 ?side2 A6.out).mono ?_); (case side1 => exact tC (Kd.C_below HR0.out HB.out)); (case side2 => exact HC0.out); rintro e w25 ⟨v765, rfl, ho0, hb⟩; have u_v765 := tsv Try.prog v765 ho0; refine ⟨_, rfl, ?_⟩; have HO766 := tRl ho0 HB; replace HB := tBs HB hb; (try clear hb); (try clear hb2); (try clear hk); (try clear hi); (try clear ho0); obtain ⟨Ao26, co26, eo26⟩ := Kd.R_slice HO766.out; subst eo26) | ((with_reducible refine gate_callee (f := 15) rfl ?_); refine goesL_ (some 17) rfl rfl Try.func15 (by kernel_rfl) rfl #[.slice Ao26 t764.length co26, .int .i64 a1] rfl tq ?_; (with_reducible refine (spec_KeepSize.calls k _ _ t764 a1 t767 _ ?side1 ?side2 A7.out).mono ?_); (case side1 => repeat (first | exact (Kd.R_reads' HO766.out).2.2 | (with_reducible refine Kd.C_alloc ?_ _) | (with_reducible refine Kd.C_drewN ?_ _) | (with_reducible refine Kd.C_drew ?_))); (case side2 => exact (Kd.R_reads' HO766.out).2.1); rintro e w27 ⟨rfl, hb⟩; refine ⟨_, rfl, ?_⟩; replace HO766 := tRb HO766 hb; replace HB := tBs HB hb; (try clear hb); (try clear hb2); (try clear hk); (try clear hi)) | ((with_reducible refine gate_callee (f := 17) rfl ?_); refine goesL_ (some 19) rfl rfl Try.func17 (by kernel_rfl) rfl #[.slice A0 l0.length c0] rfl tq ?_; (with_reducible refine (laws_toBatchS.calls k _ _ l0 t768 _ ?side1 ?side2 A8.out).mono ?_); (case side1 => exact tC (Kd.C_below HR0.out HB.out)); (case side2 => exact HC0.out); rintro e w28 ⟨v769, rfl, ho0, hb⟩; have u_v769 := tsv Try.prog v769 ho0; refine ⟨_, rfl, ?_⟩; have HO770 := Aside0.mk (Kd.R_lower (Kd.R_new' ho0 (Kd.R_lt (tR HO766.out))) (below_size zb)); replace HO766 := Aside0.mk (Kd.R_elder' (tR HO766.out) (Kd.R_base ho0) hb); replace HB := tBs HB hb; (try clear hb); (try clear hb2); (try clear hk); (try clear hi); (try clear ho0); obtain ⟨Ao29, co29, eo29⟩ := Kd.R_slice HO770.out; subst eo29) | ((with_reducible refine gate_callee (f := 14) rfl ?_); refine goesL_ (some 22) rfl rfl Try.func14 (by kernel_rfl) rfl #[.slice Ao29 t768.length co29, .int .i64 a1] rfl tq ?_; (with_reducible refine (impl_KeepSize.calls k _ _ t768 a1 t771 _ ?side1 ?side2 A9.out).mono ?_); (case side1 => repeat (first | exact (Kd.R_reads' HO770.out).2.2 | (with_reducible refine Kd.C_alloc ?_ _) | (with_reducible refine Kd.C_drewN ?_ _) | (with_reducible refine Kd.C_drew ?_))); (case side2 => exact (Kd.R_reads' HO770.out).2.1); rintro e w30 ⟨rfl, hb⟩; refine ⟨_, rfl, ?_⟩; replace HO766 := tRb HO766 hb; replace HO770 := tRb HO770 hb; replace HB := tBs HB hb; (try clear hb); (try clear hb2); (try clear hk); (try clear hi)) | ((with_reducible refine gate_callee (f := 17) rfl ?_); refine goesL_ (some 28) rfl rfl Try.func17 (by kernel_rfl) rfl #[.slice A0 l0.length c0] rfl tq ?_; (with_reducible refine (laws_toBatchS.calls k _ _ l0 t772 _ ?side1 ?side2 A11.out).mono ?_); (case side1 => exact tC (Kd.C_below HR0.out HB.out)); (case side2 => exact HC0.out); rintro e w31 ⟨v773, rfl, ho0, hb⟩; have u_v773 := tsv Try.prog v773 ho0; refine ⟨_, rfl, ?_⟩; have HO774 := Aside0.mk (Kd.R_lower (Kd.R_new' (Kd.R_new' ho0 (Kd.R_lt (tR HO766.out))) (Kd.R_lt (tR HO770.out))) (below_size zb)); replace HO766 := Aside0.mk (Kd.R_elder' (tR HO766.out) (Kd.R_base ho0) hb); replace HO770 := Aside0.mk (Kd.R_elder' (tR HO770.out) (Kd.R_base ho0) hb); replace HB := tBs HB hb; (try clear hb); (try clear hb2); (try clear hk); (try clear hi); (try clear ho0); obtain ⟨Ao32, co32, eo32⟩ := Kd.R_slice HO774.out; subst eo32) | ((with_reducible refine gate_callee (f := 18) rfl ?_); refine goesL_ (some 29) rfl rfl Try.func18 (by kernel_rfl) rfl #[.slice Ao29 t768.length co29, .slice Ao32 t772.length co32] rfl tq ?_; (with_reducible refine (laws_eqBatchS.calls k _ _ t768 _ _ t772 false _ ?side1 ?side2 ?side3 ?side4 A12.out).mono ?_); (case side1 => repeat (first | exact (Kd.R_reads' HO770.out).2.2 | (with_reducible refine Kd.C_alloc ?_ _) | (with_reducible refine Kd.C_drewN ?_ _) | (with_reducible refine Kd.C_drew ?_))); (case side2 => exact (Kd.R_reads' HO770.out).2.1); (case side3 => repeat (first | exact (Kd.R_reads' HO774.out).2.2 | (with_reducible refine Kd.C_alloc ?_ _) | (with_reducible refine Kd.C_drewN ?_ _) | (with_reducible refine Kd.C_drew ?_))); (case side4 => exact (Kd.R_reads' HO774.out).2.1); rintro e w33 ⟨rfl, hb⟩; refine ⟨_, rfl, ?_⟩; replace HO766 := tRb HO766 hb; replace HO770 := tRb HO770 hb; replace HO774 := tRb HO774 hb; replace HB := tBs HB hb; (try clear hb); (try clear hb2); (try clear hk); (try clear hi)))
    all_goals go_ret
    all_goals exact ⟨by first | rfl | (simp [errW_none, errW_some] <;> rfl) | (simp [*, errW_none, errW_some] <;> rfl), zb⟩
  ·rw [if_neg c10] at H
   have c10b0 : (t771 == t767) = false := beq_eq_false_iff_ne.mpr c10
   have c10b1 : (t771 != t767) = true := bne_iff_ne.mpr c10
   obtain rfl := Option.some.inj H
   go_enter Try.func8, Try.ntmps8
   go_wp2_with (first | ((with_reducible refine gate_callee (f := 16) rfl ?_); refine goesL_ (some 11) rfl rfl Try.func16 (by kernel_rfl) rfl #[.slice A0 l0.length c0, .int .i64 1048576] rfl tq ?_; (with_reducible refine (laws_szBatchS.calls k _ _ l0 1048576 t763 _ ?side1 ?side2 A3.out).mono ?_); (case side1 => exact tC HR0.out); (case side2 => exact HC0.out); rintro e w34 ⟨rfl, hb⟩; refine ⟨_, rfl, ?_⟩; replace HB := tBs HB hb; (try clear hb); (try clear hb2); (try clear hk); (try clear hi)) | ((with_reducible refine gate_callee (f := 17) rfl ?_); refine goesL_ (some 15) rfl rfl Try.func17 (by kernel_rfl) rfl #[.slice A0 l0.length c0] rfl tq ?_; (with_reducible refine (laws_toBatchS.calls k _ _ l0 t764 _ ?side1 ?side2 A6.out).mono ?_); (case side1 => exact tC (Kd.C_below HR0.out HB.out)); (case side2 => exact HC0.out); rintro e w35 ⟨v765, rfl, ho0, hb⟩; have u_v765 := tsv Try.prog v765 ho0; refine ⟨_, rfl, ?_⟩; have HO766 := tRl ho0 HB; replace HB := tBs HB hb; (try clear hb); (try clear hb2); (try clear hk); (try clear hi); (try clear ho0); obtain ⟨Ao36, co36, eo36⟩ := Kd.R_slice HO766.out; subst eo36) | ((with_reducible refine gate_callee (f := 15) rfl ?_); refine goesL_ (some 17) rfl rfl Try.func15 (by kernel_rfl) rfl #[.slice Ao36 t764.length co36, .int .i64 a1] rfl tq ?_; (with_reducible refine (spec_KeepSize.calls k _ _ t764 a1 t767 _ ?side1 ?side2 A7.out).mono ?_); (case side1 => repeat (first | exact (Kd.R_reads' HO766.out).2.2 | (with_reducible refine Kd.C_alloc ?_ _) | (with_reducible refine Kd.C_drewN ?_ _) | (with_reducible refine Kd.C_drew ?_))); (case side2 => exact (Kd.R_reads' HO766.out).2.1); rintro e w37 ⟨rfl, hb⟩; refine ⟨_, rfl, ?_⟩; replace HO766 := tRb HO766 hb; replace HB := tBs HB hb; (try clear hb); (try clear hb2); (try clear hk); (try clear hi)) | ((with_reducible refine gate_callee (f := 17) rfl ?_); refine goesL_ (some 19) rfl rfl Try.func17 (by kernel_rfl) rfl #[.slice A0 l0.length c0] rfl tq ?_; (with_reducible refine (laws_toBatchS.calls k _ _ l0 t768 _ ?side1 ?side2 A8.out).mono ?_); (case side1 => exact tC (Kd.C_below HR0.out HB.out)); (case side2 => exact HC0.out); rintro e w38 ⟨v769, rfl, ho0, hb⟩; have u_v769 := tsv Try.prog v769 ho0; refine ⟨_, rfl, ?_⟩; have HO770 := Aside0.mk (Kd.R_lower (Kd.R_new' ho0 (Kd.R_lt (tR HO766.out))) (below_size zb)); replace HO766 := Aside0.mk (Kd.R_elder' (tR HO766.out) (Kd.R_base ho0) hb); replace HB := tBs HB hb; (try clear hb); (try clear hb2); (try clear hk); (try clear hi); (try clear ho0); obtain ⟨Ao39, co39, eo39⟩ := Kd.R_slice HO770.out; subst eo39) | ((with_reducible refine gate_callee (f := 14) rfl ?_); refine goesL_ (some 22) rfl rfl Try.func14 (by kernel_rfl) rfl #[.slice Ao39 t768.length co39, .int .i64 a1] rfl tq ?_; (with_reducible refine (impl_KeepSize.calls k _ _ t768 a1 t771 _ ?side1 ?side2 A9.out).mono ?_); (case side1 => repeat (first | exact (Kd.R_reads' HO770.out).2.2 | (with_reducible refine Kd.C_alloc ?_ _) | (with_reducible refine Kd.C_drewN ?_ _) | (with_reducible refine Kd.C_drew ?_))); (case side2 => exact (Kd.R_reads' HO770.out).2.1); rintro e w40 ⟨rfl, hb⟩; refine ⟨_, rfl, ?_⟩; replace HO766 := tRb HO766 hb; replace HO770 := tRb HO770 hb; replace HB := tBs HB hb; (try clear hb); (try clear hb2); (try clear hk); (try clear hi)))
   all_goals go_ret
   all_goals exact ⟨by first | rfl | (simp [errW_none, errW_some] <;> rfl) | (simp [*, errW_none, errW_some] <;> rfl), zb⟩

end Go.Proofs.Ythoioccmnphfgaa.G

namespace Go.Proofs.Ythoioccmnphfgaa.Rd
open Go.RowKit Go.Proofs.YthoioccmnphfgaaW.PrintWords
set_option linter.unusedVariables false
section
variable {H : Type} {enc : TypeId × Value → H} {P : Program} {w : World} {base : Nat} {spare : Nat → Bool} {held : Bool}
/-- What a reading of type t gives: a value of the kind, and what is known of it. -/
def Opens (enc : TypeId × Value → H) (P : Program) (w : World) (base : Nat) (spare : Nat → Bool) (held : Bool) {α : Type} (t : TypeId) (d : Kd α) (ok : α → Prop) : Prop :=
  P.cellsOf t = d.sz ∧ ∀ fuel cs x, DataW.trod enc P w base spare held fuel t cs = some x → ∃ v, d.K w v cs ∧ ok v
theorem Opens.imp_ {α : Type} {t : TypeId} {d : Kd α} {ok ok' : α → Prop} (h : Opens enc P w base spare held t d ok) (hi : ∀ v, ok v → ok' v) : Opens enc P w base spare held t d ok' :=
  ⟨h.1, fun fuel cs x hx => by
    obtain ⟨v, hk, ho⟩ := h.2 fuel cs x hx
    exact ⟨v, hk, hi v ho⟩⟩
theorem opens_int {t : TypeId} {k : IntKind} (ht : P.underlying t = some (.int k)) (hc : P.cellsOf t = 1) : Opens enc P w base spare held t (Kd.int k) (fun n => (Lit.int k n).wf = true) := by
  refine ⟨hc, fun fuel cs x h => ?_⟩
  obtain ⟨n, rfl, _, hw⟩ := DataW.trod_int ht h
  exact ⟨n, rfl, hw⟩
theorem opens_bool {t : TypeId} (ht : P.underlying t = some .bool) (hc : P.cellsOf t = 1) : Opens enc P w base spare held t Kd.bool (fun _ => True) := by
  refine ⟨hc, fun fuel cs x h => ?_⟩
  obtain ⟨n, rfl, _⟩ := DataW.trod_bool ht h
  exact ⟨n, rfl, trivial⟩
theorem cells_len {base : Nat} {a : Addr} {n : Nat} {cs : List Value} (h : w.cells? base a n = some cs) : cs.length = n ∧ ∀ i u, cs[i]? = some u → w.cell? (a.add i) = some u := by
  unfold World.cells? at h
  split at h
  · rename_i hb
    refine ⟨by simpa using mapM_some_length h, fun i u hu => ?_⟩
    have hi : i < n := by
      have := (List.getElem?_eq_some_iff.1 hu).1
      have h2 : cs.length = n := by simpa using mapM_some_length h
      omega
    have := mapM_some_get h i i (by simp [hi])
    rw [hu] at this
    exact this
  · simp at h
theorem opens_row {α : Type} {t e : TypeId} {d : Kd α} {ok : α → Prop} (ht : P.underlying t = some (.slice e)) (hd : Opens enc P w base spare held e d ok) {fuel : Nat} {cs : List Value} {x : DataW H × List MemPlace}
    (h : DataW.trod enc P w base spare held fuel t cs = some x) : ∃ (A : Option Addr) (c : Nat) (xs : List α), cs = [.slice A xs.length c] ∧ xs.length ≤ c ∧ c ≤ maxLen ∧ d.C w A xs.length xs ∧ ∀ y ∈ xs, ok y := by
  rcases Go.Deep.open_slice ht h with ⟨rfl, _⟩ | ⟨a, len, cap, m, n, D, Pl, rfl, hb, hl, hm, hmm, _, hel⟩
  · exact ⟨none, 0, [], rfl, Nat.le_refl _, by unfold maxLen; omega, ⟨rfl, by simp, fun h0 => absurd h0 (by simp)⟩, by simp⟩
  have hlm : len ≤ m := by rw [hmm]; split <;> omega
  have hx : ∀ i, i < len → ∃ y : α, ok y ∧ ∃ c, c.length = d.sz ∧ d.K w y c ∧ ∀ j u, c[j]? = some u → w.cell? (a.add (i * d.sz + j)) = some u := by
    intro i hi
    obtain ⟨cs', h1, h2⟩ := hel i (by omega)
    obtain ⟨y, hk, ho⟩ := hd.2 _ _ _ h2
    obtain ⟨hl', hc'⟩ := cells_len h1
    refine ⟨y, ho, cs', by rw [hl', hd.1], hk, fun j u hu => ?_⟩
    have := hc' j u hu
    rw [Go.Deep.add_add, hd.1] at this
    exact this
  rcases Nat.eq_zero_or_pos len with h0 | h0
  · subst h0
    exact ⟨some a, cap, [], rfl, Nat.zero_le _, hm, ⟨rfl, by simp, fun h1 => absurd h1 (by simp)⟩, by simp⟩
  obtain ⟨y0, _⟩ := hx 0 h0
  haveI : Inhabited α := ⟨y0⟩
  obtain ⟨g, hg⟩ := Go.Deep.choose_lt hx
  have hlen : ((List.range len).map g).length = len := by simp
  refine ⟨some a, cap, (List.range len).map g, by rw [hlen], by rw [hlen]; exact hl, hm, ⟨rfl, by rw [hlen]; unfold maxLen at hm; omega, fun _ => ⟨a, rfl, fun j p hj => ?_⟩⟩, fun y hy => ?_⟩
  · have hj' : j < len := by
      have := (List.getElem?_eq_some_iff.1 hj).1
      omega
    rw [List.getElem?_map, List.getElem?_range hj'] at hj
    simp at hj
    subst hj
    obtain ⟨_, c, hc1, hc2, hc3⟩ := hg j hj'
    exact ⟨c, hc1, hc2, hc3⟩
  · obtain ⟨i, hi, rfl⟩ := List.mem_map.1 hy
    exact (hg i (List.mem_range.1 hi)).1
theorem opens_slice {α : Type} {t e : TypeId} {d : Kd α} {ok : α → Prop} (ht : P.underlying t = some (.slice e)) (hc : P.cellsOf t = 1) (hd : Opens enc P w base spare held e d ok) :
    Opens enc P w base spare held t (Kd.slice e d) (fun xs => xs.length ≤ maxLen ∧ ∀ y ∈ xs, ok y) := by
  refine ⟨hc, fun fuel cs x h => ?_⟩
  obtain ⟨A, c, xs, rfl, hl, hm, hC, ho⟩ := opens_row ht hd h
  exact ⟨xs, ⟨A, c, rfl, hl, hC⟩, Nat.le_trans hl hm, ho⟩
/-- A struct's fields, one behind the other, from a place of its cells on. -/
def OpensAt (enc : TypeId × Value → H) (P : Program) (w : World) (base : Nat) (spare : Nat → Bool) (held : Bool) {α : Type} (fs : List Field) (off : Nat) (d : Kd α) (ok : α → Prop) : Prop :=
  ∀ n (cs : List Value), cs.length = off + d.sz → (∀ f ∈ fs, ∃ x, DataW.trod enc P w base spare held n f.type ((cs.drop f.offset).take (P.cellsOf f.type)) = some x) → ∃ v, d.K w v (cs.drop off) ∧ ok v
theorem opens_last {α : Type} {f : Field} {off : Nat} {d : Kd α} {ok : α → Prop} (ho : f.offset = off) (hd : Opens enc P w base spare held f.type d ok) : OpensAt enc P w base spare held [f] off d ok := by
  intro n cs hl h
  obtain ⟨x, hx⟩ := h f (by simp)
  obtain ⟨v, hk, hok⟩ := hd.2 _ _ _ hx
  rw [ho, hd.1, List.take_of_length_le (by rw [List.length_drop]; omega)] at hk
  exact ⟨v, hk, hok⟩
theorem opens_more {α β : Type} {f : Field} {fs : List Field} {off : Nat} {d : Kd α} {d' : Kd β} {ok : α → Prop} {ok' : β → Prop} (ho : f.offset = off) (hd : Opens enc P w base spare held f.type d ok) (hr : OpensAt enc P w base spare held fs (off + d.sz) d' ok') :
    OpensAt enc P w base spare held (f :: fs) off (Kd.pair d d') (fun v => ok v.1 ∧ ok' v.2) := by
  intro n cs hl h
  have hl' : cs.length = off + (d.sz + d'.sz) := hl
  obtain ⟨x, hx⟩ := h f (by simp)
  obtain ⟨v, hk, hok⟩ := hd.2 _ _ _ hx
  obtain ⟨v', hk', hok'⟩ := hr n cs (by omega) (fun g hg => h g (by simp [hg]))
  rw [ho, hd.1] at hk
  refine ⟨(v, v'), ⟨_, _, ?_, hk, hk'⟩, hok, hok'⟩
  rw [← List.drop_drop, List.take_append_drop]
theorem opens_struct {α β : Type} {t : TypeId} {fs : Array Field} {d : Kd α} {f : β → α} {g : α → β} {ok : α → Prop} (ht : P.underlying t = some (.struct fs)) (hc : P.cellsOf t = d.sz) (hfg : ∀ a, f (g a) = a) (h : OpensAt enc P w base spare held fs.toList 0 d ok) :
    Opens enc P w base spare held t (Kd.iso d f) (fun v => ok (f v)) := by
  refine ⟨hc, fun fuel cs x hx => ?_⟩
  obtain ⟨xs, n, _, _, hl, hxs, hf⟩ := DataW.trod_struct ht hx
  obtain ⟨v, hk, hok⟩ := h n cs (by rw [hl, hc]; omega) (fun fl hfl => by
    obtain ⟨i, hi, rfl⟩ := List.getElem_of_mem hfl
    have hi' : i < fs.size := by simpa using hi
    refine ⟨xs[i]'(by omega), ?_⟩
    have := hf i fs[i] (by simp [hi'])
    rw [List.getElem?_eq_getElem (by omega)] at this
    simpa using this)
  refine ⟨g v, ?_, by show ok (f (g v)); rw [hfg]; exact hok⟩
  show d.K w (f (g v)) cs
  rw [hfg]
  simpa using hk
end
end Go.Proofs.Ythoioccmnphfgaa.Rd

namespace Go.Proofs.Ythoioccmnphfgaa.OFnExactKeepSize
open Go.RowKit Go.Proofs.YthoioccmnphfgaaW.PrintWords Go.Proofs.Ythoioccmnphfgaa.G
set_option linter.unusedVariables false
def Ok99 (x : S99) : Prop := ((Lit.int .i64 x.f0).wf = true) ∧ ((Lit.int .i64 x.f1).wf = true) ∧ (True) ∧ (x.f3.length ≤ maxLen ∧ ∀ y ∈ x.f3, (Lit.int .i64 y).wf = true) ∧ (True) ∧ (x.f5.length ≤ maxLen ∧ ∀ y ∈ x.f5, (Lit.int .i64 y).wf = true)
theorem open99 {H : Type} {enc : TypeId × Value → H} {w : World} {base : Nat} {spare : Nat → Bool} {held : Bool} : Rd.Opens enc Try.prog w base spare held 99 k99 Ok99 :=
  Rd.Opens.imp_ (Rd.opens_struct (g := fun p => (⟨p.1, p.2.1, p.2.2.1, p.2.2.2.1, p.2.2.2.2.1, p.2.2.2.2.2⟩ : S99)) Try.underlying99 (by kernel_rfl) (fun _ => rfl) (Rd.opens_more rfl (Rd.opens_int Try.underlying3 (by kernel_rfl)) (Rd.opens_more rfl (Rd.opens_int Try.underlying3 (by kernel_rfl)) (Rd.opens_more rfl (Rd.opens_bool Try.underlying4 (by kernel_rfl)) (Rd.opens_more rfl (Rd.opens_slice Try.underlying26 (by kernel_rfl) (Rd.opens_int Try.underlying3 (by kernel_rfl))) (Rd.opens_more rfl (Rd.opens_bool Try.underlying4 (by kernel_rfl)) (Rd.opens_last rfl (Rd.opens_slice Try.underlying26 (by kernel_rfl) (Rd.opens_int Try.underlying3 (by kernel_rfl)))))))))) (fun _ h => h)
def Ok56 (x : S56) : Prop := (True) ∧ (True) ∧ ((Lit.int .i64 x.f2).wf = true) ∧ ((Lit.int .i64 x.f3).wf = true) ∧ ((Lit.int .i64 x.f4).wf = true) ∧ (x.f5.length ≤ maxLen ∧ ∀ y ∈ x.f5, Ok99 y)
theorem open56 {H : Type} {enc : TypeId × Value → H} {w : World} {base : Nat} {spare : Nat → Bool} {held : Bool} : Rd.Opens enc Try.prog w base spare held 56 k56 Ok56 :=
  Rd.Opens.imp_ (Rd.opens_struct (g := fun p => (⟨p.1, p.2.1, p.2.2.1, p.2.2.2.1, p.2.2.2.2.1, p.2.2.2.2.2⟩ : S56)) Try.underlying56 (by kernel_rfl) (fun _ => rfl) (Rd.opens_more rfl (Rd.opens_bool Try.underlying4 (by kernel_rfl)) (Rd.opens_more rfl (Rd.opens_bool Try.underlying4 (by kernel_rfl)) (Rd.opens_more rfl (Rd.opens_int Try.underlying3 (by kernel_rfl)) (Rd.opens_more rfl (Rd.opens_int Try.underlying3 (by kernel_rfl)) (Rd.opens_more rfl (Rd.opens_int Try.underlying3 (by kernel_rfl)) (Rd.opens_last rfl (Rd.opens_slice Try.underlying54 (by kernel_rfl) open99)))))))) (fun _ h => h)
def Pure : Prop := ∀ (l0 : List (S56)) (a1 : Int), l0.length ≤ maxLen → (∀ y ∈ l0, Ok56 y) → (Lit.int .i64 a1).wf = true → ∃ k, laws_FnExactKeepSize.f k l0 a1 = some true
end Go.Proofs.Ythoioccmnphfgaa.OFnExactKeepSize

namespace Go.Proofs.Ythoioccmnphfgaa.Pu
open Go.RowKit Go.Proofs.YthoioccmnphfgaaW.PrintWords Go.Proofs.YthoioccmnphfgaaW.PrintLast Go.Proofs.Ythoioccmnphfgaa.G
set_option linter.unusedVariables false
set_option linter.unusedSimpArgs false
def cvR (r : S99) : S63 := ⟨r.f0, r.f1, r.f2, r.f3, r.f4, r.f5⟩
theorem rdLR_nat (l : List S99) (i : Nat) (h : i < l.length) : rd_T99 l (i : Int) = l[i] := by
  unfold rd_T99
  simp [h]
theorem szIntS_some (l : List Int) (a : Int) (hl : l.length ≤ 9223372036854775807) (h0 : 0 ≤ a) (h1 : a ≤ 1048576) :
    laws_szIntS.f l a = some (if a - (l.length : Int) < 0 then -1 else a - (l.length : Int)) := by
  unfold laws_szIntS.f
  rw [w64 (a := a - (l.length : Int)) (by omega) (by omega)]
  split <;> rfl
/-- What a row of sizes tells: it is too much, or something is left and all is small. -/
def SzR (r : S99) : Prop := r.f3.length ≤ 1048576 ∧ r.f5.length ≤ 1048576
theorem szRecord_some (r : S99) (a : Int) (hl : r.f3.length ≤ 9223372036854775807 ∧ r.f5.length ≤ 9223372036854775807) (h0 : 0 ≤ a) (h1 : a ≤ 1048576) :
    ∃ t, laws_szRecord.f r.f0 r.f1 r.f2 r.f3 r.f4 r.f5 a = some t ∧ (t < 0 ∨ (0 ≤ t ∧ t ≤ a ∧ SzR r)) := by
  unfold laws_szRecord.f
  rw [szIntS_some _ _ hl.1 h0 h1, bindS]
  by_cases h : a - (r.f3.length : Int) < 0
  · rw [if_pos h, if_pos (by omega)]
    exact ⟨_, rfl, .inl (by omega)⟩
  · rw [if_neg h, if_neg h, szIntS_some _ _ hl.2 (by omega) (by omega), bindS]
    by_cases h2 : a - (r.f3.length : Int) - (r.f5.length : Int) < 0
    · rw [if_pos h2, if_pos (by omega)]
      exact ⟨_, rfl, .inl (by omega)⟩
    · rw [if_neg h2, if_neg h2]
      exact ⟨_, rfl, .inr ⟨by omega, by omega, by omega, by omega⟩⟩
theorem szRecordS_loop (l : List S99) (hl : l.length ≤ 9223372036854775807) (hs : ∀ r ∈ l, r.f3.length ≤ 9223372036854775807 ∧ r.f5.length ≤ 9223372036854775807) : ∀ d i (a : Int), l.length - i = d → 0 ≤ a → a ≤ 1048576 →
    EndsIn (fun k => laws_szRecordS.l0 k l a (i : Int)) (fun t => t < 0 ∨ (0 ≤ t ∧ t ≤ a ∧ ∀ r ∈ l.drop i, SzR r)) := by
  intro d
  induction d with
  | zero =>
    intro i a hi h0 h1
    refine EndsIn.step (fun k => by rw [laws_szRecordS.l0]) ?_
    simp only [if_neg (show ¬ ((i : Int) < (l.length : Int)) by omega)]
    refine EndsIn.now _ (.inr ⟨h0, by omega, ?_⟩)
    rw [List.drop_of_length_le (by omega)]
    simp
  | succ d ih =>
    intro i a hi h0 h1
    have hlt : i < l.length := by omega
    refine EndsIn.step (fun k => by rw [laws_szRecordS.l0]) ?_
    obtain ⟨t, ht, hc⟩ := szRecord_some l[i] a (hs _ (List.getElem_mem hlt)) h0 h1
    simp only [if_pos (show ((i : Int) < (l.length : Int)) by omega), if_pos (show (0 : Int) ≤ (i : Int) by omega), rdLR_nat l i hlt, ht, bindS, w64 (a := (i : Int) + 1) (by omega) (by omega)]
    rcases hc with h | ⟨h2, h3, h4⟩
    · simp only [if_pos h]
      exact EndsIn.now _ (.inl (by omega))
    · simp only [if_neg (show ¬ t < 0 by omega)]
      refine (ih (i + 1) t (by omega) h2 (by omega)).mono fun q hq => ?_
      rcases hq with hq | ⟨q0, q1, q2⟩
      · exact .inl hq
      · refine .inr ⟨q0, by omega, ?_⟩
        rw [List.drop_eq_getElem_cons hlt]
        intro g hg
        rcases List.mem_cons.1 hg with rfl | hg
        · exact h4
        · exact q2 g hg
theorem szRecordS_ends (l : List S99) (hl : l.length ≤ 9223372036854775807) (hs : ∀ r ∈ l, r.f3.length ≤ 9223372036854775807 ∧ r.f5.length ≤ 9223372036854775807) (a : Int) (h0 : 0 ≤ a) (h1 : a ≤ 1048576) :
    EndsIn (fun k => laws_szRecordS.f k l a) (fun t => t < 0 ∨ (0 ≤ t ∧ t ≤ a ∧ l.length ≤ 1048576 ∧ ∀ r ∈ l, SzR r)) := by
  unfold laws_szRecordS.f
  rw [w64 (a := a - (l.length : Int)) (by omega) (by omega)]
  by_cases h : a - (l.length : Int) < 0
  · simp only [if_pos h]
    exact EndsIn.now _ (.inl (by omega))
  · simp only [if_neg h]
    refine (szRecordS_loop l hl hs l.length 0 _ (by omega) (by omega) (by omega)).mono fun r hr => ?_
    rcases hr with hr | ⟨q0, q1, q2⟩
    · exact .inl hr
    · exact .inr ⟨q0, by omega, by omega, by simpa using q2⟩
theorem toIntS_loop (l : List Int) (hl : l.length ≤ 1048576) : ∀ d i, l.length - i = d → i ≤ l.length →
    Ev (fun k => laws_toIntS.l0 k l ((l.take i).map (fun x => x) ++ List.replicate (l.length - i) 0) (i : Int)) l := by
  intro d
  induction d with
  | zero =>
    intro i hi hle
    obtain rfl : i = l.length := by omega
    refine Ev.step (fun k => by rw [laws_toIntS.l0]) ?_
    simp only [if_neg (show ¬ ((l.length : Int) < (l.length : Int)) by omega), List.take_length, Nat.sub_self, List.replicate_zero, List.append_nil, List.map_id']
    exact Ev.now _
  | succ d ih =>
    intro i hi hle
    have hlt : i < l.length := by omega
    refine Ev.step (fun k => by rw [laws_toIntS.l0]) ?_
    simp only [if_pos (show ((i : Int) < (l.length : Int)) by omega), if_pos (show (0 : Int) ≤ (i : Int) by omega), rdi_nat l i hlt, fill_len (fun x : Int => x) 0 l i hle, w64 (a := (i : Int) + 1) (by omega) (by omega), Int.toNat_natCast]
    have := ih (i + 1) (by omega) (by omega)
    rw [← fill_set (fun x : Int => x) 0 l i hlt] at this
    exact this
theorem toIntS_ev (l : List Int) (hl : l.length ≤ 1048576) : Ev (fun k => laws_toIntS.f k l) l := by
  unfold laws_toIntS.f
  simp only [if_pos (show (0 : Int) ≤ (l.length : Int) by omega), Int.toNat_natCast, if_pos (show l.length ≤ 35184372088832 by omega)]
  have := toIntS_loop l hl l.length 0 (by omega) (by omega)
  simpa using this
theorem toRecord_ev (r : S99) (h : SzR r) : Ev (fun k => laws_toRecord.f k r.f0 r.f1 r.f2 r.f3 r.f4 r.f5) (r.f0, r.f1, r.f2, r.f3, r.f4, r.f5) := by
  unfold laws_toRecord.f
  exact Ev.bind (toIntS_ev _ h.1) (Ev.bind (toIntS_ev _ h.2) (Ev.now _))
theorem toRecordS_loop (l : List S99) (hl : l.length ≤ 1048576) (hs : ∀ r ∈ l, SzR r) : ∀ d i, l.length - i = d → i ≤ l.length →
    Ev (fun k => laws_toRecordS.l0 k l ((l.take i).map cvR ++ List.replicate (l.length - i) z63) (i : Int)) (l.map cvR) := by
  intro d
  induction d with
  | zero =>
    intro i hi hle
    obtain rfl : i = l.length := by omega
    refine Ev.step (fun k => by rw [laws_toRecordS.l0]) ?_
    simp only [if_neg (show ¬ ((l.length : Int) < (l.length : Int)) by omega), List.take_length, Nat.sub_self, List.replicate_zero, List.append_nil]
    exact Ev.now _
  | succ d ih =>
    intro i hi hle
    have hlt : i < l.length := by omega
    refine Ev.step (fun k => by rw [laws_toRecordS.l0]) ?_
    simp only [if_pos (show ((i : Int) < (l.length : Int)) by omega), if_pos (show (0 : Int) ≤ (i : Int) by omega), rdLR_nat l i hlt, fill_len cvR z63 l i hle, w64 (a := (i : Int) + 1) (by omega) (by omega), Int.toNat_natCast]
    refine Ev.bind (toRecord_ev l[i] (hs _ (List.getElem_mem _))) ?_
    have := ih (i + 1) (by omega) (by omega)
    rw [← fill_set cvR z63 l i hlt] at this
    exact this
theorem toRecordS_ev (l : List S99) (hl : l.length ≤ 1048576) (hs : ∀ r ∈ l, SzR r) : Ev (fun k => laws_toRecordS.f k l) (l.map cvR) := by
  unfold laws_toRecordS.f
  simp only [if_pos (show (0 : Int) ≤ (l.length : Int) by omega), Int.toNat_natCast, if_pos (show l.length ≤ 3518437208883 by omega)]
  have := toRecordS_loop l hl hs l.length 0 (by omega) (by omega)
  simpa using this
theorem all_true {α} (l : List α) : l.all (fun _ => true) = true := List.all_eq_true.2 (fun _ _ => rfl)
theorem eqIntS_ev (l : List Int) (hl : l.length ≤ 9223372036854775807) : Ev (fun k => laws_eqIntS.f k l l) true := by
  unfold laws_eqIntS.f
  simp only [if_true]
  have := ev_all l hl (fun k i => laws_eqIntS.l0 k l l i) (fun k i => some true) (fun _ => true) true
    (fun k => by simp only [laws_eqIntS.l0]; rw [if_neg (by omega)])
    (fun k i h => by simp only [laws_eqIntS.l0]; rw [if_pos (by omega), if_pos (by omega), if_pos (by omega), if_true]; rfl)
    (fun i h => Ev.now _) l.length 0 (by omega) (by omega)
  rw [all_true] at this
  simpa using this
theorem eqRecord_ev (r : S63) (h : Lens r) : Ev (fun k => laws_eqRecord.f k r.f0 r.f1 r.f2 r.f3 r.f4 r.f5 r.f0 r.f1 r.f2 r.f3 r.f4 r.f5) true := by
  unfold laws_eqRecord.f
  simp only [if_true, bne_self_eq_false, Bool.false_eq_true, if_false]
  refine Ev.bind (eqIntS_ev _ h.1) ?_
  simp only [if_true]
  exact Ev.bind (eqIntS_ev _ h.2) (Ev.now _)
theorem eqRecordS_ev (l : List S63) (hl : l.length ≤ 9223372036854775807) (hs : ∀ r ∈ l, Lens r) : Ev (fun k => laws_eqRecordS.f k l l) true := by
  unfold laws_eqRecordS.f
  simp only [if_true]
  have := ev_all l hl (fun k i => laws_eqRecordS.l0 k l l i) (fun k i => laws_eqRecord.f k (rd_T63 l i).f0 (rd_T63 l i).f1 (rd_T63 l i).f2 (rd_T63 l i).f3 (rd_T63 l i).f4 (rd_T63 l i).f5 (rd_T63 l i).f0 (rd_T63 l i).f1 (rd_T63 l i).f2 (rd_T63 l i).f3 (rd_T63 l i).f4 (rd_T63 l i).f5) (fun _ => true) true
    (fun k => by simp only [laws_eqRecordS.l0]; rw [if_neg (by omega)])
    (fun k i h => by simp only [laws_eqRecordS.l0]; rw [if_pos (by omega), if_pos (by omega), if_pos (by omega)])
    (fun i h => by rw [rdR_nat l i h]; exact eqRecord_ev _ (hs _ (List.getElem_mem _))) l.length 0 (by omega) (by omega)
  rw [all_true] at this
  simpa using this
theorem lens_cv {l : List S99} (hs : ∀ r ∈ l, SzR r) : ∀ r ∈ l.map cvR, Lens r := by
  intro r hr
  obtain ⟨x, hx, rfl⟩ := List.mem_map.1 hr
  have := hs x hx
  exact ⟨by have := this.1; show x.f3.length ≤ _; omega, by have := this.2; show x.f5.length ≤ _; omega⟩
end Go.Proofs.Ythoioccmnphfgaa.Pu

namespace Go.Proofs.Ythoioccmnphfgaa.Pu
open Go.RowKit Go.Proofs.YthoioccmnphfgaaW.PrintWords Go.Proofs.YthoioccmnphfgaaW.PrintLast Go.Proofs.YthoioccmnphfgaaW.PrintMore Go.Proofs.Ythoioccmnphfgaa.G
theorem LogValid_ev (l : List S46) (_ : RowB l) : Ev (fun k => impl_LogValid.f k l) (logOk l) := Ev.now _
theorem sLogValid_ev (l : List S46) (_ : RowB l) : Ev (fun k => spec_LogValid.f k l) (logOk l) := Ev.now _
end Go.Proofs.Ythoioccmnphfgaa.Pu

namespace Go.Proofs.Ythoioccmnphfgaa.Pu
open Go.RowKit Go.Proofs.YthoioccmnphfgaaW.PrintWords Go.Proofs.YthoioccmnphfgaaW.PrintLast Go.Proofs.Ythoioccmnphfgaa.G
set_option linter.unusedVariables false
set_option linter.unusedSimpArgs false
def cvB (b : S56) : S46 := ⟨b.f0, b.f1, b.f2, b.f3, b.f4, b.f5.map cvR⟩
theorem rdLB_nat (l : List S56) (i : Nat) (h : i < l.length) : rd_T56 l (i : Int) = l[i] := by
  unfold rd_T56
  simp [h]
def SzB (b : S56) : Prop := b.f5.length ≤ 1048576 ∧ ∀ r ∈ b.f5, SzR r
/-- Parts whose lengths can be told. -/
def LenB (b : S56) : Prop := b.f5.length ≤ 9223372036854775807 ∧ ∀ r ∈ b.f5, r.f3.length ≤ 9223372036854775807 ∧ r.f5.length ≤ 9223372036854775807
theorem szBatch_ends (b : S56) (hs : LenB b) (a : Int) (h0 : 0 ≤ a) (h1 : a ≤ 1048576) :
    EndsIn (fun k => laws_szBatch.f k b.f0 b.f1 b.f2 b.f3 b.f4 b.f5 a) (fun t => t < 0 ∨ (0 ≤ t ∧ t ≤ a ∧ SzB b)) := by
  unfold laws_szBatch.f
  refine EndsIn.bind (szRecordS_ends b.f5 hs.1 hs.2 a h0 h1) fun t ht => ?_
  by_cases h : t < 0
  · simp only [if_pos h]
    exact EndsIn.now _ (.inl (by omega))
  · simp only [if_neg h]
    obtain ⟨t0, t1, n, z⟩ := ht.resolve_left h
    exact EndsIn.now _ (.inr ⟨t0, t1, n, z⟩)
theorem szBatchS_loop (l : List S56) (hl : l.length ≤ 9223372036854775807) (hs : ∀ b ∈ l, LenB b) : ∀ d i (a : Int), l.length - i = d → 0 ≤ a → a ≤ 1048576 →
    EndsIn (fun k => laws_szBatchS.l0 k l a (i : Int)) (fun t => t < 0 ∨ (0 ≤ t ∧ t ≤ a ∧ ∀ r ∈ l.drop i, SzB r)) := by
  intro d
  induction d with
  | zero =>
    intro i a hi h0 h1
    refine EndsIn.step (fun k => by rw [laws_szBatchS.l0]) ?_
    simp only [if_neg (show ¬ ((i : Int) < (l.length : Int)) by omega)]
    refine EndsIn.now _ (.inr ⟨h0, by omega, ?_⟩)
    rw [List.drop_of_length_le (by omega)]
    simp
  | succ d ih =>
    intro i a hi h0 h1
    have hlt : i < l.length := by omega
    refine EndsIn.step (fun k => by rw [laws_szBatchS.l0]) ?_
    simp only [if_pos (show ((i : Int) < (l.length : Int)) by omega), if_pos (show (0 : Int) ≤ (i : Int) by omega), rdLB_nat l i hlt, w64 (a := (i : Int) + 1) (by omega) (by omega)]
    refine EndsIn.bind (szBatch_ends l[i] (hs _ (List.getElem_mem hlt)) a h0 h1) fun t hc => ?_
    by_cases h : t < 0
    · simp only [if_pos h]
      exact EndsIn.now _ (.inl (by omega))
    · obtain ⟨h2, h3, h4⟩ := hc.resolve_left h
      simp only [if_neg h]
      refine (ih (i + 1) t (by omega) h2 (by omega)).mono fun q hq => ?_
      rcases hq with hq | ⟨q0, q1, q2⟩
      · exact .inl hq
      · refine .inr ⟨q0, by omega, ?_⟩
        rw [List.drop_eq_getElem_cons hlt]
        intro g hg
        rcases List.mem_cons.1 hg with rfl | hg
        · exact h4
        · exact q2 g hg
theorem szBatchS_ends (l : List S56) (hl : l.length ≤ 9223372036854775807) (hs : ∀ b ∈ l, LenB b) (a : Int) (h0 : 0 ≤ a) (h1 : a ≤ 1048576) :
    EndsIn (fun k => laws_szBatchS.f k l a) (fun t => t < 0 ∨ (0 ≤ t ∧ t ≤ a ∧ l.length ≤ 1048576 ∧ ∀ r ∈ l, SzB r)) := by
  unfold laws_szBatchS.f
  rw [w64 (a := a - (l.length : Int)) (by omega) (by omega)]
  by_cases h : a - (l.length : Int) < 0
  · simp only [if_pos h]
    exact EndsIn.now _ (.inl (by omega))
  · simp only [if_neg h]
    refine (szBatchS_loop l hl hs l.length 0 _ (by omega) (by omega) (by omega)).mono fun r hr => ?_
    rcases hr with hr | ⟨q0, q1, q2⟩
    · exact .inl hr
    · exact .inr ⟨q0, by omega, by omega, by simpa using q2⟩
theorem toBatch_ev (b : S56) (h : SzB b) : Ev (fun k => laws_toBatch.f k b.f0 b.f1 b.f2 b.f3 b.f4 b.f5) (b.f0, b.f1, b.f2, b.f3, b.f4, b.f5.map cvR) := by
  unfold laws_toBatch.f
  exact Ev.bind (toRecordS_ev _ h.1 h.2) (Ev.now _)
theorem toBatchS_loop (l : List S56) (hl : l.length ≤ 1048576) (hs : ∀ r ∈ l, SzB r) : ∀ d i, l.length - i = d → i ≤ l.length →
    Ev (fun k => laws_toBatchS.l0 k l ((l.take i).map cvB ++ List.replicate (l.length - i) z46) (i : Int)) (l.map cvB) := by
  intro d
  induction d with
  | zero =>
    intro i hi hle
    obtain rfl : i = l.length := by omega
    refine Ev.step (fun k => by rw [laws_toBatchS.l0]) ?_
    simp only [if_neg (show ¬ ((l.length : Int) < (l.length : Int)) by omega), List.take_length, Nat.sub_self, List.replicate_zero, List.append_nil]
    exact Ev.now _
  | succ d ih =>
    intro i hi hle
    have hlt : i < l.length := by omega
    refine Ev.step (fun k => by rw [laws_toBatchS.l0]) ?_
    simp only [if_pos (show ((i : Int) < (l.length : Int)) by omega), if_pos (show (0 : Int) ≤ (i : Int) by omega), rdLB_nat l i hlt, fill_len cvB z46 l i hle, w64 (a := (i : Int) + 1) (by omega) (by omega), Int.toNat_natCast]
    refine Ev.bind (toBatch_ev l[i] (hs _ (List.getElem_mem _))) ?_
    have := ih (i + 1) (by omega) (by omega)
    rw [← fill_set cvB z46 l i hlt] at this
    exact this
theorem toBatchS_ev (l : List S56) (hl : l.length ≤ 1048576) (hs : ∀ r ∈ l, SzB r) : Ev (fun k => laws_toBatchS.f k l) (l.map cvB) := by
  unfold laws_toBatchS.f
  simp only [if_pos (show (0 : Int) ≤ (l.length : Int) by omega), Int.toNat_natCast, if_pos (show l.length ≤ 5026338869833 by omega)]
  have := toBatchS_loop l hl hs l.length 0 (by omega) (by omega)
  simpa using this
theorem eqBatch_ev (b : S46) (h : RowR b.f5) : Ev (fun k => laws_eqBatch.f k b.f0 b.f1 b.f2 b.f3 b.f4 b.f5 b.f0 b.f1 b.f2 b.f3 b.f4 b.f5) true := by
  unfold laws_eqBatch.f
  simp only [if_true, bne_self_eq_false, Bool.false_eq_true, if_false]
  refine Ev.bind (eqRecordS_ev _ h.1 h.2) ?_
  simp only [if_true]
  exact Ev.now _
theorem eqBatchS_ev (l : List S46) (hb : RowB l) : Ev (fun k => laws_eqBatchS.f k l l) true := by
  have hl := hb.1
  unfold laws_eqBatchS.f
  simp only [if_true]
  have := ev_all l hl (fun k i => laws_eqBatchS.l0 k l l i) (fun k i => laws_eqBatch.f k (rd_T46 l i).f0 (rd_T46 l i).f1 (rd_T46 l i).f2 (rd_T46 l i).f3 (rd_T46 l i).f4 (rd_T46 l i).f5 (rd_T46 l i).f0 (rd_T46 l i).f1 (rd_T46 l i).f2 (rd_T46 l i).f3 (rd_T46 l i).f4 (rd_T46 l i).f5) (fun _ => true) true
    (fun k => by simp only [laws_eqBatchS.l0]; rw [if_neg (by omega)])
    (fun k i h => by simp only [laws_eqBatchS.l0]; rw [if_pos (by omega), if_pos (by omega), if_pos (by omega)])
    (fun i h => by rw [rdB_nat l i h]; exact eqBatch_ev _ (hb.2 _ (List.getElem_mem _))) l.length 0 (by omega) (by omega)
  rw [all_true] at this
  simpa using this
theorem rowB_cv {l : List S56} (hl : l.length ≤ 1048576) (hs : ∀ b ∈ l, SzB b) : RowB (l.map cvB) := by
  refine ⟨by rw [List.length_map]; omega, fun b hb => ?_⟩
  obtain ⟨x, hx, rfl⟩ := List.mem_map.1 hb
  have h := hs x hx
  exact ⟨by show (x.f5.map cvR).length ≤ _; rw [List.length_map]; have := h.1; omega, lens_cv h.2⟩
end Go.Proofs.Ythoioccmnphfgaa.Pu

namespace Go.Proofs.Ythoioccmnphfgaa.Pu
open Go
theorem i64_mask (m : Nat) (hm : m ≤ 62) (n : Int) (h : (BitVec.ofInt 64 ((2 ^ m - 1 : Nat) : Int)).toNat = 2 ^ m - 1) : bits .and .i64 n ((2 ^ m - 1 : Nat) : Int) = n % (2 ^ m : Nat) := by
  have key : (BitVec.ofInt 64 n &&& BitVec.ofInt 64 ((2 ^ m - 1 : Nat) : Int)).toNat = (n % ((2 ^ 64 : Nat) : Int)).toNat % 2 ^ m := by
    rw [BitVec.toNat_and, BitVec.toNat_ofInt, h, Nat.and_two_pow_sub_one_eq_mod]
  show IntKind.i64.wrap ((BitVec.ofInt 64 n &&& BitVec.ofInt 64 ((2 ^ m - 1 : Nat) : Int)).toNat : Nat) = n % (2 ^ m : Nat)
  have hp : 2 ^ m ≤ 2 ^ 62 := Nat.pow_le_pow_right (by decide) hm
  have hp0 : 0 < 2 ^ m := Nat.pow_pos (by decide)
  have hd : 2 ^ m ∣ 2 ^ 64 := Nat.pow_dvd_pow 2 (by omega)
  have hlt := Nat.mod_lt (n % ((2 ^ 64 : Nat) : Int)).toNat hp0
  rw [key, IntKind.wrap_i64]
  have e1 : (((n % ((2 ^ 64 : Nat) : Int)).toNat % 2 ^ m : Nat) : Int) = n % ((2 ^ m : Nat) : Int) := by
    rw [Int.natCast_emod, Int.toNat_of_nonneg (Int.emod_nonneg _ (by decide))]
    exact Int.emod_emod_of_dvd n (Int.natCast_dvd_natCast.2 hd)
  rw [e1]
  have g1 := Int.emod_nonneg n (b := ((2 ^ m : Nat) : Int)) (by omega)
  have g2 := Int.emod_lt_of_pos n (b := ((2 ^ m : Nat) : Int)) (by omega)
  omega
theorem i64_and127 (n : Int) : bits .and .i64 n 127 = n % 128 := i64_mask 7 (by decide) n (by decide)
end Go.Proofs.Ythoioccmnphfgaa.Pu

namespace Go.Proofs.Ythoioccmnphfgaa.Pu
open Go.RowKit Go.Proofs.YthoioccmnphfgaaW.PrintWords Go.Proofs.YthoioccmnphfgaaW.PrintLast Go.Proofs.YthoioccmnphfgaaW.PrintMore Go.Proofs.Ythoioccmnphfgaa.G
set_option linter.unusedVariables false
set_option linter.unusedSimpArgs false
theorem or128 (r : Int) (h0 : 0 ≤ r) (h1 : r < 128) : bits .or .i64 r 128 = 128 + r := by
  have h : ∀ x : Fin 128, bits .or .i64 ((x.val : Nat) : Int) 128 = 128 + ((x.val : Nat) : Int) := by decide
  have := h ⟨r.toNat, by omega⟩
  simp only at this
  rwa [show ((r.toNat : Nat) : Int) = r by omega] at this
def varF : Nat → Int → List Int
  | 0, x => [x]
  | n + 1, x => if x < 128 then [x] else (128 + x % 128) :: varF n (x / 128)
def foldI (x : Int) : Int := if x < 0 then -2 * x - 1 else 2 * x
def varV (x : Int) : List Int := varF 10 (foldI x)
theorem varF_len : ∀ (n : Nat) (x : Int), (varF n x).length ≤ n + 1
  | 0, x => by simp [varF]
  | n + 1, x => by
    unfold varF
    have := varF_len n (x / 128)
    split <;> simp <;> omega
theorem varV_len (x : Int) : (varV x).length ≤ 11 := varF_len 10 _
theorem varF_in : ∀ (n : Nat) (x : Int), 0 ≤ x → x ≤ 1000000000000000 → (varF n x).all inI = true
  | 0, x, h0, h1 => by
    simp [varF, inI]
    omega
  | n + 1, x, h0, h1 => by
    unfold varF
    split
    · simp [inI]
      omega
    · have := varF_in n (x / 128) (by omega) (by omega)
      rw [List.all_cons, this, Bool.and_true]
      simp [inI]
      omega
theorem var_loop : ∀ (n : Nat) (x : Int) (acc : List Int), 0 ≤ x → x < 128 * 128 ^ n → acc.length + n ≤ 1000 → Ev (fun k => impl_varOf.l0 k acc x) (acc ++ varF n x)
  | 0, x, acc, h0, h1, h2 => by
    refine Ev.step (fun k => by rw [impl_varOf.l0]) ?_
    simp only [if_pos (show x < 128 by simpa using h1), if_pos (show acc.length < 17592186044416 by omega), varF]
    exact Ev.now _
  | n + 1, x, acc, h0, h1, h2 => by
    refine Ev.step (fun k => by rw [impl_varOf.l0]) ?_
    unfold varF
    by_cases h : x < 128
    · simp only [if_pos h, if_pos (show acc.length < 17592186044416 by omega)]
      exact Ev.now _
    · simp only [if_neg h, if_pos (show acc.length < 17592186044416 by omega), i64_and127, or128 (x % 128) (by omega) (by omega)]
      have h3 : x / 128 < 128 * 128 ^ n := by
        rw [Int.pow_succ, ← Int.mul_assoc] at h1
        exact Int.ediv_lt_of_lt_mul (by omega) h1
      have := var_loop n (x / 128) (acc ++ [128 + x % 128]) (by omega) h3 (by simp; omega)
      rw [List.append_assoc, List.singleton_append] at this
      exact this
theorem svar_loop : ∀ (n : Nat) (x : Int) (acc : List Int), 0 ≤ x → x < 128 * 128 ^ n → x ≤ 1000000000000000 → acc.length + n ≤ 1000 → Ev (fun k => spec_l1Bytes.l0 k x acc) (acc ++ varF n x)
  | 0, x, acc, h0, h1, h4, h2 => by
    refine Ev.step (fun k => by rw [spec_l1Bytes.l0]) ?_
    simp only [if_neg (show ¬ x > 127 by have : x < 128 := by simpa using h1
                                         omega), if_pos (show acc.length < 17592186044416 by omega), varF]
    exact Ev.now _
  | n + 1, x, acc, h0, h1, h4, h2 => by
    refine Ev.step (fun k => by rw [spec_l1Bytes.l0]) ?_
    unfold varF
    by_cases h : x < 128
    · simp only [if_pos h, if_neg (show ¬ x > 127 by omega), if_pos (show acc.length < 17592186044416 by omega)]
      exact Ev.now _
    · have e1 : Int.tdiv x 128 = x / 128 := Int.tdiv_eq_ediv_of_nonneg h0
      have e2 : Int.tmod x 128 = x % 128 := Int.tmod_eq_emod_of_nonneg h0
      simp only [if_neg h, if_pos (show x > 127 by omega), if_pos (show acc.length < 17592186044416 by omega), e1, e2, w64 (a := x / 128) (by omega) (by omega), w64 (a := 128 + x % 128) (by omega) (by omega)]
      have h3 : x / 128 < 128 * 128 ^ n := by
        rw [Int.pow_succ, ← Int.mul_assoc] at h1
        exact Int.ediv_lt_of_lt_mul (by omega) h1
      have := svar_loop n (x / 128) (acc ++ [128 + x % 128]) (by omega) h3 (by omega) (by simp; omega)
      rw [List.append_assoc, List.singleton_append] at this
      exact this
theorem foldI_in {x : Int} (h0 : -1000000 ≤ x) (h1 : x ≤ 1000000) : 0 ≤ foldI x ∧ foldI x ≤ 2000000 := by
  unfold foldI
  split <;> omega
theorem varV_in {x : Int} (h0 : -1000000 ≤ x) (h1 : x ≤ 1000000) : (varV x).all inI = true := varF_in _ _ (foldI_in h0 h1).1 (by have := foldI_in h0 h1; omega)
theorem varOf_ev {x : Int} (h0 : -1000000 ≤ x) (h1 : x ≤ 1000000) : Ev (fun k => impl_varOf.f k x) (varV x) := by
  have hf := foldI_in h0 h1
  have hF : Ev (fun k => impl_FoldNumber.f k x) (foldI x) := by
    unfold impl_FoldNumber.f
    simp only [if_neg (show ¬ x < -1000000 by omega), decide_eq_false (show ¬ x > 1000000 by omega)]
    refine Ev.step (fun k => by rw [impl_FoldNumber.j0]) ?_
    simp only [Bool.false_eq_true, if_false]
    unfold foldI
    by_cases h : x < 0
    · simp only [if_pos h, w64 (a := -2 * x) (by omega) (by omega), w64 (a := -2 * x - 1) (by omega) (by omega)]
      exact Ev.now _
    · simp only [if_neg h, w64 (a := 2 * x) (by omega) (by omega)]
      exact Ev.now _
  unfold impl_varOf.f
  refine Ev.bind hF ?_
  · have := var_loop 10 (foldI x) [] hf.1 (by omega) (by simp)
    exact this
theorem l1Bytes_ev {x : Int} (h0 : -1000000 ≤ x) (h1 : x ≤ 1000000) : Ev (fun k => spec_l1Bytes.f k x) (varV x) := by
  have hf := foldI_in h0 h1
  have e : spec_l1Fold.f x = some (foldI x) := by
    unfold spec_l1Fold.f foldI
    by_cases h : x < 0
    · rw [if_pos h, if_pos h, w64 (a := -2 * x) (by omega) (by omega), w64 (a := -2 * x - 1) (by omega) (by omega)]
    · rw [if_neg h, if_neg h, w64 (a := 2 * x) (by omega) (by omega)]
  unfold spec_l1Bytes.f
  simp only [e, bindS]
  have := svar_loop 10 (foldI x) [] hf.1 (by omega) (by omega) (by simp)
  exact this
def partV (has : Bool) (l : List Int) : List Int := if has = true then varV l.length ++ l else varV (-1)
theorem partV_len (has : Bool) (l : List Int) : (partV has l).length ≤ 11 + l.length := by
  unfold partV
  have := varV_len l.length
  have := varV_len (-1)
  split <;> simp <;> omega
theorem part_ev (has : Bool) (l : List Int) (hl : l.length ≤ 1000) : Ev (fun k => impl_partBytes.f k has l) (partV has l) := by
  unfold impl_partBytes.f partV
  have := varV_len l.length
  cases has
  · simp only [Bool.false_eq_true, if_false]
    exact Ev.bind (varOf_ev (by omega) (by omega)) (Ev.now _)
  · simp only [if_true]
    refine Ev.bind (varOf_ev (by omega) (by omega)) ?_
    simp only [if_pos (show (varV (l.length : Int)).length + l.length < 17592186044416 by omega)]
    exact Ev.now _
theorem spart_ev (has : Bool) (l : List Int) (hl : l.length ≤ 1000) : Ev (fun k => spec_l3Put.f k has l) (partV has l) := by
  unfold spec_l3Put.f partV
  have := varV_len l.length
  cases has
  · simp only [Bool.false_eq_true, if_false]
    exact Ev.bind (l1Bytes_ev (by omega) (by omega)) (Ev.now _)
  · simp only [if_true]
    refine Ev.bind (l1Bytes_ev (by omega) (by omega)) ?_
    simp only [if_pos (show (varV (l.length : Int)).length + l.length < 17592186044416 by omega)]
    exact Ev.now _
def recB (r : S63) (o t : Int) : List Int := varV (r.f1 - t) ++ varV (r.f0 - o) ++ partV r.f2 r.f3 ++ partV r.f4 r.f5
def recV (r : S63) (o t : Int) : List Int := varV (recB r o t).length ++ recB r o t
/-- A record of a valid batch. -/
structure RecS (r : S63) : Prop where
  a0 : 0 ≤ r.f0
  a1 : r.f0 ≤ 99999
  b0 : 0 ≤ r.f1
  b1 : r.f1 ≤ 99999
  k : r.f3.length ≤ 12
  v : r.f5.length ≤ 12
  ki : r.f3.all inI = true
  vi : r.f5.all inI = true
theorem recB_len {r : S63} (h : RecS r) (o t : Int) : (recB r o t).length ≤ 68 := by
  unfold recB
  have := h.k
  have := h.v
  have := varV_len (r.f1 - t)
  have := varV_len (r.f0 - o)
  have := partV_len r.f2 r.f3
  have := partV_len r.f4 r.f5
  simp only [List.length_append]
  omega
theorem recV_len {r : S63} (h : RecS r) (o t : Int) : (recV r o t).length ≤ 79 := by
  unfold recV
  have := recB_len h o t
  have := varV_len (recB r o t).length
  rw [List.length_append]
  omega
theorem partV_in {has : Bool} {l : List Int} (hl : l.length ≤ 12) (h : l.all inI = true) : (partV has l).all inI = true := by
  unfold partV
  split
  · rw [List.all_append, h, varV_in (by omega) (by omega)]
    rfl
  · exact varV_in (by omega) (by omega)
theorem recV_in {r : S63} (h : RecS r) {o t : Int} (ho : 0 ≤ o ∧ o ≤ 99999) (ht : 0 ≤ t ∧ t ≤ 99999) : (recV r o t).all inI = true := by
  have h1 := recB_len h o t
  obtain ⟨a0, a1, b0, b1, k, v, ki, vi⟩ := h
  unfold recV
  rw [List.all_append, varV_in (by omega) (by omega)]
  unfold recB
  simp only [List.all_append, varV_in (x := r.f1 - t) (by omega) (by omega), varV_in (x := r.f0 - o) (by omega) (by omega), partV_in k ki, partV_in v vi, Bool.and_self]
theorem rec_ev {r : S63} (h : RecS r) {o t : Int} (ho : 0 ≤ o ∧ o ≤ 99999) (ht : 0 ≤ t ∧ t ≤ 99999) : Ev (fun k => impl_Record_bytesFor.f k r.f0 r.f1 r.f2 r.f3 r.f4 r.f5 o t) (recV r o t) := by
  have h1 := recB_len h o t
  have h2 := varV_len (recB r o t).length
  obtain ⟨a0, a1, b0, b1, k, v, ki, vi⟩ := h
  unfold impl_Record_bytesFor.f
  have e1 := varV_len (r.f1 - t)
  have e2 := varV_len (r.f0 - o)
  have e3 := partV_len r.f2 r.f3
  have e4 := partV_len r.f4 r.f5
  simp only [w64 (a := r.f1 - t) (by omega) (by omega), w64 (a := r.f0 - o) (by omega) (by omega)]
  refine Ev.bind (varOf_ev (by omega) (by omega)) (Ev.bind (varOf_ev (by omega) (by omega)) ?_)
  simp only [if_pos (show (varV (r.f1 - t)).length + (varV (r.f0 - o)).length < 17592186044416 by omega), bindS]
  refine Ev.bind (part_ev _ _ (by omega)) ?_
  simp only [if_pos (show (varV (r.f1 - t) ++ varV (r.f0 - o)).length + (partV r.f2 r.f3).length < 17592186044416 by simp only [List.length_append]; omega), bindS]
  refine Ev.bind (part_ev _ _ (by omega)) ?_
  simp only [if_pos (show (varV (r.f1 - t) ++ varV (r.f0 - o) ++ partV r.f2 r.f3).length + (partV r.f4 r.f5).length < 17592186044416 by simp only [List.length_append]; omega), bindS]
  refine Ev.bind (varOf_ev (x := ((recB r o t).length : Int)) (by omega) (by omega)) ?_
  change Ev (fun k => if (varV ((recB r o t).length : Int)).length + (recB r o t).length < 17592186044416 then some (varV ((recB r o t).length : Int) ++ recB r o t) else none) _
  simp only [if_pos (show (varV ((recB r o t).length : Int)).length + (recB r o t).length < 17592186044416 by omega)]
  exact Ev.now _
theorem srec_ev {r : S63} (h : RecS r) {o t : Int} (ho : 0 ≤ o ∧ o ≤ 99999) (ht : 0 ≤ t ∧ t ≤ 99999) : Ev (fun k => spec_l3Bytes.f k r.f0 r.f1 r.f2 r.f3 r.f4 r.f5 o t) (recV r o t) := by
  have h1 := recB_len h o t
  have h2 := varV_len (recB r o t).length
  obtain ⟨a0, a1, b0, b1, k, v, ki, vi⟩ := h
  unfold spec_l3Bytes.f
  have e1 := varV_len (r.f1 - t)
  have e2 := varV_len (r.f0 - o)
  have e3 := partV_len r.f2 r.f3
  have e4 := partV_len r.f4 r.f5
  simp only [w64 (a := r.f1 - t) (by omega) (by omega), w64 (a := r.f0 - o) (by omega) (by omega)]
  refine Ev.bind (l1Bytes_ev (by omega) (by omega)) (Ev.bind (l1Bytes_ev (by omega) (by omega)) ?_)
  simp only [if_pos (show (varV (r.f1 - t)).length + (varV (r.f0 - o)).length < 17592186044416 by omega), bindS]
  refine Ev.bind (spart_ev _ _ (by omega)) ?_
  simp only [if_pos (show (varV (r.f1 - t) ++ varV (r.f0 - o)).length + (partV r.f2 r.f3).length < 17592186044416 by simp only [List.length_append]; omega), bindS]
  refine Ev.bind (spart_ev _ _ (by omega)) ?_
  simp only [if_pos (show (varV (r.f1 - t) ++ varV (r.f0 - o) ++ partV r.f2 r.f3).length + (partV r.f4 r.f5).length < 17592186044416 by simp only [List.length_append]; omega), bindS]
  refine Ev.bind (l1Bytes_ev (x := ((recB r o t).length : Int)) (by omega) (by omega)) ?_
  change Ev (fun k => if (varV ((recB r o t).length : Int)).length + (recB r o t).length < 17592186044416 then some (varV ((recB r o t).length : Int) ++ recB r o t) else none) _
  simp only [if_pos (show (varV ((recB r o t).length : Int)).length + (recB r o t).length < 17592186044416 by omega)]
  exact Ev.now _
end Go.Proofs.Ythoioccmnphfgaa.Pu

namespace Go.Proofs.Ythoioccmnphfgaa.Pu
open Go.RowKit Go.Proofs.YthoioccmnphfgaaW.PrintWords Go.Proofs.YthoioccmnphfgaaW.PrintLast Go.Proofs.YthoioccmnphfgaaW.PrintMore Go.Proofs.Ythoioccmnphfgaa.G
set_option linter.unusedVariables false
set_option linter.unusedSimpArgs false
theorem getD_nat (l : List Int) (i : Nat) (h : i < l.length) : l.getD i 0 = rd l (i : Int) := by rw [rdi_nat l i h, getD_lt l i h]
theorem long_loop (l : List Int) (hl : l.length ≤ 1000) (z b : Nat) (hb : b ≤ z) (hz : z < l.length) : ∀ (d n : Nat), 66 - n = d → n ≤ 66 → Ev (fun k => spec_l4Long.l0 k l (z : Int) (b : Int) (n : Int)) ((n + alike (66 - n) (l.drop (z - b + n)) (l.drop (z + n)) : Nat) : Int) := by
  intro d
  induction d with
  | zero =>
    intro n hd hn
    obtain rfl : n = 66 := by omega
    refine Ev.step (fun k => by rw [spec_l4Long.l0]) ?_
    simp only [w64 (a := (z : Int) + (66 : Nat)) (by omega) (by omega)]
    have e : alike (66 - 66) (l.drop (z - b + 66)) (l.drop (z + 66)) = 0 := (alike_at l (z - b) z 66 (by omega)).2 (by omega) (by omega)
    rw [e]
    by_cases h : ((z : Int) + (66 : Nat)) < (l.length : Int)
    · simp only [if_pos h, if_neg (show ¬ (((66 : Nat) : Int) < 66) by omega)]
      exact Ev.now _
    · simp only [if_neg h]
      exact Ev.now _
  | succ d ih =>
    intro n hd hn
    obtain ⟨h1, h2⟩ := alike_at l (z - b) z n hn
    refine Ev.step (fun k => by rw [spec_l4Long.l0]) ?_
    simp only [w64 (a := (z : Int) + (n : Int)) (by omega) (by omega), w64 (a := (z : Int) + (n : Int) - (b : Int)) (by omega) (by omega), w64 (a := (n : Int) + 1) (by omega) (by omega), if_pos (show (n : Int) < 66 by omega)]
    by_cases h : z + n < l.length
    · have e1 : (z : Int) + (n : Int) = ((z + n : Nat) : Int) := by omega
      have e2 : ((z + n : Nat) : Int) - (b : Int) = ((z - b + n : Nat) : Int) := by omega
      simp only [e1, e2, if_pos (show ((z + n : Nat) : Int) < (l.length : Int) by omega), if_pos (show (0 : Int) ≤ ((z + n : Nat) : Int) by omega), if_pos (show (0 : Int) ≤ ((z - b + n : Nat) : Int) by omega), if_pos (show ((z - b + n : Nat) : Int) < (l.length : Int) by omega)]
      rw [← getD_nat l (z + n) h, ← getD_nat l (z - b + n) (by omega)]
      by_cases he : l.getD (z - b + n) 0 = l.getD (z + n) 0
      · simp only [if_pos he.symm]
        rw [h1 ⟨by omega, h, he, by omega⟩]
        have := ih (n + 1) (by omega) (by omega)
        rw [show n + (alike (66 - (n + 1)) (l.drop (z - b + (n + 1))) (l.drop (z + (n + 1))) + 1) = n + 1 + alike (66 - (n + 1)) (l.drop (z - b + (n + 1))) (l.drop (z + (n + 1))) by omega]
        exact_mod_cast this
      · simp only [if_neg (fun e => he (Eq.symm e))]
        rw [h2 (fun h => he h.2.2) (by omega)]
        exact Ev.now _
    · simp only [if_neg (show ¬ ((z : Int) + (n : Int) < (l.length : Int)) by omega)]
      rw [h2 (fun h' => h h'.2.1) (by omega)]
      exact Ev.now _
theorem long_ev (l : List Int) (hl : l.length ≤ 1000) (z b : Nat) (hb : b ≤ z) (hz : z < l.length) : Ev (fun k => spec_l4Long.f k l (z : Int) (b : Int)) ((nAt l z b : Nat) : Int) := by
  unfold spec_l4Long.f nAt
  have := long_loop l hl z b hb hz 66 0 (by omega) (by omega)
  simpa using this
theorem best_loop (l : List Int) (hl : l.length ≤ 1000) (z : Nat) (hz : z < l.length) : ∀ (d c : Nat) (s : Nat × Nat), min z 200 + 1 - c = d → 1 ≤ c → c ≤ min z 200 + 1 → Ev (fun k => spec_l4Best.l0 k l (z : Int) (s.2 : Int) (s.1 : Int) (c : Int)) (((best (nAt l z) (List.range' c (min z 200 + 1 - c)) s).1 : Int), ((best (nAt l z) (List.range' c (min z 200 + 1 - c)) s).2 : Int)) := by
  have hm : mn (z : Int) 200 = ((min z 200 : Nat) : Int) := by unfold mn; split <;> omega
  intro d
  induction d with
  | zero =>
    intro c s hd h1 hc
    refine Ev.step (fun k => by rw [spec_l4Best.l0]) ?_
    simp only [hm, if_neg (show ¬ ((c : Int) ≤ ((min z 200 : Nat) : Int)) by omega), hd, List.range'_zero, best]
    exact Ev.now _
  | succ d ih =>
    intro c s hd h1 hc
    refine Ev.step (fun k => by rw [spec_l4Best.l0]) ?_
    simp only [hm, if_pos (show (c : Int) ≤ ((min z 200 : Nat) : Int) by omega), w64 (a := (c : Int) + 1) (by omega) (by omega)]
    refine Ev.bind (long_ev l hl z c (by omega) hz) ?_
    rw [hd, List.range'_succ, best]
    have hd2 : min z 200 + 1 - (c + 1) = d := by omega
    by_cases h : s.1 < nAt l z c
    · simp only [if_pos (show ((nAt l z c : Nat) : Int) > (s.1 : Int) by omega), if_pos h]
      have := ih (c + 1) (nAt l z c, c) hd2 (by omega) (by omega)
      rw [hd2] at this
      exact_mod_cast this
    · simp only [if_neg (show ¬ ((nAt l z c : Nat) : Int) > (s.1 : Int) by omega), if_neg h]
      have := ih (c + 1) s hd2 (by omega) (by omega)
      rw [hd2] at this
      exact_mod_cast this
theorem best_ev (l : List Int) (hl : l.length ≤ 1000) (z : Nat) (hz : z < l.length) : Ev (fun k => spec_l4Best.f k l (z : Int)) (((specM l z).1 : Int), ((specM l z).2 : Int)) := by
  unfold spec_l4Best.f specM
  have := best_loop l hl z hz (min z 200) 1 (0, 0) (by omega) (by omega) (by omega)
  simpa using this
theorem plain_loop (l : List Int) (hl : l.length ≤ 1000) : ∀ (f from_ : Nat) (acc : List Int), l.length - from_ ≤ f → from_ ≤ 2000 → acc.length ≤ 2000 + 70 * from_ → Ev (fun k => spec_l4Plain.l0 k l acc (from_ : Int)) (acc ++ plainF f (l.drop from_)) := by
  intro f
  induction f with
  | zero =>
    intro i acc hf hi ha
    refine Ev.step (fun k => by rw [spec_l4Plain.l0]) ?_
    simp only [if_neg (show ¬ ((i : Int) < (l.length : Int)) by omega), plainF, List.append_nil]
    exact Ev.now _
  | succ f ih =>
    intro i acc hf hi ha
    refine Ev.step (fun k => by rw [spec_l4Plain.l0]) ?_
    by_cases h : i < l.length
    · have hne : l.drop i ≠ [] := fun e => by
        have := congrArg List.length e
        simp at this
        omega
      obtain ⟨t, ht⟩ : ∃ t, t = min (i + 64) l.length := ⟨_, rfl⟩
      have hm : mn ((i : Int) + 64) (l.length : Int) = (t : Int) := by unfold mn; split <;> omega
      have hlt : ((l.take t).drop i) = (l.drop i).take 64 := by
        rw [List.drop_take]
        rcases Nat.lt_or_ge (i + 64) l.length with h1 | h1
        · rw [show t - i = 64 by omega]
        · rw [List.take_of_length_le (by rw [List.length_drop]; omega), List.take_of_length_le (by rw [List.length_drop]; omega)]
      have hlen : ((l.drop i).take 64).length = t - i := by rw [List.length_take, List.length_drop]; omega
      simp only [if_pos (show (i : Int) < (l.length : Int) by omega), if_pos (show acc.length < 17592186044416 by omega), bindS, w64 (a := (i : Int) + 64) (by omega) (by omega), hm, w64 (a := (t : Int) - (i : Int)) (by omega) (by omega), w64 (a := (t : Int) - (i : Int) - 1) (by omega) (by omega), if_pos (show (0 : Int) ≤ (i : Int) by omega), if_pos (show (i : Int) ≤ (t : Int) by omega), if_pos (show (t : Int) ≤ (l.length : Int) by omega), Int.toNat_natCast, hlt, hlen]
      simp only [if_pos (show (acc ++ [(t : Int) - (i : Int) - 1]).length + (t - i) < 17592186044416 by rw [List.length_append]; simp; omega)]
      have := ih (i + 64) (acc ++ [(t : Int) - (i : Int) - 1] ++ (l.drop i).take 64) (by omega) (by omega) (by rw [List.length_append, List.length_append, hlen]; simp; omega)
      rw [plainF, if_neg hne, hlen, List.drop_drop]
      rw [show ((t - i : Nat) : Int) = (t : Int) - (i : Int) by omega]
      rw [Int.natCast_add] at this
      have e5 : acc ++ [(t : Int) - (i : Int) - 1] ++ (l.drop i).take 64 ++ plainF f (l.drop (i + 64)) = acc ++ (((t : Int) - (i : Int) - 1) :: ((l.drop i).take 64 ++ plainF f (l.drop (i + 64)))) := by simp
      rw [e5] at this
      exact this
    · simp only [if_neg (show ¬ ((i : Int) < (l.length : Int)) by omega)]
      rw [List.drop_of_length_le (by omega), plainF, if_pos rfl, List.append_nil]
      exact Ev.now _
theorem plain_ev (l : List Int) (hl : l.length ≤ 1000) : Ev (fun k => spec_l4Plain.f k l) (plainV l) := by
  unfold spec_l4Plain.f plainV
  have := plain_loop l hl l.length 0 [] (by omega) (by omega) (by simp)
  simpa using this
theorem specM_le (l : List Int) (z : Nat) : (specM l z).1 ≤ 66 := by
  unfold specM
  have : ∀ (ps : List Nat) (s : Nat × Nat), s.1 ≤ 66 → (best (nAt l z) ps s).1 ≤ 66 := by
    intro ps
    induction ps with
    | nil => intro s h; exact h
    | cons p ps ih =>
      intro s h
      unfold best
      refine ih _ ?_
      split
      · exact alike_le_m 66 _ _
      · exact h
  exact this _ _ (Nat.zero_le _)
theorem pack_loop (l : List Int) (hl : l.length ≤ 1000) : ∀ (f z : Nat) (out plain : List Int), l.length + 1 ≤ f + z → z ≤ l.length + 66 → out.length + 2 * plain.length ≤ 2 * z → plain.length ≤ 1000 → (z < l.length → plain.length ≤ z) → Ev (fun k => spec_l4Pack.l0 k l out plain (z : Int)) (packW (specM l) l f z out plain) := by
  intro f
  induction f with
  | zero =>
    intro z out plain hf hz hb hp hpz
    have hpl := plainV_len plain
    refine Ev.step (fun k => by rw [spec_l4Pack.l0]) ?_
    simp only [if_neg (show ¬ ((z : Int) < (l.length : Int)) by omega)]
    refine Ev.bind (plain_ev plain hp) ?_
    simp only [if_pos (show out.length + (plainV plain).length < 17592186044416 by omega), packW]
    exact Ev.now _
  | succ f ih =>
    intro z out plain hf hz hb hp hpz
    have hpl := plainV_len plain
    refine Ev.step (fun k => by rw [spec_l4Pack.l0]) ?_
    by_cases h : z < l.length
    · have hM := specM_le l z
      simp only [if_pos (show (z : Int) < (l.length : Int) by omega)]
      refine Ev.bind (best_ev l hl z h) ?_
      have hpz2 := hpz h
      by_cases h3 : (specM l z).1 < 3
      · rw [packW_lt _ _ _ _ _ _ h h3]
        simp only [if_pos (show ((specM l z).1 : Int) < 3 by omega), if_pos (show (0 : Int) ≤ (z : Int) by omega), if_pos (show plain.length < 17592186044416 by omega), w64 (a := (z : Int) + 1) (by omega) (by omega), ← getD_nat l z h]
        have := ih (z + 1) out (plain ++ [l.getD z 0]) (by omega) (by omega) (by rw [List.length_append]; simp; omega) (by rw [List.length_append]; simp; omega) (fun _ => by rw [List.length_append]; simp; omega)
        exact_mod_cast this
      · rw [packW_ge _ _ _ _ _ _ h h3]
        simp only [if_neg (show ¬ ((specM l z).1 : Int) < 3 by omega)]
        refine Ev.bind (plain_ev plain hp) ?_
        simp only [if_pos (show out.length + (plainV plain).length < 17592186044416 by omega), bindS, w64 (a := 64 + ((specM l z).1 : Int)) (by omega) (by omega), w64 (a := 64 + ((specM l z).1 : Int) - 3) (by omega) (by omega), w64 (a := (z : Int) + ((specM l z).1 : Int)) (by omega) (by omega)]
        rw [show 64 + ((specM l z).1 : Int) - 3 = ((specM l z).1 : Int) + 61 by omega]
        have hlen : (out ++ plainV plain).length + [((specM l z).1 : Int) + 61, ((specM l z).2 : Int)].length < 17592186044416 := by rw [List.length_append]; simp; omega
        simp only [if_pos hlen]
        have := ih (z + (specM l z).1) (out ++ plainV plain ++ [((specM l z).1 : Int) + 61, ((specM l z).2 : Int)]) [] (by omega) (by omega) (by rw [List.length_append, List.length_append]; simp; omega) (by simp) (fun _ => by simp)
        exact_mod_cast this
    · have e : packW (specM l) l (f + 1) z out plain = out ++ plainV plain := by rw [packW, if_neg h]
      simp only [if_neg (show ¬ ((z : Int) < (l.length : Int)) by omega), e]
      refine Ev.bind (plain_ev plain hp) ?_
      simp only [if_pos (show out.length + (plainV plain).length < 17592186044416 by omega)]
      exact Ev.now _
def PK (l : List Int) : List Int := packW (implM l) l (l.length + 1) 0 [] []
theorem spack_ev (l : List Int) (hl : l.length ≤ 1000) : Ev (fun k => spec_l4Pack.f k l) (PK l) := by
  unfold spec_l4Pack.f PK
  have := pack_loop l hl (l.length + 1) 0 [] [] (by omega) (by omega) (by simp) (by simp) (fun _ => by simp)
  rw [pack_same] at this
  exact this
theorem pack_ev (l : List Int) (hl : l.length ≤ 1000) (hi : l.all inI = true) : Ev (fun k => impl_pack.f k l) (PK l) := by
  unfold impl_pack.f PK
  simp only [if_pos (And.intro hl hi)]
  exact Ev.now _
theorem packW_len (M : Nat → Nat × Nat) (l : List Int) : ∀ k z (out plain : List Int), (packW M l k z out plain).length ≤ out.length + 2 * plain.length + 2 * k
  | 0, z, out, plain => by
    have := plainV_len plain
    rw [packW, List.length_append]
    omega
  | k + 1, z, out, plain => by
    have hp := plainV_len plain
    rw [packW]
    split
    · split
      · have := packW_len M l k (z + 1) out (plain ++ [l.getD z 0])
        rw [List.length_append] at this
        simp at this ⊢
        omega
      · have := packW_len M l k (z + (M z).1) (out ++ plainV plain ++ [((M z).1 : Int) + 61, ((M z).2 : Int)]) []
        rw [List.length_append, List.length_append] at this
        simp at this ⊢
        omega
    · rw [List.length_append]
      omega
theorem PK_len (l : List Int) (hl : l.length ≤ 1000) : (PK l).length ≤ 2002 := by
  have := packW_len (implM l) l (l.length + 1) 0 [] []
  unfold PK
  simp at this
  omega
end Go.Proofs.Ythoioccmnphfgaa.Pu

namespace Go.Proofs.Ythoioccmnphfgaa.Pu
open Go.RowKit Go.Proofs.YthoioccmnphfgaaW.PrintWords Go.Proofs.YthoioccmnphfgaaW.PrintLast Go.Proofs.YthoioccmnphfgaaW.PrintMore Go.Proofs.Ythoioccmnphfgaa.G
set_option linter.unusedVariables false
set_option linter.unusedSimpArgs false
set_option maxRecDepth 100000
theorem EndsIn.ev_bind {α β : Type} {g : Nat → Option α} {f : Nat → α → Option β} {a : α} {Q : β → Prop} (h : Ev g a) (k : EndsIn (fun n => f n a) Q) : EndsIn (fun n => (g n).bind (f n)) Q := ⟨k.choose, Ev.bind h k.choose_spec.1, k.choose_spec.2⟩
theorem isB_inI {x : Int} (h : isB x = true) : inI x = true := by
  have := (isB_iff x).1 h
  simp [inI]
  omega
theorem part_S {has : Bool} {l : List Int} (h : partOk has l = true) : l.length ≤ 12 ∧ l.all inI = true := by
  unfold partOk at h
  cases has
  · simp only [Bool.false_eq_true, if_false, decide_eq_true_eq] at h
    obtain rfl : l = [] := List.eq_nil_of_length_eq_zero h
    simp
  · simp only [if_true, Bool.and_eq_true, decide_eq_true_eq] at h
    exact ⟨h.1, List.all_eq_true.2 fun x hx => isB_inI (List.all_eq_true.1 h.2 x hx)⟩
theorem recS_of {r : S63} (h : recOk r = true) : RecS r := by
  unfold recOk rng at h
  simp only [Bool.and_eq_true, decide_eq_true_eq] at h
  obtain ⟨⟨h1, h2⟩, h3, h4⟩ := h
  have p1 := part_S h3
  have p2 := part_S h4
  exact ⟨h1.1, h1.2, h2.1, h2.2, p1.1, p2.1, p1.2, p2.2⟩
theorem int_loop (a : Int) (n : Nat) (hn : n ≤ 10) : ∀ (d i : Nat) (x : List Int), n - i = d → i ≤ n → x.length = n → EndsIn (fun k => impl_intOf.l0 k a (n : Int) x (n : Int) (i : Int)) (fun r => r.length = n) := by
  intro d
  induction d with
  | zero =>
    intro i x hd hi hx
    refine EndsIn.step (fun k => by rw [impl_intOf.l0]) ?_
    simp only [if_neg (show ¬ ((i : Int) < (n : Int)) by omega)]
    exact EndsIn.now _ hx
  | succ d ih =>
    intro i x hd hi hx
    refine EndsIn.step (fun k => by rw [impl_intOf.l0]) ?_
    simp only [if_pos (show (i : Int) < (n : Int) by omega), w64 (a := 8 * (i : Int)) (by omega) (by omega), w64 (a := (n : Int) - 1) (by omega) (by omega), w64 (a := (n : Int) - 1 - (i : Int)) (by omega) (by omega), if_pos (show (0 : Int) ≤ 8 * (i : Int) by omega), if_pos (show (0 : Int) ≤ (n : Int) - 1 - (i : Int) by omega), if_pos (show (n : Int) - 1 - (i : Int) < (x.length : Int) by omega), w64 (a := (i : Int) + 1) (by omega) (by omega)]
    have := ih (i + 1) (x.set ((n : Int) - 1 - (i : Int)).toNat (Go.bits .and .i64 (shr .i64 a (8 * (i : Int))) 255)) (by omega) (by omega) (by rw [List.length_set]; exact hx)
    exact_mod_cast this
theorem intOf_ends (a : Int) (n : Nat) (hn : n ≤ 10) : EndsIn (fun k => impl_intOf.f k a (n : Int)) (fun r => r.length = n) := by
  unfold impl_intOf.f
  simp only [if_pos (show (0 : Int) ≤ (n : Int) by omega), Int.toNat_natCast, if_pos (show n ≤ 35184372088832 by omega), bindS, List.length_replicate]
  have := int_loop a n hn n 0 (List.replicate n 0) (by omega) (by omega) (by simp)
  exact this
theorem sint_loop (n : Nat) (hn : n ≤ 10) : ∀ (m : Nat) (a : Int) (x : List Int), m ≤ n → x.length = n → EndsIn (fun k => spec_l2Int.l0 k a x ((m : Int) - 1)) (fun r => r.length = n) := by
  intro m
  induction m with
  | zero =>
    intro a x hm hx
    refine EndsIn.step (fun k => by rw [spec_l2Int.l0]) ?_
    simp only [if_neg (show ¬ (((0 : Nat) : Int) - 1 ≥ 0) by omega)]
    exact EndsIn.now _ hx
  | succ m ih =>
    intro a x hm hx
    refine EndsIn.step (fun k => by rw [spec_l2Int.l0]) ?_
    simp only [if_pos (show ((m + 1 : Nat) : Int) - 1 ≥ 0 by omega), if_pos (show (0 : Int) ≤ ((m + 1 : Nat) : Int) - 1 by omega), if_pos (show ((m + 1 : Nat) : Int) - 1 < (x.length : Int) by omega), w64 (a := ((m + 1 : Nat) : Int) - 1 - 1) (by omega) (by omega)]
    have := ih (wrap64 (Int.tdiv a 256)) (x.set (((m + 1 : Nat) : Int) - 1).toNat (Int.tmod a 256)) (by omega) (by rw [List.length_set]; exact hx)
    rw [show ((m + 1 : Nat) : Int) - 1 - 1 = (m : Int) - 1 by omega]
    exact this
theorem l2Int_ends (a : Int) (n : Nat) (hn : n ≤ 10) : EndsIn (fun k => spec_l2Int.f k a (n : Int)) (fun r => r.length = n) := by
  unfold spec_l2Int.f
  simp only [if_pos (show (0 : Int) ≤ (n : Int) by omega), Int.toNat_natCast, if_pos (show n ≤ 35184372088832 by omega), w64 (a := (n : Int) - 1) (by omega) (by omega)]
  exact sint_loop n hn n a (List.replicate n 0) (Nat.le_refl _) (by simp)
theorem sum_loop (l : List Int) (hl : l.length ≤ 100000) : ∀ (d i : Nat) (s : Int), l.length - i = d → i ≤ l.length → EndsIn (fun k => impl_sum_over.l0 k s l (l.length : Int) (i : Int)) (fun _ => True) := by
  intro d
  induction d with
  | zero =>
    intro i s hd hi
    refine EndsIn.step (fun k => by rw [impl_sum_over.l0]) ?_
    simp only [if_neg (show ¬ ((i : Int) < (l.length : Int)) by omega)]
    exact EndsIn.now _ trivial
  | succ d ih =>
    intro i s hd hi
    have c1 : (i : Int) < (l.length : Int) := by omega
    have c2 : (0 : Int) ≤ (i : Int) := by omega
    have := ih (i + 1) (Int.tmod (wrap64 (wrap64 (257 * s) + rd l (i : Int))) 65521) (by omega) (by omega)
    rw [Int.natCast_add] at this
    refine EndsIn.step (fun k => ?_) this
    rw [impl_sum_over.l0, if_pos c1, if_pos c2, if_pos c1, impl_sum_with.f, bindS, w64 (a := (i : Int) + 1) (by omega) (by omega)]
    rfl
theorem ssum_loop (l : List Int) (hl : l.length ≤ 100000) : ∀ (d i : Nat) (s : Int), l.length - i = d → i ≤ l.length → EndsIn (fun k => spec_l2Sum.l0 k l s (i : Int)) (fun _ => True) := by
  intro d
  induction d with
  | zero =>
    intro i s hd hi
    refine EndsIn.step (fun k => by rw [spec_l2Sum.l0]) ?_
    simp only [if_neg (show ¬ ((i : Int) < (l.length : Int)) by omega)]
    exact EndsIn.now _ trivial
  | succ d ih =>
    intro i s hd hi
    have c1 : (i : Int) < (l.length : Int) := by omega
    have c2 : (0 : Int) ≤ (i : Int) := by omega
    have := ih (i + 1) (Int.tmod (wrap64 (wrap64 (257 * s) + rd l (i : Int))) 65521) (by omega) (by omega)
    rw [Int.natCast_add] at this
    refine EndsIn.step (fun k => ?_) this
    rw [spec_l2Sum.l0, if_pos c1, if_pos c2, w64 (a := (i : Int) + 1) (by omega) (by omega)]
    rfl
/-- The records of a valid batch, as1 bytes. -/
def rowsV (l : List S63) (o t : Int) : List Int := l.flatMap fun r => recV r o t
theorem rowsV_len (o t : Int) : ∀ l : List S63, (∀ r ∈ l, RecS r) → (rowsV l o t).length ≤ 79 * l.length
  | [], _ => by simp [rowsV]
  | r :: l, h => by
    have h1 := rowsV_len o t l fun x hx => h x (List.mem_cons_of_mem _ hx)
    have h2 := recV_len (h r (List.mem_cons_self ..)) o t
    unfold rowsV at h1 ⊢
    rw [List.flatMap_cons, List.length_append, List.length_cons]
    omega
theorem rowsV_in {o t : Int} (ho : 0 ≤ o ∧ o ≤ 99999) (ht : 0 ≤ t ∧ t ≤ 99999) : ∀ l : List S63, (∀ r ∈ l, RecS r) → (rowsV l o t).all inI = true
  | [], _ => by simp [rowsV]
  | r :: l, h => by
    have h1 := rowsV_in ho ht l fun x hx => h x (List.mem_cons_of_mem _ hx)
    have h2 := recV_in (h r (List.mem_cons_self ..)) ho ht
    unfold rowsV at h1 ⊢
    rw [List.flatMap_cons, List.all_append, h1, h2]
    rfl
structure BatR (l : List S63) : Prop where
  h0 : 0 < l.length
  h6 : l.length ≤ 6
  recs : ∀ r ∈ l, RecS r
theorem batR_of {b : S46} (h : batOk b = true) : BatR b.f5 := by
  have h1 := batOk_len h
  refine ⟨by omega, h1.2, fun r hr => ?_⟩
  obtain ⟨i, hi, rfl⟩ := List.getElem_of_mem hr
  exact recS_of (batOk_rec h i hi)
def bodyV (b : S46) : List Int := if b.f0 = true then PK (rowsV b.f5 (rd_T63 b.f5 0).f0 (rd_T63 b.f5 0).f1) else rowsV b.f5 (rd_T63 b.f5 0).f0 (rd_T63 b.f5 0).f1
def batLen (b : S46) : Nat := 18 + (bodyV b).length
theorem BatR.first {l : List S63} (h : BatR l) : RecS (rd_T63 l 0) := by
  have := rdR_nat l 0 h.h0
  rw [show ((0 : Nat) : Int) = 0 from rfl] at this
  rw [this]
  exact h.recs _ (List.getElem_mem _)
theorem body_len {b : S46} (h : BatR b.f5) : (bodyV b).length ≤ 2002 := by
  have h1 := rowsV_len (rd_T63 b.f5 0).f0 (rd_T63 b.f5 0).f1 b.f5 h.recs
  have h6 := h.h6
  unfold bodyV
  split
  · exact PK_len _ (by omega)
  · omega
theorem j2_ends (body : List Int) (hb : body.length ≤ 2002) (fl : Int) (a0 a1 : Bool) (x2 x3 x4 : Int) (l : List S63) (g0 g1 : Int) (g2 : Bool) (g3 : List Int) (g4 : Bool) (g5 : List Int) :
    EndsIn (fun k => impl_Batch_bytesOf.j2 k body fl a0 a1 x2 x3 x4 l g0 g1 g2 g3 g4 g5) (fun r => r.length = 18 + body.length) := by
  refine EndsIn.step (fun k => by rw [impl_Batch_bytesOf.j2]) ?_
  simp only [bindS]
  refine EndsIn.bind (intOf_ends x4 2 (by omega)) fun t1 h1 => ?_
  simp only [if_pos (show ([fl, x2, x3] : List Int).length + t1.length < 17592186044416 by simp; omega), bindS]
  refine EndsIn.bind (intOf_ends g1 3 (by omega)) fun t2 h2 => ?_
  have e1 : ([fl, x2, x3] ++ t1 : List Int).length = 5 := by rw [List.length_append, h1]; rfl
  simp only [if_pos (show ([fl, x2, x3] ++ t1 : List Int).length + t2.length < 17592186044416 by omega), bindS]
  have e2 : ([fl, x2, x3] ++ t1 ++ t2 : List Int).length = 8 := by rw [List.length_append, e1, h2]
  simp only [if_pos (show ([fl, x2, x3] ++ t1 ++ t2 : List Int).length + ([(l.length : Int), 0, 0] : List Int).length < 17592186044416 by rw [e2]; simp), bindS]
  have e3 : ([fl, x2, x3] ++ t1 ++ t2 ++ [(l.length : Int), 0, 0] : List Int).length = 11 := by rw [List.length_append, e2]; rfl
  simp only [if_pos (show ([fl, x2, x3] ++ t1 ++ t2 ++ [(l.length : Int), 0, 0] : List Int).length + body.length < 17592186044416 by omega), bindS]
  have e4 : ([fl, x2, x3] ++ t1 ++ t2 ++ [(l.length : Int), 0, 0] ++ body : List Int).length = 11 + body.length := by rw [List.length_append, e3]
  generalize ([fl, x2, x3] ++ t1 ++ t2 ++ [(l.length : Int), 0, 0] ++ body : List Int) = y at e4
  refine EndsIn.bind (intOf_ends g0 3 (by omega)) fun t3 h3 => ?_
  refine EndsIn.bind (intOf_ends (y.length : Int) 2 (by omega)) fun t4 h4 => ?_
  have hs : EndsIn (fun k => impl_sum_over.f k 1 y) (fun _ => True) := by
    unfold impl_sum_over.f
    exact sum_loop y (by omega) y.length 0 1 (by omega) (by omega)
  refine EndsIn.bind hs fun t5 _ => ?_
  refine EndsIn.bind (intOf_ends t5 2 (by omega)) fun t6 h6 => ?_
  have e5 : ([t3, t4, t6, y] : List (List Int)).flatten.length = 18 + body.length := by simp; omega
  unfold slices_Concat_int_int.f
  simp only [if_pos (show ([t3, t4, t6, y] : List (List Int)).length < 1000000 ∧ ([t3, t4, t6, y] : List (List Int)).flatten.length < 17592186044416 from ⟨by simp, by omega⟩), bindS]
  exact EndsIn.now _ e5
theorem bytes_loop (b : S46) (h : BatR b.f5) (g2 : Bool) (g3 : List Int) (g4 : Bool) (g5 : List Int) : ∀ (d i : Nat), b.f5.length - i = d → i ≤ b.f5.length →
    EndsIn (fun k => impl_Batch_bytesOf.l0 k (rowsV (b.f5.take i) (rd_T63 b.f5 0).f0 (rd_T63 b.f5 0).f1) b.f5 (b.f5.length : Int) (i : Int) b.f0 b.f1 b.f2 b.f3 b.f4 b.f5 (rd_T63 b.f5 0).f0 (rd_T63 b.f5 0).f1 g2 g3 g4 g5) (fun r => r.length = batLen b) := by
  have hf := h.first
  have h6 := h.h6
  have hrl := rowsV_len (rd_T63 b.f5 0).f0 (rd_T63 b.f5 0).f1 b.f5 h.recs
  have hri := rowsV_in ⟨hf.a0, hf.a1⟩ ⟨hf.b0, hf.b1⟩ b.f5 h.recs
  have hbl := body_len h
  intro d
  induction d with
  | zero =>
    intro i hd hi
    obtain rfl : i = b.f5.length := by omega
    refine EndsIn.step (fun k => by rw [impl_Batch_bytesOf.l0]) ?_
    simp only [if_neg (show ¬ ((b.f5.length : Int) < (b.f5.length : Int)) by omega), List.take_length]
    have hj : ∀ (body : List Int) (fl : Int), body.length ≤ 2002 → EndsIn (fun k => impl_Batch_bytesOf.j1 k body fl b.f0 b.f1 b.f2 b.f3 b.f4 b.f5 (rd_T63 b.f5 0).f0 (rd_T63 b.f5 0).f1 g2 g3 g4 g5) (fun r => r.length = 18 + body.length) := fun body fl hb => by
      refine EndsIn.step (fun k => by rw [impl_Batch_bytesOf.j1]) ?_
      cases hf1 : b.f1
      · simp only [Bool.false_eq_true, if_false]
        exact j2_ends body hb _ _ _ _ _ _ _ _ _ _ _ _ _
      · simp only [if_true]
        exact j2_ends body hb _ _ _ _ _ _ _ _ _ _ _ _ _
    unfold batLen
    unfold bodyV at hbl ⊢
    cases hf0 : b.f0
    · rw [hf0] at hbl hj
      simp only [Bool.false_eq_true, if_false] at hbl ⊢
      exact hj _ _ hbl
    · rw [hf0] at hbl hj
      simp only [if_true] at hbl ⊢
      exact EndsIn.ev_bind (pack_ev _ (by omega) hri) (hj _ _ hbl)
  | succ d ih =>
    intro i hd hi
    have hlt : i < b.f5.length := by omega
    refine EndsIn.step (fun k => by rw [impl_Batch_bytesOf.l0]) ?_
    simp only [if_pos (show (i : Int) < (b.f5.length : Int) by omega), if_pos (show (0 : Int) ≤ (i : Int) by omega), rdR_nat b.f5 i hlt, w64 (a := (i : Int) + 1) (by omega) (by omega)]
    refine EndsIn.ev_bind (rec_ev (h.recs _ (List.getElem_mem hlt)) ⟨hf.a0, hf.a1⟩ ⟨hf.b0, hf.b1⟩) ?_
    have e : rowsV (b.f5.take (i + 1)) (rd_T63 b.f5 0).f0 (rd_T63 b.f5 0).f1 = rowsV (b.f5.take i) (rd_T63 b.f5 0).f0 (rd_T63 b.f5 0).f1 ++ recV b.f5[i] (rd_T63 b.f5 0).f0 (rd_T63 b.f5 0).f1 := by
      unfold rowsV
      rw [List.take_succ_eq_append_getElem hlt, List.flatMap_append]
      simp
    have hle := rowsV_len (rd_T63 b.f5 0).f0 (rd_T63 b.f5 0).f1 (b.f5.take (i + 1)) (fun r hr => h.recs r (List.mem_of_mem_take hr))
    rw [e, List.length_append, List.length_take] at hle
    simp only [if_pos (show (rowsV (b.f5.take i) (rd_T63 b.f5 0).f0 (rd_T63 b.f5 0).f1).length + (recV b.f5[i] (rd_T63 b.f5 0).f0 (rd_T63 b.f5 0).f1).length < 17592186044416 by omega)]
    have := ih (i + 1) (by omega) (by omega)
    rw [e] at this
    exact_mod_cast this
theorem bytes_ends (b : S46) (h : BatR b.f5) : EndsIn (fun k => impl_Batch_bytesOf.f k b.f0 b.f1 b.f2 b.f3 b.f4 b.f5) (fun r => r.length = batLen b) := by
  have h0 := h.h0
  unfold impl_Batch_bytesOf.f
  simp only [if_pos (show (0 : Int) < (b.f5.length : Int) by omega)]
  have := bytes_loop b h (rd_T63 b.f5 0).f2 (rd_T63 b.f5 0).f3 (rd_T63 b.f5 0).f4 (rd_T63 b.f5 0).f5 b.f5.length 0 (by omega) (by omega)
  exact this
/-! the reference -/
theorem sbody_loop (b : S46) (h : BatR b.f5) : ∀ (d i : Nat), b.f5.length - i = d → i ≤ b.f5.length →
    Ev (fun k => spec_l5Body.l0 k (rowsV (b.f5.take i) (rd_T63 b.f5 0).f0 (rd_T63 b.f5 0).f1) (i : Int) b.f0 b.f1 b.f2 b.f3 b.f4 b.f5) (rowsV b.f5 (rd_T63 b.f5 0).f0 (rd_T63 b.f5 0).f1) := by
  have hf := h.first
  have h6 := h.h6
  have h0 := h.h0
  intro d
  induction d with
  | zero =>
    intro i hd hi
    obtain rfl : i = b.f5.length := by omega
    refine Ev.step (fun k => by rw [spec_l5Body.l0]) ?_
    simp only [if_neg (show ¬ ((b.f5.length : Int) < (b.f5.length : Int)) by omega), List.take_length]
    exact Ev.now _
  | succ d ih =>
    intro i hd hi
    have hlt : i < b.f5.length := by omega
    refine Ev.step (fun k => by rw [spec_l5Body.l0]) ?_
    simp only [if_pos (show (i : Int) < (b.f5.length : Int) by omega), if_pos (show (0 : Int) ≤ (i : Int) by omega), if_pos (show (0 : Int) < (b.f5.length : Int) by omega), rdR_nat b.f5 i hlt, w64 (a := (i : Int) + 1) (by omega) (by omega)]
    refine Ev.bind (srec_ev (h.recs _ (List.getElem_mem hlt)) ⟨hf.a0, hf.a1⟩ ⟨hf.b0, hf.b1⟩) ?_
    have e : rowsV (b.f5.take (i + 1)) (rd_T63 b.f5 0).f0 (rd_T63 b.f5 0).f1 = rowsV (b.f5.take i) (rd_T63 b.f5 0).f0 (rd_T63 b.f5 0).f1 ++ recV b.f5[i] (rd_T63 b.f5 0).f0 (rd_T63 b.f5 0).f1 := by
      unfold rowsV
      rw [List.take_succ_eq_append_getElem hlt, List.flatMap_append]
      simp
    have hle := rowsV_len (rd_T63 b.f5 0).f0 (rd_T63 b.f5 0).f1 (b.f5.take (i + 1)) (fun r hr => h.recs r (List.mem_of_mem_take hr))
    rw [e, List.length_append, List.length_take] at hle
    simp only [if_pos (show (rowsV (b.f5.take i) (rd_T63 b.f5 0).f0 (rd_T63 b.f5 0).f1).length + (recV b.f5[i] (rd_T63 b.f5 0).f0 (rd_T63 b.f5 0).f1).length < 17592186044416 by omega)]
    have := ih (i + 1) (by omega) (by omega)
    rw [e] at this
    exact_mod_cast this
theorem j1_ends (body : List Int) (hb : body.length ≤ 2002) (fl : Int) (a0 a1 : Bool) (x2 x3 x4 : Int) (l : List S63) (hl : 0 < l.length) :
    EndsIn (fun k => spec_l5Bytes.j1 k body fl a0 a1 x2 x3 x4 l) (fun r => r.length = 18 + body.length) := by
  refine EndsIn.step (fun k => by rw [spec_l5Bytes.j1]) ?_
  simp only [bindS]
  refine EndsIn.bind (l2Int_ends x4 2 (by omega)) fun t1 h1 => ?_
  simp only [if_pos (show ([fl, x2, x3] : List Int).length + t1.length < 17592186044416 by simp; omega), bindS, if_pos (show (0 : Int) < (l.length : Int) by omega)]
  refine EndsIn.bind (l2Int_ends (rd_T63 l 0).f1 3 (by omega)) fun t2 h2 => ?_
  have e1 : ([fl, x2, x3] ++ t1 : List Int).length = 5 := by rw [List.length_append, h1]; rfl
  simp only [if_pos (show ([fl, x2, x3] ++ t1 : List Int).length + t2.length < 17592186044416 by omega), bindS]
  have e2 : ([fl, x2, x3] ++ t1 ++ t2 : List Int).length = 8 := by rw [List.length_append, e1, h2]
  simp only [if_pos (show ([fl, x2, x3] ++ t1 ++ t2 : List Int).length + ([(l.length : Int), 0, 0] : List Int).length < 17592186044416 by rw [e2]; simp), bindS]
  have e3 : ([fl, x2, x3] ++ t1 ++ t2 ++ [(l.length : Int), 0, 0] : List Int).length = 11 := by rw [List.length_append, e2]; rfl
  simp only [if_pos (show ([fl, x2, x3] ++ t1 ++ t2 ++ [(l.length : Int), 0, 0] : List Int).length + body.length < 17592186044416 by omega), bindS]
  have e4 : ([fl, x2, x3] ++ t1 ++ t2 ++ [(l.length : Int), 0, 0] ++ body : List Int).length = 11 + body.length := by rw [List.length_append, e3]
  generalize ([fl, x2, x3] ++ t1 ++ t2 ++ [(l.length : Int), 0, 0] ++ body : List Int) = y at e4
  refine EndsIn.bind (l2Int_ends (rd_T63 l 0).f0 3 (by omega)) fun t3 h3 => ?_
  refine EndsIn.bind (l2Int_ends (y.length : Int) 2 (by omega)) fun t4 h4 => ?_
  have e5 : (t3 ++ t4).length = 5 := by rw [List.length_append, h3, h4]
  simp only [if_pos (show t3.length + t4.length < 17592186044416 by omega), bindS]
  have hs : EndsIn (fun k => spec_l2Sum.f k y) (fun _ => True) := by
    unfold spec_l2Sum.f
    exact ssum_loop y (by omega) y.length 0 1 (by omega) (by omega)
  refine EndsIn.bind hs fun t5 _ => ?_
  refine EndsIn.bind (l2Int_ends t5 2 (by omega)) fun t6 h6 => ?_
  have e6 : (t3 ++ t4 ++ t6).length = 7 := by rw [List.length_append, e5, h6]
  simp only [if_pos (show (t3 ++ t4).length + t6.length < 17592186044416 by omega), bindS, if_pos (show (t3 ++ t4 ++ t6).length + y.length < 17592186044416 by omega)]
  exact EndsIn.now _ (by rw [List.length_append]; omega)
theorem sbytes_ends (b : S46) (h : BatR b.f5) : EndsIn (fun k => spec_l5Bytes.f k b.f0 b.f1 b.f2 b.f3 b.f4 b.f5) (fun r => r.length = batLen b) := by
  have hf := h.first
  have h6 := h.h6
  have h0 := h.h0
  have hrl := rowsV_len (rd_T63 b.f5 0).f0 (rd_T63 b.f5 0).f1 b.f5 h.recs
  have hbl := body_len h
  unfold spec_l5Bytes.f
  have hb : Ev (fun k => spec_l5Body.f k b.f0 b.f1 b.f2 b.f3 b.f4 b.f5) (rowsV b.f5 (rd_T63 b.f5 0).f0 (rd_T63 b.f5 0).f1) := by
    unfold spec_l5Body.f
    exact sbody_loop b h b.f5.length 0 (by omega) (by omega)
  have hj : ∀ (body : List Int) (fl : Int), body.length ≤ 2002 → EndsIn (fun k => spec_l5Bytes.j0 k body fl b.f0 b.f1 b.f2 b.f3 b.f4 b.f5) (fun r => r.length = 18 + body.length) := fun body fl hb => by
    refine EndsIn.step (fun k => by rw [spec_l5Bytes.j0]) ?_
    cases hf1 : b.f1
    · simp only [Bool.false_eq_true, if_false]
      exact j1_ends body hb _ _ _ _ _ _ _ h0
    · simp only [if_true]
      exact j1_ends body hb _ _ _ _ _ _ _ h0
  refine EndsIn.ev_bind hb ?_
  unfold batLen
  unfold bodyV at hbl ⊢
  cases hf0 : b.f0
  · rw [hf0] at hbl hj
    simp only [Bool.false_eq_true, if_false] at hbl ⊢
    exact hj _ _ hbl
  · rw [hf0] at hbl hj
    simp only [if_true] at hbl ⊢
    exact EndsIn.ev_bind (spack_ev _ (by omega)) (hj _ _ hbl)
/-! rows of batches -/
def sizeV : List S46 → Nat
  | [] => 0
  | b :: l => batLen b + sizeV l
theorem batLen_le {b : S46} (h : BatR b.f5) : batLen b ≤ 2020 := by
  have := body_len h
  unfold batLen
  omega
theorem size_loop (l : List S46) (hl : l.length ≤ 1000) (h : ∀ b ∈ l, BatR b.f5) : ∀ (d i s : Nat), l.length - i = d → i ≤ l.length → s ≤ 2020 * i → Ev (fun k => impl_sizeOf.l0 k (s : Int) l (l.length : Int) (i : Int)) ((s + sizeV (l.drop i) : Nat) : Int) := by
  intro d
  induction d with
  | zero =>
    intro i s hd hi hs
    refine Ev.step (fun k => by rw [impl_sizeOf.l0]) ?_
    simp only [if_neg (show ¬ ((i : Int) < (l.length : Int)) by omega)]
    rw [List.drop_of_length_le (by omega)]
    exact Ev.now _
  | succ d ih =>
    intro i s hd hi hs
    have hlt : i < l.length := by omega
    have hb := h _ (List.getElem_mem hlt)
    have hbl := batLen_le hb
    refine Ev.step (fun k => by rw [impl_sizeOf.l0]) ?_
    simp only [if_pos (show (i : Int) < (l.length : Int) by omega), if_pos (show (0 : Int) ≤ (i : Int) by omega), rdB_nat l i hlt, w64 (a := (i : Int) + 1) (by omega) (by omega)]
    obtain ⟨t, ht, hlen⟩ := bytes_ends l[i] hb
    refine Ev.bind ht ?_
    simp only [hlen, w64 (a := (s : Int) + ((batLen l[i] : Nat) : Int)) (by omega) (by omega)]
    rw [List.drop_eq_getElem_cons hlt, sizeV, ← Nat.add_assoc]
    have := ih (i + 1) (s + batLen l[i]) (by omega) (by omega) (by omega)
    exact_mod_cast this
theorem ssize_loop (l : List S46) (hl : l.length ≤ 1000) (h : ∀ b ∈ l, BatR b.f5) : ∀ (d i s : Nat), l.length - i = d → i ≤ l.length → s ≤ 2020 * i → Ev (fun k => spec_l33Size.l0 k l (s : Int) (i : Int)) ((s + sizeV (l.drop i) : Nat) : Int) := by
  intro d
  induction d with
  | zero =>
    intro i s hd hi hs
    refine Ev.step (fun k => by rw [spec_l33Size.l0]) ?_
    simp only [if_neg (show ¬ ((i : Int) < (l.length : Int)) by omega)]
    rw [List.drop_of_length_le (by omega)]
    exact Ev.now _
  | succ d ih =>
    intro i s hd hi hs
    have hlt : i < l.length := by omega
    have hb := h _ (List.getElem_mem hlt)
    have hbl := batLen_le hb
    refine Ev.step (fun k => by rw [spec_l33Size.l0]) ?_
    simp only [if_pos (show (i : Int) < (l.length : Int) by omega), if_pos (show (0 : Int) ≤ (i : Int) by omega), rdB_nat l i hlt, w64 (a := (i : Int) + 1) (by omega) (by omega)]
    obtain ⟨t, ht, hlen⟩ := sbytes_ends l[i] hb
    refine Ev.bind ht ?_
    simp only [hlen, w64 (a := (s : Int) + ((batLen l[i] : Nat) : Int)) (by omega) (by omega)]
    rw [List.drop_eq_getElem_cons hlt, sizeV, ← Nat.add_assoc]
    have := ih (i + 1) (s + batLen l[i]) (by omega) (by omega) (by omega)
    exact_mod_cast this
theorem sizeOf_ev (l : List S46) (hl : l.length ≤ 1000) (h : ∀ b ∈ l, BatR b.f5) : Ev (fun k => impl_sizeOf.f k l) ((sizeV l : Nat) : Int) := by
  unfold impl_sizeOf.f
  have := size_loop l hl h l.length 0 0 (by omega) (by omega) (by omega)
  simpa using this
theorem ssizeOf_ev (l : List S46) (hl : l.length ≤ 1000) (h : ∀ b ∈ l, BatR b.f5) : Ev (fun k => spec_l33Size.f k l) ((sizeV l : Nat) : Int) := by
  unfold spec_l33Size.f
  have := ssize_loop l hl h l.length 0 0 (by omega) (by omega) (by omega)
  simpa using this
theorem logOk_R {l : List S46} (h : logOk l = true) : l.length ≤ 8 ∧ ∀ b ∈ l, BatR b.f5 := by
  refine ⟨?_, fun b hb => ?_⟩
  · unfold logOk at h
    simp only [Bool.and_eq_true, decide_eq_true_eq] at h
    omega
  · obtain ⟨i, hi, rfl⟩ := List.getElem_of_mem hb
    exact batR_of (logOk_bat h i hi)
end Go.Proofs.Ythoioccmnphfgaa.Pu

namespace Go.Proofs.Ythoioccmnphfgaa.Pu
open Go.RowKit Go.Proofs.YthoioccmnphfgaaW.PrintWords Go.Proofs.YthoioccmnphfgaaW.PrintLast Go.Proofs.YthoioccmnphfgaaW.PrintMore Go.Proofs.Ythoioccmnphfgaa.G
set_option linter.unusedVariables false
set_option linter.unusedSimpArgs false
def kR (m : Int) : List S46 → Nat
  | [] => 0
  | [_] => 0
  | b :: c :: l => if ((sizeV (b :: c :: l) : Nat) : Int) ≤ m then 0 else kR m (c :: l) + 1
theorem kept_sloop (m : Int) (l : List S46) (hl : l.length ≤ 1000) (h : ∀ b ∈ l, BatR b.f5) : ∀ (d i : Nat), l.length - i = d → i < l.length →
    Ev (fun k => impl_keptFrom.l0 k l m (l.length : Int) (i : Int)) ((i + kR m (l.drop i) : Nat) : Int) := by
  intro d
  induction d with
  | zero =>
    intro i hd hi
    omega
  | succ d ih =>
    intro i hd hi
    have hfit : Ev (fun k => impl_room_fits.f k m l (i : Int)) (decide (((sizeV (l.drop i) : Nat) : Int) ≤ m)) := by
      unfold impl_room_fits.f
      simp only [if_pos (show (0 : Int) ≤ (i : Int) by omega), if_pos (show (i : Int) ≤ (l.length : Int) by omega), Int.toNat_natCast]
      exact Ev.bind (sizeOf_ev _ (by rw [List.length_drop]; omega) (fun b hb => h b (List.mem_of_mem_drop hb))) (Ev.now _)
    refine Ev.step (fun k => by rw [impl_keptFrom.l0]) ?_
    simp only [if_pos (show (i : Int) < (l.length : Int) by omega), w64 (a := (i : Int) + 1) (by omega) (by omega)]
    refine Ev.bind hfit ?_
    by_cases hf : ((sizeV (l.drop i) : Nat) : Int) ≤ m
    · simp only [decide_eq_true hf, if_true]
      have : kR m (l.drop i) = 0 := by
        rcases hx : l.drop i with _ | ⟨b, _ | ⟨c, x⟩⟩
        · rfl
        · rfl
        · rw [hx] at hf
          rw [kR, if_pos hf]
      rw [this]
      exact Ev.now _
    · simp only [decide_eq_false hf, Bool.false_eq_true, if_false]
      by_cases hn : i + 1 < l.length
      · have e : kR m (l.drop i) = kR m (l.drop (i + 1)) + 1 := by
          rw [List.drop_eq_getElem_cons hi, List.drop_eq_getElem_cons hn] at hf ⊢
          rw [kR, if_neg hf]
        rw [e]
        have := ih (i + 1) (by omega) hn
        rw [show i + (kR m (l.drop (i + 1)) + 1) = i + 1 + kR m (l.drop (i + 1)) by omega]
        exact_mod_cast this
      · have e : kR m (l.drop i) = 0 := by
          rw [List.drop_eq_getElem_cons hi, List.drop_of_length_le (by omega)]
          rfl
        rw [e]
        refine Ev.step (fun k => by rw [impl_keptFrom.l0]) ?_
        simp only [if_neg (show ¬ ((i : Int) + 1 < (l.length : Int)) by omega), w64 (a := (l.length : Int) - 1) (by omega) (by omega)]
        have : mx ((l.length : Int) - 1) 0 = ((i + 0 : Nat) : Int) := by unfold mx; split <;> omega
        rw [this]
        exact Ev.now _
theorem keptFromS_ev (m : Int) (l : List S46) (hl : l.length ≤ 1000) (h : ∀ b ∈ l, BatR b.f5) : Ev (fun k => impl_keptFrom.f k l m) ((kR m l : Nat) : Int) := by
  unfold impl_keptFrom.f
  rcases Nat.eq_zero_or_pos l.length with h0 | h0
  · obtain rfl : l = [] := List.eq_nil_of_length_eq_zero h0
    refine Ev.step (fun k => by rw [impl_keptFrom.l0]) ?_
    simp only [List.length_nil, if_neg (show ¬ ((0 : Int) < ((0 : Nat) : Int)) by omega), w64 (a := ((0 : Nat) : Int) - 1) (by omega) (by omega)]
    have : mx (((0 : Nat) : Int) - 1) 0 = ((kR m ([] : List S46) : Nat) : Int) := by unfold mx kR; rfl
    rw [this]
    exact Ev.now _
  · have := kept_sloop m l hl h l.length 0 (by omega) h0
    simpa using this
theorem skept_loop (m : Int) (l : List S46) (hl : l.length ≤ 1000) (h : ∀ b ∈ l, BatR b.f5) : ∀ (d i : Nat), l.length - i = d → i ≤ l.length →
    Ev (fun k => spec_KeepSize.l0 k l m (i : Int)) ((i + kR m (l.drop i) : Nat) : Int) := by
  intro d
  induction d with
  | zero =>
    intro i hd hi
    refine Ev.step (fun k => by rw [spec_KeepSize.l0]) ?_
    simp only [w64 (a := (i : Int) + 1) (by omega) (by omega), if_neg (show ¬ ((i : Int) + 1 < (l.length : Int)) by omega)]
    rw [List.drop_of_length_le (by omega)]
    exact Ev.now _
  | succ d ih =>
    intro i hd hi
    refine Ev.step (fun k => by rw [spec_KeepSize.l0]) ?_
    by_cases hn : i + 1 < l.length
    · simp only [w64 (a := (i : Int) + 1) (by omega) (by omega), if_pos (show (i : Int) + 1 < (l.length : Int) by omega), if_pos (show (0 : Int) ≤ (i : Int) by omega), if_pos (show (i : Int) ≤ (l.length : Int) by omega), Int.toNat_natCast]
      refine Ev.bind (ssizeOf_ev _ (by rw [List.length_drop]; omega) (fun b hb => h b (List.mem_of_mem_drop hb))) ?_
      have hd1 : l.drop i = l[i] :: l[i + 1] :: l.drop (i + 1 + 1) := by rw [List.drop_eq_getElem_cons (by omega : i < l.length), List.drop_eq_getElem_cons hn]
      have hd2 : l.drop (i + 1) = l[i + 1] :: l.drop (i + 1 + 1) := List.drop_eq_getElem_cons hn
      by_cases hf : ((sizeV (l.drop i) : Nat) : Int) ≤ m
      · simp only [if_neg (show ¬ ((sizeV (l.drop i) : Nat) : Int) > m by omega)]
        have e : kR m (l.drop i) = 0 := by rw [hd1] at hf ⊢; rw [kR, if_pos hf]
        rw [e]
        exact Ev.now _
      · simp only [if_pos (show ((sizeV (l.drop i) : Nat) : Int) > m by omega)]
        have e : kR m (l.drop i) = kR m (l.drop (i + 1)) + 1 := by rw [hd1] at hf ⊢; rw [hd2, kR, if_neg hf]
        rw [e]
        have := ih (i + 1) (by omega) (by omega)
        rw [show i + (kR m (l.drop (i + 1)) + 1) = i + 1 + kR m (l.drop (i + 1)) by omega]
        exact_mod_cast this
    · simp only [w64 (a := (i : Int) + 1) (by omega) (by omega), if_neg (show ¬ ((i : Int) + 1 < (l.length : Int)) by omega)]
      have e : kR m (l.drop i) = 0 := by
        rw [List.drop_eq_getElem_cons (by omega : i < l.length), List.drop_of_length_le (by omega)]
        rfl
      rw [e]
      exact Ev.now _
def keepSV (m : Int) (l : List S46) : Int := if logOk l = true ∧ 0 ≤ m ∧ m ≤ 99999 then ((kR m l : Nat) : Int) else -1
theorem KeepSize_ev (m : Int) (l : List S46) (hb : RowB l) : Ev (fun k => impl_KeepSize.f k l m) (keepSV m l) := by
  unfold impl_KeepSize.f keepSV
  refine Ev.bind (LogValid_ev l hb) ?_
  cases h : logOk l
  · simp only [Bool.false_eq_true, if_false, false_and]
    exact Ev.now _
  · have hR := logOk_R h
    simp only [if_true, within_ev, bindS, true_and]
    by_cases hm : 0 ≤ m ∧ m ≤ 99999
    · simp only [decide_eq_true hm.1, decide_eq_true hm.2, Bool.and_self, if_true, if_pos hm]
      exact Ev.bind (keptFromS_ev m l (by omega) hR.2) (Ev.now _)
    · have : (decide (0 ≤ m) && decide (m ≤ 99999)) = false := by
        rw [Bool.eq_false_iff]
        intro hc
        simp only [Bool.and_eq_true, decide_eq_true_eq] at hc
        exact hm hc
      simp only [this, Bool.false_eq_true, if_false, if_neg hm]
      exact Ev.now _
theorem sKeepSize_ev (m : Int) (l : List S46) (hb : RowB l) : Ev (fun k => spec_KeepSize.f k l m) (keepSV m l) := by
  unfold spec_KeepSize.f keepSV
  refine Ev.bind (sLogValid_ev l hb) ?_
  cases h : logOk l
  · simp only [Bool.false_eq_true, if_false, false_and]
    refine Ev.step (fun k => by rw [spec_KeepSize.j0]) ?_
    simp only [if_true]
    exact Ev.now _
  · have hR := logOk_R h
    simp only [if_true, in_ev, bindS, true_and]
    refine Ev.step (fun k => by rw [spec_KeepSize.j0]) ?_
    by_cases hm : 0 ≤ m ∧ m ≤ 99999
    · simp only [decide_eq_true hm.1, decide_eq_true hm.2, Bool.and_self, Bool.not_true, Bool.false_eq_true, if_false, if_pos hm]
      have := skept_loop m l (by omega) hR.2 l.length 0 (by omega) (by omega)
      simpa using this
    · have : (decide (0 ≤ m) && decide (m ≤ 99999)) = false := by
        rw [Bool.eq_false_iff]
        intro hc
        simp only [Bool.and_eq_true, decide_eq_true_eq] at hc
        exact hm hc
      simp only [this, Bool.not_false, if_true, if_neg hm]
      exact Ev.now _
theorem RowB.drop {l : List S46} (h : RowB l) (n : Nat) : RowB (l.drop n) := ⟨by have := h.1; rw [List.length_drop]; omega, fun b hb => h.2 b (List.mem_of_mem_drop hb)⟩
theorem RowB.take {l : List S46} (h : RowB l) (n : Nat) : RowB (l.take n) := ⟨by have := h.1; rw [List.length_take]; omega, fun b hb => h.2 b (List.mem_of_mem_take hb)⟩
end Go.Proofs.Ythoioccmnphfgaa.Pu

namespace Go.Proofs.Ythoioccmnphfgaa.Pure
open Go.RowKit Go.Proofs.Ythoioccmnphfgaa.G Go.Proofs.YthoioccmnphfgaaW.PrintWords Go.Proofs.YthoioccmnphfgaaW.PrintLast Go.Proofs.Ythoioccmnphfgaa.Pu
set_option linter.unusedSimpArgs false
theorem FnExactKeepSize : OFnExactKeepSize.Pure := by
  intro l0 a1 hl0 ho0 ho1
  refine EndsIn.rounds ?_
  unfold laws_FnExactKeepSize.f
  have hs0 : ∀ b ∈ l0, LenB b := fun b hb => ⟨(ho0 b hb).2.2.2.2.2.1, fun r hr => ⟨((ho0 b hb).2.2.2.2.2.2 r hr).2.2.2.1.1, ((ho0 b hb).2.2.2.2.2.2 r hr).2.2.2.2.2.1⟩⟩
  refine EndsIn.bind (szBatchS_ends l0 hl0 hs0 1048576 (by omega) (by omega)) fun t ht => ?_
  by_cases h : t < 0
  · simp only [if_pos h]
    exact EndsIn.now _ rfl
  · simp only [if_neg h]
    obtain ⟨t0, t1, n0, z0⟩ := ht.resolve_left h
    have hb := rowB_cv n0 z0
    refine ⟨true, ?_, rfl⟩
    refine Ev.bind (toBatchS_ev l0 n0 z0) (Ev.bind (sKeepSize_ev a1 _ hb) (Ev.bind (toBatchS_ev l0 n0 z0) (Ev.bind (KeepSize_ev a1 _ hb) ?_)))
    simp only [if_true]
    refine Ev.bind (toBatchS_ev l0 n0 z0) (Ev.bind (eqBatchS_ev _ hb) ?_)
    simp only [if_true]
    exact Ev.now _
end Go.Proofs.Ythoioccmnphfgaa.Pure

namespace Go.Proofs.Ythoioccmnphfgaa.fnExactKeepSize
open Go.ChangeShapes Go.WideShapes Go.ChangeAt Go.RowKit Go.Proofs.Ythoioccmnphfgaa.OFnExactKeepSize Go.Proofs.Ythoioccmnphfgaa.G Go.Joins
open Go.ChangeMaps (open_string shut_string)
set_option linter.unusedVariables false
theorem own : ownKnob Try.prog.godebug = none := by kernel_rfl
theorem laidOut : laidOutB Try.prog = true := by kernel_rfl
set_option maxRecDepth 100000 in
theorem lifted (os : Os) (started : os.Started) (H : Type) (enc : TypeId × Value → H) :
    ReturnsInHanded {} Try.checked os 8 .any (Rows.fnExactKeepSizeSpec.pre6 enc Try.prog Try.f8 Rows.fnExactKeepSizeRow.domain false) (Rows.fnExactKeepSizeSpec.post enc Try.prog Try.f8 false true false false) := by
  refine returnsInHanded_of_change_sized (C := Try.checked) own started (by kernel_rfl) Try.func8
    (ChangeSpec.witness6 (enc := enc) (C := Try.checked) false ⟨#[], #[.slice none 0 0, .int .i64 0], []⟩ 8 (by kernel_rfl) (by kernel_rfl) (by kernel_rfl) (by kernel_rfl)) ?_
  intro W base args ds gs before hval0 hW hcnd hsz0 _
  have hsz : (DataW.weightsEach Try.prog (Try.f8.params.toList ++ Rows.fnExactKeepSizeSpec.plain.varTypes Try.prog) (ds ++ gs)).all (· ≤ reachBytes) = true := hsz0
  have hval : ∀ (j : Nat) t v, Try.f8.params[j]? = some t → args[j]? = some v → Value.okWide Try.prog W .any base t v := hval0
  have hW' := hW
  obtain ⟨p, q, hA0, hV, rfl, hfz, hnd⟩ := hW
  have hA : DataW.TrodAll enc Try.prog W 0 (fun _ => true) true Try.f8.params.toList args.toList ds p := hA0
  rw [Try.params8] at hA hval hsz
  obtain ⟨v0, vs0, d0, ds0, p0, q0, hargs, rfl, rfl, h0, r0⟩ := trodAll_cons hA
  obtain ⟨v1, vs1, d1, ds1, p1, q1, rfl, rfl, rfl, h1, r1⟩ := trodAll_cons r0
  obtain ⟨rfl, rfl, rfl⟩ := trodAll_nil r1
  obtain rfl : args = #[v0, v1] := by cases args; simp_all
  obtain ⟨rfl, rfl⟩ := trodVars_none hV
  obtain ⟨a0, len0, cap0, rfl⟩ := okWide_slice Try.underlying34 (hval 0 34 v0 rfl rfl)
  have k0 := h0
  have lt0 : ∀ x ∈ p0, x.block < W.heap.size := by obtain ⟨m, hm⟩ := k0; exact DataW.trod_lt m _ _ _ hm
  obtain ⟨fuel0, hf0⟩ := h0
  obtain ⟨A0, c0, l0, hcs0, hlc0, hm0, hC0, ho0⟩ := Rd.opens_row Try.underlying34 open56 hf0
  simp [Value.cells] at hcs0
  obtain ⟨rfl, rfl, rfl⟩ := hcs0
  obtain ⟨a1, rfl, rfl, rfl, w1⟩ := open_int Try.underlying3 (hval 1 3 v1 rfl rfl) h1
  clear hA0 hval0 hsz0 hsz
  obtain ⟨k, h⟩ := Pure.FnExactKeepSize l0 a1 (Nat.le_trans hlc0 hm0) ho0 w1
  refine (laws_FnExactKeepSize.calls k _ _ l0 a1 true W hC0 hlc0 h).mono fun e W' ⟨he, bel0⟩ => ?_
  subst he
  have bel : Below W.heap.size W W' := bel0
  exact ⟨_, rfl, _, _, _, [], _, [], hW', trodAll_mk1 (shut_bool Try.underlying4 _), (trodAll_cons_mk (Below.trod laidOut (by kernel_rfl) (of_decide_eq_true (by kernel_rfl)) k0 bel lt0) (trodAll_cons_mk (shut_int Try.underlying3 w1) trodAll_mk0)), rfl, bel.frame _, fun h => by cases h⟩
theorem over : Rows.fnExactKeepSizeRow.holds Try.pinned (OpenSpec.ofChange Rows.fnExactKeepSizeSpec) :=
  OpenClaim.holds_of_wide 8 Try.f8 rfl rfl rfl rfl rfl rfl rfl ⟨rfl, rfl, rfl, rfl, rfl⟩ rfl rfl rfl rfl rfl (by kernel_rfl) Try.func8 (by kernel_rfl)
    (of_decide_eq_true (by kernel_rfl)) (by unfold Func.isWrapper; first | (rw [if_pos (by decide +kernel)]; kernel_rfl) | (rw [if_neg (by decide +kernel)]; exact ⟨rfl, rfl⟩))
    (fun os started H enc _ => lifted os started H enc)
theorem proved : Rows.FnExactKeepSizeSaid := over
#print axioms proved
end Go.Proofs.Ythoioccmnphfgaa.fnExactKeepSize
namespace Go.Proofs.Ythoioccmnphfgaa
/-- The row, under a short name, for the claim. -/
theorem fnExactKeepSize_holds : Rows.FnExactKeepSizeSaid := fnExactKeepSize.proved
end Go.Proofs.Ythoioccmnphfgaa

