/- A text of seat Ythoioccmnphfgaa: what the law FnKeepMore needs of this repo's texts (by pack.py). Not trusted: Lean checks it. -/
import Derived.Test.YthoioccmnphfgaaKFnKeepMore9
import Derived.Deep.Slices
import Derived.SizedLaws
import Derived.Laws.BitsLemmas
import Derived.Test.YthoioccmnphfgaaRows
import Derived.WalkKit
import Derived.ProofKit
import Derived.OpenShut
import Derived.ShutString
import Derived.ChangeOld
import Derived.Below
import Derived.Lib.SmallJoins
import Derived.Laws.StructEq
import Derived.ChangeSlices
namespace Go.Proofs.Ythoioccmnphfgaa.G
open Go.RowKit Go.Proofs.YthoioccmnphfgaaW.PrintWords Go.Proofs.YthoioccmnphfgaaW.PrintLast Go.Proofs.YthoioccmnphfgaaW.PrintMore
attribute [local go_sem] max2_int min2_int max_two min_two max_three min_three max_four min_four   -- for this text's walks alone
set_option linter.unusedVariables false
set_option linter.unusedSimpArgs false

def laws_FnKeepMore.f (k : Nat) (l0 : List Int) : Option (Bool) := if (l0.length : Int) > 1048576 then (some true) else ((spec_DrawKeepSize.f k l0).bind fun bt638 => ((impl_KeepSize.f k bt638.1 bt638.2).bind fun t642 => ((spec_KeepSize.f k bt638.1 bt638.2).bind fun t643 => (if t642 = t643 then (if t643 < 0 then (some (t642 == t643)) else (if bt638.2 = 99999 then (some (t642 == t643)) else ((impl_KeepSize.f k bt638.1 (wrap64 (bt638.2 + 1))).bind fun t644 => (if t644 ≥ 0 then (some (decide (t644 ≤ t642))) else (some false))))) else (some (t642 == t643))))))
set_option maxHeartbeats 8000000 in
set_option maxRecDepth 100000 in
theorem laws_FnKeepMore.calls (k : Nat) (A0 : Option Addr) (c0 : Nat) (l0 : List Int) (r : Bool) (w : World) (hr0 : Kd.C (Kd.int .u8) w A0 l0.length l0) (hc0 : l0.length ≤ c0) (h : laws_FnKeepMore.f k l0 = some r) :
  Calls Try.prog 4 #[.slice A0 l0.length c0] w fun e w' => e = .returned (.bool r) ∧ Below w.heap.size w w' := by
 have HR0 := Aside0.mk hr0
 have HC0 := Aside0.mk hc0
 clear hr0 hc0
 have HB := Aside0.mk (Below.refl w.heap.size w)
 have H : (if (l0.length : Int) > 1048576 then (some true) else ((spec_DrawKeepSize.f k l0).bind fun bt638 => ((impl_KeepSize.f k bt638.1 bt638.2).bind fun t642 => ((spec_KeepSize.f k bt638.1 bt638.2).bind fun t643 => (if t642 = t643 then (if t643 < 0 then (some (t642 == t643)) else (if bt638.2 = 99999 then (some (t642 == t643)) else ((impl_KeepSize.f k bt638.1 (wrap64 (bt638.2 + 1))).bind fun t644 => (if t644 ≥ 0 then (some (decide (t644 ≤ t642))) else (some false))))) else (some (t642 == t643))))))) = some r := h
 clear h
 by_cases c2 : (l0.length : Int) > 1048576
 ·rw [if_pos c2] at H
  have c2b0 : decide (1048576 < (l0.length : Int)) = true := decide_eq_true c2
  have c2b1 : decide (1048576 < l0.length) = true := decide_eq_true (by omega)
  clear c2
  obtain rfl := Option.some.inj H
  go_enter Try.func4, Try.ntmps4
  go_wp2
  all_goals go_ret
  all_goals exact ⟨by first | rfl | (simp [errW_none, errW_some] <;> rfl) | (simp [*, errW_none, errW_some] <;> rfl), zb⟩
 ·rw [if_neg c2] at H
  have c2b0 : decide (1048576 < (l0.length : Int)) = false := decide_eq_false c2
  have c2b1 : decide (1048576 < l0.length) = false := decide_eq_false (by omega)
  clear c2
  replace H := tbe H
  obtain ⟨⟨t638, t641⟩, A3, H⟩ := H
  dsimp only at H
  replace H := tbe H
  obtain ⟨t642, A4, H⟩ := H
  replace H := tbe H
  obtain ⟨t643, A5, H⟩ := H
  by_cases c6 : t642 = t643
  ·rw [if_pos c6] at H
   have c6b0 : (t642 == t643) = true := beq_iff_eq.mpr c6
   have c6b1 : (t642 != t643) = false := bne_eq_false_iff_eq.mpr c6
   clear c6
   by_cases c7 : t643 < 0
   ·rw [if_pos c7] at H
    have c7b0 : decide (t643 < 0) = true := decide_eq_true c7
    clear c7
    obtain rfl := Option.some.inj H
    go_enter Try.func4, Try.ntmps4
    go_wp2_with (first | ((with_reducible refine gate_callee (f := 13) rfl ?_); refine goesL_ (some 13) rfl rfl Try.func13 (by kernel_rfl) rfl #[.slice A0 l0.length c0] rfl tq ?_; (with_reducible refine (spec_DrawKeepSize.calls k _ _ l0 t638 t641 _ ?side1 ?side2 A3.out).mono ?_); (case side1 => exact tC HR0.out); (case side2 => exact HC0.out); rintro e w8 ⟨v639, rfl, ho0, hb⟩; have u_v639 := tsv Try.prog v639 ho0; refine ⟨_, rfl, ?_⟩; have HO640 := Aside0.mk (Kd.N_lower (Kd.N_mono (ok' := fun k_ => True) ho0 (fun k_ hk_ => trivial)) (below_size zb)); replace HB := tBs HB hb; (try clear hb); (try clear hb2); (try clear hk); (try clear hi); (try clear ho0); obtain ⟨Ao9, co9, eo9⟩ := Kd.N_slice HO640.out; subst eo9) | ((with_reducible refine gate_callee (f := 14) rfl ?_); refine goesL_ (some 18) rfl rfl Try.func14 (by kernel_rfl) rfl #[.slice Ao9 t638.length co9, .int .i64 t641] rfl tq ?_; (with_reducible refine (impl_KeepSize.calls k _ _ t638 t641 t642 _ ?side1 ?side2 A4.out).mono ?_); (case side1 => repeat (first | exact (Kd.N_reads' HO640.out).2.2 | (with_reducible refine Kd.C_alloc ?_ _) | (with_reducible refine Kd.C_drewN ?_ _) | (with_reducible refine Kd.C_drew ?_))); (case side2 => exact (Kd.N_reads' HO640.out).2.1); rintro e w10 ⟨rfl, hb⟩; refine ⟨_, rfl, ?_⟩; replace HO640 := tNb HO640 hb; replace HB := tBs HB hb; (try clear hb); (try clear hb2); (try clear hk); (try clear hi)) | ((with_reducible refine gate_callee (f := 15) rfl ?_); refine goesL_ (some 21) rfl rfl Try.func15 (by kernel_rfl) rfl #[.slice Ao9 t638.length co9, .int .i64 t641] rfl tq ?_; (with_reducible refine (spec_KeepSize.calls k _ _ t638 t641 t643 _ ?side1 ?side2 A5.out).mono ?_); (case side1 => repeat (first | exact (Kd.N_reads' HO640.out).2.2 | (with_reducible refine Kd.C_alloc ?_ _) | (with_reducible refine Kd.C_drewN ?_ _) | (with_reducible refine Kd.C_drew ?_))); (case side2 => exact (Kd.N_reads' HO640.out).2.1); rintro e w11 ⟨rfl, hb⟩; refine ⟨_, rfl, ?_⟩; replace HO640 := tNb HO640 hb; replace HB := tBs HB hb; (try clear hb); (try clear hb2); (try clear hk); (try clear hi)))
    all_goals go_ret
    all_goals exact ⟨by first | rfl | (simp [errW_none, errW_some] <;> rfl) | (simp [*, errW_none, errW_some] <;> rfl), zb⟩
   ·rw [if_neg c7] at H
    have c7b0 : decide (t643 < 0) = false := decide_eq_false c7
    clear c7
    by_cases c12 : t641 = 99999
    ·rw [if_pos c12] at H
     have c12b0 : (t641 == 99999) = true := beq_iff_eq.mpr c12
     have c12b1 : (t641 != 99999) = false := bne_eq_false_iff_eq.mpr c12
     clear c12
     obtain rfl := Option.some.inj H
     go_enter Try.func4, Try.ntmps4
     go_wp2_with (first | ((with_reducible refine gate_callee (f := 13) rfl ?_); refine goesL_ (some 13) rfl rfl Try.func13 (by kernel_rfl) rfl #[.slice A0 l0.length c0] rfl tq ?_; (with_reducible refine (spec_DrawKeepSize.calls k _ _ l0 t638 t641 _ ?side1 ?side2 A3.out).mono ?_); (case side1 => exact tC HR0.out); (case side2 => exact HC0.out); rintro e w13 ⟨v639, rfl, ho0, hb⟩; have u_v639 := tsv Try.prog v639 ho0; refine ⟨_, rfl, ?_⟩; have HO640 := Aside0.mk (Kd.N_lower (Kd.N_mono (ok' := fun k_ => True) ho0 (fun k_ hk_ => trivial)) (below_size zb)); replace HB := tBs HB hb; (try clear hb); (try clear hb2); (try clear hk); (try clear hi); (try clear ho0); obtain ⟨Ao14, co14, eo14⟩ := Kd.N_slice HO640.out; subst eo14) | ((with_reducible refine gate_callee (f := 14) rfl ?_); refine goesL_ (some 18) rfl rfl Try.func14 (by kernel_rfl) rfl #[.slice Ao14 t638.length co14, .int .i64 t641] rfl tq ?_; (with_reducible refine (impl_KeepSize.calls k _ _ t638 t641 t642 _ ?side1 ?side2 A4.out).mono ?_); (case side1 => repeat (first | exact (Kd.N_reads' HO640.out).2.2 | (with_reducible refine Kd.C_alloc ?_ _) | (with_reducible refine Kd.C_drewN ?_ _) | (with_reducible refine Kd.C_drew ?_))); (case side2 => exact (Kd.N_reads' HO640.out).2.1); rintro e w15 ⟨rfl, hb⟩; refine ⟨_, rfl, ?_⟩; replace HO640 := tNb HO640 hb; replace HB := tBs HB hb; (try clear hb); (try clear hb2); (try clear hk); (try clear hi)) | ((with_reducible refine gate_callee (f := 15) rfl ?_); refine goesL_ (some 21) rfl rfl Try.func15 (by kernel_rfl) rfl #[.slice Ao14 t638.length co14, .int .i64 t641] rfl tq ?_; (with_reducible refine (spec_KeepSize.calls k _ _ t638 t641 t643 _ ?side1 ?side2 A5.out).mono ?_); (case side1 => repeat (first | exact (Kd.N_reads' HO640.out).2.2 | (with_reducible refine Kd.C_alloc ?_ _) | (with_reducible refine Kd.C_drewN ?_ _) | (with_reducible refine Kd.C_drew ?_))); (case side2 => exact (Kd.N_reads' HO640.out).2.1); rintro e w16 ⟨rfl, hb⟩; refine ⟨_, rfl, ?_⟩; replace HO640 := tNb HO640 hb; replace HB := tBs HB hb; (try clear hb); (try clear hb2); (try clear hk); (try clear hi)))
     all_goals go_ret
     all_goals exact ⟨by first | rfl | (simp [errW_none, errW_some] <;> rfl) | (simp [*, errW_none, errW_some] <;> rfl), zb⟩
    ·rw [if_neg c12] at H
     have c12b0 : (t641 == 99999) = false := beq_eq_false_iff_ne.mpr c12
     have c12b1 : (t641 != 99999) = true := bne_iff_ne.mpr c12
     replace H := tbe H
     obtain ⟨t644, A17, H⟩ := H
     by_cases c18 : t644 ≥ 0
     ·rw [if_pos c18] at H
      have c18b0 : decide (0 ≤ t644) = true := decide_eq_true c18
      clear c18
      obtain rfl := Option.some.inj H
      go_enter Try.func4, Try.ntmps4
      go_wp2_with (first | ((with_reducible refine gate_callee (f := 13) rfl ?_); refine goesL_ (some 13) rfl rfl Try.func13 (by kernel_rfl) rfl #[.slice A0 l0.length c0] rfl tq ?_; (with_reducible refine (spec_DrawKeepSize.calls k _ _ l0 t638 t641 _ ?side1 ?side2 A3.out).mono ?_); (case side1 => exact tC HR0.out); (case side2 => exact HC0.out); rintro e w19 ⟨v639, rfl, ho0, hb⟩; have u_v639 := tsv Try.prog v639 ho0; refine ⟨_, rfl, ?_⟩; have HO640 := Aside0.mk (Kd.N_lower (Kd.N_mono (ok' := fun k_ => True) ho0 (fun k_ hk_ => trivial)) (below_size zb)); replace HB := tBs HB hb; (try clear hb); (try clear hb2); (try clear hk); (try clear hi); (try clear ho0); obtain ⟨Ao20, co20, eo20⟩ := Kd.N_slice HO640.out; subst eo20) | ((with_reducible refine gate_callee (f := 14) rfl ?_); refine goesL_ (some 18) rfl rfl Try.func14 (by kernel_rfl) rfl #[.slice Ao20 t638.length co20, .int .i64 t641] rfl tq ?_; (with_reducible refine (impl_KeepSize.calls k _ _ t638 t641 t642 _ ?side1 ?side2 A4.out).mono ?_); (case side1 => repeat (first | exact (Kd.N_reads' HO640.out).2.2 | (with_reducible refine Kd.C_alloc ?_ _) | (with_reducible refine Kd.C_drewN ?_ _) | (with_reducible refine Kd.C_drew ?_))); (case side2 => exact (Kd.N_reads' HO640.out).2.1); rintro e w21 ⟨rfl, hb⟩; refine ⟨_, rfl, ?_⟩; replace HO640 := tNb HO640 hb; replace HB := tBs HB hb; (try clear hb); (try clear hb2); (try clear hk); (try clear hi)) | ((with_reducible refine gate_callee (f := 15) rfl ?_); refine goesL_ (some 21) rfl rfl Try.func15 (by kernel_rfl) rfl #[.slice Ao20 t638.length co20, .int .i64 t641] rfl tq ?_; (with_reducible refine (spec_KeepSize.calls k _ _ t638 t641 t643 _ ?side1 ?side2 A5.out).mono ?_); (case side1 => repeat (first | exact (Kd.N_reads' HO640.out).2.2 | (with_reducible refine Kd.C_alloc ?_ _) | (with_reducible refine Kd.C_drewN ?_ _) | (with_reducible refine Kd.C_drew ?_))); (case side2 => exact (Kd.N_reads' HO640.out).2.1); rintro e w22 ⟨rfl, hb⟩; refine ⟨_, rfl, ?_⟩; replace HO640 := tNb HO640 hb; replace HB := tBs HB hb; (try clear hb); (try clear hb2); (try clear hk); (try clear hi)) | ((with_reducible refine gate_callee (f := 14) rfl ?_); refine goesL_ (some 39) rfl rfl Try.func14 (by kernel_rfl) rfl #[.slice Ao20 t638.length co20, .int .i64 (wrap64 (t641 + 1))] rfl tq ?_; (with_reducible refine (impl_KeepSize.calls k _ _ t638 (wrap64 (t641 + 1)) t644 _ ?side1 ?side2 A17.out).mono ?_); (case side1 => repeat (first | exact (Kd.N_reads' HO640.out).2.2 | (with_reducible refine Kd.C_alloc ?_ _) | (with_reducible refine Kd.C_drewN ?_ _) | (with_reducible refine Kd.C_drew ?_))); (case side2 => exact (Kd.N_reads' HO640.out).2.1); rintro e w23 ⟨rfl, hb⟩; refine ⟨_, rfl, ?_⟩; replace HO640 := tNb HO640 hb; replace HB := tBs HB hb; (try clear hb); (try clear hb2); (try clear hk); (try clear hi)))
      all_goals go_ret
      all_goals exact ⟨by first | rfl | (simp [errW_none, errW_some] <;> rfl) | (simp [*, errW_none, errW_some] <;> rfl), zb⟩
     ·rw [if_neg c18] at H
      have c18b0 : decide (0 ≤ t644) = false := decide_eq_false c18
      clear c18
      obtain rfl := Option.some.inj H
      go_enter Try.func4, Try.ntmps4
      go_wp2_with (first | ((with_reducible refine gate_callee (f := 13) rfl ?_); refine goesL_ (some 13) rfl rfl Try.func13 (by kernel_rfl) rfl #[.slice A0 l0.length c0] rfl tq ?_; (with_reducible refine (spec_DrawKeepSize.calls k _ _ l0 t638 t641 _ ?side1 ?side2 A3.out).mono ?_); (case side1 => exact tC HR0.out); (case side2 => exact HC0.out); rintro e w24 ⟨v639, rfl, ho0, hb⟩; have u_v639 := tsv Try.prog v639 ho0; refine ⟨_, rfl, ?_⟩; have HO640 := Aside0.mk (Kd.N_lower (Kd.N_mono (ok' := fun k_ => True) ho0 (fun k_ hk_ => trivial)) (below_size zb)); replace HB := tBs HB hb; (try clear hb); (try clear hb2); (try clear hk); (try clear hi); (try clear ho0); obtain ⟨Ao25, co25, eo25⟩ := Kd.N_slice HO640.out; subst eo25) | ((with_reducible refine gate_callee (f := 14) rfl ?_); refine goesL_ (some 18) rfl rfl Try.func14 (by kernel_rfl) rfl #[.slice Ao25 t638.length co25, .int .i64 t641] rfl tq ?_; (with_reducible refine (impl_KeepSize.calls k _ _ t638 t641 t642 _ ?side1 ?side2 A4.out).mono ?_); (case side1 => repeat (first | exact (Kd.N_reads' HO640.out).2.2 | (with_reducible refine Kd.C_alloc ?_ _) | (with_reducible refine Kd.C_drewN ?_ _) | (with_reducible refine Kd.C_drew ?_))); (case side2 => exact (Kd.N_reads' HO640.out).2.1); rintro e w26 ⟨rfl, hb⟩; refine ⟨_, rfl, ?_⟩; replace HO640 := tNb HO640 hb; replace HB := tBs HB hb; (try clear hb); (try clear hb2); (try clear hk); (try clear hi)) | ((with_reducible refine gate_callee (f := 15) rfl ?_); refine goesL_ (some 21) rfl rfl Try.func15 (by kernel_rfl) rfl #[.slice Ao25 t638.length co25, .int .i64 t641] rfl tq ?_; (with_reducible refine (spec_KeepSize.calls k _ _ t638 t641 t643 _ ?side1 ?side2 A5.out).mono ?_); (case side1 => repeat (first | exact (Kd.N_reads' HO640.out).2.2 | (with_reducible refine Kd.C_alloc ?_ _) | (with_reducible refine Kd.C_drewN ?_ _) | (with_reducible refine Kd.C_drew ?_))); (case side2 => exact (Kd.N_reads' HO640.out).2.1); rintro e w27 ⟨rfl, hb⟩; refine ⟨_, rfl, ?_⟩; replace HO640 := tNb HO640 hb; replace HB := tBs HB hb; (try clear hb); (try clear hb2); (try clear hk); (try clear hi)) | ((with_reducible refine gate_callee (f := 14) rfl ?_); refine goesL_ (some 39) rfl rfl Try.func14 (by kernel_rfl) rfl #[.slice Ao25 t638.length co25, .int .i64 (wrap64 (t641 + 1))] rfl tq ?_; (with_reducible refine (impl_KeepSize.calls k _ _ t638 (wrap64 (t641 + 1)) t644 _ ?side1 ?side2 A17.out).mono ?_); (case side1 => repeat (first | exact (Kd.N_reads' HO640.out).2.2 | (with_reducible refine Kd.C_alloc ?_ _) | (with_reducible refine Kd.C_drewN ?_ _) | (with_reducible refine Kd.C_drew ?_))); (case side2 => exact (Kd.N_reads' HO640.out).2.1); rintro e w28 ⟨rfl, hb⟩; refine ⟨_, rfl, ?_⟩; replace HO640 := tNb HO640 hb; replace HB := tBs HB hb; (try clear hb); (try clear hb2); (try clear hk); (try clear hi)))
      all_goals go_ret
      all_goals exact ⟨by first | rfl | (simp [errW_none, errW_some] <;> rfl) | (simp [*, errW_none, errW_some] <;> rfl), zb⟩
  ·rw [if_neg c6] at H
   have c6b0 : (t642 == t643) = false := beq_eq_false_iff_ne.mpr c6
   have c6b1 : (t642 != t643) = true := bne_iff_ne.mpr c6
   obtain rfl := Option.some.inj H
   go_enter Try.func4, Try.ntmps4
   go_wp2_with (first | ((with_reducible refine gate_callee (f := 13) rfl ?_); refine goesL_ (some 13) rfl rfl Try.func13 (by kernel_rfl) rfl #[.slice A0 l0.length c0] rfl tq ?_; (with_reducible refine (spec_DrawKeepSize.calls k _ _ l0 t638 t641 _ ?side1 ?side2 A3.out).mono ?_); (case side1 => exact tC HR0.out); (case side2 => exact HC0.out); rintro e w29 ⟨v639, rfl, ho0, hb⟩; have u_v639 := tsv Try.prog v639 ho0; refine ⟨_, rfl, ?_⟩; have HO640 := Aside0.mk (Kd.N_lower (Kd.N_mono (ok' := fun k_ => True) ho0 (fun k_ hk_ => trivial)) (below_size zb)); replace HB := tBs HB hb; (try clear hb); (try clear hb2); (try clear hk); (try clear hi); (try clear ho0); obtain ⟨Ao30, co30, eo30⟩ := Kd.N_slice HO640.out; subst eo30) | ((with_reducible refine gate_callee (f := 14) rfl ?_); refine goesL_ (some 18) rfl rfl Try.func14 (by kernel_rfl) rfl #[.slice Ao30 t638.length co30, .int .i64 t641] rfl tq ?_; (with_reducible refine (impl_KeepSize.calls k _ _ t638 t641 t642 _ ?side1 ?side2 A4.out).mono ?_); (case side1 => repeat (first | exact (Kd.N_reads' HO640.out).2.2 | (with_reducible refine Kd.C_alloc ?_ _) | (with_reducible refine Kd.C_drewN ?_ _) | (with_reducible refine Kd.C_drew ?_))); (case side2 => exact (Kd.N_reads' HO640.out).2.1); rintro e w31 ⟨rfl, hb⟩; refine ⟨_, rfl, ?_⟩; replace HO640 := tNb HO640 hb; replace HB := tBs HB hb; (try clear hb); (try clear hb2); (try clear hk); (try clear hi)) | ((with_reducible refine gate_callee (f := 15) rfl ?_); refine goesL_ (some 21) rfl rfl Try.func15 (by kernel_rfl) rfl #[.slice Ao30 t638.length co30, .int .i64 t641] rfl tq ?_; (with_reducible refine (spec_KeepSize.calls k _ _ t638 t641 t643 _ ?side1 ?side2 A5.out).mono ?_); (case side1 => repeat (first | exact (Kd.N_reads' HO640.out).2.2 | (with_reducible refine Kd.C_alloc ?_ _) | (with_reducible refine Kd.C_drewN ?_ _) | (with_reducible refine Kd.C_drew ?_))); (case side2 => exact (Kd.N_reads' HO640.out).2.1); rintro e w32 ⟨rfl, hb⟩; refine ⟨_, rfl, ?_⟩; replace HO640 := tNb HO640 hb; replace HB := tBs HB hb; (try clear hb); (try clear hb2); (try clear hk); (try clear hi)))
   all_goals go_ret
   all_goals exact ⟨by first | rfl | (simp [errW_none, errW_some] <;> rfl) | (simp [*, errW_none, errW_some] <;> rfl), zb⟩

end Go.Proofs.Ythoioccmnphfgaa.G

namespace Go.Proofs.Ythoioccmnphfgaa.Rd
open Go.RowKit Go.Proofs.YthoioccmnphfgaaW.PrintWords
set_option linter.unusedVariables false
section
variable {H : Type} {enc : TypeId × Value → H} {P : Program} {w : World} {base : Nat} {spare : Nat → Bool} {held : Bool}
/-- What a reading of type t gives: a value of the kind, and what is known of it. -/
def Opens (enc : TypeId × Value → H) (P : Program) (w : World) (base : Nat) (spare : Nat → Bool) (held : Bool) {α : Type} (t : TypeId) (d : Kd α) (ok : α → Prop) : Prop :=
  P.cellsOf t = d.sz ∧ ∀ fuel cs x, DataW.trod enc P w base spare held fuel t cs = some x → ∃ v, d.K w v cs ∧ ok v
theorem Opens.imp_ {α : Type} {t : TypeId} {d : Kd α} {ok ok' : α → Prop} (h : Opens enc P w base spare held t d ok) (hi : ∀ v, ok v → ok' v) : Opens enc P w base spare held t d ok' :=
  ⟨h.1, fun fuel cs x hx => by
    obtain ⟨v, hk, ho⟩ := h.2 fuel cs x hx
    exact ⟨v, hk, hi v ho⟩⟩
theorem opens_int {t : TypeId} {k : IntKind} (ht : P.underlying t = some (.int k)) (hc : P.cellsOf t = 1) : Opens enc P w base spare held t (Kd.int k) (fun n => (Lit.int k n).wf = true) := by
  refine ⟨hc, fun fuel cs x h => ?_⟩
  obtain ⟨n, rfl, _, hw⟩ := DataW.trod_int ht h
  exact ⟨n, rfl, hw⟩
theorem cells_len {base : Nat} {a : Addr} {n : Nat} {cs : List Value} (h : w.cells? base a n = some cs) : cs.length = n ∧ ∀ i u, cs[i]? = some u → w.cell? (a.add i) = some u := by
  unfold World.cells? at h
  split at h
  · rename_i hb
    refine ⟨by simpa using mapM_some_length h, fun i u hu => ?_⟩
    have hi : i < n := by
      have := (List.getElem?_eq_some_iff.1 hu).1
      have h2 : cs.length = n := by simpa using mapM_some_length h
      omega
    have := mapM_some_get h i i (by simp [hi])
    rw [hu] at this
    exact this
  · simp at h
theorem opens_row {α : Type} {t e : TypeId} {d : Kd α} {ok : α → Prop} (ht : P.underlying t = some (.slice e)) (hd : Opens enc P w base spare held e d ok) {fuel : Nat} {cs : List Value} {x : DataW H × List MemPlace}
    (h : DataW.trod enc P w base spare held fuel t cs = some x) : ∃ (A : Option Addr) (c : Nat) (xs : List α), cs = [.slice A xs.length c] ∧ xs.length ≤ c ∧ c ≤ maxLen ∧ d.C w A xs.length xs ∧ ∀ y ∈ xs, ok y := by
  rcases Go.Deep.open_slice ht h with ⟨rfl, _⟩ | ⟨a, len, cap, m, n, D, Pl, rfl, hb, hl, hm, hmm, _, hel⟩
  · exact ⟨none, 0, [], rfl, Nat.le_refl _, by unfold maxLen; omega, ⟨rfl, by simp, fun h0 => absurd h0 (by simp)⟩, by simp⟩
  have hlm : len ≤ m := by rw [hmm]; split <;> omega
  have hx : ∀ i, i < len → ∃ y : α, ok y ∧ ∃ c, c.length = d.sz ∧ d.K w y c ∧ ∀ j u, c[j]? = some u → w.cell? (a.add (i * d.sz + j)) = some u := by
    intro i hi
    obtain ⟨cs', h1, h2⟩ := hel i (by omega)
    obtain ⟨y, hk, ho⟩ := hd.2 _ _ _ h2
    obtain ⟨hl', hc'⟩ := cells_len h1
    refine ⟨y, ho, cs', by rw [hl', hd.1], hk, fun j u hu => ?_⟩
    have := hc' j u hu
    rw [Go.Deep.add_add, hd.1] at this
    exact this
  rcases Nat.eq_zero_or_pos len with h0 | h0
  · subst h0
    exact ⟨some a, cap, [], rfl, Nat.zero_le _, hm, ⟨rfl, by simp, fun h1 => absurd h1 (by simp)⟩, by simp⟩
  obtain ⟨y0, _⟩ := hx 0 h0
  haveI : Inhabited α := ⟨y0⟩
  obtain ⟨g, hg⟩ := Go.Deep.choose_lt hx
  have hlen : ((List.range len).map g).length = len := by simp
  refine ⟨some a, cap, (List.range len).map g, by rw [hlen], by rw [hlen]; exact hl, hm, ⟨rfl, by rw [hlen]; unfold maxLen at hm; omega, fun _ => ⟨a, rfl, fun j p hj => ?_⟩⟩, fun y hy => ?_⟩
  · have hj' : j < len := by
      have := (List.getElem?_eq_some_iff.1 hj).1
      omega
    rw [List.getElem?_map, List.getElem?_range hj'] at hj
    simp at hj
    subst hj
    obtain ⟨_, c, hc1, hc2, hc3⟩ := hg j hj'
    exact ⟨c, hc1, hc2, hc3⟩
  · obtain ⟨i, hi, rfl⟩ := List.mem_map.1 hy
    exact (hg i (List.mem_range.1 hi)).1
end
end Go.Proofs.Ythoioccmnphfgaa.Rd

namespace Go.Proofs.Ythoioccmnphfgaa.OFnKeepMore
open Go.RowKit Go.Proofs.YthoioccmnphfgaaW.PrintWords Go.Proofs.Ythoioccmnphfgaa.G
set_option linter.unusedVariables false
def Pure : Prop := ∀ (l0 : List Int), l0.length ≤ maxLen → (∀ y ∈ l0, (Lit.int .u8 y).wf = true) → ∃ k, laws_FnKeepMore.f k l0 = some true
end Go.Proofs.Ythoioccmnphfgaa.OFnKeepMore

namespace Go.Proofs.Ythoioccmnphfgaa.Pu
open Go.RowKit Go.Proofs.YthoioccmnphfgaaW.PrintWords Go.Proofs.YthoioccmnphfgaaW.PrintLast Go.Proofs.YthoioccmnphfgaaW.PrintMore Go.Proofs.Ythoioccmnphfgaa.G
theorem sBatchValid_ev (b : S46) (_ : RowR b.f5) : Ev (fun k => spec_BatchValid.f k b.f0 b.f1 b.f2 b.f3 b.f4 b.f5) (batOk b) := Ev.now _
end Go.Proofs.Ythoioccmnphfgaa.Pu

namespace Go.Proofs.Ythoioccmnphfgaa.Pu
open Go.RowKit Go.Proofs.YthoioccmnphfgaaW.PrintWords Go.Proofs.YthoioccmnphfgaaW.PrintLast Go.Proofs.YthoioccmnphfgaaW.PrintMore Go.Proofs.Ythoioccmnphfgaa.G
theorem LogValid_ev (l : List S46) (_ : RowB l) : Ev (fun k => impl_LogValid.f k l) (logOk l) := Ev.now _
theorem sLogValid_ev (l : List S46) (_ : RowB l) : Ev (fun k => spec_LogValid.f k l) (logOk l) := Ev.now _
end Go.Proofs.Ythoioccmnphfgaa.Pu

namespace Go.Proofs.Ythoioccmnphfgaa.Pu
open Go
theorem i64_mask (m : Nat) (hm : m ≤ 62) (n : Int) (h : (BitVec.ofInt 64 ((2 ^ m - 1 : Nat) : Int)).toNat = 2 ^ m - 1) : bits .and .i64 n ((2 ^ m - 1 : Nat) : Int) = n % (2 ^ m : Nat) := by
  have key : (BitVec.ofInt 64 n &&& BitVec.ofInt 64 ((2 ^ m - 1 : Nat) : Int)).toNat = (n % ((2 ^ 64 : Nat) : Int)).toNat % 2 ^ m := by
    rw [BitVec.toNat_and, BitVec.toNat_ofInt, h, Nat.and_two_pow_sub_one_eq_mod]
  show IntKind.i64.wrap ((BitVec.ofInt 64 n &&& BitVec.ofInt 64 ((2 ^ m - 1 : Nat) : Int)).toNat : Nat) = n % (2 ^ m : Nat)
  have hp : 2 ^ m ≤ 2 ^ 62 := Nat.pow_le_pow_right (by decide) hm
  have hp0 : 0 < 2 ^ m := Nat.pow_pos (by decide)
  have hd : 2 ^ m ∣ 2 ^ 64 := Nat.pow_dvd_pow 2 (by omega)
  have hlt := Nat.mod_lt (n % ((2 ^ 64 : Nat) : Int)).toNat hp0
  rw [key, IntKind.wrap_i64]
  have e1 : (((n % ((2 ^ 64 : Nat) : Int)).toNat % 2 ^ m : Nat) : Int) = n % ((2 ^ m : Nat) : Int) := by
    rw [Int.natCast_emod, Int.toNat_of_nonneg (Int.emod_nonneg _ (by decide))]
    exact Int.emod_emod_of_dvd n (Int.natCast_dvd_natCast.2 hd)
  rw [e1]
  have g1 := Int.emod_nonneg n (b := ((2 ^ m : Nat) : Int)) (by omega)
  have g2 := Int.emod_lt_of_pos n (b := ((2 ^ m : Nat) : Int)) (by omega)
  omega
theorem i64_and127 (n : Int) : bits .and .i64 n 127 = n % 128 := i64_mask 7 (by decide) n (by decide)
end Go.Proofs.Ythoioccmnphfgaa.Pu

namespace Go.Proofs.Ythoioccmnphfgaa.Pu
open Go.RowKit Go.Proofs.YthoioccmnphfgaaW.PrintWords Go.Proofs.YthoioccmnphfgaaW.PrintLast Go.Proofs.YthoioccmnphfgaaW.PrintMore Go.Proofs.Ythoioccmnphfgaa.G
set_option linter.unusedVariables false
set_option linter.unusedSimpArgs false
theorem or128 (r : Int) (h0 : 0 ≤ r) (h1 : r < 128) : bits .or .i64 r 128 = 128 + r := by
  have h : ∀ x : Fin 128, bits .or .i64 ((x.val : Nat) : Int) 128 = 128 + ((x.val : Nat) : Int) := by decide
  have := h ⟨r.toNat, by omega⟩
  simp only at this
  rwa [show ((r.toNat : Nat) : Int) = r by omega] at this
def varF : Nat → Int → List Int
  | 0, x => [x]
  | n + 1, x => if x < 128 then [x] else (128 + x % 128) :: varF n (x / 128)
def foldI (x : Int) : Int := if x < 0 then -2 * x - 1 else 2 * x
def varV (x : Int) : List Int := varF 10 (foldI x)
theorem varF_len : ∀ (n : Nat) (x : Int), (varF n x).length ≤ n + 1
  | 0, x => by simp [varF]
  | n + 1, x => by
    unfold varF
    have := varF_len n (x / 128)
    split <;> simp <;> omega
theorem varV_len (x : Int) : (varV x).length ≤ 11 := varF_len 10 _
theorem varF_in : ∀ (n : Nat) (x : Int), 0 ≤ x → x ≤ 1000000000000000 → (varF n x).all inI = true
  | 0, x, h0, h1 => by
    simp [varF, inI]
    omega
  | n + 1, x, h0, h1 => by
    unfold varF
    split
    · simp [inI]
      omega
    · have := varF_in n (x / 128) (by omega) (by omega)
      rw [List.all_cons, this, Bool.and_true]
      simp [inI]
      omega
theorem var_loop : ∀ (n : Nat) (x : Int) (acc : List Int), 0 ≤ x → x < 128 * 128 ^ n → acc.length + n ≤ 1000 → Ev (fun k => impl_varOf.l0 k acc x) (acc ++ varF n x)
  | 0, x, acc, h0, h1, h2 => by
    refine Ev.step (fun k => by rw [impl_varOf.l0]) ?_
    simp only [if_pos (show x < 128 by simpa using h1), if_pos (show acc.length < 17592186044416 by omega), varF]
    exact Ev.now _
  | n + 1, x, acc, h0, h1, h2 => by
    refine Ev.step (fun k => by rw [impl_varOf.l0]) ?_
    unfold varF
    by_cases h : x < 128
    · simp only [if_pos h, if_pos (show acc.length < 17592186044416 by omega)]
      exact Ev.now _
    · simp only [if_neg h, if_pos (show acc.length < 17592186044416 by omega), i64_and127, or128 (x % 128) (by omega) (by omega)]
      have h3 : x / 128 < 128 * 128 ^ n := by
        rw [Int.pow_succ, ← Int.mul_assoc] at h1
        exact Int.ediv_lt_of_lt_mul (by omega) h1
      have := var_loop n (x / 128) (acc ++ [128 + x % 128]) (by omega) h3 (by simp; omega)
      rw [List.append_assoc, List.singleton_append] at this
      exact this
theorem svar_loop : ∀ (n : Nat) (x : Int) (acc : List Int), 0 ≤ x → x < 128 * 128 ^ n → x ≤ 1000000000000000 → acc.length + n ≤ 1000 → Ev (fun k => spec_l1Bytes.l0 k x acc) (acc ++ varF n x)
  | 0, x, acc, h0, h1, h4, h2 => by
    refine Ev.step (fun k => by rw [spec_l1Bytes.l0]) ?_
    simp only [if_neg (show ¬ x > 127 by have : x < 128 := by simpa using h1
                                         omega), if_pos (show acc.length < 17592186044416 by omega), varF]
    exact Ev.now _
  | n + 1, x, acc, h0, h1, h4, h2 => by
    refine Ev.step (fun k => by rw [spec_l1Bytes.l0]) ?_
    unfold varF
    by_cases h : x < 128
    · simp only [if_pos h, if_neg (show ¬ x > 127 by omega), if_pos (show acc.length < 17592186044416 by omega)]
      exact Ev.now _
    · have e1 : Int.tdiv x 128 = x / 128 := Int.tdiv_eq_ediv_of_nonneg h0
      have e2 : Int.tmod x 128 = x % 128 := Int.tmod_eq_emod_of_nonneg h0
      simp only [if_neg h, if_pos (show x > 127 by omega), if_pos (show acc.length < 17592186044416 by omega), e1, e2, w64 (a := x / 128) (by omega) (by omega), w64 (a := 128 + x % 128) (by omega) (by omega)]
      have h3 : x / 128 < 128 * 128 ^ n := by
        rw [Int.pow_succ, ← Int.mul_assoc] at h1
        exact Int.ediv_lt_of_lt_mul (by omega) h1
      have := svar_loop n (x / 128) (acc ++ [128 + x % 128]) (by omega) h3 (by omega) (by simp; omega)
      rw [List.append_assoc, List.singleton_append] at this
      exact this
theorem foldI_in {x : Int} (h0 : -1000000 ≤ x) (h1 : x ≤ 1000000) : 0 ≤ foldI x ∧ foldI x ≤ 2000000 := by
  unfold foldI
  split <;> omega
theorem varV_in {x : Int} (h0 : -1000000 ≤ x) (h1 : x ≤ 1000000) : (varV x).all inI = true := varF_in _ _ (foldI_in h0 h1).1 (by have := foldI_in h0 h1; omega)
theorem varOf_ev {x : Int} (h0 : -1000000 ≤ x) (h1 : x ≤ 1000000) : Ev (fun k => impl_varOf.f k x) (varV x) := by
  have hf := foldI_in h0 h1
  have hF : Ev (fun k => impl_FoldNumber.f k x) (foldI x) := by
    unfold impl_FoldNumber.f
    simp only [if_neg (show ¬ x < -1000000 by omega), decide_eq_false (show ¬ x > 1000000 by omega)]
    refine Ev.step (fun k => by rw [impl_FoldNumber.j0]) ?_
    simp only [Bool.false_eq_true, if_false]
    unfold foldI
    by_cases h : x < 0
    · simp only [if_pos h, w64 (a := -2 * x) (by omega) (by omega), w64 (a := -2 * x - 1) (by omega) (by omega)]
      exact Ev.now _
    · simp only [if_neg h, w64 (a := 2 * x) (by omega) (by omega)]
      exact Ev.now _
  unfold impl_varOf.f
  refine Ev.bind hF ?_
  · have := var_loop 10 (foldI x) [] hf.1 (by omega) (by simp)
    exact this
theorem l1Bytes_ev {x : Int} (h0 : -1000000 ≤ x) (h1 : x ≤ 1000000) : Ev (fun k => spec_l1Bytes.f k x) (varV x) := by
  have hf := foldI_in h0 h1
  have e : spec_l1Fold.f x = some (foldI x) := by
    unfold spec_l1Fold.f foldI
    by_cases h : x < 0
    · rw [if_pos h, if_pos h, w64 (a := -2 * x) (by omega) (by omega), w64 (a := -2 * x - 1) (by omega) (by omega)]
    · rw [if_neg h, if_neg h, w64 (a := 2 * x) (by omega) (by omega)]
  unfold spec_l1Bytes.f
  simp only [e, bindS]
  have := svar_loop 10 (foldI x) [] hf.1 (by omega) (by omega) (by simp)
  exact this
def partV (has : Bool) (l : List Int) : List Int := if has = true then varV l.length ++ l else varV (-1)
theorem partV_len (has : Bool) (l : List Int) : (partV has l).length ≤ 11 + l.length := by
  unfold partV
  have := varV_len l.length
  have := varV_len (-1)
  split <;> simp <;> omega
theorem part_ev (has : Bool) (l : List Int) (hl : l.length ≤ 1000) : Ev (fun k => impl_partBytes.f k has l) (partV has l) := by
  unfold impl_partBytes.f partV
  have := varV_len l.length
  cases has
  · simp only [Bool.false_eq_true, if_false]
    exact Ev.bind (varOf_ev (by omega) (by omega)) (Ev.now _)
  · simp only [if_true]
    refine Ev.bind (varOf_ev (by omega) (by omega)) ?_
    simp only [if_pos (show (varV (l.length : Int)).length + l.length < 17592186044416 by omega)]
    exact Ev.now _
theorem spart_ev (has : Bool) (l : List Int) (hl : l.length ≤ 1000) : Ev (fun k => spec_l3Put.f k has l) (partV has l) := by
  unfold spec_l3Put.f partV
  have := varV_len l.length
  cases has
  · simp only [Bool.false_eq_true, if_false]
    exact Ev.bind (l1Bytes_ev (by omega) (by omega)) (Ev.now _)
  · simp only [if_true]
    refine Ev.bind (l1Bytes_ev (by omega) (by omega)) ?_
    simp only [if_pos (show (varV (l.length : Int)).length + l.length < 17592186044416 by omega)]
    exact Ev.now _
def recB (r : S63) (o t : Int) : List Int := varV (r.f1 - t) ++ varV (r.f0 - o) ++ partV r.f2 r.f3 ++ partV r.f4 r.f5
def recV (r : S63) (o t : Int) : List Int := varV (recB r o t).length ++ recB r o t
/-- A record of a valid batch. -/
structure RecS (r : S63) : Prop where
  a0 : 0 ≤ r.f0
  a1 : r.f0 ≤ 99999
  b0 : 0 ≤ r.f1
  b1 : r.f1 ≤ 99999
  k : r.f3.length ≤ 12
  v : r.f5.length ≤ 12
  ki : r.f3.all inI = true
  vi : r.f5.all inI = true
theorem recB_len {r : S63} (h : RecS r) (o t : Int) : (recB r o t).length ≤ 68 := by
  unfold recB
  have := h.k
  have := h.v
  have := varV_len (r.f1 - t)
  have := varV_len (r.f0 - o)
  have := partV_len r.f2 r.f3
  have := partV_len r.f4 r.f5
  simp only [List.length_append]
  omega
theorem recV_len {r : S63} (h : RecS r) (o t : Int) : (recV r o t).length ≤ 79 := by
  unfold recV
  have := recB_len h o t
  have := varV_len (recB r o t).length
  rw [List.length_append]
  omega
theorem partV_in {has : Bool} {l : List Int} (hl : l.length ≤ 12) (h : l.all inI = true) : (partV has l).all inI = true := by
  unfold partV
  split
  · rw [List.all_append, h, varV_in (by omega) (by omega)]
    rfl
  · exact varV_in (by omega) (by omega)
theorem recV_in {r : S63} (h : RecS r) {o t : Int} (ho : 0 ≤ o ∧ o ≤ 99999) (ht : 0 ≤ t ∧ t ≤ 99999) : (recV r o t).all inI = true := by
  have h1 := recB_len h o t
  obtain ⟨a0, a1, b0, b1, k, v, ki, vi⟩ := h
  unfold recV
  rw [List.all_append, varV_in (by omega) (by omega)]
  unfold recB
  simp only [List.all_append, varV_in (x := r.f1 - t) (by omega) (by omega), varV_in (x := r.f0 - o) (by omega) (by omega), partV_in k ki, partV_in v vi, Bool.and_self]
theorem rec_ev {r : S63} (h : RecS r) {o t : Int} (ho : 0 ≤ o ∧ o ≤ 99999) (ht : 0 ≤ t ∧ t ≤ 99999) : Ev (fun k => impl_Record_bytesFor.f k r.f0 r.f1 r.f2 r.f3 r.f4 r.f5 o t) (recV r o t) := by
  have h1 := recB_len h o t
  have h2 := varV_len (recB r o t).length
  obtain ⟨a0, a1, b0, b1, k, v, ki, vi⟩ := h
  unfold impl_Record_bytesFor.f
  have e1 := varV_len (r.f1 - t)
  have e2 := varV_len (r.f0 - o)
  have e3 := partV_len r.f2 r.f3
  have e4 := partV_len r.f4 r.f5
  simp only [w64 (a := r.f1 - t) (by omega) (by omega), w64 (a := r.f0 - o) (by omega) (by omega)]
  refine Ev.bind (varOf_ev (by omega) (by omega)) (Ev.bind (varOf_ev (by omega) (by omega)) ?_)
  simp only [if_pos (show (varV (r.f1 - t)).length + (varV (r.f0 - o)).length < 17592186044416 by omega), bindS]
  refine Ev.bind (part_ev _ _ (by omega)) ?_
  simp only [if_pos (show (varV (r.f1 - t) ++ varV (r.f0 - o)).length + (partV r.f2 r.f3).length < 17592186044416 by simp only [List.length_append]; omega), bindS]
  refine Ev.bind (part_ev _ _ (by omega)) ?_
  simp only [if_pos (show (varV (r.f1 - t) ++ varV (r.f0 - o) ++ partV r.f2 r.f3).length + (partV r.f4 r.f5).length < 17592186044416 by simp only [List.length_append]; omega), bindS]
  refine Ev.bind (varOf_ev (x := ((recB r o t).length : Int)) (by omega) (by omega)) ?_
  change Ev (fun k => if (varV ((recB r o t).length : Int)).length + (recB r o t).length < 17592186044416 then some (varV ((recB r o t).length : Int) ++ recB r o t) else none) _
  simp only [if_pos (show (varV ((recB r o t).length : Int)).length + (recB r o t).length < 17592186044416 by omega)]
  exact Ev.now _
theorem srec_ev {r : S63} (h : RecS r) {o t : Int} (ho : 0 ≤ o ∧ o ≤ 99999) (ht : 0 ≤ t ∧ t ≤ 99999) : Ev (fun k => spec_l3Bytes.f k r.f0 r.f1 r.f2 r.f3 r.f4 r.f5 o t) (recV r o t) := by
  have h1 := recB_len h o t
  have h2 := varV_len (recB r o t).length
  obtain ⟨a0, a1, b0, b1, k, v, ki, vi⟩ := h
  unfold spec_l3Bytes.f
  have e1 := varV_len (r.f1 - t)
  have e2 := varV_len (r.f0 - o)
  have e3 := partV_len r.f2 r.f3
  have e4 := partV_len r.f4 r.f5
  simp only [w64 (a := r.f1 - t) (by omega) (by omega), w64 (a := r.f0 - o) (by omega) (by omega)]
  refine Ev.bind (l1Bytes_ev (by omega) (by omega)) (Ev.bind (l1Bytes_ev (by omega) (by omega)) ?_)
  simp only [if_pos (show (varV (r.f1 - t)).length + (varV (r.f0 - o)).length < 17592186044416 by omega), bindS]
  refine Ev.bind (spart_ev _ _ (by omega)) ?_
  simp only [if_pos (show (varV (r.f1 - t) ++ varV (r.f0 - o)).length + (partV r.f2 r.f3).length < 17592186044416 by simp only [List.length_append]; omega), bindS]
  refine Ev.bind (spart_ev _ _ (by omega)) ?_
  simp only [if_pos (show (varV (r.f1 - t) ++ varV (r.f0 - o) ++ partV r.f2 r.f3).length + (partV r.f4 r.f5).length < 17592186044416 by simp only [List.length_append]; omega), bindS]
  refine Ev.bind (l1Bytes_ev (x := ((recB r o t).length : Int)) (by omega) (by omega)) ?_
  change Ev (fun k => if (varV ((recB r o t).length : Int)).length + (recB r o t).length < 17592186044416 then some (varV ((recB r o t).length : Int) ++ recB r o t) else none) _
  simp only [if_pos (show (varV ((recB r o t).length : Int)).length + (recB r o t).length < 17592186044416 by omega)]
  exact Ev.now _
end Go.Proofs.Ythoioccmnphfgaa.Pu

namespace Go.Proofs.Ythoioccmnphfgaa.Pu
open Go.RowKit Go.Proofs.YthoioccmnphfgaaW.PrintWords Go.Proofs.YthoioccmnphfgaaW.PrintLast Go.Proofs.YthoioccmnphfgaaW.PrintMore Go.Proofs.Ythoioccmnphfgaa.G
set_option linter.unusedVariables false
set_option linter.unusedSimpArgs false
theorem getD_nat (l : List Int) (i : Nat) (h : i < l.length) : l.getD i 0 = rd l (i : Int) := by rw [rdi_nat l i h, getD_lt l i h]
theorem long_loop (l : List Int) (hl : l.length ≤ 1000) (z b : Nat) (hb : b ≤ z) (hz : z < l.length) : ∀ (d n : Nat), 66 - n = d → n ≤ 66 → Ev (fun k => spec_l4Long.l0 k l (z : Int) (b : Int) (n : Int)) ((n + alike (66 - n) (l.drop (z - b + n)) (l.drop (z + n)) : Nat) : Int) := by
  intro d
  induction d with
  | zero =>
    intro n hd hn
    obtain rfl : n = 66 := by omega
    refine Ev.step (fun k => by rw [spec_l4Long.l0]) ?_
    simp only [w64 (a := (z : Int) + (66 : Nat)) (by omega) (by omega)]
    have e : alike (66 - 66) (l.drop (z - b + 66)) (l.drop (z + 66)) = 0 := (alike_at l (z - b) z 66 (by omega)).2 (by omega) (by omega)
    rw [e]
    by_cases h : ((z : Int) + (66 : Nat)) < (l.length : Int)
    · simp only [if_pos h, if_neg (show ¬ (((66 : Nat) : Int) < 66) by omega)]
      exact Ev.now _
    · simp only [if_neg h]
      exact Ev.now _
  | succ d ih =>
    intro n hd hn
    obtain ⟨h1, h2⟩ := alike_at l (z - b) z n hn
    refine Ev.step (fun k => by rw [spec_l4Long.l0]) ?_
    simp only [w64 (a := (z : Int) + (n : Int)) (by omega) (by omega), w64 (a := (z : Int) + (n : Int) - (b : Int)) (by omega) (by omega), w64 (a := (n : Int) + 1) (by omega) (by omega), if_pos (show (n : Int) < 66 by omega)]
    by_cases h : z + n < l.length
    · have e1 : (z : Int) + (n : Int) = ((z + n : Nat) : Int) := by omega
      have e2 : ((z + n : Nat) : Int) - (b : Int) = ((z - b + n : Nat) : Int) := by omega
      simp only [e1, e2, if_pos (show ((z + n : Nat) : Int) < (l.length : Int) by omega), if_pos (show (0 : Int) ≤ ((z + n : Nat) : Int) by omega), if_pos (show (0 : Int) ≤ ((z - b + n : Nat) : Int) by omega), if_pos (show ((z - b + n : Nat) : Int) < (l.length : Int) by omega)]
      rw [← getD_nat l (z + n) h, ← getD_nat l (z - b + n) (by omega)]
      by_cases he : l.getD (z - b + n) 0 = l.getD (z + n) 0
      · simp only [if_pos he.symm]
        rw [h1 ⟨by omega, h, he, by omega⟩]
        have := ih (n + 1) (by omega) (by omega)
        rw [show n + (alike (66 - (n + 1)) (l.drop (z - b + (n + 1))) (l.drop (z + (n + 1))) + 1) = n + 1 + alike (66 - (n + 1)) (l.drop (z - b + (n + 1))) (l.drop (z + (n + 1))) by omega]
        exact_mod_cast this
      · simp only [if_neg (fun e => he (Eq.symm e))]
        rw [h2 (fun h => he h.2.2) (by omega)]
        exact Ev.now _
    · simp only [if_neg (show ¬ ((z : Int) + (n : Int) < (l.length : Int)) by omega)]
      rw [h2 (fun h' => h h'.2.1) (by omega)]
      exact Ev.now _
theorem long_ev (l : List Int) (hl : l.length ≤ 1000) (z b : Nat) (hb : b ≤ z) (hz : z < l.length) : Ev (fun k => spec_l4Long.f k l (z : Int) (b : Int)) ((nAt l z b : Nat) : Int) := by
  unfold spec_l4Long.f nAt
  have := long_loop l hl z b hb hz 66 0 (by omega) (by omega)
  simpa using this
theorem best_loop (l : List Int) (hl : l.length ≤ 1000) (z : Nat) (hz : z < l.length) : ∀ (d c : Nat) (s : Nat × Nat), min z 200 + 1 - c = d → 1 ≤ c → c ≤ min z 200 + 1 → Ev (fun k => spec_l4Best.l0 k l (z : Int) (s.2 : Int) (s.1 : Int) (c : Int)) (((best (nAt l z) (List.range' c (min z 200 + 1 - c)) s).1 : Int), ((best (nAt l z) (List.range' c (min z 200 + 1 - c)) s).2 : Int)) := by
  have hm : mn (z : Int) 200 = ((min z 200 : Nat) : Int) := by unfold mn; split <;> omega
  intro d
  induction d with
  | zero =>
    intro c s hd h1 hc
    refine Ev.step (fun k => by rw [spec_l4Best.l0]) ?_
    simp only [hm, if_neg (show ¬ ((c : Int) ≤ ((min z 200 : Nat) : Int)) by omega), hd, List.range'_zero, best]
    exact Ev.now _
  | succ d ih =>
    intro c s hd h1 hc
    refine Ev.step (fun k => by rw [spec_l4Best.l0]) ?_
    simp only [hm, if_pos (show (c : Int) ≤ ((min z 200 : Nat) : Int) by omega), w64 (a := (c : Int) + 1) (by omega) (by omega)]
    refine Ev.bind (long_ev l hl z c (by omega) hz) ?_
    rw [hd, List.range'_succ, best]
    have hd2 : min z 200 + 1 - (c + 1) = d := by omega
    by_cases h : s.1 < nAt l z c
    · simp only [if_pos (show ((nAt l z c : Nat) : Int) > (s.1 : Int) by omega), if_pos h]
      have := ih (c + 1) (nAt l z c, c) hd2 (by omega) (by omega)
      rw [hd2] at this
      exact_mod_cast this
    · simp only [if_neg (show ¬ ((nAt l z c : Nat) : Int) > (s.1 : Int) by omega), if_neg h]
      have := ih (c + 1) s hd2 (by omega) (by omega)
      rw [hd2] at this
      exact_mod_cast this
theorem best_ev (l : List Int) (hl : l.length ≤ 1000) (z : Nat) (hz : z < l.length) : Ev (fun k => spec_l4Best.f k l (z : Int)) (((specM l z).1 : Int), ((specM l z).2 : Int)) := by
  unfold spec_l4Best.f specM
  have := best_loop l hl z hz (min z 200) 1 (0, 0) (by omega) (by omega) (by omega)
  simpa using this
theorem plain_loop (l : List Int) (hl : l.length ≤ 1000) : ∀ (f from_ : Nat) (acc : List Int), l.length - from_ ≤ f → from_ ≤ 2000 → acc.length ≤ 2000 + 70 * from_ → Ev (fun k => spec_l4Plain.l0 k l acc (from_ : Int)) (acc ++ plainF f (l.drop from_)) := by
  intro f
  induction f with
  | zero =>
    intro i acc hf hi ha
    refine Ev.step (fun k => by rw [spec_l4Plain.l0]) ?_
    simp only [if_neg (show ¬ ((i : Int) < (l.length : Int)) by omega), plainF, List.append_nil]
    exact Ev.now _
  | succ f ih =>
    intro i acc hf hi ha
    refine Ev.step (fun k => by rw [spec_l4Plain.l0]) ?_
    by_cases h : i < l.length
    · have hne : l.drop i ≠ [] := fun e => by
        have := congrArg List.length e
        simp at this
        omega
      obtain ⟨t, ht⟩ : ∃ t, t = min (i + 64) l.length := ⟨_, rfl⟩
      have hm : mn ((i : Int) + 64) (l.length : Int) = (t : Int) := by unfold mn; split <;> omega
      have hlt : ((l.take t).drop i) = (l.drop i).take 64 := by
        rw [List.drop_take]
        rcases Nat.lt_or_ge (i + 64) l.length with h1 | h1
        · rw [show t - i = 64 by omega]
        · rw [List.take_of_length_le (by rw [List.length_drop]; omega), List.take_of_length_le (by rw [List.length_drop]; omega)]
      have hlen : ((l.drop i).take 64).length = t - i := by rw [List.length_take, List.length_drop]; omega
      simp only [if_pos (show (i : Int) < (l.length : Int) by omega), if_pos (show acc.length < 17592186044416 by omega), bindS, w64 (a := (i : Int) + 64) (by omega) (by omega), hm, w64 (a := (t : Int) - (i : Int)) (by omega) (by omega), w64 (a := (t : Int) - (i : Int) - 1) (by omega) (by omega), if_pos (show (0 : Int) ≤ (i : Int) by omega), if_pos (show (i : Int) ≤ (t : Int) by omega), if_pos (show (t : Int) ≤ (l.length : Int) by omega), Int.toNat_natCast, hlt, hlen]
      simp only [if_pos (show (acc ++ [(t : Int) - (i : Int) - 1]).length + (t - i) < 17592186044416 by rw [List.length_append]; simp; omega)]
      have := ih (i + 64) (acc ++ [(t : Int) - (i : Int) - 1] ++ (l.drop i).take 64) (by omega) (by omega) (by rw [List.length_append, List.length_append, hlen]; simp; omega)
      rw [plainF, if_neg hne, hlen, List.drop_drop]
      rw [show ((t - i : Nat) : Int) = (t : Int) - (i : Int) by omega]
      rw [Int.natCast_add] at this
      have e5 : acc ++ [(t : Int) - (i : Int) - 1] ++ (l.drop i).take 64 ++ plainF f (l.drop (i + 64)) = acc ++ (((t : Int) - (i : Int) - 1) :: ((l.drop i).take 64 ++ plainF f (l.drop (i + 64)))) := by simp
      rw [e5] at this
      exact this
    · simp only [if_neg (show ¬ ((i : Int) < (l.length : Int)) by omega)]
      rw [List.drop_of_length_le (by omega), plainF, if_pos rfl, List.append_nil]
      exact Ev.now _
theorem plain_ev (l : List Int) (hl : l.length ≤ 1000) : Ev (fun k => spec_l4Plain.f k l) (plainV l) := by
  unfold spec_l4Plain.f plainV
  have := plain_loop l hl l.length 0 [] (by omega) (by omega) (by simp)
  simpa using this
theorem specM_le (l : List Int) (z : Nat) : (specM l z).1 ≤ 66 := by
  unfold specM
  have : ∀ (ps : List Nat) (s : Nat × Nat), s.1 ≤ 66 → (best (nAt l z) ps s).1 ≤ 66 := by
    intro ps
    induction ps with
    | nil => intro s h; exact h
    | cons p ps ih =>
      intro s h
      unfold best
      refine ih _ ?_
      split
      · exact alike_le_m 66 _ _
      · exact h
  exact this _ _ (Nat.zero_le _)
theorem pack_loop (l : List Int) (hl : l.length ≤ 1000) : ∀ (f z : Nat) (out plain : List Int), l.length + 1 ≤ f + z → z ≤ l.length + 66 → out.length + 2 * plain.length ≤ 2 * z → plain.length ≤ 1000 → (z < l.length → plain.length ≤ z) → Ev (fun k => spec_l4Pack.l0 k l out plain (z : Int)) (packW (specM l) l f z out plain) := by
  intro f
  induction f with
  | zero =>
    intro z out plain hf hz hb hp hpz
    have hpl := plainV_len plain
    refine Ev.step (fun k => by rw [spec_l4Pack.l0]) ?_
    simp only [if_neg (show ¬ ((z : Int) < (l.length : Int)) by omega)]
    refine Ev.bind (plain_ev plain hp) ?_
    simp only [if_pos (show out.length + (plainV plain).length < 17592186044416 by omega), packW]
    exact Ev.now _
  | succ f ih =>
    intro z out plain hf hz hb hp hpz
    have hpl := plainV_len plain
    refine Ev.step (fun k => by rw [spec_l4Pack.l0]) ?_
    by_cases h : z < l.length
    · have hM := specM_le l z
      simp only [if_pos (show (z : Int) < (l.length : Int) by omega)]
      refine Ev.bind (best_ev l hl z h) ?_
      have hpz2 := hpz h
      by_cases h3 : (specM l z).1 < 3
      · rw [packW_lt _ _ _ _ _ _ h h3]
        simp only [if_pos (show ((specM l z).1 : Int) < 3 by omega), if_pos (show (0 : Int) ≤ (z : Int) by omega), if_pos (show plain.length < 17592186044416 by omega), w64 (a := (z : Int) + 1) (by omega) (by omega), ← getD_nat l z h]
        have := ih (z + 1) out (plain ++ [l.getD z 0]) (by omega) (by omega) (by rw [List.length_append]; simp; omega) (by rw [List.length_append]; simp; omega) (fun _ => by rw [List.length_append]; simp; omega)
        exact_mod_cast this
      · rw [packW_ge _ _ _ _ _ _ h h3]
        simp only [if_neg (show ¬ ((specM l z).1 : Int) < 3 by omega)]
        refine Ev.bind (plain_ev plain hp) ?_
        simp only [if_pos (show out.length + (plainV plain).length < 17592186044416 by omega), bindS, w64 (a := 64 + ((specM l z).1 : Int)) (by omega) (by omega), w64 (a := 64 + ((specM l z).1 : Int) - 3) (by omega) (by omega), w64 (a := (z : Int) + ((specM l z).1 : Int)) (by omega) (by omega)]
        rw [show 64 + ((specM l z).1 : Int) - 3 = ((specM l z).1 : Int) + 61 by omega]
        have hlen : (out ++ plainV plain).length + [((specM l z).1 : Int) + 61, ((specM l z).2 : Int)].length < 17592186044416 := by rw [List.length_append]; simp; omega
        simp only [if_pos hlen]
        have := ih (z + (specM l z).1) (out ++ plainV plain ++ [((specM l z).1 : Int) + 61, ((specM l z).2 : Int)]) [] (by omega) (by omega) (by rw [List.length_append, List.length_append]; simp; omega) (by simp) (fun _ => by simp)
        exact_mod_cast this
    · have e : packW (specM l) l (f + 1) z out plain = out ++ plainV plain := by rw [packW, if_neg h]
      simp only [if_neg (show ¬ ((z : Int) < (l.length : Int)) by omega), e]
      refine Ev.bind (plain_ev plain hp) ?_
      simp only [if_pos (show out.length + (plainV plain).length < 17592186044416 by omega)]
      exact Ev.now _
def PK (l : List Int) : List Int := packW (implM l) l (l.length + 1) 0 [] []
theorem spack_ev (l : List Int) (hl : l.length ≤ 1000) : Ev (fun k => spec_l4Pack.f k l) (PK l) := by
  unfold spec_l4Pack.f PK
  have := pack_loop l hl (l.length + 1) 0 [] [] (by omega) (by omega) (by simp) (by simp) (fun _ => by simp)
  rw [pack_same] at this
  exact this
theorem pack_ev (l : List Int) (hl : l.length ≤ 1000) (hi : l.all inI = true) : Ev (fun k => impl_pack.f k l) (PK l) := by
  unfold impl_pack.f PK
  simp only [if_pos (And.intro hl hi)]
  exact Ev.now _
theorem packW_len (M : Nat → Nat × Nat) (l : List Int) : ∀ k z (out plain : List Int), (packW M l k z out plain).length ≤ out.length + 2 * plain.length + 2 * k
  | 0, z, out, plain => by
    have := plainV_len plain
    rw [packW, List.length_append]
    omega
  | k + 1, z, out, plain => by
    have hp := plainV_len plain
    rw [packW]
    split
    · split
      · have := packW_len M l k (z + 1) out (plain ++ [l.getD z 0])
        rw [List.length_append] at this
        simp at this ⊢
        omega
      · have := packW_len M l k (z + (M z).1) (out ++ plainV plain ++ [((M z).1 : Int) + 61, ((M z).2 : Int)]) []
        rw [List.length_append, List.length_append] at this
        simp at this ⊢
        omega
    · rw [List.length_append]
      omega
theorem PK_len (l : List Int) (hl : l.length ≤ 1000) : (PK l).length ≤ 2002 := by
  have := packW_len (implM l) l (l.length + 1) 0 [] []
  unfold PK
  simp at this
  omega
end Go.Proofs.Ythoioccmnphfgaa.Pu

namespace Go.Proofs.Ythoioccmnphfgaa.Pu
open Go.RowKit Go.Proofs.YthoioccmnphfgaaW.PrintWords Go.Proofs.YthoioccmnphfgaaW.PrintLast Go.Proofs.YthoioccmnphfgaaW.PrintMore Go.Proofs.Ythoioccmnphfgaa.G
set_option linter.unusedVariables false
set_option linter.unusedSimpArgs false
set_option maxRecDepth 100000
theorem EndsIn.ev_bind {α β : Type} {g : Nat → Option α} {f : Nat → α → Option β} {a : α} {Q : β → Prop} (h : Ev g a) (k : EndsIn (fun n => f n a) Q) : EndsIn (fun n => (g n).bind (f n)) Q := ⟨k.choose, Ev.bind h k.choose_spec.1, k.choose_spec.2⟩
theorem isB_inI {x : Int} (h : isB x = true) : inI x = true := by
  have := (isB_iff x).1 h
  simp [inI]
  omega
theorem part_S {has : Bool} {l : List Int} (h : partOk has l = true) : l.length ≤ 12 ∧ l.all inI = true := by
  unfold partOk at h
  cases has
  · simp only [Bool.false_eq_true, if_false, decide_eq_true_eq] at h
    obtain rfl : l = [] := List.eq_nil_of_length_eq_zero h
    simp
  · simp only [if_true, Bool.and_eq_true, decide_eq_true_eq] at h
    exact ⟨h.1, List.all_eq_true.2 fun x hx => isB_inI (List.all_eq_true.1 h.2 x hx)⟩
theorem recS_of {r : S63} (h : recOk r = true) : RecS r := by
  unfold recOk rng at h
  simp only [Bool.and_eq_true, decide_eq_true_eq] at h
  obtain ⟨⟨h1, h2⟩, h3, h4⟩ := h
  have p1 := part_S h3
  have p2 := part_S h4
  exact ⟨h1.1, h1.2, h2.1, h2.2, p1.1, p2.1, p1.2, p2.2⟩
theorem int_loop (a : Int) (n : Nat) (hn : n ≤ 10) : ∀ (d i : Nat) (x : List Int), n - i = d → i ≤ n → x.length = n → EndsIn (fun k => impl_intOf.l0 k a (n : Int) x (n : Int) (i : Int)) (fun r => r.length = n) := by
  intro d
  induction d with
  | zero =>
    intro i x hd hi hx
    refine EndsIn.step (fun k => by rw [impl_intOf.l0]) ?_
    simp only [if_neg (show ¬ ((i : Int) < (n : Int)) by omega)]
    exact EndsIn.now _ hx
  | succ d ih =>
    intro i x hd hi hx
    refine EndsIn.step (fun k => by rw [impl_intOf.l0]) ?_
    simp only [if_pos (show (i : Int) < (n : Int) by omega), w64 (a := 8 * (i : Int)) (by omega) (by omega), w64 (a := (n : Int) - 1) (by omega) (by omega), w64 (a := (n : Int) - 1 - (i : Int)) (by omega) (by omega), if_pos (show (0 : Int) ≤ 8 * (i : Int) by omega), if_pos (show (0 : Int) ≤ (n : Int) - 1 - (i : Int) by omega), if_pos (show (n : Int) - 1 - (i : Int) < (x.length : Int) by omega), w64 (a := (i : Int) + 1) (by omega) (by omega)]
    have := ih (i + 1) (x.set ((n : Int) - 1 - (i : Int)).toNat (Go.bits .and .i64 (shr .i64 a (8 * (i : Int))) 255)) (by omega) (by omega) (by rw [List.length_set]; exact hx)
    exact_mod_cast this
theorem intOf_ends (a : Int) (n : Nat) (hn : n ≤ 10) : EndsIn (fun k => impl_intOf.f k a (n : Int)) (fun r => r.length = n) := by
  unfold impl_intOf.f
  simp only [if_pos (show (0 : Int) ≤ (n : Int) by omega), Int.toNat_natCast, if_pos (show n ≤ 35184372088832 by omega), bindS, List.length_replicate]
  have := int_loop a n hn n 0 (List.replicate n 0) (by omega) (by omega) (by simp)
  exact this
theorem sint_loop (n : Nat) (hn : n ≤ 10) : ∀ (m : Nat) (a : Int) (x : List Int), m ≤ n → x.length = n → EndsIn (fun k => spec_l2Int.l0 k a x ((m : Int) - 1)) (fun r => r.length = n) := by
  intro m
  induction m with
  | zero =>
    intro a x hm hx
    refine EndsIn.step (fun k => by rw [spec_l2Int.l0]) ?_
    simp only [if_neg (show ¬ (((0 : Nat) : Int) - 1 ≥ 0) by omega)]
    exact EndsIn.now _ hx
  | succ m ih =>
    intro a x hm hx
    refine EndsIn.step (fun k => by rw [spec_l2Int.l0]) ?_
    simp only [if_pos (show ((m + 1 : Nat) : Int) - 1 ≥ 0 by omega), if_pos (show (0 : Int) ≤ ((m + 1 : Nat) : Int) - 1 by omega), if_pos (show ((m + 1 : Nat) : Int) - 1 < (x.length : Int) by omega), w64 (a := ((m + 1 : Nat) : Int) - 1 - 1) (by omega) (by omega)]
    have := ih (wrap64 (Int.tdiv a 256)) (x.set (((m + 1 : Nat) : Int) - 1).toNat (Int.tmod a 256)) (by omega) (by rw [List.length_set]; exact hx)
    rw [show ((m + 1 : Nat) : Int) - 1 - 1 = (m : Int) - 1 by omega]
    exact this
theorem l2Int_ends (a : Int) (n : Nat) (hn : n ≤ 10) : EndsIn (fun k => spec_l2Int.f k a (n : Int)) (fun r => r.length = n) := by
  unfold spec_l2Int.f
  simp only [if_pos (show (0 : Int) ≤ (n : Int) by omega), Int.toNat_natCast, if_pos (show n ≤ 35184372088832 by omega), w64 (a := (n : Int) - 1) (by omega) (by omega)]
  exact sint_loop n hn n a (List.replicate n 0) (Nat.le_refl _) (by simp)
theorem sum_loop (l : List Int) (hl : l.length ≤ 100000) : ∀ (d i : Nat) (s : Int), l.length - i = d → i ≤ l.length → EndsIn (fun k => impl_sum_over.l0 k s l (l.length : Int) (i : Int)) (fun _ => True) := by
  intro d
  induction d with
  | zero =>
    intro i s hd hi
    refine EndsIn.step (fun k => by rw [impl_sum_over.l0]) ?_
    simp only [if_neg (show ¬ ((i : Int) < (l.length : Int)) by omega)]
    exact EndsIn.now _ trivial
  | succ d ih =>
    intro i s hd hi
    have c1 : (i : Int) < (l.length : Int) := by omega
    have c2 : (0 : Int) ≤ (i : Int) := by omega
    have := ih (i + 1) (Int.tmod (wrap64 (wrap64 (257 * s) + rd l (i : Int))) 65521) (by omega) (by omega)
    rw [Int.natCast_add] at this
    refine EndsIn.step (fun k => ?_) this
    rw [impl_sum_over.l0, if_pos c1, if_pos c2, if_pos c1, impl_sum_with.f, bindS, w64 (a := (i : Int) + 1) (by omega) (by omega)]
    rfl
theorem ssum_loop (l : List Int) (hl : l.length ≤ 100000) : ∀ (d i : Nat) (s : Int), l.length - i = d → i ≤ l.length → EndsIn (fun k => spec_l2Sum.l0 k l s (i : Int)) (fun _ => True) := by
  intro d
  induction d with
  | zero =>
    intro i s hd hi
    refine EndsIn.step (fun k => by rw [spec_l2Sum.l0]) ?_
    simp only [if_neg (show ¬ ((i : Int) < (l.length : Int)) by omega)]
    exact EndsIn.now _ trivial
  | succ d ih =>
    intro i s hd hi
    have c1 : (i : Int) < (l.length : Int) := by omega
    have c2 : (0 : Int) ≤ (i : Int) := by omega
    have := ih (i + 1) (Int.tmod (wrap64 (wrap64 (257 * s) + rd l (i : Int))) 65521) (by omega) (by omega)
    rw [Int.natCast_add] at this
    refine EndsIn.step (fun k => ?_) this
    rw [spec_l2Sum.l0, if_pos c1, if_pos c2, w64 (a := (i : Int) + 1) (by omega) (by omega)]
    rfl
/-- The records of a valid batch, as1 bytes. -/
def rowsV (l : List S63) (o t : Int) : List Int := l.flatMap fun r => recV r o t
theorem rowsV_len (o t : Int) : ∀ l : List S63, (∀ r ∈ l, RecS r) → (rowsV l o t).length ≤ 79 * l.length
  | [], _ => by simp [rowsV]
  | r :: l, h => by
    have h1 := rowsV_len o t l fun x hx => h x (List.mem_cons_of_mem _ hx)
    have h2 := recV_len (h r (List.mem_cons_self ..)) o t
    unfold rowsV at h1 ⊢
    rw [List.flatMap_cons, List.length_append, List.length_cons]
    omega
theorem rowsV_in {o t : Int} (ho : 0 ≤ o ∧ o ≤ 99999) (ht : 0 ≤ t ∧ t ≤ 99999) : ∀ l : List S63, (∀ r ∈ l, RecS r) → (rowsV l o t).all inI = true
  | [], _ => by simp [rowsV]
  | r :: l, h => by
    have h1 := rowsV_in ho ht l fun x hx => h x (List.mem_cons_of_mem _ hx)
    have h2 := recV_in (h r (List.mem_cons_self ..)) ho ht
    unfold rowsV at h1 ⊢
    rw [List.flatMap_cons, List.all_append, h1, h2]
    rfl
structure BatR (l : List S63) : Prop where
  h0 : 0 < l.length
  h6 : l.length ≤ 6
  recs : ∀ r ∈ l, RecS r
theorem batR_of {b : S46} (h : batOk b = true) : BatR b.f5 := by
  have h1 := batOk_len h
  refine ⟨by omega, h1.2, fun r hr => ?_⟩
  obtain ⟨i, hi, rfl⟩ := List.getElem_of_mem hr
  exact recS_of (batOk_rec h i hi)
def bodyV (b : S46) : List Int := if b.f0 = true then PK (rowsV b.f5 (rd_T63 b.f5 0).f0 (rd_T63 b.f5 0).f1) else rowsV b.f5 (rd_T63 b.f5 0).f0 (rd_T63 b.f5 0).f1
def batLen (b : S46) : Nat := 18 + (bodyV b).length
theorem BatR.first {l : List S63} (h : BatR l) : RecS (rd_T63 l 0) := by
  have := rdR_nat l 0 h.h0
  rw [show ((0 : Nat) : Int) = 0 from rfl] at this
  rw [this]
  exact h.recs _ (List.getElem_mem _)
theorem body_len {b : S46} (h : BatR b.f5) : (bodyV b).length ≤ 2002 := by
  have h1 := rowsV_len (rd_T63 b.f5 0).f0 (rd_T63 b.f5 0).f1 b.f5 h.recs
  have h6 := h.h6
  unfold bodyV
  split
  · exact PK_len _ (by omega)
  · omega
theorem j2_ends (body : List Int) (hb : body.length ≤ 2002) (fl : Int) (a0 a1 : Bool) (x2 x3 x4 : Int) (l : List S63) (g0 g1 : Int) (g2 : Bool) (g3 : List Int) (g4 : Bool) (g5 : List Int) :
    EndsIn (fun k => impl_Batch_bytesOf.j2 k body fl a0 a1 x2 x3 x4 l g0 g1 g2 g3 g4 g5) (fun r => r.length = 18 + body.length) := by
  refine EndsIn.step (fun k => by rw [impl_Batch_bytesOf.j2]) ?_
  simp only [bindS]
  refine EndsIn.bind (intOf_ends x4 2 (by omega)) fun t1 h1 => ?_
  simp only [if_pos (show ([fl, x2, x3] : List Int).length + t1.length < 17592186044416 by simp; omega), bindS]
  refine EndsIn.bind (intOf_ends g1 3 (by omega)) fun t2 h2 => ?_
  have e1 : ([fl, x2, x3] ++ t1 : List Int).length = 5 := by rw [List.length_append, h1]; rfl
  simp only [if_pos (show ([fl, x2, x3] ++ t1 : List Int).length + t2.length < 17592186044416 by omega), bindS]
  have e2 : ([fl, x2, x3] ++ t1 ++ t2 : List Int).length = 8 := by rw [List.length_append, e1, h2]
  simp only [if_pos (show ([fl, x2, x3] ++ t1 ++ t2 : List Int).length + ([(l.length : Int), 0, 0] : List Int).length < 17592186044416 by rw [e2]; simp), bindS]
  have e3 : ([fl, x2, x3] ++ t1 ++ t2 ++ [(l.length : Int), 0, 0] : List Int).length = 11 := by rw [List.length_append, e2]; rfl
  simp only [if_pos (show ([fl, x2, x3] ++ t1 ++ t2 ++ [(l.length : Int), 0, 0] : List Int).length + body.length < 17592186044416 by omega), bindS]
  have e4 : ([fl, x2, x3] ++ t1 ++ t2 ++ [(l.length : Int), 0, 0] ++ body : List Int).length = 11 + body.length := by rw [List.length_append, e3]
  generalize ([fl, x2, x3] ++ t1 ++ t2 ++ [(l.length : Int), 0, 0] ++ body : List Int) = y at e4
  refine EndsIn.bind (intOf_ends g0 3 (by omega)) fun t3 h3 => ?_
  refine EndsIn.bind (intOf_ends (y.length : Int) 2 (by omega)) fun t4 h4 => ?_
  have hs : EndsIn (fun k => impl_sum_over.f k 1 y) (fun _ => True) := by
    unfold impl_sum_over.f
    exact sum_loop y (by omega) y.length 0 1 (by omega) (by omega)
  refine EndsIn.bind hs fun t5 _ => ?_
  refine EndsIn.bind (intOf_ends t5 2 (by omega)) fun t6 h6 => ?_
  have e5 : ([t3, t4, t6, y] : List (List Int)).flatten.length = 18 + body.length := by simp; omega
  unfold slices_Concat_int_int.f
  simp only [if_pos (show ([t3, t4, t6, y] : List (List Int)).length < 1000000 ∧ ([t3, t4, t6, y] : List (List Int)).flatten.length < 17592186044416 from ⟨by simp, by omega⟩), bindS]
  exact EndsIn.now _ e5
theorem bytes_loop (b : S46) (h : BatR b.f5) (g2 : Bool) (g3 : List Int) (g4 : Bool) (g5 : List Int) : ∀ (d i : Nat), b.f5.length - i = d → i ≤ b.f5.length →
    EndsIn (fun k => impl_Batch_bytesOf.l0 k (rowsV (b.f5.take i) (rd_T63 b.f5 0).f0 (rd_T63 b.f5 0).f1) b.f5 (b.f5.length : Int) (i : Int) b.f0 b.f1 b.f2 b.f3 b.f4 b.f5 (rd_T63 b.f5 0).f0 (rd_T63 b.f5 0).f1 g2 g3 g4 g5) (fun r => r.length = batLen b) := by
  have hf := h.first
  have h6 := h.h6
  have hrl := rowsV_len (rd_T63 b.f5 0).f0 (rd_T63 b.f5 0).f1 b.f5 h.recs
  have hri := rowsV_in ⟨hf.a0, hf.a1⟩ ⟨hf.b0, hf.b1⟩ b.f5 h.recs
  have hbl := body_len h
  intro d
  induction d with
  | zero =>
    intro i hd hi
    obtain rfl : i = b.f5.length := by omega
    refine EndsIn.step (fun k => by rw [impl_Batch_bytesOf.l0]) ?_
    simp only [if_neg (show ¬ ((b.f5.length : Int) < (b.f5.length : Int)) by omega), List.take_length]
    have hj : ∀ (body : List Int) (fl : Int), body.length ≤ 2002 → EndsIn (fun k => impl_Batch_bytesOf.j1 k body fl b.f0 b.f1 b.f2 b.f3 b.f4 b.f5 (rd_T63 b.f5 0).f0 (rd_T63 b.f5 0).f1 g2 g3 g4 g5) (fun r => r.length = 18 + body.length) := fun body fl hb => by
      refine EndsIn.step (fun k => by rw [impl_Batch_bytesOf.j1]) ?_
      cases hf1 : b.f1
      · simp only [Bool.false_eq_true, if_false]
        exact j2_ends body hb _ _ _ _ _ _ _ _ _ _ _ _ _
      · simp only [if_true]
        exact j2_ends body hb _ _ _ _ _ _ _ _ _ _ _ _ _
    unfold batLen
    unfold bodyV at hbl ⊢
    cases hf0 : b.f0
    · rw [hf0] at hbl hj
      simp only [Bool.false_eq_true, if_false] at hbl ⊢
      exact hj _ _ hbl
    · rw [hf0] at hbl hj
      simp only [if_true] at hbl ⊢
      exact EndsIn.ev_bind (pack_ev _ (by omega) hri) (hj _ _ hbl)
  | succ d ih =>
    intro i hd hi
    have hlt : i < b.f5.length := by omega
    refine EndsIn.step (fun k => by rw [impl_Batch_bytesOf.l0]) ?_
    simp only [if_pos (show (i : Int) < (b.f5.length : Int) by omega), if_pos (show (0 : Int) ≤ (i : Int) by omega), rdR_nat b.f5 i hlt, w64 (a := (i : Int) + 1) (by omega) (by omega)]
    refine EndsIn.ev_bind (rec_ev (h.recs _ (List.getElem_mem hlt)) ⟨hf.a0, hf.a1⟩ ⟨hf.b0, hf.b1⟩) ?_
    have e : rowsV (b.f5.take (i + 1)) (rd_T63 b.f5 0).f0 (rd_T63 b.f5 0).f1 = rowsV (b.f5.take i) (rd_T63 b.f5 0).f0 (rd_T63 b.f5 0).f1 ++ recV b.f5[i] (rd_T63 b.f5 0).f0 (rd_T63 b.f5 0).f1 := by
      unfold rowsV
      rw [List.take_succ_eq_append_getElem hlt, List.flatMap_append]
      simp
    have hle := rowsV_len (rd_T63 b.f5 0).f0 (rd_T63 b.f5 0).f1 (b.f5.take (i + 1)) (fun r hr => h.recs r (List.mem_of_mem_take hr))
    rw [e, List.length_append, List.length_take] at hle
    simp only [if_pos (show (rowsV (b.f5.take i) (rd_T63 b.f5 0).f0 (rd_T63 b.f5 0).f1).length + (recV b.f5[i] (rd_T63 b.f5 0).f0 (rd_T63 b.f5 0).f1).length < 17592186044416 by omega)]
    have := ih (i + 1) (by omega) (by omega)
    rw [e] at this
    exact_mod_cast this
theorem bytes_ends (b : S46) (h : BatR b.f5) : EndsIn (fun k => impl_Batch_bytesOf.f k b.f0 b.f1 b.f2 b.f3 b.f4 b.f5) (fun r => r.length = batLen b) := by
  have h0 := h.h0
  unfold impl_Batch_bytesOf.f
  simp only [if_pos (show (0 : Int) < (b.f5.length : Int) by omega)]
  have := bytes_loop b h (rd_T63 b.f5 0).f2 (rd_T63 b.f5 0).f3 (rd_T63 b.f5 0).f4 (rd_T63 b.f5 0).f5 b.f5.length 0 (by omega) (by omega)
  exact this
/-! the reference -/
theorem sbody_loop (b : S46) (h : BatR b.f5) : ∀ (d i : Nat), b.f5.length - i = d → i ≤ b.f5.length →
    Ev (fun k => spec_l5Body.l0 k (rowsV (b.f5.take i) (rd_T63 b.f5 0).f0 (rd_T63 b.f5 0).f1) (i : Int) b.f0 b.f1 b.f2 b.f3 b.f4 b.f5) (rowsV b.f5 (rd_T63 b.f5 0).f0 (rd_T63 b.f5 0).f1) := by
  have hf := h.first
  have h6 := h.h6
  have h0 := h.h0
  intro d
  induction d with
  | zero =>
    intro i hd hi
    obtain rfl : i = b.f5.length := by omega
    refine Ev.step (fun k => by rw [spec_l5Body.l0]) ?_
    simp only [if_neg (show ¬ ((b.f5.length : Int) < (b.f5.length : Int)) by omega), List.take_length]
    exact Ev.now _
  | succ d ih =>
    intro i hd hi
    have hlt : i < b.f5.length := by omega
    refine Ev.step (fun k => by rw [spec_l5Body.l0]) ?_
    simp only [if_pos (show (i : Int) < (b.f5.length : Int) by omega), if_pos (show (0 : Int) ≤ (i : Int) by omega), if_pos (show (0 : Int) < (b.f5.length : Int) by omega), rdR_nat b.f5 i hlt, w64 (a := (i : Int) + 1) (by omega) (by omega)]
    refine Ev.bind (srec_ev (h.recs _ (List.getElem_mem hlt)) ⟨hf.a0, hf.a1⟩ ⟨hf.b0, hf.b1⟩) ?_
    have e : rowsV (b.f5.take (i + 1)) (rd_T63 b.f5 0).f0 (rd_T63 b.f5 0).f1 = rowsV (b.f5.take i) (rd_T63 b.f5 0).f0 (rd_T63 b.f5 0).f1 ++ recV b.f5[i] (rd_T63 b.f5 0).f0 (rd_T63 b.f5 0).f1 := by
      unfold rowsV
      rw [List.take_succ_eq_append_getElem hlt, List.flatMap_append]
      simp
    have hle := rowsV_len (rd_T63 b.f5 0).f0 (rd_T63 b.f5 0).f1 (b.f5.take (i + 1)) (fun r hr => h.recs r (List.mem_of_mem_take hr))
    rw [e, List.length_append, List.length_take] at hle
    simp only [if_pos (show (rowsV (b.f5.take i) (rd_T63 b.f5 0).f0 (rd_T63 b.f5 0).f1).length + (recV b.f5[i] (rd_T63 b.f5 0).f0 (rd_T63 b.f5 0).f1).length < 17592186044416 by omega)]
    have := ih (i + 1) (by omega) (by omega)
    rw [e] at this
    exact_mod_cast this
theorem j1_ends (body : List Int) (hb : body.length ≤ 2002) (fl : Int) (a0 a1 : Bool) (x2 x3 x4 : Int) (l : List S63) (hl : 0 < l.length) :
    EndsIn (fun k => spec_l5Bytes.j1 k body fl a0 a1 x2 x3 x4 l) (fun r => r.length = 18 + body.length) := by
  refine EndsIn.step (fun k => by rw [spec_l5Bytes.j1]) ?_
  simp only [bindS]
  refine EndsIn.bind (l2Int_ends x4 2 (by omega)) fun t1 h1 => ?_
  simp only [if_pos (show ([fl, x2, x3] : List Int).length + t1.length < 17592186044416 by simp; omega), bindS, if_pos (show (0 : Int) < (l.length : Int) by omega)]
  refine EndsIn.bind (l2Int_ends (rd_T63 l 0).f1 3 (by omega)) fun t2 h2 => ?_
  have e1 : ([fl, x2, x3] ++ t1 : List Int).length = 5 := by rw [List.length_append, h1]; rfl
  simp only [if_pos (show ([fl, x2, x3] ++ t1 : List Int).length + t2.length < 17592186044416 by omega), bindS]
  have e2 : ([fl, x2, x3] ++ t1 ++ t2 : List Int).length = 8 := by rw [List.length_append, e1, h2]
  simp only [if_pos (show ([fl, x2, x3] ++ t1 ++ t2 : List Int).length + ([(l.length : Int), 0, 0] : List Int).length < 17592186044416 by rw [e2]; simp), bindS]
  have e3 : ([fl, x2, x3] ++ t1 ++ t2 ++ [(l.length : Int), 0, 0] : List Int).length = 11 := by rw [List.length_append, e2]; rfl
  simp only [if_pos (show ([fl, x2, x3] ++ t1 ++ t2 ++ [(l.length : Int), 0, 0] : List Int).length + body.length < 17592186044416 by omega), bindS]
  have e4 : ([fl, x2, x3] ++ t1 ++ t2 ++ [(l.length : Int), 0, 0] ++ body : List Int).length = 11 + body.length := by rw [List.length_append, e3]
  generalize ([fl, x2, x3] ++ t1 ++ t2 ++ [(l.length : Int), 0, 0] ++ body : List Int) = y at e4
  refine EndsIn.bind (l2Int_ends (rd_T63 l 0).f0 3 (by omega)) fun t3 h3 => ?_
  refine EndsIn.bind (l2Int_ends (y.length : Int) 2 (by omega)) fun t4 h4 => ?_
  have e5 : (t3 ++ t4).length = 5 := by rw [List.length_append, h3, h4]
  simp only [if_pos (show t3.length + t4.length < 17592186044416 by omega), bindS]
  have hs : EndsIn (fun k => spec_l2Sum.f k y) (fun _ => True) := by
    unfold spec_l2Sum.f
    exact ssum_loop y (by omega) y.length 0 1 (by omega) (by omega)
  refine EndsIn.bind hs fun t5 _ => ?_
  refine EndsIn.bind (l2Int_ends t5 2 (by omega)) fun t6 h6 => ?_
  have e6 : (t3 ++ t4 ++ t6).length = 7 := by rw [List.length_append, e5, h6]
  simp only [if_pos (show (t3 ++ t4).length + t6.length < 17592186044416 by omega), bindS, if_pos (show (t3 ++ t4 ++ t6).length + y.length < 17592186044416 by omega)]
  exact EndsIn.now _ (by rw [List.length_append]; omega)
theorem sbytes_ends (b : S46) (h : BatR b.f5) : EndsIn (fun k => spec_l5Bytes.f k b.f0 b.f1 b.f2 b.f3 b.f4 b.f5) (fun r => r.length = batLen b) := by
  have hf := h.first
  have h6 := h.h6
  have h0 := h.h0
  have hrl := rowsV_len (rd_T63 b.f5 0).f0 (rd_T63 b.f5 0).f1 b.f5 h.recs
  have hbl := body_len h
  unfold spec_l5Bytes.f
  have hb : Ev (fun k => spec_l5Body.f k b.f0 b.f1 b.f2 b.f3 b.f4 b.f5) (rowsV b.f5 (rd_T63 b.f5 0).f0 (rd_T63 b.f5 0).f1) := by
    unfold spec_l5Body.f
    exact sbody_loop b h b.f5.length 0 (by omega) (by omega)
  have hj : ∀ (body : List Int) (fl : Int), body.length ≤ 2002 → EndsIn (fun k => spec_l5Bytes.j0 k body fl b.f0 b.f1 b.f2 b.f3 b.f4 b.f5) (fun r => r.length = 18 + body.length) := fun body fl hb => by
    refine EndsIn.step (fun k => by rw [spec_l5Bytes.j0]) ?_
    cases hf1 : b.f1
    · simp only [Bool.false_eq_true, if_false]
      exact j1_ends body hb _ _ _ _ _ _ _ h0
    · simp only [if_true]
      exact j1_ends body hb _ _ _ _ _ _ _ h0
  refine EndsIn.ev_bind hb ?_
  unfold batLen
  unfold bodyV at hbl ⊢
  cases hf0 : b.f0
  · rw [hf0] at hbl hj
    simp only [Bool.false_eq_true, if_false] at hbl ⊢
    exact hj _ _ hbl
  · rw [hf0] at hbl hj
    simp only [if_true] at hbl ⊢
    exact EndsIn.ev_bind (spack_ev _ (by omega)) (hj _ _ hbl)
/-! rows of batches -/
def sizeV : List S46 → Nat
  | [] => 0
  | b :: l => batLen b + sizeV l
theorem batLen_le {b : S46} (h : BatR b.f5) : batLen b ≤ 2020 := by
  have := body_len h
  unfold batLen
  omega
theorem size_loop (l : List S46) (hl : l.length ≤ 1000) (h : ∀ b ∈ l, BatR b.f5) : ∀ (d i s : Nat), l.length - i = d → i ≤ l.length → s ≤ 2020 * i → Ev (fun k => impl_sizeOf.l0 k (s : Int) l (l.length : Int) (i : Int)) ((s + sizeV (l.drop i) : Nat) : Int) := by
  intro d
  induction d with
  | zero =>
    intro i s hd hi hs
    refine Ev.step (fun k => by rw [impl_sizeOf.l0]) ?_
    simp only [if_neg (show ¬ ((i : Int) < (l.length : Int)) by omega)]
    rw [List.drop_of_length_le (by omega)]
    exact Ev.now _
  | succ d ih =>
    intro i s hd hi hs
    have hlt : i < l.length := by omega
    have hb := h _ (List.getElem_mem hlt)
    have hbl := batLen_le hb
    refine Ev.step (fun k => by rw [impl_sizeOf.l0]) ?_
    simp only [if_pos (show (i : Int) < (l.length : Int) by omega), if_pos (show (0 : Int) ≤ (i : Int) by omega), rdB_nat l i hlt, w64 (a := (i : Int) + 1) (by omega) (by omega)]
    obtain ⟨t, ht, hlen⟩ := bytes_ends l[i] hb
    refine Ev.bind ht ?_
    simp only [hlen, w64 (a := (s : Int) + ((batLen l[i] : Nat) : Int)) (by omega) (by omega)]
    rw [List.drop_eq_getElem_cons hlt, sizeV, ← Nat.add_assoc]
    have := ih (i + 1) (s + batLen l[i]) (by omega) (by omega) (by omega)
    exact_mod_cast this
theorem ssize_loop (l : List S46) (hl : l.length ≤ 1000) (h : ∀ b ∈ l, BatR b.f5) : ∀ (d i s : Nat), l.length - i = d → i ≤ l.length → s ≤ 2020 * i → Ev (fun k => spec_l33Size.l0 k l (s : Int) (i : Int)) ((s + sizeV (l.drop i) : Nat) : Int) := by
  intro d
  induction d with
  | zero =>
    intro i s hd hi hs
    refine Ev.step (fun k => by rw [spec_l33Size.l0]) ?_
    simp only [if_neg (show ¬ ((i : Int) < (l.length : Int)) by omega)]
    rw [List.drop_of_length_le (by omega)]
    exact Ev.now _
  | succ d ih =>
    intro i s hd hi hs
    have hlt : i < l.length := by omega
    have hb := h _ (List.getElem_mem hlt)
    have hbl := batLen_le hb
    refine Ev.step (fun k => by rw [spec_l33Size.l0]) ?_
    simp only [if_pos (show (i : Int) < (l.length : Int) by omega), if_pos (show (0 : Int) ≤ (i : Int) by omega), rdB_nat l i hlt, w64 (a := (i : Int) + 1) (by omega) (by omega)]
    obtain ⟨t, ht, hlen⟩ := sbytes_ends l[i] hb
    refine Ev.bind ht ?_
    simp only [hlen, w64 (a := (s : Int) + ((batLen l[i] : Nat) : Int)) (by omega) (by omega)]
    rw [List.drop_eq_getElem_cons hlt, sizeV, ← Nat.add_assoc]
    have := ih (i + 1) (s + batLen l[i]) (by omega) (by omega) (by omega)
    exact_mod_cast this
theorem sizeOf_ev (l : List S46) (hl : l.length ≤ 1000) (h : ∀ b ∈ l, BatR b.f5) : Ev (fun k => impl_sizeOf.f k l) ((sizeV l : Nat) : Int) := by
  unfold impl_sizeOf.f
  have := size_loop l hl h l.length 0 0 (by omega) (by omega) (by omega)
  simpa using this
theorem ssizeOf_ev (l : List S46) (hl : l.length ≤ 1000) (h : ∀ b ∈ l, BatR b.f5) : Ev (fun k => spec_l33Size.f k l) ((sizeV l : Nat) : Int) := by
  unfold spec_l33Size.f
  have := ssize_loop l hl h l.length 0 0 (by omega) (by omega) (by omega)
  simpa using this
theorem logOk_R {l : List S46} (h : logOk l = true) : l.length ≤ 8 ∧ ∀ b ∈ l, BatR b.f5 := by
  refine ⟨?_, fun b hb => ?_⟩
  · unfold logOk at h
    simp only [Bool.and_eq_true, decide_eq_true_eq] at h
    omega
  · obtain ⟨i, hi, rfl⟩ := List.getElem_of_mem hb
    exact batR_of (logOk_bat h i hi)
end Go.Proofs.Ythoioccmnphfgaa.Pu

namespace Go.Proofs.Ythoioccmnphfgaa.Pu
open Go.RowKit Go.Proofs.YthoioccmnphfgaaW.PrintWords Go.Proofs.YthoioccmnphfgaaW.PrintLast Go.Proofs.YthoioccmnphfgaaW.PrintMore Go.Proofs.Ythoioccmnphfgaa.G
set_option linter.unusedVariables false
set_option linter.unusedSimpArgs false
def kR (m : Int) : List S46 → Nat
  | [] => 0
  | [_] => 0
  | b :: c :: l => if ((sizeV (b :: c :: l) : Nat) : Int) ≤ m then 0 else kR m (c :: l) + 1
theorem kR_mono {m n : Int} (h : m ≤ n) : ∀ l : List S46, kR n l ≤ kR m l
  | [] => by simp [kR]
  | [_] => by simp [kR]
  | b :: c :: l => by
    have := kR_mono h (c :: l)
    unfold kR
    split
    · omega
    · split
      · omega
      · omega
theorem kept_sloop (m : Int) (l : List S46) (hl : l.length ≤ 1000) (h : ∀ b ∈ l, BatR b.f5) : ∀ (d i : Nat), l.length - i = d → i < l.length →
    Ev (fun k => impl_keptFrom.l0 k l m (l.length : Int) (i : Int)) ((i + kR m (l.drop i) : Nat) : Int) := by
  intro d
  induction d with
  | zero =>
    intro i hd hi
    omega
  | succ d ih =>
    intro i hd hi
    have hfit : Ev (fun k => impl_room_fits.f k m l (i : Int)) (decide (((sizeV (l.drop i) : Nat) : Int) ≤ m)) := by
      unfold impl_room_fits.f
      simp only [if_pos (show (0 : Int) ≤ (i : Int) by omega), if_pos (show (i : Int) ≤ (l.length : Int) by omega), Int.toNat_natCast]
      exact Ev.bind (sizeOf_ev _ (by rw [List.length_drop]; omega) (fun b hb => h b (List.mem_of_mem_drop hb))) (Ev.now _)
    refine Ev.step (fun k => by rw [impl_keptFrom.l0]) ?_
    simp only [if_pos (show (i : Int) < (l.length : Int) by omega), w64 (a := (i : Int) + 1) (by omega) (by omega)]
    refine Ev.bind hfit ?_
    by_cases hf : ((sizeV (l.drop i) : Nat) : Int) ≤ m
    · simp only [decide_eq_true hf, if_true]
      have : kR m (l.drop i) = 0 := by
        rcases hx : l.drop i with _ | ⟨b, _ | ⟨c, x⟩⟩
        · rfl
        · rfl
        · rw [hx] at hf
          rw [kR, if_pos hf]
      rw [this]
      exact Ev.now _
    · simp only [decide_eq_false hf, Bool.false_eq_true, if_false]
      by_cases hn : i + 1 < l.length
      · have e : kR m (l.drop i) = kR m (l.drop (i + 1)) + 1 := by
          rw [List.drop_eq_getElem_cons hi, List.drop_eq_getElem_cons hn] at hf ⊢
          rw [kR, if_neg hf]
        rw [e]
        have := ih (i + 1) (by omega) hn
        rw [show i + (kR m (l.drop (i + 1)) + 1) = i + 1 + kR m (l.drop (i + 1)) by omega]
        exact_mod_cast this
      · have e : kR m (l.drop i) = 0 := by
          rw [List.drop_eq_getElem_cons hi, List.drop_of_length_le (by omega)]
          rfl
        rw [e]
        refine Ev.step (fun k => by rw [impl_keptFrom.l0]) ?_
        simp only [if_neg (show ¬ ((i : Int) + 1 < (l.length : Int)) by omega), w64 (a := (l.length : Int) - 1) (by omega) (by omega)]
        have : mx ((l.length : Int) - 1) 0 = ((i + 0 : Nat) : Int) := by unfold mx; split <;> omega
        rw [this]
        exact Ev.now _
theorem keptFromS_ev (m : Int) (l : List S46) (hl : l.length ≤ 1000) (h : ∀ b ∈ l, BatR b.f5) : Ev (fun k => impl_keptFrom.f k l m) ((kR m l : Nat) : Int) := by
  unfold impl_keptFrom.f
  rcases Nat.eq_zero_or_pos l.length with h0 | h0
  · obtain rfl : l = [] := List.eq_nil_of_length_eq_zero h0
    refine Ev.step (fun k => by rw [impl_keptFrom.l0]) ?_
    simp only [List.length_nil, if_neg (show ¬ ((0 : Int) < ((0 : Nat) : Int)) by omega), w64 (a := ((0 : Nat) : Int) - 1) (by omega) (by omega)]
    have : mx (((0 : Nat) : Int) - 1) 0 = ((kR m ([] : List S46) : Nat) : Int) := by unfold mx kR; rfl
    rw [this]
    exact Ev.now _
  · have := kept_sloop m l hl h l.length 0 (by omega) h0
    simpa using this
theorem skept_loop (m : Int) (l : List S46) (hl : l.length ≤ 1000) (h : ∀ b ∈ l, BatR b.f5) : ∀ (d i : Nat), l.length - i = d → i ≤ l.length →
    Ev (fun k => spec_KeepSize.l0 k l m (i : Int)) ((i + kR m (l.drop i) : Nat) : Int) := by
  intro d
  induction d with
  | zero =>
    intro i hd hi
    refine Ev.step (fun k => by rw [spec_KeepSize.l0]) ?_
    simp only [w64 (a := (i : Int) + 1) (by omega) (by omega), if_neg (show ¬ ((i : Int) + 1 < (l.length : Int)) by omega)]
    rw [List.drop_of_length_le (by omega)]
    exact Ev.now _
  | succ d ih =>
    intro i hd hi
    refine Ev.step (fun k => by rw [spec_KeepSize.l0]) ?_
    by_cases hn : i + 1 < l.length
    · simp only [w64 (a := (i : Int) + 1) (by omega) (by omega), if_pos (show (i : Int) + 1 < (l.length : Int) by omega), if_pos (show (0 : Int) ≤ (i : Int) by omega), if_pos (show (i : Int) ≤ (l.length : Int) by omega), Int.toNat_natCast]
      refine Ev.bind (ssizeOf_ev _ (by rw [List.length_drop]; omega) (fun b hb => h b (List.mem_of_mem_drop hb))) ?_
      have hd1 : l.drop i = l[i] :: l[i + 1] :: l.drop (i + 1 + 1) := by rw [List.drop_eq_getElem_cons (by omega : i < l.length), List.drop_eq_getElem_cons hn]
      have hd2 : l.drop (i + 1) = l[i + 1] :: l.drop (i + 1 + 1) := List.drop_eq_getElem_cons hn
      by_cases hf : ((sizeV (l.drop i) : Nat) : Int) ≤ m
      · simp only [if_neg (show ¬ ((sizeV (l.drop i) : Nat) : Int) > m by omega)]
        have e : kR m (l.drop i) = 0 := by rw [hd1] at hf ⊢; rw [kR, if_pos hf]
        rw [e]
        exact Ev.now _
      · simp only [if_pos (show ((sizeV (l.drop i) : Nat) : Int) > m by omega)]
        have e : kR m (l.drop i) = kR m (l.drop (i + 1)) + 1 := by rw [hd1] at hf ⊢; rw [hd2, kR, if_neg hf]
        rw [e]
        have := ih (i + 1) (by omega) (by omega)
        rw [show i + (kR m (l.drop (i + 1)) + 1) = i + 1 + kR m (l.drop (i + 1)) by omega]
        exact_mod_cast this
    · simp only [w64 (a := (i : Int) + 1) (by omega) (by omega), if_neg (show ¬ ((i : Int) + 1 < (l.length : Int)) by omega)]
      have e : kR m (l.drop i) = 0 := by
        rw [List.drop_eq_getElem_cons (by omega : i < l.length), List.drop_of_length_le (by omega)]
        rfl
      rw [e]
      exact Ev.now _
def keepSV (m : Int) (l : List S46) : Int := if logOk l = true ∧ 0 ≤ m ∧ m ≤ 99999 then ((kR m l : Nat) : Int) else -1
theorem KeepSize_ev (m : Int) (l : List S46) (hb : RowB l) : Ev (fun k => impl_KeepSize.f k l m) (keepSV m l) := by
  unfold impl_KeepSize.f keepSV
  refine Ev.bind (LogValid_ev l hb) ?_
  cases h : logOk l
  · simp only [Bool.false_eq_true, if_false, false_and]
    exact Ev.now _
  · have hR := logOk_R h
    simp only [if_true, within_ev, bindS, true_and]
    by_cases hm : 0 ≤ m ∧ m ≤ 99999
    · simp only [decide_eq_true hm.1, decide_eq_true hm.2, Bool.and_self, if_true, if_pos hm]
      exact Ev.bind (keptFromS_ev m l (by omega) hR.2) (Ev.now _)
    · have : (decide (0 ≤ m) && decide (m ≤ 99999)) = false := by
        rw [Bool.eq_false_iff]
        intro hc
        simp only [Bool.and_eq_true, decide_eq_true_eq] at hc
        exact hm hc
      simp only [this, Bool.false_eq_true, if_false, if_neg hm]
      exact Ev.now _
theorem sKeepSize_ev (m : Int) (l : List S46) (hb : RowB l) : Ev (fun k => spec_KeepSize.f k l m) (keepSV m l) := by
  unfold spec_KeepSize.f keepSV
  refine Ev.bind (sLogValid_ev l hb) ?_
  cases h : logOk l
  · simp only [Bool.false_eq_true, if_false, false_and]
    refine Ev.step (fun k => by rw [spec_KeepSize.j0]) ?_
    simp only [if_true]
    exact Ev.now _
  · have hR := logOk_R h
    simp only [if_true, in_ev, bindS, true_and]
    refine Ev.step (fun k => by rw [spec_KeepSize.j0]) ?_
    by_cases hm : 0 ≤ m ∧ m ≤ 99999
    · simp only [decide_eq_true hm.1, decide_eq_true hm.2, Bool.and_self, Bool.not_true, Bool.false_eq_true, if_false, if_pos hm]
      have := skept_loop m l (by omega) hR.2 l.length 0 (by omega) (by omega)
      simpa using this
    · have : (decide (0 ≤ m) && decide (m ≤ 99999)) = false := by
        rw [Bool.eq_false_iff]
        intro hc
        simp only [Bool.and_eq_true, decide_eq_true_eq] at hc
        exact hm hc
      simp only [this, Bool.not_false, if_true, if_neg hm]
      exact Ev.now _
theorem RowB.drop {l : List S46} (h : RowB l) (n : Nat) : RowB (l.drop n) := ⟨by have := h.1; rw [List.length_drop]; omega, fun b hb => h.2 b (List.mem_of_mem_drop hb)⟩
theorem RowB.take {l : List S46} (h : RowB l) (n : Nat) : RowB (l.take n) := ⟨by have := h.1; rw [List.length_take]; omega, fun b hb => h.2 b (List.mem_of_mem_take hb)⟩
end Go.Proofs.Ythoioccmnphfgaa.Pu

namespace Go.Proofs.Ythoioccmnphfgaa.Pu
open Go.RowKit Go.Proofs.YthoioccmnphfgaaW.PrintWords Go.Proofs.YthoioccmnphfgaaW.PrintLast Go.Proofs.Ythoioccmnphfgaa.G
set_option linter.unusedVariables false
set_option linter.unusedSimpArgs false
theorem xor_i64 (a b : Int) (h0 : 0 ≤ a) (h1 : a < 4611686018427387904) (k0 : 0 ≤ b) (k1 : b < 4611686018427387904) : 0 ≤ bits .xor .i64 a b := by
  obtain ⟨a, rfl⟩ := Int.eq_ofNat_of_zero_le h0
  obtain ⟨b, rfl⟩ := Int.eq_ofNat_of_zero_le k0
  have ha : a < 2 ^ 62 := by omega
  have hb : b < 2 ^ 62 := by omega
  have hx := Nat.xor_lt_two_pow ha hb
  have ha' : a % 2 ^ 64 = a := Nat.mod_eq_of_lt (by omega)
  have hb' : b % 2 ^ 64 = b := Nat.mod_eq_of_lt (by omega)
  show 0 ≤ IntKind.i64.wrap ((BitVec.ofInt 64 (a : Int) ^^^ BitVec.ofInt 64 (b : Int)).toNat : Int)
  rw [BitVec.ofInt_natCast, BitVec.ofInt_natCast, BitVec.toNat_xor, BitVec.toNat_ofNat, BitVec.toNat_ofNat, ha', hb', IntKind.wrap_i64]
  omega
theorem rd_range {b : List Int} (hb : ∀ x ∈ b, 0 ≤ x ∧ x ≤ 255) (i : Int) : 0 ≤ rd b i ∧ rd b i ≤ 255 := by
  unfold rd
  rw [List.getD_eq_getElem?_getD]
  rcases h : b[i.toNat]? with _ | x
  · simp
  · exact hb x (List.mem_of_getElem? h)
theorem mod_range {x n : Int} (h0 : 0 ≤ x) (h1 : 1 ≤ n) : 0 ≤ Int.tmod x n ∧ Int.tmod x n < n := by
  rw [Int.tmod_eq_emod_of_nonneg h0]
  exact ⟨Int.emod_nonneg _ (by omega), Int.emod_lt_of_pos _ (by omega)⟩
/-- A code that is read: bytes, and a place that is no great number. -/
def CodeOk (b : List Int) : Prop := b.length ≤ 2000 ∧ ∀ x ∈ b, 0 ≤ x ∧ x ≤ 255
theorem pick_ends {b : List Int} (hb : CodeOk b) (p n : Int) (h0 : 0 ≤ p) (h1 : p ≤ 1000000000) (hn : n ≤ 4611686018427387904) :
    EndsIn (fun k => spec_l6Rd_pick.f k b p n) (fun r => r.2 = p + 1 ∧ 0 ≤ r.1 ∧ (1 ≤ n → r.1 < n) ∧ (n < 1 → r.1 = 0)) := by
  obtain ⟨hl, hr⟩ := hb
  unfold spec_l6Rd_pick.f
  rw [w64 (a := p + 1) (by omega) (by omega)]
  by_cases hn1 : n < 1
  · simp only [if_pos hn1]
    refine EndsIn.step (fun k => by rw [spec_l6Rd_pick.j0]) ?_
    simp only [if_true]
    exact EndsIn.now _ ⟨rfl, by omega, by omega, fun _ => rfl⟩
  · simp only [if_neg hn1]
    refine EndsIn.step (fun k => by rw [spec_l6Rd_pick.j0]) ?_
    rw [show p + 1 - 1 = p by omega, w64 (a := p) (by omega) (by omega)]
    by_cases hz : (b.length : Int) = 0
    · have : ((b.length : Int) == 0) = true := by simpa using hz
      simp only [this, if_true]
      exact EndsIn.now _ ⟨rfl, by omega, by omega, fun h => by omega⟩
    · have hz' : ((b.length : Int) == 0) = false := by simpa using hz
      simp only [hz', Bool.false_eq_true, if_false]
      by_cases hp : p < (b.length : Int)
      · have hx := rd_range hr p
        simp only [if_pos hp, if_pos h0, if_neg (show ¬ n = 0 by omega)]
        rw [w64 (a := rd b p) (by omega) (by omega)]
        have hm := mod_range (x := rd b p) (n := n) hx.1 (by omega)
        exact EndsIn.now _ ⟨rfl, hm.1, fun _ => hm.2, fun h => by omega⟩
      · have hm1 := mod_range (x := p) (n := (b.length : Int)) h0 (by omega)
        have h7 : wrap64 (wrap64 (p * 7) + 3) = p * 7 + 3 := by
          rw [w64 (a := p * 7) (by omega) (by omega), w64 (by omega) (by omega)]
        have hm2 := mod_range (x := p * 7 + 3) (n := (b.length : Int)) (by omega) (by omega)
        simp only [if_neg hp, if_neg hz, h7, if_pos hm1.1, if_pos hm1.2, if_pos hm2.1, if_pos hm2.2, if_neg (show ¬ n = 0 by omega)]
        have hx1 := rd_range hr (Int.tmod p b.length)
        have hx2 := rd_range hr (Int.tmod (p * 7 + 3) b.length)
        generalize rd b (Int.tmod p b.length) = x1 at hx1 ⊢
        generalize rd b (Int.tmod (p * 7 + 3) b.length) = x2 at hx2 ⊢
        have hd : 0 ≤ Int.tdiv p (b.length : Int) ∧ Int.tdiv p (b.length : Int) ≤ p := by
          rw [Int.tdiv_eq_ediv_of_nonneg h0]
          exact ⟨Int.ediv_nonneg h0 (by omega), Int.ediv_le_self _ h0⟩
        generalize Int.tdiv p (b.length : Int) = q at hd ⊢
        have e1 : wrap64 x1 = x1 := w64 (by omega) (by omega)
        have e2 : wrap64 x2 = x2 := w64 (by omega) (by omega)
        have e3 : wrap64 (x1 * 131) = x1 * 131 := w64 (by omega) (by omega)
        have e4 : wrap64 (x2 * 1117) = x2 * 1117 := w64 (by omega) (by omega)
        have e5 : wrap64 (x1 * 131 + x2 * 1117) = x1 * 131 + x2 * 1117 := w64 (by omega) (by omega)
        have e6 : wrap64 (p * 29) = p * 29 := w64 (by omega) (by omega)
        have e7 : wrap64 (x1 * 131 + x2 * 1117 + p * 29) = x1 * 131 + x2 * 1117 + p * 29 := w64 (by omega) (by omega)
        have e8 : wrap64 q = q := w64 (by omega) (by omega)
        have e9 : wrap64 (q * 53) = q * 53 := w64 (by omega) (by omega)
        have e10 : wrap64 (x1 * 131 + x2 * 1117 + p * 29 + q * 53) = x1 * 131 + x2 * 1117 + p * 29 + q * 53 := w64 (by omega) (by omega)
        simp only [e1, e2, e3, e4, e5, e6, e7, e8, e9, e10]
        have hX : 0 ≤ x1 * 131 + x2 * 1117 + p * 29 + q * 53 ∧ x1 * 131 + x2 * 1117 + p * 29 + q * 53 < 4611686018427387904 := ⟨by omega, by omega⟩
        generalize x1 * 131 + x2 * 1117 + p * 29 + q * 53 = X at hX ⊢
        have e11 : wrap64 (Int.tdiv X 64) = X / 64 := by
          rw [Int.tdiv_eq_ediv_of_nonneg hX.1]
          exact w64 (by omega) (by omega)
        rw [e11]
        have hxx := xor_i64 X (X / 64) hX.1 hX.2 (by omega) (by omega)
        have hm := mod_range (n := n) hxx (by omega)
        exact EndsIn.now _ ⟨rfl, hm.1, fun _ => hm.2, fun h => by omega⟩
end Go.Proofs.Ythoioccmnphfgaa.Pu

namespace Go.Proofs.Ythoioccmnphfgaa.Pu
open Go.RowKit Go.Proofs.YthoioccmnphfgaaW.PrintWords Go.Proofs.YthoioccmnphfgaaW.PrintLast Go.Proofs.YthoioccmnphfgaaW.PrintMore Go.Proofs.Ythoioccmnphfgaa.G
set_option linter.unusedVariables false
set_option linter.unusedSimpArgs false
theorem part_loop {b : List Int} (hb : CodeOk b) (n : Int) (hn : n ≤ 12) : ∀ d (i : Nat) (l : List Int) (p : Int), 12 - i = d → l.length = i → i ≤ 12 → 0 ≤ p → p ≤ 900000000 + 2 * (i : Int) →
    EndsIn (fun k => spec_l91Part.l0 k l n (i : Int) b p) (fun r => r.2.1.length ≤ 12 ∧ p ≤ r.2.2 ∧ r.2.2 ≤ p + 2 * (12 - (i : Int))) := by
  intro d
  induction d with
  | zero =>
    intro i l p hd hl hi p0 p1
    refine EndsIn.step (fun k => by rw [spec_l91Part.l0]) ?_
    simp only [if_neg (show ¬ (i : Int) < n by omega)]
    exact EndsIn.now _ ⟨by show l.length ≤ 12; omega, by show p ≤ p; omega, by show p ≤ _; omega⟩
  | succ d ih =>
    intro i l p hd hl hi p0 p1
    refine EndsIn.step (fun k => by rw [spec_l91Part.l0]) ?_
    by_cases h : (i : Int) < n
    · simp only [if_pos h]
      refine EndsIn.bind (pick_ends hb p 256 p0 (by omega) (by omega)) fun q hq => ?_
      obtain ⟨q2, q3, q4, _⟩ := hq
      simp only [bindS]
      rw [q2]
      refine EndsIn.bind (pick_ends hb (p + 1) 4 (by omega) (by omega) (by omega)) fun s hs => ?_
      obtain ⟨s2, s3, s4, _⟩ := hs
      have s5 := s4 (by omega)
      rw [s2]
      simp only [if_pos s3, if_pos (show s.1 < (([1, 2, 3, q.1] : List Int).length : Int) by simpa using s5), if_pos (show l.length < 17592186044416 by omega), w64 (a := (i : Int) + 1) (by omega) (by omega)]
      have := ih (i + 1) (l ++ [rd [1, 2, 3, q.1] s.1]) (p + 1 + 1) (by omega) (by rw [List.length_append, hl]; rfl) (by omega) (by omega) (by omega)
      exact this.mono fun r hr => ⟨hr.1, by omega, by omega⟩
    · simp only [if_neg h]
      exact EndsIn.now _ ⟨by show l.length ≤ 12; omega, by show p ≤ p; omega, by show p ≤ _; omega⟩
theorem part_ends {b : List Int} (hb : CodeOk b) (p : Int) (h0 : 0 ≤ p) (h1 : p ≤ 800000000) : EndsIn (fun k => spec_l91Part.f k b p) (fun r => r.2.1.length ≤ 12 ∧ p ≤ r.2.2 ∧ r.2.2 ≤ p + 30) := by
  have st : ∀ (n q : Int), n ≤ 12 → p ≤ q → q ≤ p + 5 → EndsIn (fun k => spec_l91Part.j0 k [] n b q) (fun r => r.2.1.length ≤ 12 ∧ p ≤ r.2.2 ∧ r.2.2 ≤ p + 30) := by
    intro n q hn q0 q1
    refine EndsIn.step (fun k => by rw [spec_l91Part.j0]) ?_
    have := part_loop hb n hn 12 0 [] q (by omega) rfl (by omega) (by omega) (by omega)
    exact this.mono fun r hr => ⟨hr.1, by omega, by omega⟩
  unfold spec_l91Part.f
  refine EndsIn.bind (pick_ends hb p 4 h0 (by omega) (by omega)) fun q hq => ?_
  obtain ⟨q2, q3, q4, _⟩ := hq
  rw [q2]
  by_cases hz : q.1 = 0
  · simp only [if_pos hz]
    exact EndsIn.now _ ⟨by simp, by show p ≤ p + 1; omega, by show p + 1 ≤ p + 30; omega⟩
  · simp only [if_neg hz, bindS]
    refine EndsIn.bind (pick_ends hb (p + 1) 5 (by omega) (by omega) (by omega)) fun s hs => ?_
    obtain ⟨s2, s3, s4, _⟩ := hs
    have s5 := s4 (by omega)
    rw [s2]
    refine EndsIn.bind (pick_ends hb (p + 1 + 1) 12 (by omega) (by omega) (by omega)) fun u hu => ?_
    obtain ⟨u2, u3, u4, _⟩ := hu
    rw [u2]
    by_cases hu0 : u.1 = 0
    · simp only [if_pos hu0]
      exact st _ _ (by omega) (by omega) (by omega)
    · simp only [if_neg hu0]
      exact st _ _ (by omega) (by omega) (by omega)
def Small (r : S63) : Prop := r.f3.length ≤ 12 ∧ r.f5.length ≤ 12
theorem recs_loop {b : List Int} (hb : CodeOk b) (n : Int) (hn : n ≤ 6) : ∀ d (i : Nat) (l : List S63) (o t p : Int), 6 - i = d → l.length = i → i ≤ 6 → (∀ r ∈ l, Small r) → 0 ≤ p → p ≤ 700000000 + 100 * (i : Int) →
    EndsIn (fun k => spec_l91Records.l0 k o l n t (i : Int) b p) (fun r => (∀ x ∈ r.1, Small x) ∧ (n ≤ (r.1.length : Int)) ∧ r.1.length ≤ 6 ∧ p ≤ r.2 ∧ r.2 ≤ p + 100 * (6 - (i : Int))) := by
  have stop : ∀ (i : Nat) (l : List S63) (o t p : Int), l.length = i → i ≤ 6 → (∀ r ∈ l, Small r) → ¬ (i : Int) < n →
      EndsIn (fun k => spec_l91Records.l0 k o l n t (i : Int) b p) (fun r => (∀ x ∈ r.1, Small x) ∧ (n ≤ (r.1.length : Int)) ∧ r.1.length ≤ 6 ∧ p ≤ r.2 ∧ r.2 ≤ p + 100 * (6 - (i : Int))) := by
    intro i l o t p hl hi hs h
    refine EndsIn.step (fun k => by rw [spec_l91Records.l0]) ?_
    simp only [if_neg h]
    exact EndsIn.now _ ⟨hs, by show n ≤ (l.length : Int); omega, by show l.length ≤ 6; omega, by show p ≤ p; omega, by show p ≤ _; omega⟩
  intro d
  induction d with
  | zero =>
    intro i l o t p hd hl hi hs p0 p1
    exact stop i l o t p hl hi hs (by omega)
  | succ d ih =>
    intro i l o t p hd hl hi hs p0 p1
    by_cases h : (i : Int) < n
    · refine EndsIn.step (fun k => by rw [spec_l91Records.l0]) ?_
      simp only [if_pos h]
      refine EndsIn.bind (part_ends hb p p0 (by omega)) fun q hq => ?_
      obtain ⟨q1, q2, q3⟩ := hq
      refine EndsIn.bind (part_ends hb q.2.2 (by omega) (by omega)) fun s hs' => ?_
      obtain ⟨s1, s2, s3⟩ := hs'
      have st : ∀ (c : Bool) (u : Int), s.2.2 ≤ u → u ≤ s.2.2 + 2 → EndsIn (fun k => spec_l91Records.j1 k o l n t (i : Int) s.1 s.2.1 c b u o t q.1 q.2.1 false) (fun r => (∀ x ∈ r.1, Small x) ∧ (n ≤ (r.1.length : Int)) ∧ r.1.length ≤ 6 ∧ p ≤ r.2 ∧ r.2 ≤ p + 100 * (6 - (i : Int))) := by
        intro c u u0 u1
        refine EndsIn.step (fun k => by rw [spec_l91Records.j1]) ?_
        have nx : ∀ (x : S63) (o' t' v : Int), Small x → u ≤ v → v ≤ u + 5 → EndsIn (fun k => spec_l91Records.l0 k o' (l ++ [x]) n t' ((i : Int) + 1) b v) (fun r => (∀ x ∈ r.1, Small x) ∧ (n ≤ (r.1.length : Int)) ∧ r.1.length ≤ 6 ∧ p ≤ r.2 ∧ r.2 ≤ p + 100 * (6 - (i : Int))) := by
          intro x o' t' v hx v0 v1
          have := ih (i + 1) (l ++ [x]) o' t' v (by omega) (by rw [List.length_append, hl]; rfl) (by omega) (fun r hr => by
            rcases List.mem_append.1 hr with hr | hr
            · exact hs r hr
            · rw [List.mem_singleton] at hr
              rw [hr]
              exact hx) (by omega) (by omega)
          exact this.mono fun r hr => ⟨hr.1, hr.2.1, hr.2.2.1, by omega, by omega⟩
        cases c
        · simp only [Bool.false_eq_true, if_false, if_pos (show l.length < 1759218604441 by omega)]
          refine EndsIn.bind (pick_ends hb u 5 (by omega) (by omega) (by omega)) fun v hv => ?_
          rw [hv.1]
          refine EndsIn.bind (pick_ends hb (u + 1) 30 (by omega) (by omega) (by omega)) fun z hz => ?_
          rw [hz.1, w64 (a := (i : Int) + 1) (by omega) (by omega)]
          exact nx _ _ _ _ ⟨q1, s1⟩ (by omega) (by omega)
        · simp only [if_true, if_pos (show l.length < 1759218604441 by omega)]
          refine EndsIn.bind (pick_ends hb u 3 (by omega) (by omega) (by omega)) fun y hy => ?_
          rw [hy.1]
          refine EndsIn.bind (pick_ends hb (u + 1) 5 (by omega) (by omega) (by omega)) fun v hv => ?_
          rw [hv.1]
          refine EndsIn.bind (pick_ends hb (u + 1 + 1) 30 (by omega) (by omega) (by omega)) fun z hz => ?_
          rw [hz.1, w64 (a := (i : Int) + 1) (by omega) (by omega)]
          exact nx _ _ _ _ ⟨by show 1 ≤ 12; omega, s1⟩ (by omega) (by omega)
      cases hq1 : q.1
      · simp only [Bool.false_eq_true, if_false]
        have := st false s.2.2 (by omega) (by omega)
        rw [hq1] at this
        exact this
      · simp only [if_true]
        refine EndsIn.bind (pick_ends hb s.2.2 2 (by omega) (by omega) (by omega)) fun y hy => ?_
        rw [hy.1]
        have := st (y.1 == 0) (s.2.2 + 1) (by omega) (by omega)
        rw [hq1] at this
        exact this
    · exact stop i l o t p hl hi hs h
/-- Some records: one at least. -/
theorem recs_ends {b : List Int} (hb : CodeOk b) (p a n : Int) (h0 : 0 ≤ p) (h1 : p ≤ 600000000) (hn1 : 1 ≤ n) (hn : n ≤ 6) :
    EndsIn (fun k => spec_l91Records.f k b p a n) (fun r => (∀ x ∈ r.1, Small x) ∧ 1 ≤ r.1.length ∧ r.1.length ≤ 6 ∧ p ≤ r.2 ∧ r.2 ≤ p + 700) := by
  unfold spec_l91Records.f
  refine EndsIn.bind (pick_ends hb p n h0 (by omega) (by omega)) fun q hq => ?_
  obtain ⟨q2, q3, q4, _⟩ := hq
  have q5 := q4 (by omega)
  rw [q2]
  refine EndsIn.bind (pick_ends hb (p + 1) 200 (by omega) (by omega) (by omega)) fun s hs => ?_
  rw [hs.1, w64 (a := 1 + q.1) (by omega) (by omega)]
  have := recs_loop hb (1 + q.1) (by omega) 6 0 [] a s.1 (p + 1 + 1) (by omega) rfl (by omega) (by simp) (by omega) (by omega)
  exact this.mono fun r hr => ⟨hr.1, by omega, hr.2.2.1, by omega, by omega⟩
def BatS (l : List S63) : Prop := (∀ x ∈ l, Small x) ∧ 1 ≤ l.length ∧ l.length ≤ 7
theorem bat_j {b : List Int} (hb : CodeOk b) (p : Int) (h0 : 0 ≤ p) (h1 : p ≤ 600000000) (c0 c1 : Bool) (x y z : Int) (l : List S63) (hl : (∀ x ∈ l, Small x) ∧ 1 ≤ l.length ∧ l.length ≤ 6) :
    EndsIn (fun k => spec_l91Batch.j0 k b p c0 c1 x y z l) (fun r => BatS r.2.2.2.2.2.1 ∧ p ≤ r.2.2.2.2.2.2 ∧ r.2.2.2.2.2.2 ≤ p + 3) := by
  obtain ⟨l1, l2, l3⟩ := hl
  have hB : BatS l := ⟨l1, l2, by omega⟩
  refine EndsIn.step (fun k => by rw [spec_l91Batch.j0]) ?_
  refine EndsIn.bind (pick_ends hb p 40 h0 (by omega) (by omega)) fun q hq => ?_
  rw [hq.1]
  by_cases e0 : q.1 = 0
  · simp only [if_pos e0, bindS]
    refine EndsIn.bind (pick_ends hb (p + 1) 3 (by omega) (by omega) (by omega)) fun s hs => ?_
    obtain ⟨s2, s3, s4, _⟩ := hs
    have s5 := s4 (by omega)
    simp only [if_pos s3, if_pos (show s.1 < (([(-1), 1, 100] : List Int).length : Int) by simpa using s5)]
    exact EndsIn.now _ ⟨hB, by show p ≤ s.2; omega, by show s.2 ≤ p + 3; omega⟩
  · simp only [if_neg e0]
    by_cases e1 : q.1 = 1
    · simp only [if_pos e1, if_pos (show (0 : Int) < (l.length : Int) by omega), if_pos (show l.length < 1759218604441 by omega)]
      refine EndsIn.now _ ⟨⟨fun r hr => ?_, by show 1 ≤ (l ++ [_]).length; rw [List.length_append]; omega, by show (l ++ [_]).length ≤ 7; rw [List.length_append]; simp only [List.length_singleton]; omega⟩, by show p ≤ p + 1; omega, by show p + 1 ≤ p + 3; omega⟩
      rcases List.mem_append.1 hr with hr | hr
      · exact l1 r hr
      · rw [List.mem_singleton] at hr
        rw [hr]
        have := l1 _ (List.getElem_mem (show 0 < l.length by omega))
        rw [← rdR_nat l 0 (by omega)] at this
        exact this
    · simp only [if_neg e1]
      by_cases e2 : q.1 = 2
      · simp only [if_pos e2]
        exact EndsIn.now _ ⟨hB, by show p ≤ p + 1; omega, by show p + 1 ≤ p + 3; omega⟩
      · simp only [if_neg e2]
        exact EndsIn.now _ ⟨hB, by show p ≤ p + 1; omega, by show p + 1 ≤ p + 3; omega⟩
theorem bat_ends {b : List Int} (hb : CodeOk b) (p a : Int) (h0 : 0 ≤ p) (h1 : p ≤ 500000000) :
    EndsIn (fun k => spec_l91Batch.f k b p a) (fun r => BatS r.2.2.2.2.2.1 ∧ p ≤ r.2.2.2.2.2.2 ∧ r.2.2.2.2.2.2 ≤ p + 800) := by
  unfold spec_l91Batch.f
  refine EndsIn.bind (pick_ends hb p 2 h0 (by omega) (by omega)) fun q hq => ?_
  rw [hq.1]
  refine EndsIn.bind (recs_ends hb (p + 1) a 4 (by omega) (by omega) (by omega) (by omega)) fun s hs => ?_
  obtain ⟨s1, s2, s3, s4, s5⟩ := hs
  refine EndsIn.bind (pick_ends hb s.2 3 (by omega) (by omega) (by omega)) fun t ht => ?_
  rw [ht.1]
  by_cases e0 : t.1 = 0
  · simp only [if_pos e0]
    refine EndsIn.bind (pick_ends hb (s.2 + 1) 3 (by omega) (by omega) (by omega)) fun u hu => ?_
    rw [hu.1]
    refine EndsIn.bind (pick_ends hb (s.2 + 1 + 1) 3 (by omega) (by omega) (by omega)) fun v hv => ?_
    rw [hv.1]
    refine EndsIn.bind (pick_ends hb (s.2 + 1 + 1 + 1) 5 (by omega) (by omega) (by omega)) fun x hx => ?_
    rw [hx.1]
    refine EndsIn.bind (pick_ends hb (s.2 + 1 + 1 + 1 + 1) 3 (by omega) (by omega) (by omega)) fun y hy => ?_
    rw [hy.1]
    by_cases ey : y.1 = 0
    · simp only [if_pos ey]
      refine EndsIn.bind (pick_ends hb (s.2 + 1 + 1 + 1 + 1 + 1) 200 (by omega) (by omega) (by omega)) fun z hz => ?_
      rw [hz.1]
      refine EndsIn.bind (pick_ends hb (s.2 + 1 + 1 + 1 + 1 + 1 + 1) 2 (by omega) (by omega) (by omega)) fun m hm => ?_
      rw [hm.1]
      refine (bat_j hb (s.2 + 1 + 1 + 1 + 1 + 1 + 1 + 1) (by omega) (by omega) _ _ _ _ _ _ ⟨fun r hr => ?_, by simp, by simp⟩).mono fun r hr => ⟨hr.1, by omega, by omega⟩
      rw [List.mem_singleton] at hr
      rw [hr]
      exact ⟨by show 0 ≤ 12; omega, by show 1 ≤ 12; omega⟩
    · simp only [if_neg ey]
      exact (bat_j hb (s.2 + 1 + 1 + 1 + 1 + 1) (by omega) (by omega) _ _ _ _ _ _ ⟨s1, s2, s3⟩).mono fun r hr => ⟨hr.1, by omega, by omega⟩
  · simp only [if_neg e0]
    exact (bat_j hb (s.2 + 1) (by omega) (by omega) _ _ _ _ _ _ ⟨s1, s2, s3⟩).mono fun r hr => ⟨hr.1, by omega, by omega⟩
theorem BatS.rowR {l : List S63} (h : BatS l) : RowR l := ⟨by have := h.2.2; omega, fun r hr => by have := h.1 r hr; unfold Small at this; exact ⟨by omega, by omega⟩⟩
end Go.Proofs.Ythoioccmnphfgaa.Pu

namespace Go.Proofs.Ythoioccmnphfgaa.Pu
open Go.RowKit Go.Proofs.YthoioccmnphfgaaW.PrintWords Go.Proofs.YthoioccmnphfgaaW.PrintLast Go.Proofs.YthoioccmnphfgaaW.PrintMore Go.Proofs.Ythoioccmnphfgaa.G
set_option linter.unusedVariables false
set_option linter.unusedSimpArgs false
def DrL (l : List S46) : Prop := l.length ≤ 9 ∧ ∀ x ∈ l, BatS x.f5
theorem DrL.rowB {l : List S46} (h : DrL l) : RowB l := ⟨by have := h.1; omega, fun x hx => (h.2 x hx).rowR⟩
theorem log_loop {b : List Int} (hb : CodeOk b) (n : Int) (hn : n ≤ 9) : ∀ d (i : Nat) (l : List S46) (o p : Int), 9 - i = d → l.length = i → i ≤ 9 → (∀ x ∈ l, BatS x.f5) → 0 ≤ p → p ≤ 400000000 + 2000 * (i : Int) →
    EndsIn (fun k => spec_l92Log.l0 k l n o (i : Int) b p) (fun r => DrL r.1 ∧ p ≤ r.2 ∧ r.2 ≤ p + 2000 * (9 - (i : Int)) + 10) := by
  have stop : ∀ (i : Nat) (l : List S46) (o p : Int), l.length = i → i ≤ 9 → (∀ x ∈ l, BatS x.f5) → 0 ≤ p → p ≤ 400000000 + 2000 * (i : Int) → ¬ (i : Int) < n →
      EndsIn (fun k => spec_l92Log.l0 k l n o (i : Int) b p) (fun r => DrL r.1 ∧ p ≤ r.2 ∧ r.2 ≤ p + 2000 * (9 - (i : Int)) + 10) := by
    intro i l o p hl hi hs p0 p1 h
    refine EndsIn.step (fun k => by rw [spec_l92Log.l0]) ?_
    simp only [if_neg h]
    by_cases h1 : n > 1
    · simp only [if_pos h1]
      refine EndsIn.bind (pick_ends hb p 30 p0 (by omega) (by omega)) fun q hq => ?_
      rw [hq.1]
      by_cases e0 : q.1 = 0
      · simp only [if_pos e0, if_pos (show (0 : Int) < (l.length : Int) by omega), if_pos (show (1 : Int) < (l.length : Int) by omega)]
        refine EndsIn.now _ ⟨⟨by rw [List.length_set]; omega, fun x hx => ?_⟩, by show p ≤ p + 1; omega, by show p + 1 ≤ _; omega⟩
        rcases List.mem_or_eq_of_mem_set hx with hx | rfl
        · exact hs x hx
        · have := hs _ (List.getElem_mem (show 0 < l.length by omega))
          rw [← rdB_nat l 0 (by omega)] at this
          exact this
      · simp only [if_neg e0]
        exact EndsIn.now _ ⟨⟨by show l.length ≤ 9; omega, hs⟩, by show p ≤ p + 1; omega, by show p + 1 ≤ _; omega⟩
    · simp only [if_neg h1]
      exact EndsIn.now _ ⟨⟨by show l.length ≤ 9; omega, hs⟩, by show p ≤ p; omega, by show p ≤ _; omega⟩
  intro d
  induction d with
  | zero =>
    intro i l o p hd hl hi hs p0 p1
    exact stop i l o p hl hi hs p0 p1 (by omega)
  | succ d ih =>
    intro i l o p hd hl hi hs p0 p1
    by_cases h : (i : Int) < n
    · refine EndsIn.step (fun k => by rw [spec_l92Log.l0]) ?_
      simp only [if_pos h]
      refine EndsIn.bind (bat_ends hb p o p0 (by omega)) fun x hx => ?_
      obtain ⟨x1, x2, x3⟩ := hx
      refine EndsIn.bind (pick_ends hb x.2.2.2.2.2.2 20 (by omega) (by omega) (by omega)) fun q hq => ?_
      have q2 := hq.1
      have nx : ∀ (y : S46) (o' v : Int), BatS y.f5 → p ≤ v → v ≤ p + 2000 → EndsIn (fun k => spec_l92Log.l0 k (l ++ [y]) n o' ((i : Int) + 1) b v) (fun r => DrL r.1 ∧ p ≤ r.2 ∧ r.2 ≤ p + 2000 * (9 - (i : Int)) + 10) := by
        intro y o' v hy v0 v1
        have := ih (i + 1) (l ++ [y]) o' v (by omega) (by rw [List.length_append, hl]; rfl) (by omega) (fun r hr => by
          rcases List.mem_append.1 hr with hr | hr
          · exact hs r hr
          · rw [List.mem_singleton] at hr
            rw [hr]
            exact hy) (by omega) (by omega)
        exact this.mono fun r hr => ⟨hr.1, by omega, by omega⟩
      have st : ∀ (c : Bool), EndsIn (fun k => spec_l92Log.j2 k l n o (i : Int) c b q.2 x.1 x.2.1 x.2.2.1 x.2.2.2.1 x.2.2.2.2.1 x.2.2.2.2.2.1) (fun r => DrL r.1 ∧ p ≤ r.2 ∧ r.2 ≤ p + 2000 * (9 - (i : Int)) + 10) := by
        intro c
        refine EndsIn.step (fun k => by rw [spec_l92Log.j2]) ?_
        cases c
        · obtain ⟨y1, y2, y3⟩ := x1
          simp only [Bool.false_eq_true, if_false, if_pos (show l.length < 2513169434916 by omega), w64 (a := (x.2.2.2.2.2.1.length : Int) - 1) (by omega) (by omega), if_pos (show (0 : Int) ≤ (x.2.2.2.2.2.1.length : Int) - 1 by omega), if_pos (show (x.2.2.2.2.2.1.length : Int) - 1 < (x.2.2.2.2.2.1.length : Int) by omega)]
          refine EndsIn.bind (pick_ends hb q.2 4 (by omega) (by omega) (by omega)) fun z hz => ?_
          rw [hz.1, w64 (a := (i : Int) + 1) (by omega) (by omega)]
          exact nx _ _ _ ⟨y1, y2, y3⟩ (by omega) (by omega)
        · simp only [if_true]
          refine EndsIn.bind (recs_ends hb q.2 o 2 (by omega) (by omega) (by omega) (by omega)) fun s hs => ?_
          obtain ⟨s1, s2, s3, s4, s5⟩ := hs
          simp only [if_pos (show l.length < 2513169434916 by omega), w64 (a := (s.1.length : Int) - 1) (by omega) (by omega), if_pos (show (0 : Int) ≤ (s.1.length : Int) - 1 by omega), if_pos (show (s.1.length : Int) - 1 < (s.1.length : Int) by omega)]
          refine EndsIn.bind (pick_ends hb s.2 4 (by omega) (by omega) (by omega)) fun z hz => ?_
          rw [hz.1, w64 (a := (i : Int) + 1) (by omega) (by omega)]
          exact nx _ _ _ ⟨s1, s2, by show s.1.length ≤ 7; omega⟩ (by omega) (by omega)
      by_cases e0 : q.1 > 0
      · simp only [if_pos e0]
        refine EndsIn.bind (P := fun _ => True) ⟨_, sBatchValid_ev ⟨x.1, x.2.1, x.2.2.1, x.2.2.2.1, x.2.2.2.2.1, x.2.2.2.2.2.1⟩ x1.rowR, trivial⟩ fun t _ => ?_
        exact st _
      · simp only [if_neg e0]
        exact st _
    · exact stop i l o p hl hi hs p0 p1 h
theorem drawLog_ends {b : List Int} (hb : CodeOk b) (p : Int) (h0 : 0 ≤ p) (h1 : p ≤ 300000000) : EndsIn (fun k => spec_l92Log.f k b p) (fun r => DrL r.1 ∧ p ≤ r.2 ∧ r.2 ≤ p + 20000) := by
  have st : ∀ (n q : Int), n ≤ 9 → p ≤ q → q ≤ p + 10 → EndsIn (fun k => spec_l92Log.j0 k [] n b q) (fun r => DrL r.1 ∧ p ≤ r.2 ∧ r.2 ≤ p + 20000) := by
    intro n q hn hq0 hq1
    refine EndsIn.step (fun k => by rw [spec_l92Log.j0]) ?_
    refine EndsIn.bind (pick_ends hb q 10 (by omega) (by omega) (by omega)) fun t ht => ?_
    rw [ht.1]
    have := log_loop hb n hn 9 0 [] t.1 (q + 1) (by omega) rfl (by omega) (by simp) (by omega) (by omega)
    exact this.mono fun r hr => ⟨hr.1, by omega, by omega⟩
  unfold spec_l92Log.f
  simp only [bindS]
  refine EndsIn.bind (pick_ends hb p 5 h0 (by omega) (by omega)) fun q hq => ?_
  obtain ⟨q2, q3, q4, _⟩ := hq
  have q5 := q4 (by omega)
  rw [q2]
  refine EndsIn.bind (pick_ends hb (p + 1) 16 (by omega) (by omega) (by omega)) fun s hs => ?_
  rw [hs.1]
  by_cases hz : s.1 = 0
  · simp only [if_pos hz]
    refine EndsIn.bind (pick_ends hb (p + 1 + 1) 3 (by omega) (by omega) (by omega)) fun u hu => ?_
    obtain ⟨u2, u3, u4, _⟩ := hu
    have u5 := u4 (by omega)
    simp only [if_pos u3, if_pos (show u.1 < (([0, 8, 9] : List Int).length : Int) by simpa using u5)]
    rw [u2]
    refine st _ _ ?_ (by omega) (by omega)
    have : u.1 = 0 ∨ u.1 = 1 ∨ u.1 = 2 := by omega
    rcases this with e | e | e <;> (rw [e]; decide)
  · simp only [if_neg hz, w64 (a := 1 + q.1) (by omega) (by omega)]
    exact st _ _ (by omega) (by omega) (by omega)
end Go.Proofs.Ythoioccmnphfgaa.Pu

namespace Go.Proofs.Ythoioccmnphfgaa.Pu
open Go.RowKit Go.Proofs.YthoioccmnphfgaaW.PrintWords Go.Proofs.YthoioccmnphfgaaW.PrintLast Go.Proofs.Ythoioccmnphfgaa.G
set_option linter.unusedVariables false
set_option linter.unusedSimpArgs false
theorem open_some (l0 : List Int) (hr : ∀ x ∈ l0, 0 ≤ x ∧ x ≤ 255) : ∃ b, spec_l6Open.f l0 = some (b, 0) ∧ CodeOk b := by
  unfold spec_l6Open.f
  by_cases h : (l0.length : Int) > 2000
  · rw [if_pos h, if_pos (by omega)]
    exact ⟨_, rfl, by rw [List.length_take]; omega, fun x hx => hr x (List.mem_of_mem_take hx)⟩
  · rw [if_neg h]
    exact ⟨_, rfl, by omega, hr⟩
end Go.Proofs.Ythoioccmnphfgaa.Pu

namespace Go.Proofs.Ythoioccmnphfgaa.Pure
open Go.RowKit Go.Proofs.Ythoioccmnphfgaa.G Go.Proofs.YthoioccmnphfgaaW.PrintWords Go.Proofs.YthoioccmnphfgaaW.PrintLast Go.Proofs.YthoioccmnphfgaaW.PrintMore Go.Proofs.Ythoioccmnphfgaa.Pu
set_option linter.unusedSimpArgs false
theorem FnKeepMore : OFnKeepMore.Pure := by
  intro l0 hl0 ho0
  refine EndsIn.rounds ?_
  unfold laws_FnKeepMore.f
  have hr := fun x hx => u8_range (ho0 x hx)
  by_cases h : (l0.length : Int) > 1048576
  · simp only [if_pos h]
    exact EndsIn.now _ rfl
  · simp only [if_neg h]
    obtain ⟨c, hc, hok⟩ := open_some l0 hr
    unfold spec_DrawKeepSize.f
    simp only [hc, bindS]
    refine EndsIn.bind (P := fun r => DrL r.1) (EndsIn.bind (drawLog_ends hok 0 (by omega) (by omega)) fun r hr => EndsIn.bind (pick_ends hok r.2 250 (by omega) (by omega) (by omega)) fun s hs => EndsIn.bind (pick_ends hok s.2 30 (by omega) (by omega) (by omega)) fun u hu => EndsIn.now _ hr.1) fun q hq => ?_
    obtain ⟨l, t⟩ := q
    have hb : RowB l := DrL.rowB hq
    refine ⟨true, ?_, rfl⟩
    refine Ev.bind (KeepSize_ev t l hb) (Ev.bind (sKeepSize_ev t l hb) ?_)
    simp only [if_true]
    by_cases hv : logOk l = true ∧ 0 ≤ t ∧ t ≤ 99999
    · have e : keepSV t l = ((kR t l : Nat) : Int) := by unfold keepSV; rw [if_pos hv]
      rw [e]
      simp only [if_neg (show ¬ ((kR t l : Nat) : Int) < 0 by omega)]
      by_cases ht : t = 99999
      · simp only [if_pos ht, beq_self_eq_true]
        exact Ev.now _
      · simp only [if_neg ht, w64 (a := t + 1) (by omega) (by omega)]
        refine Ev.bind (KeepSize_ev (t + 1) l hb) ?_
        have e2 : keepSV (t + 1) l = ((kR (t + 1) l : Nat) : Int) := by unfold keepSV; rw [if_pos ⟨hv.1, by omega, by omega⟩]
        have hm := kR_mono (show t ≤ t + 1 by omega) l
        rw [e2]
        simp only [if_pos (show ((kR (t + 1) l : Nat) : Int) ≥ 0 by omega), decide_eq_true (show ((kR (t + 1) l : Nat) : Int) ≤ ((kR t l : Nat) : Int) by omega)]
        exact Ev.now _
    · have e : keepSV t l = -1 := by unfold keepSV; rw [if_neg hv]
      rw [e]
      simp only [if_pos (show (-1 : Int) < 0 by omega), beq_self_eq_true]
      exact Ev.now _
end Go.Proofs.Ythoioccmnphfgaa.Pure

namespace Go.Proofs.Ythoioccmnphfgaa.fnKeepMore
open Go.ChangeShapes Go.WideShapes Go.ChangeAt Go.RowKit Go.Proofs.Ythoioccmnphfgaa.OFnKeepMore Go.Proofs.Ythoioccmnphfgaa.G Go.Joins
open Go.ChangeMaps (open_string shut_string)
set_option linter.unusedVariables false
theorem own : ownKnob Try.prog.godebug = none := by kernel_rfl
theorem laidOut : laidOutB Try.prog = true := by kernel_rfl
set_option maxRecDepth 100000 in
theorem lifted (os : Os) (started : os.Started) (H : Type) (enc : TypeId × Value → H) :
    ReturnsInHanded {} Try.checked os 4 .any (Rows.fnKeepMoreSpec.pre6 enc Try.prog Try.f4 Rows.fnKeepMoreRow.domain false) (Rows.fnKeepMoreSpec.post enc Try.prog Try.f4 false true false false) := by
  refine returnsInHanded_of_change_sized (C := Try.checked) own started (by kernel_rfl) Try.func4
    (ChangeSpec.witness6 (enc := enc) (C := Try.checked) false ⟨#[], #[.slice none 0 0], []⟩ 8 (by kernel_rfl) (by kernel_rfl) (by kernel_rfl) (by kernel_rfl)) ?_
  intro W base args ds gs before hval0 hW hcnd hsz0 _
  have hsz : (DataW.weightsEach Try.prog (Try.f4.params.toList ++ Rows.fnKeepMoreSpec.plain.varTypes Try.prog) (ds ++ gs)).all (· ≤ reachBytes) = true := hsz0
  have hval : ∀ (j : Nat) t v, Try.f4.params[j]? = some t → args[j]? = some v → Value.okWide Try.prog W .any base t v := hval0
  have hW' := hW
  obtain ⟨p, q, hA0, hV, rfl, hfz, hnd⟩ := hW
  have hA : DataW.TrodAll enc Try.prog W 0 (fun _ => true) true Try.f4.params.toList args.toList ds p := hA0
  rw [Try.params4] at hA hval hsz
  obtain ⟨v0, vs0, d0, ds0, p0, q0, hargs, rfl, rfl, h0, r0⟩ := trodAll_cons hA
  obtain ⟨rfl, rfl, rfl⟩ := trodAll_nil r0
  obtain rfl : args = #[v0] := by cases args; simp_all
  obtain ⟨rfl, rfl⟩ := trodVars_none hV
  obtain ⟨a0, len0, cap0, rfl⟩ := okWide_slice Try.underlying22 (hval 0 22 v0 rfl rfl)
  have k0 := h0
  have lt0 : ∀ x ∈ p0, x.block < W.heap.size := by obtain ⟨m, hm⟩ := k0; exact DataW.trod_lt m _ _ _ hm
  obtain ⟨fuel0, hf0⟩ := h0
  obtain ⟨A0, c0, l0, hcs0, hlc0, hm0, hC0, ho0⟩ := Rd.opens_row Try.underlying22 (Rd.opens_int Try.underlying5 (by kernel_rfl)) hf0
  simp [Value.cells] at hcs0
  obtain ⟨rfl, rfl, rfl⟩ := hcs0
  clear hA0 hval0 hsz0 hsz
  obtain ⟨k, h⟩ := Pure.FnKeepMore l0 (Nat.le_trans hlc0 hm0) ho0
  refine (laws_FnKeepMore.calls k _ _ l0 true W hC0 hlc0 h).mono fun e W' ⟨he, bel0⟩ => ?_
  subst he
  have bel : Below W.heap.size W W' := bel0
  exact ⟨_, rfl, _, _, _, [], _, [], hW', trodAll_mk1 (shut_bool Try.underlying4 _), (trodAll_cons_mk (Below.trod laidOut (by kernel_rfl) (of_decide_eq_true (by kernel_rfl)) k0 bel lt0) trodAll_mk0), rfl, bel.frame _, fun h => by cases h⟩
theorem over : Rows.fnKeepMoreRow.holds Try.pinned (OpenSpec.ofChange Rows.fnKeepMoreSpec) :=
  OpenClaim.holds_of_wide 4 Try.f4 rfl rfl rfl rfl rfl rfl rfl ⟨rfl, rfl, rfl, rfl, rfl⟩ rfl rfl rfl rfl rfl (by kernel_rfl) Try.func4 (by kernel_rfl)
    (of_decide_eq_true (by kernel_rfl)) (by unfold Func.isWrapper; first | (rw [if_pos (by decide +kernel)]; kernel_rfl) | (rw [if_neg (by decide +kernel)]; exact ⟨rfl, rfl⟩))
    (fun os started H enc _ => lifted os started H enc)
theorem proved : Rows.FnKeepMoreSaid := over
#print axioms proved
end Go.Proofs.Ythoioccmnphfgaa.fnKeepMore
namespace Go.Proofs.Ythoioccmnphfgaa
/-- The row, under a short name, for the claim. -/
theorem fnKeepMore_holds : Rows.FnKeepMoreSaid := fnKeepMore.proved
end Go.Proofs.Ythoioccmnphfgaa

