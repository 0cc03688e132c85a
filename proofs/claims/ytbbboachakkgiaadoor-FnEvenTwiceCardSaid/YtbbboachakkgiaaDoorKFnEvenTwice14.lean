/- A text of seat YtbbboachakkgiaaDoor: what the law FnEvenTwice needs of this repo's texts (by pack.py). Not trusted: Lean checks it. -/
import Derived.Test.YtbbboachakkgiaaDoorKFnEvenTwice13
import Derived.Deep.Slices
import Derived.SizedLaws
import Derived.Laws.BitsLemmas
namespace Go.Proofs.YtbbboachakkgiaaDoor.G
open Go.RowKit Go.Proofs.YtbbboachakkgiaaDoorW.PrintWords Go.Proofs.YtbbboachakkgiaaDoorW.PrintLast Go.Proofs.YtbbboachakkgiaaDoorW.PrintMore
attribute [local go_sem] max2_int min2_int max_two min_two max_three min_three max_four min_four   -- for this text's walks alone
set_option linter.unusedVariables false
set_option linter.unusedSimpArgs false

mutual
def laws_FnEvenTwice.j0 : Nat → List (S47) → Bool → List (S47) → Bool → Bool → Option (Bool)
 | 0, _, _, _, _, _ => none
 | k + 1, x4, x5, x6, x7, x40 => if x40 = true then (if (x5 == x7) = true then ((laws_sameLog.f k x4 x6).bind fun t826 => (some t826)) else (some false)) else ((impl_LogEven.f k x4).bind fun bt827 => (laws_FnEvenTwice.l0 k x4 bt827.1 bt827.2 1))
def laws_FnEvenTwice.l0 : Nat → List (S47) → List (S47) → Bool → Int → Option (Bool)
 | 0, _, _, _, _ => none
 | k + 1, x4, x8, x9, x10 => if x10 < (x4.length : Int) then (if 0 ≤ (wrap64 (x10 - 1)) then (if (wrap64 (x10 - 1)) < (x4.length : Int) then (if 0 ≤ x10 then ((impl_BatchJoin.f k ((rd_T47 x4 (wrap64 (x10 - 1))).f0) ((rd_T47 x4 (wrap64 (x10 - 1))).f1) ((rd_T47 x4 (wrap64 (x10 - 1))).f2) ((rd_T47 x4 (wrap64 (x10 - 1))).f3) ((rd_T47 x4 (wrap64 (x10 - 1))).f4) ((rd_T47 x4 (wrap64 (x10 - 1))).f5) ((rd_T47 x4 x10).f0) ((rd_T47 x4 x10).f1) ((rd_T47 x4 x10).f2) ((rd_T47 x4 x10).f3) ((rd_T47 x4 x10).f4) ((rd_T47 x4 x10).f5)).bind fun bt833 => (if bt833.2.2.2.2.2.2 = true then (some false) else (laws_FnEvenTwice.l0 k x4 x8 x9 (wrap64 (x10 + 1))))) else (none)) else (none)) else (none)) else (if x9 = true then ((laws_sameLog.f k x8 x4).bind fun t843 => (some t843)) else (some false))
end
def laws_FnEvenTwice.f (k : Nat) (l0 : List Int) : Option (Bool) := if (l0.length : Int) > 1048576 then (some true) else ((spec_DrawLogEven.f k l0).bind fun t814 => ((impl_LogEven.f k t814).bind fun bt817 => ((spec_LogEven.f k t814).bind fun bt821 => (if (bt817.2 != bt821.2) = true then (laws_FnEvenTwice.j0 k bt817.1 bt817.2 bt821.1 bt821.2 true) else ((laws_sameLog.f k bt817.1 bt821.1).bind fun t825 => (if t825 = true then (laws_FnEvenTwice.j0 k bt817.1 bt817.2 bt821.1 bt821.2 (!bt817.2)) else (laws_FnEvenTwice.j0 k bt817.1 bt817.2 bt821.1 bt821.2 true)))))))
def laws_FnEvenTwice.T12 : Bool × List (List Nat × List Nat) := (true, [([], []), ([], []), ([1], [1]), ([0, 2], [0, 2]), ([3], [3]), ([], []), ([], []), ([5, 6], [5, 6]), ([7], [7]), ([4, 8], [4, 8]), ([9], [9]), ([10], [10]), ([10], [10]), ([], []), ([13, 11, 9, 0, 1, 2, 3, 4, 5, 6, 7, 8, 9, 10, 11, 13], [11, 13]), ([12, 14, 0, 1, 2, 3, 4, 5, 6, 7, 8, 9, 10, 11, 12, 13, 14], [12])])
def laws_FnEvenTwice.B12 : List Nat := [0, 0, 2, 7, 15, 0, 0, 96, 224, 511, 1023, 2047, 2047, 0, 12287, 32767]
theorem laws_FnEvenTwice.tab12 : rtab .any (opsOf Tryd.f8 12) = laws_FnEvenTwice.T12 := by kernel_rfl
theorem laws_FnEvenTwice.bits12 : waitsOk laws_FnEvenTwice.T12.2 laws_FnEvenTwice.B12 = true := by kernel_rfl
set_option maxHeartbeats 40000000 in
set_option maxRecDepth 100000 in
theorem laws_FnEvenTwice.calls [ErrA] (k : Nat) (A0 : Option Addr) (c0 : Nat) (l0 : List Int) (r : Bool) (w : World) (hE : ErrOk [0] w) (hr0 : Kd.C (Kd.int .u8) w A0 l0.length l0) (hc0 : l0.length ≤ c0) (h : laws_FnEvenTwice.f k l0 = some r) :
  Calls Tryd.prog 8 #[.slice A0 l0.length c0] w fun e w' => e = .returned (.bool r) ∧ Below w.heap.size w w' := by
 have HE := Aside0.mk hE
 clear hE
 have hu47 := Tryd.underlying47
 have HR0 := Aside0.mk hr0
 have HC0 := Aside0.mk hc0
 clear hr0 hc0
 have HB := Aside0.mk (Below.refl w.heap.size w)
 have H : (if (l0.length : Int) > 1048576 then (some true) else ((spec_DrawLogEven.f k l0).bind fun t814 => ((impl_LogEven.f k t814).bind fun bt817 => ((spec_LogEven.f k t814).bind fun bt821 => (if (bt817.2 != bt821.2) = true then (laws_FnEvenTwice.j0 k bt817.1 bt817.2 bt821.1 bt821.2 true) else ((laws_sameLog.f k bt817.1 bt821.1).bind fun t825 => (if t825 = true then (laws_FnEvenTwice.j0 k bt817.1 bt817.2 bt821.1 bt821.2 (!bt817.2)) else (laws_FnEvenTwice.j0 k bt817.1 bt817.2 bt821.1 bt821.2 true)))))))) = some r := h
 clear h
 by_cases c2 : (l0.length : Int) > 1048576
 ·rw [if_pos c2] at H
  have c2b0 : decide (1048576 < (l0.length : Int)) = true := decide_eq_true c2
  have c2b1 : decide (1048576 < l0.length) = true := decide_eq_true (by omega)
  clear c2
  obtain rfl := Option.some.inj H
  go_enter Tryd.func8, Tryd.ntmps8
  go_wp2
  all_goals go_ret
  all_goals exact ⟨by first | rfl | (simp [errW_none, errW_some] <;> rfl) | (simp [*, errW_none, errW_some] <;> rfl), zb⟩
 ·rw [if_neg c2] at H
  have c2b0 : decide (1048576 < (l0.length : Int)) = false := decide_eq_false c2
  have c2b1 : decide (1048576 < l0.length) = false := decide_eq_false (by omega)
  clear c2
  replace H := tbe H
  obtain ⟨t814, A3, H⟩ := H
  replace H := tbe H
  obtain ⟨⟨t817, t820⟩, A4, H⟩ := H
  dsimp only at H
  replace H := tbe H
  obtain ⟨⟨t821, t824⟩, A5, H⟩ := H
  dsimp only at H
  have HC6 := Aside0.mk H
  clear H
  go_enter Tryd.func8, Tryd.ntmps8
  go_upto_region 6 with (first | ((with_reducible refine gate_callee (f := 24) rfl ?_); refine goesL_ (some 17) rfl rfl Tryd.func24 (by kernel_rfl) rfl #[.slice A0 l0.length c0] rfl tq ?_; (with_reducible refine (spec_DrawLogEven.calls k _ _ l0 t814 _ ?side1 ?side2 A3.out).mono ?_); (case side1 => exact tC HR0.out); (case side2 => exact HC0.out); rintro e w7 ⟨v815, rfl, ho0, hb⟩; have u_v815 := tsv Tryd.prog v815 ho0; refine ⟨_, rfl, ?_⟩; have HO816 := Aside0.mk (Kd.N_lower (Kd.N_mono (ok' := fun k_ => True) ho0 (fun k_ hk_ => trivial)) (below_size zb)); replace HB := tBs HB hb; (try clear hb); (try clear hb2); (try clear hk); (try clear hi); (try clear ho0); obtain ⟨Ao8, co8, eo8⟩ := Kd.N_slice HO816.out; subst eo8) | ((with_reducible refine gate_callee (f := 25) rfl ?_); refine goesL_ (some 20) rfl rfl Tryd.func25 (by kernel_rfl) rfl #[.slice Ao8 t814.length co8] rfl tq ?_; (with_reducible refine (impl_LogEven.calls (hE := ?sideE) k _ _ t814 t817 t820 _ ?side1 ?side2 A4.out).mono ?_); (case sideE => exact ErrOk.below (HE.out.sub (by decide)) zb); (case side1 => repeat (first | exact (Kd.N_reads' HO816.out).2.2 | (with_reducible refine Kd.C_alloc ?_ _) | (with_reducible refine Kd.C_drewN ?_ _) | (with_reducible refine Kd.C_drew ?_))); (case side2 => exact (Kd.N_reads' HO816.out).2.1); rintro e w9 ⟨v818, rfl, ho0, hb⟩; have u_v818 := tsv Tryd.prog v818 ho0; refine ⟨_, rfl, ?_⟩; have HO819 := Aside0.mk (Kd.N_lower (Kd.N_mono (ok' := fun k_ => some k_ ≠ (.slice Ao8 t814.length co8 : Value).ownBlock) ho0 (fun k_ hk_ => (tfr HO816 k_ hk_))) (below_size zb)); replace HO816 := tNe HO816 ho0 hb; replace HB := tBs HB hb; (try clear hb); (try clear hb2); (try clear hk); (try clear hi); (try clear ho0)) | ((with_reducible refine gate_callee (f := 26) rfl ?_); refine goesL_ (some 25) rfl rfl Tryd.func26 (by kernel_rfl) rfl #[.slice Ao8 t814.length co8] rfl tq ?_; (with_reducible refine (spec_LogEven.calls k (fun k_ => (True ∧ some k_ ≠ (v818 : Value).ownBlock)) _ _ t814 t821 t824 _ ?side1 A5.out).mono ?_); (case side1 => exact Kd.N_V (HO816.out)); rintro e w10 ⟨v822, rfl, ho0, hb⟩; have u_v822 := tsv Tryd.prog v822 ho0; refine ⟨_, rfl, ?_⟩; replace HO816 := tNe HO816 ho0 hb; have HO823 := Aside0.mk (Kd.N_lower (Kd.N_mono (ok' := fun k_ => some k_ ≠ (v818 : Value).ownBlock) ho0 (fun k_ hk_ => Or.elim hk_ (fun hs_ => hs_.2) (fun hn_ => (tfr HO819 k_ hn_)))) (below_size zb)); replace HO819 := tNe HO819 ho0 hb; replace HB := tBs HB hb; (try clear hb); (try clear hb2); (try clear hk); (try clear hi); (try clear ho0)))
  (try simp only [Act.put, List.setIfInBounds_toArray, List.set_cons_zero, List.set_cons_succ])
  go_cut [40] (fun v40 wc => ∃ (kq : Nat) (x40_5 : Bool), v40 = .bool x40_5 ∧ Aside0 (laws_FnEvenTwice.j0 kq t817 t820 t821 t824 x40_5 = some r) ∧ Aside0 (kq ≤ k) ∧ Aside0 (Kd.N k47 47 wc w.heap.size (fun k_ => some k_ ≠ (v822 : Value).ownBlock) v818 t817) ∧ Aside0 (Kd.N k47 47 wc w.heap.size (fun k_ => some k_ ≠ (v818 : Value).ownBlock) v822 t821) ∧ Aside0 (Below w.heap.size w wc))
  case first =>
   have H := HC6.out
   clear HC6
   by_cases c11 : (t820 != t824) = true
   ·rw [if_pos c11] at H
    have c11b0 : (t820 != t824) = true := c11
    (try (have c11b1 : decide (t820 = t824) = false := by simpa using c11))
    (try (have c11b2 : (t820 == t824) = false := by simpa using c11))
    (try (have c11b3 : ¬ (t820 = t824) := by simpa using c11))
    clear c11
    (first | rw [c11b0] | (simp only [i64_w, i32_w]; rw [c11b0]) | skip)
    have H' := Aside0.mk H
    clear H
    go_wp2
    go_meet
    case rel => exact ⟨_, (true), tr, H', ⟨by first | omega | exact Nat.le_refl _⟩, ⟨tNm HO819.out⟩, ⟨tN HO823.out⟩, ⟨zb⟩⟩
   ·rw [if_neg c11] at H
    have c11b0 : (t820 != t824) = false := by simpa using c11
    (try (have c11b1 : decide (t820 = t824) = true := by simpa using c11))
    (try (have c11b2 : (t820 == t824) = true := by simpa using c11))
    clear c11
    (first | rw [c11b0] | (simp only [i64_w, i32_w]; rw [c11b0]) | skip)
    replace H := tbe H
    obtain ⟨t825, A12, H⟩ := H
    by_cases c13 : t825 = true
    ·subst c13
     rw [if_pos rfl] at H
     have H' := Aside0.mk H
     clear H
     obtain ⟨Ao14, co14, eo14⟩ := Kd.N_slice HO819.out
     subst eo14
     obtain ⟨Ao15, co15, eo15⟩ := Kd.N_slice HO823.out
     subst eo15
     go_wp2_with (first | (go_at_call 14; (with_reducible refine (laws_sameLog.calls k _ _ t817 _ _ t821 true _ ?side1 ?side2 ?side3 ?side4 A12.out).mono ?_); (case side1 => repeat (first | exact (Kd.N_reads' HO819.out).2.2 | (with_reducible refine Kd.C_alloc ?_ _) | (with_reducible refine Kd.C_drewN ?_ _) | (with_reducible refine Kd.C_drew ?_))); (case side2 => exact (Kd.N_reads' HO819.out).2.1); (case side3 => repeat (first | exact (Kd.N_reads' HO823.out).2.2 | (with_reducible refine Kd.C_alloc ?_ _) | (with_reducible refine Kd.C_drewN ?_ _) | (with_reducible refine Kd.C_drew ?_))); (case side4 => exact (Kd.N_reads' HO823.out).2.1); rintro e w16 ⟨rfl, hb⟩; replace HO816 := tNb HO816 hb; replace HO819 := tNb HO819 hb; replace HO823 := tNb HO823 hb; replace HB := tBs HB hb; (try clear hb); (try clear hb2); (try clear hk); (try clear hi)))
     go_meet
     case rel => exact ⟨_, (!t820), tr, H', ⟨by first | omega | exact Nat.le_refl _⟩, ⟨tNm HO819.out⟩, ⟨tN HO823.out⟩, ⟨zb⟩⟩
    ·replace c13 := Bool.eq_false_iff.mpr c13
     subst c13
     rw [if_neg (show ¬ (false = true) by decide)] at H
     have H' := Aside0.mk H
     clear H
     obtain ⟨Ao17, co17, eo17⟩ := Kd.N_slice HO819.out
     subst eo17
     obtain ⟨Ao18, co18, eo18⟩ := Kd.N_slice HO823.out
     subst eo18
     go_wp2_with (first | (go_at_call 14; (with_reducible refine (laws_sameLog.calls k _ _ t817 _ _ t821 false _ ?side1 ?side2 ?side3 ?side4 A12.out).mono ?_); (case side1 => repeat (first | exact (Kd.N_reads' HO819.out).2.2 | (with_reducible refine Kd.C_alloc ?_ _) | (with_reducible refine Kd.C_drewN ?_ _) | (with_reducible refine Kd.C_drew ?_))); (case side2 => exact (Kd.N_reads' HO819.out).2.1); (case side3 => repeat (first | exact (Kd.N_reads' HO823.out).2.2 | (with_reducible refine Kd.C_alloc ?_ _) | (with_reducible refine Kd.C_drewN ?_ _) | (with_reducible refine Kd.C_drew ?_))); (case side4 => exact (Kd.N_reads' HO823.out).2.1); rintro e w19 ⟨rfl, hb⟩; replace HO816 := tNb HO816 hb; replace HO819 := tNb HO819 hb; replace HO823 := tNb HO823 hb; replace HB := tBs HB hb; (try clear hb); (try clear hb2); (try clear hk); (try clear hi)))
     go_meet
     case rel => exact ⟨_, (true), tr, H', ⟨by first | omega | exact Nat.le_refl _⟩, ⟨tNm HO819.out⟩, ⟨tN HO823.out⟩, ⟨zb⟩⟩
  case rest =>
   clear HC6
   try clear c2; try clear c2b0; try clear c2b1
   obtain ⟨kq, x40_5, rfl, HA, HJ5, HO_4, HO_6, HB⟩ := hcut
   cases kq with
   | zero => exact absurd HA.out (by simp [laws_FnEvenTwice.j0])
   | succ kj5 =>
    have H := HA.out
    clear HA
    simp only [laws_FnEvenTwice.j0] at H
    by_cases c20 : x40_5 = true
    ·subst c20
     rw [if_pos rfl] at H
     by_cases c21 : (t820 == t824) = true
     ·rw [if_pos c21] at H
      have c21b0 : (t820 == t824) = true := c21
      (try (have c21b1 : decide (t820 = t824) = true := by simpa using c21))
      (try (have c21b2 : (t820 == t824) = true := by simpa using c21))
      clear c21
      replace H := tbe H
      obtain ⟨t826, A22, H⟩ := H
      obtain rfl := Option.some.inj H
      obtain ⟨Ao23, co23, eo23⟩ := Kd.N_slice HO_4.out
      subst eo23
      obtain ⟨Ao24, co24, eo24⟩ := Kd.N_slice HO_6.out
      subst eo24
      go_wp2_with (first | (go_at_call 14; (with_reducible refine (laws_sameLog.calls kj5 _ _ t817 _ _ t821 t826 _ ?side1 ?side2 ?side3 ?side4 A22.out).mono ?_); (case side1 => repeat (first | exact (Kd.N_reads' HO_4.out).2.2 | (with_reducible refine Kd.C_alloc ?_ _) | (with_reducible refine Kd.C_drewN ?_ _) | (with_reducible refine Kd.C_drew ?_))); (case side2 => exact (Kd.N_reads' HO_4.out).2.1); (case side3 => repeat (first | exact (Kd.N_reads' HO_6.out).2.2 | (with_reducible refine Kd.C_alloc ?_ _) | (with_reducible refine Kd.C_drewN ?_ _) | (with_reducible refine Kd.C_drew ?_))); (case side4 => exact (Kd.N_reads' HO_6.out).2.1); rintro e w25 ⟨rfl, hb⟩; replace HO_4 := tNb HO_4 hb; replace HO_6 := tNb HO_6 hb; replace HB := tBs HB hb; (try clear hb); (try clear hb2); (try clear hk); (try clear hi)))
      all_goals go_ret
      all_goals exact ⟨by first | rfl | (simp [errW_none, errW_some] <;> rfl) | (simp [*, errW_none, errW_some] <;> rfl), zb⟩
     ·rw [if_neg c21] at H
      have c21b0 : (t820 == t824) = false := by simpa using c21
      (try (have c21b1 : decide (t820 = t824) = false := by simpa using c21))
      (try (have c21b2 : (t820 == t824) = false := by simpa using c21))
      (try (have c21b3 : ¬ (t820 = t824) := by simpa using c21))
      clear c21
      obtain rfl := Option.some.inj H
      go_wp2
      all_goals go_ret
      all_goals exact ⟨by first | rfl | (simp [errW_none, errW_some] <;> rfl) | (simp [*, errW_none, errW_some] <;> rfl), zb⟩
    ·replace c20 := Bool.eq_false_iff.mpr c20
     subst c20
     rw [if_neg (show ¬ (false = true) by decide)] at H
     replace H := tbe H
     obtain ⟨⟨t827, t830⟩, A26, H⟩ := H
     dsimp only at H
     have H' := Aside0.mk H
     clear H
     obtain ⟨Ao27, co27, eo27⟩ := Kd.N_slice HO_4.out
     subst eo27
     go_wp2_with (first | ((with_reducible refine gate_callee (f := 25) rfl ?_); refine goesL_ (some 51) rfl rfl Tryd.func25 (by kernel_rfl) rfl #[.slice Ao27 t817.length co27] rfl tq ?_; (with_reducible refine (impl_LogEven.calls (hE := ?sideE) kj5 _ _ t817 t827 t830 _ ?side1 ?side2 A26.out).mono ?_); (case sideE => exact ErrOk.below (HE.out.sub (by decide)) zb); (case side1 => repeat (first | exact (Kd.N_reads' HO_4.out).2.2 | (with_reducible refine Kd.C_alloc ?_ _) | (with_reducible refine Kd.C_drewN ?_ _) | (with_reducible refine Kd.C_drew ?_))); (case side2 => exact (Kd.N_reads' HO_4.out).2.1); rintro e w28 ⟨v828, rfl, ho0, hb⟩; have u_v828 := tsv Tryd.prog v828 ho0; refine ⟨_, rfl, ?_⟩; have HO829 := Aside0.mk (Kd.N_lower (Kd.N_mono (ok' := fun k_ => some k_ ≠ (.slice Ao27 t817.length co27 : Value).ownBlock ∧ some k_ ≠ (v822 : Value).ownBlock) ho0 (fun k_ hk_ => ⟨(tfr HO_4 k_ hk_), (tfr HO_6 k_ hk_)⟩)) (below_size zb)); replace HO_4 := tNe HO_4 ho0 hb; replace HO_6 := tNe HO_6 ho0 hb; replace HB := tBs HB hb; (try clear hb); (try clear hb2); (try clear hk); (try clear hi); (try clear ho0)))
     go_loopg [10] kj5 (fun kq v10 w' => ∃ (x10_2 : Int), v10 = .int .i64 x10_2 ∧ Aside0 (laws_FnEvenTwice.l0 kq t817 t827 t830 x10_2 = some r) ∧ Aside0 (kq ≤ kj5) ∧ Aside0 (Kd.N k47 47 w' w.heap.size (fun k_ => some k_ ≠ (v828 : Value).ownBlock) (.slice Ao27 t817.length co27) t817) ∧ Aside0 (Kd.N k47 47 w' w.heap.size (fun k_ => some k_ ≠ ((.slice Ao27 t817.length co27) : Value).ownBlock) v828 t827) ∧ Aside0 (Below w.heap.size w w'))
     case atStart => exact ⟨(1), tr, H', ⟨Nat.le_refl _⟩, ⟨tNm HO_4.out⟩, ⟨tNm HO829.out⟩, ⟨zb⟩⟩
     case round =>
      clear H'
      try clear c2; try clear c2b0; try clear c2b1; try clear c20
      obtain ⟨x10_2, rfl, HA, HK2, HO_4, HO_8, HB⟩ := hrel
      cases gk with
      | zero => exact absurd HA.out (by simp [laws_FnEvenTwice.l0])
      | succ k2 =>
       have H := HA.out
       clear HA
       simp only [laws_FnEvenTwice.l0] at H
       by_cases c29 : x10_2 < (t817.length : Int)
       ·rw [if_pos c29] at H
        have c29b0 : decide (x10_2 < (t817.length : Int)) = true := decide_eq_true c29
        clear c29
        obtain ⟨ji30, hji30⟩ : ∃ j_ : Int, (wrap64 (x10_2 - 1)) = j_ := ⟨_, rfl⟩
        replace H : (if 0 ≤ (ji30) then (if (ji30) < (t817.length : Int) then (if 0 ≤ x10_2 then ((impl_BatchJoin.f k2 ((rd_T47 t817 (ji30)).f0) ((rd_T47 t817 (ji30)).f1) ((rd_T47 t817 (ji30)).f2) ((rd_T47 t817 (ji30)).f3) ((rd_T47 t817 (ji30)).f4) ((rd_T47 t817 (ji30)).f5) ((rd_T47 t817 x10_2).f0) ((rd_T47 t817 x10_2).f1) ((rd_T47 t817 x10_2).f2) ((rd_T47 t817 x10_2).f3) ((rd_T47 t817 x10_2).f4) ((rd_T47 t817 x10_2).f5)).bind fun bt833 => (if bt833.2.2.2.2.2.2 = true then (some false) else (laws_FnEvenTwice.l0 k2 t817 t827 t830 (wrap64 (x10_2 + 1))))) else (none)) else (none)) else (none)) = some r := by first | (rw [hji30] at H; exact H) | (simp only [hji30] at H ⊢; exact H)
        have hji30w : (IntKind.i64.wrap (x10_2 - 1)) = ji30 := (i64_w _).trans hji30
        by_cases c31 : 0 ≤ (ji30)
        ·rw [if_pos c31] at H
         have c31b0 : decide (0 ≤ (ji30)) = true := decide_eq_true c31
         clear c31
         by_cases c32 : (ji30) < (t817.length : Int)
         ·rw [if_pos c32] at H
          have c32b0 : decide ((ji30) < (t817.length : Int)) = true := decide_eq_true c32
          clear c32
          by_cases c33 : 0 ≤ x10_2
          ·rw [if_pos c33] at H
           have c33b0 : decide (0 ≤ x10_2) = true := decide_eq_true c33
           clear c33
           replace H := tbe H
           obtain ⟨⟨t833, t834, t835, t836, t837, t838, t841⟩, A34, H⟩ := H
           dsimp only at H
           by_cases c35 : t841 = true
           ·subst c35
            rw [if_pos rfl] at H
            obtain rfl := Option.some.inj H
            try go_wp2
            replace HO_4 := Aside0.mk (Kd.N_drew HO_4.out)
            replace HO_8 := Aside0.mk (Kd.N_drew HO_8.out)
            replace HB := Aside0.mk (below_drew1 HB.out)
            have p831 : 0 ≤ ((ji30) : Int) := td
            have q831 : (ji30) < (t817.length : Int) := td
            obtain ⟨ad831, A831_5, c831_5, e831, hx831_0, hx831_1, hx831_2, hx831_3, hx831_4, hx831_5, hl831_5, hi831_5⟩ := at_T47 (Kd.N_reads' HO_4.out).2.2 (ji30) p831 q831
            cases e831
            obtain ⟨ce831, hce831, hMe831, hcc831⟩ := Kd.N_get HO_4.out z47 (ji30) p831 (by first | exact q831 | exact td | (have e_ := (Kd.N_reads' HO_4.out).1; omega))
            obtain ⟨ua831_5, uc831_5, rfl, ul831_5, ge831_5⟩ := k47_openF hMe831
            have hv831_5 := hcc831 5 _ rfl
            rw [add_field _ _ 5 (by omega)] at hv831_5
            replace hv831_5 := Option.some.inj (hv831_5.symm.trans hx831_5)
            injection hv831_5 with hva_ hvn_ hvc_
            rw [hva_] at ge831_5
            rw [hvc_] at ul831_5
            have HL831_5 := Aside0.mk (show Kd.V k33 33 _ w.heap.size _ _ ((rd_T47 t817 (ji30)).f5) from Kd.V_mk ul831_5 ge831_5)
            clear hva_ hvn_ hvc_ ge831_5 ul831_5
            clear hcc831 hce831
            have HR831_5 := Aside0.mk hi831_5
            have HC831_5 := Aside0.mk hl831_5
            clear hi831_5 hl831_5
            replace p831 := eq_true p831
            replace q831 := eq_true q831
            have p832 : 0 ≤ (x10_2 : Int) := td
            have q832 : x10_2 < (t817.length : Int) := td
            obtain ⟨ad832, A832_5, c832_5, e832, hx832_0, hx832_1, hx832_2, hx832_3, hx832_4, hx832_5, hl832_5, hi832_5⟩ := at_T47 (Kd.N_reads' HO_4.out).2.2 x10_2 p832 q832
            obtain rfl : ad831 = ad832 := (by injection e832)
            obtain ⟨ce832, hce832, hMe832, hcc832⟩ := Kd.N_get HO_4.out z47 x10_2 p832 (by first | exact q832 | exact td | (have e_ := (Kd.N_reads' HO_4.out).1; omega))
            obtain ⟨ua832_5, uc832_5, rfl, ul832_5, ge832_5⟩ := k47_openF hMe832
            have hv832_5 := hcc832 5 _ rfl
            rw [add_field _ _ 5 (by omega)] at hv832_5
            replace hv832_5 := Option.some.inj (hv832_5.symm.trans hx832_5)
            injection hv832_5 with hva_ hvn_ hvc_
            rw [hva_] at ge832_5
            rw [hvc_] at ul832_5
            have HL832_5 := Aside0.mk (show Kd.V k33 33 _ w.heap.size _ _ ((rd_T47 t817 x10_2).f5) from Kd.V_mk ul832_5 ge832_5)
            clear hva_ hvn_ hvc_ ge832_5 ul832_5
            clear hcc832 hce832
            have HR832_5 := Aside0.mk hi832_5
            have HC832_5 := Aside0.mk hl832_5
            clear hi832_5 hl832_5
            replace p832 := eq_true p832
            replace q832 := eq_true q832
            refine start_ (n := 16) (S := fun w' => w'.cell? (ad831.add (((ji30)).toNat * 6)) = some (.bool ((rd_T47 t817 (ji30)).f0)) ∧ w'.cell? ⟨(ad831.add (((ji30)).toNat * 6)).block, (ad831.add (((ji30)).toNat * 6)).off + 1, none⟩ = some (.bool ((rd_T47 t817 (ji30)).f1)) ∧ w'.cell? ⟨(ad831.add (((ji30)).toNat * 6)).block, (ad831.add (((ji30)).toNat * 6)).off + 2, none⟩ = some (.int .i64 ((rd_T47 t817 (ji30)).f2)) ∧ w'.cell? ⟨(ad831.add (((ji30)).toNat * 6)).block, (ad831.add (((ji30)).toNat * 6)).off + 3, none⟩ = some (.int .i64 ((rd_T47 t817 (ji30)).f3)) ∧ w'.cell? ⟨(ad831.add (((ji30)).toNat * 6)).block, (ad831.add (((ji30)).toNat * 6)).off + 4, none⟩ = some (.int .i64 ((rd_T47 t817 (ji30)).f4)) ∧ w'.cell? ⟨(ad831.add (((ji30)).toNat * 6)).block, (ad831.add (((ji30)).toNat * 6)).off + 5, none⟩ = some (.slice A831_5 ((rd_T47 t817 (ji30)).f5).length c831_5) ∧ w'.cell? (ad831.add ((x10_2).toNat * 6)) = some (.bool ((rd_T47 t817 x10_2).f0)) ∧ w'.cell? ⟨(ad831.add ((x10_2).toNat * 6)).block, (ad831.add ((x10_2).toNat * 6)).off + 1, none⟩ = some (.bool ((rd_T47 t817 x10_2).f1)) ∧ w'.cell? ⟨(ad831.add ((x10_2).toNat * 6)).block, (ad831.add ((x10_2).toNat * 6)).off + 2, none⟩ = some (.int .i64 ((rd_T47 t817 x10_2).f2)) ∧ w'.cell? ⟨(ad831.add ((x10_2).toNat * 6)).block, (ad831.add ((x10_2).toNat * 6)).off + 3, none⟩ = some (.int .i64 ((rd_T47 t817 x10_2).f3)) ∧ w'.cell? ⟨(ad831.add ((x10_2).toNat * 6)).block, (ad831.add ((x10_2).toNat * 6)).off + 4, none⟩ = some (.int .i64 ((rd_T47 t817 x10_2).f4)) ∧ w'.cell? ⟨(ad831.add ((x10_2).toNat * 6)).block, (ad831.add ((x10_2).toNat * 6)).off + 5, none⟩ = some (.slice A832_5 ((rd_T47 t817 x10_2).f5).length c832_5)) (ds := []) #[false, false, false, false, false, false, false, false, false, false, false, false, false, false, false, false] (by kernel_rfl) rfl rfl ⟨hx831_0, hx831_1, hx831_2, hx831_3, hx831_4, hx831_5, hx832_0, hx832_1, hx832_2, hx832_3, hx832_4, hx832_5⟩ (fun hHeld => ?_); refine with_tabW laws_FnEvenTwice.tab12 laws_FnEvenTwice.bits12 (fun HT_ HW_ => ?_)
            generalize wr.drew = w36 at HO_4 HO_8 HB HL831_5 HL832_5 HR831_5 HR832_5 hx831_0 hx831_1 hx831_2 hx831_3 hx831_4 hx831_5 hx832_0 hx832_1 hx832_2 hx832_3 hx832_4 hx832_5 hHeld ⊢
            refine tpu 0 (some 61) #[true, false, false, false, false, false, false, false, false, false, false, false, false, false, false, false] ?_
            refine tpu 1 (some 62) #[true, true, false, false, false, false, false, false, false, false, false, false, false, false, false, false] ?_
            refine tpu 2 (some 63) #[true, true, true, false, false, false, false, false, false, false, false, false, false, false, false, false] ?_
            refine tpu 3 (some 64) #[true, true, true, true, false, false, false, false, false, false, false, false, false, false, false, false] ?_
            refine tpu 5 (some 66) #[true, true, true, true, false, true, false, false, false, false, false, false, false, false, false, false] ?_
            refine tpu 6 (some 67) #[true, true, true, true, false, true, true, false, false, false, false, false, false, false, false, false] ?_
            refine tpu 7 (some 68) #[true, true, true, true, false, true, true, true, false, false, false, false, false, false, false, false] ?_
            refine tta 4 (some 65) #[true, true, true, true, true, true, true, true, false, false, false, false, false, false, false, false] hHeld ?_ (hy := by rintro w' ⟨s0, s1, s2, s3, s4, s5, s6, s7, s8, s9, s10, s11⟩; go_simp; with_reducible rfl)
            refine tta 8 (some 69) #[true, true, true, true, true, true, true, true, true, false, false, false, false, false, false, false] hHeld ?_ (hy := by rintro w' ⟨s0, s1, s2, s3, s4, s5, s6, s7, s8, s9, s10, s11⟩; go_simp; with_reducible rfl)
            refine join_ (σ := Value × Nat) 2 #[true, true, true, true, true, true, true, true, true, true, true, true, true, true, false, false] (fun s_ => [(70, .tuple #[.agg #[.bool t833, .bool t834, .int .i64 t835, .int .i64 t836, .int .i64 t837, s_.1], .bool true]), (11, .pointer (some ⟨s_.2, 0, none⟩)), (60, .tuple #[.agg #[.bool t833, .bool t834, .int .i64 t835, .int .i64 t836, .int .i64 t837, s_.1], .bool true]), (71, .agg #[.bool t833, .bool t834, .int .i64 t835, .int .i64 t836, .int .i64 t837, s_.1]), (72, .bool true)]) (fun s_ w' => (w'.cell? (ad831.add (((ji30)).toNat * 6)) = some (.bool ((rd_T47 t817 (ji30)).f0)) ∧ w'.cell? ⟨(ad831.add (((ji30)).toNat * 6)).block, (ad831.add (((ji30)).toNat * 6)).off + 1, none⟩ = some (.bool ((rd_T47 t817 (ji30)).f1)) ∧ w'.cell? ⟨(ad831.add (((ji30)).toNat * 6)).block, (ad831.add (((ji30)).toNat * 6)).off + 2, none⟩ = some (.int .i64 ((rd_T47 t817 (ji30)).f2)) ∧ w'.cell? ⟨(ad831.add (((ji30)).toNat * 6)).block, (ad831.add (((ji30)).toNat * 6)).off + 3, none⟩ = some (.int .i64 ((rd_T47 t817 (ji30)).f3)) ∧ w'.cell? ⟨(ad831.add (((ji30)).toNat * 6)).block, (ad831.add (((ji30)).toNat * 6)).off + 4, none⟩ = some (.int .i64 ((rd_T47 t817 (ji30)).f4)) ∧ w'.cell? ⟨(ad831.add (((ji30)).toNat * 6)).block, (ad831.add (((ji30)).toNat * 6)).off + 5, none⟩ = some (.slice A831_5 ((rd_T47 t817 (ji30)).f5).length c831_5) ∧ w'.cell? (ad831.add ((x10_2).toNat * 6)) = some (.bool ((rd_T47 t817 x10_2).f0)) ∧ w'.cell? ⟨(ad831.add ((x10_2).toNat * 6)).block, (ad831.add ((x10_2).toNat * 6)).off + 1, none⟩ = some (.bool ((rd_T47 t817 x10_2).f1)) ∧ w'.cell? ⟨(ad831.add ((x10_2).toNat * 6)).block, (ad831.add ((x10_2).toNat * 6)).off + 2, none⟩ = some (.int .i64 ((rd_T47 t817 x10_2).f2)) ∧ w'.cell? ⟨(ad831.add ((x10_2).toNat * 6)).block, (ad831.add ((x10_2).toNat * 6)).off + 3, none⟩ = some (.int .i64 ((rd_T47 t817 x10_2).f3)) ∧ w'.cell? ⟨(ad831.add ((x10_2).toNat * 6)).block, (ad831.add ((x10_2).toNat * 6)).off + 4, none⟩ = some (.int .i64 ((rd_T47 t817 x10_2).f4)) ∧ w'.cell? ⟨(ad831.add ((x10_2).toNat * 6)).block, (ad831.add ((x10_2).toNat * 6)).off + 5, none⟩ = some (.slice A832_5 ((rd_T47 t817 x10_2).f5).length c832_5)) ∧ (Kd.V k33 33 w' w.heap.size (fun k_ => some k_ ≠ (s_.1 : Value).ownBlock ∧ some k_ ≠ (.slice (some ad831) t817.length co27 : Value).ownBlock ∧ some k_ ≠ (v828 : Value).ownBlock ∧ k_ ≠ s_.2) (.slice A831_5 ((rd_T47 t817 (ji30)).f5).length c831_5) ((rd_T47 t817 (ji30)).f5)) ∧ (Kd.V k33 33 w' w.heap.size (fun k_ => some k_ ≠ (s_.1 : Value).ownBlock ∧ some k_ ≠ (.slice (some ad831) t817.length co27 : Value).ownBlock ∧ some k_ ≠ (v828 : Value).ownBlock ∧ k_ ≠ s_.2) (.slice A832_5 ((rd_T47 t817 x10_2).f5).length c832_5) ((rd_T47 t817 x10_2).f5)) ∧ (Kd.N k33 33 w' w.heap.size (fun k_ => some k_ ≠ (.slice (some ad831) t817.length co27 : Value).ownBlock ∧ some k_ ≠ (v828 : Value).ownBlock ∧ k_ ≠ s_.2) s_.1 t838) ∧ (Kd.N k47 47 w' w.heap.size (fun k_ => some k_ ≠ (s_.1 : Value).ownBlock ∧ some k_ ≠ (v828 : Value).ownBlock ∧ k_ ≠ s_.2) (.slice (some ad831) t817.length co27) t817) ∧ (Kd.N k47 47 w' w.heap.size (fun k_ => some k_ ≠ (s_.1 : Value).ownBlock ∧ some k_ ≠ (.slice (some ad831) t817.length co27 : Value).ownBlock ∧ k_ ≠ s_.2) v828 t827) ∧ (w'.heap[s_.2]? = some (.cells #[.bool false, .bool false, .int .i64 0, .int .i64 0, .int .i64 0, .slice none 0 0] 47 (0, 0))) ∧ (w.heap.size ≤ s_.2) ∧ (w.heap.size ≤ s_.2) ∧ (Below w.heap.size w w')) ?_ ?_
            rotate_left
            ·intro hCont
             refine two_ (i := 9) (j := 13) (Ni := some 70) (Nj := some 11) #[true, true, true, true, true, true, true, true, true, true, false, false, false, false, false, false] #[true, true, true, true, true, true, true, true, true, false, false, false, false, true, false, false] rfl rfl rfl rfl (two_of HT_.out (by kernel_rfl)) (by decide) (by decide) (fun K hK => ?_) (fun K hK => ?_)
             ·skip
              refine goes_ Tryd.func28 (by kernel_rfl) rfl #[.agg #[.bool ((rd_T47 t817 (ji30)).f0), .bool ((rd_T47 t817 (ji30)).f1), .int .i64 ((rd_T47 t817 (ji30)).f2), .int .i64 ((rd_T47 t817 (ji30)).f3), .int .i64 ((rd_T47 t817 (ji30)).f4), .slice A831_5 ((rd_T47 t817 (ji30)).f5).length c831_5], .agg #[.bool ((rd_T47 t817 x10_2).f0), .bool ((rd_T47 t817 x10_2).f1), .int .i64 ((rd_T47 t817 x10_2).f2), .int .i64 ((rd_T47 t817 x10_2).f3), .int .i64 ((rd_T47 t817 x10_2).f4), .slice A832_5 ((rd_T47 t817 x10_2).f5).length c832_5]] (by rfl) rfl rfl (by (try simp only [List.map_toArray, List.map_cons, List.map_nil]); first | done | (simp only [hji30]; rfl) | rfl | (simp only [List.length_drop, List.length_take]; rfl)) ?_
              with_reducible refine (impl_BatchJoin.calls (hE := ?sideE) k2 ((rd_T47 t817 (ji30)).f0) ((rd_T47 t817 (ji30)).f1) ((rd_T47 t817 (ji30)).f2) ((rd_T47 t817 (ji30)).f3) ((rd_T47 t817 (ji30)).f4) _ _ ((rd_T47 t817 (ji30)).f5) ((rd_T47 t817 x10_2).f0) ((rd_T47 t817 x10_2).f1) ((rd_T47 t817 x10_2).f2) ((rd_T47 t817 x10_2).f3) ((rd_T47 t817 x10_2).f4) _ _ ((rd_T47 t817 x10_2).f5) t833 t834 t835 t836 t837 t838 true _ ?side1 ?side2 ?side3 ?side4 A34.out).mono ?_
              case sideE => exact ErrOk.below (HE.out.sub (by decide)) zb
              (case side1 => exact tC (tC HR831_5.out))
              (case side2 => exact HC831_5.out)
              (case side3 => exact tC (tC HR832_5.out))
              (case side4 => exact HC832_5.out)
              rintro e w37 ⟨v839, rfl, ho0, hb⟩
              have HS0_ := tcb hb hHeld.1
              have HS1_ := tcb hb hHeld.2.1
              have HS2_ := tcb hb hHeld.2.2.1
              have HS3_ := tcb hb hHeld.2.2.2.1
              have HS4_ := tcb hb hHeld.2.2.2.2.1
              have HS5_ := tcb hb hHeld.2.2.2.2.2.1
              have HS6_ := tcb hb hHeld.2.2.2.2.2.2.1
              have HS7_ := tcb hb hHeld.2.2.2.2.2.2.2.1
              have HS8_ := tcb hb hHeld.2.2.2.2.2.2.2.2.1
              have HS9_ := tcb hb hHeld.2.2.2.2.2.2.2.2.2.1
              have HS10_ := tcb hb hHeld.2.2.2.2.2.2.2.2.2.2.1
              have HS11_ := tcb hb hHeld.2.2.2.2.2.2.2.2.2.2.2
              refine ⟨_, rfl, ?_⟩
              replace HL831_5 := tVe HL831_5 ho0 hb
              replace HL832_5 := tVe HL832_5 ho0 hb
              have HO840 := Aside0.mk (Kd.N_lower (Kd.N_mono (ok' := fun k_ => some k_ ≠ (.slice (some ad831) t817.length co27 : Value).ownBlock ∧ some k_ ≠ (v828 : Value).ownBlock) ho0 (fun k_ hk_ => ⟨(tfr HO_4 k_ hk_), (tfr HO_8 k_ hk_)⟩)) (below_size zb))
              replace HO_4 := tNe HO_4 ho0 hb
              replace HO_8 := tNe HO_8 ho0 hb
              replace HR831_5 := tCb HR831_5 hb
              replace HR832_5 := tCb HR832_5 hb
              replace HB := tBs HB hb
              (try clear hb)
              (try clear hb2)
              (try clear hk)
              (try clear hi)
              (try clear ho0)
              refine hK.out _ _ ⟨HS0_, HS1_, HS2_, HS3_, HS4_, HS5_, HS6_, HS7_, HS8_, HS9_, HS10_, HS11_⟩ (fun hHeld => ?_)
              clear hK K
              refine tnm (some 70) ?_
              refine tpu 10 (some 60) #[true, true, true, true, true, true, true, true, true, true, true, false, false, false, false, false] ?_
              refine tpu 11 (some 71) #[true, true, true, true, true, true, true, true, true, true, true, true, false, false, false, false] ?_
              refine tpu 12 (some 72) #[true, true, true, true, true, true, true, true, true, true, true, true, true, false, false, false] ?_
              refine one_ (i := 13) (N := some 11) #[true, true, true, true, true, true, true, true, true, true, true, true, true, true, false, false] rfl rfl (one_of HT_.out (by kernel_rfl)) (by decide) (fun K hK => ?_)
              refine box_step ?hg (N := 11) ?hd (cs := #[.bool false, .bool false, .int .i64 0, .int .i64 0, .int .i64 0, .slice none 0 0]) (t := 47) ?hr ?_; (case hd => rfl); (case hg => rfl); (case hr => first | (go_simp; done) | (go_simp; rfl))
              intro gb842 hg w38 hbox hb
              have HS0_ := tcb hb hHeld.1
              have HS1_ := tcb hb hHeld.2.1
              have HS2_ := tcb hb hHeld.2.2.1
              have HS3_ := tcb hb hHeld.2.2.2.1
              have HS4_ := tcb hb hHeld.2.2.2.2.1
              have HS5_ := tcb hb hHeld.2.2.2.2.2.1
              have HS6_ := tcb hb hHeld.2.2.2.2.2.2.1
              have HS7_ := tcb hb hHeld.2.2.2.2.2.2.2.1
              have HS8_ := tcb hb hHeld.2.2.2.2.2.2.2.2.1
              have HS9_ := tcb hb hHeld.2.2.2.2.2.2.2.2.2.1
              have HS10_ := tcb hb hHeld.2.2.2.2.2.2.2.2.2.2.1
              have HS11_ := tcb hb hHeld.2.2.2.2.2.2.2.2.2.2.2
              replace HO_4 := tNB HO_4 hg hb
              replace HO_8 := tNB HO_8 hg hb
              replace HL831_5 := tVB HL831_5 hg hb
              replace HL832_5 := tVB HL832_5 hg hb
              replace HO840 := tNB HO840 hg hb
              replace HR831_5 := tCb HR831_5 hb
              replace HR832_5 := tCb HR832_5 hb
              have BK842 := Aside0.mk (hbox)
              have GW842 := tge HB hg
              have GE842 := tge HB hg
              replace HB := tBs HB hb
              clear hb hbox hg
              refine hK.out _ _ ⟨HS0_, HS1_, HS2_, HS3_, HS4_, HS5_, HS6_, HS7_, HS8_, HS9_, HS10_, HS11_⟩ (fun hHeld => ?_)
              clear hK K
              refine tnm (some 11) ?_
              exact tnx (hCont (v839, gb842) _ ⟨hHeld, (tVm HL831_5.out), (tVm HL832_5.out), (tNm HO840.out), (tNm HO_4.out), (tNm HO_8.out), (tH BK842.out), GW842.out, GE842.out, zb⟩)
             ·skip
              refine box_step ?hg (N := 11) ?hd (cs := #[.bool false, .bool false, .int .i64 0, .int .i64 0, .int .i64 0, .slice none 0 0]) (t := 47) ?hr ?_; (case hd => rfl); (case hg => rfl); (case hr => first | (go_simp; done) | (go_simp; rfl))
              intro gb842 hg w37 hbox hb
              have HS0_ := tcb hb hHeld.1
              have HS1_ := tcb hb hHeld.2.1
              have HS2_ := tcb hb hHeld.2.2.1
              have HS3_ := tcb hb hHeld.2.2.2.1
              have HS4_ := tcb hb hHeld.2.2.2.2.1
              have HS5_ := tcb hb hHeld.2.2.2.2.2.1
              have HS6_ := tcb hb hHeld.2.2.2.2.2.2.1
              have HS7_ := tcb hb hHeld.2.2.2.2.2.2.2.1
              have HS8_ := tcb hb hHeld.2.2.2.2.2.2.2.2.1
              have HS9_ := tcb hb hHeld.2.2.2.2.2.2.2.2.2.1
              have HS10_ := tcb hb hHeld.2.2.2.2.2.2.2.2.2.2.1
              have HS11_ := tcb hb hHeld.2.2.2.2.2.2.2.2.2.2.2
              replace HO_4 := tNB HO_4 hg hb
              replace HO_8 := tNB HO_8 hg hb
              replace HL831_5 := tVB HL831_5 hg hb
              replace HL832_5 := tVB HL832_5 hg hb
              replace HR831_5 := tCb HR831_5 hb
              replace HR832_5 := tCb HR832_5 hb
              have BK842 := Aside0.mk (hbox)
              have GW842 := tge HB hg
              have GE842 := tge HB hg
              replace HB := tBs HB hb
              clear hb hbox hg
              refine hK.out _ _ ⟨HS0_, HS1_, HS2_, HS3_, HS4_, HS5_, HS6_, HS7_, HS8_, HS9_, HS10_, HS11_⟩ (fun hHeld => ?_)
              clear hK K
              refine tnm (some 11) ?_
              refine one_ (i := 9) (N := some 70) #[true, true, true, true, true, true, true, true, true, true, false, false, false, true, false, false] rfl rfl (one_of HT_.out (by kernel_rfl)) (by decide) (fun K hK => ?_)
              refine goes_ Tryd.func28 (by kernel_rfl) rfl #[.agg #[.bool ((rd_T47 t817 (ji30)).f0), .bool ((rd_T47 t817 (ji30)).f1), .int .i64 ((rd_T47 t817 (ji30)).f2), .int .i64 ((rd_T47 t817 (ji30)).f3), .int .i64 ((rd_T47 t817 (ji30)).f4), .slice A831_5 ((rd_T47 t817 (ji30)).f5).length c831_5], .agg #[.bool ((rd_T47 t817 x10_2).f0), .bool ((rd_T47 t817 x10_2).f1), .int .i64 ((rd_T47 t817 x10_2).f2), .int .i64 ((rd_T47 t817 x10_2).f3), .int .i64 ((rd_T47 t817 x10_2).f4), .slice A832_5 ((rd_T47 t817 x10_2).f5).length c832_5]] (by rfl) rfl rfl (by (try simp only [List.map_toArray, List.map_cons, List.map_nil]); first | done | (simp only [hji30]; rfl) | rfl | (simp only [List.length_drop, List.length_take]; rfl)) ?_
              with_reducible refine (impl_BatchJoin.calls (hE := ?sideE) k2 ((rd_T47 t817 (ji30)).f0) ((rd_T47 t817 (ji30)).f1) ((rd_T47 t817 (ji30)).f2) ((rd_T47 t817 (ji30)).f3) ((rd_T47 t817 (ji30)).f4) _ _ ((rd_T47 t817 (ji30)).f5) ((rd_T47 t817 x10_2).f0) ((rd_T47 t817 x10_2).f1) ((rd_T47 t817 x10_2).f2) ((rd_T47 t817 x10_2).f3) ((rd_T47 t817 x10_2).f4) _ _ ((rd_T47 t817 x10_2).f5) t833 t834 t835 t836 t837 t838 true _ ?side1 ?side2 ?side3 ?side4 A34.out).mono ?_
              case sideE => exact ErrOk.below (HE.out.sub (by decide)) zb
              (case side1 => exact tC (tC HR831_5.out))
              (case side2 => exact HC831_5.out)
              (case side3 => exact tC (tC HR832_5.out))
              (case side4 => exact HC832_5.out)
              rintro e w38 ⟨v839, rfl, ho0, hb⟩
              have HS0_ := tcb hb hHeld.1
              have HS1_ := tcb hb hHeld.2.1
              have HS2_ := tcb hb hHeld.2.2.1
              have HS3_ := tcb hb hHeld.2.2.2.1
              have HS4_ := tcb hb hHeld.2.2.2.2.1
              have HS5_ := tcb hb hHeld.2.2.2.2.2.1
              have HS6_ := tcb hb hHeld.2.2.2.2.2.2.1
              have HS7_ := tcb hb hHeld.2.2.2.2.2.2.2.1
              have HS8_ := tcb hb hHeld.2.2.2.2.2.2.2.2.1
              have HS9_ := tcb hb hHeld.2.2.2.2.2.2.2.2.2.1
              have HS10_ := tcb hb hHeld.2.2.2.2.2.2.2.2.2.2.1
              have HS11_ := tcb hb hHeld.2.2.2.2.2.2.2.2.2.2.2
              refine ⟨_, rfl, ?_⟩
              replace HL831_5 := tVe HL831_5 ho0 hb
              replace HL832_5 := tVe HL832_5 ho0 hb
              have HO840 := Aside0.mk (Kd.N_lower (Kd.N_mono (ok' := fun k_ => some k_ ≠ (.slice (some ad831) t817.length co27 : Value).ownBlock ∧ some k_ ≠ (v828 : Value).ownBlock ∧ k_ ≠ gb842) ho0 (fun k_ hk_ => ⟨(tfr HO_4 k_ hk_), (tfr HO_8 k_ hk_), (tfB BK842 k_ hk_)⟩)) (below_size zb))
              replace HO_4 := tNe HO_4 ho0 hb
              replace HO_8 := tNe HO_8 ho0 hb
              replace HR831_5 := tCb HR831_5 hb
              replace HR832_5 := tCb HR832_5 hb
              replace BK842 := tBb BK842 hb
              replace HB := tBs HB hb
              (try clear hb)
              (try clear hb2)
              (try clear hk)
              (try clear hi)
              (try clear ho0)
              refine hK.out _ _ ⟨HS0_, HS1_, HS2_, HS3_, HS4_, HS5_, HS6_, HS7_, HS8_, HS9_, HS10_, HS11_⟩ (fun hHeld => ?_)
              clear hK K
              refine tnm (some 70) ?_
              refine tpu 10 (some 60) #[true, true, true, true, true, true, true, true, true, true, true, false, false, true, false, false] ?_
              refine tpu 11 (some 71) #[true, true, true, true, true, true, true, true, true, true, true, true, false, true, false, false] ?_
              refine tpu 12 (some 72) #[true, true, true, true, true, true, true, true, true, true, true, true, true, true, false, false] ?_
              exact tnx (hCont (v839, gb842) _ ⟨hHeld, (tVm HL831_5.out), (tVm HL832_5.out), (tN HO840.out), (tNm HO_4.out), (tNm HO_8.out), (tH BK842.out), GW842.out, GE842.out, zb⟩)
            rintro ⟨v839, gb842⟩ w39 ⟨hS_, h0_, h1_, h2_, h3_, h4_, h5_, h6_, h7_, h8_⟩
            have n0_ : Aside0 (Kd.V k33 33 w39 w.heap.size (fun k_ => some k_ ≠ (v839 : Value).ownBlock ∧ some k_ ≠ (.slice (some ad831) t817.length co27 : Value).ownBlock ∧ some k_ ≠ (v828 : Value).ownBlock ∧ k_ ≠ gb842) (.slice A831_5 ((rd_T47 t817 (ji30)).f5).length c831_5) ((rd_T47 t817 (ji30)).f5)) := ⟨h0_⟩
            have n1_ : Aside0 (Kd.V k33 33 w39 w.heap.size (fun k_ => some k_ ≠ (v839 : Value).ownBlock ∧ some k_ ≠ (.slice (some ad831) t817.length co27 : Value).ownBlock ∧ some k_ ≠ (v828 : Value).ownBlock ∧ k_ ≠ gb842) (.slice A832_5 ((rd_T47 t817 x10_2).f5).length c832_5) ((rd_T47 t817 x10_2).f5)) := ⟨h1_⟩
            have n2_ : Aside0 (Kd.N k33 33 w39 w.heap.size (fun k_ => some k_ ≠ (.slice (some ad831) t817.length co27 : Value).ownBlock ∧ some k_ ≠ (v828 : Value).ownBlock ∧ k_ ≠ gb842) v839 t838) := ⟨h2_⟩
            have n3_ : Aside0 (Kd.N k47 47 w39 w.heap.size (fun k_ => some k_ ≠ (v839 : Value).ownBlock ∧ some k_ ≠ (v828 : Value).ownBlock ∧ k_ ≠ gb842) (.slice (some ad831) t817.length co27) t817) := ⟨h3_⟩
            have n4_ : Aside0 (Kd.N k47 47 w39 w.heap.size (fun k_ => some k_ ≠ (v839 : Value).ownBlock ∧ some k_ ≠ (.slice (some ad831) t817.length co27 : Value).ownBlock ∧ k_ ≠ gb842) v828 t827) := ⟨h4_⟩
            have n5_ : Aside0 (w39.heap[gb842]? = some (.cells #[.bool false, .bool false, .int .i64 0, .int .i64 0, .int .i64 0, .slice none 0 0] 47 (0, 0))) := ⟨h5_⟩
            have n6_ : Aside0 (w.heap.size ≤ gb842) := ⟨h6_⟩
            have n7_ : Aside0 (w.heap.size ≤ gb842) := ⟨h7_⟩
            have n8_ : Aside0 (Below w.heap.size w w39) := ⟨h8_⟩
            clear HO_4
            clear HO_8
            clear HB
            clear h0_ h1_ h2_ h3_ h4_ h5_ h6_ h7_ h8_
            have HL831_5 := n0_
            have HL832_5 := n1_
            have HO840 := n2_
            have HO_4 := n3_
            have HO_8 := n4_
            have BK842 := n5_
            have GW842 := n6_
            have GE842 := n7_
            have HB := n8_
            clear n0_ n1_ n2_ n3_ n4_ n5_ n6_ n7_ n8_
            have hHeld : w39.cell? (ad831.add (((ji30)).toNat * 6)) = some (.bool ((rd_T47 t817 (ji30)).f0)) ∧ w39.cell? ⟨(ad831.add (((ji30)).toNat * 6)).block, (ad831.add (((ji30)).toNat * 6)).off + 1, none⟩ = some (.bool ((rd_T47 t817 (ji30)).f1)) ∧ w39.cell? ⟨(ad831.add (((ji30)).toNat * 6)).block, (ad831.add (((ji30)).toNat * 6)).off + 2, none⟩ = some (.int .i64 ((rd_T47 t817 (ji30)).f2)) ∧ w39.cell? ⟨(ad831.add (((ji30)).toNat * 6)).block, (ad831.add (((ji30)).toNat * 6)).off + 3, none⟩ = some (.int .i64 ((rd_T47 t817 (ji30)).f3)) ∧ w39.cell? ⟨(ad831.add (((ji30)).toNat * 6)).block, (ad831.add (((ji30)).toNat * 6)).off + 4, none⟩ = some (.int .i64 ((rd_T47 t817 (ji30)).f4)) ∧ w39.cell? ⟨(ad831.add (((ji30)).toNat * 6)).block, (ad831.add (((ji30)).toNat * 6)).off + 5, none⟩ = some (.slice A831_5 ((rd_T47 t817 (ji30)).f5).length c831_5) ∧ w39.cell? (ad831.add ((x10_2).toNat * 6)) = some (.bool ((rd_T47 t817 x10_2).f0)) ∧ w39.cell? ⟨(ad831.add ((x10_2).toNat * 6)).block, (ad831.add ((x10_2).toNat * 6)).off + 1, none⟩ = some (.bool ((rd_T47 t817 x10_2).f1)) ∧ w39.cell? ⟨(ad831.add ((x10_2).toNat * 6)).block, (ad831.add ((x10_2).toNat * 6)).off + 2, none⟩ = some (.int .i64 ((rd_T47 t817 x10_2).f2)) ∧ w39.cell? ⟨(ad831.add ((x10_2).toNat * 6)).block, (ad831.add ((x10_2).toNat * 6)).off + 3, none⟩ = some (.int .i64 ((rd_T47 t817 x10_2).f3)) ∧ w39.cell? ⟨(ad831.add ((x10_2).toNat * 6)).block, (ad831.add ((x10_2).toNat * 6)).off + 4, none⟩ = some (.int .i64 ((rd_T47 t817 x10_2).f4)) ∧ w39.cell? ⟨(ad831.add ((x10_2).toNat * 6)).block, (ad831.add ((x10_2).toNat * 6)).off + 5, none⟩ = some (.slice A832_5 ((rd_T47 t817 x10_2).f5).length c832_5) := hS_
            obtain ⟨Ao45, co45, eo45⟩ := Kd.N_slice HO840.out
            (first | subst eo45 | (injection eo45 with f1_ f2_ f3_; have f4_ := f1_.symm; have f5_ := f3_.symm; clear f1_ f2_ f3_; subst f4_; subst f5_))
            refine tnp ?_
            refine one_ (i := 14) (N := none) #[true, true, true, true, true, true, true, true, true, true, true, true, true, true, true, false] rfl rfl (one_of HT_.out (by kernel_rfl)) (by decide) (fun K hK => ?_)
            have hs40 : w39.cell? ⟨gb842, 0, none⟩ = some (.bool false) := (blk_cell BK842.out 0).trans rfl
            have hfs40 := blk_frozen BK842.out 0
            have hs41 : w39.cell? ⟨gb842, 1, none⟩ = some (.bool false) := (blk_cell BK842.out 1).trans rfl
            have hfs41 := blk_frozen BK842.out 1
            have hs42 : w39.cell? ⟨gb842, 2, none⟩ = some (.int .i64 0) := (blk_cell BK842.out 2).trans rfl
            have hfs42 := blk_frozen BK842.out 2
            have hs43 : w39.cell? ⟨gb842, 3, none⟩ = some (.int .i64 0) := (blk_cell BK842.out 3).trans rfl
            have hfs43 := blk_frozen BK842.out 3
            have hs44 : w39.cell? ⟨gb842, 4, none⟩ = some (.int .i64 0) := (blk_cell BK842.out 4).trans rfl
            have hfs44 := blk_frozen BK842.out 4
            have hs46 : w39.cell? ⟨gb842, 5, none⟩ = some (.slice none 0 0) := (blk_cell BK842.out 5).trans rfl
            have hfs46 := blk_frozen BK842.out 5
            refine tsk ?_
            refine hK.out _ _ ⟨(tcg (Kd.own_blk (Kd.N_away HO_4.out (fun _ hk => hk.2.2))) hHeld.1), (tcg (Kd.own_blk (Kd.N_away HO_4.out (fun _ hk => hk.2.2))) hHeld.2.1), (tcg (Kd.own_blk (Kd.N_away HO_4.out (fun _ hk => hk.2.2))) hHeld.2.2.1), (tcg (Kd.own_blk (Kd.N_away HO_4.out (fun _ hk => hk.2.2))) hHeld.2.2.2.1), (tcg (Kd.own_blk (Kd.N_away HO_4.out (fun _ hk => hk.2.2))) hHeld.2.2.2.2.1), (tcg (Kd.own_blk (Kd.N_away HO_4.out (fun _ hk => hk.2.2))) hHeld.2.2.2.2.2.1), (tcg (Kd.own_blk (Kd.N_away HO_4.out (fun _ hk => hk.2.2))) hHeld.2.2.2.2.2.2.1), (tcg (Kd.own_blk (Kd.N_away HO_4.out (fun _ hk => hk.2.2))) hHeld.2.2.2.2.2.2.2.1), (tcg (Kd.own_blk (Kd.N_away HO_4.out (fun _ hk => hk.2.2))) hHeld.2.2.2.2.2.2.2.2.1), (tcg (Kd.own_blk (Kd.N_away HO_4.out (fun _ hk => hk.2.2))) hHeld.2.2.2.2.2.2.2.2.2.1), (tcg (Kd.own_blk (Kd.N_away HO_4.out (fun _ hk => hk.2.2))) hHeld.2.2.2.2.2.2.2.2.2.2.1), (tcg (Kd.own_blk (Kd.N_away HO_4.out (fun _ hk => hk.2.2))) hHeld.2.2.2.2.2.2.2.2.2.2.2)⟩ (fun hHeld => ?_)
            clear hK K
            refine tpu 15 (some 12) #[true, true, true, true, true, true, true, true, true, true, true, true, true, true, true, true] ?_
            refine done_ (done_of HT_.out (by kernel_rfl)) ?_
            try go_wp2
            all_goals go_ret
            all_goals exact ⟨by first | rfl | (simp [errW_none, errW_some] <;> rfl) | (simp only [← hji30]; first | rfl | (simp [errW_none, errW_some] <;> rfl)) | (simp [*, errW_none, errW_some] <;> rfl), zb⟩
           ·replace c35 := Bool.eq_false_iff.mpr c35
            subst c35
            rw [if_neg (show ¬ (false = true) by decide)] at H
            have H' := Aside0.mk H
            clear H
            try go_wp2
            replace HO_4 := Aside0.mk (Kd.N_drew HO_4.out)
            replace HO_8 := Aside0.mk (Kd.N_drew HO_8.out)
            replace HB := Aside0.mk (below_drew1 HB.out)
            have p831 : 0 ≤ ((ji30) : Int) := td
            have q831 : (ji30) < (t817.length : Int) := td
            obtain ⟨ad831, A831_5, c831_5, e831, hx831_0, hx831_1, hx831_2, hx831_3, hx831_4, hx831_5, hl831_5, hi831_5⟩ := at_T47 (Kd.N_reads' HO_4.out).2.2 (ji30) p831 q831
            cases e831
            obtain ⟨ce831, hce831, hMe831, hcc831⟩ := Kd.N_get HO_4.out z47 (ji30) p831 (by first | exact q831 | exact td | (have e_ := (Kd.N_reads' HO_4.out).1; omega))
            obtain ⟨ua831_5, uc831_5, rfl, ul831_5, ge831_5⟩ := k47_openF hMe831
            have hv831_5 := hcc831 5 _ rfl
            rw [add_field _ _ 5 (by omega)] at hv831_5
            replace hv831_5 := Option.some.inj (hv831_5.symm.trans hx831_5)
            injection hv831_5 with hva_ hvn_ hvc_
            rw [hva_] at ge831_5
            rw [hvc_] at ul831_5
            have HL831_5 := Aside0.mk (show Kd.V k33 33 _ w.heap.size _ _ ((rd_T47 t817 (ji30)).f5) from Kd.V_mk ul831_5 ge831_5)
            clear hva_ hvn_ hvc_ ge831_5 ul831_5
            clear hcc831 hce831
            have HR831_5 := Aside0.mk hi831_5
            have HC831_5 := Aside0.mk hl831_5
            clear hi831_5 hl831_5
            replace p831 := eq_true p831
            replace q831 := eq_true q831
            have p832 : 0 ≤ (x10_2 : Int) := td
            have q832 : x10_2 < (t817.length : Int) := td
            obtain ⟨ad832, A832_5, c832_5, e832, hx832_0, hx832_1, hx832_2, hx832_3, hx832_4, hx832_5, hl832_5, hi832_5⟩ := at_T47 (Kd.N_reads' HO_4.out).2.2 x10_2 p832 q832
            obtain rfl : ad831 = ad832 := (by injection e832)
            obtain ⟨ce832, hce832, hMe832, hcc832⟩ := Kd.N_get HO_4.out z47 x10_2 p832 (by first | exact q832 | exact td | (have e_ := (Kd.N_reads' HO_4.out).1; omega))
            obtain ⟨ua832_5, uc832_5, rfl, ul832_5, ge832_5⟩ := k47_openF hMe832
            have hv832_5 := hcc832 5 _ rfl
            rw [add_field _ _ 5 (by omega)] at hv832_5
            replace hv832_5 := Option.some.inj (hv832_5.symm.trans hx832_5)
            injection hv832_5 with hva_ hvn_ hvc_
            rw [hva_] at ge832_5
            rw [hvc_] at ul832_5
            have HL832_5 := Aside0.mk (show Kd.V k33 33 _ w.heap.size _ _ ((rd_T47 t817 x10_2).f5) from Kd.V_mk ul832_5 ge832_5)
            clear hva_ hvn_ hvc_ ge832_5 ul832_5
            clear hcc832 hce832
            have HR832_5 := Aside0.mk hi832_5
            have HC832_5 := Aside0.mk hl832_5
            clear hi832_5 hl832_5
            replace p832 := eq_true p832
            replace q832 := eq_true q832
            refine start_ (n := 16) (S := fun w' => w'.cell? (ad831.add (((ji30)).toNat * 6)) = some (.bool ((rd_T47 t817 (ji30)).f0)) ∧ w'.cell? ⟨(ad831.add (((ji30)).toNat * 6)).block, (ad831.add (((ji30)).toNat * 6)).off + 1, none⟩ = some (.bool ((rd_T47 t817 (ji30)).f1)) ∧ w'.cell? ⟨(ad831.add (((ji30)).toNat * 6)).block, (ad831.add (((ji30)).toNat * 6)).off + 2, none⟩ = some (.int .i64 ((rd_T47 t817 (ji30)).f2)) ∧ w'.cell? ⟨(ad831.add (((ji30)).toNat * 6)).block, (ad831.add (((ji30)).toNat * 6)).off + 3, none⟩ = some (.int .i64 ((rd_T47 t817 (ji30)).f3)) ∧ w'.cell? ⟨(ad831.add (((ji30)).toNat * 6)).block, (ad831.add (((ji30)).toNat * 6)).off + 4, none⟩ = some (.int .i64 ((rd_T47 t817 (ji30)).f4)) ∧ w'.cell? ⟨(ad831.add (((ji30)).toNat * 6)).block, (ad831.add (((ji30)).toNat * 6)).off + 5, none⟩ = some (.slice A831_5 ((rd_T47 t817 (ji30)).f5).length c831_5) ∧ w'.cell? (ad831.add ((x10_2).toNat * 6)) = some (.bool ((rd_T47 t817 x10_2).f0)) ∧ w'.cell? ⟨(ad831.add ((x10_2).toNat * 6)).block, (ad831.add ((x10_2).toNat * 6)).off + 1, none⟩ = some (.bool ((rd_T47 t817 x10_2).f1)) ∧ w'.cell? ⟨(ad831.add ((x10_2).toNat * 6)).block, (ad831.add ((x10_2).toNat * 6)).off + 2, none⟩ = some (.int .i64 ((rd_T47 t817 x10_2).f2)) ∧ w'.cell? ⟨(ad831.add ((x10_2).toNat * 6)).block, (ad831.add ((x10_2).toNat * 6)).off + 3, none⟩ = some (.int .i64 ((rd_T47 t817 x10_2).f3)) ∧ w'.cell? ⟨(ad831.add ((x10_2).toNat * 6)).block, (ad831.add ((x10_2).toNat * 6)).off + 4, none⟩ = some (.int .i64 ((rd_T47 t817 x10_2).f4)) ∧ w'.cell? ⟨(ad831.add ((x10_2).toNat * 6)).block, (ad831.add ((x10_2).toNat * 6)).off + 5, none⟩ = some (.slice A832_5 ((rd_T47 t817 x10_2).f5).length c832_5)) (ds := []) #[false, false, false, false, false, false, false, false, false, false, false, false, false, false, false, false] (by kernel_rfl) rfl rfl ⟨hx831_0, hx831_1, hx831_2, hx831_3, hx831_4, hx831_5, hx832_0, hx832_1, hx832_2, hx832_3, hx832_4, hx832_5⟩ (fun hHeld => ?_); refine with_tabW laws_FnEvenTwice.tab12 laws_FnEvenTwice.bits12 (fun HT_ HW_ => ?_)
            generalize wr.drew = w47 at HO_4 HO_8 HB HL831_5 HL832_5 HR831_5 HR832_5 hx831_0 hx831_1 hx831_2 hx831_3 hx831_4 hx831_5 hx832_0 hx832_1 hx832_2 hx832_3 hx832_4 hx832_5 hHeld ⊢
            refine tpu 0 (some 61) #[true, false, false, false, false, false, false, false, false, false, false, false, false, false, false, false] ?_
            refine tpu 1 (some 62) #[true, true, false, false, false, false, false, false, false, false, false, false, false, false, false, false] ?_
            refine tpu 2 (some 63) #[true, true, true, false, false, false, false, false, false, false, false, false, false, false, false, false] ?_
            refine tpu 3 (some 64) #[true, true, true, true, false, false, false, false, false, false, false, false, false, false, false, false] ?_
            refine tpu 5 (some 66) #[true, true, true, true, false, true, false, false, false, false, false, false, false, false, false, false] ?_
            refine tpu 6 (some 67) #[true, true, true, true, false, true, true, false, false, false, false, false, false, false, false, false] ?_
            refine tpu 7 (some 68) #[true, true, true, true, false, true, true, true, false, false, false, false, false, false, false, false] ?_
            refine tta 4 (some 65) #[true, true, true, true, true, true, true, true, false, false, false, false, false, false, false, false] hHeld ?_ (hy := by rintro w' ⟨s0, s1, s2, s3, s4, s5, s6, s7, s8, s9, s10, s11⟩; go_simp; with_reducible rfl)
            refine tta 8 (some 69) #[true, true, true, true, true, true, true, true, true, false, false, false, false, false, false, false] hHeld ?_ (hy := by rintro w' ⟨s0, s1, s2, s3, s4, s5, s6, s7, s8, s9, s10, s11⟩; go_simp; with_reducible rfl)
            refine join_ (σ := Value × Nat) 2 #[true, true, true, true, true, true, true, true, true, true, true, true, true, true, false, false] (fun s_ => [(70, .tuple #[.agg #[.bool t833, .bool t834, .int .i64 t835, .int .i64 t836, .int .i64 t837, s_.1], .bool false]), (11, .pointer (some ⟨s_.2, 0, none⟩)), (60, .tuple #[.agg #[.bool t833, .bool t834, .int .i64 t835, .int .i64 t836, .int .i64 t837, s_.1], .bool false]), (71, .agg #[.bool t833, .bool t834, .int .i64 t835, .int .i64 t836, .int .i64 t837, s_.1]), (72, .bool false)]) (fun s_ w' => (w'.cell? (ad831.add (((ji30)).toNat * 6)) = some (.bool ((rd_T47 t817 (ji30)).f0)) ∧ w'.cell? ⟨(ad831.add (((ji30)).toNat * 6)).block, (ad831.add (((ji30)).toNat * 6)).off + 1, none⟩ = some (.bool ((rd_T47 t817 (ji30)).f1)) ∧ w'.cell? ⟨(ad831.add (((ji30)).toNat * 6)).block, (ad831.add (((ji30)).toNat * 6)).off + 2, none⟩ = some (.int .i64 ((rd_T47 t817 (ji30)).f2)) ∧ w'.cell? ⟨(ad831.add (((ji30)).toNat * 6)).block, (ad831.add (((ji30)).toNat * 6)).off + 3, none⟩ = some (.int .i64 ((rd_T47 t817 (ji30)).f3)) ∧ w'.cell? ⟨(ad831.add (((ji30)).toNat * 6)).block, (ad831.add (((ji30)).toNat * 6)).off + 4, none⟩ = some (.int .i64 ((rd_T47 t817 (ji30)).f4)) ∧ w'.cell? ⟨(ad831.add (((ji30)).toNat * 6)).block, (ad831.add (((ji30)).toNat * 6)).off + 5, none⟩ = some (.slice A831_5 ((rd_T47 t817 (ji30)).f5).length c831_5) ∧ w'.cell? (ad831.add ((x10_2).toNat * 6)) = some (.bool ((rd_T47 t817 x10_2).f0)) ∧ w'.cell? ⟨(ad831.add ((x10_2).toNat * 6)).block, (ad831.add ((x10_2).toNat * 6)).off + 1, none⟩ = some (.bool ((rd_T47 t817 x10_2).f1)) ∧ w'.cell? ⟨(ad831.add ((x10_2).toNat * 6)).block, (ad831.add ((x10_2).toNat * 6)).off + 2, none⟩ = some (.int .i64 ((rd_T47 t817 x10_2).f2)) ∧ w'.cell? ⟨(ad831.add ((x10_2).toNat * 6)).block, (ad831.add ((x10_2).toNat * 6)).off + 3, none⟩ = some (.int .i64 ((rd_T47 t817 x10_2).f3)) ∧ w'.cell? ⟨(ad831.add ((x10_2).toNat * 6)).block, (ad831.add ((x10_2).toNat * 6)).off + 4, none⟩ = some (.int .i64 ((rd_T47 t817 x10_2).f4)) ∧ w'.cell? ⟨(ad831.add ((x10_2).toNat * 6)).block, (ad831.add ((x10_2).toNat * 6)).off + 5, none⟩ = some (.slice A832_5 ((rd_T47 t817 x10_2).f5).length c832_5)) ∧ (Kd.V k33 33 w' w.heap.size (fun k_ => some k_ ≠ (s_.1 : Value).ownBlock ∧ some k_ ≠ (.slice (some ad831) t817.length co27 : Value).ownBlock ∧ some k_ ≠ (v828 : Value).ownBlock ∧ k_ ≠ s_.2) (.slice A831_5 ((rd_T47 t817 (ji30)).f5).length c831_5) ((rd_T47 t817 (ji30)).f5)) ∧ (Kd.V k33 33 w' w.heap.size (fun k_ => some k_ ≠ (s_.1 : Value).ownBlock ∧ some k_ ≠ (.slice (some ad831) t817.length co27 : Value).ownBlock ∧ some k_ ≠ (v828 : Value).ownBlock ∧ k_ ≠ s_.2) (.slice A832_5 ((rd_T47 t817 x10_2).f5).length c832_5) ((rd_T47 t817 x10_2).f5)) ∧ (Kd.N k33 33 w' w.heap.size (fun k_ => some k_ ≠ (.slice (some ad831) t817.length co27 : Value).ownBlock ∧ some k_ ≠ (v828 : Value).ownBlock ∧ k_ ≠ s_.2) s_.1 t838) ∧ (Kd.N k47 47 w' w.heap.size (fun k_ => some k_ ≠ (s_.1 : Value).ownBlock ∧ some k_ ≠ (v828 : Value).ownBlock ∧ k_ ≠ s_.2) (.slice (some ad831) t817.length co27) t817) ∧ (Kd.N k47 47 w' w.heap.size (fun k_ => some k_ ≠ (s_.1 : Value).ownBlock ∧ some k_ ≠ (.slice (some ad831) t817.length co27 : Value).ownBlock ∧ k_ ≠ s_.2) v828 t827) ∧ (w'.heap[s_.2]? = some (.cells #[.bool false, .bool false, .int .i64 0, .int .i64 0, .int .i64 0, .slice none 0 0] 47 (0, 0))) ∧ (w.heap.size ≤ s_.2) ∧ (w.heap.size ≤ s_.2) ∧ (Below w.heap.size w w')) ?_ ?_
            rotate_left
            ·intro hCont
             refine two_ (i := 9) (j := 13) (Ni := some 70) (Nj := some 11) #[true, true, true, true, true, true, true, true, true, true, false, false, false, false, false, false] #[true, true, true, true, true, true, true, true, true, false, false, false, false, true, false, false] rfl rfl rfl rfl (two_of HT_.out (by kernel_rfl)) (by decide) (by decide) (fun K hK => ?_) (fun K hK => ?_)
             ·skip
              refine goes_ Tryd.func28 (by kernel_rfl) rfl #[.agg #[.bool ((rd_T47 t817 (ji30)).f0), .bool ((rd_T47 t817 (ji30)).f1), .int .i64 ((rd_T47 t817 (ji30)).f2), .int .i64 ((rd_T47 t817 (ji30)).f3), .int .i64 ((rd_T47 t817 (ji30)).f4), .slice A831_5 ((rd_T47 t817 (ji30)).f5).length c831_5], .agg #[.bool ((rd_T47 t817 x10_2).f0), .bool ((rd_T47 t817 x10_2).f1), .int .i64 ((rd_T47 t817 x10_2).f2), .int .i64 ((rd_T47 t817 x10_2).f3), .int .i64 ((rd_T47 t817 x10_2).f4), .slice A832_5 ((rd_T47 t817 x10_2).f5).length c832_5]] (by rfl) rfl rfl (by (try simp only [List.map_toArray, List.map_cons, List.map_nil]); first | done | (simp only [hji30]; rfl) | rfl | (simp only [List.length_drop, List.length_take]; rfl)) ?_
              with_reducible refine (impl_BatchJoin.calls (hE := ?sideE) k2 ((rd_T47 t817 (ji30)).f0) ((rd_T47 t817 (ji30)).f1) ((rd_T47 t817 (ji30)).f2) ((rd_T47 t817 (ji30)).f3) ((rd_T47 t817 (ji30)).f4) _ _ ((rd_T47 t817 (ji30)).f5) ((rd_T47 t817 x10_2).f0) ((rd_T47 t817 x10_2).f1) ((rd_T47 t817 x10_2).f2) ((rd_T47 t817 x10_2).f3) ((rd_T47 t817 x10_2).f4) _ _ ((rd_T47 t817 x10_2).f5) t833 t834 t835 t836 t837 t838 false _ ?side1 ?side2 ?side3 ?side4 A34.out).mono ?_
              case sideE => exact ErrOk.below (HE.out.sub (by decide)) zb
              (case side1 => exact tC (tC HR831_5.out))
              (case side2 => exact HC831_5.out)
              (case side3 => exact tC (tC HR832_5.out))
              (case side4 => exact HC832_5.out)
              rintro e w48 ⟨v839, rfl, ho0, hb⟩
              have HS0_ := tcb hb hHeld.1
              have HS1_ := tcb hb hHeld.2.1
              have HS2_ := tcb hb hHeld.2.2.1
              have HS3_ := tcb hb hHeld.2.2.2.1
              have HS4_ := tcb hb hHeld.2.2.2.2.1
              have HS5_ := tcb hb hHeld.2.2.2.2.2.1
              have HS6_ := tcb hb hHeld.2.2.2.2.2.2.1
              have HS7_ := tcb hb hHeld.2.2.2.2.2.2.2.1
              have HS8_ := tcb hb hHeld.2.2.2.2.2.2.2.2.1
              have HS9_ := tcb hb hHeld.2.2.2.2.2.2.2.2.2.1
              have HS10_ := tcb hb hHeld.2.2.2.2.2.2.2.2.2.2.1
              have HS11_ := tcb hb hHeld.2.2.2.2.2.2.2.2.2.2.2
              refine ⟨_, rfl, ?_⟩
              replace HL831_5 := tVe HL831_5 ho0 hb
              replace HL832_5 := tVe HL832_5 ho0 hb
              have HO840 := Aside0.mk (Kd.N_lower (Kd.N_mono (ok' := fun k_ => some k_ ≠ (.slice (some ad831) t817.length co27 : Value).ownBlock ∧ some k_ ≠ (v828 : Value).ownBlock) ho0 (fun k_ hk_ => ⟨(tfr HO_4 k_ hk_), (tfr HO_8 k_ hk_)⟩)) (below_size zb))
              replace HO_4 := tNe HO_4 ho0 hb
              replace HO_8 := tNe HO_8 ho0 hb
              replace HR831_5 := tCb HR831_5 hb
              replace HR832_5 := tCb HR832_5 hb
              replace HB := tBs HB hb
              (try clear hb)
              (try clear hb2)
              (try clear hk)
              (try clear hi)
              (try clear ho0)
              refine hK.out _ _ ⟨HS0_, HS1_, HS2_, HS3_, HS4_, HS5_, HS6_, HS7_, HS8_, HS9_, HS10_, HS11_⟩ (fun hHeld => ?_)
              clear hK K
              refine tnm (some 70) ?_
              refine tpu 10 (some 60) #[true, true, true, true, true, true, true, true, true, true, true, false, false, false, false, false] ?_
              refine tpu 11 (some 71) #[true, true, true, true, true, true, true, true, true, true, true, true, false, false, false, false] ?_
              refine tpu 12 (some 72) #[true, true, true, true, true, true, true, true, true, true, true, true, true, false, false, false] ?_
              refine one_ (i := 13) (N := some 11) #[true, true, true, true, true, true, true, true, true, true, true, true, true, true, false, false] rfl rfl (one_of HT_.out (by kernel_rfl)) (by decide) (fun K hK => ?_)
              refine box_step ?hg (N := 11) ?hd (cs := #[.bool false, .bool false, .int .i64 0, .int .i64 0, .int .i64 0, .slice none 0 0]) (t := 47) ?hr ?_; (case hd => rfl); (case hg => rfl); (case hr => first | (go_simp; done) | (go_simp; rfl))
              intro gb842 hg w49 hbox hb
              have HS0_ := tcb hb hHeld.1
              have HS1_ := tcb hb hHeld.2.1
              have HS2_ := tcb hb hHeld.2.2.1
              have HS3_ := tcb hb hHeld.2.2.2.1
              have HS4_ := tcb hb hHeld.2.2.2.2.1
              have HS5_ := tcb hb hHeld.2.2.2.2.2.1
              have HS6_ := tcb hb hHeld.2.2.2.2.2.2.1
              have HS7_ := tcb hb hHeld.2.2.2.2.2.2.2.1
              have HS8_ := tcb hb hHeld.2.2.2.2.2.2.2.2.1
              have HS9_ := tcb hb hHeld.2.2.2.2.2.2.2.2.2.1
              have HS10_ := tcb hb hHeld.2.2.2.2.2.2.2.2.2.2.1
              have HS11_ := tcb hb hHeld.2.2.2.2.2.2.2.2.2.2.2
              replace HO_4 := tNB HO_4 hg hb
              replace HO_8 := tNB HO_8 hg hb
              replace HL831_5 := tVB HL831_5 hg hb
              replace HL832_5 := tVB HL832_5 hg hb
              replace HO840 := tNB HO840 hg hb
              replace HR831_5 := tCb HR831_5 hb
              replace HR832_5 := tCb HR832_5 hb
              have BK842 := Aside0.mk (hbox)
              have GW842 := tge HB hg
              have GE842 := tge HB hg
              replace HB := tBs HB hb
              clear hb hbox hg
              refine hK.out _ _ ⟨HS0_, HS1_, HS2_, HS3_, HS4_, HS5_, HS6_, HS7_, HS8_, HS9_, HS10_, HS11_⟩ (fun hHeld => ?_)
              clear hK K
              refine tnm (some 11) ?_
              exact tnx (hCont (v839, gb842) _ ⟨hHeld, (tVm HL831_5.out), (tVm HL832_5.out), (tNm HO840.out), (tNm HO_4.out), (tNm HO_8.out), (tH BK842.out), GW842.out, GE842.out, zb⟩)
             ·skip
              refine box_step ?hg (N := 11) ?hd (cs := #[.bool false, .bool false, .int .i64 0, .int .i64 0, .int .i64 0, .slice none 0 0]) (t := 47) ?hr ?_; (case hd => rfl); (case hg => rfl); (case hr => first | (go_simp; done) | (go_simp; rfl))
              intro gb842 hg w48 hbox hb
              have HS0_ := tcb hb hHeld.1
              have HS1_ := tcb hb hHeld.2.1
              have HS2_ := tcb hb hHeld.2.2.1
              have HS3_ := tcb hb hHeld.2.2.2.1
              have HS4_ := tcb hb hHeld.2.2.2.2.1
              have HS5_ := tcb hb hHeld.2.2.2.2.2.1
              have HS6_ := tcb hb hHeld.2.2.2.2.2.2.1
              have HS7_ := tcb hb hHeld.2.2.2.2.2.2.2.1
              have HS8_ := tcb hb hHeld.2.2.2.2.2.2.2.2.1
              have HS9_ := tcb hb hHeld.2.2.2.2.2.2.2.2.2.1
              have HS10_ := tcb hb hHeld.2.2.2.2.2.2.2.2.2.2.1
              have HS11_ := tcb hb hHeld.2.2.2.2.2.2.2.2.2.2.2
              replace HO_4 := tNB HO_4 hg hb
              replace HO_8 := tNB HO_8 hg hb
              replace HL831_5 := tVB HL831_5 hg hb
              replace HL832_5 := tVB HL832_5 hg hb
              replace HR831_5 := tCb HR831_5 hb
              replace HR832_5 := tCb HR832_5 hb
              have BK842 := Aside0.mk (hbox)
              have GW842 := tge HB hg
              have GE842 := tge HB hg
              replace HB := tBs HB hb
              clear hb hbox hg
              refine hK.out _ _ ⟨HS0_, HS1_, HS2_, HS3_, HS4_, HS5_, HS6_, HS7_, HS8_, HS9_, HS10_, HS11_⟩ (fun hHeld => ?_)
              clear hK K
              refine tnm (some 11) ?_
              refine one_ (i := 9) (N := some 70) #[true, true, true, true, true, true, true, true, true, true, false, false, false, true, false, false] rfl rfl (one_of HT_.out (by kernel_rfl)) (by decide) (fun K hK => ?_)
              refine goes_ Tryd.func28 (by kernel_rfl) rfl #[.agg #[.bool ((rd_T47 t817 (ji30)).f0), .bool ((rd_T47 t817 (ji30)).f1), .int .i64 ((rd_T47 t817 (ji30)).f2), .int .i64 ((rd_T47 t817 (ji30)).f3), .int .i64 ((rd_T47 t817 (ji30)).f4), .slice A831_5 ((rd_T47 t817 (ji30)).f5).length c831_5], .agg #[.bool ((rd_T47 t817 x10_2).f0), .bool ((rd_T47 t817 x10_2).f1), .int .i64 ((rd_T47 t817 x10_2).f2), .int .i64 ((rd_T47 t817 x10_2).f3), .int .i64 ((rd_T47 t817 x10_2).f4), .slice A832_5 ((rd_T47 t817 x10_2).f5).length c832_5]] (by rfl) rfl rfl (by (try simp only [List.map_toArray, List.map_cons, List.map_nil]); first | done | (simp only [hji30]; rfl) | rfl | (simp only [List.length_drop, List.length_take]; rfl)) ?_
              with_reducible refine (impl_BatchJoin.calls (hE := ?sideE) k2 ((rd_T47 t817 (ji30)).f0) ((rd_T47 t817 (ji30)).f1) ((rd_T47 t817 (ji30)).f2) ((rd_T47 t817 (ji30)).f3) ((rd_T47 t817 (ji30)).f4) _ _ ((rd_T47 t817 (ji30)).f5) ((rd_T47 t817 x10_2).f0) ((rd_T47 t817 x10_2).f1) ((rd_T47 t817 x10_2).f2) ((rd_T47 t817 x10_2).f3) ((rd_T47 t817 x10_2).f4) _ _ ((rd_T47 t817 x10_2).f5) t833 t834 t835 t836 t837 t838 false _ ?side1 ?side2 ?side3 ?side4 A34.out).mono ?_
              case sideE => exact ErrOk.below (HE.out.sub (by decide)) zb
              (case side1 => exact tC (tC HR831_5.out))
              (case side2 => exact HC831_5.out)
              (case side3 => exact tC (tC HR832_5.out))
              (case side4 => exact HC832_5.out)
              rintro e w49 ⟨v839, rfl, ho0, hb⟩
              have HS0_ := tcb hb hHeld.1
              have HS1_ := tcb hb hHeld.2.1
              have HS2_ := tcb hb hHeld.2.2.1
              have HS3_ := tcb hb hHeld.2.2.2.1
              have HS4_ := tcb hb hHeld.2.2.2.2.1
              have HS5_ := tcb hb hHeld.2.2.2.2.2.1
              have HS6_ := tcb hb hHeld.2.2.2.2.2.2.1
              have HS7_ := tcb hb hHeld.2.2.2.2.2.2.2.1
              have HS8_ := tcb hb hHeld.2.2.2.2.2.2.2.2.1
              have HS9_ := tcb hb hHeld.2.2.2.2.2.2.2.2.2.1
              have HS10_ := tcb hb hHeld.2.2.2.2.2.2.2.2.2.2.1
              have HS11_ := tcb hb hHeld.2.2.2.2.2.2.2.2.2.2.2
              refine ⟨_, rfl, ?_⟩
              replace HL831_5 := tVe HL831_5 ho0 hb
              replace HL832_5 := tVe HL832_5 ho0 hb
              have HO840 := Aside0.mk (Kd.N_lower (Kd.N_mono (ok' := fun k_ => some k_ ≠ (.slice (some ad831) t817.length co27 : Value).ownBlock ∧ some k_ ≠ (v828 : Value).ownBlock ∧ k_ ≠ gb842) ho0 (fun k_ hk_ => ⟨(tfr HO_4 k_ hk_), (tfr HO_8 k_ hk_), (tfB BK842 k_ hk_)⟩)) (below_size zb))
              replace HO_4 := tNe HO_4 ho0 hb
              replace HO_8 := tNe HO_8 ho0 hb
              replace HR831_5 := tCb HR831_5 hb
              replace HR832_5 := tCb HR832_5 hb
              replace BK842 := tBb BK842 hb
              replace HB := tBs HB hb
              (try clear hb)
              (try clear hb2)
              (try clear hk)
              (try clear hi)
              (try clear ho0)
              refine hK.out _ _ ⟨HS0_, HS1_, HS2_, HS3_, HS4_, HS5_, HS6_, HS7_, HS8_, HS9_, HS10_, HS11_⟩ (fun hHeld => ?_)
              clear hK K
              refine tnm (some 70) ?_
              refine tpu 10 (some 60) #[true, true, true, true, true, true, true, true, true, true, true, false, false, true, false, false] ?_
              refine tpu 11 (some 71) #[true, true, true, true, true, true, true, true, true, true, true, true, false, true, false, false] ?_
              refine tpu 12 (some 72) #[true, true, true, true, true, true, true, true, true, true, true, true, true, true, false, false] ?_
              exact tnx (hCont (v839, gb842) _ ⟨hHeld, (tVm HL831_5.out), (tVm HL832_5.out), (tN HO840.out), (tNm HO_4.out), (tNm HO_8.out), (tH BK842.out), GW842.out, GE842.out, zb⟩)
            rintro ⟨v839, gb842⟩ w50 ⟨hS_, h0_, h1_, h2_, h3_, h4_, h5_, h6_, h7_, h8_⟩
            have n0_ : Aside0 (Kd.V k33 33 w50 w.heap.size (fun k_ => some k_ ≠ (v839 : Value).ownBlock ∧ some k_ ≠ (.slice (some ad831) t817.length co27 : Value).ownBlock ∧ some k_ ≠ (v828 : Value).ownBlock ∧ k_ ≠ gb842) (.slice A831_5 ((rd_T47 t817 (ji30)).f5).length c831_5) ((rd_T47 t817 (ji30)).f5)) := ⟨h0_⟩
            have n1_ : Aside0 (Kd.V k33 33 w50 w.heap.size (fun k_ => some k_ ≠ (v839 : Value).ownBlock ∧ some k_ ≠ (.slice (some ad831) t817.length co27 : Value).ownBlock ∧ some k_ ≠ (v828 : Value).ownBlock ∧ k_ ≠ gb842) (.slice A832_5 ((rd_T47 t817 x10_2).f5).length c832_5) ((rd_T47 t817 x10_2).f5)) := ⟨h1_⟩
            have n2_ : Aside0 (Kd.N k33 33 w50 w.heap.size (fun k_ => some k_ ≠ (.slice (some ad831) t817.length co27 : Value).ownBlock ∧ some k_ ≠ (v828 : Value).ownBlock ∧ k_ ≠ gb842) v839 t838) := ⟨h2_⟩
            have n3_ : Aside0 (Kd.N k47 47 w50 w.heap.size (fun k_ => some k_ ≠ (v839 : Value).ownBlock ∧ some k_ ≠ (v828 : Value).ownBlock ∧ k_ ≠ gb842) (.slice (some ad831) t817.length co27) t817) := ⟨h3_⟩
            have n4_ : Aside0 (Kd.N k47 47 w50 w.heap.size (fun k_ => some k_ ≠ (v839 : Value).ownBlock ∧ some k_ ≠ (.slice (some ad831) t817.length co27 : Value).ownBlock ∧ k_ ≠ gb842) v828 t827) := ⟨h4_⟩
            have n5_ : Aside0 (w50.heap[gb842]? = some (.cells #[.bool false, .bool false, .int .i64 0, .int .i64 0, .int .i64 0, .slice none 0 0] 47 (0, 0))) := ⟨h5_⟩
            have n6_ : Aside0 (w.heap.size ≤ gb842) := ⟨h6_⟩
            have n7_ : Aside0 (w.heap.size ≤ gb842) := ⟨h7_⟩
            have n8_ : Aside0 (Below w.heap.size w w50) := ⟨h8_⟩
            clear HO_4
            clear HO_8
            clear HB
            clear h0_ h1_ h2_ h3_ h4_ h5_ h6_ h7_ h8_
            have HL831_5 := n0_
            have HL832_5 := n1_
            have HO840 := n2_
            have HO_4 := n3_
            have HO_8 := n4_
            have BK842 := n5_
            have GW842 := n6_
            have GE842 := n7_
            have HB := n8_
            clear n0_ n1_ n2_ n3_ n4_ n5_ n6_ n7_ n8_
            have hHeld : w50.cell? (ad831.add (((ji30)).toNat * 6)) = some (.bool ((rd_T47 t817 (ji30)).f0)) ∧ w50.cell? ⟨(ad831.add (((ji30)).toNat * 6)).block, (ad831.add (((ji30)).toNat * 6)).off + 1, none⟩ = some (.bool ((rd_T47 t817 (ji30)).f1)) ∧ w50.cell? ⟨(ad831.add (((ji30)).toNat * 6)).block, (ad831.add (((ji30)).toNat * 6)).off + 2, none⟩ = some (.int .i64 ((rd_T47 t817 (ji30)).f2)) ∧ w50.cell? ⟨(ad831.add (((ji30)).toNat * 6)).block, (ad831.add (((ji30)).toNat * 6)).off + 3, none⟩ = some (.int .i64 ((rd_T47 t817 (ji30)).f3)) ∧ w50.cell? ⟨(ad831.add (((ji30)).toNat * 6)).block, (ad831.add (((ji30)).toNat * 6)).off + 4, none⟩ = some (.int .i64 ((rd_T47 t817 (ji30)).f4)) ∧ w50.cell? ⟨(ad831.add (((ji30)).toNat * 6)).block, (ad831.add (((ji30)).toNat * 6)).off + 5, none⟩ = some (.slice A831_5 ((rd_T47 t817 (ji30)).f5).length c831_5) ∧ w50.cell? (ad831.add ((x10_2).toNat * 6)) = some (.bool ((rd_T47 t817 x10_2).f0)) ∧ w50.cell? ⟨(ad831.add ((x10_2).toNat * 6)).block, (ad831.add ((x10_2).toNat * 6)).off + 1, none⟩ = some (.bool ((rd_T47 t817 x10_2).f1)) ∧ w50.cell? ⟨(ad831.add ((x10_2).toNat * 6)).block, (ad831.add ((x10_2).toNat * 6)).off + 2, none⟩ = some (.int .i64 ((rd_T47 t817 x10_2).f2)) ∧ w50.cell? ⟨(ad831.add ((x10_2).toNat * 6)).block, (ad831.add ((x10_2).toNat * 6)).off + 3, none⟩ = some (.int .i64 ((rd_T47 t817 x10_2).f3)) ∧ w50.cell? ⟨(ad831.add ((x10_2).toNat * 6)).block, (ad831.add ((x10_2).toNat * 6)).off + 4, none⟩ = some (.int .i64 ((rd_T47 t817 x10_2).f4)) ∧ w50.cell? ⟨(ad831.add ((x10_2).toNat * 6)).block, (ad831.add ((x10_2).toNat * 6)).off + 5, none⟩ = some (.slice A832_5 ((rd_T47 t817 x10_2).f5).length c832_5) := hS_
            obtain ⟨Ao56, co56, eo56⟩ := Kd.N_slice HO840.out
            (first | subst eo56 | (injection eo56 with f1_ f2_ f3_; have f4_ := f1_.symm; have f5_ := f3_.symm; clear f1_ f2_ f3_; subst f4_; subst f5_))
            refine tnp ?_
            refine one_ (i := 14) (N := none) #[true, true, true, true, true, true, true, true, true, true, true, true, true, true, true, false] rfl rfl (one_of HT_.out (by kernel_rfl)) (by decide) (fun K hK => ?_)
            have hs51 : w50.cell? ⟨gb842, 0, none⟩ = some (.bool false) := (blk_cell BK842.out 0).trans rfl
            have hfs51 := blk_frozen BK842.out 0
            have hs52 : w50.cell? ⟨gb842, 1, none⟩ = some (.bool false) := (blk_cell BK842.out 1).trans rfl
            have hfs52 := blk_frozen BK842.out 1
            have hs53 : w50.cell? ⟨gb842, 2, none⟩ = some (.int .i64 0) := (blk_cell BK842.out 2).trans rfl
            have hfs53 := blk_frozen BK842.out 2
            have hs54 : w50.cell? ⟨gb842, 3, none⟩ = some (.int .i64 0) := (blk_cell BK842.out 3).trans rfl
            have hfs54 := blk_frozen BK842.out 3
            have hs55 : w50.cell? ⟨gb842, 4, none⟩ = some (.int .i64 0) := (blk_cell BK842.out 4).trans rfl
            have hfs55 := blk_frozen BK842.out 4
            have hs57 : w50.cell? ⟨gb842, 5, none⟩ = some (.slice none 0 0) := (blk_cell BK842.out 5).trans rfl
            have hfs57 := blk_frozen BK842.out 5
            refine tsk ?_
            refine hK.out _ _ ⟨(tcg (Kd.own_blk (Kd.N_away HO_4.out (fun _ hk => hk.2.2))) hHeld.1), (tcg (Kd.own_blk (Kd.N_away HO_4.out (fun _ hk => hk.2.2))) hHeld.2.1), (tcg (Kd.own_blk (Kd.N_away HO_4.out (fun _ hk => hk.2.2))) hHeld.2.2.1), (tcg (Kd.own_blk (Kd.N_away HO_4.out (fun _ hk => hk.2.2))) hHeld.2.2.2.1), (tcg (Kd.own_blk (Kd.N_away HO_4.out (fun _ hk => hk.2.2))) hHeld.2.2.2.2.1), (tcg (Kd.own_blk (Kd.N_away HO_4.out (fun _ hk => hk.2.2))) hHeld.2.2.2.2.2.1), (tcg (Kd.own_blk (Kd.N_away HO_4.out (fun _ hk => hk.2.2))) hHeld.2.2.2.2.2.2.1), (tcg (Kd.own_blk (Kd.N_away HO_4.out (fun _ hk => hk.2.2))) hHeld.2.2.2.2.2.2.2.1), (tcg (Kd.own_blk (Kd.N_away HO_4.out (fun _ hk => hk.2.2))) hHeld.2.2.2.2.2.2.2.2.1), (tcg (Kd.own_blk (Kd.N_away HO_4.out (fun _ hk => hk.2.2))) hHeld.2.2.2.2.2.2.2.2.2.1), (tcg (Kd.own_blk (Kd.N_away HO_4.out (fun _ hk => hk.2.2))) hHeld.2.2.2.2.2.2.2.2.2.2.1), (tcg (Kd.own_blk (Kd.N_away HO_4.out (fun _ hk => hk.2.2))) hHeld.2.2.2.2.2.2.2.2.2.2.2)⟩ (fun hHeld => ?_)
            clear hK K
            refine tpu 15 (some 12) #[true, true, true, true, true, true, true, true, true, true, true, true, true, true, true, true] ?_
            refine done_ (done_of HT_.out (by kernel_rfl)) ?_
            try go_wp2
            go_roundg k2
            case measure => have := HJ5.out; have := HK2.out; omega
            case rel => exact ⟨(wrap64 (x10_2 + 1)), tr, H', ⟨by have := HJ5.out; have := HK2.out; omega⟩, ⟨tNm HO_4.out⟩, ⟨tNm HO_8.out⟩, ⟨zb⟩⟩
          ·rw [if_neg c33] at H
           exact absurd H (by simp)
         ·rw [if_neg c32] at H
          exact absurd H (by simp)
        ·rw [if_neg c31] at H
         exact absurd H (by simp)
       ·rw [if_neg c29] at H
        have c29b0 : decide (x10_2 < (t817.length : Int)) = false := decide_eq_false c29
        clear c29
        by_cases c58 : t830 = true
        ·subst c58
         rw [if_pos rfl] at H
         replace H := tbe H
         obtain ⟨t843, A59, H⟩ := H
         obtain rfl := Option.some.inj H
         obtain ⟨Ao60, co60, eo60⟩ := Kd.N_slice HO_8.out
         subst eo60
         go_wp2_with (first | (go_at_call 14; (with_reducible refine (laws_sameLog.calls k2 _ _ t827 _ _ t817 t843 _ ?side1 ?side2 ?side3 ?side4 A59.out).mono ?_); (case side1 => repeat (first | exact (Kd.N_reads' HO_8.out).2.2 | (with_reducible refine Kd.C_alloc ?_ _) | (with_reducible refine Kd.C_drewN ?_ _) | (with_reducible refine Kd.C_drew ?_))); (case side2 => exact (Kd.N_reads' HO_8.out).2.1); (case side3 => repeat (first | exact (Kd.N_reads' HO_4.out).2.2 | (with_reducible refine Kd.C_alloc ?_ _) | (with_reducible refine Kd.C_drewN ?_ _) | (with_reducible refine Kd.C_drew ?_))); (case side4 => exact (Kd.N_reads' HO_4.out).2.1); rintro e w61 ⟨rfl, hb⟩; replace HO_4 := tNb HO_4 hb; replace HO_8 := tNb HO_8 hb; replace HB := tBs HB hb; (try clear hb); (try clear hb2); (try clear hk); (try clear hi)))
         all_goals go_ret
         all_goals exact ⟨by first | rfl | (simp [errW_none, errW_some] <;> rfl) | (simp [*, errW_none, errW_some] <;> rfl), zb⟩
        ·replace c58 := Bool.eq_false_iff.mpr c58
         subst c58
         rw [if_neg (show ¬ (false = true) by decide)] at H
         obtain rfl := Option.some.inj H
         go_wp2
         all_goals go_ret
         all_goals exact ⟨by first | rfl | (simp [errW_none, errW_some] <;> rfl) | (simp [*, errW_none, errW_some] <;> rfl), zb⟩

end Go.Proofs.YtbbboachakkgiaaDoor.G

namespace Go.Proofs.YtbbboachakkgiaaDoor.Rd
open Go.RowKit Go.Proofs.YtbbboachakkgiaaDoorW.PrintWords
set_option linter.unusedVariables false
section
variable {H : Type} {enc : TypeId × Value → H} {P : Program} {w : World} {base : Nat} {spare : Nat → Bool} {held : Bool}
/-- What a reading of type t gives: a value of the kind, and what is known of it. -/
def Opens (enc : TypeId × Value → H) (P : Program) (w : World) (base : Nat) (spare : Nat → Bool) (held : Bool) {α : Type} (t : TypeId) (d : Kd α) (ok : α → Prop) : Prop :=
  P.cellsOf t = d.sz ∧ ∀ fuel cs x, DataW.trod enc P w base spare held fuel t cs = some x → ∃ v, d.K w v cs ∧ ok v
theorem Opens.imp_ {α : Type} {t : TypeId} {d : Kd α} {ok ok' : α → Prop} (h : Opens enc P w base spare held t d ok) (hi : ∀ v, ok v → ok' v) : Opens enc P w base spare held t d ok' :=
  ⟨h.1, fun fuel cs x hx => by
    obtain ⟨v, hk, ho⟩ := h.2 fuel cs x hx
    exact ⟨v, hk, hi v ho⟩⟩
theorem opens_int {t : TypeId} {k : IntKind} (ht : P.underlying t = some (.int k)) (hc : P.cellsOf t = 1) : Opens enc P w base spare held t (Kd.int k) (fun n => (Lit.int k n).wf = true) := by
  refine ⟨hc, fun fuel cs x h => ?_⟩
  obtain ⟨n, rfl, _, hw⟩ := DataW.trod_int ht h
  exact ⟨n, rfl, hw⟩
theorem cells_len {base : Nat} {a : Addr} {n : Nat} {cs : List Value} (h : w.cells? base a n = some cs) : cs.length = n ∧ ∀ i u, cs[i]? = some u → w.cell? (a.add i) = some u := by
  unfold World.cells? at h
  split at h
  · rename_i hb
    refine ⟨by simpa using mapM_some_length h, fun i u hu => ?_⟩
    have hi : i < n := by
      have := (List.getElem?_eq_some_iff.1 hu).1
      have h2 : cs.length = n := by simpa using mapM_some_length h
      omega
    have := mapM_some_get h i i (by simp [hi])
    rw [hu] at this
    exact this
  · simp at h
theorem opens_row {α : Type} {t e : TypeId} {d : Kd α} {ok : α → Prop} (ht : P.underlying t = some (.slice e)) (hd : Opens enc P w base spare held e d ok) {fuel : Nat} {cs : List Value} {x : DataW H × List MemPlace}
    (h : DataW.trod enc P w base spare held fuel t cs = some x) : ∃ (A : Option Addr) (c : Nat) (xs : List α), cs = [.slice A xs.length c] ∧ xs.length ≤ c ∧ c ≤ maxLen ∧ d.C w A xs.length xs ∧ ∀ y ∈ xs, ok y := by
  rcases Go.Deep.open_slice ht h with ⟨rfl, _⟩ | ⟨a, len, cap, m, n, D, Pl, rfl, hb, hl, hm, hmm, _, hel⟩
  · exact ⟨none, 0, [], rfl, Nat.le_refl _, by unfold maxLen; omega, ⟨rfl, by simp, fun h0 => absurd h0 (by simp)⟩, by simp⟩
  have hlm : len ≤ m := by rw [hmm]; split <;> omega
  have hx : ∀ i, i < len → ∃ y : α, ok y ∧ ∃ c, c.length = d.sz ∧ d.K w y c ∧ ∀ j u, c[j]? = some u → w.cell? (a.add (i * d.sz + j)) = some u := by
    intro i hi
    obtain ⟨cs', h1, h2⟩ := hel i (by omega)
    obtain ⟨y, hk, ho⟩ := hd.2 _ _ _ h2
    obtain ⟨hl', hc'⟩ := cells_len h1
    refine ⟨y, ho, cs', by rw [hl', hd.1], hk, fun j u hu => ?_⟩
    have := hc' j u hu
    rw [Go.Deep.add_add, hd.1] at this
    exact this
  rcases Nat.eq_zero_or_pos len with h0 | h0
  · subst h0
    exact ⟨some a, cap, [], rfl, Nat.zero_le _, hm, ⟨rfl, by simp, fun h1 => absurd h1 (by simp)⟩, by simp⟩
  obtain ⟨y0, _⟩ := hx 0 h0
  haveI : Inhabited α := ⟨y0⟩
  obtain ⟨g, hg⟩ := Go.Deep.choose_lt hx
  have hlen : ((List.range len).map g).length = len := by simp
  refine ⟨some a, cap, (List.range len).map g, by rw [hlen], by rw [hlen]; exact hl, hm, ⟨rfl, by rw [hlen]; unfold maxLen at hm; omega, fun _ => ⟨a, rfl, fun j p hj => ?_⟩⟩, fun y hy => ?_⟩
  · have hj' : j < len := by
      have := (List.getElem?_eq_some_iff.1 hj).1
      omega
    rw [List.getElem?_map, List.getElem?_range hj'] at hj
    simp at hj
    subst hj
    obtain ⟨_, c, hc1, hc2, hc3⟩ := hg j hj'
    exact ⟨c, hc1, hc2, hc3⟩
  · obtain ⟨i, hi, rfl⟩ := List.mem_map.1 hy
    exact (hg i (List.mem_range.1 hi)).1
end
end Go.Proofs.YtbbboachakkgiaaDoor.Rd

namespace Go.Proofs.YtbbboachakkgiaaDoor.OFnEvenTwice
open Go.RowKit Go.Proofs.YtbbboachakkgiaaDoorW.PrintWords Go.Proofs.YtbbboachakkgiaaDoor.G
set_option linter.unusedVariables false
def Pure : Prop := ∀ (l0 : List Int), l0.length ≤ maxLen → (∀ y ∈ l0, (Lit.int .u8 y).wf = true) → ∃ k, laws_FnEvenTwice.f k l0 = some true
end Go.Proofs.YtbbboachakkgiaaDoor.OFnEvenTwice

namespace Go.Proofs.YtbbboachakkgiaaDoor.Pu
open Go.RowKit Go.Proofs.YtbbboachakkgiaaDoorW.PrintWords Go.Proofs.YtbbboachakkgiaaDoorW.PrintLast Go.Proofs.YtbbboachakkgiaaDoorW.PrintMore Go.Proofs.YtbbboachakkgiaaDoor.G
set_option linter.unusedVariables false
set_option linter.unusedSimpArgs false
abbrev RT := S33
abbrev BT := S47
theorem copyOf_ev (x : RT) (h : x.f3.length ≤ 12 ∧ x.f5.length ≤ 12) : impl_Record_copyOf.f x.f0 x.f1 x.f2 x.f3 x.f4 x.f5 = some (x.f0, x.f1, x.f2, x.f3, x.f4, x.f5) := by
  simp only [impl_Record_copyOf.f, slices_Clone_int_int.f]
  rw [if_pos (by omega), if_pos (by omega)]
  rfl
end Go.Proofs.YtbbboachakkgiaaDoor.Pu

namespace Go.Proofs.YtbbboachakkgiaaDoor.Pu
open Go.RowKit Go.Proofs.YtbbboachakkgiaaDoorW.PrintWords Go.Proofs.YtbbboachakkgiaaDoorW.PrintLast Go.Proofs.YtbbboachakkgiaaDoorW.PrintMore Go.Proofs.YtbbboachakkgiaaDoor.G
set_option linter.unusedVariables false
set_option linter.unusedSimpArgs false
def ShortR (l : List RT) : Prop := l.length ≤ 6 ∧ ∀ r ∈ l, r.f3.length ≤ 12 ∧ r.f5.length ≤ 12
theorem short_of {b : BT} (h : batOk b = true) : ShortR b.f5 := ⟨(batOk_len h).2, fun r hr => by
  obtain ⟨i, hi, rfl⟩ := List.getElem_of_mem hr
  exact recOk_len (batOk_rec h i hi)⟩
theorem copyRecords_loop (l : List RT) (h : ShortR l) : ∀ d i, l.length - i = d → i ≤ l.length → Ev (fun k => impl_copyRecords.l0 k (l.take i) l (l.length : Int) (i : Int)) l := by
  intro d
  induction d with
  | zero =>
    intro i hd hi
    refine Ev.step (fun k => by rw [impl_copyRecords.l0]) ?_
    simp only [if_neg (show ¬ (i : Int) < (l.length : Int) by omega), List.take_of_length_le (show l.length ≤ i by omega)]
    exact Ev.now _
  | succ d ih =>
    intro i hd hi
    have hlt : i < l.length := by omega
    have hl := h.1
    refine Ev.step (fun k => by rw [impl_copyRecords.l0]) ?_
    simp only [if_pos (show (i : Int) < (l.length : Int) by omega), if_pos (show (0 : Int) ≤ (i : Int) by omega), rdR_nat l i hlt, copyOf_ev _ (h.2 _ (List.getElem_mem hlt)), bindS, w64 (a := (i : Int) + 1) (by omega) (by omega), if_pos (show (l.take i).length < 1759218604441 by rw [List.length_take]; omega)]
    have := ih (i + 1) (by omega) (by omega)
    rw [← List.take_append_getElem hlt] at this
    exact this
theorem copyRecords_ev (l : List RT) (h : ShortR l) : Ev (fun k => impl_copyRecords.f k l) l := by
  unfold impl_copyRecords.f
  have hl := h.1
  simp only [if_pos (show (0 : Int) ≤ (l.length : Int) by omega), if_pos (show ((l.length : Int)).toNat ≤ 3518437208883 by rw [Int.toNat_natCast]; omega)]
  have := copyRecords_loop l h _ 0 rfl (by omega)
  simpa using this
theorem copyBatch_ev (b : BT) (h : ShortR b.f5) : Ev (fun k => impl_Batch_copyOf.f k b.f0 b.f1 b.f2 b.f3 b.f4 b.f5) (b.f0, b.f1, b.f2, b.f3, b.f4, b.f5) := by
  unfold impl_Batch_copyOf.f
  exact Ev.bind (copyRecords_ev _ h) (Ev.now _)
theorem l12Copy_ev (x : RT) (h : x.f3.length ≤ 12 ∧ x.f5.length ≤ 12) : spec_l12Copy.f x.f0 x.f1 x.f2 x.f3 x.f4 x.f5 = some (x.f0, x.f1, x.f2, x.f3, x.f4, x.f5) := by
  unfold spec_l12Copy.f
  simp only [bindS, List.length_nil, List.nil_append]
  rw [if_pos (by omega), if_pos (by omega)]
theorem free_loop (p : Bool) (l : List RT) (h : l.length ≤ 12 ∧ ∀ r ∈ l, r.f3.length ≤ 12 ∧ r.f5.length ≤ 12) : ∀ d i, l.length - i = d → i ≤ l.length → Ev (fun k => spec_l31Free.l0 k l (i : Int) p false 255 0 0 (l.take i)) (p, false, 255, 0, 0, l) := by
  intro d
  induction d with
  | zero =>
    intro i hd hi
    refine Ev.step (fun k => by rw [spec_l31Free.l0]) ?_
    simp only [if_neg (show ¬ (i : Int) < (l.length : Int) by omega), List.take_of_length_le (show l.length ≤ i by omega)]
    exact Ev.now _
  | succ d ih =>
    intro i hd hi
    have hlt : i < l.length := by omega
    have hl := h.1
    refine Ev.step (fun k => by rw [spec_l31Free.l0]) ?_
    simp only [if_pos (show (i : Int) < (l.length : Int) by omega), if_pos (show (0 : Int) ≤ (i : Int) by omega), rdR_nat l i hlt, l12Copy_ev _ (h.2 _ (List.getElem_mem hlt)), bindS, w64 (a := (i : Int) + 1) (by omega) (by omega), if_pos (show (l.take i).length < 1759218604441 by rw [List.length_take]; omega)]
    have := ih (i + 1) (by omega) (by omega)
    rw [← List.take_append_getElem hlt] at this
    exact this
theorem free_ev12 (p : Bool) (l : List RT) (h : l.length ≤ 12 ∧ ∀ r ∈ l, r.f3.length ≤ 12 ∧ r.f5.length ≤ 12) : Ev (fun k => spec_l31Free.f k p l) (p, false, 255, 0, 0, l) := by
  unfold spec_l31Free.f
  have := free_loop p l h _ 0 rfl (by omega)
  simpa using this
theorem ShortR.take {l : List RT} (h : ShortR l) (n : Nat) : ShortR (l.take n) := ⟨by rw [List.length_take]; have := h.1; omega, fun r hr => h.2 r (List.mem_of_mem_take hr)⟩
theorem ShortR.drop {l : List RT} (h : ShortR l) (n : Nat) : ShortR (l.drop n) := ⟨by rw [List.length_drop]; have := h.1; omega, fun r hr => h.2 r (List.mem_of_mem_drop hr)⟩
end Go.Proofs.YtbbboachakkgiaaDoor.Pu

namespace Go.Proofs.YtbbboachakkgiaaDoor.Pu
open Go.RowKit Go.Proofs.YtbbboachakkgiaaDoorW.PrintWords Go.Proofs.YtbbboachakkgiaaDoorW.PrintLast Go.Proofs.YtbbboachakkgiaaDoorW.PrintMore Go.Proofs.YtbbboachakkgiaaDoor.G
set_option linter.unusedVariables false
set_option linter.unusedSimpArgs false
abbrev JoinT := Bool × Bool × Int × Int × Int × List RT × Option Int
/-- Whether two batches can be joined. -/
def joinGood (a b : BT) : Bool := batOk a && (batOk b && (decide (a.f2 = 255) && (decide (b.f2 = 255) && (decide (a.f0 = b.f0) && batOk ⟨a.f0, a.f1, a.f2, a.f3, a.f4, a.f5 ++ b.f5⟩))))
def joinV (a b : BT) : JoinT := if joinGood a b = true then (a.f0, a.f1, a.f2, a.f3, a.f4, a.f5 ++ b.f5, none) else (false, false, 0, 0, 0, [], some 1)
theorem join_j (a b : BT) (x : Bool) (ha : batOk a = true) (hb : batOk b = true) : Ev (fun k => impl_Batch_join.j0 k x a.f0 a.f1 a.f2 a.f3 a.f4 a.f5 b.f0 b.f1 b.f2 b.f3 b.f4 b.f5) (if x = true ∨ ¬ batOk ⟨a.f0, a.f1, a.f2, a.f3, a.f4, a.f5 ++ b.f5⟩ = true then (false, false, 0, 0, 0, [], some 1) else (a.f0, a.f1, a.f2, a.f3, a.f4, a.f5 ++ b.f5, none)) := by
  refine Ev.step (fun k => by rw [impl_Batch_join.j0]) ?_
  cases x
  · simp only [Bool.false_eq_true, if_false, false_or]
    have h1 := short_of ha
    have h2 := short_of hb
    refine Ev.bind (copyBatch_ev a h1) ?_
    refine Ev.bind (copyRecords_ev b.f5 h2) ?_
    have := h1.1
    have := h2.1
    simp only [if_pos (show a.f5.length + b.f5.length < 1759218604441 by omega), bindS, impl_BatchValid.f]
    by_cases hv : batOk ⟨a.f0, a.f1, a.f2, a.f3, a.f4, a.f5 ++ b.f5⟩ = true
    · rw [if_neg (show ¬ ¬ batOk ⟨a.f0, a.f1, a.f2, a.f3, a.f4, a.f5 ++ b.f5⟩ = true from fun h => h hv)]
      simp only [hv, if_true]
      exact Ev.now _
    · rw [if_pos hv]
      simp only [if_neg hv]
      exact Ev.now _
  · simp only [if_true, true_or]
    exact Ev.now _
theorem join_ev (a b : BT) : Ev (fun k => impl_Batch_join.f k a.f0 a.f1 a.f2 a.f3 a.f4 a.f5 b.f0 b.f1 b.f2 b.f3 b.f4 b.f5) (joinV a b) := by
  have bad : ∀ k, impl_Batch_join.j0 (k + 1) true a.f0 a.f1 a.f2 a.f3 a.f4 a.f5 b.f0 b.f1 b.f2 b.f3 b.f4 b.f5 = some (false, false, 0, 0, 0, [], some 1) := fun k => by rw [impl_Batch_join.j0]; simp
  have badE : Ev (fun k => impl_Batch_join.j0 k true a.f0 a.f1 a.f2 a.f3 a.f4 a.f5 b.f0 b.f1 b.f2 b.f3 b.f4 b.f5) (false, false, 0, 0, 0, [], some 1) := Ev.step bad (Ev.now _)
  unfold impl_Batch_join.f joinV joinGood
  simp only [impl_BatchValid.f, bindS]
  cases ha : batOk a
  · simpa using badE
  · cases hb : batOk b
    · simpa using badE
    · simp only [if_true, Bool.true_and]
      by_cases h2 : a.f2 = 255
      · by_cases h3 : b.f2 = 255
        · simp only [if_pos h2, if_pos h3, decide_eq_true h2, decide_eq_true h3, Bool.true_and]
          have := join_j a b (a.f0 != b.f0) ha hb
          by_cases h4 : a.f0 = b.f0
          · have e : (a.f0 != b.f0) = false := by simp [h4]
            rw [e] at this ⊢
            simp only [Bool.false_eq_true, false_or] at this
            rw [decide_eq_true h4, Bool.true_and]
            by_cases hv : batOk ⟨a.f0, a.f1, a.f2, a.f3, a.f4, a.f5 ++ b.f5⟩ = true
            · rw [if_neg (by simp [hv])] at this
              rw [if_pos hv]
              exact this
            · rw [if_pos hv] at this
              rw [if_neg hv]
              exact this
          · have e : (a.f0 != b.f0) = true := by simp [h4]
            rw [e, decide_eq_false h4, Bool.false_and, if_neg (by simp)]
            exact badE
        · simp only [if_pos h2, if_neg h3, decide_eq_false h3, Bool.false_and, Bool.and_false, Bool.false_eq_true, if_false]
          exact badE
      · simp only [if_neg h2, decide_eq_false h2, Bool.false_and, Bool.and_false, Bool.false_eq_true, if_false]
        exact badE
abbrev BJoinT := Bool × Bool × Int × Int × Int × List RT × Bool
def bjoinV (a b : BT) : BJoinT := if joinGood a b = true then (a.f0, a.f1, a.f2, a.f3, a.f4, a.f5 ++ b.f5, true) else (false, false, 0, 0, 0, [], false)
theorem BatchJoin_ev (a b : BT) : Ev (fun k => impl_BatchJoin.f k a.f0 a.f1 a.f2 a.f3 a.f4 a.f5 b.f0 b.f1 b.f2 b.f3 b.f4 b.f5) (bjoinV a b) := by
  unfold impl_BatchJoin.f
  refine Ev.bind (join_ev a b) ?_
  unfold bjoinV joinV
  by_cases h : joinGood a b = true
  · simp only [if_pos h, errors_Is.f, bindS, Bool.false_eq_true, if_false]
    exact Ev.now _
  · simp only [if_neg h, errors_Is.f, if_true, bindS]
    exact Ev.now _
end Go.Proofs.YtbbboachakkgiaaDoor.Pu

namespace Go.Proofs.YtbbboachakkgiaaDoor.Pu
open Go.RowKit Go.Proofs.YtbbboachakkgiaaDoorW.PrintWords Go.Proofs.YtbbboachakkgiaaDoorW.PrintLast Go.Proofs.YtbbboachakkgiaaDoorW.PrintMore Go.Proofs.YtbbboachakkgiaaDoor.G
set_option linter.unusedVariables false
set_option linter.unusedSimpArgs false
/-- Offsets that grow. -/
def Inc : List RT → Prop
  | [] => True
  | x :: l => (∀ y ∈ l, x.f0 < y.f0) ∧ Inc l
theorem inc_of : ∀ (l : List RT), (∀ i (h : i + 1 < l.length), l[i].f0 < l[i + 1].f0) → Inc l
  | [], _ => trivial
  | [x], _ => ⟨fun y hy => by simp at hy, trivial⟩
  | x :: z :: l, h => by
    have h1 := inc_of (z :: l) fun i hi => h (i + 1) (by simp only [List.length_cons] at hi ⊢; omega)
    have h0 : x.f0 < z.f0 := h 0 (by simp)
    refine ⟨fun y hy => ?_, h1⟩
    rcases List.mem_cons.1 hy with rfl | hy
    · exact h0
    · have := h1.1 y hy
      omega
theorem inc_bat {b : BT} (h : batOk b = true) : Inc b.f5 := by
  refine inc_of _ fun i hi => ?_
  unfold batOk at h
  simp only [Bool.and_eq_true] at h
  have := List.all_eq_true.1 h.2.2.2 (i + 1) (by simp [List.mem_range']; omega)
  unfold recStep at this
  rw [rdR_nat b.f5 (i + 1) hi, show ((i + 1 : Nat) : Int) - 1 = (i : Int) by omega, rdR_nat b.f5 i (by omega)] at this
  simpa using (Bool.and_eq_true_iff.1 this).2
end Go.Proofs.YtbbboachakkgiaaDoor.Pu

namespace Go.Proofs.YtbbboachakkgiaaDoor.Pu
open Go.RowKit Go.Proofs.YtbbboachakkgiaaDoorW.PrintWords Go.Proofs.YtbbboachakkgiaaDoorW.PrintLast Go.Proofs.YtbbboachakkgiaaDoorW.PrintMore Go.Proofs.YtbbboachakkgiaaDoor.G
theorem sBatchValid_ev (b : S47) (_ : RowR b.f5) : Ev (fun k => spec_BatchValid.f k b.f0 b.f1 b.f2 b.f3 b.f4 b.f5) (batOk b) := Ev.now _
end Go.Proofs.YtbbboachakkgiaaDoor.Pu

namespace Go.Proofs.YtbbboachakkgiaaDoor.Pu
open Go.RowKit Go.Proofs.YtbbboachakkgiaaDoorW.PrintWords Go.Proofs.YtbbboachakkgiaaDoorW.PrintLast Go.Proofs.YtbbboachakkgiaaDoorW.PrintMore Go.Proofs.YtbbboachakkgiaaDoor.G
set_option linter.unusedVariables false
set_option linter.unusedSimpArgs false
theorem rec_inc {b : S47} (h : batOk b = true) (j : Nat) (hj : j + 1 < b.f5.length) : b.f5[j].f0 < b.f5[j + 1].f0 := by
  unfold batOk at h
  simp only [Bool.and_eq_true] at h
  have := List.all_eq_true.1 h.2.2.2 (j + 1) (by simp [List.mem_range']; omega)
  unfold recStep at this
  rw [rdR_nat b.f5 (j + 1) hj, show ((j + 1 : Nat) : Int) - 1 = ((j : Nat) : Int) by omega, rdR_nat b.f5 j (by omega), decide_eq_false (by omega : ¬ (j + 1 = 0)), Bool.false_or, Bool.and_eq_true, decide_eq_true_eq] at this
  exact this.2
theorem firstOf_eq {b : S47} (h : 0 < b.f5.length) : firstOf b = b.f5[0].f0 := by
  unfold firstOf
  rw [show (0 : Int) = ((0 : Nat) : Int) from rfl, rdR_nat b.f5 0 h]
theorem lastOf_eq {b : S47} (h : 0 < b.f5.length) : lastOf b = (b.f5[b.f5.length - 1]'(by omega)).f0 := by
  unfold lastOf
  rw [show (b.f5.length : Int) - 1 = ((b.f5.length - 1 : Nat) : Int) by omega, rdR_nat b.f5 _ (by omega)]
theorem rec_mono {b : S47} (h : batOk b = true) (i : Nat) : ∀ d (hj : i + d < b.f5.length), (b.f5[i]'(by omega)).f0 ≤ b.f5[i + d].f0
  | 0, hj => Int.le_refl _
  | d + 1, hj => by
    have := rec_mono h i d (by omega)
    have := rec_inc h (i + d) hj
    show _ ≤ b.f5[i + d + 1].f0
    omega
theorem rec_le {b : S47} (h : batOk b = true) (j : Nat) (hj : j < b.f5.length) : b.f5[j].f0 ≤ lastOf b := by
  rw [lastOf_eq (by omega)]
  have := rec_mono h j (b.f5.length - 1 - j) (by omega)
  simpa only [show j + (b.f5.length - 1 - j) = b.f5.length - 1 by omega] using this
theorem bat_inc {l : List S47} (h : logOk l = true) (i : Nat) (hi : i + 1 < l.length) : lastOf l[i] < firstOf l[i + 1] := by
  unfold logOk at h
  have := List.all_eq_true.1 (Bool.and_eq_true_iff.1 h).1 (i + 1) (by simp [List.mem_range']; omega)
  unfold batStep at this
  rw [rdB_nat l (i + 1) hi, show ((i + 1 : Nat) : Int) - 1 = ((i : Nat) : Int) by omega, rdB_nat l i (by omega), decide_eq_false (by omega : ¬ (i + 1 = 0)), Bool.false_or, Bool.and_eq_true, decide_eq_true_eq] at this
  exact this.2
theorem first_le_last {b : S47} (h : batOk b = true) : firstOf b ≤ lastOf b := by
  have hn := batOk_len h
  have := rec_le h 0 (by omega)
  rw [firstOf_eq (by omega)]
  exact this
theorem logOk_len {l : List S47} (h : logOk l = true) : l.length ≤ 8 := by
  unfold logOk at h
  simp only [Bool.and_eq_true, decide_eq_true_eq] at h
  omega
end Go.Proofs.YtbbboachakkgiaaDoor.Pu

namespace Go.Proofs.YtbbboachakkgiaaDoor.Pu
open Go.RowKit Go.Proofs.YtbbboachakkgiaaDoorW.PrintWords Go.Proofs.YtbbboachakkgiaaDoorW.PrintLast Go.Proofs.YtbbboachakkgiaaDoorW.PrintMore Go.Proofs.YtbbboachakkgiaaDoor.G
set_option linter.unusedVariables false
set_option linter.unusedSimpArgs false
theorem inc_step : ∀ (l : List RT), Inc l → ∀ (j : Nat) (hj : j + 1 < l.length), l[j].f0 < l[j + 1].f0
  | [], _, j, hj => by simp at hj
  | x :: l, h, 0, hj => h.1 _ (List.getElem_mem (l := l) (n := 0) (by simpa using hj))
  | x :: l, h, j + 1, hj => inc_step l h.2 j (by simpa using hj)
theorem recsInc_of (l : List RT) (h : ∀ r ∈ l, recOk r = true) (hi : Inc l) : recsInc l = true := incs_of fun j hj => by
  unfold recStep
  rw [rdR_nat l j hj, h _ (List.getElem_mem hj), Bool.true_and]
  rcases j with _ | j
  · simp
  · rw [show ((j + 1 : Nat) : Int) - 1 = (j : Int) by omega, rdR_nat l j (by omega), decide_eq_true (inc_step l hi j hj), Bool.or_true]
def freeB (p : Bool) (l : List RT) : BT := ⟨p, false, 255, 0, 0, l⟩
theorem free_ok {p : Bool} {l : List RT} (hr : ∀ r ∈ l, recOk r = true) (hi : Inc l) (h1 : 1 ≤ l.length) (h6 : l.length ≤ 6) : batOk (freeB p l) = true := by
  unfold batOk headOk lenOk freeB
  simp only [recsInc_of l hr hi, if_true, decide_true, Bool.not_false, Bool.true_or, Bool.and_true, Bool.true_and, Bool.and_eq_true, decide_eq_true_eq]
  omega
theorem bat_recs {b : BT} (h : batOk b = true) : ∀ r ∈ b.f5, recOk r = true := fun r hr => by
  obtain ⟨i, hi, rfl⟩ := List.getElem_of_mem hr
  exact batOk_rec h i hi
theorem short_row {l : List RT} (h : ShortR l) : RowR l := ⟨by have := h.1; omega, fun r hr => by have := h.2 r hr; exact ⟨by omega, by omega⟩⟩
/-- A valid batch without a producer is told by whether it is packed, and its records. -/
theorem free_of {b : BT} (h : batOk b = true) (h2 : b.f2 = 255) : b = freeB b.f0 b.f5 := by
  obtain ⟨b0, b1, b2, b3, b4, l⟩ := b
  simp only at h2
  subst h2
  unfold batOk headOk at h
  simp only [if_true, Bool.and_eq_true, decide_eq_true_eq, Bool.not_eq_true'] at h
  obtain ⟨⟨rfl, rfl, rfl⟩, -⟩ := h
  rfl
end Go.Proofs.YtbbboachakkgiaaDoor.Pu

namespace Go.Proofs.YtbbboachakkgiaaDoor.Pu
open Go.RowKit Go.Proofs.YtbbboachakkgiaaDoorW.PrintWords Go.Proofs.YtbbboachakkgiaaDoorW.PrintLast Go.Proofs.YtbbboachakkgiaaDoorW.PrintMore Go.Proofs.YtbbboachakkgiaaDoor.G
set_option linter.unusedVariables false
set_option linter.unusedSimpArgs false
def IncB : List S47 → Prop
  | [] => True
  | b :: l => (∀ c ∈ l, lastOf b < firstOf c) ∧ IncB l
theorem incB_of : ∀ (l : List S47), (∀ b ∈ l, batOk b = true) → (∀ i (h : i + 1 < l.length), lastOf l[i] < firstOf l[i + 1]) → IncB l
  | [], _, _ => trivial
  | [b], _, _ => ⟨fun c hc => by simp at hc, trivial⟩
  | b :: c :: l, hv, h => by
    have h1 := incB_of (c :: l) (fun x hx => hv x (List.mem_cons_of_mem _ hx)) fun i hi => h (i + 1) (by simp only [List.length_cons] at hi ⊢; omega)
    have h0 : lastOf b < firstOf c := h 0 (by simp)
    refine ⟨fun y hy => ?_, h1⟩
    rcases List.mem_cons.1 hy with rfl | hy
    · exact h0
    · have := h1.1 y hy
      have := first_le_last (hv c (by simp))
      omega
theorem incB_log {l : List S47} (h : logOk l = true) : IncB l :=
  incB_of l (fun b hb => by obtain ⟨i, hi, rfl⟩ := List.getElem_of_mem hb; exact logOk_bat h i hi) fun i hi => bat_inc h i hi
theorem incB_step : ∀ (l : List S47), IncB l → ∀ (j : Nat) (hj : j + 1 < l.length), lastOf l[j] < firstOf l[j + 1]
  | [], _, j, hj => by simp at hj
  | x :: l, h, 0, hj => h.1 _ (List.getElem_mem (l := l) (n := 0) (by simpa using hj))
  | x :: l, h, j + 1, hj => incB_step l h.2 j (by simpa using hj)
theorem logOk_of {l : List S47} (hv : ∀ b ∈ l, batOk b = true) (hi : IncB l) (hl : l.length ≤ 8) : logOk l = true := by
  unfold logOk
  rw [logs_of fun j hj => ?_, Bool.true_and, decide_eq_true (by omega)]
  unfold batStep
  rw [rdB_nat l j hj, hv _ (List.getElem_mem hj), Bool.true_and]
  rcases j with _ | j
  · simp
  · rw [show ((j + 1 : Nat) : Int) - 1 = (j : Int) by omega, rdB_nat l j (by omega), decide_eq_true (incB_step l hi j hj), Bool.or_true]
theorem logOk_mem {l : List S47} (h : logOk l = true) : ∀ b ∈ l, batOk b = true := fun b hb => by
  obtain ⟨i, hi, rfl⟩ := List.getElem_of_mem hb
  exact logOk_bat h i hi
end Go.Proofs.YtbbboachakkgiaaDoor.Pu

namespace Go.Proofs.YtbbboachakkgiaaDoor.Pu
open Go.RowKit Go.Proofs.YtbbboachakkgiaaDoorW.PrintWords Go.Proofs.YtbbboachakkgiaaDoorW.PrintLast Go.Proofs.YtbbboachakkgiaaDoorW.PrintMore Go.Proofs.YtbbboachakkgiaaDoor.G
set_option linter.unusedVariables false
set_option linter.unusedSimpArgs false
def joinB (a b : BT) : BT := ⟨a.f0, a.f1, a.f2, a.f3, a.f4, a.f5 ++ b.f5⟩
def evenStep (acc : List BT) (b : BT) : List BT := if h : 0 < acc.length then (if joinGood (acc[acc.length - 1]'(by omega)) b = true then acc.set (acc.length - 1) (joinB (acc[acc.length - 1]'(by omega)) b) else acc ++ [b]) else acc ++ [b]
def evenV (l : List BT) : List BT := l.foldl evenStep []
theorem step_len (acc : List BT) (b : BT) : (evenStep acc b).length ≤ acc.length + 1 := by
  unfold evenStep
  split
  · split <;> simp
  · simp
theorem fold_len : ∀ (l acc : List BT), (l.foldl evenStep acc).length ≤ acc.length + l.length
  | [], acc => by simp
  | b :: l, acc => by
    have h1 := fold_len l (evenStep acc b)
    have h2 := step_len acc b
    simp only [List.foldl_cons, List.length_cons]
    omega
/-- The last one replaced. -/
theorem set_last (acc : List BT) (x : BT) (h : 0 < acc.length) : acc.set (acc.length - 1) x = acc.take (acc.length - 1) ++ [x] := by
  rw [List.set_eq_take_append_cons_drop]
  rw [if_pos (by omega), show acc.length - 1 + 1 = acc.length by omega, List.drop_length]
theorem take_last (acc : List BT) (h : 0 < acc.length) : acc = acc.take (acc.length - 1) ++ [acc[acc.length - 1]'(by omega)] := by
  have := List.take_append_getElem (l := acc) (i := acc.length - 1) (by omega)
  rw [show acc.length - 1 + 1 = acc.length by omega, List.take_length] at this
  exact this.symm
theorem step_cases (acc : List BT) (b : BT) : evenStep acc b = acc ++ [b] ∨ ∃ pre z, acc = pre ++ [z] ∧ joinGood z b = true ∧ evenStep acc b = pre ++ [joinB z b] := by
  unfold evenStep
  by_cases h : 0 < acc.length
  · rw [dif_pos h]
    by_cases hj : joinGood (acc[acc.length - 1]'(by omega)) b = true
    · rw [if_pos hj, set_last _ _ h]
      exact .inr ⟨acc.take (acc.length - 1), acc[acc.length - 1]'(by omega), take_last acc h, hj, rfl⟩
    · rw [if_neg hj]
      exact .inl rfl
  · rw [dif_neg h]
    exact .inl rfl
theorem good_join {z b : BT} (h : joinGood z b = true) : batOk z = true ∧ batOk b = true ∧ batOk (joinB z b) = true ∧ z.f2 = 255 ∧ b.f2 = 255 ∧ z.f0 = b.f0 := by
  unfold joinGood at h
  simp only [Bool.and_eq_true, decide_eq_true_eq] at h
  exact ⟨h.1, h.2.1, h.2.2.2.2.2, h.2.2.1, h.2.2.2.1, h.2.2.2.2.1⟩
theorem first_join {z b : BT} (h : 0 < z.f5.length) : firstOf (joinB z b) = firstOf z := by
  rw [firstOf_eq (show 0 < (joinB z b).f5.length by show 0 < (z.f5 ++ b.f5).length; rw [List.length_append]; omega), firstOf_eq h]
  congr 1
  exact List.getElem_append_left h
theorem last_join {z b : BT} (h : 0 < b.f5.length) : lastOf (joinB z b) = lastOf b := by
  have hl : (joinB z b).f5.length = z.f5.length + b.f5.length := List.length_append
  rw [lastOf_eq (show 0 < (joinB z b).f5.length by omega), lastOf_eq h]
  congr 1
  have e : (joinB z b).f5.length - 1 = z.f5.length + (b.f5.length - 1) := by omega
  simp only [e]
  show (z.f5 ++ b.f5)[z.f5.length + (b.f5.length - 1)]'(by rw [List.length_append]; omega) = _
  rw [List.getElem_append_right (by omega)]
  congr 1
  omega
theorem incB_app : ∀ (a b : List BT), IncB (a ++ b) ↔ IncB a ∧ IncB b ∧ ∀ x ∈ a, ∀ y ∈ b, lastOf x < firstOf y
  | [], b => by simp [IncB]
  | x :: a, b => by
    have ih := incB_app a b
    simp only [List.cons_append, IncB, ih, List.mem_append, List.mem_cons]
    constructor
    · rintro ⟨h1, h2, h3, h4⟩
      refine ⟨⟨fun c hc => h1 c (.inl hc), h2⟩, h3, fun y hy z hz => ?_⟩
      rcases hy with rfl | hy
      · exact h1 z (.inr hz)
      · exact h4 y hy z hz
    · rintro ⟨⟨h1, h2⟩, h3, h4⟩
      refine ⟨fun c hc => ?_, h2, h3, fun y hy z hz => h4 y (.inr hy) z hz⟩
      rcases hc with hc | hc
      · exact h1 c hc
      · exact h4 x (.inl rfl) c hc
/-- What is known on the way. -/
def EvenOk (acc rest : List BT) : Prop := (∀ b ∈ acc ++ rest, batOk b = true) ∧ IncB (acc ++ rest)
theorem step_ok {acc rest : List BT} {b : BT} (h : EvenOk acc (b :: rest)) : EvenOk (evenStep acc b) rest := by
  rcases step_cases acc b with e | ⟨pre, z, rfl, hg, e⟩
  · rw [e]
    unfold EvenOk
    rw [List.append_assoc]
    exact h
  · rw [e]
    obtain ⟨h1, h2⟩ := h
    obtain ⟨gz, gb, gj, _⟩ := good_join hg
    have hz := batOk_len gz
    have hb := batOk_len gb
    refine ⟨fun c hc => ?_, ?_⟩
    · rw [List.append_assoc, List.mem_append, List.singleton_append, List.mem_cons] at hc
      rcases hc with hc | rfl | hc
      · exact h1 c (by simp [hc])
      · exact gj
      · exact h1 c (by simp [hc])
    · rw [List.append_assoc, List.singleton_append, incB_app] at h2 ⊢
      obtain ⟨i1, i2, i3⟩ := h2
      have i4 := i2.2
      refine ⟨i1, ⟨fun c hc => ?_, i4.2⟩, fun x hx y hy => ?_⟩
      · rw [last_join (by omega)]
        exact i4.1 c hc
      · rcases List.mem_cons.1 hy with rfl | hy
        · rw [first_join (by omega)]
          exact i3 x hx z (by simp)
        · exact i3 x hx y (by simp [hy])
theorem fold_ok : ∀ (l acc : List BT), EvenOk acc l → EvenOk (l.foldl evenStep acc) []
  | [], acc, h => h
  | b :: l, acc, h => by
    rw [List.foldl_cons]
    exact fold_ok l _ (step_ok h)
theorem even_ok {l : List BT} (h : logOk l = true) : logOk (evenV l) = true := by
  have := fold_ok l [] ⟨fun b hb => logOk_mem h b (by simpa using hb), incB_log h⟩
  obtain ⟨h1, h2⟩ := this
  rw [List.append_nil] at h1 h2
  refine logOk_of h1 h2 ?_
  have := fold_len l []
  have := logOk_len h
  unfold evenV
  simp only [List.length_nil] at *
  omega
/-! Nothing more can be joined. -/
theorem inc_prefix : ∀ (l m : List RT), Inc (l ++ m) → Inc l
  | [], _, _ => trivial
  | x :: l, m, h => ⟨fun y hy => h.1 y (by simp [hy]), inc_prefix l m h.2⟩
theorem prefix_ok {p : Bool} {l m : List RT} (h : batOk (freeB p (l ++ m)) = true) (hl : 1 ≤ l.length) : batOk (freeB p l) = true := by
  have h6 := (batOk_len h).2
  have e : (freeB p (l ++ m)).f5.length = l.length + m.length := List.length_append
  refine free_ok (fun r hr => bat_recs h r (by show r ∈ l ++ m; simp [hr])) (inc_prefix l m (inc_bat h)) hl (by omega)
theorem good_of_join {y z b : BT} (hz : batOk z = true) (h : joinGood y (joinB z b) = true) : joinGood y z = true := by
  obtain ⟨g1, g2, g3, g4, g5, g6⟩ := good_join h
  have ef := free_of g1 g4
  have hzl := batOk_len hz
  have hyl := batOk_len g1
  have e : joinB y (joinB z b) = freeB y.f0 ((y.f5 ++ z.f5) ++ b.f5) := by
    rw [ef]
    simp [joinB, freeB]
  rw [e] at g3
  have hp := prefix_ok (l := y.f5 ++ z.f5) g3 (by rw [List.length_append]; omega)
  have e2 : (⟨y.f0, y.f1, y.f2, y.f3, y.f4, y.f5 ++ z.f5⟩ : BT) = freeB y.f0 (y.f5 ++ z.f5) := by
    have := ef
    obtain ⟨y0, y1, y2, y3, y4, l⟩ := y
    simp only [freeB, S47.mk.injEq, true_and, and_true] at this ⊢
    exact this
  unfold joinGood
  rw [e2, g1, hz, hp, decide_eq_true g4, decide_eq_true (show z.f2 = 255 from g5), decide_eq_true (show y.f0 = z.f0 from g6)]
  rfl
def NoJ (l : List BT) : Prop := ∀ i (h : i + 1 < l.length), joinGood (l[i]'(by omega)) l[i + 1] = false
theorem noJ_app {acc : List BT} {b : BT} (h : NoJ acc) (hb : ∀ hl : 0 < acc.length, joinGood (acc[acc.length - 1]'(by omega)) b = false) : NoJ (acc ++ [b]) := by
  intro i hi
  rw [List.length_append, List.length_singleton] at hi
  rw [List.getElem_append_left (by omega)]
  rcases Nat.lt_or_ge (i + 1) acc.length with hlt | hge
  · rw [List.getElem_append_left hlt]
    exact h i hlt
  · rw [List.getElem_append_right hge]
    have e : i = acc.length - 1 := by omega
    subst e
    simpa using hb (by omega)
theorem step_noJ {acc : List BT} {b : BT} (hv : ∀ x ∈ acc, batOk x = true) (h : NoJ acc) : NoJ (evenStep acc b) := by
  unfold evenStep
  by_cases hl : 0 < acc.length
  · rw [dif_pos hl]
    by_cases hj : joinGood (acc[acc.length - 1]'(by omega)) b = true
    · rw [if_pos hj]
      intro i hi
      rw [List.length_set] at hi
      rw [List.getElem_set_ne (by omega)]
      rcases Nat.lt_or_ge (i + 1) (acc.length - 1) with hlt | hge
      · rw [List.getElem_set_ne (by omega)]
        exact h i (by omega)
      · have e : i + 1 = acc.length - 1 := by omega
        simp only [e, List.getElem_set_self]
        cases hg : joinGood acc[i] (joinB (acc[acc.length - 1]'(by omega)) b)
        · rfl
        · have h1 := good_of_join (hv _ (List.getElem_mem _)) hg
          have h2 := h i (by omega)
          simp only [e] at h2
          rw [h2] at h1
          exact absurd h1 (by simp)
    · rw [if_neg hj]
      exact noJ_app h fun _ => by simpa using hj
  · rw [dif_neg hl]
    exact noJ_app h fun k => absurd k hl
theorem fold_noJ : ∀ (l acc : List BT), EvenOk acc l → NoJ acc → NoJ (l.foldl evenStep acc)
  | [], acc, _, h => h
  | b :: l, acc, ho, h => by
    rw [List.foldl_cons]
    exact fold_noJ l _ (step_ok ho) (step_noJ (fun x hx => ho.1 x (by simp [hx])) h)
theorem even_noJ {l : List BT} (h : logOk l = true) : NoJ (evenV l) :=
  fold_noJ l [] ⟨fun b hb => logOk_mem h b (by simpa using hb), incB_log h⟩ fun i hi => by simp at hi
theorem fold_same : ∀ (l acc : List BT), NoJ (acc ++ l) → l.foldl evenStep acc = acc ++ l
  | [], acc, _ => by simp
  | b :: l, acc, h => by
    rw [List.foldl_cons]
    have e : evenStep acc b = acc ++ [b] := by
      unfold evenStep
      by_cases hl : 0 < acc.length
      · rw [dif_pos hl, if_neg]
        have := h (acc.length - 1) (by rw [List.length_append, List.length_cons]; omega)
        rw [List.getElem_append_left (by omega), List.getElem_append_right (by omega)] at this
        simp only [show acc.length - 1 + 1 - acc.length = 0 by omega, List.getElem_cons_zero] at this
        rw [this]
        simp
      · rw [dif_neg hl]
    rw [e, fold_same l _ (by rw [List.append_assoc]; exact h), List.append_assoc]
    rfl
theorem even_same {l : List BT} (h : NoJ l) : evenV l = l := by
  have := fold_same l [] (by simpa using h)
  simpa [evenV] using this
end Go.Proofs.YtbbboachakkgiaaDoor.Pu

namespace Go.Proofs.YtbbboachakkgiaaDoor.Pu
open Go.RowKit Go.Proofs.YtbbboachakkgiaaDoorW.PrintWords Go.Proofs.YtbbboachakkgiaaDoorW.PrintLast Go.Proofs.YtbbboachakkgiaaDoorW.PrintMore Go.Proofs.YtbbboachakkgiaaDoor.G
set_option linter.unusedVariables false
set_option linter.unusedSimpArgs false
theorem sjoin_j (a b : BT) (x : Bool) (ha : batOk a = true) (hb : batOk b = true) : Ev (fun k => spec_BatchJoin.j0 k x a.f0 a.f1 a.f2 a.f3 a.f4 a.f5 b.f0 b.f1 b.f2 b.f3 b.f4 b.f5) (if x = true ∨ ¬ batOk (freeB a.f0 (a.f5 ++ b.f5)) = true then (false, false, 0, 0, 0, [], false) else (a.f0, false, 255, 0, 0, a.f5 ++ b.f5, true)) := by
  refine Ev.step (fun k => by rw [spec_BatchJoin.j0]) ?_
  cases x
  · simp only [Bool.false_eq_true, if_false, false_or]
    have h1 := short_of ha
    have h2 := short_of hb
    have l1 := h1.1
    have l2 := h2.1
    simp only [bindS, List.length_nil, List.nil_append, if_pos (show 0 + a.f5.length < 1759218604441 by omega), if_pos (show a.f5.length + b.f5.length < 1759218604441 by omega)]
    refine Ev.bind (free_ev12 a.f0 (a.f5 ++ b.f5) ⟨by rw [List.length_append]; omega, fun r hr => by rcases List.mem_append.1 hr with hr | hr; exact h1.2 r hr; exact h2.2 r hr⟩) ?_
    have e : batOk ⟨a.f0, false, 255, 0, 0, a.f5 ++ b.f5⟩ = batOk (freeB a.f0 (a.f5 ++ b.f5)) := rfl
    simp only [spec_BatchValid.f, bindS, e]
    by_cases hv : batOk (freeB a.f0 (a.f5 ++ b.f5)) = true
    · rw [if_neg (show ¬ ¬ batOk (freeB a.f0 (a.f5 ++ b.f5)) = true from fun h => h hv)]
      simp only [hv, if_true]
      exact Ev.now _
    · rw [if_pos hv]
      simp only [if_neg hv]
      exact Ev.now _
  · simp only [if_true, true_or]
    exact Ev.now _
theorem sBatchJoin_ev (a b : BT) : Ev (fun k => spec_BatchJoin.f k a.f0 a.f1 a.f2 a.f3 a.f4 a.f5 b.f0 b.f1 b.f2 b.f3 b.f4 b.f5) (bjoinV a b) := by
  have bad : ∀ k, spec_BatchJoin.j0 (k + 1) true a.f0 a.f1 a.f2 a.f3 a.f4 a.f5 b.f0 b.f1 b.f2 b.f3 b.f4 b.f5 = some (false, false, 0, 0, 0, [], false) := fun k => by rw [spec_BatchJoin.j0]; simp
  have badE : Ev (fun k => spec_BatchJoin.j0 k true a.f0 a.f1 a.f2 a.f3 a.f4 a.f5 b.f0 b.f1 b.f2 b.f3 b.f4 b.f5) (false, false, 0, 0, 0, [], false) := Ev.step bad (Ev.now _)
  unfold spec_BatchJoin.f bjoinV joinGood
  simp only [spec_BatchValid.f, bindS]
  cases ha : batOk a
  · simpa using badE
  · cases hb : batOk b
    · simpa using badE
    · simp only [if_true, Bool.true_and]
      by_cases h2 : a.f2 = 255
      · by_cases h3 : b.f2 = 255
        · have ef := free_of ha h2
          have e5 : (⟨a.f0, a.f1, a.f2, a.f3, a.f4, a.f5 ++ b.f5⟩ : BT) = freeB a.f0 (a.f5 ++ b.f5) := by
            obtain ⟨a0, a1, a2, a3, a4, l⟩ := a
            simp only [freeB, S47.mk.injEq, true_and, and_true] at ef ⊢
            exact ef
          have e6 : ((a.f0, a.f1, a.f2, a.f3, a.f4, a.f5 ++ b.f5, true) : BJoinT) = (a.f0, false, 255, 0, 0, a.f5 ++ b.f5, true) := by
            have := e5
            simp only [freeB, S47.mk.injEq, true_and, and_true] at this
            obtain ⟨q1, q2, q3, q4⟩ := this
            rw [q1, q2, q3, q4]
          rw [e5, e6]
          simp only [if_pos h2, if_pos h3, decide_eq_true h2, decide_eq_true h3, Bool.true_and]
          have := sjoin_j a b (a.f0 != b.f0) ha hb
          by_cases h4 : a.f0 = b.f0
          · have e : (a.f0 != b.f0) = false := by simp [h4]
            rw [e] at this ⊢
            simp only [Bool.false_eq_true, false_or] at this
            rw [decide_eq_true h4, Bool.true_and]
            by_cases hv : batOk (freeB a.f0 (a.f5 ++ b.f5)) = true
            · rw [if_neg (by simp [hv])] at this
              rw [if_pos hv]
              exact this
            · rw [if_pos hv] at this
              rw [if_neg hv]
              exact this
          · have e : (a.f0 != b.f0) = true := by simp [h4]
            rw [e, decide_eq_false h4, Bool.false_and, if_neg (by simp)]
            exact badE
        · simp only [if_pos h2, if_neg h3, decide_eq_false h3, Bool.false_and, Bool.and_false, Bool.false_eq_true, if_false]
          exact badE
      · simp only [if_neg h2, decide_eq_false h2, Bool.false_and, Bool.and_false, Bool.false_eq_true, if_false]
        exact badE
end Go.Proofs.YtbbboachakkgiaaDoor.Pu

namespace Go.Proofs.YtbbboachakkgiaaDoor.Pu
open Go.RowKit Go.Proofs.YtbbboachakkgiaaDoorW.PrintWords Go.Proofs.YtbbboachakkgiaaDoorW.PrintLast Go.Proofs.YtbbboachakkgiaaDoorW.PrintMore Go.Proofs.YtbbboachakkgiaaDoor.G
set_option linter.unusedVariables false
set_option linter.unusedSimpArgs false
theorem l12Batch_loop (b0 b1 : Bool) (b2 b3 b4 : Int) (l : List RT) (h : ShortR l) : ∀ d i, l.length - i = d → i ≤ l.length → Ev (fun k => spec_l12Batch.l0 k (l.take i) (i : Int) b0 b1 b2 b3 b4 l) (b0, b1, b2, b3, b4, l) := by
  intro d
  induction d with
  | zero =>
    intro i hd hi
    refine Ev.step (fun k => by rw [spec_l12Batch.l0]) ?_
    simp only [if_neg (show ¬ (i : Int) < (l.length : Int) by omega), List.take_of_length_le (show l.length ≤ i by omega)]
    exact Ev.now _
  | succ d ih =>
    intro i hd hi
    have hlt : i < l.length := by omega
    have hl := h.1
    refine Ev.step (fun k => by rw [spec_l12Batch.l0]) ?_
    simp only [if_pos (show (i : Int) < (l.length : Int) by omega), if_pos (show (0 : Int) ≤ (i : Int) by omega), rdR_nat l i hlt, l12Copy_ev _ (h.2 _ (List.getElem_mem hlt)), bindS, w64 (a := (i : Int) + 1) (by omega) (by omega), if_pos (show (l.take i).length < 1759218604441 by rw [List.length_take]; omega)]
    have := ih (i + 1) (by omega) (by omega)
    rw [← List.take_append_getElem hlt] at this
    exact this
theorem l12Batch_ev (b : BT) (h : ShortR b.f5) : Ev (fun k => spec_l12Batch.f k b.f0 b.f1 b.f2 b.f3 b.f4 b.f5) (b.f0, b.f1, b.f2, b.f3, b.f4, b.f5) := by
  unfold spec_l12Batch.f
  have := l12Batch_loop b.f0 b.f1 b.f2 b.f3 b.f4 b.f5 h _ 0 rfl (by omega)
  simpa using this
end Go.Proofs.YtbbboachakkgiaaDoor.Pu

namespace Go.Proofs.YtbbboachakkgiaaDoor.Pu
open Go.RowKit Go.Proofs.YtbbboachakkgiaaDoorW.PrintWords Go.Proofs.YtbbboachakkgiaaDoorW.PrintLast Go.Proofs.YtbbboachakkgiaaDoorW.PrintMore Go.Proofs.YtbbboachakkgiaaDoor.G
set_option linter.unusedVariables false
set_option linter.unusedSimpArgs false
def logEvenV (l : List BT) : List BT × Bool := if logOk l = true then (evenV l, true) else ([], false)
theorem even_loop (l : List BT) (hl : l.length ≤ 8) (hs : ∀ b ∈ l, ShortR b.f5) : ∀ d i (acc : List BT), l.length - i = d → i ≤ l.length → acc.length ≤ i → Ev (fun k => impl_LogEven.l0 k acc l (l.length : Int) (i : Int)) ((l.drop i).foldl evenStep acc, true) := by
  intro d
  induction d with
  | zero =>
    intro i acc hd hi ha
    refine Ev.step (fun k => by rw [impl_LogEven.l0]) ?_
    simp only [if_neg (show ¬ (i : Int) < (l.length : Int) by omega), List.drop_of_length_le (show l.length ≤ i by omega), List.foldl_nil]
    exact Ev.now _
  | succ d ih =>
    intro i acc hd hi ha
    have hlt : i < l.length := by omega
    have hw : wrap64 ((i : Int) + 1) = ((i + 1 : Nat) : Int) := by rw [w64 (by omega) (by omega)]; omega
    have hcp := copyBatch_ev l[i] (hs _ (List.getElem_mem hlt))
    refine Ev.step (fun k => by rw [impl_LogEven.l0]) ?_
    rw [List.drop_eq_getElem_cons hlt, List.foldl_cons]
    simp only [if_pos (show (i : Int) < (l.length : Int) by omega), if_pos (show (0 : Int) ≤ (i : Int) by omega), rdB_nat l i hlt, hw]
    by_cases h0 : 0 < acc.length
    · have hlast : acc.length - 1 < acc.length := by omega
      have ew : wrap64 ((acc.length : Int) - 1) = ((acc.length - 1 : Nat) : Int) := by rw [w64 (by omega) (by omega)]; omega
      simp only [if_pos (show (acc.length : Int) > 0 by omega), ew, if_pos (show (0 : Int) ≤ ((acc.length - 1 : Nat) : Int) by omega), if_pos (show ((acc.length - 1 : Nat) : Int) < (acc.length : Int) by omega), rdB_nat acc _ hlast, Int.toNat_natCast]
      refine Ev.bind (BatchJoin_ev acc[acc.length - 1] l[i]) ?_
      by_cases hg : joinGood acc[acc.length - 1] l[i] = true
      · have e : evenStep acc l[i] = acc.set (acc.length - 1) (joinB acc[acc.length - 1] l[i]) := by unfold evenStep; rw [dif_pos h0, if_pos hg]
        rw [e]
        unfold bjoinV
        simp only [if_pos hg, if_true]
        exact ih (i + 1) _ (by omega) (by omega) (by rw [List.length_set]; omega)
      · have e : evenStep acc l[i] = acc ++ [l[i]] := by unfold evenStep; rw [dif_pos h0, if_neg hg]
        rw [e]
        unfold bjoinV
        simp only [if_neg hg, Bool.false_eq_true, if_false]
        refine Ev.bind hcp ?_
        simp only [if_pos (show acc.length < 2513169434916 by omega)]
        exact ih (i + 1) _ (by omega) (by omega) (by rw [List.length_append, List.length_singleton]; omega)
    · have e : evenStep acc l[i] = acc ++ [l[i]] := by unfold evenStep; rw [dif_neg h0]
      rw [e]
      simp only [if_neg (show ¬ (acc.length : Int) > 0 by omega)]
      refine Ev.bind hcp ?_
      simp only [if_pos (show acc.length < 2513169434916 by omega)]
      exact ih (i + 1) _ (by omega) (by omega) (by rw [List.length_append, List.length_singleton]; omega)
theorem short_all {l : List BT} (h : logOk l = true) : ∀ b ∈ l, ShortR b.f5 := fun b hb => short_of (logOk_mem h b hb)
theorem LogEven_ev (l : List BT) : Ev (fun k => impl_LogEven.f k l) (logEvenV l) := by
  unfold impl_LogEven.f logEvenV
  simp only [impl_LogValid.f, bindS]
  by_cases h : logOk l = true
  · simp only [if_pos h]
    have := even_loop l (logOk_len h) (short_all h) _ 0 [] rfl (by omega) (by simp)
    simpa [evenV] using this
  · simp only [if_neg h]
    exact Ev.now _
theorem sEven_loop (l : List BT) (hl : l.length ≤ 8) (hs : ∀ b ∈ l, ShortR b.f5) : ∀ d i (acc : List BT), l.length - i = d → i ≤ l.length → acc.length ≤ i → Ev (fun k => spec_LogEven.l0 k l acc (i : Int)) ((l.drop i).foldl evenStep acc, true) := by
  intro d
  induction d with
  | zero =>
    intro i acc hd hi ha
    refine Ev.step (fun k => by rw [spec_LogEven.l0]) ?_
    simp only [if_neg (show ¬ (i : Int) < (l.length : Int) by omega), List.drop_of_length_le (show l.length ≤ i by omega), List.foldl_nil]
    exact Ev.now _
  | succ d ih =>
    intro i acc hd hi ha
    have hlt : i < l.length := by omega
    have hw : wrap64 ((i : Int) + 1) = ((i + 1 : Nat) : Int) := by rw [w64 (by omega) (by omega)]; omega
    have hcp := l12Batch_ev l[i] (hs _ (List.getElem_mem hlt))
    refine Ev.step (fun k => by rw [spec_LogEven.l0]) ?_
    rw [List.drop_eq_getElem_cons hlt, List.foldl_cons]
    simp only [if_pos (show (i : Int) < (l.length : Int) by omega), if_pos (show (0 : Int) ≤ (i : Int) by omega), rdB_nat l i hlt, hw]
    by_cases h0 : 0 < acc.length
    · have hlast : acc.length - 1 < acc.length := by omega
      have ew : wrap64 ((acc.length : Int) - 1) = ((acc.length - 1 : Nat) : Int) := by rw [w64 (by omega) (by omega)]; omega
      simp only [if_pos (show (acc.length : Int) > 0 by omega), ew, if_pos (show (0 : Int) ≤ ((acc.length - 1 : Nat) : Int) by omega), if_pos (show ((acc.length - 1 : Nat) : Int) < (acc.length : Int) by omega), rdB_nat acc _ hlast, Int.toNat_natCast]
      refine Ev.bind (sBatchJoin_ev acc[acc.length - 1] l[i]) ?_
      by_cases hg : joinGood acc[acc.length - 1] l[i] = true
      · have e : evenStep acc l[i] = acc.set (acc.length - 1) (joinB acc[acc.length - 1] l[i]) := by unfold evenStep; rw [dif_pos h0, if_pos hg]
        rw [e]
        unfold bjoinV
        simp only [if_pos hg, if_true]
        exact ih (i + 1) _ (by omega) (by omega) (by rw [List.length_set]; omega)
      · have e : evenStep acc l[i] = acc ++ [l[i]] := by unfold evenStep; rw [dif_pos h0, if_neg hg]
        rw [e]
        unfold bjoinV
        simp only [if_neg hg, Bool.false_eq_true, if_false]
        refine Ev.bind hcp ?_
        simp only [if_pos (show acc.length < 2513169434916 by omega)]
        exact ih (i + 1) _ (by omega) (by omega) (by rw [List.length_append, List.length_singleton]; omega)
    · have e : evenStep acc l[i] = acc ++ [l[i]] := by unfold evenStep; rw [dif_neg h0]
      rw [e]
      simp only [if_neg (show ¬ (acc.length : Int) > 0 by omega)]
      refine Ev.bind hcp ?_
      simp only [if_pos (show acc.length < 2513169434916 by omega)]
      exact ih (i + 1) _ (by omega) (by omega) (by rw [List.length_append, List.length_singleton]; omega)
theorem sLogEven_ev (l : List BT) : Ev (fun k => spec_LogEven.f k l) (logEvenV l) := by
  unfold spec_LogEven.f logEvenV
  simp only [spec_LogValid.f, bindS]
  by_cases h : logOk l = true
  · simp only [if_pos h]
    have := sEven_loop l (logOk_len h) (short_all h) _ 0 [] rfl (by omega) (by simp)
    simpa [evenV] using this
  · simp only [if_neg h]
    exact Ev.now _
theorem even_row {l : List BT} (h : RowB l) : RowB (logEvenV l).1 := by
  unfold logEvenV
  by_cases hv : logOk l = true
  · rw [if_pos hv]
    have ho := even_ok hv
    exact ⟨by show (evenV l).length ≤ _; have := logOk_len ho; omega, fun b hb => short_row (short_of (logOk_mem ho b hb))⟩
  · rw [if_neg hv]
    exact ⟨by simp, fun b hb => by simp at hb⟩
end Go.Proofs.YtbbboachakkgiaaDoor.Pu

namespace Go.Proofs.YtbbboachakkgiaaDoor.Pu
open Go.RowKit Go.Proofs.YtbbboachakkgiaaDoorW.PrintWords Go.Proofs.YtbbboachakkgiaaDoorW.PrintLast Go.Proofs.YtbbboachakkgiaaDoorW.PrintMore Go.Proofs.YtbbboachakkgiaaDoor.G
set_option linter.unusedVariables false
set_option linter.unusedSimpArgs false
theorem selfInts (l : List Int) (hl : l.length ≤ 9223372036854775807) : Ev (fun k => laws_sameInts.f k l l) true := by
  unfold laws_sameInts.f
  simp only [if_true]
  have := ev_all l hl (fun k i => laws_sameInts.l0 k l l i) (fun k i => some true) (fun _ => true) true
    (fun k => by simp only [laws_sameInts.l0]; rw [if_neg (by omega)])
    (fun k i h => by simp only [laws_sameInts.l0]; rw [if_pos (by omega), if_pos (by omega), if_pos (by omega), if_pos trivial]; rfl)
    (fun i h => Ev.now _) l.length 0 (by omega) (by omega)
  rw [show ((l.drop 0).all fun _ => true) = true from List.all_eq_true.2 (fun _ _ => rfl)] at this
  simpa using this
theorem selfRecord (x : S33) (h : Lens x) : Ev (fun k => laws_sameRecord.f k x.f0 x.f1 x.f2 x.f3 x.f4 x.f5 x.f0 x.f1 x.f2 x.f3 x.f4 x.f5) true := by
  unfold laws_sameRecord.f
  simp only [if_true, beq_self_eq_true]
  refine Ev.bind (selfInts _ h.1) ?_
  simp only [if_true]
  exact Ev.bind (selfInts _ h.2) (Ev.now _)
theorem selfRecords (l : List S33) (h : RowR l) : Ev (fun k => laws_sameRecords.f k l l) true := by
  unfold laws_sameRecords.f
  simp only [if_true]
  have := ev_all l h.1 (fun k i => laws_sameRecords.l0 k l l i) (fun k i => laws_sameRecord.f k (rd_T33 l i).f0 (rd_T33 l i).f1 (rd_T33 l i).f2 (rd_T33 l i).f3 (rd_T33 l i).f4 (rd_T33 l i).f5 (rd_T33 l i).f0 (rd_T33 l i).f1 (rd_T33 l i).f2 (rd_T33 l i).f3 (rd_T33 l i).f4 (rd_T33 l i).f5) (fun _ => true) true
    (fun k => by simp only [laws_sameRecords.l0]; rw [if_neg (by omega)])
    (fun k i h => by simp only [laws_sameRecords.l0]; rw [if_pos (by omega), if_pos (by omega), if_pos (by omega)])
    (fun i hi => by rw [rdR_nat l i hi]; exact selfRecord _ (h.2 _ (List.getElem_mem hi))) l.length 0 (by omega) (by omega)
  rw [show ((l.drop 0).all fun _ => true) = true from List.all_eq_true.2 (fun _ _ => rfl)] at this
  simpa using this
theorem selfBatch (b : S47) (h : RowR b.f5) : Ev (fun k => laws_sameBatch.f k b.f0 b.f1 b.f2 b.f3 b.f4 b.f5 b.f0 b.f1 b.f2 b.f3 b.f4 b.f5) true := by
  unfold laws_sameBatch.f
  simp only [if_true, beq_self_eq_true]
  exact Ev.bind (selfRecords _ h) (Ev.now _)
end Go.Proofs.YtbbboachakkgiaaDoor.Pu

namespace Go.Proofs.YtbbboachakkgiaaDoor.Pu
open Go.RowKit Go.Proofs.YtbbboachakkgiaaDoorW.PrintWords Go.Proofs.YtbbboachakkgiaaDoorW.PrintLast Go.Proofs.YtbbboachakkgiaaDoorW.PrintMore Go.Proofs.YtbbboachakkgiaaDoor.G
set_option linter.unusedVariables false
set_option linter.unusedSimpArgs false
theorem selfLog (l : List S47) (h : RowB l) : Ev (fun k => laws_sameLog.f k l l) true := by
  unfold laws_sameLog.f
  simp only [if_true]
  have := ev_all l h.1 (fun k i => laws_sameLog.l0 k l l i) (fun k i => laws_sameBatch.f k (rd_T47 l i).f0 (rd_T47 l i).f1 (rd_T47 l i).f2 (rd_T47 l i).f3 (rd_T47 l i).f4 (rd_T47 l i).f5 (rd_T47 l i).f0 (rd_T47 l i).f1 (rd_T47 l i).f2 (rd_T47 l i).f3 (rd_T47 l i).f4 (rd_T47 l i).f5) (fun _ => true) true
    (fun k => by simp only [laws_sameLog.l0]; rw [if_neg (by omega)])
    (fun k i h => by simp only [laws_sameLog.l0]; rw [if_pos (by omega), if_pos (by omega), if_pos (by omega)])
    (fun i hi => by rw [rdB_nat l i hi]; exact selfBatch _ (h.2 _ (List.getElem_mem hi))) l.length 0 (by omega) (by omega)
  rw [show ((l.drop 0).all fun _ => true) = true from List.all_eq_true.2 (fun _ _ => rfl)] at this
  simpa using this
end Go.Proofs.YtbbboachakkgiaaDoor.Pu

namespace Go.Proofs.YtbbboachakkgiaaDoor.Pu
open Go.RowKit Go.Proofs.YtbbboachakkgiaaDoorW.PrintWords Go.Proofs.YtbbboachakkgiaaDoorW.PrintLast Go.Proofs.YtbbboachakkgiaaDoor.G
set_option linter.unusedVariables false
set_option linter.unusedSimpArgs false
theorem xor_i64 (a b : Int) (h0 : 0 ≤ a) (h1 : a < 4611686018427387904) (k0 : 0 ≤ b) (k1 : b < 4611686018427387904) : 0 ≤ bits .xor .i64 a b := by
  obtain ⟨a, rfl⟩ := Int.eq_ofNat_of_zero_le h0
  obtain ⟨b, rfl⟩ := Int.eq_ofNat_of_zero_le k0
  have ha : a < 2 ^ 62 := by omega
  have hb : b < 2 ^ 62 := by omega
  have hx := Nat.xor_lt_two_pow ha hb
  have ha' : a % 2 ^ 64 = a := Nat.mod_eq_of_lt (by omega)
  have hb' : b % 2 ^ 64 = b := Nat.mod_eq_of_lt (by omega)
  show 0 ≤ IntKind.i64.wrap ((BitVec.ofInt 64 (a : Int) ^^^ BitVec.ofInt 64 (b : Int)).toNat : Int)
  rw [BitVec.ofInt_natCast, BitVec.ofInt_natCast, BitVec.toNat_xor, BitVec.toNat_ofNat, BitVec.toNat_ofNat, ha', hb', IntKind.wrap_i64]
  omega
theorem rd_range {b : List Int} (hb : ∀ x ∈ b, 0 ≤ x ∧ x ≤ 255) (i : Int) : 0 ≤ rd b i ∧ rd b i ≤ 255 := by
  unfold rd
  rw [List.getD_eq_getElem?_getD]
  rcases h : b[i.toNat]? with _ | x
  · simp
  · exact hb x (List.mem_of_getElem? h)
theorem mod_range {x n : Int} (h0 : 0 ≤ x) (h1 : 1 ≤ n) : 0 ≤ Int.tmod x n ∧ Int.tmod x n < n := by
  rw [Int.tmod_eq_emod_of_nonneg h0]
  exact ⟨Int.emod_nonneg _ (by omega), Int.emod_lt_of_pos _ (by omega)⟩
/-- A code that is read: bytes, and a place that is no great number. -/
def CodeOk (b : List Int) : Prop := b.length ≤ 2000 ∧ ∀ x ∈ b, 0 ≤ x ∧ x ≤ 255
theorem pick_ends {b : List Int} (hb : CodeOk b) (p n : Int) (h0 : 0 ≤ p) (h1 : p ≤ 1000000000) (hn : n ≤ 4611686018427387904) :
    EndsIn (fun k => spec_l6Rd_pick.f k b p n) (fun r => r.2 = p + 1 ∧ 0 ≤ r.1 ∧ (1 ≤ n → r.1 < n) ∧ (n < 1 → r.1 = 0)) := by
  obtain ⟨hl, hr⟩ := hb
  unfold spec_l6Rd_pick.f
  rw [w64 (a := p + 1) (by omega) (by omega)]
  by_cases hn1 : n < 1
  · simp only [if_pos hn1]
    refine EndsIn.step (fun k => by rw [spec_l6Rd_pick.j0]) ?_
    simp only [if_true]
    exact EndsIn.now _ ⟨rfl, by omega, by omega, fun _ => rfl⟩
  · simp only [if_neg hn1]
    refine EndsIn.step (fun k => by rw [spec_l6Rd_pick.j0]) ?_
    rw [show p + 1 - 1 = p by omega, w64 (a := p) (by omega) (by omega)]
    by_cases hz : (b.length : Int) = 0
    · have : ((b.length : Int) == 0) = true := by simpa using hz
      simp only [this, if_true]
      exact EndsIn.now _ ⟨rfl, by omega, by omega, fun h => by omega⟩
    · have hz' : ((b.length : Int) == 0) = false := by simpa using hz
      simp only [hz', Bool.false_eq_true, if_false]
      by_cases hp : p < (b.length : Int)
      · have hx := rd_range hr p
        simp only [if_pos hp, if_pos h0, if_neg (show ¬ n = 0 by omega)]
        rw [w64 (a := rd b p) (by omega) (by omega)]
        have hm := mod_range (x := rd b p) (n := n) hx.1 (by omega)
        exact EndsIn.now _ ⟨rfl, hm.1, fun _ => hm.2, fun h => by omega⟩
      · have hm1 := mod_range (x := p) (n := (b.length : Int)) h0 (by omega)
        have h7 : wrap64 (wrap64 (p * 7) + 3) = p * 7 + 3 := by
          rw [w64 (a := p * 7) (by omega) (by omega), w64 (by omega) (by omega)]
        have hm2 := mod_range (x := p * 7 + 3) (n := (b.length : Int)) (by omega) (by omega)
        simp only [if_neg hp, if_neg hz, h7, if_pos hm1.1, if_pos hm1.2, if_pos hm2.1, if_pos hm2.2, if_neg (show ¬ n = 0 by omega)]
        have hx1 := rd_range hr (Int.tmod p b.length)
        have hx2 := rd_range hr (Int.tmod (p * 7 + 3) b.length)
        generalize rd b (Int.tmod p b.length) = x1 at hx1 ⊢
        generalize rd b (Int.tmod (p * 7 + 3) b.length) = x2 at hx2 ⊢
        have hd : 0 ≤ Int.tdiv p (b.length : Int) ∧ Int.tdiv p (b.length : Int) ≤ p := by
          rw [Int.tdiv_eq_ediv_of_nonneg h0]
          exact ⟨Int.ediv_nonneg h0 (by omega), Int.ediv_le_self _ h0⟩
        generalize Int.tdiv p (b.length : Int) = q at hd ⊢
        have e1 : wrap64 x1 = x1 := w64 (by omega) (by omega)
        have e2 : wrap64 x2 = x2 := w64 (by omega) (by omega)
        have e3 : wrap64 (x1 * 131) = x1 * 131 := w64 (by omega) (by omega)
        have e4 : wrap64 (x2 * 1117) = x2 * 1117 := w64 (by omega) (by omega)
        have e5 : wrap64 (x1 * 131 + x2 * 1117) = x1 * 131 + x2 * 1117 := w64 (by omega) (by omega)
        have e6 : wrap64 (p * 29) = p * 29 := w64 (by omega) (by omega)
        have e7 : wrap64 (x1 * 131 + x2 * 1117 + p * 29) = x1 * 131 + x2 * 1117 + p * 29 := w64 (by omega) (by omega)
        have e8 : wrap64 q = q := w64 (by omega) (by omega)
        have e9 : wrap64 (q * 53) = q * 53 := w64 (by omega) (by omega)
        have e10 : wrap64 (x1 * 131 + x2 * 1117 + p * 29 + q * 53) = x1 * 131 + x2 * 1117 + p * 29 + q * 53 := w64 (by omega) (by omega)
        simp only [e1, e2, e3, e4, e5, e6, e7, e8, e9, e10]
        have hX : 0 ≤ x1 * 131 + x2 * 1117 + p * 29 + q * 53 ∧ x1 * 131 + x2 * 1117 + p * 29 + q * 53 < 4611686018427387904 := ⟨by omega, by omega⟩
        generalize x1 * 131 + x2 * 1117 + p * 29 + q * 53 = X at hX ⊢
        have e11 : wrap64 (Int.tdiv X 64) = X / 64 := by
          rw [Int.tdiv_eq_ediv_of_nonneg hX.1]
          exact w64 (by omega) (by omega)
        rw [e11]
        have hxx := xor_i64 X (X / 64) hX.1 hX.2 (by omega) (by omega)
        have hm := mod_range (n := n) hxx (by omega)
        exact EndsIn.now _ ⟨rfl, hm.1, fun _ => hm.2, fun h => by omega⟩
end Go.Proofs.YtbbboachakkgiaaDoor.Pu

namespace Go.Proofs.YtbbboachakkgiaaDoor.Pu
open Go.RowKit Go.Proofs.YtbbboachakkgiaaDoorW.PrintWords Go.Proofs.YtbbboachakkgiaaDoorW.PrintLast Go.Proofs.YtbbboachakkgiaaDoorW.PrintMore Go.Proofs.YtbbboachakkgiaaDoor.G
set_option linter.unusedVariables false
set_option linter.unusedSimpArgs false
theorem part_loop {b : List Int} (hb : CodeOk b) (n : Int) (hn : n ≤ 12) : ∀ d (i : Nat) (l : List Int) (p : Int), 12 - i = d → l.length = i → i ≤ 12 → 0 ≤ p → p ≤ 900000000 + 2 * (i : Int) →
    EndsIn (fun k => spec_l91Part.l0 k l n (i : Int) b p) (fun r => r.2.1.length ≤ 12 ∧ p ≤ r.2.2 ∧ r.2.2 ≤ p + 2 * (12 - (i : Int))) := by
  intro d
  induction d with
  | zero =>
    intro i l p hd hl hi p0 p1
    refine EndsIn.step (fun k => by rw [spec_l91Part.l0]) ?_
    simp only [if_neg (show ¬ (i : Int) < n by omega)]
    exact EndsIn.now _ ⟨by show l.length ≤ 12; omega, by show p ≤ p; omega, by show p ≤ _; omega⟩
  | succ d ih =>
    intro i l p hd hl hi p0 p1
    refine EndsIn.step (fun k => by rw [spec_l91Part.l0]) ?_
    by_cases h : (i : Int) < n
    · simp only [if_pos h]
      refine EndsIn.bind (pick_ends hb p 256 p0 (by omega) (by omega)) fun q hq => ?_
      obtain ⟨q2, q3, q4, _⟩ := hq
      simp only [bindS]
      rw [q2]
      refine EndsIn.bind (pick_ends hb (p + 1) 4 (by omega) (by omega) (by omega)) fun s hs => ?_
      obtain ⟨s2, s3, s4, _⟩ := hs
      have s5 := s4 (by omega)
      rw [s2]
      simp only [if_pos s3, if_pos (show s.1 < (([1, 2, 3, q.1] : List Int).length : Int) by simpa using s5), if_pos (show l.length < 17592186044416 by omega), w64 (a := (i : Int) + 1) (by omega) (by omega)]
      have := ih (i + 1) (l ++ [rd [1, 2, 3, q.1] s.1]) (p + 1 + 1) (by omega) (by rw [List.length_append, hl]; rfl) (by omega) (by omega) (by omega)
      exact this.mono fun r hr => ⟨hr.1, by omega, by omega⟩
    · simp only [if_neg h]
      exact EndsIn.now _ ⟨by show l.length ≤ 12; omega, by show p ≤ p; omega, by show p ≤ _; omega⟩
theorem part_ends {b : List Int} (hb : CodeOk b) (p : Int) (h0 : 0 ≤ p) (h1 : p ≤ 800000000) : EndsIn (fun k => spec_l91Part.f k b p) (fun r => r.2.1.length ≤ 12 ∧ p ≤ r.2.2 ∧ r.2.2 ≤ p + 30) := by
  have st : ∀ (n q : Int), n ≤ 12 → p ≤ q → q ≤ p + 5 → EndsIn (fun k => spec_l91Part.j0 k [] n b q) (fun r => r.2.1.length ≤ 12 ∧ p ≤ r.2.2 ∧ r.2.2 ≤ p + 30) := by
    intro n q hn q0 q1
    refine EndsIn.step (fun k => by rw [spec_l91Part.j0]) ?_
    have := part_loop hb n hn 12 0 [] q (by omega) rfl (by omega) (by omega) (by omega)
    exact this.mono fun r hr => ⟨hr.1, by omega, by omega⟩
  unfold spec_l91Part.f
  refine EndsIn.bind (pick_ends hb p 4 h0 (by omega) (by omega)) fun q hq => ?_
  obtain ⟨q2, q3, q4, _⟩ := hq
  rw [q2]
  by_cases hz : q.1 = 0
  · simp only [if_pos hz]
    exact EndsIn.now _ ⟨by simp, by show p ≤ p + 1; omega, by show p + 1 ≤ p + 30; omega⟩
  · simp only [if_neg hz, bindS]
    refine EndsIn.bind (pick_ends hb (p + 1) 5 (by omega) (by omega) (by omega)) fun s hs => ?_
    obtain ⟨s2, s3, s4, _⟩ := hs
    have s5 := s4 (by omega)
    rw [s2]
    refine EndsIn.bind (pick_ends hb (p + 1 + 1) 12 (by omega) (by omega) (by omega)) fun u hu => ?_
    obtain ⟨u2, u3, u4, _⟩ := hu
    rw [u2]
    by_cases hu0 : u.1 = 0
    · simp only [if_pos hu0]
      exact st _ _ (by omega) (by omega) (by omega)
    · simp only [if_neg hu0]
      exact st _ _ (by omega) (by omega) (by omega)
def Small (r : S33) : Prop := r.f3.length ≤ 12 ∧ r.f5.length ≤ 12
theorem recs_loop {b : List Int} (hb : CodeOk b) (n : Int) (hn : n ≤ 6) : ∀ d (i : Nat) (l : List S33) (o t p : Int), 6 - i = d → l.length = i → i ≤ 6 → (∀ r ∈ l, Small r) → 0 ≤ p → p ≤ 700000000 + 100 * (i : Int) →
    EndsIn (fun k => spec_l91Records.l0 k o l n t (i : Int) b p) (fun r => (∀ x ∈ r.1, Small x) ∧ (n ≤ (r.1.length : Int)) ∧ r.1.length ≤ 6 ∧ p ≤ r.2 ∧ r.2 ≤ p + 100 * (6 - (i : Int))) := by
  have stop : ∀ (i : Nat) (l : List S33) (o t p : Int), l.length = i → i ≤ 6 → (∀ r ∈ l, Small r) → ¬ (i : Int) < n →
      EndsIn (fun k => spec_l91Records.l0 k o l n t (i : Int) b p) (fun r => (∀ x ∈ r.1, Small x) ∧ (n ≤ (r.1.length : Int)) ∧ r.1.length ≤ 6 ∧ p ≤ r.2 ∧ r.2 ≤ p + 100 * (6 - (i : Int))) := by
    intro i l o t p hl hi hs h
    refine EndsIn.step (fun k => by rw [spec_l91Records.l0]) ?_
    simp only [if_neg h]
    exact EndsIn.now _ ⟨hs, by show n ≤ (l.length : Int); omega, by show l.length ≤ 6; omega, by show p ≤ p; omega, by show p ≤ _; omega⟩
  intro d
  induction d with
  | zero =>
    intro i l o t p hd hl hi hs p0 p1
    exact stop i l o t p hl hi hs (by omega)
  | succ d ih =>
    intro i l o t p hd hl hi hs p0 p1
    by_cases h : (i : Int) < n
    · refine EndsIn.step (fun k => by rw [spec_l91Records.l0]) ?_
      simp only [if_pos h]
      refine EndsIn.bind (part_ends hb p p0 (by omega)) fun q hq => ?_
      obtain ⟨q1, q2, q3⟩ := hq
      refine EndsIn.bind (part_ends hb q.2.2 (by omega) (by omega)) fun s hs' => ?_
      obtain ⟨s1, s2, s3⟩ := hs'
      have st : ∀ (c : Bool) (u : Int), s.2.2 ≤ u → u ≤ s.2.2 + 2 → EndsIn (fun k => spec_l91Records.j1 k o l n t (i : Int) s.1 s.2.1 c b u o t q.1 q.2.1 false) (fun r => (∀ x ∈ r.1, Small x) ∧ (n ≤ (r.1.length : Int)) ∧ r.1.length ≤ 6 ∧ p ≤ r.2 ∧ r.2 ≤ p + 100 * (6 - (i : Int))) := by
        intro c u u0 u1
        refine EndsIn.step (fun k => by rw [spec_l91Records.j1]) ?_
        have nx : ∀ (x : S33) (o' t' v : Int), Small x → u ≤ v → v ≤ u + 5 → EndsIn (fun k => spec_l91Records.l0 k o' (l ++ [x]) n t' ((i : Int) + 1) b v) (fun r => (∀ x ∈ r.1, Small x) ∧ (n ≤ (r.1.length : Int)) ∧ r.1.length ≤ 6 ∧ p ≤ r.2 ∧ r.2 ≤ p + 100 * (6 - (i : Int))) := by
          intro x o' t' v hx v0 v1
          have := ih (i + 1) (l ++ [x]) o' t' v (by omega) (by rw [List.length_append, hl]; rfl) (by omega) (fun r hr => by
            rcases List.mem_append.1 hr with hr | hr
            · exact hs r hr
            · rw [List.mem_singleton] at hr
              rw [hr]
              exact hx) (by omega) (by omega)
          exact this.mono fun r hr => ⟨hr.1, hr.2.1, hr.2.2.1, by omega, by omega⟩
        cases c
        · simp only [Bool.false_eq_true, if_false, if_pos (show l.length < 1759218604441 by omega)]
          refine EndsIn.bind (pick_ends hb u 5 (by omega) (by omega) (by omega)) fun v hv => ?_
          rw [hv.1]
          refine EndsIn.bind (pick_ends hb (u + 1) 30 (by omega) (by omega) (by omega)) fun z hz => ?_
          rw [hz.1, w64 (a := (i : Int) + 1) (by omega) (by omega)]
          exact nx _ _ _ _ ⟨q1, s1⟩ (by omega) (by omega)
        · simp only [if_true, if_pos (show l.length < 1759218604441 by omega)]
          refine EndsIn.bind (pick_ends hb u 3 (by omega) (by omega) (by omega)) fun y hy => ?_
          rw [hy.1]
          refine EndsIn.bind (pick_ends hb (u + 1) 5 (by omega) (by omega) (by omega)) fun v hv => ?_
          rw [hv.1]
          refine EndsIn.bind (pick_ends hb (u + 1 + 1) 30 (by omega) (by omega) (by omega)) fun z hz => ?_
          rw [hz.1, w64 (a := (i : Int) + 1) (by omega) (by omega)]
          exact nx _ _ _ _ ⟨by show 1 ≤ 12; omega, s1⟩ (by omega) (by omega)
      cases hq1 : q.1
      · simp only [Bool.false_eq_true, if_false]
        have := st false s.2.2 (by omega) (by omega)
        rw [hq1] at this
        exact this
      · simp only [if_true]
        refine EndsIn.bind (pick_ends hb s.2.2 2 (by omega) (by omega) (by omega)) fun y hy => ?_
        rw [hy.1]
        have := st (y.1 == 0) (s.2.2 + 1) (by omega) (by omega)
        rw [hq1] at this
        exact this
    · exact stop i l o t p hl hi hs h
/-- Some records: one at least. -/
theorem recs_ends {b : List Int} (hb : CodeOk b) (p a n : Int) (h0 : 0 ≤ p) (h1 : p ≤ 600000000) (hn1 : 1 ≤ n) (hn : n ≤ 6) :
    EndsIn (fun k => spec_l91Records.f k b p a n) (fun r => (∀ x ∈ r.1, Small x) ∧ 1 ≤ r.1.length ∧ r.1.length ≤ 6 ∧ p ≤ r.2 ∧ r.2 ≤ p + 700) := by
  unfold spec_l91Records.f
  refine EndsIn.bind (pick_ends hb p n h0 (by omega) (by omega)) fun q hq => ?_
  obtain ⟨q2, q3, q4, _⟩ := hq
  have q5 := q4 (by omega)
  rw [q2]
  refine EndsIn.bind (pick_ends hb (p + 1) 200 (by omega) (by omega) (by omega)) fun s hs => ?_
  rw [hs.1, w64 (a := 1 + q.1) (by omega) (by omega)]
  have := recs_loop hb (1 + q.1) (by omega) 6 0 [] a s.1 (p + 1 + 1) (by omega) rfl (by omega) (by simp) (by omega) (by omega)
  exact this.mono fun r hr => ⟨hr.1, by omega, hr.2.2.1, by omega, by omega⟩
def BatS (l : List S33) : Prop := (∀ x ∈ l, Small x) ∧ 1 ≤ l.length ∧ l.length ≤ 7
theorem bat_j {b : List Int} (hb : CodeOk b) (p : Int) (h0 : 0 ≤ p) (h1 : p ≤ 600000000) (c0 c1 : Bool) (x y z : Int) (l : List S33) (hl : (∀ x ∈ l, Small x) ∧ 1 ≤ l.length ∧ l.length ≤ 6) :
    EndsIn (fun k => spec_l91Batch.j0 k b p c0 c1 x y z l) (fun r => BatS r.2.2.2.2.2.1 ∧ p ≤ r.2.2.2.2.2.2 ∧ r.2.2.2.2.2.2 ≤ p + 3) := by
  obtain ⟨l1, l2, l3⟩ := hl
  have hB : BatS l := ⟨l1, l2, by omega⟩
  refine EndsIn.step (fun k => by rw [spec_l91Batch.j0]) ?_
  refine EndsIn.bind (pick_ends hb p 40 h0 (by omega) (by omega)) fun q hq => ?_
  rw [hq.1]
  by_cases e0 : q.1 = 0
  · simp only [if_pos e0, bindS]
    refine EndsIn.bind (pick_ends hb (p + 1) 3 (by omega) (by omega) (by omega)) fun s hs => ?_
    obtain ⟨s2, s3, s4, _⟩ := hs
    have s5 := s4 (by omega)
    simp only [if_pos s3, if_pos (show s.1 < (([(-1), 1, 100] : List Int).length : Int) by simpa using s5)]
    exact EndsIn.now _ ⟨hB, by show p ≤ s.2; omega, by show s.2 ≤ p + 3; omega⟩
  · simp only [if_neg e0]
    by_cases e1 : q.1 = 1
    · simp only [if_pos e1, if_pos (show (0 : Int) < (l.length : Int) by omega), if_pos (show l.length < 1759218604441 by omega)]
      refine EndsIn.now _ ⟨⟨fun r hr => ?_, by show 1 ≤ (l ++ [_]).length; rw [List.length_append]; omega, by show (l ++ [_]).length ≤ 7; rw [List.length_append]; simp only [List.length_singleton]; omega⟩, by show p ≤ p + 1; omega, by show p + 1 ≤ p + 3; omega⟩
      rcases List.mem_append.1 hr with hr | hr
      · exact l1 r hr
      · rw [List.mem_singleton] at hr
        rw [hr]
        have := l1 _ (List.getElem_mem (show 0 < l.length by omega))
        rw [← rdR_nat l 0 (by omega)] at this
        exact this
    · simp only [if_neg e1]
      by_cases e2 : q.1 = 2
      · simp only [if_pos e2]
        exact EndsIn.now _ ⟨hB, by show p ≤ p + 1; omega, by show p + 1 ≤ p + 3; omega⟩
      · simp only [if_neg e2]
        exact EndsIn.now _ ⟨hB, by show p ≤ p + 1; omega, by show p + 1 ≤ p + 3; omega⟩
theorem bat_ends {b : List Int} (hb : CodeOk b) (p a : Int) (h0 : 0 ≤ p) (h1 : p ≤ 500000000) :
    EndsIn (fun k => spec_l91Batch.f k b p a) (fun r => BatS r.2.2.2.2.2.1 ∧ p ≤ r.2.2.2.2.2.2 ∧ r.2.2.2.2.2.2 ≤ p + 800) := by
  unfold spec_l91Batch.f
  refine EndsIn.bind (pick_ends hb p 2 h0 (by omega) (by omega)) fun q hq => ?_
  rw [hq.1]
  refine EndsIn.bind (recs_ends hb (p + 1) a 4 (by omega) (by omega) (by omega) (by omega)) fun s hs => ?_
  obtain ⟨s1, s2, s3, s4, s5⟩ := hs
  refine EndsIn.bind (pick_ends hb s.2 3 (by omega) (by omega) (by omega)) fun t ht => ?_
  rw [ht.1]
  by_cases e0 : t.1 = 0
  · simp only [if_pos e0]
    refine EndsIn.bind (pick_ends hb (s.2 + 1) 3 (by omega) (by omega) (by omega)) fun u hu => ?_
    rw [hu.1]
    refine EndsIn.bind (pick_ends hb (s.2 + 1 + 1) 3 (by omega) (by omega) (by omega)) fun v hv => ?_
    rw [hv.1]
    refine EndsIn.bind (pick_ends hb (s.2 + 1 + 1 + 1) 5 (by omega) (by omega) (by omega)) fun x hx => ?_
    rw [hx.1]
    refine EndsIn.bind (pick_ends hb (s.2 + 1 + 1 + 1 + 1) 3 (by omega) (by omega) (by omega)) fun y hy => ?_
    rw [hy.1]
    by_cases ey : y.1 = 0
    · simp only [if_pos ey]
      refine EndsIn.bind (pick_ends hb (s.2 + 1 + 1 + 1 + 1 + 1) 200 (by omega) (by omega) (by omega)) fun z hz => ?_
      rw [hz.1]
      refine EndsIn.bind (pick_ends hb (s.2 + 1 + 1 + 1 + 1 + 1 + 1) 2 (by omega) (by omega) (by omega)) fun m hm => ?_
      rw [hm.1]
      refine (bat_j hb (s.2 + 1 + 1 + 1 + 1 + 1 + 1 + 1) (by omega) (by omega) _ _ _ _ _ _ ⟨fun r hr => ?_, by simp, by simp⟩).mono fun r hr => ⟨hr.1, by omega, by omega⟩
      rw [List.mem_singleton] at hr
      rw [hr]
      exact ⟨by show 0 ≤ 12; omega, by show 1 ≤ 12; omega⟩
    · simp only [if_neg ey]
      exact (bat_j hb (s.2 + 1 + 1 + 1 + 1 + 1) (by omega) (by omega) _ _ _ _ _ _ ⟨s1, s2, s3⟩).mono fun r hr => ⟨hr.1, by omega, by omega⟩
  · simp only [if_neg e0]
    exact (bat_j hb (s.2 + 1) (by omega) (by omega) _ _ _ _ _ _ ⟨s1, s2, s3⟩).mono fun r hr => ⟨hr.1, by omega, by omega⟩
theorem BatS.rowR {l : List S33} (h : BatS l) : RowR l := ⟨by have := h.2.2; omega, fun r hr => by have := h.1 r hr; unfold Small at this; exact ⟨by omega, by omega⟩⟩
end Go.Proofs.YtbbboachakkgiaaDoor.Pu

