/- A text of seat YtbbboachakkgiaaDoor: what the law FnLogCut needs of this repo's texts (by pack.py). Not trusted: Lean checks it. -/
import Derived.Test.YtbbboachakkgiaaDoorKFnLogCut10
import Derived.Deep.Slices
import Derived.SizedLaws
import Derived.Laws.BitsLemmas
namespace Go.Proofs.YtbbboachakkgiaaDoor.G
open Go.RowKit Go.Proofs.YtbbboachakkgiaaDoorW.PrintWords Go.Proofs.YtbbboachakkgiaaDoorW.PrintLast Go.Proofs.YtbbboachakkgiaaDoorW.PrintMore
attribute [local go_sem] max2_int min2_int max_two min_two max_three min_three max_four min_four   -- for this text's walks alone
set_option linter.unusedVariables false
set_option linter.unusedSimpArgs false

mutual
def laws_FnLogCut.j0 : Nat → List (S47) → Int → List (S47) → Bool → List (S47) → Bool → Bool → Option (Bool)
 | 0, _, _, _, _, _, _, _ => none
 | k + 1, x3, x4, x5, x6, x7, x8, x45 => if x45 = true then (if (x6 == x8) = true then ((laws_sameLog.f k x5 x7).bind fun t585 => (some t585)) else (some false)) else ((laws_allOf.f k x3).bind fun t586 => ((laws_allOf.f k x5).bind fun t589 => (laws_FnLogCut.l0 k x4 x5 0 t586 t589 0)))
def laws_FnLogCut.l0 : Nat → Int → List (S47) → Int → List (S33) → List (S33) → Int → Option (Bool)
 | 0, _, _, _, _, _, _ => none
 | k + 1, x4, x5, x9, x10, x11, x12 => if x12 < (x10.length : Int) then (if 0 ≤ x12 then (if ((rd_T33 x10 x12).f0) < x4 then (if x9 ≥ (x11.length : Int) then (some false) else (if 0 ≤ x9 then (if x9 < (x11.length : Int) then ((laws_sameRecord.f k ((rd_T33 x11 x9).f0) ((rd_T33 x11 x9).f1) ((rd_T33 x11 x9).f2) ((rd_T33 x11 x9).f3) ((rd_T33 x11 x9).f4) ((rd_T33 x11 x9).f5) ((rd_T33 x10 x12).f0) ((rd_T33 x10 x12).f1) ((rd_T33 x10 x12).f2) ((rd_T33 x10 x12).f3) ((rd_T33 x10 x12).f4) ((rd_T33 x10 x12).f5)).bind fun t596 => (if t596 = true then (laws_FnLogCut.l0 k x4 x5 (wrap64 (x9 + 1)) x10 x11 (wrap64 (x12 + 1))) else (some false))) else (none)) else (none))) else (laws_FnLogCut.l0 k x4 x5 x9 x10 x11 (wrap64 (x12 + 1)))) else (none)) else (if x9 = (x11.length : Int) then ((impl_LogValid.f k x5).bind fun t592 => (some t592)) else (some false))
end
def laws_FnLogCut.f (k : Nat) (l0 : List Int) : Option (Bool) := if (l0.length : Int) > 1048576 then (some true) else ((spec_DrawLogCut.f k l0).bind fun bt572 => ((impl_LogCut.f k bt572.1 bt572.2).bind fun bt576 => ((spec_LogCut.f k bt572.1 bt572.2).bind fun bt580 => (if (bt576.2 != bt580.2) = true then (laws_FnLogCut.j0 k bt572.1 bt572.2 bt576.1 bt576.2 bt580.1 bt580.2 true) else ((laws_sameLog.f k bt576.1 bt580.1).bind fun t584 => (if t584 = true then (laws_FnLogCut.j0 k bt572.1 bt572.2 bt576.1 bt576.2 bt580.1 bt580.2 (!bt576.2)) else (laws_FnLogCut.j0 k bt572.1 bt572.2 bt576.1 bt576.2 bt580.1 bt580.2 true)))))))
def laws_FnLogCut.T15 : Bool × List (List Nat × List Nat) := (true, [([], []), ([], []), ([1], [1]), ([0, 2], [0, 2]), ([3], [3]), ([4], [4]), ([4], [4]), ([5, 6, 4], [4, 5, 6]), ([7, 4], [4, 7]), ([4], [4]), ([4], [4]), ([9, 10, 4], [4, 9, 10]), ([11, 4], [4, 11]), ([8, 12, 4, 4], [4, 8, 12]), ([13, 4], [4, 13]), ([4, 14], [4, 14])])
def laws_FnLogCut.B15 : List Nat := [0, 0, 2, 7, 15, 31, 31, 127, 255, 31, 31, 1567, 3615, 8191, 16383, 32767]
theorem laws_FnLogCut.tab15 : rtab .any (opsOf Tryd.f3 15) = laws_FnLogCut.T15 := by kernel_rfl
theorem laws_FnLogCut.bits15 : waitsOk laws_FnLogCut.T15.2 laws_FnLogCut.B15 = true := by kernel_rfl
set_option maxHeartbeats 40000000 in
set_option maxRecDepth 100000 in
theorem laws_FnLogCut.calls [ErrA] (k : Nat) (A0 : Option Addr) (c0 : Nat) (l0 : List Int) (r : Bool) (w : World) (hE : ErrOk [1] w) (hr0 : Kd.C (Kd.int .u8) w A0 l0.length l0) (hc0 : l0.length ≤ c0) (h : laws_FnLogCut.f k l0 = some r) :
  Calls Tryd.prog 3 #[.slice A0 l0.length c0] w fun e w' => e = .returned (.bool r) ∧ Below w.heap.size w w' := by
 have HE := Aside0.mk hE
 clear hE
 have hu33 := Tryd.underlying33
 have HR0 := Aside0.mk hr0
 have HC0 := Aside0.mk hc0
 clear hr0 hc0
 have HB := Aside0.mk (Below.refl w.heap.size w)
 have H : (if (l0.length : Int) > 1048576 then (some true) else ((spec_DrawLogCut.f k l0).bind fun bt572 => ((impl_LogCut.f k bt572.1 bt572.2).bind fun bt576 => ((spec_LogCut.f k bt572.1 bt572.2).bind fun bt580 => (if (bt576.2 != bt580.2) = true then (laws_FnLogCut.j0 k bt572.1 bt572.2 bt576.1 bt576.2 bt580.1 bt580.2 true) else ((laws_sameLog.f k bt576.1 bt580.1).bind fun t584 => (if t584 = true then (laws_FnLogCut.j0 k bt572.1 bt572.2 bt576.1 bt576.2 bt580.1 bt580.2 (!bt576.2)) else (laws_FnLogCut.j0 k bt572.1 bt572.2 bt576.1 bt576.2 bt580.1 bt580.2 true)))))))) = some r := h
 clear h
 by_cases c2 : (l0.length : Int) > 1048576
 ·rw [if_pos c2] at H
  have c2b0 : decide (1048576 < (l0.length : Int)) = true := decide_eq_true c2
  have c2b1 : decide (1048576 < l0.length) = true := decide_eq_true (by omega)
  clear c2
  obtain rfl := Option.some.inj H
  go_enter Tryd.func3, Tryd.ntmps3
  go_wp2
  all_goals go_ret
  all_goals exact ⟨by first | rfl | (simp [errW_none, errW_some] <;> rfl) | (simp [*, errW_none, errW_some] <;> rfl), zb⟩
 ·rw [if_neg c2] at H
  have c2b0 : decide (1048576 < (l0.length : Int)) = false := decide_eq_false c2
  have c2b1 : decide (1048576 < l0.length) = false := decide_eq_false (by omega)
  clear c2
  replace H := tbe H
  obtain ⟨⟨t572, t575⟩, A3, H⟩ := H
  dsimp only at H
  replace H := tbe H
  obtain ⟨⟨t576, t577⟩, A4, H⟩ := H
  dsimp only at H
  replace H := tbe H
  obtain ⟨⟨t580, t581⟩, A5, H⟩ := H
  dsimp only at H
  have HC6 := Aside0.mk H
  clear H
  go_enter Tryd.func3, Tryd.ntmps3
  go_upto_region 6 with (first | ((with_reducible refine gate_callee (f := 11) rfl ?_); refine goesL_ (some 18) rfl rfl Tryd.func11 (by kernel_rfl) rfl #[.slice A0 l0.length c0] rfl tq ?_; (with_reducible refine (spec_DrawLogCut.calls k _ _ l0 t572 t575 _ ?side1 ?side2 A3.out).mono ?_); (case side1 => exact tC HR0.out); (case side2 => exact HC0.out); rintro e w7 ⟨v573, rfl, ho0, hb⟩; have u_v573 := tsv Tryd.prog v573 ho0; refine ⟨_, rfl, ?_⟩; have HO574 := Aside0.mk (Kd.N_lower (Kd.N_mono (ok' := fun k_ => True) ho0 (fun k_ hk_ => trivial)) (below_size zb)); replace HB := tBs HB hb; (try clear hb); (try clear hb2); (try clear hk); (try clear hi); (try clear ho0); obtain ⟨Ao8, co8, eo8⟩ := Kd.N_slice HO574.out; subst eo8) | ((with_reducible refine gate_callee (f := 12) rfl ?_); refine goesL_ (some 24) rfl rfl Tryd.func12 (by kernel_rfl) rfl #[.slice Ao8 t572.length co8, .int .i64 t575] rfl tq ?_; (with_reducible refine (impl_LogCut.calls (hE := ?sideE) k _ _ t572 t575 t576 t577 _ ?side1 ?side2 A4.out).mono ?_); (case sideE => exact ErrOk.below (HE.out.sub (by decide)) zb); (case side1 => repeat (first | exact (Kd.N_reads' HO574.out).2.2 | (with_reducible refine Kd.C_alloc ?_ _) | (with_reducible refine Kd.C_drewN ?_ _) | (with_reducible refine Kd.C_drew ?_))); (case side2 => exact (Kd.N_reads' HO574.out).2.1); rintro e w9 ⟨v578, rfl, ho0, hb⟩; have u_v578 := tsv Tryd.prog v578 ho0; refine ⟨_, rfl, ?_⟩; have HO579 := Aside0.mk (Kd.N_lower (Kd.N_mono (ok' := fun k_ => some k_ ≠ (.slice Ao8 t572.length co8 : Value).ownBlock) (Kd.R_N (Kd.R_bound ho0)) (fun k_ hk_ => (tfr HO574 k_ hk_.2.1))) (below_size zb)); replace HO574 := tNe HO574 ho0 hb; replace HB := tBs HB hb; (try clear hb); (try clear hb2); (try clear hk); (try clear hi); (try clear ho0)) | ((with_reducible refine gate_callee (f := 13) rfl ?_); refine goesL_ (some 30) rfl rfl Tryd.func13 (by kernel_rfl) rfl #[.slice Ao8 t572.length co8, .int .i64 t575] rfl tq ?_; (with_reducible refine (spec_LogCut.calls k _ _ t572 t575 t580 t581 _ ?side1 ?side2 A5.out).mono ?_); (case side1 => repeat (first | exact (Kd.N_reads' HO574.out).2.2 | (with_reducible refine Kd.C_alloc ?_ _) | (with_reducible refine Kd.C_drewN ?_ _) | (with_reducible refine Kd.C_drew ?_))); (case side2 => exact (Kd.N_reads' HO574.out).2.1); rintro e w10 ⟨v582, rfl, ho0, hb⟩; have u_v582 := tsv Tryd.prog v582 ho0; refine ⟨_, rfl, ?_⟩; have HO583 := Aside0.mk (Kd.N_lower (Kd.N_mono (ok' := fun k_ => some k_ ≠ (.slice Ao8 t572.length co8 : Value).ownBlock ∧ some k_ ≠ (v578 : Value).ownBlock) (Kd.R_N (Kd.R_bound ho0)) (fun k_ hk_ => ⟨(tfr HO574 k_ hk_.2.1), (tfr HO579 k_ hk_.2.1)⟩)) (below_size zb)); replace HO574 := tNe HO574 ho0 hb; replace HO579 := tNe HO579 ho0 hb; replace HB := tBs HB hb; (try clear hb); (try clear hb2); (try clear hk); (try clear hi); (try clear ho0)))
  (try simp only [Act.put, List.setIfInBounds_toArray, List.set_cons_zero, List.set_cons_succ])
  go_cut [45] (fun v45 wc => ∃ (kq : Nat) (x45_5 : Bool), v45 = .bool x45_5 ∧ Aside0 (laws_FnLogCut.j0 kq t572 t575 t576 t577 t580 t581 x45_5 = some r) ∧ Aside0 (kq ≤ k) ∧ Aside0 (Kd.N k47 47 wc w.heap.size (fun k_ => some k_ ≠ (v578 : Value).ownBlock ∧ some k_ ≠ (v582 : Value).ownBlock) (.slice Ao8 t572.length co8) t572) ∧ Aside0 (Kd.N k47 47 wc w.heap.size (fun k_ => some k_ ≠ ((.slice Ao8 t572.length co8) : Value).ownBlock ∧ some k_ ≠ (v582 : Value).ownBlock) v578 t576) ∧ Aside0 (Kd.N k47 47 wc w.heap.size (fun k_ => some k_ ≠ ((.slice Ao8 t572.length co8) : Value).ownBlock ∧ some k_ ≠ (v578 : Value).ownBlock) v582 t580) ∧ Aside0 (Below w.heap.size w wc))
  case first =>
   have H := HC6.out
   clear HC6
   by_cases c11 : (t577 != t581) = true
   ·rw [if_pos c11] at H
    have c11b0 : (t577 != t581) = true := c11
    (try (have c11b1 : decide (t577 = t581) = false := by simpa using c11))
    (try (have c11b2 : (t577 == t581) = false := by simpa using c11))
    (try (have c11b3 : ¬ (t577 = t581) := by simpa using c11))
    clear c11
    (first | rw [c11b0] | (simp only [i64_w, i32_w]; rw [c11b0]) | skip)
    have H' := Aside0.mk H
    clear H
    go_wp2
    go_meet
    case rel => exact ⟨_, (true), tr, H', ⟨by first | omega | exact Nat.le_refl _⟩, ⟨tNm HO574.out⟩, ⟨tN HO579.out⟩, ⟨tN HO583.out⟩, ⟨zb⟩⟩
   ·rw [if_neg c11] at H
    have c11b0 : (t577 != t581) = false := by simpa using c11
    (try (have c11b1 : decide (t577 = t581) = true := by simpa using c11))
    (try (have c11b2 : (t577 == t581) = true := by simpa using c11))
    clear c11
    (first | rw [c11b0] | (simp only [i64_w, i32_w]; rw [c11b0]) | skip)
    replace H := tbe H
    obtain ⟨t584, A12, H⟩ := H
    by_cases c13 : t584 = true
    ·subst c13
     rw [if_pos rfl] at H
     have H' := Aside0.mk H
     clear H
     obtain ⟨Ao14, co14, eo14⟩ := Kd.N_slice HO579.out
     subst eo14
     obtain ⟨Ao15, co15, eo15⟩ := Kd.N_slice HO583.out
     subst eo15
     go_wp2_with (first | (go_at_call 14; (with_reducible refine (laws_sameLog.calls k _ _ t576 _ _ t580 true _ ?side1 ?side2 ?side3 ?side4 A12.out).mono ?_); (case side1 => repeat (first | exact (Kd.N_reads' HO579.out).2.2 | (with_reducible refine Kd.C_alloc ?_ _) | (with_reducible refine Kd.C_drewN ?_ _) | (with_reducible refine Kd.C_drew ?_))); (case side2 => exact (Kd.N_reads' HO579.out).2.1); (case side3 => repeat (first | exact (Kd.N_reads' HO583.out).2.2 | (with_reducible refine Kd.C_alloc ?_ _) | (with_reducible refine Kd.C_drewN ?_ _) | (with_reducible refine Kd.C_drew ?_))); (case side4 => exact (Kd.N_reads' HO583.out).2.1); rintro e w16 ⟨rfl, hb⟩; replace HO574 := tNb HO574 hb; replace HO579 := tNb HO579 hb; replace HO583 := tNb HO583 hb; replace HB := tBs HB hb; (try clear hb); (try clear hb2); (try clear hk); (try clear hi)))
     go_meet
     case rel => exact ⟨_, (!t577), tr, H', ⟨by first | omega | exact Nat.le_refl _⟩, ⟨tNm HO574.out⟩, ⟨tN HO579.out⟩, ⟨tN HO583.out⟩, ⟨zb⟩⟩
    ·replace c13 := Bool.eq_false_iff.mpr c13
     subst c13
     rw [if_neg (show ¬ (false = true) by decide)] at H
     have H' := Aside0.mk H
     clear H
     obtain ⟨Ao17, co17, eo17⟩ := Kd.N_slice HO579.out
     subst eo17
     obtain ⟨Ao18, co18, eo18⟩ := Kd.N_slice HO583.out
     subst eo18
     go_wp2_with (first | (go_at_call 14; (with_reducible refine (laws_sameLog.calls k _ _ t576 _ _ t580 false _ ?side1 ?side2 ?side3 ?side4 A12.out).mono ?_); (case side1 => repeat (first | exact (Kd.N_reads' HO579.out).2.2 | (with_reducible refine Kd.C_alloc ?_ _) | (with_reducible refine Kd.C_drewN ?_ _) | (with_reducible refine Kd.C_drew ?_))); (case side2 => exact (Kd.N_reads' HO579.out).2.1); (case side3 => repeat (first | exact (Kd.N_reads' HO583.out).2.2 | (with_reducible refine Kd.C_alloc ?_ _) | (with_reducible refine Kd.C_drewN ?_ _) | (with_reducible refine Kd.C_drew ?_))); (case side4 => exact (Kd.N_reads' HO583.out).2.1); rintro e w19 ⟨rfl, hb⟩; replace HO574 := tNb HO574 hb; replace HO579 := tNb HO579 hb; replace HO583 := tNb HO583 hb; replace HB := tBs HB hb; (try clear hb); (try clear hb2); (try clear hk); (try clear hi)))
     go_meet
     case rel => exact ⟨_, (true), tr, H', ⟨by first | omega | exact Nat.le_refl _⟩, ⟨tNm HO574.out⟩, ⟨tN HO579.out⟩, ⟨tN HO583.out⟩, ⟨zb⟩⟩
  case rest =>
   clear HC6
   try clear c2; try clear c2b0; try clear c2b1
   obtain ⟨kq, x45_5, rfl, HA, HJ5, HO_3, HO_5, HO_7, HB⟩ := hcut
   cases kq with
   | zero => exact absurd HA.out (by simp [laws_FnLogCut.j0])
   | succ kj5 =>
    have H := HA.out
    clear HA
    simp only [laws_FnLogCut.j0] at H
    by_cases c20 : x45_5 = true
    ·subst c20
     rw [if_pos rfl] at H
     by_cases c21 : (t577 == t581) = true
     ·rw [if_pos c21] at H
      have c21b0 : (t577 == t581) = true := c21
      (try (have c21b1 : decide (t577 = t581) = true := by simpa using c21))
      (try (have c21b2 : (t577 == t581) = true := by simpa using c21))
      clear c21
      replace H := tbe H
      obtain ⟨t585, A22, H⟩ := H
      obtain rfl := Option.some.inj H
      obtain ⟨Ao23, co23, eo23⟩ := Kd.N_slice HO_5.out
      subst eo23
      obtain ⟨Ao24, co24, eo24⟩ := Kd.N_slice HO_7.out
      subst eo24
      go_wp2_with (first | (go_at_call 14; (with_reducible refine (laws_sameLog.calls kj5 _ _ t576 _ _ t580 t585 _ ?side1 ?side2 ?side3 ?side4 A22.out).mono ?_); (case side1 => repeat (first | exact (Kd.N_reads' HO_5.out).2.2 | (with_reducible refine Kd.C_alloc ?_ _) | (with_reducible refine Kd.C_drewN ?_ _) | (with_reducible refine Kd.C_drew ?_))); (case side2 => exact (Kd.N_reads' HO_5.out).2.1); (case side3 => repeat (first | exact (Kd.N_reads' HO_7.out).2.2 | (with_reducible refine Kd.C_alloc ?_ _) | (with_reducible refine Kd.C_drewN ?_ _) | (with_reducible refine Kd.C_drew ?_))); (case side4 => exact (Kd.N_reads' HO_7.out).2.1); rintro e w25 ⟨rfl, hb⟩; replace HO_3 := tNb HO_3 hb; replace HO_5 := tNb HO_5 hb; replace HO_7 := tNb HO_7 hb; replace HB := tBs HB hb; (try clear hb); (try clear hb2); (try clear hk); (try clear hi)))
      all_goals go_ret
      all_goals exact ⟨by first | rfl | (simp [errW_none, errW_some] <;> rfl) | (simp [*, errW_none, errW_some] <;> rfl), zb⟩
     ·rw [if_neg c21] at H
      have c21b0 : (t577 == t581) = false := by simpa using c21
      (try (have c21b1 : decide (t577 = t581) = false := by simpa using c21))
      (try (have c21b2 : (t577 == t581) = false := by simpa using c21))
      (try (have c21b3 : ¬ (t577 = t581) := by simpa using c21))
      clear c21
      obtain rfl := Option.some.inj H
      go_wp2
      all_goals go_ret
      all_goals exact ⟨by first | rfl | (simp [errW_none, errW_some] <;> rfl) | (simp [*, errW_none, errW_some] <;> rfl), zb⟩
    ·replace c20 := Bool.eq_false_iff.mpr c20
     subst c20
     rw [if_neg (show ¬ (false = true) by decide)] at H
     replace H := tbe H
     obtain ⟨t586, A26, H⟩ := H
     replace H := tbe H
     obtain ⟨t589, A27, H⟩ := H
     have H' := Aside0.mk H
     clear H
     go_wp2_with (first | ((with_reducible refine gate_callee (f := 15) rfl ?_); refine goesL_ (some 55) rfl rfl Tryd.func15 (by kernel_rfl) rfl #[.slice Ao8 t572.length co8] rfl tq ?_; (with_reducible refine (laws_allOf.calls kj5 (fun k_ => (some k_ ≠ (v578 : Value).ownBlock ∧ some k_ ≠ (v582 : Value).ownBlock)) _ _ t572 t586 _ ?side1 A26.out).mono ?_); (case side1 => exact Kd.N_V (HO_3.out)); rintro e w28 ⟨v587, rfl, ho0, hb⟩; have u_v587 := tsv Tryd.prog v587 ho0; refine ⟨_, rfl, ?_⟩; replace HO_3 := tNe HO_3 ho0 hb; have HO588 := Aside0.mk (Kd.N_lower (Kd.N_mono (ok' := fun k_ => some k_ ≠ (v578 : Value).ownBlock ∧ some k_ ≠ (v582 : Value).ownBlock) ho0 (fun k_ hk_ => ⟨Or.elim hk_ (fun hs_ => hs_.1) (fun hn_ => (tfr HO_5 k_ hn_)), Or.elim hk_ (fun hs_ => hs_.2) (fun hn_ => (tfr HO_7 k_ hn_))⟩)) (below_size zb)); replace HO_5 := tNe HO_5 ho0 hb; replace HO_7 := tNe HO_7 ho0 hb; replace HB := tBs HB hb; (try clear hb); (try clear hb2); (try clear hk); (try clear hi); (try clear ho0); obtain ⟨Ao29, co29, eo29⟩ := Kd.N_slice HO_5.out; subst eo29) | ((with_reducible refine gate_callee (f := 15) rfl ?_); refine goesL_ (some 57) rfl rfl Tryd.func15 (by kernel_rfl) rfl #[.slice Ao29 t576.length co29] rfl tq ?_; (with_reducible refine (laws_allOf.calls kj5 (fun k_ => ((some k_ ≠ (.slice Ao8 t572.length co8 : Value).ownBlock ∧ some k_ ≠ (v582 : Value).ownBlock) ∧ some k_ ≠ (v587 : Value).ownBlock)) _ _ t576 t589 _ ?side1 A27.out).mono ?_); (case side1 => exact Kd.N_V (HO_5.out)); rintro e w30 ⟨v590, rfl, ho0, hb⟩; have u_v590 := tsv Tryd.prog v590 ho0; refine ⟨_, rfl, ?_⟩; replace HO_5 := tNe HO_5 ho0 hb; have HO591 := Aside0.mk (Kd.N_lower (Kd.N_mono (ok' := fun k_ => some k_ ≠ (.slice Ao8 t572.length co8 : Value).ownBlock ∧ some k_ ≠ (v582 : Value).ownBlock ∧ some k_ ≠ (v587 : Value).ownBlock) ho0 (fun k_ hk_ => ⟨Or.elim hk_ (fun hs_ => hs_.1.1) (fun hn_ => (tfr HO_3 k_ hn_)), Or.elim hk_ (fun hs_ => hs_.1.2) (fun hn_ => (tfr HO_7 k_ hn_)), Or.elim hk_ (fun hs_ => hs_.2) (fun hn_ => (tfr HO588 k_ hn_))⟩)) (below_size zb)); replace HO_3 := tNe HO_3 ho0 hb; replace HO_7 := tNe HO_7 ho0 hb; replace HO588 := tNe HO588 ho0 hb; replace HB := tBs HB hb; (try clear hb); (try clear hb2); (try clear hk); (try clear hi); (try clear ho0)))
     go_loopg [9, 12] kj5 (fun kq v9 v12 w' => ∃ (x9_2 : Int) (x12_2 : Int), v9 = .int .i64 x9_2 ∧ v12 = .int .i64 x12_2 ∧ Aside0 (laws_FnLogCut.l0 kq t575 t576 x9_2 t586 t589 x12_2 = some r) ∧ Aside0 (kq ≤ kj5) ∧ Aside0 (Kd.N k47 47 w' w.heap.size (fun k_ => some k_ ≠ (v587 : Value).ownBlock ∧ some k_ ≠ (v590 : Value).ownBlock) (.slice Ao29 t576.length co29) t576) ∧ Aside0 (Kd.N k33 33 w' w.heap.size (fun k_ => some k_ ≠ ((.slice Ao29 t576.length co29) : Value).ownBlock ∧ some k_ ≠ (v590 : Value).ownBlock) v587 t586) ∧ Aside0 (Kd.N k33 33 w' w.heap.size (fun k_ => some k_ ≠ (v587 : Value).ownBlock) v590 t589) ∧ Aside0 (Below w.heap.size w w'))
     case atStart => exact ⟨(0), (0), tr, tr, H', ⟨Nat.le_refl _⟩, ⟨tNm HO_5.out⟩, ⟨tNm HO588.out⟩, ⟨tNm HO591.out⟩, ⟨zb⟩⟩
     case round =>
      clear H'
      try clear c2; try clear c2b0; try clear c2b1; try clear c20
      obtain ⟨x9_2, x12_2, rfl, rfl, HA, HK2, HO_5, HO_10, HO_11, HB⟩ := hrel
      cases gk with
      | zero => exact absurd HA.out (by simp [laws_FnLogCut.l0])
      | succ k2 =>
       have H := HA.out
       clear HA
       simp only [laws_FnLogCut.l0] at H
       by_cases c31 : x12_2 < (t586.length : Int)
       ·rw [if_pos c31] at H
        have c31b0 : decide (x12_2 < (t586.length : Int)) = true := decide_eq_true c31
        clear c31
        by_cases c32 : 0 ≤ x12_2
        ·rw [if_pos c32] at H
         have c32b0 : decide (0 ≤ x12_2) = true := decide_eq_true c32
         clear c32
         by_cases c33 : ((rd_T33 t586 x12_2).f0) < t575
         ·rw [if_pos c33] at H
          have c33b0 : decide (((rd_T33 t586 x12_2).f0) < t575) = true := decide_eq_true c33
          clear c33
          by_cases c34 : x9_2 ≥ (t589.length : Int)
          ·rw [if_pos c34] at H
           have c34b0 : decide ((t589.length : Int) ≤ x9_2) = true := decide_eq_true c34
           clear c34
           obtain rfl := Option.some.inj H
           obtain ⟨Ao35, co35, eo35⟩ := Kd.N_slice HO_10.out
           subst eo35
           have p593 : 0 ≤ (x12_2 : Int) := td
           have q593 : x12_2 < (t586.length : Int) := td
           obtain ⟨ad593, A593_3, c593_3, A593_5, c593_5, e593, hx593_0, hx593_1, hx593_2, hx593_3, hx593_4, hx593_5, hl593_3, hi593_3, hl593_5, hi593_5⟩ := at_T33 (Kd.N_reads' HO_10.out).2.2 x12_2 p593 q593
           cases e593
           obtain ⟨ce593, hce593, hMe593, hcc593⟩ := Kd.N_get HO_10.out z33 x12_2 p593 (by first | exact q593 | exact td | (have e_ := (Kd.N_reads' HO_10.out).1; omega))
           obtain ⟨ua593_3, uc593_3, ua593_5, uc593_5, rfl, ul593_3, ge593_3, ul593_5, ge593_5⟩ := k33_openF hMe593
           have hv593_3 := hcc593 3 _ rfl
           rw [add_field _ _ 3 (by omega)] at hv593_3
           replace hv593_3 := Option.some.inj (hv593_3.symm.trans hx593_3)
           injection hv593_3 with hva_ hvn_ hvc_
           rw [hva_] at ge593_3
           rw [hvc_] at ul593_3
           have HL593_3 := Aside0.mk (show Kd.V (Kd.int .i64) 3 _ w.heap.size _ _ ((rd_T33 t586 x12_2).f3) from Kd.V_mk ul593_3 ge593_3)
           clear hva_ hvn_ hvc_ ge593_3 ul593_3
           have hv593_5 := hcc593 5 _ rfl
           rw [add_field _ _ 5 (by omega)] at hv593_5
           replace hv593_5 := Option.some.inj (hv593_5.symm.trans hx593_5)
           injection hv593_5 with hva_ hvn_ hvc_
           rw [hva_] at ge593_5
           rw [hvc_] at ul593_5
           have HL593_5 := Aside0.mk (show Kd.V (Kd.int .i64) 3 _ w.heap.size _ _ ((rd_T33 t586 x12_2).f5) from Kd.V_mk ul593_5 ge593_5)
           clear hva_ hvn_ hvc_ ge593_5 ul593_5
           clear hcc593 hce593
           have HR593_3 := Aside0.mk hi593_3
           have HC593_3 := Aside0.mk hl593_3
           clear hi593_3 hl593_3
           have HR593_5 := Aside0.mk hi593_5
           have HC593_5 := Aside0.mk hl593_5
           clear hi593_5 hl593_5
           replace p593 := eq_true p593
           replace q593 := eq_true q593
           try go_wp2
           replace HO_5 := Aside0.mk (Kd.N_drew HO_5.out)
           replace HO_10 := Aside0.mk (Kd.N_drew HO_10.out)
           replace HO_11 := Aside0.mk (Kd.N_drew HO_11.out)
           replace HL593_3 := Aside0.mk (Kd.V_drew HL593_3.out)
           replace HL593_5 := Aside0.mk (Kd.V_drew HL593_5.out)
           replace HR593_3 := Aside0.mk (Kd.C_drew HR593_3.out)
           replace HR593_5 := Aside0.mk (Kd.C_drew HR593_5.out)
           replace HB := Aside0.mk (below_drew1 HB.out)
           obtain ⟨Ao37, co37, eo37⟩ := Kd.N_slice HO_11.out
           (first | subst eo37 | (injection eo37 with f1_ f2_ f3_; have f4_ := f1_.symm; have f5_ := f3_.symm; clear f1_ f2_ f3_; subst f4_; subst f5_))
           refine start_ (n := 16) (S := fun w' => True) (ds := []) #[false, false, false, false, false, false, false, false, false, false, false, false, false, false, false, false] (by kernel_rfl) rfl rfl trivial (fun hHeld => ?_); refine with_tabW laws_FnLogCut.tab15 laws_FnLogCut.bits15 (fun HT_ HW_ => ?_)
           generalize wr.drew = w36 at HO_5 HO_10 HO_11 HL593_3 HL593_5 HR593_3 HR593_5 HB hHeld ⊢
           refine pure_ (i := 0) (N := some 71) (v := ?_) (a' := ?_) #[true, false, false, false, false, false, false, false, false, false, false, false, false, false, false, false] rfl rfl (any_of HT_.out (by kernel_rfl)) (fun _ _ _ h => h) (Or.inl ⟨by rfl, ?_⟩) ?_ ?_
           rotate_left
           ·intro w'
            go_simp
            with_reducible rfl
           rotate_left
           ·simp only [Act.put, List.setIfInBounds_toArray, List.set_cons_zero, List.set_cons_succ, i64_w, i32_w]
            rfl
           refine pure_ (i := 1) (N := some 72) (v := ?_) (a' := ?_) #[true, true, false, false, false, false, false, false, false, false, false, false, false, false, false, false] rfl rfl (any_of HT_.out (by kernel_rfl)) (fun _ _ _ h => h) (Or.inl ⟨by rfl, ?_⟩) ?_ ?_
           rotate_left
           ·intro w'
            go_simp
            with_reducible rfl
           rotate_left
           ·simp only [Act.put, List.setIfInBounds_toArray, List.set_cons_zero, List.set_cons_succ, i64_w, i32_w]
            rfl
           refine pure_ (i := 2) (N := some 73) (v := ?_) (a' := ?_) #[true, true, true, false, false, false, false, false, false, false, false, false, false, false, false, false] rfl rfl (any_of HT_.out (by kernel_rfl)) (fun _ _ _ h => h) (Or.inl ⟨by rfl, ?_⟩) ?_ ?_
           rotate_left
           ·intro w'
            go_simp
            with_reducible rfl
           rotate_left
           ·simp only [Act.put, List.setIfInBounds_toArray, List.set_cons_zero, List.set_cons_succ, i64_w, i32_w]
            rfl
           refine pure_ (i := 3) (N := some 74) (v := ?_) (a' := ?_) #[true, true, true, true, false, false, false, false, false, false, false, false, false, false, false, false] rfl rfl (any_of HT_.out (by kernel_rfl)) (fun _ _ _ h => h) (Or.inl ⟨by rfl, ?_⟩) ?_ ?_
           rotate_left
           ·intro w'
            go_simp
            with_reducible rfl
           rotate_left
           ·simp only [Act.put, List.setIfInBounds_toArray, List.set_cons_zero, List.set_cons_succ, i64_w, i32_w]
            rfl
           refine pure_ (i := 4) (N := some 75) (v := ?_) (a' := ?_) #[true, true, true, true, true, false, false, false, false, false, false, false, false, false, false, false] rfl rfl (any_of HT_.out (by kernel_rfl)) (fun _ _ _ h => h) (Or.inl ⟨by rfl, ?_⟩) ?_ ?_
           rotate_left
           ·intro w'
            go_simp
            with_reducible rfl
           rotate_left
           ·simp only [Act.put, List.setIfInBounds_toArray, List.set_cons_zero, List.set_cons_succ, i64_w, i32_w]
            rfl
           refine pure_ (i := 5) (N := some 76) (v := undef) (a' := ?_) #[true, true, true, true, true, true, false, false, false, false, false, false, false, false, false, false] rfl rfl (any_of HT_.out (by kernel_rfl)) (fun _ _ _ h => h) (Or.inr ⟨by rfl, rfl⟩) ?_ ?_
           rotate_left
           ·simp only [Act.put, List.setIfInBounds_toArray, List.set_cons_zero, List.set_cons_succ, i64_w, i32_w]
            rfl
           refine pure_ (i := 6) (N := some 77) (v := undef) (a' := ?_) #[true, true, true, true, true, true, true, false, false, false, false, false, false, false, false, false] rfl rfl (any_of HT_.out (by kernel_rfl)) (fun _ _ _ h => h) (Or.inr ⟨by rfl, rfl⟩) ?_ ?_
           rotate_left
           ·simp only [Act.put, List.setIfInBounds_toArray, List.set_cons_zero, List.set_cons_succ, i64_w, i32_w]
            rfl
           refine pure_ (i := 7) (N := some 78) (v := undef) (a' := ?_) #[true, true, true, true, true, true, true, true, false, false, false, false, false, false, false, false] rfl rfl (any_of HT_.out (by kernel_rfl)) (fun _ _ _ h => h) (Or.inr ⟨by rfl, rfl⟩) ?_ ?_
           rotate_left
           ·simp only [Act.put, List.setIfInBounds_toArray, List.set_cons_zero, List.set_cons_succ, i64_w, i32_w]
            rfl
           refine pure_ (i := 8) (N := some 79) (v := undef) (a' := ?_) #[true, true, true, true, true, true, true, true, true, false, false, false, false, false, false, false] rfl rfl (any_of HT_.out (by kernel_rfl)) (fun _ _ _ h => h) (Or.inr ⟨by rfl, rfl⟩) ?_ ?_
           rotate_left
           ·simp only [Act.put, List.setIfInBounds_toArray, List.set_cons_zero, List.set_cons_succ, i64_w, i32_w]
            rfl
           refine pure_ (i := 9) (N := some 80) (v := undef) (a' := ?_) #[true, true, true, true, true, true, true, true, true, true, false, false, false, false, false, false] rfl rfl (any_of HT_.out (by kernel_rfl)) (fun _ _ _ h => h) (Or.inr ⟨by rfl, rfl⟩) ?_ ?_
           rotate_left
           ·simp only [Act.put, List.setIfInBounds_toArray, List.set_cons_zero, List.set_cons_succ, i64_w, i32_w]
            rfl
           refine pure_ (i := 10) (N := some 81) (v := undef) (a' := ?_) #[true, true, true, true, true, true, true, true, true, true, true, false, false, false, false, false] rfl rfl (any_of HT_.out (by kernel_rfl)) (fun _ _ _ h => h) (Or.inr ⟨by rfl, rfl⟩) ?_ ?_
           rotate_left
           ·simp only [Act.put, List.setIfInBounds_toArray, List.set_cons_zero, List.set_cons_succ, i64_w, i32_w]
            rfl
           refine pure_ (i := 11) (N := some 82) (v := undef) (a' := ?_) #[true, true, true, true, true, true, true, true, true, true, true, true, false, false, false, false] rfl rfl (any_of HT_.out (by kernel_rfl)) (fun _ _ _ h => h) (Or.inr ⟨by rfl, rfl⟩) ?_ ?_
           rotate_left
           ·simp only [Act.put, List.setIfInBounds_toArray, List.set_cons_zero, List.set_cons_succ, i64_w, i32_w]
            rfl
           refine pure_ (i := 12) (N := some 83) (v := undef) (a' := ?_) #[true, true, true, true, true, true, true, true, true, true, true, true, true, false, false, false] rfl rfl (any_of HT_.out (by kernel_rfl)) (fun _ _ _ h => h) (Or.inr ⟨by rfl, rfl⟩) ?_ ?_
           rotate_left
           ·simp only [Act.put, List.setIfInBounds_toArray, List.set_cons_zero, List.set_cons_succ, i64_w, i32_w]
            rfl
           refine pure_ (i := 13) (N := some 84) (v := undef) (a' := ?_) #[true, true, true, true, true, true, true, true, true, true, true, true, true, true, false, false] rfl rfl (any_of HT_.out (by kernel_rfl)) (fun _ _ _ h => h) (Or.inr ⟨by rfl, rfl⟩) ?_ ?_
           rotate_left
           ·simp only [Act.put, List.setIfInBounds_toArray, List.set_cons_zero, List.set_cons_succ, i64_w, i32_w]
            rfl
           refine pure_ (i := 14) (N := some 85) (v := undef) (a' := ?_) #[true, true, true, true, true, true, true, true, true, true, true, true, true, true, true, false] rfl rfl (any_of HT_.out (by kernel_rfl)) (fun _ _ _ h => h) (Or.inr ⟨by rfl, rfl⟩) ?_ ?_
           rotate_left
           ·simp only [Act.put, List.setIfInBounds_toArray, List.set_cons_zero, List.set_cons_succ, i64_w, i32_w]
            rfl
           refine pure_ (i := 15) (N := some 86) (v := ?_) (a' := ?_) #[true, true, true, true, true, true, true, true, true, true, true, true, true, true, true, true] rfl rfl (any_of HT_.out (by kernel_rfl)) (fun _ _ _ h => h) (Or.inl ⟨by rfl, ?_⟩) ?_ ?_
           rotate_left
           ·intro w'
            go_simp
            with_reducible rfl
           rotate_left
           ·simp only [Act.put, List.setIfInBounds_toArray, List.set_cons_zero, List.set_cons_succ, i64_w, i32_w]
            rfl
           refine done_ (done_of HT_.out (by kernel_rfl)) ?_
           try go_wp2
           all_goals go_ret
           all_goals exact ⟨by first | rfl | (simp [errW_none, errW_some] <;> rfl) | (simp [*, errW_none, errW_some] <;> rfl), zb⟩
          ·rw [if_neg c34] at H
           have c34b0 : decide ((t589.length : Int) ≤ x9_2) = false := decide_eq_false c34
           clear c34
           by_cases c38 : 0 ≤ x9_2
           ·rw [if_pos c38] at H
            have c38b0 : decide (0 ≤ x9_2) = true := decide_eq_true c38
            clear c38
            by_cases c39 : x9_2 < (t589.length : Int)
            ·rw [if_pos c39] at H
             have c39b0 : decide (x9_2 < (t589.length : Int)) = true := decide_eq_true c39
             clear c39
             replace H := tbe H
             obtain ⟨t596, A40, H⟩ := H
             by_cases c41 : t596 = true
             ·subst c41
              rw [if_pos rfl] at H
              have H' := Aside0.mk H
              clear H
              obtain ⟨Ao42, co42, eo42⟩ := Kd.N_slice HO_10.out
              subst eo42
              have p593 : 0 ≤ (x12_2 : Int) := td
              have q593 : x12_2 < (t586.length : Int) := td
              obtain ⟨ad593, A593_3, c593_3, A593_5, c593_5, e593, hx593_0, hx593_1, hx593_2, hx593_3, hx593_4, hx593_5, hl593_3, hi593_3, hl593_5, hi593_5⟩ := at_T33 (Kd.N_reads' HO_10.out).2.2 x12_2 p593 q593
              cases e593
              obtain ⟨ce593, hce593, hMe593, hcc593⟩ := Kd.N_get HO_10.out z33 x12_2 p593 (by first | exact q593 | exact td | (have e_ := (Kd.N_reads' HO_10.out).1; omega))
              obtain ⟨ua593_3, uc593_3, ua593_5, uc593_5, rfl, ul593_3, ge593_3, ul593_5, ge593_5⟩ := k33_openF hMe593
              have hv593_3 := hcc593 3 _ rfl
              rw [add_field _ _ 3 (by omega)] at hv593_3
              replace hv593_3 := Option.some.inj (hv593_3.symm.trans hx593_3)
              injection hv593_3 with hva_ hvn_ hvc_
              rw [hva_] at ge593_3
              rw [hvc_] at ul593_3
              have HL593_3 := Aside0.mk (show Kd.V (Kd.int .i64) 3 _ w.heap.size _ _ ((rd_T33 t586 x12_2).f3) from Kd.V_mk ul593_3 ge593_3)
              clear hva_ hvn_ hvc_ ge593_3 ul593_3
              have hv593_5 := hcc593 5 _ rfl
              rw [add_field _ _ 5 (by omega)] at hv593_5
              replace hv593_5 := Option.some.inj (hv593_5.symm.trans hx593_5)
              injection hv593_5 with hva_ hvn_ hvc_
              rw [hva_] at ge593_5
              rw [hvc_] at ul593_5
              have HL593_5 := Aside0.mk (show Kd.V (Kd.int .i64) 3 _ w.heap.size _ _ ((rd_T33 t586 x12_2).f5) from Kd.V_mk ul593_5 ge593_5)
              clear hva_ hvn_ hvc_ ge593_5 ul593_5
              clear hcc593 hce593
              have HR593_3 := Aside0.mk hi593_3
              have HC593_3 := Aside0.mk hl593_3
              clear hi593_3 hl593_3
              have HR593_5 := Aside0.mk hi593_5
              have HC593_5 := Aside0.mk hl593_5
              clear hi593_5 hl593_5
              replace p593 := eq_true p593
              replace q593 := eq_true q593
              try go_wp2
              replace HO_5 := Aside0.mk (Kd.N_drew HO_5.out)
              replace HO_10 := Aside0.mk (Kd.N_drew HO_10.out)
              replace HO_11 := Aside0.mk (Kd.N_drew HO_11.out)
              replace HL593_3 := Aside0.mk (Kd.V_drew HL593_3.out)
              replace HL593_5 := Aside0.mk (Kd.V_drew HL593_5.out)
              replace HR593_3 := Aside0.mk (Kd.C_drew HR593_3.out)
              replace HR593_5 := Aside0.mk (Kd.C_drew HR593_5.out)
              replace HB := Aside0.mk (below_drew1 HB.out)
              obtain ⟨Ao44, co44, eo44⟩ := Kd.N_slice HO_11.out
              (first | subst eo44 | (injection eo44 with f1_ f2_ f3_; have f4_ := f1_.symm; have f5_ := f3_.symm; clear f1_ f2_ f3_; subst f4_; subst f5_))
              have p594 : 0 ≤ (x9_2 : Int) := td
              have q594 : x9_2 < (t589.length : Int) := td
              obtain ⟨ad594, A594_3, c594_3, A594_5, c594_5, e594, hx594_0, hx594_1, hx594_2, hx594_3, hx594_4, hx594_5, hl594_3, hi594_3, hl594_5, hi594_5⟩ := at_T33 (Kd.N_reads' HO_11.out).2.2 x9_2 p594 q594
              cases e594
              obtain ⟨ce594, hce594, hMe594, hcc594⟩ := Kd.N_get HO_11.out z33 x9_2 p594 (by first | exact q594 | exact td | (have e_ := (Kd.N_reads' HO_11.out).1; omega))
              obtain ⟨ua594_3, uc594_3, ua594_5, uc594_5, rfl, ul594_3, ge594_3, ul594_5, ge594_5⟩ := k33_openF hMe594
              have hv594_3 := hcc594 3 _ rfl
              rw [add_field _ _ 3 (by omega)] at hv594_3
              replace hv594_3 := Option.some.inj (hv594_3.symm.trans hx594_3)
              injection hv594_3 with hva_ hvn_ hvc_
              rw [hva_] at ge594_3
              rw [hvc_] at ul594_3
              have HL594_3 := Aside0.mk (show Kd.V (Kd.int .i64) 3 _ w.heap.size _ _ ((rd_T33 t589 x9_2).f3) from Kd.V_mk ul594_3 ge594_3)
              clear hva_ hvn_ hvc_ ge594_3 ul594_3
              have hv594_5 := hcc594 5 _ rfl
              rw [add_field _ _ 5 (by omega)] at hv594_5
              replace hv594_5 := Option.some.inj (hv594_5.symm.trans hx594_5)
              injection hv594_5 with hva_ hvn_ hvc_
              rw [hva_] at ge594_5
              rw [hvc_] at ul594_5
              have HL594_5 := Aside0.mk (show Kd.V (Kd.int .i64) 3 _ w.heap.size _ _ ((rd_T33 t589 x9_2).f5) from Kd.V_mk ul594_5 ge594_5)
              clear hva_ hvn_ hvc_ ge594_5 ul594_5
              clear hcc594 hce594
              have HR594_3 := Aside0.mk hi594_3
              have HC594_3 := Aside0.mk hl594_3
              clear hi594_3 hl594_3
              have HR594_5 := Aside0.mk hi594_5
              have HC594_5 := Aside0.mk hl594_5
              clear hi594_5 hl594_5
              replace p594 := eq_true p594
              replace q594 := eq_true q594
              have p595 : 0 ≤ (x12_2 : Int) := td
              have q595 : x12_2 < (t586.length : Int) := td
              obtain ⟨ad595, A595_3, c595_3, A595_5, c595_5, e595, hx595_0, hx595_1, hx595_2, hx595_3, hx595_4, hx595_5, hl595_3, hi595_3, hl595_5, hi595_5⟩ := at_T33 (Kd.N_reads' HO_10.out).2.2 x12_2 p595 q595
              obtain rfl : ad593 = ad595 := (by injection e595)
              obtain ⟨ce595, hce595, hMe595, hcc595⟩ := Kd.N_get HO_10.out z33 x12_2 p595 (by first | exact q595 | exact td | (have e_ := (Kd.N_reads' HO_10.out).1; omega))
              obtain ⟨ua595_3, uc595_3, ua595_5, uc595_5, rfl, ul595_3, ge595_3, ul595_5, ge595_5⟩ := k33_openF hMe595
              have hv595_3 := hcc595 3 _ rfl
              rw [add_field _ _ 3 (by omega)] at hv595_3
              replace hv595_3 := Option.some.inj (hv595_3.symm.trans hx595_3)
              injection hv595_3 with hva_ hvn_ hvc_
              rw [hva_] at ge595_3
              rw [hvc_] at ul595_3
              have HL595_3 := Aside0.mk (show Kd.V (Kd.int .i64) 3 _ w.heap.size _ _ ((rd_T33 t586 x12_2).f3) from Kd.V_mk ul595_3 ge595_3)
              clear hva_ hvn_ hvc_ ge595_3 ul595_3
              have hv595_5 := hcc595 5 _ rfl
              rw [add_field _ _ 5 (by omega)] at hv595_5
              replace hv595_5 := Option.some.inj (hv595_5.symm.trans hx595_5)
              injection hv595_5 with hva_ hvn_ hvc_
              rw [hva_] at ge595_5
              rw [hvc_] at ul595_5
              have HL595_5 := Aside0.mk (show Kd.V (Kd.int .i64) 3 _ w.heap.size _ _ ((rd_T33 t586 x12_2).f5) from Kd.V_mk ul595_5 ge595_5)
              clear hva_ hvn_ hvc_ ge595_5 ul595_5
              clear hcc595 hce595
              have HR595_3 := Aside0.mk hi595_3
              have HC595_3 := Aside0.mk hl595_3
              clear hi595_3 hl595_3
              have HR595_5 := Aside0.mk hi595_5
              have HC595_5 := Aside0.mk hl595_5
              clear hi595_5 hl595_5
              replace p595 := eq_true p595
              replace q595 := eq_true q595
              obtain ⟨rfl, rfl⟩ : A593_3 = A595_3 ∧ c593_3 = c595_3 := by have q_ := Option.some.inj (hx593_3.symm.trans hx595_3); injection q_ with q1_ q2_ q3_; exact ⟨q1_, q3_⟩
              obtain ⟨rfl, rfl⟩ : A593_5 = A595_5 ∧ c593_5 = c595_5 := by have q_ := Option.some.inj (hx593_5.symm.trans hx595_5); injection q_ with q1_ q2_ q3_; exact ⟨q1_, q3_⟩
              refine start_ (n := 16) (S := fun w' => w'.cell? (ad594.add ((x9_2).toNat * 6)) = some (.int .i64 ((rd_T33 t589 x9_2).f0)) ∧ w'.cell? ⟨(ad594.add ((x9_2).toNat * 6)).block, (ad594.add ((x9_2).toNat * 6)).off + 1, none⟩ = some (.int .i64 ((rd_T33 t589 x9_2).f1)) ∧ w'.cell? ⟨(ad594.add ((x9_2).toNat * 6)).block, (ad594.add ((x9_2).toNat * 6)).off + 2, none⟩ = some (.bool ((rd_T33 t589 x9_2).f2)) ∧ w'.cell? ⟨(ad594.add ((x9_2).toNat * 6)).block, (ad594.add ((x9_2).toNat * 6)).off + 3, none⟩ = some (.slice A594_3 ((rd_T33 t589 x9_2).f3).length c594_3) ∧ w'.cell? ⟨(ad594.add ((x9_2).toNat * 6)).block, (ad594.add ((x9_2).toNat * 6)).off + 4, none⟩ = some (.bool ((rd_T33 t589 x9_2).f4)) ∧ w'.cell? ⟨(ad594.add ((x9_2).toNat * 6)).block, (ad594.add ((x9_2).toNat * 6)).off + 5, none⟩ = some (.slice A594_5 ((rd_T33 t589 x9_2).f5).length c594_5) ∧ w'.cell? (ad593.add ((x12_2).toNat * 6)) = some (.int .i64 ((rd_T33 t586 x12_2).f0)) ∧ w'.cell? ⟨(ad593.add ((x12_2).toNat * 6)).block, (ad593.add ((x12_2).toNat * 6)).off + 1, none⟩ = some (.int .i64 ((rd_T33 t586 x12_2).f1)) ∧ w'.cell? ⟨(ad593.add ((x12_2).toNat * 6)).block, (ad593.add ((x12_2).toNat * 6)).off + 2, none⟩ = some (.bool ((rd_T33 t586 x12_2).f2)) ∧ w'.cell? ⟨(ad593.add ((x12_2).toNat * 6)).block, (ad593.add ((x12_2).toNat * 6)).off + 3, none⟩ = some (.slice A593_3 ((rd_T33 t586 x12_2).f3).length c593_3) ∧ w'.cell? ⟨(ad593.add ((x12_2).toNat * 6)).block, (ad593.add ((x12_2).toNat * 6)).off + 4, none⟩ = some (.bool ((rd_T33 t586 x12_2).f4)) ∧ w'.cell? ⟨(ad593.add ((x12_2).toNat * 6)).block, (ad593.add ((x12_2).toNat * 6)).off + 5, none⟩ = some (.slice A593_5 ((rd_T33 t586 x12_2).f5).length c593_5)) (ds := []) #[false, false, false, false, false, false, false, false, false, false, false, false, false, false, false, false] (by kernel_rfl) rfl rfl ⟨hx594_0, hx594_1, hx594_2, hx594_3, hx594_4, hx594_5, hx595_0, hx595_1, hx595_2, hx595_3, hx595_4, hx595_5⟩ (fun hHeld => ?_); refine with_tabW laws_FnLogCut.tab15 laws_FnLogCut.bits15 (fun HT_ HW_ => ?_)
              generalize wr.drew = w43 at HO_5 HO_10 HO_11 HL593_3 HL593_5 HR593_3 HR593_5 HB HL594_3 HL594_5 HL595_3 HL595_5 HR594_3 HR594_5 HR595_3 HR595_5 hx594_0 hx594_1 hx594_2 hx594_3 hx594_4 hx594_5 hx595_0 hx595_1 hx595_2 hx595_3 hx595_4 hx595_5 hHeld ⊢
              refine pure_ (i := 0) (N := some 71) (v := ?_) (a' := ?_) #[true, false, false, false, false, false, false, false, false, false, false, false, false, false, false, false] rfl rfl (any_of HT_.out (by kernel_rfl)) (fun _ _ _ h => h) (Or.inl ⟨by rfl, ?_⟩) ?_ ?_
              rotate_left
              ·intro w'
               go_simp
               with_reducible rfl
              rotate_left
              ·simp only [Act.put, List.setIfInBounds_toArray, List.set_cons_zero, List.set_cons_succ, i64_w, i32_w]
               rfl
              refine pure_ (i := 1) (N := some 72) (v := ?_) (a' := ?_) #[true, true, false, false, false, false, false, false, false, false, false, false, false, false, false, false] rfl rfl (any_of HT_.out (by kernel_rfl)) (fun _ _ _ h => h) (Or.inl ⟨by rfl, ?_⟩) ?_ ?_
              rotate_left
              ·intro w'
               go_simp
               with_reducible rfl
              rotate_left
              ·simp only [Act.put, List.setIfInBounds_toArray, List.set_cons_zero, List.set_cons_succ, i64_w, i32_w]
               rfl
              refine pure_ (i := 2) (N := some 73) (v := ?_) (a' := ?_) #[true, true, true, false, false, false, false, false, false, false, false, false, false, false, false, false] rfl rfl (any_of HT_.out (by kernel_rfl)) (fun _ _ _ h => h) (Or.inl ⟨by rfl, ?_⟩) ?_ ?_
              rotate_left
              ·intro w'
               go_simp
               with_reducible rfl
              rotate_left
              ·simp only [Act.put, List.setIfInBounds_toArray, List.set_cons_zero, List.set_cons_succ, i64_w, i32_w]
               rfl
              refine pure_ (i := 3) (N := some 74) (v := ?_) (a' := ?_) #[true, true, true, true, false, false, false, false, false, false, false, false, false, false, false, false] rfl rfl (any_of HT_.out (by kernel_rfl)) (fun _ _ _ h => h) (Or.inl ⟨by rfl, ?_⟩) ?_ ?_
              rotate_left
              ·intro w'
               go_simp
               with_reducible rfl
              rotate_left
              ·simp only [Act.put, List.setIfInBounds_toArray, List.set_cons_zero, List.set_cons_succ, i64_w, i32_w]
               rfl
              refine pure_ (i := 4) (N := some 75) (v := ?_) (a' := ?_) #[true, true, true, true, true, false, false, false, false, false, false, false, false, false, false, false] rfl rfl (any_of HT_.out (by kernel_rfl)) (fun _ _ _ h => h) (Or.inl ⟨by rfl, ?_⟩) ?_ ?_
              rotate_left
              ·intro w'
               go_simp
               with_reducible rfl
              rotate_left
              ·simp only [Act.put, List.setIfInBounds_toArray, List.set_cons_zero, List.set_cons_succ, i64_w, i32_w]
               rfl
              refine pure_ (i := 5) (N := some 76) (v := ?_) (a' := ?_) #[true, true, true, true, true, true, false, false, false, false, false, false, false, false, false, false] rfl rfl (any_of HT_.out (by kernel_rfl)) (fun _ _ _ h => h) (Or.inl ⟨by rfl, ?_⟩) ?_ ?_
              rotate_left
              ·intro w'
               go_simp
               with_reducible rfl
              rotate_left
              ·simp only [Act.put, List.setIfInBounds_toArray, List.set_cons_zero, List.set_cons_succ, i64_w, i32_w]
               rfl
              refine pure_ (i := 6) (N := some 77) (v := ?_) (a' := ?_) #[true, true, true, true, true, true, true, false, false, false, false, false, false, false, false, false] rfl rfl (any_of HT_.out (by kernel_rfl)) (fun _ _ _ h => h) (Or.inl ⟨by rfl, ?_⟩) ?_ ?_
              rotate_left
              ·intro w'
               go_simp
               with_reducible rfl
              rotate_left
              ·simp only [Act.put, List.setIfInBounds_toArray, List.set_cons_zero, List.set_cons_succ, i64_w, i32_w]
               rfl
              refine pure_ (i := 7) (N := some 78) (v := ?_) (a' := ?_) #[true, true, true, true, true, true, true, true, false, false, false, false, false, false, false, false] rfl rfl (any_of HT_.out (by kernel_rfl)) (fun _ _ _ h => h) (Or.inl ⟨by rfl, ?_⟩) ?_ ?_
              rotate_left
              ·intro w'
               go_simp
               with_reducible rfl
              rotate_left
              ·simp only [Act.put, List.setIfInBounds_toArray, List.set_cons_zero, List.set_cons_succ, i64_w, i32_w]
               rfl
              refine pure_ (i := 9) (N := some 80) (v := ?_) (a' := ?_) #[true, true, true, true, true, true, true, true, false, true, false, false, false, false, false, false] rfl rfl (any_of HT_.out (by kernel_rfl)) (fun _ _ _ h => h) (Or.inl ⟨by rfl, ?_⟩) ?_ ?_
              rotate_left
              ·intro w'
               go_simp
               with_reducible rfl
              rotate_left
              ·simp only [Act.put, List.setIfInBounds_toArray, List.set_cons_zero, List.set_cons_succ, i64_w, i32_w]
               rfl
              refine pure_ (i := 10) (N := some 81) (v := ?_) (a' := ?_) #[true, true, true, true, true, true, true, true, false, true, true, false, false, false, false, false] rfl rfl (any_of HT_.out (by kernel_rfl)) (fun _ _ _ h => h) (Or.inl ⟨by rfl, ?_⟩) ?_ ?_
              rotate_left
              ·intro w'
               go_simp
               with_reducible rfl
              rotate_left
              ·simp only [Act.put, List.setIfInBounds_toArray, List.set_cons_zero, List.set_cons_succ, i64_w, i32_w]
               rfl
              refine pure_ (i := 11) (N := some 82) (v := ?_) (a' := ?_) #[true, true, true, true, true, true, true, true, false, true, true, true, false, false, false, false] rfl rfl (any_of HT_.out (by kernel_rfl)) (fun _ _ _ h => h) (Or.inl ⟨by rfl, ?_⟩) ?_ ?_
              rotate_left
              ·intro w'
               go_simp
               with_reducible rfl
              rotate_left
              ·simp only [Act.put, List.setIfInBounds_toArray, List.set_cons_zero, List.set_cons_succ, i64_w, i32_w]
               rfl
              refine take_ (i := 8) (N := some 79) (v := ?_) (a' := ?_) #[true, true, true, true, true, true, true, true, true, true, true, true, false, false, false, false] rfl rfl (take_ofW HT_.out HW_.out (by kernel_rfl)) (fun _ _ _ h => h) (Or.inl ⟨by rfl, ?_⟩) hHeld ?_ ?_
              rotate_left
              ·rintro w' ⟨s0, s1, s2, s3, s4, s5, s6, s7, s8, s9, s10, s11⟩
               go_simp
               with_reducible rfl
              rotate_left
              ·simp only [Act.put, List.setIfInBounds_toArray, List.set_cons_zero, List.set_cons_succ, i64_w, i32_w]
               rfl
              refine take_ (i := 12) (N := some 83) (v := ?_) (a' := ?_) #[true, true, true, true, true, true, true, true, true, true, true, true, true, false, false, false] rfl rfl (take_ofW HT_.out HW_.out (by kernel_rfl)) (fun _ _ _ h => h) (Or.inl ⟨by rfl, ?_⟩) hHeld ?_ ?_
              rotate_left
              ·rintro w' ⟨s0, s1, s2, s3, s4, s5, s6, s7, s8, s9, s10, s11⟩
               go_simp
               with_reducible rfl
              rotate_left
              ·simp only [Act.put, List.setIfInBounds_toArray, List.set_cons_zero, List.set_cons_succ, i64_w, i32_w]
               rfl
              refine one_ (i := 13) (N := some 84) #[true, true, true, true, true, true, true, true, true, true, true, true, true, true, false, false] rfl rfl (one_of HT_.out (by kernel_rfl)) (by decide) (fun K hK => ?_)
              refine goes_ Tryd.func16 (by kernel_rfl) rfl #[.agg #[.int .i64 ((rd_T33 t589 x9_2).f0), .int .i64 ((rd_T33 t589 x9_2).f1), .bool ((rd_T33 t589 x9_2).f2), .slice A594_3 ((rd_T33 t589 x9_2).f3).length c594_3, .bool ((rd_T33 t589 x9_2).f4), .slice A594_5 ((rd_T33 t589 x9_2).f5).length c594_5], .agg #[.int .i64 ((rd_T33 t586 x12_2).f0), .int .i64 ((rd_T33 t586 x12_2).f1), .bool ((rd_T33 t586 x12_2).f2), .slice A593_3 ((rd_T33 t586 x12_2).f3).length c593_3, .bool ((rd_T33 t586 x12_2).f4), .slice A593_5 ((rd_T33 t586 x12_2).f5).length c593_5]] (by rfl) rfl rfl tq ?_
              with_reducible refine (laws_sameRecord.calls k2 ((rd_T33 t589 x9_2).f0) ((rd_T33 t589 x9_2).f1) ((rd_T33 t589 x9_2).f2) _ _ ((rd_T33 t589 x9_2).f3) ((rd_T33 t589 x9_2).f4) _ _ ((rd_T33 t589 x9_2).f5) ((rd_T33 t586 x12_2).f0) ((rd_T33 t586 x12_2).f1) ((rd_T33 t586 x12_2).f2) _ _ ((rd_T33 t586 x12_2).f3) ((rd_T33 t586 x12_2).f4) _ _ ((rd_T33 t586 x12_2).f5) true _ ?side1 ?side2 ?side3 ?side4 ?side5 ?side6 ?side7 ?side8 A40.out).mono ?_
              (case side1 => exact tC (tC HR594_3.out))
              (case side2 => exact HC594_3.out)
              (case side3 => exact tC (tC HR594_5.out))
              (case side4 => exact HC594_5.out)
              (case side5 => exact tC (tC HR595_3.out))
              (case side6 => exact HC595_3.out)
              (case side7 => exact tC (tC HR595_5.out))
              (case side8 => exact HC595_5.out)
              rintro e w45 ⟨rfl, hb⟩
              have HS0_ := tcb hb hHeld.1
              have HS1_ := tcb hb hHeld.2.1
              have HS2_ := tcb hb hHeld.2.2.1
              have HS3_ := tcb hb hHeld.2.2.2.1
              have HS4_ := tcb hb hHeld.2.2.2.2.1
              have HS5_ := tcb hb hHeld.2.2.2.2.2.1
              have HS6_ := tcb hb hHeld.2.2.2.2.2.2.1
              have HS7_ := tcb hb hHeld.2.2.2.2.2.2.2.1
              have HS8_ := tcb hb hHeld.2.2.2.2.2.2.2.2.1
              have HS9_ := tcb hb hHeld.2.2.2.2.2.2.2.2.2.1
              have HS10_ := tcb hb hHeld.2.2.2.2.2.2.2.2.2.2.1
              have HS11_ := tcb hb hHeld.2.2.2.2.2.2.2.2.2.2.2
              refine ⟨_, rfl, ?_⟩
              replace HO_5 := tNb HO_5 hb
              replace HO_10 := tNb HO_10 hb
              replace HO_11 := tNb HO_11 hb
              replace HL593_3 := tVb HL593_3 hb
              replace HL593_5 := tVb HL593_5 hb
              replace HL594_3 := tVb HL594_3 hb
              replace HL594_5 := tVb HL594_5 hb
              replace HL595_3 := tVb HL595_3 hb
              replace HL595_5 := tVb HL595_5 hb
              replace HR593_3 := tCb HR593_3 hb
              replace HR593_5 := tCb HR593_5 hb
              replace HR594_3 := tCb HR594_3 hb
              replace HR594_5 := tCb HR594_5 hb
              replace HR595_3 := tCb HR595_3 hb
              replace HR595_5 := tCb HR595_5 hb
              replace HB := tBs HB hb
              (try clear hb)
              (try clear hb2)
              (try clear hk)
              (try clear hi)
              refine hK.out _ _ ⟨HS0_, HS1_, HS2_, HS3_, HS4_, HS5_, HS6_, HS7_, HS8_, HS9_, HS10_, HS11_⟩ (fun hHeld => ?_)
              clear hK K
              refine norm_ (a' := ?_) ?_ ?_
              rotate_left
              ·show Act.put _ (some 84) _ = _
               simp only [Act.put, List.setIfInBounds_toArray, List.set_cons_zero, List.set_cons_succ, i64_w, i32_w]
               rfl
              refine pure_ (i := 14) (N := some 85) (v := ?_) (a' := ?_) #[true, true, true, true, true, true, true, true, true, true, true, true, true, true, true, false] rfl rfl (any_of HT_.out (by kernel_rfl)) (fun _ _ _ h => h) (Or.inl ⟨by rfl, ?_⟩) ?_ ?_
              rotate_left
              ·intro w'
               go_simp
               with_reducible rfl
              rotate_left
              ·simp only [Act.put, List.setIfInBounds_toArray, List.set_cons_zero, List.set_cons_succ, i64_w, i32_w]
               rfl
              refine pure_ (i := 15) (N := some 86) (v := ?_) (a' := ?_) #[true, true, true, true, true, true, true, true, true, true, true, true, true, true, true, true] rfl rfl (any_of HT_.out (by kernel_rfl)) (fun _ _ _ h => h) (Or.inl ⟨by rfl, ?_⟩) ?_ ?_
              rotate_left
              ·intro w'
               go_simp
               with_reducible rfl
              rotate_left
              ·simp only [Act.put, List.setIfInBounds_toArray, List.set_cons_zero, List.set_cons_succ, i64_w, i32_w]
               rfl
              refine done_ (done_of HT_.out (by kernel_rfl)) ?_
              try go_wp2
              go_roundg k2
              case measure => have := HJ5.out; have := HK2.out; omega
              case rel => exact ⟨(wrap64 (x9_2 + 1)), (wrap64 (x12_2 + 1)), tr, tr, H', ⟨by have := HJ5.out; have := HK2.out; omega⟩, ⟨tN HO_5.out⟩, ⟨tN HO_10.out⟩, ⟨tN HO_11.out⟩, ⟨zb⟩⟩
             ·replace c41 := Bool.eq_false_iff.mpr c41
              subst c41
              rw [if_neg (show ¬ (false = true) by decide)] at H
              obtain rfl := Option.some.inj H
              obtain ⟨Ao46, co46, eo46⟩ := Kd.N_slice HO_10.out
              subst eo46
              have p593 : 0 ≤ (x12_2 : Int) := td
              have q593 : x12_2 < (t586.length : Int) := td
              obtain ⟨ad593, A593_3, c593_3, A593_5, c593_5, e593, hx593_0, hx593_1, hx593_2, hx593_3, hx593_4, hx593_5, hl593_3, hi593_3, hl593_5, hi593_5⟩ := at_T33 (Kd.N_reads' HO_10.out).2.2 x12_2 p593 q593
              cases e593
              obtain ⟨ce593, hce593, hMe593, hcc593⟩ := Kd.N_get HO_10.out z33 x12_2 p593 (by first | exact q593 | exact td | (have e_ := (Kd.N_reads' HO_10.out).1; omega))
              obtain ⟨ua593_3, uc593_3, ua593_5, uc593_5, rfl, ul593_3, ge593_3, ul593_5, ge593_5⟩ := k33_openF hMe593
              have hv593_3 := hcc593 3 _ rfl
              rw [add_field _ _ 3 (by omega)] at hv593_3
              replace hv593_3 := Option.some.inj (hv593_3.symm.trans hx593_3)
              injection hv593_3 with hva_ hvn_ hvc_
              rw [hva_] at ge593_3
              rw [hvc_] at ul593_3
              have HL593_3 := Aside0.mk (show Kd.V (Kd.int .i64) 3 _ w.heap.size _ _ ((rd_T33 t586 x12_2).f3) from Kd.V_mk ul593_3 ge593_3)
              clear hva_ hvn_ hvc_ ge593_3 ul593_3
              have hv593_5 := hcc593 5 _ rfl
              rw [add_field _ _ 5 (by omega)] at hv593_5
              replace hv593_5 := Option.some.inj (hv593_5.symm.trans hx593_5)
              injection hv593_5 with hva_ hvn_ hvc_
              rw [hva_] at ge593_5
              rw [hvc_] at ul593_5
              have HL593_5 := Aside0.mk (show Kd.V (Kd.int .i64) 3 _ w.heap.size _ _ ((rd_T33 t586 x12_2).f5) from Kd.V_mk ul593_5 ge593_5)
              clear hva_ hvn_ hvc_ ge593_5 ul593_5
              clear hcc593 hce593
              have HR593_3 := Aside0.mk hi593_3
              have HC593_3 := Aside0.mk hl593_3
              clear hi593_3 hl593_3
              have HR593_5 := Aside0.mk hi593_5
              have HC593_5 := Aside0.mk hl593_5
              clear hi593_5 hl593_5
              replace p593 := eq_true p593
              replace q593 := eq_true q593
              try go_wp2
              replace HO_5 := Aside0.mk (Kd.N_drew HO_5.out)
              replace HO_10 := Aside0.mk (Kd.N_drew HO_10.out)
              replace HO_11 := Aside0.mk (Kd.N_drew HO_11.out)
              replace HL593_3 := Aside0.mk (Kd.V_drew HL593_3.out)
              replace HL593_5 := Aside0.mk (Kd.V_drew HL593_5.out)
              replace HR593_3 := Aside0.mk (Kd.C_drew HR593_3.out)
              replace HR593_5 := Aside0.mk (Kd.C_drew HR593_5.out)
              replace HB := Aside0.mk (below_drew1 HB.out)
              obtain ⟨Ao48, co48, eo48⟩ := Kd.N_slice HO_11.out
              (first | subst eo48 | (injection eo48 with f1_ f2_ f3_; have f4_ := f1_.symm; have f5_ := f3_.symm; clear f1_ f2_ f3_; subst f4_; subst f5_))
              have p594 : 0 ≤ (x9_2 : Int) := td
              have q594 : x9_2 < (t589.length : Int) := td
              obtain ⟨ad594, A594_3, c594_3, A594_5, c594_5, e594, hx594_0, hx594_1, hx594_2, hx594_3, hx594_4, hx594_5, hl594_3, hi594_3, hl594_5, hi594_5⟩ := at_T33 (Kd.N_reads' HO_11.out).2.2 x9_2 p594 q594
              cases e594
              obtain ⟨ce594, hce594, hMe594, hcc594⟩ := Kd.N_get HO_11.out z33 x9_2 p594 (by first | exact q594 | exact td | (have e_ := (Kd.N_reads' HO_11.out).1; omega))
              obtain ⟨ua594_3, uc594_3, ua594_5, uc594_5, rfl, ul594_3, ge594_3, ul594_5, ge594_5⟩ := k33_openF hMe594
              have hv594_3 := hcc594 3 _ rfl
              rw [add_field _ _ 3 (by omega)] at hv594_3
              replace hv594_3 := Option.some.inj (hv594_3.symm.trans hx594_3)
              injection hv594_3 with hva_ hvn_ hvc_
              rw [hva_] at ge594_3
              rw [hvc_] at ul594_3
              have HL594_3 := Aside0.mk (show Kd.V (Kd.int .i64) 3 _ w.heap.size _ _ ((rd_T33 t589 x9_2).f3) from Kd.V_mk ul594_3 ge594_3)
              clear hva_ hvn_ hvc_ ge594_3 ul594_3
              have hv594_5 := hcc594 5 _ rfl
              rw [add_field _ _ 5 (by omega)] at hv594_5
              replace hv594_5 := Option.some.inj (hv594_5.symm.trans hx594_5)
              injection hv594_5 with hva_ hvn_ hvc_
              rw [hva_] at ge594_5
              rw [hvc_] at ul594_5
              have HL594_5 := Aside0.mk (show Kd.V (Kd.int .i64) 3 _ w.heap.size _ _ ((rd_T33 t589 x9_2).f5) from Kd.V_mk ul594_5 ge594_5)
              clear hva_ hvn_ hvc_ ge594_5 ul594_5
              clear hcc594 hce594
              have HR594_3 := Aside0.mk hi594_3
              have HC594_3 := Aside0.mk hl594_3
              clear hi594_3 hl594_3
              have HR594_5 := Aside0.mk hi594_5
              have HC594_5 := Aside0.mk hl594_5
              clear hi594_5 hl594_5
              replace p594 := eq_true p594
              replace q594 := eq_true q594
              have p595 : 0 ≤ (x12_2 : Int) := td
              have q595 : x12_2 < (t586.length : Int) := td
              obtain ⟨ad595, A595_3, c595_3, A595_5, c595_5, e595, hx595_0, hx595_1, hx595_2, hx595_3, hx595_4, hx595_5, hl595_3, hi595_3, hl595_5, hi595_5⟩ := at_T33 (Kd.N_reads' HO_10.out).2.2 x12_2 p595 q595
              obtain rfl : ad593 = ad595 := (by injection e595)
              obtain ⟨ce595, hce595, hMe595, hcc595⟩ := Kd.N_get HO_10.out z33 x12_2 p595 (by first | exact q595 | exact td | (have e_ := (Kd.N_reads' HO_10.out).1; omega))
              obtain ⟨ua595_3, uc595_3, ua595_5, uc595_5, rfl, ul595_3, ge595_3, ul595_5, ge595_5⟩ := k33_openF hMe595
              have hv595_3 := hcc595 3 _ rfl
              rw [add_field _ _ 3 (by omega)] at hv595_3
              replace hv595_3 := Option.some.inj (hv595_3.symm.trans hx595_3)
              injection hv595_3 with hva_ hvn_ hvc_
              rw [hva_] at ge595_3
              rw [hvc_] at ul595_3
              have HL595_3 := Aside0.mk (show Kd.V (Kd.int .i64) 3 _ w.heap.size _ _ ((rd_T33 t586 x12_2).f3) from Kd.V_mk ul595_3 ge595_3)
              clear hva_ hvn_ hvc_ ge595_3 ul595_3
              have hv595_5 := hcc595 5 _ rfl
              rw [add_field _ _ 5 (by omega)] at hv595_5
              replace hv595_5 := Option.some.inj (hv595_5.symm.trans hx595_5)
              injection hv595_5 with hva_ hvn_ hvc_
              rw [hva_] at ge595_5
              rw [hvc_] at ul595_5
              have HL595_5 := Aside0.mk (show Kd.V (Kd.int .i64) 3 _ w.heap.size _ _ ((rd_T33 t586 x12_2).f5) from Kd.V_mk ul595_5 ge595_5)
              clear hva_ hvn_ hvc_ ge595_5 ul595_5
              clear hcc595 hce595
              have HR595_3 := Aside0.mk hi595_3
              have HC595_3 := Aside0.mk hl595_3
              clear hi595_3 hl595_3
              have HR595_5 := Aside0.mk hi595_5
              have HC595_5 := Aside0.mk hl595_5
              clear hi595_5 hl595_5
              replace p595 := eq_true p595
              replace q595 := eq_true q595
              obtain ⟨rfl, rfl⟩ : A593_3 = A595_3 ∧ c593_3 = c595_3 := by have q_ := Option.some.inj (hx593_3.symm.trans hx595_3); injection q_ with q1_ q2_ q3_; exact ⟨q1_, q3_⟩
              obtain ⟨rfl, rfl⟩ : A593_5 = A595_5 ∧ c593_5 = c595_5 := by have q_ := Option.some.inj (hx593_5.symm.trans hx595_5); injection q_ with q1_ q2_ q3_; exact ⟨q1_, q3_⟩
              refine start_ (n := 16) (S := fun w' => w'.cell? (ad594.add ((x9_2).toNat * 6)) = some (.int .i64 ((rd_T33 t589 x9_2).f0)) ∧ w'.cell? ⟨(ad594.add ((x9_2).toNat * 6)).block, (ad594.add ((x9_2).toNat * 6)).off + 1, none⟩ = some (.int .i64 ((rd_T33 t589 x9_2).f1)) ∧ w'.cell? ⟨(ad594.add ((x9_2).toNat * 6)).block, (ad594.add ((x9_2).toNat * 6)).off + 2, none⟩ = some (.bool ((rd_T33 t589 x9_2).f2)) ∧ w'.cell? ⟨(ad594.add ((x9_2).toNat * 6)).block, (ad594.add ((x9_2).toNat * 6)).off + 3, none⟩ = some (.slice A594_3 ((rd_T33 t589 x9_2).f3).length c594_3) ∧ w'.cell? ⟨(ad594.add ((x9_2).toNat * 6)).block, (ad594.add ((x9_2).toNat * 6)).off + 4, none⟩ = some (.bool ((rd_T33 t589 x9_2).f4)) ∧ w'.cell? ⟨(ad594.add ((x9_2).toNat * 6)).block, (ad594.add ((x9_2).toNat * 6)).off + 5, none⟩ = some (.slice A594_5 ((rd_T33 t589 x9_2).f5).length c594_5) ∧ w'.cell? (ad593.add ((x12_2).toNat * 6)) = some (.int .i64 ((rd_T33 t586 x12_2).f0)) ∧ w'.cell? ⟨(ad593.add ((x12_2).toNat * 6)).block, (ad593.add ((x12_2).toNat * 6)).off + 1, none⟩ = some (.int .i64 ((rd_T33 t586 x12_2).f1)) ∧ w'.cell? ⟨(ad593.add ((x12_2).toNat * 6)).block, (ad593.add ((x12_2).toNat * 6)).off + 2, none⟩ = some (.bool ((rd_T33 t586 x12_2).f2)) ∧ w'.cell? ⟨(ad593.add ((x12_2).toNat * 6)).block, (ad593.add ((x12_2).toNat * 6)).off + 3, none⟩ = some (.slice A593_3 ((rd_T33 t586 x12_2).f3).length c593_3) ∧ w'.cell? ⟨(ad593.add ((x12_2).toNat * 6)).block, (ad593.add ((x12_2).toNat * 6)).off + 4, none⟩ = some (.bool ((rd_T33 t586 x12_2).f4)) ∧ w'.cell? ⟨(ad593.add ((x12_2).toNat * 6)).block, (ad593.add ((x12_2).toNat * 6)).off + 5, none⟩ = some (.slice A593_5 ((rd_T33 t586 x12_2).f5).length c593_5)) (ds := []) #[false, false, false, false, false, false, false, false, false, false, false, false, false, false, false, false] (by kernel_rfl) rfl rfl ⟨hx594_0, hx594_1, hx594_2, hx594_3, hx594_4, hx594_5, hx595_0, hx595_1, hx595_2, hx595_3, hx595_4, hx595_5⟩ (fun hHeld => ?_); refine with_tabW laws_FnLogCut.tab15 laws_FnLogCut.bits15 (fun HT_ HW_ => ?_)
              generalize wr.drew = w47 at HO_5 HO_10 HO_11 HL593_3 HL593_5 HR593_3 HR593_5 HB HL594_3 HL594_5 HL595_3 HL595_5 HR594_3 HR594_5 HR595_3 HR595_5 hx594_0 hx594_1 hx594_2 hx594_3 hx594_4 hx594_5 hx595_0 hx595_1 hx595_2 hx595_3 hx595_4 hx595_5 hHeld ⊢
              refine pure_ (i := 0) (N := some 71) (v := ?_) (a' := ?_) #[true, false, false, false, false, false, false, false, false, false, false, false, false, false, false, false] rfl rfl (any_of HT_.out (by kernel_rfl)) (fun _ _ _ h => h) (Or.inl ⟨by rfl, ?_⟩) ?_ ?_
              rotate_left
              ·intro w'
               go_simp
               with_reducible rfl
              rotate_left
              ·simp only [Act.put, List.setIfInBounds_toArray, List.set_cons_zero, List.set_cons_succ, i64_w, i32_w]
               rfl
              refine pure_ (i := 1) (N := some 72) (v := ?_) (a' := ?_) #[true, true, false, false, false, false, false, false, false, false, false, false, false, false, false, false] rfl rfl (any_of HT_.out (by kernel_rfl)) (fun _ _ _ h => h) (Or.inl ⟨by rfl, ?_⟩) ?_ ?_
              rotate_left
              ·intro w'
               go_simp
               with_reducible rfl
              rotate_left
              ·simp only [Act.put, List.setIfInBounds_toArray, List.set_cons_zero, List.set_cons_succ, i64_w, i32_w]
               rfl
              refine pure_ (i := 2) (N := some 73) (v := ?_) (a' := ?_) #[true, true, true, false, false, false, false, false, false, false, false, false, false, false, false, false] rfl rfl (any_of HT_.out (by kernel_rfl)) (fun _ _ _ h => h) (Or.inl ⟨by rfl, ?_⟩) ?_ ?_
              rotate_left
              ·intro w'
               go_simp
               with_reducible rfl
              rotate_left
              ·simp only [Act.put, List.setIfInBounds_toArray, List.set_cons_zero, List.set_cons_succ, i64_w, i32_w]
               rfl
              refine pure_ (i := 3) (N := some 74) (v := ?_) (a' := ?_) #[true, true, true, true, false, false, false, false, false, false, false, false, false, false, false, false] rfl rfl (any_of HT_.out (by kernel_rfl)) (fun _ _ _ h => h) (Or.inl ⟨by rfl, ?_⟩) ?_ ?_
              rotate_left
              ·intro w'
               go_simp
               with_reducible rfl
              rotate_left
              ·simp only [Act.put, List.setIfInBounds_toArray, List.set_cons_zero, List.set_cons_succ, i64_w, i32_w]
               rfl
              refine pure_ (i := 4) (N := some 75) (v := ?_) (a' := ?_) #[true, true, true, true, true, false, false, false, false, false, false, false, false, false, false, false] rfl rfl (any_of HT_.out (by kernel_rfl)) (fun _ _ _ h => h) (Or.inl ⟨by rfl, ?_⟩) ?_ ?_
              rotate_left
              ·intro w'
               go_simp
               with_reducible rfl
              rotate_left
              ·simp only [Act.put, List.setIfInBounds_toArray, List.set_cons_zero, List.set_cons_succ, i64_w, i32_w]
               rfl
              refine pure_ (i := 5) (N := some 76) (v := ?_) (a' := ?_) #[true, true, true, true, true, true, false, false, false, false, false, false, false, false, false, false] rfl rfl (any_of HT_.out (by kernel_rfl)) (fun _ _ _ h => h) (Or.inl ⟨by rfl, ?_⟩) ?_ ?_
              rotate_left
              ·intro w'
               go_simp
               with_reducible rfl
              rotate_left
              ·simp only [Act.put, List.setIfInBounds_toArray, List.set_cons_zero, List.set_cons_succ, i64_w, i32_w]
               rfl
              refine pure_ (i := 6) (N := some 77) (v := ?_) (a' := ?_) #[true, true, true, true, true, true, true, false, false, false, false, false, false, false, false, false] rfl rfl (any_of HT_.out (by kernel_rfl)) (fun _ _ _ h => h) (Or.inl ⟨by rfl, ?_⟩) ?_ ?_
              rotate_left
              ·intro w'
               go_simp
               with_reducible rfl
              rotate_left
              ·simp only [Act.put, List.setIfInBounds_toArray, List.set_cons_zero, List.set_cons_succ, i64_w, i32_w]
               rfl
              refine pure_ (i := 7) (N := some 78) (v := ?_) (a' := ?_) #[true, true, true, true, true, true, true, true, false, false, false, false, false, false, false, false] rfl rfl (any_of HT_.out (by kernel_rfl)) (fun _ _ _ h => h) (Or.inl ⟨by rfl, ?_⟩) ?_ ?_
              rotate_left
              ·intro w'
               go_simp
               with_reducible rfl
              rotate_left
              ·simp only [Act.put, List.setIfInBounds_toArray, List.set_cons_zero, List.set_cons_succ, i64_w, i32_w]
               rfl
              refine pure_ (i := 9) (N := some 80) (v := ?_) (a' := ?_) #[true, true, true, true, true, true, true, true, false, true, false, false, false, false, false, false] rfl rfl (any_of HT_.out (by kernel_rfl)) (fun _ _ _ h => h) (Or.inl ⟨by rfl, ?_⟩) ?_ ?_
              rotate_left
              ·intro w'
               go_simp
               with_reducible rfl
              rotate_left
              ·simp only [Act.put, List.setIfInBounds_toArray, List.set_cons_zero, List.set_cons_succ, i64_w, i32_w]
               rfl
              refine pure_ (i := 10) (N := some 81) (v := ?_) (a' := ?_) #[true, true, true, true, true, true, true, true, false, true, true, false, false, false, false, false] rfl rfl (any_of HT_.out (by kernel_rfl)) (fun _ _ _ h => h) (Or.inl ⟨by rfl, ?_⟩) ?_ ?_
              rotate_left
              ·intro w'
               go_simp
               with_reducible rfl
              rotate_left
              ·simp only [Act.put, List.setIfInBounds_toArray, List.set_cons_zero, List.set_cons_succ, i64_w, i32_w]
               rfl
              refine pure_ (i := 11) (N := some 82) (v := ?_) (a' := ?_) #[true, true, true, true, true, true, true, true, false, true, true, true, false, false, false, false] rfl rfl (any_of HT_.out (by kernel_rfl)) (fun _ _ _ h => h) (Or.inl ⟨by rfl, ?_⟩) ?_ ?_
              rotate_left
              ·intro w'
               go_simp
               with_reducible rfl
              rotate_left
              ·simp only [Act.put, List.setIfInBounds_toArray, List.set_cons_zero, List.set_cons_succ, i64_w, i32_w]
               rfl
              refine take_ (i := 8) (N := some 79) (v := ?_) (a' := ?_) #[true, true, true, true, true, true, true, true, true, true, true, true, false, false, false, false] rfl rfl (take_ofW HT_.out HW_.out (by kernel_rfl)) (fun _ _ _ h => h) (Or.inl ⟨by rfl, ?_⟩) hHeld ?_ ?_
              rotate_left
              ·rintro w' ⟨s0, s1, s2, s3, s4, s5, s6, s7, s8, s9, s10, s11⟩
               go_simp
               with_reducible rfl
              rotate_left
              ·simp only [Act.put, List.setIfInBounds_toArray, List.set_cons_zero, List.set_cons_succ, i64_w, i32_w]
               rfl
              refine take_ (i := 12) (N := some 83) (v := ?_) (a' := ?_) #[true, true, true, true, true, true, true, true, true, true, true, true, true, false, false, false] rfl rfl (take_ofW HT_.out HW_.out (by kernel_rfl)) (fun _ _ _ h => h) (Or.inl ⟨by rfl, ?_⟩) hHeld ?_ ?_
              rotate_left
              ·rintro w' ⟨s0, s1, s2, s3, s4, s5, s6, s7, s8, s9, s10, s11⟩
               go_simp
               with_reducible rfl
              rotate_left
              ·simp only [Act.put, List.setIfInBounds_toArray, List.set_cons_zero, List.set_cons_succ, i64_w, i32_w]
               rfl
              refine one_ (i := 13) (N := some 84) #[true, true, true, true, true, true, true, true, true, true, true, true, true, true, false, false] rfl rfl (one_of HT_.out (by kernel_rfl)) (by decide) (fun K hK => ?_)
              refine goes_ Tryd.func16 (by kernel_rfl) rfl #[.agg #[.int .i64 ((rd_T33 t589 x9_2).f0), .int .i64 ((rd_T33 t589 x9_2).f1), .bool ((rd_T33 t589 x9_2).f2), .slice A594_3 ((rd_T33 t589 x9_2).f3).length c594_3, .bool ((rd_T33 t589 x9_2).f4), .slice A594_5 ((rd_T33 t589 x9_2).f5).length c594_5], .agg #[.int .i64 ((rd_T33 t586 x12_2).f0), .int .i64 ((rd_T33 t586 x12_2).f1), .bool ((rd_T33 t586 x12_2).f2), .slice A593_3 ((rd_T33 t586 x12_2).f3).length c593_3, .bool ((rd_T33 t586 x12_2).f4), .slice A593_5 ((rd_T33 t586 x12_2).f5).length c593_5]] (by rfl) rfl rfl tq ?_
              with_reducible refine (laws_sameRecord.calls k2 ((rd_T33 t589 x9_2).f0) ((rd_T33 t589 x9_2).f1) ((rd_T33 t589 x9_2).f2) _ _ ((rd_T33 t589 x9_2).f3) ((rd_T33 t589 x9_2).f4) _ _ ((rd_T33 t589 x9_2).f5) ((rd_T33 t586 x12_2).f0) ((rd_T33 t586 x12_2).f1) ((rd_T33 t586 x12_2).f2) _ _ ((rd_T33 t586 x12_2).f3) ((rd_T33 t586 x12_2).f4) _ _ ((rd_T33 t586 x12_2).f5) false _ ?side1 ?side2 ?side3 ?side4 ?side5 ?side6 ?side7 ?side8 A40.out).mono ?_
              (case side1 => exact tC (tC HR594_3.out))
              (case side2 => exact HC594_3.out)
              (case side3 => exact tC (tC HR594_5.out))
              (case side4 => exact HC594_5.out)
              (case side5 => exact tC (tC HR595_3.out))
              (case side6 => exact HC595_3.out)
              (case side7 => exact tC (tC HR595_5.out))
              (case side8 => exact HC595_5.out)
              rintro e w49 ⟨rfl, hb⟩
              have HS0_ := tcb hb hHeld.1
              have HS1_ := tcb hb hHeld.2.1
              have HS2_ := tcb hb hHeld.2.2.1
              have HS3_ := tcb hb hHeld.2.2.2.1
              have HS4_ := tcb hb hHeld.2.2.2.2.1
              have HS5_ := tcb hb hHeld.2.2.2.2.2.1
              have HS6_ := tcb hb hHeld.2.2.2.2.2.2.1
              have HS7_ := tcb hb hHeld.2.2.2.2.2.2.2.1
              have HS8_ := tcb hb hHeld.2.2.2.2.2.2.2.2.1
              have HS9_ := tcb hb hHeld.2.2.2.2.2.2.2.2.2.1
              have HS10_ := tcb hb hHeld.2.2.2.2.2.2.2.2.2.2.1
              have HS11_ := tcb hb hHeld.2.2.2.2.2.2.2.2.2.2.2
              refine ⟨_, rfl, ?_⟩
              replace HO_5 := tNb HO_5 hb
              replace HO_10 := tNb HO_10 hb
              replace HO_11 := tNb HO_11 hb
              replace HL593_3 := tVb HL593_3 hb
              replace HL593_5 := tVb HL593_5 hb
              replace HL594_3 := tVb HL594_3 hb
              replace HL594_5 := tVb HL594_5 hb
              replace HL595_3 := tVb HL595_3 hb
              replace HL595_5 := tVb HL595_5 hb
              replace HR593_3 := tCb HR593_3 hb
              replace HR593_5 := tCb HR593_5 hb
              replace HR594_3 := tCb HR594_3 hb
              replace HR594_5 := tCb HR594_5 hb
              replace HR595_3 := tCb HR595_3 hb
              replace HR595_5 := tCb HR595_5 hb
              replace HB := tBs HB hb
              (try clear hb)
              (try clear hb2)
              (try clear hk)
              (try clear hi)
              refine hK.out _ _ ⟨HS0_, HS1_, HS2_, HS3_, HS4_, HS5_, HS6_, HS7_, HS8_, HS9_, HS10_, HS11_⟩ (fun hHeld => ?_)
              clear hK K
              refine norm_ (a' := ?_) ?_ ?_
              rotate_left
              ·show Act.put _ (some 84) _ = _
               simp only [Act.put, List.setIfInBounds_toArray, List.set_cons_zero, List.set_cons_succ, i64_w, i32_w]
               rfl
              refine pure_ (i := 14) (N := some 85) (v := ?_) (a' := ?_) #[true, true, true, true, true, true, true, true, true, true, true, true, true, true, true, false] rfl rfl (any_of HT_.out (by kernel_rfl)) (fun _ _ _ h => h) (Or.inl ⟨by rfl, ?_⟩) ?_ ?_
              rotate_left
              ·intro w'
               go_simp
               with_reducible rfl
              rotate_left
              ·simp only [Act.put, List.setIfInBounds_toArray, List.set_cons_zero, List.set_cons_succ, i64_w, i32_w]
               rfl
              refine pure_ (i := 15) (N := some 86) (v := ?_) (a' := ?_) #[true, true, true, true, true, true, true, true, true, true, true, true, true, true, true, true] rfl rfl (any_of HT_.out (by kernel_rfl)) (fun _ _ _ h => h) (Or.inl ⟨by rfl, ?_⟩) ?_ ?_
              rotate_left
              ·intro w'
               go_simp
               with_reducible rfl
              rotate_left
              ·simp only [Act.put, List.setIfInBounds_toArray, List.set_cons_zero, List.set_cons_succ, i64_w, i32_w]
               rfl
              refine done_ (done_of HT_.out (by kernel_rfl)) ?_
              try go_wp2
              all_goals go_ret
              all_goals exact ⟨by first | rfl | (simp [errW_none, errW_some] <;> rfl) | (simp [*, errW_none, errW_some] <;> rfl), zb⟩
            ·rw [if_neg c39] at H
             exact absurd H (by simp)
           ·rw [if_neg c38] at H
            exact absurd H (by simp)
         ·rw [if_neg c33] at H
          have c33b0 : decide (((rd_T33 t586 x12_2).f0) < t575) = false := decide_eq_false c33
          clear c33
          have H' := Aside0.mk H
          clear H
          obtain ⟨Ao50, co50, eo50⟩ := Kd.N_slice HO_10.out
          subst eo50
          have p593 : 0 ≤ (x12_2 : Int) := td
          have q593 : x12_2 < (t586.length : Int) := td
          obtain ⟨ad593, A593_3, c593_3, A593_5, c593_5, e593, hx593_0, hx593_1, hx593_2, hx593_3, hx593_4, hx593_5, hl593_3, hi593_3, hl593_5, hi593_5⟩ := at_T33 (Kd.N_reads' HO_10.out).2.2 x12_2 p593 q593
          cases e593
          obtain ⟨ce593, hce593, hMe593, hcc593⟩ := Kd.N_get HO_10.out z33 x12_2 p593 (by first | exact q593 | exact td | (have e_ := (Kd.N_reads' HO_10.out).1; omega))
          obtain ⟨ua593_3, uc593_3, ua593_5, uc593_5, rfl, ul593_3, ge593_3, ul593_5, ge593_5⟩ := k33_openF hMe593
          have hv593_3 := hcc593 3 _ rfl
          rw [add_field _ _ 3 (by omega)] at hv593_3
          replace hv593_3 := Option.some.inj (hv593_3.symm.trans hx593_3)
          injection hv593_3 with hva_ hvn_ hvc_
          rw [hva_] at ge593_3
          rw [hvc_] at ul593_3
          have HL593_3 := Aside0.mk (show Kd.V (Kd.int .i64) 3 _ w.heap.size _ _ ((rd_T33 t586 x12_2).f3) from Kd.V_mk ul593_3 ge593_3)
          clear hva_ hvn_ hvc_ ge593_3 ul593_3
          have hv593_5 := hcc593 5 _ rfl
          rw [add_field _ _ 5 (by omega)] at hv593_5
          replace hv593_5 := Option.some.inj (hv593_5.symm.trans hx593_5)
          injection hv593_5 with hva_ hvn_ hvc_
          rw [hva_] at ge593_5
          rw [hvc_] at ul593_5
          have HL593_5 := Aside0.mk (show Kd.V (Kd.int .i64) 3 _ w.heap.size _ _ ((rd_T33 t586 x12_2).f5) from Kd.V_mk ul593_5 ge593_5)
          clear hva_ hvn_ hvc_ ge593_5 ul593_5
          clear hcc593 hce593
          have HR593_3 := Aside0.mk hi593_3
          have HC593_3 := Aside0.mk hl593_3
          clear hi593_3 hl593_3
          have HR593_5 := Aside0.mk hi593_5
          have HC593_5 := Aside0.mk hl593_5
          clear hi593_5 hl593_5
          replace p593 := eq_true p593
          replace q593 := eq_true q593
          go_wp2
          go_roundg k2
          case measure => have := HJ5.out; have := HK2.out; omega
          case rel => exact ⟨(x9_2), (wrap64 (x12_2 + 1)), tr, tr, H', ⟨by have := HJ5.out; have := HK2.out; omega⟩, ⟨tN HO_5.out⟩, ⟨tN HO_10.out⟩, ⟨tN HO_11.out⟩, ⟨zb⟩⟩
        ·rw [if_neg c32] at H
         exact absurd H (by simp)
       ·rw [if_neg c31] at H
        have c31b0 : decide (x12_2 < (t586.length : Int)) = false := decide_eq_false c31
        clear c31
        by_cases c51 : x9_2 = (t589.length : Int)
        ·rw [if_pos c51] at H
         have c51b0 : (x9_2 == (t589.length : Int)) = true := beq_iff_eq.mpr c51
         have c51b1 : (x9_2 != (t589.length : Int)) = false := bne_eq_false_iff_eq.mpr c51
         clear c51
         replace H := tbe H
         obtain ⟨t592, A52, H⟩ := H
         obtain rfl := Option.some.inj H
         obtain ⟨Ao53, co53, eo53⟩ := Kd.N_slice HO_10.out
         subst eo53
         obtain ⟨Ao54, co54, eo54⟩ := Kd.N_slice HO_11.out
         subst eo54
         go_wp2_with (first | (go_at_call 17; (with_reducible refine (impl_LogValid.calls k2 _ _ t576 t592 _ ?side1 ?side2 A52.out).mono ?_); (case side1 => repeat (first | exact (Kd.N_reads' HO_5.out).2.2 | (with_reducible refine Kd.C_alloc ?_ _) | (with_reducible refine Kd.C_drewN ?_ _) | (with_reducible refine Kd.C_drew ?_))); (case side2 => exact (Kd.N_reads' HO_5.out).2.1); rintro e w55 ⟨rfl, hb⟩; replace HO_5 := tNb HO_5 hb; replace HO_10 := tNb HO_10 hb; replace HO_11 := tNb HO_11 hb; replace HB := tBs HB hb; (try clear hb); (try clear hb2); (try clear hk); (try clear hi)))
         all_goals go_ret
         all_goals exact ⟨by first | rfl | (simp [errW_none, errW_some] <;> rfl) | (simp [*, errW_none, errW_some] <;> rfl), zb⟩
        ·rw [if_neg c51] at H
         have c51b0 : (x9_2 == (t589.length : Int)) = false := beq_eq_false_iff_ne.mpr c51
         have c51b1 : (x9_2 != (t589.length : Int)) = true := bne_iff_ne.mpr c51
         obtain rfl := Option.some.inj H
         obtain ⟨Ao56, co56, eo56⟩ := Kd.N_slice HO_10.out
         subst eo56
         obtain ⟨Ao57, co57, eo57⟩ := Kd.N_slice HO_11.out
         subst eo57
         go_wp2
         all_goals go_ret
         all_goals exact ⟨by first | rfl | (simp [errW_none, errW_some] <;> rfl) | (simp [*, errW_none, errW_some] <;> rfl), zb⟩

end Go.Proofs.YtbbboachakkgiaaDoor.G

namespace Go.Proofs.YtbbboachakkgiaaDoor.Rd
open Go.RowKit Go.Proofs.YtbbboachakkgiaaDoorW.PrintWords
set_option linter.unusedVariables false
section
variable {H : Type} {enc : TypeId × Value → H} {P : Program} {w : World} {base : Nat} {spare : Nat → Bool} {held : Bool}
/-- What a reading of type t gives: a value of the kind, and what is known of it. -/
def Opens (enc : TypeId × Value → H) (P : Program) (w : World) (base : Nat) (spare : Nat → Bool) (held : Bool) {α : Type} (t : TypeId) (d : Kd α) (ok : α → Prop) : Prop :=
  P.cellsOf t = d.sz ∧ ∀ fuel cs x, DataW.trod enc P w base spare held fuel t cs = some x → ∃ v, d.K w v cs ∧ ok v
theorem Opens.imp_ {α : Type} {t : TypeId} {d : Kd α} {ok ok' : α → Prop} (h : Opens enc P w base spare held t d ok) (hi : ∀ v, ok v → ok' v) : Opens enc P w base spare held t d ok' :=
  ⟨h.1, fun fuel cs x hx => by
    obtain ⟨v, hk, ho⟩ := h.2 fuel cs x hx
    exact ⟨v, hk, hi v ho⟩⟩
theorem opens_int {t : TypeId} {k : IntKind} (ht : P.underlying t = some (.int k)) (hc : P.cellsOf t = 1) : Opens enc P w base spare held t (Kd.int k) (fun n => (Lit.int k n).wf = true) := by
  refine ⟨hc, fun fuel cs x h => ?_⟩
  obtain ⟨n, rfl, _, hw⟩ := DataW.trod_int ht h
  exact ⟨n, rfl, hw⟩
theorem cells_len {base : Nat} {a : Addr} {n : Nat} {cs : List Value} (h : w.cells? base a n = some cs) : cs.length = n ∧ ∀ i u, cs[i]? = some u → w.cell? (a.add i) = some u := by
  unfold World.cells? at h
  split at h
  · rename_i hb
    refine ⟨by simpa using mapM_some_length h, fun i u hu => ?_⟩
    have hi : i < n := by
      have := (List.getElem?_eq_some_iff.1 hu).1
      have h2 : cs.length = n := by simpa using mapM_some_length h
      omega
    have := mapM_some_get h i i (by simp [hi])
    rw [hu] at this
    exact this
  · simp at h
theorem opens_row {α : Type} {t e : TypeId} {d : Kd α} {ok : α → Prop} (ht : P.underlying t = some (.slice e)) (hd : Opens enc P w base spare held e d ok) {fuel : Nat} {cs : List Value} {x : DataW H × List MemPlace}
    (h : DataW.trod enc P w base spare held fuel t cs = some x) : ∃ (A : Option Addr) (c : Nat) (xs : List α), cs = [.slice A xs.length c] ∧ xs.length ≤ c ∧ c ≤ maxLen ∧ d.C w A xs.length xs ∧ ∀ y ∈ xs, ok y := by
  rcases Go.Deep.open_slice ht h with ⟨rfl, _⟩ | ⟨a, len, cap, m, n, D, Pl, rfl, hb, hl, hm, hmm, _, hel⟩
  · exact ⟨none, 0, [], rfl, Nat.le_refl _, by unfold maxLen; omega, ⟨rfl, by simp, fun h0 => absurd h0 (by simp)⟩, by simp⟩
  have hlm : len ≤ m := by rw [hmm]; split <;> omega
  have hx : ∀ i, i < len → ∃ y : α, ok y ∧ ∃ c, c.length = d.sz ∧ d.K w y c ∧ ∀ j u, c[j]? = some u → w.cell? (a.add (i * d.sz + j)) = some u := by
    intro i hi
    obtain ⟨cs', h1, h2⟩ := hel i (by omega)
    obtain ⟨y, hk, ho⟩ := hd.2 _ _ _ h2
    obtain ⟨hl', hc'⟩ := cells_len h1
    refine ⟨y, ho, cs', by rw [hl', hd.1], hk, fun j u hu => ?_⟩
    have := hc' j u hu
    rw [Go.Deep.add_add, hd.1] at this
    exact this
  rcases Nat.eq_zero_or_pos len with h0 | h0
  · subst h0
    exact ⟨some a, cap, [], rfl, Nat.zero_le _, hm, ⟨rfl, by simp, fun h1 => absurd h1 (by simp)⟩, by simp⟩
  obtain ⟨y0, _⟩ := hx 0 h0
  haveI : Inhabited α := ⟨y0⟩
  obtain ⟨g, hg⟩ := Go.Deep.choose_lt hx
  have hlen : ((List.range len).map g).length = len := by simp
  refine ⟨some a, cap, (List.range len).map g, by rw [hlen], by rw [hlen]; exact hl, hm, ⟨rfl, by rw [hlen]; unfold maxLen at hm; omega, fun _ => ⟨a, rfl, fun j p hj => ?_⟩⟩, fun y hy => ?_⟩
  · have hj' : j < len := by
      have := (List.getElem?_eq_some_iff.1 hj).1
      omega
    rw [List.getElem?_map, List.getElem?_range hj'] at hj
    simp at hj
    subst hj
    obtain ⟨_, c, hc1, hc2, hc3⟩ := hg j hj'
    exact ⟨c, hc1, hc2, hc3⟩
  · obtain ⟨i, hi, rfl⟩ := List.mem_map.1 hy
    exact (hg i (List.mem_range.1 hi)).1
end
end Go.Proofs.YtbbboachakkgiaaDoor.Rd

namespace Go.Proofs.YtbbboachakkgiaaDoor.OFnLogCut
open Go.RowKit Go.Proofs.YtbbboachakkgiaaDoorW.PrintWords Go.Proofs.YtbbboachakkgiaaDoor.G
set_option linter.unusedVariables false
def Pure : Prop := ∀ (l0 : List Int), l0.length ≤ maxLen → (∀ y ∈ l0, (Lit.int .u8 y).wf = true) → ∃ k, laws_FnLogCut.f k l0 = some true
end Go.Proofs.YtbbboachakkgiaaDoor.OFnLogCut

namespace Go.Proofs.YtbbboachakkgiaaDoor.Pu
open Go.RowKit Go.Proofs.YtbbboachakkgiaaDoorW.PrintWords Go.Proofs.YtbbboachakkgiaaDoorW.PrintLast Go.Proofs.YtbbboachakkgiaaDoorW.PrintMore Go.Proofs.YtbbboachakkgiaaDoor.G
set_option linter.unusedVariables false
set_option linter.unusedSimpArgs false
abbrev RT := S33
abbrev BT := S47
def aheadL (l : List RT) (o : Int) : List RT := l.filter fun r => decide (r.f0 < o)
def behindL (l : List RT) (o : Int) : List RT := l.filter fun r => !decide (r.f0 < o)
theorem aheadL_cons (x : RT) (l : List RT) (o : Int) : aheadL (x :: l) o = if x.f0 < o then x :: aheadL l o else aheadL l o := by
  unfold aheadL
  rw [List.filter_cons]
  by_cases h : x.f0 < o <;> simp [h]
theorem behindL_cons (x : RT) (l : List RT) (o : Int) : behindL (x :: l) o = if x.f0 < o then behindL l o else x :: behindL l o := by
  unfold behindL
  rw [List.filter_cons]
  by_cases h : x.f0 < o <;> simp [h]
abbrev CutT := Bool × Bool × Int × Int × Int × List RT × Bool × Bool × Int × Int × Int × List RT × Option Int
def cutFin (p : Bool) (a b : List RT) : CutT := if a = [] ∨ b = [] then (false, false, 0, 0, 0, [], false, false, 0, 0, 0, [], some 2) else (p, false, 255, 0, 0, a, p, false, 255, 0, 0, b, none)
theorem copyOf_ev (x : RT) (h : x.f3.length ≤ 12 ∧ x.f5.length ≤ 12) : impl_Record_copyOf.f x.f0 x.f1 x.f2 x.f3 x.f4 x.f5 = some (x.f0, x.f1, x.f2, x.f3, x.f4, x.f5) := by
  simp only [impl_Record_copyOf.f, slices_Clone_int_int.f]
  rw [if_pos (by omega), if_pos (by omega)]
  rfl
theorem cut_loop (l : List RT) (o : Int) (p : Bool) (hl : l.length ≤ 6) (hr : ∀ r ∈ l, r.f3.length ≤ 12 ∧ r.f5.length ≤ 12) : ∀ d i (xs ys : List RT), l.length - i = d → i ≤ l.length → xs.length + ys.length = i →
    Ev (fun k => impl_Batch_cut.l0 k o l (l.length : Int) (i : Int) p false 255 0 0 xs p false 255 0 0 ys) (cutFin p (xs ++ aheadL (l.drop i) o) (ys ++ behindL (l.drop i) o)) := by
  intro d
  induction d with
  | zero =>
    intro i xs ys hd hi hx
    refine Ev.step (fun k => by rw [impl_Batch_cut.l0]) ?_
    rw [List.drop_of_length_le (by omega)]
    simp only [aheadL, behindL, List.filter_nil, List.append_nil, if_neg (show ¬ (i : Int) < (l.length : Int) by omega)]
    by_cases h1 : xs = []
    · have h0 : (xs.length : Int) = 0 := by rw [h1]; rfl
      rw [show cutFin p xs ys = (false, false, 0, 0, 0, [], false, false, 0, 0, 0, [], some 2) by unfold cutFin; rw [if_pos (.inl h1)]]
      simp only [if_pos h0]
      exact Ev.now _
    · have h1' : ¬ ((xs.length : Int) = 0) := by have := List.length_pos_iff.2 h1; omega
      simp only [if_neg h1']
      by_cases h2 : ys = []
      · have h0 : (ys.length : Int) = 0 := by rw [h2]; rfl
        rw [show cutFin p xs ys = (false, false, 0, 0, 0, [], false, false, 0, 0, 0, [], some 2) by unfold cutFin; rw [if_pos (.inr h2)]]
        simp only [if_pos h0]
        exact Ev.now _
      · have h2' : ¬ ((ys.length : Int) = 0) := by have := List.length_pos_iff.2 h2; omega
        rw [show cutFin p xs ys = (p, false, 255, 0, 0, xs, p, false, 255, 0, 0, ys, none) by unfold cutFin; rw [if_neg (by simp [h1, h2])]]
        simp only [if_neg h2']
        exact Ev.now _
  | succ d ih =>
    intro i xs ys hd hi hx
    have hlt : i < l.length := by omega
    refine Ev.step (fun k => by rw [impl_Batch_cut.l0]) ?_
    simp only [if_pos (show (i : Int) < (l.length : Int) by omega), if_pos (show (0 : Int) ≤ (i : Int) by omega), rdR_nat l i hlt, copyOf_ev _ (hr _ (List.getElem_mem hlt)), bindS, w64 (a := (i : Int) + 1) (by omega) (by omega)]
    rw [List.drop_eq_getElem_cons hlt]
    by_cases hc : l[i].f0 < o
    · simp only [if_pos hc, if_pos (show xs.length < 1759218604441 by omega)]
      have := ih (i + 1) (xs ++ [l[i]]) ys (by omega) (by omega) (by simp; omega)
      have e1 : xs ++ aheadL (l[i] :: l.drop (i + 1)) o = (xs ++ [l[i]]) ++ aheadL (l.drop (i + 1)) o := by rw [aheadL_cons, if_pos hc, List.append_assoc]; rfl
      have e2 : behindL (l[i] :: l.drop (i + 1)) o = behindL (l.drop (i + 1)) o := by rw [behindL_cons, if_pos hc]
      rw [e1, e2]
      exact this
    · simp only [if_neg hc, if_pos (show ys.length < 1759218604441 by omega)]
      have := ih (i + 1) xs (ys ++ [l[i]]) (by omega) (by omega) (by simp; omega)
      have e1 : ys ++ behindL (l[i] :: l.drop (i + 1)) o = (ys ++ [l[i]]) ++ behindL (l.drop (i + 1)) o := by rw [behindL_cons, if_neg hc, List.append_assoc]; rfl
      have e2 : aheadL (l[i] :: l.drop (i + 1)) o = aheadL (l.drop (i + 1)) o := by rw [aheadL_cons, if_neg hc]
      rw [e1, e2]
      exact this
def cutV (b : BT) (o : Int) : CutT := if (batOk b && decide (b.f2 = 255)) = true then cutFin b.f0 (aheadL b.f5 o) (behindL b.f5 o) else (false, false, 0, 0, 0, [], false, false, 0, 0, 0, [], some 2)
theorem cut_ev (b : BT) (o : Int) : Ev (fun k => impl_Batch_cut.f k b.f0 b.f1 b.f2 b.f3 b.f4 b.f5 o) (cutV b o) := by
  unfold impl_Batch_cut.f cutV
  simp only [impl_BatchValid.f, bindS]
  cases hv : batOk b
  · simp only [Bool.false_eq_true, if_false, Bool.false_and]
    refine Ev.step (fun k => by rw [impl_Batch_cut.j0]) ?_
    exact Ev.now _
  · simp only [if_true, Bool.true_and]
    refine Ev.step (fun k => by rw [impl_Batch_cut.j0]) ?_
    by_cases h : b.f2 = 255
    · simp only [h, bne_self_eq_false, Bool.false_eq_true, if_false, decide_true, if_true]
      have hlen := batOk_len hv
      have hrec : ∀ r ∈ b.f5, r.f3.length ≤ 12 ∧ r.f5.length ≤ 12 := fun r hr => by
        obtain ⟨i, hi, rfl⟩ := List.getElem_of_mem hr
        exact recOk_len (batOk_rec hv i hi)
      have := cut_loop b.f5 o b.f0 hlen.2 hrec _ 0 [] [] rfl (by omega) (by simp)
      simpa using this
    · simp only [show (b.f2 != 255) = true by simp [h], if_true, decide_eq_false h, Bool.false_eq_true, if_false]
      exact Ev.now _
abbrev BCutT := Bool × Bool × Int × Int × Int × List RT × Bool × Bool × Int × Int × Int × List RT × Bool
def cutGood (b : BT) (o : Int) : Bool := (batOk b && decide (b.f2 = 255)) && (!(aheadL b.f5 o).isEmpty && !(behindL b.f5 o).isEmpty)
def bcutV (b : BT) (o : Int) : BCutT := if cutGood b o = true then (b.f0, false, 255, 0, 0, aheadL b.f5 o, b.f0, false, 255, 0, 0, behindL b.f5 o, true) else (false, false, 0, 0, 0, [], false, false, 0, 0, 0, [], false)
theorem BatchCut_ev (b : BT) (o : Int) : Ev (fun k => impl_BatchCut.f k b.f0 b.f1 b.f2 b.f3 b.f4 b.f5 o) (bcutV b o) := by
  unfold impl_BatchCut.f
  refine Ev.bind (cut_ev b o) ?_
  unfold bcutV cutGood cutV
  cases hv : (batOk b && decide (b.f2 = 255))
  · simp only [Bool.false_eq_true, if_false, Bool.false_and, errors_Is.f, if_true, bindS]
    exact Ev.now _
  · simp only [if_true, Bool.true_and, cutFin]
    by_cases h : aheadL b.f5 o = [] ∨ behindL b.f5 o = []
    · have h' : (!(aheadL b.f5 o).isEmpty && !(behindL b.f5 o).isEmpty) = false := by
        rcases h with h | h <;> simp [h]
      simp only [if_pos h, h', errors_Is.f, if_true, bindS, Bool.false_eq_true, if_false]
      exact Ev.now _
    · have h' : (!(aheadL b.f5 o).isEmpty && !(behindL b.f5 o).isEmpty) = true := by
        rw [not_or] at h
        simp [h.1, h.2]
      simp only [if_neg h, h', errors_Is.f, bindS, Bool.false_eq_true, if_false, if_true]
      exact Ev.now _
end Go.Proofs.YtbbboachakkgiaaDoor.Pu

namespace Go.Proofs.YtbbboachakkgiaaDoor.Pu
open Go.RowKit Go.Proofs.YtbbboachakkgiaaDoorW.PrintWords Go.Proofs.YtbbboachakkgiaaDoorW.PrintLast Go.Proofs.YtbbboachakkgiaaDoorW.PrintMore Go.Proofs.YtbbboachakkgiaaDoor.G
set_option linter.unusedVariables false
set_option linter.unusedSimpArgs false
def ShortR (l : List RT) : Prop := l.length ≤ 6 ∧ ∀ r ∈ l, r.f3.length ≤ 12 ∧ r.f5.length ≤ 12
theorem short_of {b : BT} (h : batOk b = true) : ShortR b.f5 := ⟨(batOk_len h).2, fun r hr => by
  obtain ⟨i, hi, rfl⟩ := List.getElem_of_mem hr
  exact recOk_len (batOk_rec h i hi)⟩
theorem copyRecords_loop (l : List RT) (h : ShortR l) : ∀ d i, l.length - i = d → i ≤ l.length → Ev (fun k => impl_copyRecords.l0 k (l.take i) l (l.length : Int) (i : Int)) l := by
  intro d
  induction d with
  | zero =>
    intro i hd hi
    refine Ev.step (fun k => by rw [impl_copyRecords.l0]) ?_
    simp only [if_neg (show ¬ (i : Int) < (l.length : Int) by omega), List.take_of_length_le (show l.length ≤ i by omega)]
    exact Ev.now _
  | succ d ih =>
    intro i hd hi
    have hlt : i < l.length := by omega
    have hl := h.1
    refine Ev.step (fun k => by rw [impl_copyRecords.l0]) ?_
    simp only [if_pos (show (i : Int) < (l.length : Int) by omega), if_pos (show (0 : Int) ≤ (i : Int) by omega), rdR_nat l i hlt, copyOf_ev _ (h.2 _ (List.getElem_mem hlt)), bindS, w64 (a := (i : Int) + 1) (by omega) (by omega), if_pos (show (l.take i).length < 1759218604441 by rw [List.length_take]; omega)]
    have := ih (i + 1) (by omega) (by omega)
    rw [← List.take_append_getElem hlt] at this
    exact this
theorem copyRecords_ev (l : List RT) (h : ShortR l) : Ev (fun k => impl_copyRecords.f k l) l := by
  unfold impl_copyRecords.f
  have hl := h.1
  simp only [if_pos (show (0 : Int) ≤ (l.length : Int) by omega), if_pos (show ((l.length : Int)).toNat ≤ 3518437208883 by rw [Int.toNat_natCast]; omega)]
  have := copyRecords_loop l h _ 0 rfl (by omega)
  simpa using this
theorem copyBatch_ev (b : BT) (h : ShortR b.f5) : Ev (fun k => impl_Batch_copyOf.f k b.f0 b.f1 b.f2 b.f3 b.f4 b.f5) (b.f0, b.f1, b.f2, b.f3, b.f4, b.f5) := by
  unfold impl_Batch_copyOf.f
  exact Ev.bind (copyRecords_ev _ h) (Ev.now _)
theorem l12Copy_ev (x : RT) (h : x.f3.length ≤ 12 ∧ x.f5.length ≤ 12) : spec_l12Copy.f x.f0 x.f1 x.f2 x.f3 x.f4 x.f5 = some (x.f0, x.f1, x.f2, x.f3, x.f4, x.f5) := by
  unfold spec_l12Copy.f
  simp only [bindS, List.length_nil, List.nil_append]
  rw [if_pos (by omega), if_pos (by omega)]
theorem free_loop (p : Bool) (l : List RT) (h : l.length ≤ 12 ∧ ∀ r ∈ l, r.f3.length ≤ 12 ∧ r.f5.length ≤ 12) : ∀ d i, l.length - i = d → i ≤ l.length → Ev (fun k => spec_l31Free.l0 k l (i : Int) p false 255 0 0 (l.take i)) (p, false, 255, 0, 0, l) := by
  intro d
  induction d with
  | zero =>
    intro i hd hi
    refine Ev.step (fun k => by rw [spec_l31Free.l0]) ?_
    simp only [if_neg (show ¬ (i : Int) < (l.length : Int) by omega), List.take_of_length_le (show l.length ≤ i by omega)]
    exact Ev.now _
  | succ d ih =>
    intro i hd hi
    have hlt : i < l.length := by omega
    have hl := h.1
    refine Ev.step (fun k => by rw [spec_l31Free.l0]) ?_
    simp only [if_pos (show (i : Int) < (l.length : Int) by omega), if_pos (show (0 : Int) ≤ (i : Int) by omega), rdR_nat l i hlt, l12Copy_ev _ (h.2 _ (List.getElem_mem hlt)), bindS, w64 (a := (i : Int) + 1) (by omega) (by omega), if_pos (show (l.take i).length < 1759218604441 by rw [List.length_take]; omega)]
    have := ih (i + 1) (by omega) (by omega)
    rw [← List.take_append_getElem hlt] at this
    exact this
theorem free_ev12 (p : Bool) (l : List RT) (h : l.length ≤ 12 ∧ ∀ r ∈ l, r.f3.length ≤ 12 ∧ r.f5.length ≤ 12) : Ev (fun k => spec_l31Free.f k p l) (p, false, 255, 0, 0, l) := by
  unfold spec_l31Free.f
  have := free_loop p l h _ 0 rfl (by omega)
  simpa using this
theorem free_ev (p : Bool) (l : List RT) (h : ShortR l) : Ev (fun k => spec_l31Free.f k p l) (p, false, 255, 0, 0, l) := free_ev12 p l ⟨Nat.le_trans h.1 (by omega), h.2⟩
theorem ShortR.take {l : List RT} (h : ShortR l) (n : Nat) : ShortR (l.take n) := ⟨by rw [List.length_take]; have := h.1; omega, fun r hr => h.2 r (List.mem_of_mem_take hr)⟩
theorem ShortR.drop {l : List RT} (h : ShortR l) (n : Nat) : ShortR (l.drop n) := ⟨by rw [List.length_drop]; have := h.1; omega, fun r hr => h.2 r (List.mem_of_mem_drop hr)⟩
end Go.Proofs.YtbbboachakkgiaaDoor.Pu

namespace Go.Proofs.YtbbboachakkgiaaDoor.Pu
open Go.RowKit Go.Proofs.YtbbboachakkgiaaDoorW.PrintWords Go.Proofs.YtbbboachakkgiaaDoorW.PrintLast Go.Proofs.YtbbboachakkgiaaDoorW.PrintMore Go.Proofs.YtbbboachakkgiaaDoor.G
set_option linter.unusedVariables false
set_option linter.unusedSimpArgs false
/-- Offsets that grow. -/
def Inc : List RT → Prop
  | [] => True
  | x :: l => (∀ y ∈ l, x.f0 < y.f0) ∧ Inc l
theorem inc_of : ∀ (l : List RT), (∀ i (h : i + 1 < l.length), l[i].f0 < l[i + 1].f0) → Inc l
  | [], _ => trivial
  | [x], _ => ⟨fun y hy => by simp at hy, trivial⟩
  | x :: z :: l, h => by
    have h1 := inc_of (z :: l) fun i hi => h (i + 1) (by simp only [List.length_cons] at hi ⊢; omega)
    have h0 : x.f0 < z.f0 := h 0 (by simp)
    refine ⟨fun y hy => ?_, h1⟩
    rcases List.mem_cons.1 hy with rfl | hy
    · exact h0
    · have := h1.1 y hy
      omega
theorem inc_bat {b : BT} (h : batOk b = true) : Inc b.f5 := by
  refine inc_of _ fun i hi => ?_
  unfold batOk at h
  simp only [Bool.and_eq_true] at h
  have := List.all_eq_true.1 h.2.2.2 (i + 1) (by simp [List.mem_range']; omega)
  unfold recStep at this
  rw [rdR_nat b.f5 (i + 1) hi, show ((i + 1 : Nat) : Int) - 1 = (i : Int) by omega, rdR_nat b.f5 i (by omega)] at this
  simpa using (Bool.and_eq_true_iff.1 this).2
/-- How many lie ahead of an offset, from the first one on. -/
def cutAt (l : List RT) (o : Int) : Nat := (l.takeWhile fun r => decide (r.f0 < o)).length
theorem cutAt_cons (x : RT) (l : List RT) (o : Int) : cutAt (x :: l) o = if x.f0 < o then cutAt l o + 1 else 0 := by
  unfold cutAt
  rw [List.takeWhile_cons]
  by_cases h : x.f0 < o <;> simp [h]
theorem cutAt_le : ∀ (l : List RT) (o : Int), cutAt l o ≤ l.length
  | [], _ => by simp [cutAt]
  | x :: l, o => by
    rw [cutAt_cons]
    have := cutAt_le l o
    split <;> simp <;> omega
theorem cut_parts : ∀ (l : List RT) (o : Int), Inc l → aheadL l o = l.take (cutAt l o) ∧ behindL l o = l.drop (cutAt l o)
  | [], _, _ => by simp [aheadL, behindL, cutAt]
  | x :: l, o, h => by
    rw [cutAt_cons, aheadL_cons, behindL_cons]
    obtain ⟨h1, h2⟩ := cut_parts l o h.2
    by_cases hc : x.f0 < o
    · rw [if_pos hc, if_pos hc, if_pos hc, h1, h2]
      exact ⟨rfl, rfl⟩
    · rw [if_neg hc, if_neg hc, if_neg hc]
      have ha : aheadL l o = [] := List.filter_eq_nil_iff.2 fun y hy => by have := h.1 y hy; simp; omega
      have hb : behindL l o = l := List.filter_eq_self.2 fun y hy => by have := h.1 y hy; simp; omega
      rw [ha, hb]
      exact ⟨rfl, rfl⟩
theorem sCut_loop (p b1 : Bool) (b2 b3 b4 : Int) (l : List RT) (o : Int) (hl : l.length ≤ 6) {r : BCutT} (hj : Ev (fun k => spec_BatchCut.j2 k ((cutAt l o : Nat) : Int) p b1 b2 b3 b4 l) r) : ∀ d i, l.length - i = d → i ≤ l.length → i + cutAt (l.drop i) o = cutAt l o →
    Ev (fun k => spec_BatchCut.l0 k o (i : Int) p b1 b2 b3 b4 l) r := by
  intro d
  induction d with
  | zero =>
    intro i hd hi hc
    refine Ev.step (fun k => by rw [spec_BatchCut.l0]) ?_
    simp only [if_neg (show ¬ (i : Int) < (l.length : Int) by omega)]
    rw [List.drop_of_length_le (by omega)] at hc
    have : i = cutAt l o := by simpa [cutAt] using hc
    rw [this]
    exact hj
  | succ d ih =>
    intro i hd hi hc
    have hlt : i < l.length := by omega
    refine Ev.step (fun k => by rw [spec_BatchCut.l0]) ?_
    simp only [if_pos (show (i : Int) < (l.length : Int) by omega), if_pos (show (0 : Int) ≤ (i : Int) by omega), rdR_nat l i hlt, w64 (a := (i : Int) + 1) (by omega) (by omega)]
    rw [List.drop_eq_getElem_cons hlt, cutAt_cons] at hc
    by_cases h : l[i].f0 < o
    · simp only [if_pos h]
      rw [if_pos h] at hc
      exact ih (i + 1) (by omega) (by omega) (by omega)
    · simp only [if_neg h]
      rw [if_neg h] at hc
      have : i = cutAt l o := by omega
      rw [this]
      exact hj
theorem sBatchCut_ev (b : BT) (o : Int) : Ev (fun k => spec_BatchCut.f k b.f0 b.f1 b.f2 b.f3 b.f4 b.f5 o) (bcutV b o) := by
  unfold spec_BatchCut.f
  simp only [spec_BatchValid.f, bindS]
  unfold bcutV cutGood
  cases hv : batOk b
  · simp only [Bool.false_eq_true, if_false, Bool.false_and]
    refine Ev.step (fun k => by rw [spec_BatchCut.j0]) ?_
    exact Ev.now _
  · simp only [if_true, Bool.true_and]
    refine Ev.step (fun k => by rw [spec_BatchCut.j0]) ?_
    by_cases h : b.f2 = 255
    · have hS := short_of hv
      have hle := cutAt_le b.f5 o
      obtain ⟨e1, e2⟩ := cut_parts b.f5 o (inc_bat hv)
      rw [e1, e2]
      simp only [h, bne_self_eq_false, Bool.false_eq_true, if_false, decide_true, Bool.true_and]
      refine sCut_loop _ _ _ _ _ _ _ hS.1 ?_ _ 0 rfl (by omega) (by simp)
      refine Ev.step (fun k => by rw [spec_BatchCut.j2]) ?_
      have hb : (!(b.f5.take (cutAt b.f5 o)).isEmpty && !(b.f5.drop (cutAt b.f5 o)).isEmpty) = (!decide (cutAt b.f5 o = 0) && !decide (cutAt b.f5 o = b.f5.length)) := by
        have h0 := hS.1
        have h1 := (batOk_len hv).1
        congr 1
        · by_cases hz : cutAt b.f5 o = 0
          · simp [hz]
          · have : b.f5.take (cutAt b.f5 o) ≠ [] := fun e => by have := congrArg List.length e; rw [List.length_take, List.length_nil] at this; omega
            simp [hz, List.isEmpty_eq_false_iff.2 this]
        · by_cases hz : cutAt b.f5 o = b.f5.length
          · simp [hz]
          · have : b.f5.drop (cutAt b.f5 o) ≠ [] := fun e => by have := congrArg List.length e; rw [List.length_drop, List.length_nil] at this; omega
            simp [hz, List.isEmpty_eq_false_iff.2 this]
      rw [hb]
      by_cases h0 : cutAt b.f5 o = 0
      · simp only [if_pos (show ((cutAt b.f5 o : Nat) : Int) = 0 by omega), decide_eq_true h0, Bool.not_true, Bool.false_and, Bool.false_eq_true, if_false]
        refine Ev.step (fun k => by rw [spec_BatchCut.j3]) ?_
        simp only [if_true]
        exact Ev.now _
      · simp only [if_neg (show ¬ ((cutAt b.f5 o : Nat) : Int) = 0 by omega), decide_eq_false h0, Bool.not_false, Bool.true_and]
        refine Ev.step (fun k => by rw [spec_BatchCut.j3]) ?_
        by_cases h1 : cutAt b.f5 o = b.f5.length
        · simp only [show (((cutAt b.f5 o : Nat) : Int) == (b.f5.length : Int)) = true by rw [beq_iff_eq]; omega, if_true, decide_eq_true h1, Bool.not_true, Bool.false_eq_true, if_false]
          exact Ev.now _
        · simp only [show (((cutAt b.f5 o : Nat) : Int) == (b.f5.length : Int)) = false by rw [beq_eq_false_iff_ne]; omega, Bool.false_eq_true, if_false, decide_eq_false h1, Bool.not_false, if_true, if_pos (show (0 : Int) ≤ ((cutAt b.f5 o : Nat) : Int) by omega), if_pos (show ((cutAt b.f5 o : Nat) : Int) ≤ (b.f5.length : Int) by omega), Int.toNat_natCast]
          refine Ev.bind (free_ev _ _ (hS.take _)) ?_
          refine Ev.bind (free_ev _ _ (hS.drop _)) ?_
          exact Ev.now _
    · simp only [show (b.f2 != 255) = true by simp [h], if_true, decide_eq_false h, Bool.false_and, Bool.false_eq_true, if_false]
      exact Ev.now _
end Go.Proofs.YtbbboachakkgiaaDoor.Pu

namespace Go.Proofs.YtbbboachakkgiaaDoor.Pu
open Go.RowKit Go.Proofs.YtbbboachakkgiaaDoorW.PrintWords Go.Proofs.YtbbboachakkgiaaDoorW.PrintLast Go.Proofs.YtbbboachakkgiaaDoorW.PrintMore Go.Proofs.YtbbboachakkgiaaDoor.G
set_option linter.unusedVariables false
set_option linter.unusedSimpArgs false
theorem l12Batch_loop (b0 b1 : Bool) (b2 b3 b4 : Int) (l : List RT) (h : ShortR l) : ∀ d i, l.length - i = d → i ≤ l.length → Ev (fun k => spec_l12Batch.l0 k (l.take i) (i : Int) b0 b1 b2 b3 b4 l) (b0, b1, b2, b3, b4, l) := by
  intro d
  induction d with
  | zero =>
    intro i hd hi
    refine Ev.step (fun k => by rw [spec_l12Batch.l0]) ?_
    simp only [if_neg (show ¬ (i : Int) < (l.length : Int) by omega), List.take_of_length_le (show l.length ≤ i by omega)]
    exact Ev.now _
  | succ d ih =>
    intro i hd hi
    have hlt : i < l.length := by omega
    have hl := h.1
    refine Ev.step (fun k => by rw [spec_l12Batch.l0]) ?_
    simp only [if_pos (show (i : Int) < (l.length : Int) by omega), if_pos (show (0 : Int) ≤ (i : Int) by omega), rdR_nat l i hlt, l12Copy_ev _ (h.2 _ (List.getElem_mem hlt)), bindS, w64 (a := (i : Int) + 1) (by omega) (by omega), if_pos (show (l.take i).length < 1759218604441 by rw [List.length_take]; omega)]
    have := ih (i + 1) (by omega) (by omega)
    rw [← List.take_append_getElem hlt] at this
    exact this
theorem l12Batch_ev (b : BT) (h : ShortR b.f5) : Ev (fun k => spec_l12Batch.f k b.f0 b.f1 b.f2 b.f3 b.f4 b.f5) (b.f0, b.f1, b.f2, b.f3, b.f4, b.f5) := by
  unfold spec_l12Batch.f
  have := l12Batch_loop b.f0 b.f1 b.f2 b.f3 b.f4 b.f5 h _ 0 rfl (by omega)
  simpa using this
end Go.Proofs.YtbbboachakkgiaaDoor.Pu

namespace Go.Proofs.YtbbboachakkgiaaDoor.Pu
open Go.RowKit Go.Proofs.YtbbboachakkgiaaDoorW.PrintWords Go.Proofs.YtbbboachakkgiaaDoorW.PrintLast Go.Proofs.YtbbboachakkgiaaDoorW.PrintMore Go.Proofs.YtbbboachakkgiaaDoor.G
theorem sBatchValid_ev (b : S47) (_ : RowR b.f5) : Ev (fun k => spec_BatchValid.f k b.f0 b.f1 b.f2 b.f3 b.f4 b.f5) (batOk b) := Ev.now _
end Go.Proofs.YtbbboachakkgiaaDoor.Pu

namespace Go.Proofs.YtbbboachakkgiaaDoor.Pu
open Go.RowKit Go.Proofs.YtbbboachakkgiaaDoorW.PrintWords Go.Proofs.YtbbboachakkgiaaDoorW.PrintLast Go.Proofs.YtbbboachakkgiaaDoorW.PrintMore Go.Proofs.YtbbboachakkgiaaDoor.G
set_option linter.unusedVariables false
set_option linter.unusedSimpArgs false
theorem rec_inc {b : S47} (h : batOk b = true) (j : Nat) (hj : j + 1 < b.f5.length) : b.f5[j].f0 < b.f5[j + 1].f0 := by
  unfold batOk at h
  simp only [Bool.and_eq_true] at h
  have := List.all_eq_true.1 h.2.2.2 (j + 1) (by simp [List.mem_range']; omega)
  unfold recStep at this
  rw [rdR_nat b.f5 (j + 1) hj, show ((j + 1 : Nat) : Int) - 1 = ((j : Nat) : Int) by omega, rdR_nat b.f5 j (by omega), decide_eq_false (by omega : ¬ (j + 1 = 0)), Bool.false_or, Bool.and_eq_true, decide_eq_true_eq] at this
  exact this.2
theorem firstOf_eq {b : S47} (h : 0 < b.f5.length) : firstOf b = b.f5[0].f0 := by
  unfold firstOf
  rw [show (0 : Int) = ((0 : Nat) : Int) from rfl, rdR_nat b.f5 0 h]
theorem lastOf_eq {b : S47} (h : 0 < b.f5.length) : lastOf b = (b.f5[b.f5.length - 1]'(by omega)).f0 := by
  unfold lastOf
  rw [show (b.f5.length : Int) - 1 = ((b.f5.length - 1 : Nat) : Int) by omega, rdR_nat b.f5 _ (by omega)]
theorem rec_ge {b : S47} (h : batOk b = true) : ∀ j (hj : j < b.f5.length), firstOf b ≤ b.f5[j].f0
  | 0, hj => by rw [firstOf_eq hj]; exact Int.le_refl _
  | j + 1, hj => by
    have := rec_ge h j (by omega)
    have := rec_inc h j hj
    omega
theorem rec_mono {b : S47} (h : batOk b = true) (i : Nat) : ∀ d (hj : i + d < b.f5.length), (b.f5[i]'(by omega)).f0 ≤ b.f5[i + d].f0
  | 0, hj => Int.le_refl _
  | d + 1, hj => by
    have := rec_mono h i d (by omega)
    have := rec_inc h (i + d) hj
    show _ ≤ b.f5[i + d + 1].f0
    omega
theorem rec_le {b : S47} (h : batOk b = true) (j : Nat) (hj : j < b.f5.length) : b.f5[j].f0 ≤ lastOf b := by
  rw [lastOf_eq (by omega)]
  have := rec_mono h j (b.f5.length - 1 - j) (by omega)
  simpa only [show j + (b.f5.length - 1 - j) = b.f5.length - 1 by omega] using this
theorem bat_inc {l : List S47} (h : logOk l = true) (i : Nat) (hi : i + 1 < l.length) : lastOf l[i] < firstOf l[i + 1] := by
  unfold logOk at h
  have := List.all_eq_true.1 (Bool.and_eq_true_iff.1 h).1 (i + 1) (by simp [List.mem_range']; omega)
  unfold batStep at this
  rw [rdB_nat l (i + 1) hi, show ((i + 1 : Nat) : Int) - 1 = ((i : Nat) : Int) by omega, rdB_nat l i (by omega), decide_eq_false (by omega : ¬ (i + 1 = 0)), Bool.false_or, Bool.and_eq_true, decide_eq_true_eq] at this
  exact this.2
theorem first_le_last {b : S47} (h : batOk b = true) : firstOf b ≤ lastOf b := by
  have hn := batOk_len h
  have := rec_le h 0 (by omega)
  rw [firstOf_eq (by omega)]
  exact this
theorem logOk_len {l : List S47} (h : logOk l = true) : l.length ≤ 8 := by
  unfold logOk at h
  simp only [Bool.and_eq_true, decide_eq_true_eq] at h
  omega
end Go.Proofs.YtbbboachakkgiaaDoor.Pu

namespace Go.Proofs.YtbbboachakkgiaaDoor.Pu
open Go.RowKit Go.Proofs.YtbbboachakkgiaaDoorW.PrintWords Go.Proofs.YtbbboachakkgiaaDoorW.PrintLast Go.Proofs.YtbbboachakkgiaaDoorW.PrintMore Go.Proofs.YtbbboachakkgiaaDoor.G
set_option linter.unusedVariables false
set_option linter.unusedSimpArgs false
theorem last_ev (b : BT) (h : 1 ≤ b.f5.length ∧ b.f5.length ≤ 6) : impl_Batch_last.f b.f0 b.f1 b.f2 b.f3 b.f4 b.f5 = some (lastOf b) := by
  unfold impl_Batch_last.f lastOf
  simp only [w64 (a := (b.f5.length : Int) - 1) (by omega) (by omega), if_pos (show (0 : Int) ≤ (b.f5.length : Int) - 1 by omega), if_pos (show (b.f5.length : Int) - 1 < (b.f5.length : Int) by omega)]
theorem first_ev (b : BT) (h : 1 ≤ b.f5.length ∧ b.f5.length ≤ 6) : impl_Batch_first.f b.f0 b.f1 b.f2 b.f3 b.f4 b.f5 = some (firstOf b) := by
  unfold impl_Batch_first.f firstOf
  simp only [if_pos (show (0 : Int) < (b.f5.length : Int) by omega)]
theorem slast_ev (b : BT) (h : 1 ≤ b.f5.length ∧ b.f5.length ≤ 6) : spec_l12Last.f b.f0 b.f1 b.f2 b.f3 b.f4 b.f5 = some (lastOf b) := by
  unfold spec_l12Last.f lastOf
  simp only [w64 (a := (b.f5.length : Int) - 1) (by omega) (by omega), if_pos (show (0 : Int) ≤ (b.f5.length : Int) - 1 by omega), if_pos (show (b.f5.length : Int) - 1 < (b.f5.length : Int) by omega)]
def aheadB (b : BT) (o : Int) : BT := ⟨b.f0, false, 255, 0, 0, aheadL b.f5 o⟩
/-- Cut batch by batch. -/
def lcut (o : Int) : List BT → List BT → List BT × Bool
  | [], acc => (acc, true)
  | b :: l, acc => if lastOf b < o then lcut o l (acc ++ [b]) else if firstOf b < o then (if cutGood b o = true then lcut o l (acc ++ [aheadB b o]) else ([], false)) else lcut o l acc
theorem bcut_good {b : BT} {o : Int} (h : cutGood b o = true) : bcutV b o = (b.f0, false, 255, 0, 0, aheadL b.f5 o, b.f0, false, 255, 0, 0, behindL b.f5 o, true) := by unfold bcutV; rw [if_pos h]
theorem bcut_bad {b : BT} {o : Int} (h : ¬ cutGood b o = true) : bcutV b o = (false, false, 0, 0, 0, [], false, false, 0, 0, 0, [], false) := by unfold bcutV; rw [if_neg h]
theorem logCut_loop (l : List BT) (o : Int) (hl : l.length ≤ 8) (hv : ∀ i (h : i < l.length), batOk l[i] = true) : ∀ d i (acc : List BT), l.length - i = d → i ≤ l.length → acc.length ≤ i →
    Ev (fun k => impl_LogCut.l0 k o acc l (l.length : Int) (i : Int)) (lcut o (l.drop i) acc) := by
  intro d
  induction d with
  | zero =>
    intro i acc hd hi ha
    refine Ev.step (fun k => by rw [impl_LogCut.l0]) ?_
    simp only [if_neg (show ¬ (i : Int) < (l.length : Int) by omega)]
    rw [List.drop_of_length_le (by omega)]
    exact Ev.now _
  | succ d ih =>
    intro i acc hd hi ha
    have hlt : i < l.length := by omega
    have hb := hv i hlt
    have hn := batOk_len hb
    refine Ev.step (fun k => by rw [impl_LogCut.l0]) ?_
    simp only [if_pos (show (i : Int) < (l.length : Int) by omega), if_pos (show (0 : Int) ≤ (i : Int) by omega), rdB_nat l i hlt, last_ev _ hn, first_ev _ hn, bindS, w64 (a := (i : Int) + 1) (by omega) (by omega), if_pos (show acc.length < 2513169434916 by omega)]
    rw [List.drop_eq_getElem_cons hlt]
    by_cases h1 : lastOf l[i] < o
    · simp only [if_pos h1]
      rw [show lcut o (l[i] :: l.drop (i + 1)) acc = lcut o (l.drop (i + 1)) (acc ++ [l[i]]) by rw [lcut, if_pos h1]]
      refine Ev.bind (copyBatch_ev _ (short_of hb)) ?_
      exact ih (i + 1) _ (by omega) (by omega) (by simp; omega)
    · simp only [if_neg h1]
      by_cases h2 : firstOf l[i] < o
      · simp only [if_pos h2]
        refine Ev.bind (BatchCut_ev _ o) ?_
        by_cases h3 : cutGood l[i] o = true
        · rw [bcut_good h3, show lcut o (l[i] :: l.drop (i + 1)) acc = lcut o (l.drop (i + 1)) (acc ++ [aheadB l[i] o]) by rw [lcut, if_neg h1, if_pos h2, if_pos h3]]
          simp only [if_true]
          exact ih (i + 1) _ (by omega) (by omega) (by simp; omega)
        · rw [bcut_bad h3, show lcut o (l[i] :: l.drop (i + 1)) acc = ([], false) by rw [lcut, if_neg h1, if_pos h2, if_neg h3]]
          simp only [Bool.false_eq_true, if_false]
          exact Ev.now _
      · simp only [if_neg h2]
        rw [show lcut o (l[i] :: l.drop (i + 1)) acc = lcut o (l.drop (i + 1)) acc by rw [lcut, if_neg h1, if_neg h2]]
        exact ih (i + 1) _ (by omega) (by omega) (by omega)
def logCutV (l : List BT) (o : Int) : List BT × Bool := if logOk l = true then lcut o l [] else ([], false)
theorem LogCut_ev (l : List BT) (o : Int) : Ev (fun k => impl_LogCut.f k l o) (logCutV l o) := by
  unfold impl_LogCut.f logCutV
  simp only [impl_LogValid.f, bindS]
  by_cases h : logOk l = true
  · simp only [if_pos h]
    have := logCut_loop l o (logOk_len h) (fun i hi => logOk_bat h i hi) _ 0 [] rfl (by omega) (by simp)
    simpa using this
  · simp only [if_neg h]
    exact Ev.now _
theorem sLogCut_loop (l : List BT) (o : Int) (hl : l.length ≤ 8) (hv : ∀ i (h : i < l.length), batOk l[i] = true) : ∀ d i (acc : List BT), l.length - i = d → i ≤ l.length → acc.length ≤ i →
    Ev (fun k => spec_LogCut.l0 k l o acc (i : Int)) (lcut o (l.drop i) acc) := by
  intro d
  induction d with
  | zero =>
    intro i acc hd hi ha
    refine Ev.step (fun k => by rw [spec_LogCut.l0]) ?_
    simp only [if_neg (show ¬ (i : Int) < (l.length : Int) by omega)]
    rw [List.drop_of_length_le (by omega)]
    exact Ev.now _
  | succ d ih =>
    intro i acc hd hi ha
    have hlt : i < l.length := by omega
    have hb := hv i hlt
    have hn := batOk_len hb
    refine Ev.step (fun k => by rw [spec_LogCut.l0]) ?_
    simp only [if_pos (show (i : Int) < (l.length : Int) by omega), if_pos (show (0 : Int) ≤ (i : Int) by omega), rdB_nat l i hlt, slast_ev _ hn, bindS, w64 (a := (i : Int) + 1) (by omega) (by omega), if_pos (show acc.length < 2513169434916 by omega), if_pos (show (0 : Int) < (l[i].f5.length : Int) by omega)]
    rw [List.drop_eq_getElem_cons hlt]
    by_cases h1 : lastOf l[i] < o
    · simp only [if_pos h1]
      rw [show lcut o (l[i] :: l.drop (i + 1)) acc = lcut o (l.drop (i + 1)) (acc ++ [l[i]]) by rw [lcut, if_pos h1]]
      refine Ev.bind (l12Batch_ev _ (short_of hb)) ?_
      exact ih (i + 1) _ (by omega) (by omega) (by simp; omega)
    · simp only [if_neg h1]
      by_cases h2 : firstOf l[i] < o
      · have h2' : (rd_T33 l[i].f5 0).f0 < o := h2
        simp only [if_pos h2']
        refine Ev.bind (sBatchCut_ev _ o) ?_
        by_cases h3 : cutGood l[i] o = true
        · rw [bcut_good h3, show lcut o (l[i] :: l.drop (i + 1)) acc = lcut o (l.drop (i + 1)) (acc ++ [aheadB l[i] o]) by rw [lcut, if_neg h1, if_pos h2, if_pos h3]]
          simp only [if_true]
          exact ih (i + 1) _ (by omega) (by omega) (by simp; omega)
        · rw [bcut_bad h3, show lcut o (l[i] :: l.drop (i + 1)) acc = ([], false) by rw [lcut, if_neg h1, if_pos h2, if_neg h3]]
          simp only [Bool.false_eq_true, if_false]
          exact Ev.now _
      · have h2' : ¬ (rd_T33 l[i].f5 0).f0 < o := h2
        simp only [if_neg h2']
        rw [show lcut o (l[i] :: l.drop (i + 1)) acc = lcut o (l.drop (i + 1)) acc by rw [lcut, if_neg h1, if_neg h2]]
        exact ih (i + 1) _ (by omega) (by omega) (by omega)
theorem sLogCut_ev (l : List BT) (o : Int) : Ev (fun k => spec_LogCut.f k l o) (logCutV l o) := by
  unfold spec_LogCut.f logCutV
  simp only [spec_LogValid.f, bindS]
  by_cases h : logOk l = true
  · simp only [if_pos h]
    have := sLogCut_loop l o (logOk_len h) (fun i hi => logOk_bat h i hi) _ 0 [] rfl (by omega) (by simp)
    simpa using this
  · simp only [if_neg h]
    exact Ev.now _
end Go.Proofs.YtbbboachakkgiaaDoor.Pu

namespace Go.Proofs.YtbbboachakkgiaaDoor.Pu
open Go.RowKit Go.Proofs.YtbbboachakkgiaaDoorW.PrintWords Go.Proofs.YtbbboachakkgiaaDoorW.PrintLast Go.Proofs.YtbbboachakkgiaaDoorW.PrintMore Go.Proofs.YtbbboachakkgiaaDoor.G
set_option linter.unusedVariables false
set_option linter.unusedSimpArgs false
theorem selfInts (l : List Int) (hl : l.length ≤ 9223372036854775807) : Ev (fun k => laws_sameInts.f k l l) true := by
  unfold laws_sameInts.f
  simp only [if_true]
  have := ev_all l hl (fun k i => laws_sameInts.l0 k l l i) (fun k i => some true) (fun _ => true) true
    (fun k => by simp only [laws_sameInts.l0]; rw [if_neg (by omega)])
    (fun k i h => by simp only [laws_sameInts.l0]; rw [if_pos (by omega), if_pos (by omega), if_pos (by omega), if_pos trivial]; rfl)
    (fun i h => Ev.now _) l.length 0 (by omega) (by omega)
  rw [show ((l.drop 0).all fun _ => true) = true from List.all_eq_true.2 (fun _ _ => rfl)] at this
  simpa using this
theorem selfRecord (x : S33) (h : Lens x) : Ev (fun k => laws_sameRecord.f k x.f0 x.f1 x.f2 x.f3 x.f4 x.f5 x.f0 x.f1 x.f2 x.f3 x.f4 x.f5) true := by
  unfold laws_sameRecord.f
  simp only [if_true, beq_self_eq_true]
  refine Ev.bind (selfInts _ h.1) ?_
  simp only [if_true]
  exact Ev.bind (selfInts _ h.2) (Ev.now _)
theorem selfRecords (l : List S33) (h : RowR l) : Ev (fun k => laws_sameRecords.f k l l) true := by
  unfold laws_sameRecords.f
  simp only [if_true]
  have := ev_all l h.1 (fun k i => laws_sameRecords.l0 k l l i) (fun k i => laws_sameRecord.f k (rd_T33 l i).f0 (rd_T33 l i).f1 (rd_T33 l i).f2 (rd_T33 l i).f3 (rd_T33 l i).f4 (rd_T33 l i).f5 (rd_T33 l i).f0 (rd_T33 l i).f1 (rd_T33 l i).f2 (rd_T33 l i).f3 (rd_T33 l i).f4 (rd_T33 l i).f5) (fun _ => true) true
    (fun k => by simp only [laws_sameRecords.l0]; rw [if_neg (by omega)])
    (fun k i h => by simp only [laws_sameRecords.l0]; rw [if_pos (by omega), if_pos (by omega), if_pos (by omega)])
    (fun i hi => by rw [rdR_nat l i hi]; exact selfRecord _ (h.2 _ (List.getElem_mem hi))) l.length 0 (by omega) (by omega)
  rw [show ((l.drop 0).all fun _ => true) = true from List.all_eq_true.2 (fun _ _ => rfl)] at this
  simpa using this
theorem selfBatch (b : S47) (h : RowR b.f5) : Ev (fun k => laws_sameBatch.f k b.f0 b.f1 b.f2 b.f3 b.f4 b.f5 b.f0 b.f1 b.f2 b.f3 b.f4 b.f5) true := by
  unfold laws_sameBatch.f
  simp only [if_true, beq_self_eq_true]
  exact Ev.bind (selfRecords _ h) (Ev.now _)
end Go.Proofs.YtbbboachakkgiaaDoor.Pu

namespace Go.Proofs.YtbbboachakkgiaaDoor.Pu
open Go.RowKit Go.Proofs.YtbbboachakkgiaaDoorW.PrintWords Go.Proofs.YtbbboachakkgiaaDoorW.PrintLast Go.Proofs.YtbbboachakkgiaaDoorW.PrintMore Go.Proofs.YtbbboachakkgiaaDoor.G
set_option linter.unusedVariables false
set_option linter.unusedSimpArgs false
theorem selfLog (l : List S47) (h : RowB l) : Ev (fun k => laws_sameLog.f k l l) true := by
  unfold laws_sameLog.f
  simp only [if_true]
  have := ev_all l h.1 (fun k i => laws_sameLog.l0 k l l i) (fun k i => laws_sameBatch.f k (rd_T47 l i).f0 (rd_T47 l i).f1 (rd_T47 l i).f2 (rd_T47 l i).f3 (rd_T47 l i).f4 (rd_T47 l i).f5 (rd_T47 l i).f0 (rd_T47 l i).f1 (rd_T47 l i).f2 (rd_T47 l i).f3 (rd_T47 l i).f4 (rd_T47 l i).f5) (fun _ => true) true
    (fun k => by simp only [laws_sameLog.l0]; rw [if_neg (by omega)])
    (fun k i h => by simp only [laws_sameLog.l0]; rw [if_pos (by omega), if_pos (by omega), if_pos (by omega)])
    (fun i hi => by rw [rdB_nat l i hi]; exact selfBatch _ (h.2 _ (List.getElem_mem hi))) l.length 0 (by omega) (by omega)
  rw [show ((l.drop 0).all fun _ => true) = true from List.all_eq_true.2 (fun _ _ => rfl)] at this
  simpa using this
end Go.Proofs.YtbbboachakkgiaaDoor.Pu

namespace Go.Proofs.YtbbboachakkgiaaDoor.Pu
open Go.RowKit Go.Proofs.YtbbboachakkgiaaDoorW.PrintWords Go.Proofs.YtbbboachakkgiaaDoorW.PrintLast Go.Proofs.YtbbboachakkgiaaDoor.G
set_option linter.unusedVariables false
set_option linter.unusedSimpArgs false
theorem xor_i64 (a b : Int) (h0 : 0 ≤ a) (h1 : a < 4611686018427387904) (k0 : 0 ≤ b) (k1 : b < 4611686018427387904) : 0 ≤ bits .xor .i64 a b := by
  obtain ⟨a, rfl⟩ := Int.eq_ofNat_of_zero_le h0
  obtain ⟨b, rfl⟩ := Int.eq_ofNat_of_zero_le k0
  have ha : a < 2 ^ 62 := by omega
  have hb : b < 2 ^ 62 := by omega
  have hx := Nat.xor_lt_two_pow ha hb
  have ha' : a % 2 ^ 64 = a := Nat.mod_eq_of_lt (by omega)
  have hb' : b % 2 ^ 64 = b := Nat.mod_eq_of_lt (by omega)
  show 0 ≤ IntKind.i64.wrap ((BitVec.ofInt 64 (a : Int) ^^^ BitVec.ofInt 64 (b : Int)).toNat : Int)
  rw [BitVec.ofInt_natCast, BitVec.ofInt_natCast, BitVec.toNat_xor, BitVec.toNat_ofNat, BitVec.toNat_ofNat, ha', hb', IntKind.wrap_i64]
  omega
theorem rd_range {b : List Int} (hb : ∀ x ∈ b, 0 ≤ x ∧ x ≤ 255) (i : Int) : 0 ≤ rd b i ∧ rd b i ≤ 255 := by
  unfold rd
  rw [List.getD_eq_getElem?_getD]
  rcases h : b[i.toNat]? with _ | x
  · simp
  · exact hb x (List.mem_of_getElem? h)
theorem mod_range {x n : Int} (h0 : 0 ≤ x) (h1 : 1 ≤ n) : 0 ≤ Int.tmod x n ∧ Int.tmod x n < n := by
  rw [Int.tmod_eq_emod_of_nonneg h0]
  exact ⟨Int.emod_nonneg _ (by omega), Int.emod_lt_of_pos _ (by omega)⟩
/-- A code that is read: bytes, and a place that is no great number. -/
def CodeOk (b : List Int) : Prop := b.length ≤ 2000 ∧ ∀ x ∈ b, 0 ≤ x ∧ x ≤ 255
theorem pick_ends {b : List Int} (hb : CodeOk b) (p n : Int) (h0 : 0 ≤ p) (h1 : p ≤ 1000000000) (hn : n ≤ 4611686018427387904) :
    EndsIn (fun k => spec_l6Rd_pick.f k b p n) (fun r => r.2 = p + 1 ∧ 0 ≤ r.1 ∧ (1 ≤ n → r.1 < n) ∧ (n < 1 → r.1 = 0)) := by
  obtain ⟨hl, hr⟩ := hb
  unfold spec_l6Rd_pick.f
  rw [w64 (a := p + 1) (by omega) (by omega)]
  by_cases hn1 : n < 1
  · simp only [if_pos hn1]
    refine EndsIn.step (fun k => by rw [spec_l6Rd_pick.j0]) ?_
    simp only [if_true]
    exact EndsIn.now _ ⟨rfl, by omega, by omega, fun _ => rfl⟩
  · simp only [if_neg hn1]
    refine EndsIn.step (fun k => by rw [spec_l6Rd_pick.j0]) ?_
    rw [show p + 1 - 1 = p by omega, w64 (a := p) (by omega) (by omega)]
    by_cases hz : (b.length : Int) = 0
    · have : ((b.length : Int) == 0) = true := by simpa using hz
      simp only [this, if_true]
      exact EndsIn.now _ ⟨rfl, by omega, by omega, fun h => by omega⟩
    · have hz' : ((b.length : Int) == 0) = false := by simpa using hz
      simp only [hz', Bool.false_eq_true, if_false]
      by_cases hp : p < (b.length : Int)
      · have hx := rd_range hr p
        simp only [if_pos hp, if_pos h0, if_neg (show ¬ n = 0 by omega)]
        rw [w64 (a := rd b p) (by omega) (by omega)]
        have hm := mod_range (x := rd b p) (n := n) hx.1 (by omega)
        exact EndsIn.now _ ⟨rfl, hm.1, fun _ => hm.2, fun h => by omega⟩
      · have hm1 := mod_range (x := p) (n := (b.length : Int)) h0 (by omega)
        have h7 : wrap64 (wrap64 (p * 7) + 3) = p * 7 + 3 := by
          rw [w64 (a := p * 7) (by omega) (by omega), w64 (by omega) (by omega)]
        have hm2 := mod_range (x := p * 7 + 3) (n := (b.length : Int)) (by omega) (by omega)
        simp only [if_neg hp, if_neg hz, h7, if_pos hm1.1, if_pos hm1.2, if_pos hm2.1, if_pos hm2.2, if_neg (show ¬ n = 0 by omega)]
        have hx1 := rd_range hr (Int.tmod p b.length)
        have hx2 := rd_range hr (Int.tmod (p * 7 + 3) b.length)
        generalize rd b (Int.tmod p b.length) = x1 at hx1 ⊢
        generalize rd b (Int.tmod (p * 7 + 3) b.length) = x2 at hx2 ⊢
        have hd : 0 ≤ Int.tdiv p (b.length : Int) ∧ Int.tdiv p (b.length : Int) ≤ p := by
          rw [Int.tdiv_eq_ediv_of_nonneg h0]
          exact ⟨Int.ediv_nonneg h0 (by omega), Int.ediv_le_self _ h0⟩
        generalize Int.tdiv p (b.length : Int) = q at hd ⊢
        have e1 : wrap64 x1 = x1 := w64 (by omega) (by omega)
        have e2 : wrap64 x2 = x2 := w64 (by omega) (by omega)
        have e3 : wrap64 (x1 * 131) = x1 * 131 := w64 (by omega) (by omega)
        have e4 : wrap64 (x2 * 1117) = x2 * 1117 := w64 (by omega) (by omega)
        have e5 : wrap64 (x1 * 131 + x2 * 1117) = x1 * 131 + x2 * 1117 := w64 (by omega) (by omega)
        have e6 : wrap64 (p * 29) = p * 29 := w64 (by omega) (by omega)
        have e7 : wrap64 (x1 * 131 + x2 * 1117 + p * 29) = x1 * 131 + x2 * 1117 + p * 29 := w64 (by omega) (by omega)
        have e8 : wrap64 q = q := w64 (by omega) (by omega)
        have e9 : wrap64 (q * 53) = q * 53 := w64 (by omega) (by omega)
        have e10 : wrap64 (x1 * 131 + x2 * 1117 + p * 29 + q * 53) = x1 * 131 + x2 * 1117 + p * 29 + q * 53 := w64 (by omega) (by omega)
        simp only [e1, e2, e3, e4, e5, e6, e7, e8, e9, e10]
        have hX : 0 ≤ x1 * 131 + x2 * 1117 + p * 29 + q * 53 ∧ x1 * 131 + x2 * 1117 + p * 29 + q * 53 < 4611686018427387904 := ⟨by omega, by omega⟩
        generalize x1 * 131 + x2 * 1117 + p * 29 + q * 53 = X at hX ⊢
        have e11 : wrap64 (Int.tdiv X 64) = X / 64 := by
          rw [Int.tdiv_eq_ediv_of_nonneg hX.1]
          exact w64 (by omega) (by omega)
        rw [e11]
        have hxx := xor_i64 X (X / 64) hX.1 hX.2 (by omega) (by omega)
        have hm := mod_range (n := n) hxx (by omega)
        exact EndsIn.now _ ⟨rfl, hm.1, fun _ => hm.2, fun h => by omega⟩
end Go.Proofs.YtbbboachakkgiaaDoor.Pu

namespace Go.Proofs.YtbbboachakkgiaaDoor.Pu
open Go.RowKit Go.Proofs.YtbbboachakkgiaaDoorW.PrintWords Go.Proofs.YtbbboachakkgiaaDoorW.PrintLast Go.Proofs.YtbbboachakkgiaaDoorW.PrintMore Go.Proofs.YtbbboachakkgiaaDoor.G
set_option linter.unusedVariables false
set_option linter.unusedSimpArgs false
theorem part_loop {b : List Int} (hb : CodeOk b) (n : Int) (hn : n ≤ 12) : ∀ d (i : Nat) (l : List Int) (p : Int), 12 - i = d → l.length = i → i ≤ 12 → 0 ≤ p → p ≤ 900000000 + 2 * (i : Int) →
    EndsIn (fun k => spec_l91Part.l0 k l n (i : Int) b p) (fun r => r.2.1.length ≤ 12 ∧ p ≤ r.2.2 ∧ r.2.2 ≤ p + 2 * (12 - (i : Int))) := by
  intro d
  induction d with
  | zero =>
    intro i l p hd hl hi p0 p1
    refine EndsIn.step (fun k => by rw [spec_l91Part.l0]) ?_
    simp only [if_neg (show ¬ (i : Int) < n by omega)]
    exact EndsIn.now _ ⟨by show l.length ≤ 12; omega, by show p ≤ p; omega, by show p ≤ _; omega⟩
  | succ d ih =>
    intro i l p hd hl hi p0 p1
    refine EndsIn.step (fun k => by rw [spec_l91Part.l0]) ?_
    by_cases h : (i : Int) < n
    · simp only [if_pos h]
      refine EndsIn.bind (pick_ends hb p 256 p0 (by omega) (by omega)) fun q hq => ?_
      obtain ⟨q2, q3, q4, _⟩ := hq
      simp only [bindS]
      rw [q2]
      refine EndsIn.bind (pick_ends hb (p + 1) 4 (by omega) (by omega) (by omega)) fun s hs => ?_
      obtain ⟨s2, s3, s4, _⟩ := hs
      have s5 := s4 (by omega)
      rw [s2]
      simp only [if_pos s3, if_pos (show s.1 < (([1, 2, 3, q.1] : List Int).length : Int) by simpa using s5), if_pos (show l.length < 17592186044416 by omega), w64 (a := (i : Int) + 1) (by omega) (by omega)]
      have := ih (i + 1) (l ++ [rd [1, 2, 3, q.1] s.1]) (p + 1 + 1) (by omega) (by rw [List.length_append, hl]; rfl) (by omega) (by omega) (by omega)
      exact this.mono fun r hr => ⟨hr.1, by omega, by omega⟩
    · simp only [if_neg h]
      exact EndsIn.now _ ⟨by show l.length ≤ 12; omega, by show p ≤ p; omega, by show p ≤ _; omega⟩
theorem part_ends {b : List Int} (hb : CodeOk b) (p : Int) (h0 : 0 ≤ p) (h1 : p ≤ 800000000) : EndsIn (fun k => spec_l91Part.f k b p) (fun r => r.2.1.length ≤ 12 ∧ p ≤ r.2.2 ∧ r.2.2 ≤ p + 30) := by
  have st : ∀ (n q : Int), n ≤ 12 → p ≤ q → q ≤ p + 5 → EndsIn (fun k => spec_l91Part.j0 k [] n b q) (fun r => r.2.1.length ≤ 12 ∧ p ≤ r.2.2 ∧ r.2.2 ≤ p + 30) := by
    intro n q hn q0 q1
    refine EndsIn.step (fun k => by rw [spec_l91Part.j0]) ?_
    have := part_loop hb n hn 12 0 [] q (by omega) rfl (by omega) (by omega) (by omega)
    exact this.mono fun r hr => ⟨hr.1, by omega, by omega⟩
  unfold spec_l91Part.f
  refine EndsIn.bind (pick_ends hb p 4 h0 (by omega) (by omega)) fun q hq => ?_
  obtain ⟨q2, q3, q4, _⟩ := hq
  rw [q2]
  by_cases hz : q.1 = 0
  · simp only [if_pos hz]
    exact EndsIn.now _ ⟨by simp, by show p ≤ p + 1; omega, by show p + 1 ≤ p + 30; omega⟩
  · simp only [if_neg hz, bindS]
    refine EndsIn.bind (pick_ends hb (p + 1) 5 (by omega) (by omega) (by omega)) fun s hs => ?_
    obtain ⟨s2, s3, s4, _⟩ := hs
    have s5 := s4 (by omega)
    rw [s2]
    refine EndsIn.bind (pick_ends hb (p + 1 + 1) 12 (by omega) (by omega) (by omega)) fun u hu => ?_
    obtain ⟨u2, u3, u4, _⟩ := hu
    rw [u2]
    by_cases hu0 : u.1 = 0
    · simp only [if_pos hu0]
      exact st _ _ (by omega) (by omega) (by omega)
    · simp only [if_neg hu0]
      exact st _ _ (by omega) (by omega) (by omega)
def Small (r : S33) : Prop := r.f3.length ≤ 12 ∧ r.f5.length ≤ 12
theorem recs_loop {b : List Int} (hb : CodeOk b) (n : Int) (hn : n ≤ 6) : ∀ d (i : Nat) (l : List S33) (o t p : Int), 6 - i = d → l.length = i → i ≤ 6 → (∀ r ∈ l, Small r) → 0 ≤ p → p ≤ 700000000 + 100 * (i : Int) →
    EndsIn (fun k => spec_l91Records.l0 k o l n t (i : Int) b p) (fun r => (∀ x ∈ r.1, Small x) ∧ (n ≤ (r.1.length : Int)) ∧ r.1.length ≤ 6 ∧ p ≤ r.2 ∧ r.2 ≤ p + 100 * (6 - (i : Int))) := by
  have stop : ∀ (i : Nat) (l : List S33) (o t p : Int), l.length = i → i ≤ 6 → (∀ r ∈ l, Small r) → ¬ (i : Int) < n →
      EndsIn (fun k => spec_l91Records.l0 k o l n t (i : Int) b p) (fun r => (∀ x ∈ r.1, Small x) ∧ (n ≤ (r.1.length : Int)) ∧ r.1.length ≤ 6 ∧ p ≤ r.2 ∧ r.2 ≤ p + 100 * (6 - (i : Int))) := by
    intro i l o t p hl hi hs h
    refine EndsIn.step (fun k => by rw [spec_l91Records.l0]) ?_
    simp only [if_neg h]
    exact EndsIn.now _ ⟨hs, by show n ≤ (l.length : Int); omega, by show l.length ≤ 6; omega, by show p ≤ p; omega, by show p ≤ _; omega⟩
  intro d
  induction d with
  | zero =>
    intro i l o t p hd hl hi hs p0 p1
    exact stop i l o t p hl hi hs (by omega)
  | succ d ih =>
    intro i l o t p hd hl hi hs p0 p1
    by_cases h : (i : Int) < n
    · refine EndsIn.step (fun k => by rw [spec_l91Records.l0]) ?_
      simp only [if_pos h]
      refine EndsIn.bind (part_ends hb p p0 (by omega)) fun q hq => ?_
      obtain ⟨q1, q2, q3⟩ := hq
      refine EndsIn.bind (part_ends hb q.2.2 (by omega) (by omega)) fun s hs' => ?_
      obtain ⟨s1, s2, s3⟩ := hs'
      have st : ∀ (c : Bool) (u : Int), s.2.2 ≤ u → u ≤ s.2.2 + 2 → EndsIn (fun k => spec_l91Records.j1 k o l n t (i : Int) s.1 s.2.1 c b u o t q.1 q.2.1 false) (fun r => (∀ x ∈ r.1, Small x) ∧ (n ≤ (r.1.length : Int)) ∧ r.1.length ≤ 6 ∧ p ≤ r.2 ∧ r.2 ≤ p + 100 * (6 - (i : Int))) := by
        intro c u u0 u1
        refine EndsIn.step (fun k => by rw [spec_l91Records.j1]) ?_
        have nx : ∀ (x : S33) (o' t' v : Int), Small x → u ≤ v → v ≤ u + 5 → EndsIn (fun k => spec_l91Records.l0 k o' (l ++ [x]) n t' ((i : Int) + 1) b v) (fun r => (∀ x ∈ r.1, Small x) ∧ (n ≤ (r.1.length : Int)) ∧ r.1.length ≤ 6 ∧ p ≤ r.2 ∧ r.2 ≤ p + 100 * (6 - (i : Int))) := by
          intro x o' t' v hx v0 v1
          have := ih (i + 1) (l ++ [x]) o' t' v (by omega) (by rw [List.length_append, hl]; rfl) (by omega) (fun r hr => by
            rcases List.mem_append.1 hr with hr | hr
            · exact hs r hr
            · rw [List.mem_singleton] at hr
              rw [hr]
              exact hx) (by omega) (by omega)
          exact this.mono fun r hr => ⟨hr.1, hr.2.1, hr.2.2.1, by omega, by omega⟩
        cases c
        · simp only [Bool.false_eq_true, if_false, if_pos (show l.length < 1759218604441 by omega)]
          refine EndsIn.bind (pick_ends hb u 5 (by omega) (by omega) (by omega)) fun v hv => ?_
          rw [hv.1]
          refine EndsIn.bind (pick_ends hb (u + 1) 30 (by omega) (by omega) (by omega)) fun z hz => ?_
          rw [hz.1, w64 (a := (i : Int) + 1) (by omega) (by omega)]
          exact nx _ _ _ _ ⟨q1, s1⟩ (by omega) (by omega)
        · simp only [if_true, if_pos (show l.length < 1759218604441 by omega)]
          refine EndsIn.bind (pick_ends hb u 3 (by omega) (by omega) (by omega)) fun y hy => ?_
          rw [hy.1]
          refine EndsIn.bind (pick_ends hb (u + 1) 5 (by omega) (by omega) (by omega)) fun v hv => ?_
          rw [hv.1]
          refine EndsIn.bind (pick_ends hb (u + 1 + 1) 30 (by omega) (by omega) (by omega)) fun z hz => ?_
          rw [hz.1, w64 (a := (i : Int) + 1) (by omega) (by omega)]
          exact nx _ _ _ _ ⟨by show 1 ≤ 12; omega, s1⟩ (by omega) (by omega)
      cases hq1 : q.1
      · simp only [Bool.false_eq_true, if_false]
        have := st false s.2.2 (by omega) (by omega)
        rw [hq1] at this
        exact this
      · simp only [if_true]
        refine EndsIn.bind (pick_ends hb s.2.2 2 (by omega) (by omega) (by omega)) fun y hy => ?_
        rw [hy.1]
        have := st (y.1 == 0) (s.2.2 + 1) (by omega) (by omega)
        rw [hq1] at this
        exact this
    · exact stop i l o t p hl hi hs h
/-- Some records: one at least. -/
theorem recs_ends {b : List Int} (hb : CodeOk b) (p a n : Int) (h0 : 0 ≤ p) (h1 : p ≤ 600000000) (hn1 : 1 ≤ n) (hn : n ≤ 6) :
    EndsIn (fun k => spec_l91Records.f k b p a n) (fun r => (∀ x ∈ r.1, Small x) ∧ 1 ≤ r.1.length ∧ r.1.length ≤ 6 ∧ p ≤ r.2 ∧ r.2 ≤ p + 700) := by
  unfold spec_l91Records.f
  refine EndsIn.bind (pick_ends hb p n h0 (by omega) (by omega)) fun q hq => ?_
  obtain ⟨q2, q3, q4, _⟩ := hq
  have q5 := q4 (by omega)
  rw [q2]
  refine EndsIn.bind (pick_ends hb (p + 1) 200 (by omega) (by omega) (by omega)) fun s hs => ?_
  rw [hs.1, w64 (a := 1 + q.1) (by omega) (by omega)]
  have := recs_loop hb (1 + q.1) (by omega) 6 0 [] a s.1 (p + 1 + 1) (by omega) rfl (by omega) (by simp) (by omega) (by omega)
  exact this.mono fun r hr => ⟨hr.1, by omega, hr.2.2.1, by omega, by omega⟩
def BatS (l : List S33) : Prop := (∀ x ∈ l, Small x) ∧ 1 ≤ l.length ∧ l.length ≤ 7
theorem bat_j {b : List Int} (hb : CodeOk b) (p : Int) (h0 : 0 ≤ p) (h1 : p ≤ 600000000) (c0 c1 : Bool) (x y z : Int) (l : List S33) (hl : (∀ x ∈ l, Small x) ∧ 1 ≤ l.length ∧ l.length ≤ 6) :
    EndsIn (fun k => spec_l91Batch.j0 k b p c0 c1 x y z l) (fun r => BatS r.2.2.2.2.2.1 ∧ p ≤ r.2.2.2.2.2.2 ∧ r.2.2.2.2.2.2 ≤ p + 3) := by
  obtain ⟨l1, l2, l3⟩ := hl
  have hB : BatS l := ⟨l1, l2, by omega⟩
  refine EndsIn.step (fun k => by rw [spec_l91Batch.j0]) ?_
  refine EndsIn.bind (pick_ends hb p 40 h0 (by omega) (by omega)) fun q hq => ?_
  rw [hq.1]
  by_cases e0 : q.1 = 0
  · simp only [if_pos e0, bindS]
    refine EndsIn.bind (pick_ends hb (p + 1) 3 (by omega) (by omega) (by omega)) fun s hs => ?_
    obtain ⟨s2, s3, s4, _⟩ := hs
    have s5 := s4 (by omega)
    simp only [if_pos s3, if_pos (show s.1 < (([(-1), 1, 100] : List Int).length : Int) by simpa using s5)]
    exact EndsIn.now _ ⟨hB, by show p ≤ s.2; omega, by show s.2 ≤ p + 3; omega⟩
  · simp only [if_neg e0]
    by_cases e1 : q.1 = 1
    · simp only [if_pos e1, if_pos (show (0 : Int) < (l.length : Int) by omega), if_pos (show l.length < 1759218604441 by omega)]
      refine EndsIn.now _ ⟨⟨fun r hr => ?_, by show 1 ≤ (l ++ [_]).length; rw [List.length_append]; omega, by show (l ++ [_]).length ≤ 7; rw [List.length_append]; simp only [List.length_singleton]; omega⟩, by show p ≤ p + 1; omega, by show p + 1 ≤ p + 3; omega⟩
      rcases List.mem_append.1 hr with hr | hr
      · exact l1 r hr
      · rw [List.mem_singleton] at hr
        rw [hr]
        have := l1 _ (List.getElem_mem (show 0 < l.length by omega))
        rw [← rdR_nat l 0 (by omega)] at this
        exact this
    · simp only [if_neg e1]
      by_cases e2 : q.1 = 2
      · simp only [if_pos e2]
        exact EndsIn.now _ ⟨hB, by show p ≤ p + 1; omega, by show p + 1 ≤ p + 3; omega⟩
      · simp only [if_neg e2]
        exact EndsIn.now _ ⟨hB, by show p ≤ p + 1; omega, by show p + 1 ≤ p + 3; omega⟩
theorem bat_ends {b : List Int} (hb : CodeOk b) (p a : Int) (h0 : 0 ≤ p) (h1 : p ≤ 500000000) :
    EndsIn (fun k => spec_l91Batch.f k b p a) (fun r => BatS r.2.2.2.2.2.1 ∧ p ≤ r.2.2.2.2.2.2 ∧ r.2.2.2.2.2.2 ≤ p + 800) := by
  unfold spec_l91Batch.f
  refine EndsIn.bind (pick_ends hb p 2 h0 (by omega) (by omega)) fun q hq => ?_
  rw [hq.1]
  refine EndsIn.bind (recs_ends hb (p + 1) a 4 (by omega) (by omega) (by omega) (by omega)) fun s hs => ?_
  obtain ⟨s1, s2, s3, s4, s5⟩ := hs
  refine EndsIn.bind (pick_ends hb s.2 3 (by omega) (by omega) (by omega)) fun t ht => ?_
  rw [ht.1]
  by_cases e0 : t.1 = 0
  · simp only [if_pos e0]
    refine EndsIn.bind (pick_ends hb (s.2 + 1) 3 (by omega) (by omega) (by omega)) fun u hu => ?_
    rw [hu.1]
    refine EndsIn.bind (pick_ends hb (s.2 + 1 + 1) 3 (by omega) (by omega) (by omega)) fun v hv => ?_
    rw [hv.1]
    refine EndsIn.bind (pick_ends hb (s.2 + 1 + 1 + 1) 5 (by omega) (by omega) (by omega)) fun x hx => ?_
    rw [hx.1]
    refine EndsIn.bind (pick_ends hb (s.2 + 1 + 1 + 1 + 1) 3 (by omega) (by omega) (by omega)) fun y hy => ?_
    rw [hy.1]
    by_cases ey : y.1 = 0
    · simp only [if_pos ey]
      refine EndsIn.bind (pick_ends hb (s.2 + 1 + 1 + 1 + 1 + 1) 200 (by omega) (by omega) (by omega)) fun z hz => ?_
      rw [hz.1]
      refine EndsIn.bind (pick_ends hb (s.2 + 1 + 1 + 1 + 1 + 1 + 1) 2 (by omega) (by omega) (by omega)) fun m hm => ?_
      rw [hm.1]
      refine (bat_j hb (s.2 + 1 + 1 + 1 + 1 + 1 + 1 + 1) (by omega) (by omega) _ _ _ _ _ _ ⟨fun r hr => ?_, by simp, by simp⟩).mono fun r hr => ⟨hr.1, by omega, by omega⟩
      rw [List.mem_singleton] at hr
      rw [hr]
      exact ⟨by show 0 ≤ 12; omega, by show 1 ≤ 12; omega⟩
    · simp only [if_neg ey]
      exact (bat_j hb (s.2 + 1 + 1 + 1 + 1 + 1) (by omega) (by omega) _ _ _ _ _ _ ⟨s1, s2, s3⟩).mono fun r hr => ⟨hr.1, by omega, by omega⟩
  · simp only [if_neg e0]
    exact (bat_j hb (s.2 + 1) (by omega) (by omega) _ _ _ _ _ _ ⟨s1, s2, s3⟩).mono fun r hr => ⟨hr.1, by omega, by omega⟩
theorem BatS.rowR {l : List S33} (h : BatS l) : RowR l := ⟨by have := h.2.2; omega, fun r hr => by have := h.1 r hr; unfold Small at this; exact ⟨by omega, by omega⟩⟩
end Go.Proofs.YtbbboachakkgiaaDoor.Pu

namespace Go.Proofs.YtbbboachakkgiaaDoor.Pu
open Go.RowKit Go.Proofs.YtbbboachakkgiaaDoorW.PrintWords Go.Proofs.YtbbboachakkgiaaDoorW.PrintLast Go.Proofs.YtbbboachakkgiaaDoorW.PrintMore Go.Proofs.YtbbboachakkgiaaDoor.G
set_option linter.unusedVariables false
set_option linter.unusedSimpArgs false
def DrL (l : List S47) : Prop := l.length ≤ 9 ∧ ∀ x ∈ l, BatS x.f5
theorem DrL.rowB {l : List S47} (h : DrL l) : RowB l := ⟨by have := h.1; omega, fun x hx => (h.2 x hx).rowR⟩
theorem log_loop {b : List Int} (hb : CodeOk b) (n : Int) (hn : n ≤ 9) : ∀ d (i : Nat) (l : List S47) (o p : Int), 9 - i = d → l.length = i → i ≤ 9 → (∀ x ∈ l, BatS x.f5) → 0 ≤ p → p ≤ 400000000 + 2000 * (i : Int) →
    EndsIn (fun k => spec_l92Log.l0 k l n o (i : Int) b p) (fun r => DrL r.1 ∧ p ≤ r.2 ∧ r.2 ≤ p + 2000 * (9 - (i : Int)) + 10) := by
  have stop : ∀ (i : Nat) (l : List S47) (o p : Int), l.length = i → i ≤ 9 → (∀ x ∈ l, BatS x.f5) → 0 ≤ p → p ≤ 400000000 + 2000 * (i : Int) → ¬ (i : Int) < n →
      EndsIn (fun k => spec_l92Log.l0 k l n o (i : Int) b p) (fun r => DrL r.1 ∧ p ≤ r.2 ∧ r.2 ≤ p + 2000 * (9 - (i : Int)) + 10) := by
    intro i l o p hl hi hs p0 p1 h
    refine EndsIn.step (fun k => by rw [spec_l92Log.l0]) ?_
    simp only [if_neg h]
    by_cases h1 : n > 1
    · simp only [if_pos h1]
      refine EndsIn.bind (pick_ends hb p 30 p0 (by omega) (by omega)) fun q hq => ?_
      rw [hq.1]
      by_cases e0 : q.1 = 0
      · simp only [if_pos e0, if_pos (show (0 : Int) < (l.length : Int) by omega), if_pos (show (1 : Int) < (l.length : Int) by omega)]
        refine EndsIn.now _ ⟨⟨by rw [List.length_set]; omega, fun x hx => ?_⟩, by show p ≤ p + 1; omega, by show p + 1 ≤ _; omega⟩
        rcases List.mem_or_eq_of_mem_set hx with hx | rfl
        · exact hs x hx
        · have := hs _ (List.getElem_mem (show 0 < l.length by omega))
          rw [← rdB_nat l 0 (by omega)] at this
          exact this
      · simp only [if_neg e0]
        exact EndsIn.now _ ⟨⟨by show l.length ≤ 9; omega, hs⟩, by show p ≤ p + 1; omega, by show p + 1 ≤ _; omega⟩
    · simp only [if_neg h1]
      exact EndsIn.now _ ⟨⟨by show l.length ≤ 9; omega, hs⟩, by show p ≤ p; omega, by show p ≤ _; omega⟩
  intro d
  induction d with
  | zero =>
    intro i l o p hd hl hi hs p0 p1
    exact stop i l o p hl hi hs p0 p1 (by omega)
  | succ d ih =>
    intro i l o p hd hl hi hs p0 p1
    by_cases h : (i : Int) < n
    · refine EndsIn.step (fun k => by rw [spec_l92Log.l0]) ?_
      simp only [if_pos h]
      refine EndsIn.bind (bat_ends hb p o p0 (by omega)) fun x hx => ?_
      obtain ⟨x1, x2, x3⟩ := hx
      refine EndsIn.bind (pick_ends hb x.2.2.2.2.2.2 20 (by omega) (by omega) (by omega)) fun q hq => ?_
      have q2 := hq.1
      have nx : ∀ (y : S47) (o' v : Int), BatS y.f5 → p ≤ v → v ≤ p + 2000 → EndsIn (fun k => spec_l92Log.l0 k (l ++ [y]) n o' ((i : Int) + 1) b v) (fun r => DrL r.1 ∧ p ≤ r.2 ∧ r.2 ≤ p + 2000 * (9 - (i : Int)) + 10) := by
        intro y o' v hy v0 v1
        have := ih (i + 1) (l ++ [y]) o' v (by omega) (by rw [List.length_append, hl]; rfl) (by omega) (fun r hr => by
          rcases List.mem_append.1 hr with hr | hr
          · exact hs r hr
          · rw [List.mem_singleton] at hr
            rw [hr]
            exact hy) (by omega) (by omega)
        exact this.mono fun r hr => ⟨hr.1, by omega, by omega⟩
      have st : ∀ (c : Bool), EndsIn (fun k => spec_l92Log.j2 k l n o (i : Int) c b q.2 x.1 x.2.1 x.2.2.1 x.2.2.2.1 x.2.2.2.2.1 x.2.2.2.2.2.1) (fun r => DrL r.1 ∧ p ≤ r.2 ∧ r.2 ≤ p + 2000 * (9 - (i : Int)) + 10) := by
        intro c
        refine EndsIn.step (fun k => by rw [spec_l92Log.j2]) ?_
        cases c
        · obtain ⟨y1, y2, y3⟩ := x1
          simp only [Bool.false_eq_true, if_false, if_pos (show l.length < 2513169434916 by omega), w64 (a := (x.2.2.2.2.2.1.length : Int) - 1) (by omega) (by omega), if_pos (show (0 : Int) ≤ (x.2.2.2.2.2.1.length : Int) - 1 by omega), if_pos (show (x.2.2.2.2.2.1.length : Int) - 1 < (x.2.2.2.2.2.1.length : Int) by omega)]
          refine EndsIn.bind (pick_ends hb q.2 4 (by omega) (by omega) (by omega)) fun z hz => ?_
          rw [hz.1, w64 (a := (i : Int) + 1) (by omega) (by omega)]
          exact nx _ _ _ ⟨y1, y2, y3⟩ (by omega) (by omega)
        · simp only [if_true]
          refine EndsIn.bind (recs_ends hb q.2 o 2 (by omega) (by omega) (by omega) (by omega)) fun s hs => ?_
          obtain ⟨s1, s2, s3, s4, s5⟩ := hs
          simp only [if_pos (show l.length < 2513169434916 by omega), w64 (a := (s.1.length : Int) - 1) (by omega) (by omega), if_pos (show (0 : Int) ≤ (s.1.length : Int) - 1 by omega), if_pos (show (s.1.length : Int) - 1 < (s.1.length : Int) by omega)]
          refine EndsIn.bind (pick_ends hb s.2 4 (by omega) (by omega) (by omega)) fun z hz => ?_
          rw [hz.1, w64 (a := (i : Int) + 1) (by omega) (by omega)]
          exact nx _ _ _ ⟨s1, s2, by show s.1.length ≤ 7; omega⟩ (by omega) (by omega)
      by_cases e0 : q.1 > 0
      · simp only [if_pos e0]
        refine EndsIn.bind (P := fun _ => True) ⟨_, sBatchValid_ev ⟨x.1, x.2.1, x.2.2.1, x.2.2.2.1, x.2.2.2.2.1, x.2.2.2.2.2.1⟩ x1.rowR, trivial⟩ fun t _ => ?_
        exact st _
      · simp only [if_neg e0]
        exact st _
    · exact stop i l o p hl hi hs p0 p1 h
theorem drawLog_ends {b : List Int} (hb : CodeOk b) (p : Int) (h0 : 0 ≤ p) (h1 : p ≤ 300000000) : EndsIn (fun k => spec_l92Log.f k b p) (fun r => DrL r.1 ∧ p ≤ r.2 ∧ r.2 ≤ p + 20000) := by
  have st : ∀ (n q : Int), n ≤ 9 → p ≤ q → q ≤ p + 10 → EndsIn (fun k => spec_l92Log.j0 k [] n b q) (fun r => DrL r.1 ∧ p ≤ r.2 ∧ r.2 ≤ p + 20000) := by
    intro n q hn hq0 hq1
    refine EndsIn.step (fun k => by rw [spec_l92Log.j0]) ?_
    refine EndsIn.bind (pick_ends hb q 10 (by omega) (by omega) (by omega)) fun t ht => ?_
    rw [ht.1]
    have := log_loop hb n hn 9 0 [] t.1 (q + 1) (by omega) rfl (by omega) (by simp) (by omega) (by omega)
    exact this.mono fun r hr => ⟨hr.1, by omega, by omega⟩
  unfold spec_l92Log.f
  simp only [bindS]
  refine EndsIn.bind (pick_ends hb p 5 h0 (by omega) (by omega)) fun q hq => ?_
  obtain ⟨q2, q3, q4, _⟩ := hq
  have q5 := q4 (by omega)
  rw [q2]
  refine EndsIn.bind (pick_ends hb (p + 1) 16 (by omega) (by omega) (by omega)) fun s hs => ?_
  rw [hs.1]
  by_cases hz : s.1 = 0
  · simp only [if_pos hz]
    refine EndsIn.bind (pick_ends hb (p + 1 + 1) 3 (by omega) (by omega) (by omega)) fun u hu => ?_
    obtain ⟨u2, u3, u4, _⟩ := hu
    have u5 := u4 (by omega)
    simp only [if_pos u3, if_pos (show u.1 < (([0, 8, 9] : List Int).length : Int) by simpa using u5)]
    rw [u2]
    refine st _ _ ?_ (by omega) (by omega)
    have : u.1 = 0 ∨ u.1 = 1 ∨ u.1 = 2 := by omega
    rcases this with e | e | e <;> (rw [e]; decide)
  · simp only [if_neg hz, w64 (a := 1 + q.1) (by omega) (by omega)]
    exact st _ _ (by omega) (by omega) (by omega)
end Go.Proofs.YtbbboachakkgiaaDoor.Pu

namespace Go.Proofs.YtbbboachakkgiaaDoor.Pu
open Go.RowKit Go.Proofs.YtbbboachakkgiaaDoorW.PrintWords Go.Proofs.YtbbboachakkgiaaDoorW.PrintLast Go.Proofs.YtbbboachakkgiaaDoor.G
set_option linter.unusedVariables false
set_option linter.unusedSimpArgs false
theorem open_some (l0 : List Int) (hr : ∀ x ∈ l0, 0 ≤ x ∧ x ≤ 255) : ∃ b, spec_l6Open.f l0 = some (b, 0) ∧ CodeOk b := by
  unfold spec_l6Open.f
  by_cases h : (l0.length : Int) > 2000
  · rw [if_pos h, if_pos (by omega)]
    exact ⟨_, rfl, by rw [List.length_take]; omega, fun x hx => hr x (List.mem_of_mem_take hx)⟩
  · rw [if_neg h]
    exact ⟨_, rfl, by omega, hr⟩
end Go.Proofs.YtbbboachakkgiaaDoor.Pu

namespace Go.Proofs.YtbbboachakkgiaaDoor.Pu
open Go.RowKit Go.Proofs.YtbbboachakkgiaaDoorW.PrintWords Go.Proofs.YtbbboachakkgiaaDoorW.PrintLast Go.Proofs.YtbbboachakkgiaaDoorW.PrintMore Go.Proofs.YtbbboachakkgiaaDoor.G
set_option linter.unusedVariables false
set_option linter.unusedSimpArgs false
theorem lcut_all (o : Int) (P : BT → Prop) : ∀ (l acc : List BT), (∀ b ∈ acc, P b) → (∀ b ∈ l, lastOf b < o → P b) → (∀ b ∈ l, cutGood b o = true → P (aheadB b o)) → ∀ b ∈ (lcut o l acc).1, P b
  | [], acc, ha, _, _ => ha
  | x :: l, acc, ha, h1, h2 => by
    have k1 : ∀ b ∈ l, lastOf b < o → P b := fun b hb => h1 b (List.mem_cons_of_mem _ hb)
    have k2 : ∀ b ∈ l, cutGood b o = true → P (aheadB b o) := fun b hb => h2 b (List.mem_cons_of_mem _ hb)
    have app : ∀ y, P y → ∀ b ∈ acc ++ [y], P b := fun y hy b hb => by
      rcases List.mem_append.1 hb with hb | hb
      · exact ha b hb
      · rw [List.mem_singleton] at hb
        rw [hb]
        exact hy
    rw [lcut]
    by_cases c1 : lastOf x < o
    · rw [if_pos c1]
      exact lcut_all o P l _ (app _ (h1 x List.mem_cons_self c1)) k1 k2
    · rw [if_neg c1]
      by_cases c2 : firstOf x < o
      · rw [if_pos c2]
        by_cases c3 : cutGood x o = true
        · rw [if_pos c3]
          exact lcut_all o P l _ (app _ (h2 x List.mem_cons_self c3)) k1 k2
        · rw [if_neg c3]
          intro b hb
          simp at hb
      · rw [if_neg c2]
        exact lcut_all o P l _ ha k1 k2
theorem lcut_len (o : Int) : ∀ (l acc : List BT), (lcut o l acc).1.length ≤ acc.length + l.length
  | [], acc => by simp [lcut]
  | x :: l, acc => by
    rw [lcut]
    by_cases c1 : lastOf x < o
    · rw [if_pos c1]
      have := lcut_len o l (acc ++ [x])
      simp only [List.length_append, List.length_cons, List.length_nil] at this ⊢
      omega
    · rw [if_neg c1]
      by_cases c2 : firstOf x < o
      · rw [if_pos c2]
        by_cases c3 : cutGood x o = true
        · rw [if_pos c3]
          have := lcut_len o l (acc ++ [aheadB x o])
          simp only [List.length_append, List.length_cons, List.length_nil] at this ⊢
          omega
        · rw [if_neg c3]
          simp
      · rw [if_neg c2]
        have := lcut_len o l acc
        simp only [List.length_cons]
        omega
theorem ahead_row {b : BT} {o : Int} (h : RowR b.f5) : RowR (aheadB b o).f5 :=
  ⟨Nat.le_trans (List.length_filter_le _ _) h.1, fun r hr => h.2 r (List.mem_filter.1 hr).1⟩
theorem logCut_row {l : List BT} (o : Int) (h : RowB l) : RowB (logCutV l o).1 := by
  unfold logCutV
  by_cases hv : logOk l = true
  · rw [if_pos hv]
    refine ⟨?_, lcut_all o (fun b => RowR b.f5) l [] (fun b hb => by simp at hb) (fun b hb _ => h.2 b hb) (fun b hb _ => ahead_row (h.2 b hb))⟩
    have := lcut_len o l []
    have h1 := h.1
    simp only [List.length_nil] at this
    omega
  · rw [if_neg hv]
    exact ⟨by simp, fun b hb => by simp at hb⟩
theorem drawLC_ends {b : List Int} (hb : CodeOk b) : EndsIn (fun k => (spec_l92Log.f k b 0).bind fun bt272 => ((spec_l6Rd_pick.f k b bt272.2 26).bind fun bt276 => (some (bt272.1, bt276.1)))) (fun r => DrL r.1 ∧ 0 ≤ r.2 ∧ r.2 < 26) := by
  refine EndsIn.bind (drawLog_ends hb 0 (by omega) (by omega)) fun r hr => ?_
  refine EndsIn.bind (pick_ends hb r.2 26 (by omega) (by omega) (by omega)) fun s hs => ?_
  refine EndsIn.now _ ⟨hr.1, ?_⟩
  have := hs
  simp only at this ⊢
  omega
end Go.Proofs.YtbbboachakkgiaaDoor.Pu

