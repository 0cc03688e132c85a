/- A text of seat YtahenocndacjeaaDoor: what the law FnCut needs of this repo's texts (by pack.py). Not trusted: Lean checks it. -/
import Derived.Test.YtahenocndacjeaaDoorKFnCut9
import Derived.Deep.Slices
import Derived.SizedLaws
namespace Go.Proofs.YtahenocndacjeaaDoor.G
open Go.RowKit Go.Proofs.YtahenocndacjeaaDoorW.PrintWords Go.Proofs.YtahenocndacjeaaDoorW.PrintLast Go.Proofs.YtahenocndacjeaaDoorW.PrintMore
attribute [local go_sem] max2_int min2_int max_two min_two max_three min_three max_four min_four   -- for this text's walks alone
set_option linter.unusedVariables false
set_option linter.unusedSimpArgs false

def laws_FnCut.j0 : Nat → Int → Bool → Bool → Bool → Bool → Bool → Int → Int → Int → List (S41) → Bool → Bool → Int → Int → Int → List (S41) → Bool → Bool → Int → Int → Int → List (S41) → Bool → Bool → Int → Int → Int → List (S41) → Option (Bool)
 | 0, _, _, _, _, _, _, _, _, _, _, _, _, _, _, _, _, _, _, _, _, _, _, _, _, _, _, _, _ => none
 | k + 1, x4, x7, x10, x57, x436000, x436001, x436002, x436003, x436004, x436005, x437000, x437001, x437002, x437003, x437004, x437005, x455000, x455001, x455002, x455003, x455004, x455005, x456000, x456001, x456002, x456003, x456004, x456005 => if x57 = true then (if (x7 == x10) = true then ((laws_sameBatch.f k x436000 x436001 x436002 x436003 x436004 x436005 x455000 x455001 x455002 x455003 x455004 x455005).bind fun t458 => (if t458 = true then ((laws_sameBatch.f k x437000 x437001 x437002 x437003 x437004 x437005 x456000 x456001 x456002 x456003 x456004 x456005).bind fun t459 => (some t459)) else (some false))) else (some false)) else ((impl_BatchSpan.f k x436000 x436001 x436002 x436003 x436004 x436005).bind fun bt460 => ((impl_BatchSpan.f k x437000 x437001 x437002 x437003 x437004 x437005).bind fun bt463 => (if bt460.2.2 = true then (if bt463.2.2 = true then (if bt460.2.1 < x4 then (if bt463.1 ≥ x4 then ((impl_BatchValid.f k x436000 x436001 x436002 x436003 x436004 x436005).bind fun t466 => (if t466 = true then ((impl_BatchValid.f k x437000 x437001 x437002 x437003 x437004 x437005).bind fun t467 => (some t467)) else (some false))) else (some false)) else (some false)) else (some false)) else (some false))))
def laws_FnCut.f (k : Nat) (l0 : List Int) : Option (Bool) := if (l0.length : Int) > 1048576 then (some true) else ((spec_DrawBatchCut.f k l0).bind fun bt408 => ((impl_BatchCut.f k bt408.1 bt408.2.1 bt408.2.2.1 bt408.2.2.2.1 bt408.2.2.2.2.1 bt408.2.2.2.2.2.1 bt408.2.2.2.2.2.2).bind fun bt418 => ((spec_BatchCut.f k bt408.1 bt408.2.1 bt408.2.2.1 bt408.2.2.2.1 bt408.2.2.2.2.1 bt408.2.2.2.2.2.1 bt408.2.2.2.2.2.2).bind fun bt437 => (if (bt418.2.2.2.2.2.2.2.2.2.2.2.2 != bt437.2.2.2.2.2.2.2.2.2.2.2.2) = true then (laws_FnCut.j0 k bt408.2.2.2.2.2.2 bt418.2.2.2.2.2.2.2.2.2.2.2.2 bt437.2.2.2.2.2.2.2.2.2.2.2.2 true bt418.1 bt418.2.1 bt418.2.2.1 bt418.2.2.2.1 bt418.2.2.2.2.1 bt418.2.2.2.2.2.1 bt418.2.2.2.2.2.2.1 bt418.2.2.2.2.2.2.2.1 bt418.2.2.2.2.2.2.2.2.1 bt418.2.2.2.2.2.2.2.2.2.1 bt418.2.2.2.2.2.2.2.2.2.2.1 bt418.2.2.2.2.2.2.2.2.2.2.2.1 bt437.1 bt437.2.1 bt437.2.2.1 bt437.2.2.2.1 bt437.2.2.2.2.1 bt437.2.2.2.2.2.1 bt437.2.2.2.2.2.2.1 bt437.2.2.2.2.2.2.2.1 bt437.2.2.2.2.2.2.2.2.1 bt437.2.2.2.2.2.2.2.2.2.1 bt437.2.2.2.2.2.2.2.2.2.2.1 bt437.2.2.2.2.2.2.2.2.2.2.2.1) else ((laws_sameBatch.f k bt418.1 bt418.2.1 bt418.2.2.1 bt418.2.2.2.1 bt418.2.2.2.2.1 bt418.2.2.2.2.2.1 bt437.1 bt437.2.1 bt437.2.2.1 bt437.2.2.2.1 bt437.2.2.2.2.1 bt437.2.2.2.2.2.1).bind fun t456 => (if t456 = true then ((laws_sameBatch.f k bt418.2.2.2.2.2.2.1 bt418.2.2.2.2.2.2.2.1 bt418.2.2.2.2.2.2.2.2.1 bt418.2.2.2.2.2.2.2.2.2.1 bt418.2.2.2.2.2.2.2.2.2.2.1 bt418.2.2.2.2.2.2.2.2.2.2.2.1 bt437.2.2.2.2.2.2.1 bt437.2.2.2.2.2.2.2.1 bt437.2.2.2.2.2.2.2.2.1 bt437.2.2.2.2.2.2.2.2.2.1 bt437.2.2.2.2.2.2.2.2.2.2.1 bt437.2.2.2.2.2.2.2.2.2.2.2.1).bind fun t457 => (if t457 = true then (laws_FnCut.j0 k bt408.2.2.2.2.2.2 bt418.2.2.2.2.2.2.2.2.2.2.2.2 bt437.2.2.2.2.2.2.2.2.2.2.2.2 (!bt418.2.2.2.2.2.2.2.2.2.2.2.2) bt418.1 bt418.2.1 bt418.2.2.1 bt418.2.2.2.1 bt418.2.2.2.2.1 bt418.2.2.2.2.2.1 bt418.2.2.2.2.2.2.1 bt418.2.2.2.2.2.2.2.1 bt418.2.2.2.2.2.2.2.2.1 bt418.2.2.2.2.2.2.2.2.2.1 bt418.2.2.2.2.2.2.2.2.2.2.1 bt418.2.2.2.2.2.2.2.2.2.2.2.1 bt437.1 bt437.2.1 bt437.2.2.1 bt437.2.2.2.1 bt437.2.2.2.2.1 bt437.2.2.2.2.2.1 bt437.2.2.2.2.2.2.1 bt437.2.2.2.2.2.2.2.1 bt437.2.2.2.2.2.2.2.2.1 bt437.2.2.2.2.2.2.2.2.2.1 bt437.2.2.2.2.2.2.2.2.2.2.1 bt437.2.2.2.2.2.2.2.2.2.2.2.1) else (laws_FnCut.j0 k bt408.2.2.2.2.2.2 bt418.2.2.2.2.2.2.2.2.2.2.2.2 bt437.2.2.2.2.2.2.2.2.2.2.2.2 true bt418.1 bt418.2.1 bt418.2.2.1 bt418.2.2.2.1 bt418.2.2.2.2.1 bt418.2.2.2.2.2.1 bt418.2.2.2.2.2.2.1 bt418.2.2.2.2.2.2.2.1 bt418.2.2.2.2.2.2.2.2.1 bt418.2.2.2.2.2.2.2.2.2.1 bt418.2.2.2.2.2.2.2.2.2.2.1 bt418.2.2.2.2.2.2.2.2.2.2.2.1 bt437.1 bt437.2.1 bt437.2.2.1 bt437.2.2.2.1 bt437.2.2.2.2.1 bt437.2.2.2.2.2.1 bt437.2.2.2.2.2.2.1 bt437.2.2.2.2.2.2.2.1 bt437.2.2.2.2.2.2.2.2.1 bt437.2.2.2.2.2.2.2.2.2.1 bt437.2.2.2.2.2.2.2.2.2.2.1 bt437.2.2.2.2.2.2.2.2.2.2.2.1))) else (laws_FnCut.j0 k bt408.2.2.2.2.2.2 bt418.2.2.2.2.2.2.2.2.2.2.2.2 bt437.2.2.2.2.2.2.2.2.2.2.2.2 true bt418.1 bt418.2.1 bt418.2.2.1 bt418.2.2.2.1 bt418.2.2.2.2.1 bt418.2.2.2.2.2.1 bt418.2.2.2.2.2.2.1 bt418.2.2.2.2.2.2.2.1 bt418.2.2.2.2.2.2.2.2.1 bt418.2.2.2.2.2.2.2.2.2.1 bt418.2.2.2.2.2.2.2.2.2.2.1 bt418.2.2.2.2.2.2.2.2.2.2.2.1 bt437.1 bt437.2.1 bt437.2.2.1 bt437.2.2.2.1 bt437.2.2.2.2.1 bt437.2.2.2.2.2.1 bt437.2.2.2.2.2.2.1 bt437.2.2.2.2.2.2.2.1 bt437.2.2.2.2.2.2.2.2.1 bt437.2.2.2.2.2.2.2.2.2.1 bt437.2.2.2.2.2.2.2.2.2.2.1 bt437.2.2.2.2.2.2.2.2.2.2.2.1)))))))
set_option maxHeartbeats 40000000 in
set_option maxRecDepth 100000 in
theorem laws_FnCut.calls [ErrA] (k : Nat) (A0 : Option Addr) (c0 : Nat) (l0 : List Int) (r : Bool) (w : World) (hE : ErrOk [0] w) (hr0 : Kd.C (Kd.int .u8) w A0 l0.length l0) (hc0 : l0.length ≤ c0) (h : laws_FnCut.f k l0 = some r) :
  Calls Tryd.prog 3 #[.slice A0 l0.length c0] w fun e w' => e = .returned (.bool r) ∧ Below w.heap.size w w' := by
 have HE := Aside0.mk hE
 clear hE
 have hu25 := Tryd.underlying25
 have HR0 := Aside0.mk hr0
 have HC0 := Aside0.mk hc0
 clear hr0 hc0
 have HB := Aside0.mk (Below.refl w.heap.size w)
 have H : (if (l0.length : Int) > 1048576 then (some true) else ((spec_DrawBatchCut.f k l0).bind fun bt408 => ((impl_BatchCut.f k bt408.1 bt408.2.1 bt408.2.2.1 bt408.2.2.2.1 bt408.2.2.2.2.1 bt408.2.2.2.2.2.1 bt408.2.2.2.2.2.2).bind fun bt418 => ((spec_BatchCut.f k bt408.1 bt408.2.1 bt408.2.2.1 bt408.2.2.2.1 bt408.2.2.2.2.1 bt408.2.2.2.2.2.1 bt408.2.2.2.2.2.2).bind fun bt437 => (if (bt418.2.2.2.2.2.2.2.2.2.2.2.2 != bt437.2.2.2.2.2.2.2.2.2.2.2.2) = true then (laws_FnCut.j0 k bt408.2.2.2.2.2.2 bt418.2.2.2.2.2.2.2.2.2.2.2.2 bt437.2.2.2.2.2.2.2.2.2.2.2.2 true bt418.1 bt418.2.1 bt418.2.2.1 bt418.2.2.2.1 bt418.2.2.2.2.1 bt418.2.2.2.2.2.1 bt418.2.2.2.2.2.2.1 bt418.2.2.2.2.2.2.2.1 bt418.2.2.2.2.2.2.2.2.1 bt418.2.2.2.2.2.2.2.2.2.1 bt418.2.2.2.2.2.2.2.2.2.2.1 bt418.2.2.2.2.2.2.2.2.2.2.2.1 bt437.1 bt437.2.1 bt437.2.2.1 bt437.2.2.2.1 bt437.2.2.2.2.1 bt437.2.2.2.2.2.1 bt437.2.2.2.2.2.2.1 bt437.2.2.2.2.2.2.2.1 bt437.2.2.2.2.2.2.2.2.1 bt437.2.2.2.2.2.2.2.2.2.1 bt437.2.2.2.2.2.2.2.2.2.2.1 bt437.2.2.2.2.2.2.2.2.2.2.2.1) else ((laws_sameBatch.f k bt418.1 bt418.2.1 bt418.2.2.1 bt418.2.2.2.1 bt418.2.2.2.2.1 bt418.2.2.2.2.2.1 bt437.1 bt437.2.1 bt437.2.2.1 bt437.2.2.2.1 bt437.2.2.2.2.1 bt437.2.2.2.2.2.1).bind fun t456 => (if t456 = true then ((laws_sameBatch.f k bt418.2.2.2.2.2.2.1 bt418.2.2.2.2.2.2.2.1 bt418.2.2.2.2.2.2.2.2.1 bt418.2.2.2.2.2.2.2.2.2.1 bt418.2.2.2.2.2.2.2.2.2.2.1 bt418.2.2.2.2.2.2.2.2.2.2.2.1 bt437.2.2.2.2.2.2.1 bt437.2.2.2.2.2.2.2.1 bt437.2.2.2.2.2.2.2.2.1 bt437.2.2.2.2.2.2.2.2.2.1 bt437.2.2.2.2.2.2.2.2.2.2.1 bt437.2.2.2.2.2.2.2.2.2.2.2.1).bind fun t457 => (if t457 = true then (laws_FnCut.j0 k bt408.2.2.2.2.2.2 bt418.2.2.2.2.2.2.2.2.2.2.2.2 bt437.2.2.2.2.2.2.2.2.2.2.2.2 (!bt418.2.2.2.2.2.2.2.2.2.2.2.2) bt418.1 bt418.2.1 bt418.2.2.1 bt418.2.2.2.1 bt418.2.2.2.2.1 bt418.2.2.2.2.2.1 bt418.2.2.2.2.2.2.1 bt418.2.2.2.2.2.2.2.1 bt418.2.2.2.2.2.2.2.2.1 bt418.2.2.2.2.2.2.2.2.2.1 bt418.2.2.2.2.2.2.2.2.2.2.1 bt418.2.2.2.2.2.2.2.2.2.2.2.1 bt437.1 bt437.2.1 bt437.2.2.1 bt437.2.2.2.1 bt437.2.2.2.2.1 bt437.2.2.2.2.2.1 bt437.2.2.2.2.2.2.1 bt437.2.2.2.2.2.2.2.1 bt437.2.2.2.2.2.2.2.2.1 bt437.2.2.2.2.2.2.2.2.2.1 bt437.2.2.2.2.2.2.2.2.2.2.1 bt437.2.2.2.2.2.2.2.2.2.2.2.1) else (laws_FnCut.j0 k bt408.2.2.2.2.2.2 bt418.2.2.2.2.2.2.2.2.2.2.2.2 bt437.2.2.2.2.2.2.2.2.2.2.2.2 true bt418.1 bt418.2.1 bt418.2.2.1 bt418.2.2.2.1 bt418.2.2.2.2.1 bt418.2.2.2.2.2.1 bt418.2.2.2.2.2.2.1 bt418.2.2.2.2.2.2.2.1 bt418.2.2.2.2.2.2.2.2.1 bt418.2.2.2.2.2.2.2.2.2.1 bt418.2.2.2.2.2.2.2.2.2.2.1 bt418.2.2.2.2.2.2.2.2.2.2.2.1 bt437.1 bt437.2.1 bt437.2.2.1 bt437.2.2.2.1 bt437.2.2.2.2.1 bt437.2.2.2.2.2.1 bt437.2.2.2.2.2.2.1 bt437.2.2.2.2.2.2.2.1 bt437.2.2.2.2.2.2.2.2.1 bt437.2.2.2.2.2.2.2.2.2.1 bt437.2.2.2.2.2.2.2.2.2.2.1 bt437.2.2.2.2.2.2.2.2.2.2.2.1))) else (laws_FnCut.j0 k bt408.2.2.2.2.2.2 bt418.2.2.2.2.2.2.2.2.2.2.2.2 bt437.2.2.2.2.2.2.2.2.2.2.2.2 true bt418.1 bt418.2.1 bt418.2.2.1 bt418.2.2.2.1 bt418.2.2.2.2.1 bt418.2.2.2.2.2.1 bt418.2.2.2.2.2.2.1 bt418.2.2.2.2.2.2.2.1 bt418.2.2.2.2.2.2.2.2.1 bt418.2.2.2.2.2.2.2.2.2.1 bt418.2.2.2.2.2.2.2.2.2.2.1 bt418.2.2.2.2.2.2.2.2.2.2.2.1 bt437.1 bt437.2.1 bt437.2.2.1 bt437.2.2.2.1 bt437.2.2.2.2.1 bt437.2.2.2.2.2.1 bt437.2.2.2.2.2.2.1 bt437.2.2.2.2.2.2.2.1 bt437.2.2.2.2.2.2.2.2.1 bt437.2.2.2.2.2.2.2.2.2.1 bt437.2.2.2.2.2.2.2.2.2.2.1 bt437.2.2.2.2.2.2.2.2.2.2.2.1)))))))) = some r := h
 clear h
 by_cases c2 : (l0.length : Int) > 1048576
 ·rw [if_pos c2] at H
  have c2b0 : decide (1048576 < (l0.length : Int)) = true := decide_eq_true c2
  have c2b1 : decide (1048576 < l0.length) = true := decide_eq_true (by omega)
  clear c2
  obtain rfl := Option.some.inj H
  go_enter Tryd.func3, Tryd.ntmps3
  go_wp2
  all_goals go_ret
  all_goals exact ⟨by first | rfl | (simp [errW_none, errW_some] <;> rfl) | (simp [*, errW_none, errW_some] <;> rfl), zb⟩
 ·rw [if_neg c2] at H
  have c2b0 : decide (1048576 < (l0.length : Int)) = false := decide_eq_false c2
  have c2b1 : decide (1048576 < l0.length) = false := decide_eq_false (by omega)
  clear c2
  replace H := tbe H
  obtain ⟨⟨t408, t409, t410, t411, t412, t413, t416⟩, A3, H⟩ := H
  dsimp only at H
  replace H := tbe H
  obtain ⟨⟨t418, t419, t420, t421, t422, t423, t426, t427, t428, t429, t430, t431, t434⟩, A4, H⟩ := H
  dsimp only at H
  replace H := tbe H
  obtain ⟨⟨t437, t438, t439, t440, t441, t442, t445, t446, t447, t448, t449, t450, t453⟩, A5, H⟩ := H
  dsimp only at H
  have HC6 := Aside0.mk H
  clear H
  go_enter Tryd.func3, Tryd.ntmps3
  go_upto_region 6 with (first | ((with_reducible refine gate_callee (f := 8) rfl ?_); refine goesL_ (some 22) rfl rfl Tryd.func8 (by kernel_rfl) rfl #[.slice A0 l0.length c0] rfl tq ?_; (with_reducible refine (spec_DrawBatchCut.calls k _ _ l0 t408 t409 t410 t411 t412 t413 t416 _ ?side1 ?side2 A3.out).mono ?_); (case side1 => exact tC HR0.out); (case side2 => exact HC0.out); rintro e w7 ⟨v414, rfl, ho0, hb⟩; have u_v414 := tsv Tryd.prog v414 ho0; refine ⟨_, rfl, ?_⟩; have HO415 := Aside0.mk (Kd.N_lower (Kd.N_mono (ok' := fun k_ => True) ho0 (fun k_ hk_ => trivial)) (below_size zb)); replace HB := tBs HB hb; (try clear hb); (try clear hb2); (try clear hk); (try clear hi); (try clear ho0)) | ((with_reducible refine gate_dst (N := 3) rfl ?_); refine box_event ?hg (N := 3) ?hd (cs := #[.bool false, .bool false, .int .i64 0, .int .i64 0, .int .i64 0, .slice none 0 0]) (t := 25) ?hr ?_; (case hd => rfl); (case hg => rfl); (case hr => first | (go_simp; done) | (go_simp; rfl)); intro gb417 hg w8 hbox hb; replace HO415 := tNB HO415 hg hb; have BK417 := Aside0.mk (hbox); have GW417 := tge HB hg; have GE417 := tge HB hg; replace HB := tBs HB hb; clear hb hbox hg; obtain ⟨hcz9_0, hcz9_1, hcz9_2, hcz9_3, hcz9_4, hcz9_5, hfz9_0, hfz9_1, hfz9_2, hfz9_3, hfz9_4, hfz9_5⟩ := cells6 BK417.out; obtain ⟨Ao10, co10, eo10⟩ := Kd.N_slice HO415.out; subst eo10) | ((with_reducible refine gate_callee (f := 9) rfl ?_); refine goesL_ (some 28) rfl rfl Tryd.func9 (by kernel_rfl) rfl #[.agg #[.bool t408, .bool t409, .int .i64 t410, .int .i64 t411, .int .i64 t412, .slice Ao10 t413.length co10], .int .i64 t416] rfl tq ?_; (with_reducible refine (impl_BatchCut.calls (hE := ?sideE) k t408 t409 t410 t411 t412 _ _ t413 t416 t418 t419 t420 t421 t422 t423 t426 t427 t428 t429 t430 t431 t434 _ ?side1 ?side2 A4.out).mono ?_); (case sideE => exact ErrOk.below (HE.out.sub (by decide)) zb); (case side1 => refine (Kd.N_reads' (e := 41) (base := w.heap.size) (ok := fun k_ => (True ∧ k_ ≠ gb417)) (n := t413.length) (c := co10) ?_).2.2; exact (tN HO415.out)); (case side2 => exact (Kd.N_reads' HO415.out).2.1); rintro e w11 ⟨v424, v432, rfl, ho0, ho1, hb⟩; have u_v424 := tsv Tryd.prog v424 ho0; have u_v432 := tsv Tryd.prog v432 ho1; refine ⟨_, rfl, ?_⟩; have HO425 := Aside0.mk (Kd.N_lower (Kd.N_mono (ok' := fun k_ => some k_ ≠ (v432 : Value).ownBlock ∧ some k_ ≠ (.slice Ao10 t413.length co10 : Value).ownBlock ∧ k_ ≠ gb417) (Kd.S_N (Kd.S_bound ho0)) (fun k_ hk_ => ⟨hk_.1, (tfr HO415 k_ hk_.2.1), (tfB BK417 k_ hk_.2.1)⟩)) (below_size zb)); have HO433 := Aside0.mk (Kd.N_lower (Kd.N_mono (ok' := fun k_ => some k_ ≠ (v424 : Value).ownBlock ∧ some k_ ≠ (.slice Ao10 t413.length co10 : Value).ownBlock ∧ k_ ≠ gb417) (Kd.S_N (Kd.S_bound ho1)) (fun k_ hk_ => ⟨hk_.1, (tfr HO415 k_ hk_.2.1), (tfB BK417 k_ hk_.2.1)⟩)) (below_size zb)); replace HO415 := Aside0.mk (Kd.N_mono (Kd.N_told (Kd.N_told (Kd.N_old (tN HO415.out) hb) (tb ho0)) (tb ho1)) (fun _ h_ => h_.1)); replace BK417 := tBp (o' := .cells #[.bool t408, .bool t409, .int .i64 t410, .int .i64 t411, .int .i64 t412, .slice Ao10 t413.length co10] 25 (0, 0)) BK417 hb; replace HB := tBs HB hb; (try clear hb); (try clear hb2); (try clear hk); (try clear hi); (try clear ho0); (try clear ho1)) | ((with_reducible refine gate_dst (N := 5) rfl ?_); refine box_event ?hg (N := 5) ?hd (cs := #[.bool false, .bool false, .int .i64 0, .int .i64 0, .int .i64 0, .slice none 0 0]) (t := 25) ?hr ?_; (case hd => rfl); (case hg => rfl); (case hr => first | (go_simp; done) | (go_simp; rfl)); intro gb435 hg w12 hbox hb; replace HO415 := tNB HO415 hg hb; replace HO425 := tNB HO425 hg hb; replace HO433 := tNB HO433 hg hb; have BK435 := Aside0.mk (hbox); have GW435 := tge HB hg; have GE435 := tge HB hg; replace HB := tBs HB hb; have NB417_435 := tlt BK417 hg; have NB435_417 := tgt BK417 hg; replace BK417 := tBb BK417 hb; clear hb hbox hg) | ((with_reducible refine gate_dst (N := 6) rfl ?_); refine box_event ?hg (N := 6) ?hd (cs := #[.bool false, .bool false, .int .i64 0, .int .i64 0, .int .i64 0, .slice none 0 0]) (t := 25) ?hr ?_; (case hd => rfl); (case hg => rfl); (case hr => first | (go_simp; done) | (go_simp; rfl)); intro gb436 hg w13 hbox hb; replace HO415 := tNB HO415 hg hb; replace HO425 := tNB HO425 hg hb; replace HO433 := tNB HO433 hg hb; have BK436 := Aside0.mk (hbox); have GW436 := tge HB hg; have GE436 := tge HB hg; replace HB := tBs HB hb; have NB417_436 := tlt BK417 hg; have NB436_417 := tgt BK417 hg; replace BK417 := tBb BK417 hb; have NB435_436 := tlt BK435 hg; have NB436_435 := tgt BK435 hg; replace BK435 := tBb BK435 hb; clear hb hbox hg; have hnb14 := NB435_417.out; have hnc14 := NB417_435.out; have hnb15 := NB435_436.out; have hnc15 := NB436_435.out; obtain ⟨hcz16_0, hcz16_1, hcz16_2, hcz16_3, hcz16_4, hcz16_5, hfz16_0, hfz16_1, hfz16_2, hfz16_3, hfz16_4, hfz16_5⟩ := cells6 BK435.out; obtain ⟨Ao17, co17, eo17⟩ := Kd.N_slice HO425.out; subst eo17; have hnb18 := NB436_417.out; have hnc18 := NB417_436.out; obtain ⟨hcz19_0, hcz19_1, hcz19_2, hcz19_3, hcz19_4, hcz19_5, hfz19_0, hfz19_1, hfz19_2, hfz19_3, hfz19_4, hfz19_5⟩ := cells6 BK436.out; obtain ⟨Ao20, co20, eo20⟩ := Kd.N_slice HO433.out; subst eo20; obtain ⟨hcz21_0, hcz21_1, hcz21_2, hcz21_3, hcz21_4, hcz21_5, hfz21_0, hfz21_1, hfz21_2, hfz21_3, hfz21_4, hfz21_5⟩ := cells6 BK417.out) | ((with_reducible refine gate_callee (f := 10) rfl ?_); refine goesL_ (some 35) rfl rfl Tryd.func10 (by kernel_rfl) rfl #[.agg #[.bool t408, .bool t409, .int .i64 t410, .int .i64 t411, .int .i64 t412, .slice Ao10 t413.length co10], .int .i64 t416] rfl tq ?_; (with_reducible refine (spec_BatchCut.calls k t408 t409 t410 t411 t412 _ _ t413 t416 t437 t438 t439 t440 t441 t442 t445 t446 t447 t448 t449 t450 t453 _ ?side1 ?side2 A5.out).mono ?_); (case side1 => refine (Kd.N_reads' (e := 41) (base := w.heap.size) (ok := fun k_ => (((((True ∧ k_ ≠ gb417) ∧ some k_ ≠ (.slice Ao17 t423.length co17 : Value).ownBlock) ∧ some k_ ≠ (.slice Ao20 t431.length co20 : Value).ownBlock) ∧ k_ ≠ gb435) ∧ k_ ≠ gb436)) (n := t413.length) (c := co10) ?_).2.2; exact (by (with_reducible repeat (first | apply Kd.N_alloc | apply Kd.N_drewN | apply Kd.N_drew)); exact (Kd.N_mono (Kd.N_mono (Kd.N_far (p := ⟨gb436, 5, none⟩) (Kd.N_far (p := ⟨gb436, 4, none⟩) (Kd.N_far (p := ⟨gb436, 3, none⟩) (Kd.N_far (p := ⟨gb436, 2, none⟩) (Kd.N_far (p := ⟨gb436, 1, none⟩) (Kd.N_far (p := ⟨gb436, 0, none⟩) (Kd.N_far (p := ⟨gb435, 5, none⟩) (Kd.N_far (p := ⟨gb435, 4, none⟩) (Kd.N_far (p := ⟨gb435, 3, none⟩) (Kd.N_far (p := ⟨gb435, 2, none⟩) (Kd.N_far (p := ⟨gb435, 1, none⟩) (Kd.N_far (p := ⟨gb435, 0, none⟩) (Kd.N_mono (Kd.N_mono HO415.out (fun k_ hk => (⟨hk, hk.1.2⟩ : _ ∧ k_ ≠ gb435))) (fun k_ hk => (⟨hk, hk.1.2⟩ : _ ∧ k_ ≠ gb436))) (fun _ hk => hk.1.2) (.bool t418)) (fun _ hk => hk.1.2) (.bool t419)) (fun _ hk => hk.1.2) (.int .i64 t420)) (fun _ hk => hk.1.2) (.int .i64 t421)) (fun _ hk => hk.1.2) (.int .i64 t422)) (fun _ hk => hk.1.2) (.slice Ao17 t423.length co17)) (fun _ hk => hk.2) (.bool t426)) (fun _ hk => hk.2) (.bool t427)) (fun _ hk => hk.2) (.int .i64 t428)) (fun _ hk => hk.2) (.int .i64 t429)) (fun _ hk => hk.2) (.int .i64 t430)) (fun _ hk => hk.2) (.slice Ao20 t431.length co20)) (fun _ h_ => h_.1)) (fun _ h_ => h_.1)))); (case side2 => exact (Kd.N_reads' HO415.out).2.1); rintro e w22 ⟨v443, v451, rfl, ho0, ho1, hb⟩; have u_v443 := tsv Tryd.prog v443 ho0; have u_v451 := tsv Tryd.prog v451 ho1; refine ⟨_, rfl, ?_⟩; have HO444 := Aside0.mk (Kd.N_lower (Kd.N_mono (ok' := fun k_ => some k_ ≠ (v451 : Value).ownBlock ∧ some k_ ≠ (.slice Ao10 t413.length co10 : Value).ownBlock ∧ some k_ ≠ (.slice Ao17 t423.length co17 : Value).ownBlock ∧ some k_ ≠ (.slice Ao20 t431.length co20 : Value).ownBlock ∧ k_ ≠ gb417 ∧ k_ ≠ gb435 ∧ k_ ≠ gb436) (Kd.S_N (Kd.S_bound ho0)) (fun k_ hk_ => ⟨hk_.1, (Kd.fresh' (Kd.N_lt (by (with_reducible repeat (first | apply Kd.N_alloc | apply Kd.N_drewN | apply Kd.N_drew)); exact (Kd.N_mono (Kd.N_mono (Kd.N_far (p := ⟨gb436, 5, none⟩) (Kd.N_far (p := ⟨gb436, 4, none⟩) (Kd.N_far (p := ⟨gb436, 3, none⟩) (Kd.N_far (p := ⟨gb436, 2, none⟩) (Kd.N_far (p := ⟨gb436, 1, none⟩) (Kd.N_far (p := ⟨gb436, 0, none⟩) (Kd.N_far (p := ⟨gb435, 5, none⟩) (Kd.N_far (p := ⟨gb435, 4, none⟩) (Kd.N_far (p := ⟨gb435, 3, none⟩) (Kd.N_far (p := ⟨gb435, 2, none⟩) (Kd.N_far (p := ⟨gb435, 1, none⟩) (Kd.N_far (p := ⟨gb435, 0, none⟩) (Kd.N_mono (Kd.N_mono HO415.out (fun k_ hk => (⟨hk, hk.1.2⟩ : _ ∧ k_ ≠ gb435))) (fun k_ hk => (⟨hk, hk.1.2⟩ : _ ∧ k_ ≠ gb436))) (fun _ hk => hk.1.2) (.bool t418)) (fun _ hk => hk.1.2) (.bool t419)) (fun _ hk => hk.1.2) (.int .i64 t420)) (fun _ hk => hk.1.2) (.int .i64 t421)) (fun _ hk => hk.1.2) (.int .i64 t422)) (fun _ hk => hk.1.2) (.slice Ao17 t423.length co17)) (fun _ hk => hk.2) (.bool t426)) (fun _ hk => hk.2) (.bool t427)) (fun _ hk => hk.2) (.int .i64 t428)) (fun _ hk => hk.2) (.int .i64 t429)) (fun _ hk => hk.2) (.int .i64 t430)) (fun _ hk => hk.2) (.slice Ao20 t431.length co20)) (fun _ h_ => h_.1)) (fun _ h_ => h_.1)))) k_ hk_.2.1), (Kd.fresh' (Kd.N_lt (by (with_reducible repeat (first | apply Kd.N_alloc | apply Kd.N_drewN | apply Kd.N_drew)); exact (Kd.N_mono (Kd.N_mono (Kd.N_far (p := ⟨gb436, 5, none⟩) (Kd.N_far (p := ⟨gb436, 4, none⟩) (Kd.N_far (p := ⟨gb436, 3, none⟩) (Kd.N_far (p := ⟨gb436, 2, none⟩) (Kd.N_far (p := ⟨gb436, 1, none⟩) (Kd.N_far (p := ⟨gb436, 0, none⟩) (Kd.N_far (p := ⟨gb435, 5, none⟩) (Kd.N_far (p := ⟨gb435, 4, none⟩) (Kd.N_far (p := ⟨gb435, 3, none⟩) (Kd.N_far (p := ⟨gb435, 2, none⟩) (Kd.N_far (p := ⟨gb435, 1, none⟩) (Kd.N_far (p := ⟨gb435, 0, none⟩) (Kd.N_mono (Kd.N_mono HO425.out (fun k_ hk => (⟨hk, hk.1.2⟩ : _ ∧ k_ ≠ gb435))) (fun k_ hk => (⟨hk, hk.1.2⟩ : _ ∧ k_ ≠ gb436))) (fun _ hk => hk.1.2) (.bool t418)) (fun _ hk => hk.1.2) (.bool t419)) (fun _ hk => hk.1.2) (.int .i64 t420)) (fun _ hk => hk.1.2) (.int .i64 t421)) (fun _ hk => hk.1.2) (.int .i64 t422)) (fun _ hk => hk.1.2) (.slice Ao17 t423.length co17)) (fun _ hk => hk.2) (.bool t426)) (fun _ hk => hk.2) (.bool t427)) (fun _ hk => hk.2) (.int .i64 t428)) (fun _ hk => hk.2) (.int .i64 t429)) (fun _ hk => hk.2) (.int .i64 t430)) (fun _ hk => hk.2) (.slice Ao20 t431.length co20)) (fun _ h_ => h_.1)) (fun _ h_ => h_.1)))) k_ hk_.2.1), (Kd.fresh' (Kd.N_lt (by (with_reducible repeat (first | apply Kd.N_alloc | apply Kd.N_drewN | apply Kd.N_drew)); exact (Kd.N_mono (Kd.N_mono (Kd.N_far (p := ⟨gb436, 5, none⟩) (Kd.N_far (p := ⟨gb436, 4, none⟩) (Kd.N_far (p := ⟨gb436, 3, none⟩) (Kd.N_far (p := ⟨gb436, 2, none⟩) (Kd.N_far (p := ⟨gb436, 1, none⟩) (Kd.N_far (p := ⟨gb436, 0, none⟩) (Kd.N_far (p := ⟨gb435, 5, none⟩) (Kd.N_far (p := ⟨gb435, 4, none⟩) (Kd.N_far (p := ⟨gb435, 3, none⟩) (Kd.N_far (p := ⟨gb435, 2, none⟩) (Kd.N_far (p := ⟨gb435, 1, none⟩) (Kd.N_far (p := ⟨gb435, 0, none⟩) (Kd.N_mono (Kd.N_mono HO433.out (fun k_ hk => (⟨hk, hk.1.2⟩ : _ ∧ k_ ≠ gb435))) (fun k_ hk => (⟨hk, hk.1.2⟩ : _ ∧ k_ ≠ gb436))) (fun _ hk => hk.1.2) (.bool t418)) (fun _ hk => hk.1.2) (.bool t419)) (fun _ hk => hk.1.2) (.int .i64 t420)) (fun _ hk => hk.1.2) (.int .i64 t421)) (fun _ hk => hk.1.2) (.int .i64 t422)) (fun _ hk => hk.1.2) (.slice Ao17 t423.length co17)) (fun _ hk => hk.2) (.bool t426)) (fun _ hk => hk.2) (.bool t427)) (fun _ hk => hk.2) (.int .i64 t428)) (fun _ hk => hk.2) (.int .i64 t429)) (fun _ hk => hk.2) (.int .i64 t430)) (fun _ hk => hk.2) (.slice Ao20 t431.length co20)) (fun _ h_ => h_.1)) (fun _ h_ => h_.1)))) k_ hk_.2.1), (tfB BK417 k_ hk_.2.1), (tfB BK435 k_ hk_.2.1), (tfB BK436 k_ hk_.2.1)⟩)) (below_size zb)); have HO452 := Aside0.mk (Kd.N_lower (Kd.N_mono (ok' := fun k_ => some k_ ≠ (v443 : Value).ownBlock ∧ some k_ ≠ (.slice Ao10 t413.length co10 : Value).ownBlock ∧ some k_ ≠ (.slice Ao17 t423.length co17 : Value).ownBlock ∧ some k_ ≠ (.slice Ao20 t431.length co20 : Value).ownBlock ∧ k_ ≠ gb417 ∧ k_ ≠ gb435 ∧ k_ ≠ gb436) (Kd.S_N (Kd.S_bound ho1)) (fun k_ hk_ => ⟨hk_.1, (Kd.fresh' (Kd.N_lt (by (with_reducible repeat (first | apply Kd.N_alloc | apply Kd.N_drewN | apply Kd.N_drew)); exact (Kd.N_mono (Kd.N_mono (Kd.N_far (p := ⟨gb436, 5, none⟩) (Kd.N_far (p := ⟨gb436, 4, none⟩) (Kd.N_far (p := ⟨gb436, 3, none⟩) (Kd.N_far (p := ⟨gb436, 2, none⟩) (Kd.N_far (p := ⟨gb436, 1, none⟩) (Kd.N_far (p := ⟨gb436, 0, none⟩) (Kd.N_far (p := ⟨gb435, 5, none⟩) (Kd.N_far (p := ⟨gb435, 4, none⟩) (Kd.N_far (p := ⟨gb435, 3, none⟩) (Kd.N_far (p := ⟨gb435, 2, none⟩) (Kd.N_far (p := ⟨gb435, 1, none⟩) (Kd.N_far (p := ⟨gb435, 0, none⟩) (Kd.N_mono (Kd.N_mono HO415.out (fun k_ hk => (⟨hk, hk.1.2⟩ : _ ∧ k_ ≠ gb435))) (fun k_ hk => (⟨hk, hk.1.2⟩ : _ ∧ k_ ≠ gb436))) (fun _ hk => hk.1.2) (.bool t418)) (fun _ hk => hk.1.2) (.bool t419)) (fun _ hk => hk.1.2) (.int .i64 t420)) (fun _ hk => hk.1.2) (.int .i64 t421)) (fun _ hk => hk.1.2) (.int .i64 t422)) (fun _ hk => hk.1.2) (.slice Ao17 t423.length co17)) (fun _ hk => hk.2) (.bool t426)) (fun _ hk => hk.2) (.bool t427)) (fun _ hk => hk.2) (.int .i64 t428)) (fun _ hk => hk.2) (.int .i64 t429)) (fun _ hk => hk.2) (.int .i64 t430)) (fun _ hk => hk.2) (.slice Ao20 t431.length co20)) (fun _ h_ => h_.1)) (fun _ h_ => h_.1)))) k_ hk_.2.1), (Kd.fresh' (Kd.N_lt (by (with_reducible repeat (first | apply Kd.N_alloc | apply Kd.N_drewN | apply Kd.N_drew)); exact (Kd.N_mono (Kd.N_mono (Kd.N_far (p := ⟨gb436, 5, none⟩) (Kd.N_far (p := ⟨gb436, 4, none⟩) (Kd.N_far (p := ⟨gb436, 3, none⟩) (Kd.N_far (p := ⟨gb436, 2, none⟩) (Kd.N_far (p := ⟨gb436, 1, none⟩) (Kd.N_far (p := ⟨gb436, 0, none⟩) (Kd.N_far (p := ⟨gb435, 5, none⟩) (Kd.N_far (p := ⟨gb435, 4, none⟩) (Kd.N_far (p := ⟨gb435, 3, none⟩) (Kd.N_far (p := ⟨gb435, 2, none⟩) (Kd.N_far (p := ⟨gb435, 1, none⟩) (Kd.N_far (p := ⟨gb435, 0, none⟩) (Kd.N_mono (Kd.N_mono HO425.out (fun k_ hk => (⟨hk, hk.1.2⟩ : _ ∧ k_ ≠ gb435))) (fun k_ hk => (⟨hk, hk.1.2⟩ : _ ∧ k_ ≠ gb436))) (fun _ hk => hk.1.2) (.bool t418)) (fun _ hk => hk.1.2) (.bool t419)) (fun _ hk => hk.1.2) (.int .i64 t420)) (fun _ hk => hk.1.2) (.int .i64 t421)) (fun _ hk => hk.1.2) (.int .i64 t422)) (fun _ hk => hk.1.2) (.slice Ao17 t423.length co17)) (fun _ hk => hk.2) (.bool t426)) (fun _ hk => hk.2) (.bool t427)) (fun _ hk => hk.2) (.int .i64 t428)) (fun _ hk => hk.2) (.int .i64 t429)) (fun _ hk => hk.2) (.int .i64 t430)) (fun _ hk => hk.2) (.slice Ao20 t431.length co20)) (fun _ h_ => h_.1)) (fun _ h_ => h_.1)))) k_ hk_.2.1), (Kd.fresh' (Kd.N_lt (by (with_reducible repeat (first | apply Kd.N_alloc | apply Kd.N_drewN | apply Kd.N_drew)); exact (Kd.N_mono (Kd.N_mono (Kd.N_far (p := ⟨gb436, 5, none⟩) (Kd.N_far (p := ⟨gb436, 4, none⟩) (Kd.N_far (p := ⟨gb436, 3, none⟩) (Kd.N_far (p := ⟨gb436, 2, none⟩) (Kd.N_far (p := ⟨gb436, 1, none⟩) (Kd.N_far (p := ⟨gb436, 0, none⟩) (Kd.N_far (p := ⟨gb435, 5, none⟩) (Kd.N_far (p := ⟨gb435, 4, none⟩) (Kd.N_far (p := ⟨gb435, 3, none⟩) (Kd.N_far (p := ⟨gb435, 2, none⟩) (Kd.N_far (p := ⟨gb435, 1, none⟩) (Kd.N_far (p := ⟨gb435, 0, none⟩) (Kd.N_mono (Kd.N_mono HO433.out (fun k_ hk => (⟨hk, hk.1.2⟩ : _ ∧ k_ ≠ gb435))) (fun k_ hk => (⟨hk, hk.1.2⟩ : _ ∧ k_ ≠ gb436))) (fun _ hk => hk.1.2) (.bool t418)) (fun _ hk => hk.1.2) (.bool t419)) (fun _ hk => hk.1.2) (.int .i64 t420)) (fun _ hk => hk.1.2) (.int .i64 t421)) (fun _ hk => hk.1.2) (.int .i64 t422)) (fun _ hk => hk.1.2) (.slice Ao17 t423.length co17)) (fun _ hk => hk.2) (.bool t426)) (fun _ hk => hk.2) (.bool t427)) (fun _ hk => hk.2) (.int .i64 t428)) (fun _ hk => hk.2) (.int .i64 t429)) (fun _ hk => hk.2) (.int .i64 t430)) (fun _ hk => hk.2) (.slice Ao20 t431.length co20)) (fun _ h_ => h_.1)) (fun _ h_ => h_.1)))) k_ hk_.2.1), (tfB BK417 k_ hk_.2.1), (tfB BK435 k_ hk_.2.1), (tfB BK436 k_ hk_.2.1)⟩)) (below_size zb)); replace HO415 := Aside0.mk (Kd.N_mono (Kd.N_told (Kd.N_told (Kd.N_old (by (with_reducible repeat (first | apply Kd.N_alloc | apply Kd.N_drewN | apply Kd.N_drew)); exact (Kd.N_mono (Kd.N_mono (Kd.N_far (p := ⟨gb436, 5, none⟩) (Kd.N_far (p := ⟨gb436, 4, none⟩) (Kd.N_far (p := ⟨gb436, 3, none⟩) (Kd.N_far (p := ⟨gb436, 2, none⟩) (Kd.N_far (p := ⟨gb436, 1, none⟩) (Kd.N_far (p := ⟨gb436, 0, none⟩) (Kd.N_far (p := ⟨gb435, 5, none⟩) (Kd.N_far (p := ⟨gb435, 4, none⟩) (Kd.N_far (p := ⟨gb435, 3, none⟩) (Kd.N_far (p := ⟨gb435, 2, none⟩) (Kd.N_far (p := ⟨gb435, 1, none⟩) (Kd.N_far (p := ⟨gb435, 0, none⟩) (Kd.N_mono (Kd.N_mono HO415.out (fun k_ hk => (⟨hk, hk.1.2⟩ : _ ∧ k_ ≠ gb435))) (fun k_ hk => (⟨hk, hk.1.2⟩ : _ ∧ k_ ≠ gb436))) (fun _ hk => hk.1.2) (.bool t418)) (fun _ hk => hk.1.2) (.bool t419)) (fun _ hk => hk.1.2) (.int .i64 t420)) (fun _ hk => hk.1.2) (.int .i64 t421)) (fun _ hk => hk.1.2) (.int .i64 t422)) (fun _ hk => hk.1.2) (.slice Ao17 t423.length co17)) (fun _ hk => hk.2) (.bool t426)) (fun _ hk => hk.2) (.bool t427)) (fun _ hk => hk.2) (.int .i64 t428)) (fun _ hk => hk.2) (.int .i64 t429)) (fun _ hk => hk.2) (.int .i64 t430)) (fun _ hk => hk.2) (.slice Ao20 t431.length co20)) (fun _ h_ => h_.1)) (fun _ h_ => h_.1))) hb) (tb ho0)) (tb ho1)) (fun _ h_ => h_.1)); replace HO425 := Aside0.mk (Kd.N_mono (Kd.N_told (Kd.N_told (Kd.N_old (by (with_reducible repeat (first | apply Kd.N_alloc | apply Kd.N_drewN | apply Kd.N_drew)); exact (Kd.N_mono (Kd.N_mono (Kd.N_far (p := ⟨gb436, 5, none⟩) (Kd.N_far (p := ⟨gb436, 4, none⟩) (Kd.N_far (p := ⟨gb436, 3, none⟩) (Kd.N_far (p := ⟨gb436, 2, none⟩) (Kd.N_far (p := ⟨gb436, 1, none⟩) (Kd.N_far (p := ⟨gb436, 0, none⟩) (Kd.N_far (p := ⟨gb435, 5, none⟩) (Kd.N_far (p := ⟨gb435, 4, none⟩) (Kd.N_far (p := ⟨gb435, 3, none⟩) (Kd.N_far (p := ⟨gb435, 2, none⟩) (Kd.N_far (p := ⟨gb435, 1, none⟩) (Kd.N_far (p := ⟨gb435, 0, none⟩) (Kd.N_mono (Kd.N_mono HO425.out (fun k_ hk => (⟨hk, hk.1.2⟩ : _ ∧ k_ ≠ gb435))) (fun k_ hk => (⟨hk, hk.1.2⟩ : _ ∧ k_ ≠ gb436))) (fun _ hk => hk.1.2) (.bool t418)) (fun _ hk => hk.1.2) (.bool t419)) (fun _ hk => hk.1.2) (.int .i64 t420)) (fun _ hk => hk.1.2) (.int .i64 t421)) (fun _ hk => hk.1.2) (.int .i64 t422)) (fun _ hk => hk.1.2) (.slice Ao17 t423.length co17)) (fun _ hk => hk.2) (.bool t426)) (fun _ hk => hk.2) (.bool t427)) (fun _ hk => hk.2) (.int .i64 t428)) (fun _ hk => hk.2) (.int .i64 t429)) (fun _ hk => hk.2) (.int .i64 t430)) (fun _ hk => hk.2) (.slice Ao20 t431.length co20)) (fun _ h_ => h_.1)) (fun _ h_ => h_.1))) hb) (tb ho0)) (tb ho1)) (fun _ h_ => h_.1)); replace HO433 := Aside0.mk (Kd.N_mono (Kd.N_told (Kd.N_told (Kd.N_old (by (with_reducible repeat (first | apply Kd.N_alloc | apply Kd.N_drewN | apply Kd.N_drew)); exact (Kd.N_mono (Kd.N_mono (Kd.N_far (p := ⟨gb436, 5, none⟩) (Kd.N_far (p := ⟨gb436, 4, none⟩) (Kd.N_far (p := ⟨gb436, 3, none⟩) (Kd.N_far (p := ⟨gb436, 2, none⟩) (Kd.N_far (p := ⟨gb436, 1, none⟩) (Kd.N_far (p := ⟨gb436, 0, none⟩) (Kd.N_far (p := ⟨gb435, 5, none⟩) (Kd.N_far (p := ⟨gb435, 4, none⟩) (Kd.N_far (p := ⟨gb435, 3, none⟩) (Kd.N_far (p := ⟨gb435, 2, none⟩) (Kd.N_far (p := ⟨gb435, 1, none⟩) (Kd.N_far (p := ⟨gb435, 0, none⟩) (Kd.N_mono (Kd.N_mono HO433.out (fun k_ hk => (⟨hk, hk.1.2⟩ : _ ∧ k_ ≠ gb435))) (fun k_ hk => (⟨hk, hk.1.2⟩ : _ ∧ k_ ≠ gb436))) (fun _ hk => hk.1.2) (.bool t418)) (fun _ hk => hk.1.2) (.bool t419)) (fun _ hk => hk.1.2) (.int .i64 t420)) (fun _ hk => hk.1.2) (.int .i64 t421)) (fun _ hk => hk.1.2) (.int .i64 t422)) (fun _ hk => hk.1.2) (.slice Ao17 t423.length co17)) (fun _ hk => hk.2) (.bool t426)) (fun _ hk => hk.2) (.bool t427)) (fun _ hk => hk.2) (.int .i64 t428)) (fun _ hk => hk.2) (.int .i64 t429)) (fun _ hk => hk.2) (.int .i64 t430)) (fun _ hk => hk.2) (.slice Ao20 t431.length co20)) (fun _ h_ => h_.1)) (fun _ h_ => h_.1))) hb) (tb ho0)) (tb ho1)) (fun _ h_ => h_.1)); replace BK417 := tBb BK417 hb; replace BK435 := tBp (o' := .cells #[.bool t418, .bool t419, .int .i64 t420, .int .i64 t421, .int .i64 t422, .slice Ao17 t423.length co17] 25 (0, 0)) BK435 hb; replace BK436 := tBp (o' := .cells #[.bool t426, .bool t427, .int .i64 t428, .int .i64 t429, .int .i64 t430, .slice Ao20 t431.length co20] 25 (0, 0)) BK436 hb; replace HB := tBs HB hb; (try clear hb); (try clear hb2); (try clear hk); (try clear hi); (try clear ho0); (try clear ho1)) | ((with_reducible refine gate_dst (N := 8) rfl ?_); refine box_event ?hg (N := 8) ?hd (cs := #[.bool false, .bool false, .int .i64 0, .int .i64 0, .int .i64 0, .slice none 0 0]) (t := 25) ?hr ?_; (case hd => rfl); (case hg => rfl); (case hr => first | (go_simp; done) | (go_simp; rfl)); intro gb454 hg w23 hbox hb; replace HO415 := tNB HO415 hg hb; replace HO425 := tNB HO425 hg hb; replace HO433 := tNB HO433 hg hb; replace HO444 := tNB HO444 hg hb; replace HO452 := tNB HO452 hg hb; have BK454 := Aside0.mk (hbox); have GW454 := tge HB hg; have GE454 := tge HB hg; replace HB := tBs HB hb; have NB417_454 := tlt BK417 hg; have NB454_417 := tgt BK417 hg; replace BK417 := tBb BK417 hb; have NB435_454 := tlt BK435 hg; have NB454_435 := tgt BK435 hg; replace BK435 := tBb BK435 hb; have NB436_454 := tlt BK436 hg; have NB454_436 := tgt BK436 hg; replace BK436 := tBb BK436 hb; clear hb hbox hg) | ((with_reducible refine gate_dst (N := 9) rfl ?_); refine box_event ?hg (N := 9) ?hd (cs := #[.bool false, .bool false, .int .i64 0, .int .i64 0, .int .i64 0, .slice none 0 0]) (t := 25) ?hr ?_; (case hd => rfl); (case hg => rfl); (case hr => first | (go_simp; done) | (go_simp; rfl)); intro gb455 hg w24 hbox hb; replace HO415 := tNB HO415 hg hb; replace HO425 := tNB HO425 hg hb; replace HO433 := tNB HO433 hg hb; replace HO444 := tNB HO444 hg hb; replace HO452 := tNB HO452 hg hb; have BK455 := Aside0.mk (hbox); have GW455 := tge HB hg; have GE455 := tge HB hg; replace HB := tBs HB hb; have NB417_455 := tlt BK417 hg; have NB455_417 := tgt BK417 hg; replace BK417 := tBb BK417 hb; have NB435_455 := tlt BK435 hg; have NB455_435 := tgt BK435 hg; replace BK435 := tBb BK435 hb; have NB436_455 := tlt BK436 hg; have NB455_436 := tgt BK436 hg; replace BK436 := tBb BK436 hb; have NB454_455 := tlt BK454 hg; have NB455_454 := tgt BK454 hg; replace BK454 := tBb BK454 hb; clear hb hbox hg; have hnb25 := NB454_417.out; have hnc25 := NB417_454.out; have hnb26 := NB454_435.out; have hnc26 := NB435_454.out; have hnb27 := NB454_436.out; have hnc27 := NB436_454.out; have hnb28 := NB454_455.out; have hnc28 := NB455_454.out; obtain ⟨hcz29_0, hcz29_1, hcz29_2, hcz29_3, hcz29_4, hcz29_5, hfz29_0, hfz29_1, hfz29_2, hfz29_3, hfz29_4, hfz29_5⟩ := cells6 BK454.out; obtain ⟨Ao30, co30, eo30⟩ := Kd.N_slice HO444.out; subst eo30; have hnb31 := NB455_417.out; have hnc31 := NB417_455.out; have hnb32 := NB455_435.out; have hnc32 := NB435_455.out; have hnb33 := NB455_436.out; have hnc33 := NB436_455.out; obtain ⟨hcz34_0, hcz34_1, hcz34_2, hcz34_3, hcz34_4, hcz34_5, hfz34_0, hfz34_1, hfz34_2, hfz34_3, hfz34_4, hfz34_5⟩ := cells6 BK455.out; obtain ⟨Ao35, co35, eo35⟩ := Kd.N_slice HO452.out; subst eo35))
  (try simp only [Act.put, List.setIfInBounds_toArray, List.set_cons_zero, List.set_cons_succ])
  go_cut [57] (fun v57 wc => ∃ (kq : Nat) (x57_5 : Bool), v57 = .bool x57_5 ∧ Aside0 (laws_FnCut.j0 kq t416 t434 t453 x57_5 t418 t419 t420 t421 t422 t423 t426 t427 t428 t429 t430 t431 t437 t438 t439 t440 t441 t442 t445 t446 t447 t448 t449 t450 = some r) ∧ Aside0 (kq ≤ k) ∧ Aside0 (Kd.N k41 41 wc w.heap.size (fun k_ => some k_ ≠ ((.slice Ao17 t423.length co17) : Value).ownBlock ∧ some k_ ≠ ((.slice Ao20 t431.length co20) : Value).ownBlock ∧ some k_ ≠ ((.slice Ao30 t442.length co30) : Value).ownBlock ∧ some k_ ≠ ((.slice Ao35 t450.length co35) : Value).ownBlock ∧ k_ ≠ gb417 ∧ k_ ≠ gb435 ∧ k_ ≠ gb436 ∧ k_ ≠ gb454 ∧ k_ ≠ gb455) (.slice Ao10 t413.length co10) t413) ∧ Aside0 (Kd.N k41 41 wc w.heap.size (fun k_ => some k_ ≠ ((.slice Ao10 t413.length co10) : Value).ownBlock ∧ some k_ ≠ ((.slice Ao20 t431.length co20) : Value).ownBlock ∧ some k_ ≠ ((.slice Ao30 t442.length co30) : Value).ownBlock ∧ some k_ ≠ ((.slice Ao35 t450.length co35) : Value).ownBlock ∧ k_ ≠ gb417 ∧ k_ ≠ gb435 ∧ k_ ≠ gb436 ∧ k_ ≠ gb454 ∧ k_ ≠ gb455) (.slice Ao17 t423.length co17) t423) ∧ Aside0 (Kd.N k41 41 wc w.heap.size (fun k_ => some k_ ≠ ((.slice Ao10 t413.length co10) : Value).ownBlock ∧ some k_ ≠ ((.slice Ao17 t423.length co17) : Value).ownBlock ∧ some k_ ≠ ((.slice Ao30 t442.length co30) : Value).ownBlock ∧ some k_ ≠ ((.slice Ao35 t450.length co35) : Value).ownBlock ∧ k_ ≠ gb417 ∧ k_ ≠ gb435 ∧ k_ ≠ gb436 ∧ k_ ≠ gb454 ∧ k_ ≠ gb455) (.slice Ao20 t431.length co20) t431) ∧ Aside0 (Kd.N k41 41 wc w.heap.size (fun k_ => some k_ ≠ ((.slice Ao10 t413.length co10) : Value).ownBlock ∧ some k_ ≠ ((.slice Ao17 t423.length co17) : Value).ownBlock ∧ some k_ ≠ ((.slice Ao20 t431.length co20) : Value).ownBlock ∧ some k_ ≠ ((.slice Ao35 t450.length co35) : Value).ownBlock ∧ k_ ≠ gb417 ∧ k_ ≠ gb435 ∧ k_ ≠ gb436 ∧ k_ ≠ gb454 ∧ k_ ≠ gb455) (.slice Ao30 t442.length co30) t442) ∧ Aside0 (Kd.N k41 41 wc w.heap.size (fun k_ => some k_ ≠ ((.slice Ao10 t413.length co10) : Value).ownBlock ∧ some k_ ≠ ((.slice Ao17 t423.length co17) : Value).ownBlock ∧ some k_ ≠ ((.slice Ao20 t431.length co20) : Value).ownBlock ∧ some k_ ≠ ((.slice Ao30 t442.length co30) : Value).ownBlock ∧ k_ ≠ gb417 ∧ k_ ≠ gb435 ∧ k_ ≠ gb436 ∧ k_ ≠ gb454 ∧ k_ ≠ gb455) (.slice Ao35 t450.length co35) t450) ∧ Aside0 (wc.heap[gb417]? = some (.cells #[.bool t408, .bool t409, .int .i64 t410, .int .i64 t411, .int .i64 t412, (.slice Ao10 t413.length co10)] 25 (0, 0))) ∧ Aside0 (wc.heap[gb435]? = some (.cells #[.bool t418, .bool t419, .int .i64 t420, .int .i64 t421, .int .i64 t422, (.slice Ao17 t423.length co17)] 25 (0, 0))) ∧ Aside0 (wc.heap[gb436]? = some (.cells #[.bool t426, .bool t427, .int .i64 t428, .int .i64 t429, .int .i64 t430, (.slice Ao20 t431.length co20)] 25 (0, 0))) ∧ Aside0 (wc.heap[gb454]? = some (.cells #[.bool t437, .bool t438, .int .i64 t439, .int .i64 t440, .int .i64 t441, (.slice Ao30 t442.length co30)] 25 (0, 0))) ∧ Aside0 (wc.heap[gb455]? = some (.cells #[.bool t445, .bool t446, .int .i64 t447, .int .i64 t448, .int .i64 t449, (.slice Ao35 t450.length co35)] 25 (0, 0))) ∧ Aside0 (Below w.heap.size w wc))
  case first =>
   have H := HC6.out
   clear HC6
   by_cases c36 : (t434 != t453) = true
   ·rw [if_pos c36] at H
    have c36b0 : (t434 != t453) = true := c36
    (try (have c36b1 : decide (t434 = t453) = false := by simpa using c36))
    (try (have c36b2 : (t434 == t453) = false := by simpa using c36))
    (try (have c36b3 : ¬ (t434 = t453) := by simpa using c36))
    clear c36
    (first | rw [c36b0] | (simp only [i64_w, i32_w]; rw [c36b0]) | skip)
    have H' := Aside0.mk H
    clear H
    go_wp2
    go_meet
    case rel => exact ⟨_, (true), tr, H', ⟨by first | omega | exact Nat.le_refl _⟩, ⟨by (with_reducible repeat (first | apply Kd.N_alloc | apply Kd.N_drewN | apply Kd.N_drew)); exact Kd.N_mono (Kd.N_far (p := ⟨gb455, 5, none⟩) (Kd.N_far (p := ⟨gb455, 4, none⟩) (Kd.N_far (p := ⟨gb455, 3, none⟩) (Kd.N_far (p := ⟨gb455, 2, none⟩) (Kd.N_far (p := ⟨gb455, 1, none⟩) (Kd.N_far (p := ⟨gb455, 0, none⟩) (Kd.N_far (p := ⟨gb454, 5, none⟩) (Kd.N_far (p := ⟨gb454, 4, none⟩) (Kd.N_far (p := ⟨gb454, 3, none⟩) (Kd.N_far (p := ⟨gb454, 2, none⟩) (Kd.N_far (p := ⟨gb454, 1, none⟩) (Kd.N_far (p := ⟨gb454, 0, none⟩) (Kd.N_mono (Kd.N_mono HO415.out (fun k_ hk => (⟨hk, hk.1.2⟩ : _ ∧ k_ ≠ gb454))) (fun k_ hk => (⟨hk, hk.1.2⟩ : _ ∧ k_ ≠ gb455))) (fun _ hk => hk.1.2) (.bool t437)) (fun _ hk => hk.1.2) (.bool t438)) (fun _ hk => hk.1.2) (.int .i64 t439)) (fun _ hk => hk.1.2) (.int .i64 t440)) (fun _ hk => hk.1.2) (.int .i64 t441)) (fun _ hk => hk.1.2) (.slice Ao30 t442.length co30)) (fun _ hk => hk.2) (.bool t445)) (fun _ hk => hk.2) (.bool t446)) (fun _ hk => hk.2) (.int .i64 t447)) (fun _ hk => hk.2) (.int .i64 t448)) (fun _ hk => hk.2) (.int .i64 t449)) (fun _ hk => hk.2) (.slice Ao35 t450.length co35)) (fun _ hk => ⟨hk.1.1.1.1.1.1.1.1.1.2, ⟨hk.1.1.1.1.1.1.1.1.2, ⟨hk.1.1.1.1.1.2, ⟨hk.1.1.1.1.2, ⟨hk.1.1.1.1.1.1.1.1.1.1.2, ⟨hk.1.1.1.1.1.1.1.2, ⟨hk.1.1.1.1.1.1.2, ⟨hk.1.1.1.2, hk.1.1.2⟩⟩⟩⟩⟩⟩⟩⟩)⟩, ⟨by (with_reducible repeat (first | apply Kd.N_alloc | apply Kd.N_drewN | apply Kd.N_drew)); exact Kd.N_mono (Kd.N_far (p := ⟨gb455, 5, none⟩) (Kd.N_far (p := ⟨gb455, 4, none⟩) (Kd.N_far (p := ⟨gb455, 3, none⟩) (Kd.N_far (p := ⟨gb455, 2, none⟩) (Kd.N_far (p := ⟨gb455, 1, none⟩) (Kd.N_far (p := ⟨gb455, 0, none⟩) (Kd.N_far (p := ⟨gb454, 5, none⟩) (Kd.N_far (p := ⟨gb454, 4, none⟩) (Kd.N_far (p := ⟨gb454, 3, none⟩) (Kd.N_far (p := ⟨gb454, 2, none⟩) (Kd.N_far (p := ⟨gb454, 1, none⟩) (Kd.N_far (p := ⟨gb454, 0, none⟩) (Kd.N_mono (Kd.N_mono HO425.out (fun k_ hk => (⟨hk, hk.1.2⟩ : _ ∧ k_ ≠ gb454))) (fun k_ hk => (⟨hk, hk.1.2⟩ : _ ∧ k_ ≠ gb455))) (fun _ hk => hk.1.2) (.bool t437)) (fun _ hk => hk.1.2) (.bool t438)) (fun _ hk => hk.1.2) (.int .i64 t439)) (fun _ hk => hk.1.2) (.int .i64 t440)) (fun _ hk => hk.1.2) (.int .i64 t441)) (fun _ hk => hk.1.2) (.slice Ao30 t442.length co30)) (fun _ hk => hk.2) (.bool t445)) (fun _ hk => hk.2) (.bool t446)) (fun _ hk => hk.2) (.int .i64 t447)) (fun _ hk => hk.2) (.int .i64 t448)) (fun _ hk => hk.2) (.int .i64 t449)) (fun _ hk => hk.2) (.slice Ao35 t450.length co35)) (fun _ hk => ⟨hk.1.1.1.1.1.1.1.1.2.1, ⟨hk.1.1.1.1.1.1.1.1.1, ⟨hk.1.1.1.1.1.2, ⟨hk.1.1.1.1.2, ⟨hk.1.1.1.1.1.1.1.1.2.2, ⟨hk.1.1.1.1.1.1.1.2, ⟨hk.1.1.1.1.1.1.2, ⟨hk.1.1.1.2, hk.1.1.2⟩⟩⟩⟩⟩⟩⟩⟩)⟩, ⟨by (with_reducible repeat (first | apply Kd.N_alloc | apply Kd.N_drewN | apply Kd.N_drew)); exact Kd.N_mono (Kd.N_far (p := ⟨gb455, 5, none⟩) (Kd.N_far (p := ⟨gb455, 4, none⟩) (Kd.N_far (p := ⟨gb455, 3, none⟩) (Kd.N_far (p := ⟨gb455, 2, none⟩) (Kd.N_far (p := ⟨gb455, 1, none⟩) (Kd.N_far (p := ⟨gb455, 0, none⟩) (Kd.N_far (p := ⟨gb454, 5, none⟩) (Kd.N_far (p := ⟨gb454, 4, none⟩) (Kd.N_far (p := ⟨gb454, 3, none⟩) (Kd.N_far (p := ⟨gb454, 2, none⟩) (Kd.N_far (p := ⟨gb454, 1, none⟩) (Kd.N_far (p := ⟨gb454, 0, none⟩) (Kd.N_mono (Kd.N_mono HO433.out (fun k_ hk => (⟨hk, hk.1.2⟩ : _ ∧ k_ ≠ gb454))) (fun k_ hk => (⟨hk, hk.1.2⟩ : _ ∧ k_ ≠ gb455))) (fun _ hk => hk.1.2) (.bool t437)) (fun _ hk => hk.1.2) (.bool t438)) (fun _ hk => hk.1.2) (.int .i64 t439)) (fun _ hk => hk.1.2) (.int .i64 t440)) (fun _ hk => hk.1.2) (.int .i64 t441)) (fun _ hk => hk.1.2) (.slice Ao30 t442.length co30)) (fun _ hk => hk.2) (.bool t445)) (fun _ hk => hk.2) (.bool t446)) (fun _ hk => hk.2) (.int .i64 t447)) (fun _ hk => hk.2) (.int .i64 t448)) (fun _ hk => hk.2) (.int .i64 t449)) (fun _ hk => hk.2) (.slice Ao35 t450.length co35)) (fun _ hk => ⟨hk.1.1.1.1.1.1.1.1.2.1, ⟨hk.1.1.1.1.1.1.1.1.1, ⟨hk.1.1.1.1.1.2, ⟨hk.1.1.1.1.2, ⟨hk.1.1.1.1.1.1.1.1.2.2, ⟨hk.1.1.1.1.1.1.1.2, ⟨hk.1.1.1.1.1.1.2, ⟨hk.1.1.1.2, hk.1.1.2⟩⟩⟩⟩⟩⟩⟩⟩)⟩, ⟨by (with_reducible repeat (first | apply Kd.N_alloc | apply Kd.N_drewN | apply Kd.N_drew)); exact Kd.N_mono (Kd.N_far (p := ⟨gb455, 5, none⟩) (Kd.N_far (p := ⟨gb455, 4, none⟩) (Kd.N_far (p := ⟨gb455, 3, none⟩) (Kd.N_far (p := ⟨gb455, 2, none⟩) (Kd.N_far (p := ⟨gb455, 1, none⟩) (Kd.N_far (p := ⟨gb455, 0, none⟩) (Kd.N_far (p := ⟨gb454, 5, none⟩) (Kd.N_far (p := ⟨gb454, 4, none⟩) (Kd.N_far (p := ⟨gb454, 3, none⟩) (Kd.N_far (p := ⟨gb454, 2, none⟩) (Kd.N_far (p := ⟨gb454, 1, none⟩) (Kd.N_far (p := ⟨gb454, 0, none⟩) (Kd.N_mono (Kd.N_mono HO444.out (fun k_ hk => (⟨hk, hk.1.2⟩ : _ ∧ k_ ≠ gb454))) (fun k_ hk => (⟨hk, hk.1.2⟩ : _ ∧ k_ ≠ gb455))) (fun _ hk => hk.1.2) (.bool t437)) (fun _ hk => hk.1.2) (.bool t438)) (fun _ hk => hk.1.2) (.int .i64 t439)) (fun _ hk => hk.1.2) (.int .i64 t440)) (fun _ hk => hk.1.2) (.int .i64 t441)) (fun _ hk => hk.1.2) (.slice Ao30 t442.length co30)) (fun _ hk => hk.2) (.bool t445)) (fun _ hk => hk.2) (.bool t446)) (fun _ hk => hk.2) (.int .i64 t447)) (fun _ hk => hk.2) (.int .i64 t448)) (fun _ hk => hk.2) (.int .i64 t449)) (fun _ hk => hk.2) (.slice Ao35 t450.length co35)) (fun _ hk => ⟨hk.1.1.1.1.2.1, ⟨hk.1.1.1.1.2.2.1, ⟨hk.1.1.1.1.2.2.2.1, ⟨hk.1.1.1.1.1, ⟨hk.1.1.1.1.2.2.2.2.1, ⟨hk.1.1.1.1.2.2.2.2.2.1, ⟨hk.1.1.1.1.2.2.2.2.2.2, ⟨hk.1.1.1.2, hk.1.1.2⟩⟩⟩⟩⟩⟩⟩⟩)⟩, ⟨by (with_reducible repeat (first | apply Kd.N_alloc | apply Kd.N_drewN | apply Kd.N_drew)); exact Kd.N_mono (Kd.N_far (p := ⟨gb455, 5, none⟩) (Kd.N_far (p := ⟨gb455, 4, none⟩) (Kd.N_far (p := ⟨gb455, 3, none⟩) (Kd.N_far (p := ⟨gb455, 2, none⟩) (Kd.N_far (p := ⟨gb455, 1, none⟩) (Kd.N_far (p := ⟨gb455, 0, none⟩) (Kd.N_far (p := ⟨gb454, 5, none⟩) (Kd.N_far (p := ⟨gb454, 4, none⟩) (Kd.N_far (p := ⟨gb454, 3, none⟩) (Kd.N_far (p := ⟨gb454, 2, none⟩) (Kd.N_far (p := ⟨gb454, 1, none⟩) (Kd.N_far (p := ⟨gb454, 0, none⟩) (Kd.N_mono (Kd.N_mono HO452.out (fun k_ hk => (⟨hk, hk.1.2⟩ : _ ∧ k_ ≠ gb454))) (fun k_ hk => (⟨hk, hk.1.2⟩ : _ ∧ k_ ≠ gb455))) (fun _ hk => hk.1.2) (.bool t437)) (fun _ hk => hk.1.2) (.bool t438)) (fun _ hk => hk.1.2) (.int .i64 t439)) (fun _ hk => hk.1.2) (.int .i64 t440)) (fun _ hk => hk.1.2) (.int .i64 t441)) (fun _ hk => hk.1.2) (.slice Ao30 t442.length co30)) (fun _ hk => hk.2) (.bool t445)) (fun _ hk => hk.2) (.bool t446)) (fun _ hk => hk.2) (.int .i64 t447)) (fun _ hk => hk.2) (.int .i64 t448)) (fun _ hk => hk.2) (.int .i64 t449)) (fun _ hk => hk.2) (.slice Ao35 t450.length co35)) (fun _ hk => ⟨hk.1.1.1.1.2.1, ⟨hk.1.1.1.1.2.2.1, ⟨hk.1.1.1.1.2.2.2.1, ⟨hk.1.1.1.1.1, ⟨hk.1.1.1.1.2.2.2.2.1, ⟨hk.1.1.1.1.2.2.2.2.2.1, ⟨hk.1.1.1.1.2.2.2.2.2.2, ⟨hk.1.1.1.2, hk.1.1.2⟩⟩⟩⟩⟩⟩⟩⟩)⟩, ⟨tH BK417.out⟩, ⟨tH BK435.out⟩, ⟨tH BK436.out⟩, ⟨tP BK454.out⟩, ⟨tP BK455.out⟩, ⟨zb⟩⟩
   ·rw [if_neg c36] at H
    have c36b0 : (t434 != t453) = false := by simpa using c36
    (try (have c36b1 : decide (t434 = t453) = true := by simpa using c36))
    (try (have c36b2 : (t434 == t453) = true := by simpa using c36))
    clear c36
    (first | rw [c36b0] | (simp only [i64_w, i32_w]; rw [c36b0]) | skip)
    replace H := tbe H
    obtain ⟨t456, A37, H⟩ := H
    by_cases c38 : t456 = true
    ·subst c38
     rw [if_pos rfl] at H
     replace H := tbe H
     obtain ⟨t457, A39, H⟩ := H
     by_cases c40 : t457 = true
     ·subst c40
      rw [if_pos rfl] at H
      have H' := Aside0.mk H
      clear H
      have hnb41 := NB435_417.out
      have hnc41 := NB417_435.out
      have hnb42 := NB435_436.out
      have hnc42 := NB436_435.out
      have hnb43 := NB435_454.out
      have hnc43 := NB454_435.out
      have hnb44 := NB435_455.out
      have hnc44 := NB455_435.out
      obtain ⟨hcz45_0, hcz45_1, hcz45_2, hcz45_3, hcz45_4, hcz45_5, hfz45_0, hfz45_1, hfz45_2, hfz45_3, hfz45_4, hfz45_5⟩ := cells6 BK435.out
      have hnb46 := NB454_417.out
      have hnc46 := NB417_454.out
      have hnb47 := NB454_436.out
      have hnc47 := NB436_454.out
      have hnb48 := NB454_455.out
      have hnc48 := NB455_454.out
      obtain ⟨hcz49_0, hcz49_1, hcz49_2, hcz49_3, hcz49_4, hcz49_5, hfz49_0, hfz49_1, hfz49_2, hfz49_3, hfz49_4, hfz49_5⟩ := cells6 BK454.out
      go_wp2_with (first | (go_at_call 11; (with_reducible refine (laws_sameBatch.calls k t418 t419 t420 t421 t422 _ _ t423 t437 t438 t439 t440 t441 _ _ t442 true _ ?side1 ?side2 ?side3 ?side4 A37.out).mono ?_); (case side1 => refine (Kd.N_reads' (e := 41) (base := w.heap.size) (ok := fun k_ => (((((((some k_ ≠ (.slice Ao20 t431.length co20 : Value).ownBlock ∧ (some k_ ≠ (.slice Ao10 t413.length co10 : Value).ownBlock ∧ k_ ≠ gb417)) ∧ k_ ≠ gb435) ∧ k_ ≠ gb436) ∧ some k_ ≠ (.slice Ao30 t442.length co30 : Value).ownBlock) ∧ some k_ ≠ (.slice Ao35 t450.length co35 : Value).ownBlock) ∧ k_ ≠ gb454) ∧ k_ ≠ gb455)) (n := t423.length) (c := co17) ?_).2.2; exact (by (with_reducible repeat (first | apply Kd.N_alloc | apply Kd.N_drewN | apply Kd.N_drew)); exact (Kd.N_mono (Kd.N_mono (Kd.N_far (p := ⟨gb455, 5, none⟩) (Kd.N_far (p := ⟨gb455, 4, none⟩) (Kd.N_far (p := ⟨gb455, 3, none⟩) (Kd.N_far (p := ⟨gb455, 2, none⟩) (Kd.N_far (p := ⟨gb455, 1, none⟩) (Kd.N_far (p := ⟨gb455, 0, none⟩) (Kd.N_far (p := ⟨gb454, 5, none⟩) (Kd.N_far (p := ⟨gb454, 4, none⟩) (Kd.N_far (p := ⟨gb454, 3, none⟩) (Kd.N_far (p := ⟨gb454, 2, none⟩) (Kd.N_far (p := ⟨gb454, 1, none⟩) (Kd.N_far (p := ⟨gb454, 0, none⟩) (Kd.N_mono (Kd.N_mono HO425.out (fun k_ hk => (⟨hk, hk.1.2⟩ : _ ∧ k_ ≠ gb454))) (fun k_ hk => (⟨hk, hk.1.2⟩ : _ ∧ k_ ≠ gb455))) (fun _ hk => hk.1.2) (.bool t437)) (fun _ hk => hk.1.2) (.bool t438)) (fun _ hk => hk.1.2) (.int .i64 t439)) (fun _ hk => hk.1.2) (.int .i64 t440)) (fun _ hk => hk.1.2) (.int .i64 t441)) (fun _ hk => hk.1.2) (.slice Ao30 t442.length co30)) (fun _ hk => hk.2) (.bool t445)) (fun _ hk => hk.2) (.bool t446)) (fun _ hk => hk.2) (.int .i64 t447)) (fun _ hk => hk.2) (.int .i64 t448)) (fun _ hk => hk.2) (.int .i64 t449)) (fun _ hk => hk.2) (.slice Ao35 t450.length co35)) (fun _ h_ => h_.1)) (fun _ h_ => h_.1)))); (case side2 => exact (Kd.N_reads' HO425.out).2.1); (case side3 => refine (Kd.N_reads' (e := 41) (base := w.heap.size) (ok := fun k_ => (((some k_ ≠ (.slice Ao35 t450.length co35 : Value).ownBlock ∧ (some k_ ≠ (.slice Ao10 t413.length co10 : Value).ownBlock ∧ (some k_ ≠ (.slice Ao17 t423.length co17 : Value).ownBlock ∧ (some k_ ≠ (.slice Ao20 t431.length co20 : Value).ownBlock ∧ (k_ ≠ gb417 ∧ (k_ ≠ gb435 ∧ k_ ≠ gb436)))))) ∧ k_ ≠ gb454) ∧ k_ ≠ gb455)) (n := t442.length) (c := co30) ?_).2.2; exact (by (with_reducible repeat (first | apply Kd.N_alloc | apply Kd.N_drewN | apply Kd.N_drew)); exact (Kd.N_mono (Kd.N_mono (Kd.N_far (p := ⟨gb455, 5, none⟩) (Kd.N_far (p := ⟨gb455, 4, none⟩) (Kd.N_far (p := ⟨gb455, 3, none⟩) (Kd.N_far (p := ⟨gb455, 2, none⟩) (Kd.N_far (p := ⟨gb455, 1, none⟩) (Kd.N_far (p := ⟨gb455, 0, none⟩) (Kd.N_far (p := ⟨gb454, 5, none⟩) (Kd.N_far (p := ⟨gb454, 4, none⟩) (Kd.N_far (p := ⟨gb454, 3, none⟩) (Kd.N_far (p := ⟨gb454, 2, none⟩) (Kd.N_far (p := ⟨gb454, 1, none⟩) (Kd.N_far (p := ⟨gb454, 0, none⟩) (Kd.N_mono (Kd.N_mono HO444.out (fun k_ hk => (⟨hk, hk.1.2⟩ : _ ∧ k_ ≠ gb454))) (fun k_ hk => (⟨hk, hk.1.2⟩ : _ ∧ k_ ≠ gb455))) (fun _ hk => hk.1.2) (.bool t437)) (fun _ hk => hk.1.2) (.bool t438)) (fun _ hk => hk.1.2) (.int .i64 t439)) (fun _ hk => hk.1.2) (.int .i64 t440)) (fun _ hk => hk.1.2) (.int .i64 t441)) (fun _ hk => hk.1.2) (.slice Ao30 t442.length co30)) (fun _ hk => hk.2) (.bool t445)) (fun _ hk => hk.2) (.bool t446)) (fun _ hk => hk.2) (.int .i64 t447)) (fun _ hk => hk.2) (.int .i64 t448)) (fun _ hk => hk.2) (.int .i64 t449)) (fun _ hk => hk.2) (.slice Ao35 t450.length co35)) (fun _ h_ => h_.1)) (fun _ h_ => h_.1)))); (case side4 => exact (Kd.N_reads' HO444.out).2.1); rintro e w50 ⟨rfl, hb⟩; replace HO415 := Aside0.mk (Kd.N_below (by (with_reducible repeat (first | apply Kd.N_alloc | apply Kd.N_drewN | apply Kd.N_drew)); exact (Kd.N_mono (Kd.N_mono (Kd.N_far (p := ⟨gb455, 5, none⟩) (Kd.N_far (p := ⟨gb455, 4, none⟩) (Kd.N_far (p := ⟨gb455, 3, none⟩) (Kd.N_far (p := ⟨gb455, 2, none⟩) (Kd.N_far (p := ⟨gb455, 1, none⟩) (Kd.N_far (p := ⟨gb455, 0, none⟩) (Kd.N_far (p := ⟨gb454, 5, none⟩) (Kd.N_far (p := ⟨gb454, 4, none⟩) (Kd.N_far (p := ⟨gb454, 3, none⟩) (Kd.N_far (p := ⟨gb454, 2, none⟩) (Kd.N_far (p := ⟨gb454, 1, none⟩) (Kd.N_far (p := ⟨gb454, 0, none⟩) (Kd.N_mono (Kd.N_mono HO415.out (fun k_ hk => (⟨hk, hk.1.2⟩ : _ ∧ k_ ≠ gb454))) (fun k_ hk => (⟨hk, hk.1.2⟩ : _ ∧ k_ ≠ gb455))) (fun _ hk => hk.1.2) (.bool t437)) (fun _ hk => hk.1.2) (.bool t438)) (fun _ hk => hk.1.2) (.int .i64 t439)) (fun _ hk => hk.1.2) (.int .i64 t440)) (fun _ hk => hk.1.2) (.int .i64 t441)) (fun _ hk => hk.1.2) (.slice Ao30 t442.length co30)) (fun _ hk => hk.2) (.bool t445)) (fun _ hk => hk.2) (.bool t446)) (fun _ hk => hk.2) (.int .i64 t447)) (fun _ hk => hk.2) (.int .i64 t448)) (fun _ hk => hk.2) (.int .i64 t449)) (fun _ hk => hk.2) (.slice Ao35 t450.length co35)) (fun _ h_ => h_.1)) (fun _ h_ => h_.1))) hb); replace HO425 := Aside0.mk (Kd.N_below (by (with_reducible repeat (first | apply Kd.N_alloc | apply Kd.N_drewN | apply Kd.N_drew)); exact (Kd.N_mono (Kd.N_mono (Kd.N_far (p := ⟨gb455, 5, none⟩) (Kd.N_far (p := ⟨gb455, 4, none⟩) (Kd.N_far (p := ⟨gb455, 3, none⟩) (Kd.N_far (p := ⟨gb455, 2, none⟩) (Kd.N_far (p := ⟨gb455, 1, none⟩) (Kd.N_far (p := ⟨gb455, 0, none⟩) (Kd.N_far (p := ⟨gb454, 5, none⟩) (Kd.N_far (p := ⟨gb454, 4, none⟩) (Kd.N_far (p := ⟨gb454, 3, none⟩) (Kd.N_far (p := ⟨gb454, 2, none⟩) (Kd.N_far (p := ⟨gb454, 1, none⟩) (Kd.N_far (p := ⟨gb454, 0, none⟩) (Kd.N_mono (Kd.N_mono HO425.out (fun k_ hk => (⟨hk, hk.1.2⟩ : _ ∧ k_ ≠ gb454))) (fun k_ hk => (⟨hk, hk.1.2⟩ : _ ∧ k_ ≠ gb455))) (fun _ hk => hk.1.2) (.bool t437)) (fun _ hk => hk.1.2) (.bool t438)) (fun _ hk => hk.1.2) (.int .i64 t439)) (fun _ hk => hk.1.2) (.int .i64 t440)) (fun _ hk => hk.1.2) (.int .i64 t441)) (fun _ hk => hk.1.2) (.slice Ao30 t442.length co30)) (fun _ hk => hk.2) (.bool t445)) (fun _ hk => hk.2) (.bool t446)) (fun _ hk => hk.2) (.int .i64 t447)) (fun _ hk => hk.2) (.int .i64 t448)) (fun _ hk => hk.2) (.int .i64 t449)) (fun _ hk => hk.2) (.slice Ao35 t450.length co35)) (fun _ h_ => h_.1)) (fun _ h_ => h_.1))) hb); replace HO433 := Aside0.mk (Kd.N_below (by (with_reducible repeat (first | apply Kd.N_alloc | apply Kd.N_drewN | apply Kd.N_drew)); exact (Kd.N_mono (Kd.N_mono (Kd.N_far (p := ⟨gb455, 5, none⟩) (Kd.N_far (p := ⟨gb455, 4, none⟩) (Kd.N_far (p := ⟨gb455, 3, none⟩) (Kd.N_far (p := ⟨gb455, 2, none⟩) (Kd.N_far (p := ⟨gb455, 1, none⟩) (Kd.N_far (p := ⟨gb455, 0, none⟩) (Kd.N_far (p := ⟨gb454, 5, none⟩) (Kd.N_far (p := ⟨gb454, 4, none⟩) (Kd.N_far (p := ⟨gb454, 3, none⟩) (Kd.N_far (p := ⟨gb454, 2, none⟩) (Kd.N_far (p := ⟨gb454, 1, none⟩) (Kd.N_far (p := ⟨gb454, 0, none⟩) (Kd.N_mono (Kd.N_mono HO433.out (fun k_ hk => (⟨hk, hk.1.2⟩ : _ ∧ k_ ≠ gb454))) (fun k_ hk => (⟨hk, hk.1.2⟩ : _ ∧ k_ ≠ gb455))) (fun _ hk => hk.1.2) (.bool t437)) (fun _ hk => hk.1.2) (.bool t438)) (fun _ hk => hk.1.2) (.int .i64 t439)) (fun _ hk => hk.1.2) (.int .i64 t440)) (fun _ hk => hk.1.2) (.int .i64 t441)) (fun _ hk => hk.1.2) (.slice Ao30 t442.length co30)) (fun _ hk => hk.2) (.bool t445)) (fun _ hk => hk.2) (.bool t446)) (fun _ hk => hk.2) (.int .i64 t447)) (fun _ hk => hk.2) (.int .i64 t448)) (fun _ hk => hk.2) (.int .i64 t449)) (fun _ hk => hk.2) (.slice Ao35 t450.length co35)) (fun _ h_ => h_.1)) (fun _ h_ => h_.1))) hb); replace HO444 := Aside0.mk (Kd.N_below (by (with_reducible repeat (first | apply Kd.N_alloc | apply Kd.N_drewN | apply Kd.N_drew)); exact (Kd.N_mono (Kd.N_mono (Kd.N_far (p := ⟨gb455, 5, none⟩) (Kd.N_far (p := ⟨gb455, 4, none⟩) (Kd.N_far (p := ⟨gb455, 3, none⟩) (Kd.N_far (p := ⟨gb455, 2, none⟩) (Kd.N_far (p := ⟨gb455, 1, none⟩) (Kd.N_far (p := ⟨gb455, 0, none⟩) (Kd.N_far (p := ⟨gb454, 5, none⟩) (Kd.N_far (p := ⟨gb454, 4, none⟩) (Kd.N_far (p := ⟨gb454, 3, none⟩) (Kd.N_far (p := ⟨gb454, 2, none⟩) (Kd.N_far (p := ⟨gb454, 1, none⟩) (Kd.N_far (p := ⟨gb454, 0, none⟩) (Kd.N_mono (Kd.N_mono HO444.out (fun k_ hk => (⟨hk, hk.1.2⟩ : _ ∧ k_ ≠ gb454))) (fun k_ hk => (⟨hk, hk.1.2⟩ : _ ∧ k_ ≠ gb455))) (fun _ hk => hk.1.2) (.bool t437)) (fun _ hk => hk.1.2) (.bool t438)) (fun _ hk => hk.1.2) (.int .i64 t439)) (fun _ hk => hk.1.2) (.int .i64 t440)) (fun _ hk => hk.1.2) (.int .i64 t441)) (fun _ hk => hk.1.2) (.slice Ao30 t442.length co30)) (fun _ hk => hk.2) (.bool t445)) (fun _ hk => hk.2) (.bool t446)) (fun _ hk => hk.2) (.int .i64 t447)) (fun _ hk => hk.2) (.int .i64 t448)) (fun _ hk => hk.2) (.int .i64 t449)) (fun _ hk => hk.2) (.slice Ao35 t450.length co35)) (fun _ h_ => h_.1)) (fun _ h_ => h_.1))) hb); replace HO452 := Aside0.mk (Kd.N_below (by (with_reducible repeat (first | apply Kd.N_alloc | apply Kd.N_drewN | apply Kd.N_drew)); exact (Kd.N_mono (Kd.N_mono (Kd.N_far (p := ⟨gb455, 5, none⟩) (Kd.N_far (p := ⟨gb455, 4, none⟩) (Kd.N_far (p := ⟨gb455, 3, none⟩) (Kd.N_far (p := ⟨gb455, 2, none⟩) (Kd.N_far (p := ⟨gb455, 1, none⟩) (Kd.N_far (p := ⟨gb455, 0, none⟩) (Kd.N_far (p := ⟨gb454, 5, none⟩) (Kd.N_far (p := ⟨gb454, 4, none⟩) (Kd.N_far (p := ⟨gb454, 3, none⟩) (Kd.N_far (p := ⟨gb454, 2, none⟩) (Kd.N_far (p := ⟨gb454, 1, none⟩) (Kd.N_far (p := ⟨gb454, 0, none⟩) (Kd.N_mono (Kd.N_mono HO452.out (fun k_ hk => (⟨hk, hk.1.2⟩ : _ ∧ k_ ≠ gb454))) (fun k_ hk => (⟨hk, hk.1.2⟩ : _ ∧ k_ ≠ gb455))) (fun _ hk => hk.1.2) (.bool t437)) (fun _ hk => hk.1.2) (.bool t438)) (fun _ hk => hk.1.2) (.int .i64 t439)) (fun _ hk => hk.1.2) (.int .i64 t440)) (fun _ hk => hk.1.2) (.int .i64 t441)) (fun _ hk => hk.1.2) (.slice Ao30 t442.length co30)) (fun _ hk => hk.2) (.bool t445)) (fun _ hk => hk.2) (.bool t446)) (fun _ hk => hk.2) (.int .i64 t447)) (fun _ hk => hk.2) (.int .i64 t448)) (fun _ hk => hk.2) (.int .i64 t449)) (fun _ hk => hk.2) (.slice Ao35 t450.length co35)) (fun _ h_ => h_.1)) (fun _ h_ => h_.1))) hb); replace BK417 := tBb BK417 hb; replace BK435 := tBb BK435 hb; replace BK436 := tBb BK436 hb; replace BK454 := tBp (o' := .cells #[.bool t437, .bool t438, .int .i64 t439, .int .i64 t440, .int .i64 t441, .slice Ao30 t442.length co30] 25 (0, 0)) BK454 hb; replace BK455 := tBp (o' := .cells #[.bool t445, .bool t446, .int .i64 t447, .int .i64 t448, .int .i64 t449, .slice Ao35 t450.length co35] 25 (0, 0)) BK455 hb; replace HB := tBs HB hb; (try clear hb); (try clear hb2); (try clear hk); (try clear hi); have hnb51 := NB436_417.out; have hnc51 := NB417_436.out; have hnb52 := NB436_455.out; have hnc52 := NB455_436.out; obtain ⟨hcz53_0, hcz53_1, hcz53_2, hcz53_3, hcz53_4, hcz53_5, hfz53_0, hfz53_1, hfz53_2, hfz53_3, hfz53_4, hfz53_5⟩ := cells6 BK436.out; have hnb54 := NB455_417.out; have hnc54 := NB417_455.out; obtain ⟨hcz55_0, hcz55_1, hcz55_2, hcz55_3, hcz55_4, hcz55_5, hfz55_0, hfz55_1, hfz55_2, hfz55_3, hfz55_4, hfz55_5⟩ := cells6 BK455.out) | (go_at_call 11; (with_reducible refine (laws_sameBatch.calls k t426 t427 t428 t429 t430 _ _ t431 t445 t446 t447 t448 t449 _ _ t450 true _ ?side1 ?side2 ?side3 ?side4 A39.out).mono ?_); (case side1 => repeat (first | exact (Kd.N_reads' HO433.out).2.2 | (with_reducible refine Kd.C_alloc ?_ _) | (with_reducible refine Kd.C_drewN ?_ _) | (with_reducible refine Kd.C_drew ?_))); (case side2 => exact (Kd.N_reads' HO433.out).2.1); (case side3 => repeat (first | exact (Kd.N_reads' HO452.out).2.2 | (with_reducible refine Kd.C_alloc ?_ _) | (with_reducible refine Kd.C_drewN ?_ _) | (with_reducible refine Kd.C_drew ?_))); (case side4 => exact (Kd.N_reads' HO452.out).2.1); rintro e w56 ⟨rfl, hb⟩; replace HO415 := tNb HO415 hb; replace HO425 := tNb HO425 hb; replace HO433 := tNb HO433 hb; replace HO444 := tNb HO444 hb; replace HO452 := tNb HO452 hb; replace BK417 := tBb BK417 hb; replace BK435 := tBb BK435 hb; replace BK436 := tBb BK436 hb; replace BK454 := tBb BK454 hb; replace BK455 := tBb BK455 hb; replace HB := tBs HB hb; (try clear hb); (try clear hb2); (try clear hk); (try clear hi)))
      go_meet
      case rel => exact ⟨_, (!t434), tr, H', ⟨by first | omega | exact Nat.le_refl _⟩, ⟨tNm HO415.out⟩, ⟨tNm HO425.out⟩, ⟨tNm HO433.out⟩, ⟨tNm HO444.out⟩, ⟨tNm HO452.out⟩, ⟨tH BK417.out⟩, ⟨tH BK435.out⟩, ⟨tH BK436.out⟩, ⟨tH BK454.out⟩, ⟨tH BK455.out⟩, ⟨zb⟩⟩
     ·replace c40 := Bool.eq_false_iff.mpr c40
      subst c40
      rw [if_neg (show ¬ (false = true) by decide)] at H
      have H' := Aside0.mk H
      clear H
      have hnb57 := NB435_417.out
      have hnc57 := NB417_435.out
      have hnb58 := NB435_436.out
      have hnc58 := NB436_435.out
      have hnb59 := NB435_454.out
      have hnc59 := NB454_435.out
      have hnb60 := NB435_455.out
      have hnc60 := NB455_435.out
      obtain ⟨hcz61_0, hcz61_1, hcz61_2, hcz61_3, hcz61_4, hcz61_5, hfz61_0, hfz61_1, hfz61_2, hfz61_3, hfz61_4, hfz61_5⟩ := cells6 BK435.out
      have hnb62 := NB454_417.out
      have hnc62 := NB417_454.out
      have hnb63 := NB454_436.out
      have hnc63 := NB436_454.out
      have hnb64 := NB454_455.out
      have hnc64 := NB455_454.out
      obtain ⟨hcz65_0, hcz65_1, hcz65_2, hcz65_3, hcz65_4, hcz65_5, hfz65_0, hfz65_1, hfz65_2, hfz65_3, hfz65_4, hfz65_5⟩ := cells6 BK454.out
      go_wp2_with (first | (go_at_call 11; (with_reducible refine (laws_sameBatch.calls k t418 t419 t420 t421 t422 _ _ t423 t437 t438 t439 t440 t441 _ _ t442 true _ ?side1 ?side2 ?side3 ?side4 A37.out).mono ?_); (case side1 => refine (Kd.N_reads' (e := 41) (base := w.heap.size) (ok := fun k_ => (((((((some k_ ≠ (.slice Ao20 t431.length co20 : Value).ownBlock ∧ (some k_ ≠ (.slice Ao10 t413.length co10 : Value).ownBlock ∧ k_ ≠ gb417)) ∧ k_ ≠ gb435) ∧ k_ ≠ gb436) ∧ some k_ ≠ (.slice Ao30 t442.length co30 : Value).ownBlock) ∧ some k_ ≠ (.slice Ao35 t450.length co35 : Value).ownBlock) ∧ k_ ≠ gb454) ∧ k_ ≠ gb455)) (n := t423.length) (c := co17) ?_).2.2; exact (by (with_reducible repeat (first | apply Kd.N_alloc | apply Kd.N_drewN | apply Kd.N_drew)); exact (Kd.N_mono (Kd.N_mono (Kd.N_far (p := ⟨gb455, 5, none⟩) (Kd.N_far (p := ⟨gb455, 4, none⟩) (Kd.N_far (p := ⟨gb455, 3, none⟩) (Kd.N_far (p := ⟨gb455, 2, none⟩) (Kd.N_far (p := ⟨gb455, 1, none⟩) (Kd.N_far (p := ⟨gb455, 0, none⟩) (Kd.N_far (p := ⟨gb454, 5, none⟩) (Kd.N_far (p := ⟨gb454, 4, none⟩) (Kd.N_far (p := ⟨gb454, 3, none⟩) (Kd.N_far (p := ⟨gb454, 2, none⟩) (Kd.N_far (p := ⟨gb454, 1, none⟩) (Kd.N_far (p := ⟨gb454, 0, none⟩) (Kd.N_mono (Kd.N_mono HO425.out (fun k_ hk => (⟨hk, hk.1.2⟩ : _ ∧ k_ ≠ gb454))) (fun k_ hk => (⟨hk, hk.1.2⟩ : _ ∧ k_ ≠ gb455))) (fun _ hk => hk.1.2) (.bool t437)) (fun _ hk => hk.1.2) (.bool t438)) (fun _ hk => hk.1.2) (.int .i64 t439)) (fun _ hk => hk.1.2) (.int .i64 t440)) (fun _ hk => hk.1.2) (.int .i64 t441)) (fun _ hk => hk.1.2) (.slice Ao30 t442.length co30)) (fun _ hk => hk.2) (.bool t445)) (fun _ hk => hk.2) (.bool t446)) (fun _ hk => hk.2) (.int .i64 t447)) (fun _ hk => hk.2) (.int .i64 t448)) (fun _ hk => hk.2) (.int .i64 t449)) (fun _ hk => hk.2) (.slice Ao35 t450.length co35)) (fun _ h_ => h_.1)) (fun _ h_ => h_.1)))); (case side2 => exact (Kd.N_reads' HO425.out).2.1); (case side3 => refine (Kd.N_reads' (e := 41) (base := w.heap.size) (ok := fun k_ => (((some k_ ≠ (.slice Ao35 t450.length co35 : Value).ownBlock ∧ (some k_ ≠ (.slice Ao10 t413.length co10 : Value).ownBlock ∧ (some k_ ≠ (.slice Ao17 t423.length co17 : Value).ownBlock ∧ (some k_ ≠ (.slice Ao20 t431.length co20 : Value).ownBlock ∧ (k_ ≠ gb417 ∧ (k_ ≠ gb435 ∧ k_ ≠ gb436)))))) ∧ k_ ≠ gb454) ∧ k_ ≠ gb455)) (n := t442.length) (c := co30) ?_).2.2; exact (by (with_reducible repeat (first | apply Kd.N_alloc | apply Kd.N_drewN | apply Kd.N_drew)); exact (Kd.N_mono (Kd.N_mono (Kd.N_far (p := ⟨gb455, 5, none⟩) (Kd.N_far (p := ⟨gb455, 4, none⟩) (Kd.N_far (p := ⟨gb455, 3, none⟩) (Kd.N_far (p := ⟨gb455, 2, none⟩) (Kd.N_far (p := ⟨gb455, 1, none⟩) (Kd.N_far (p := ⟨gb455, 0, none⟩) (Kd.N_far (p := ⟨gb454, 5, none⟩) (Kd.N_far (p := ⟨gb454, 4, none⟩) (Kd.N_far (p := ⟨gb454, 3, none⟩) (Kd.N_far (p := ⟨gb454, 2, none⟩) (Kd.N_far (p := ⟨gb454, 1, none⟩) (Kd.N_far (p := ⟨gb454, 0, none⟩) (Kd.N_mono (Kd.N_mono HO444.out (fun k_ hk => (⟨hk, hk.1.2⟩ : _ ∧ k_ ≠ gb454))) (fun k_ hk => (⟨hk, hk.1.2⟩ : _ ∧ k_ ≠ gb455))) (fun _ hk => hk.1.2) (.bool t437)) (fun _ hk => hk.1.2) (.bool t438)) (fun _ hk => hk.1.2) (.int .i64 t439)) (fun _ hk => hk.1.2) (.int .i64 t440)) (fun _ hk => hk.1.2) (.int .i64 t441)) (fun _ hk => hk.1.2) (.slice Ao30 t442.length co30)) (fun _ hk => hk.2) (.bool t445)) (fun _ hk => hk.2) (.bool t446)) (fun _ hk => hk.2) (.int .i64 t447)) (fun _ hk => hk.2) (.int .i64 t448)) (fun _ hk => hk.2) (.int .i64 t449)) (fun _ hk => hk.2) (.slice Ao35 t450.length co35)) (fun _ h_ => h_.1)) (fun _ h_ => h_.1)))); (case side4 => exact (Kd.N_reads' HO444.out).2.1); rintro e w66 ⟨rfl, hb⟩; replace HO415 := Aside0.mk (Kd.N_below (by (with_reducible repeat (first | apply Kd.N_alloc | apply Kd.N_drewN | apply Kd.N_drew)); exact (Kd.N_mono (Kd.N_mono (Kd.N_far (p := ⟨gb455, 5, none⟩) (Kd.N_far (p := ⟨gb455, 4, none⟩) (Kd.N_far (p := ⟨gb455, 3, none⟩) (Kd.N_far (p := ⟨gb455, 2, none⟩) (Kd.N_far (p := ⟨gb455, 1, none⟩) (Kd.N_far (p := ⟨gb455, 0, none⟩) (Kd.N_far (p := ⟨gb454, 5, none⟩) (Kd.N_far (p := ⟨gb454, 4, none⟩) (Kd.N_far (p := ⟨gb454, 3, none⟩) (Kd.N_far (p := ⟨gb454, 2, none⟩) (Kd.N_far (p := ⟨gb454, 1, none⟩) (Kd.N_far (p := ⟨gb454, 0, none⟩) (Kd.N_mono (Kd.N_mono HO415.out (fun k_ hk => (⟨hk, hk.1.2⟩ : _ ∧ k_ ≠ gb454))) (fun k_ hk => (⟨hk, hk.1.2⟩ : _ ∧ k_ ≠ gb455))) (fun _ hk => hk.1.2) (.bool t437)) (fun _ hk => hk.1.2) (.bool t438)) (fun _ hk => hk.1.2) (.int .i64 t439)) (fun _ hk => hk.1.2) (.int .i64 t440)) (fun _ hk => hk.1.2) (.int .i64 t441)) (fun _ hk => hk.1.2) (.slice Ao30 t442.length co30)) (fun _ hk => hk.2) (.bool t445)) (fun _ hk => hk.2) (.bool t446)) (fun _ hk => hk.2) (.int .i64 t447)) (fun _ hk => hk.2) (.int .i64 t448)) (fun _ hk => hk.2) (.int .i64 t449)) (fun _ hk => hk.2) (.slice Ao35 t450.length co35)) (fun _ h_ => h_.1)) (fun _ h_ => h_.1))) hb); replace HO425 := Aside0.mk (Kd.N_below (by (with_reducible repeat (first | apply Kd.N_alloc | apply Kd.N_drewN | apply Kd.N_drew)); exact (Kd.N_mono (Kd.N_mono (Kd.N_far (p := ⟨gb455, 5, none⟩) (Kd.N_far (p := ⟨gb455, 4, none⟩) (Kd.N_far (p := ⟨gb455, 3, none⟩) (Kd.N_far (p := ⟨gb455, 2, none⟩) (Kd.N_far (p := ⟨gb455, 1, none⟩) (Kd.N_far (p := ⟨gb455, 0, none⟩) (Kd.N_far (p := ⟨gb454, 5, none⟩) (Kd.N_far (p := ⟨gb454, 4, none⟩) (Kd.N_far (p := ⟨gb454, 3, none⟩) (Kd.N_far (p := ⟨gb454, 2, none⟩) (Kd.N_far (p := ⟨gb454, 1, none⟩) (Kd.N_far (p := ⟨gb454, 0, none⟩) (Kd.N_mono (Kd.N_mono HO425.out (fun k_ hk => (⟨hk, hk.1.2⟩ : _ ∧ k_ ≠ gb454))) (fun k_ hk => (⟨hk, hk.1.2⟩ : _ ∧ k_ ≠ gb455))) (fun _ hk => hk.1.2) (.bool t437)) (fun _ hk => hk.1.2) (.bool t438)) (fun _ hk => hk.1.2) (.int .i64 t439)) (fun _ hk => hk.1.2) (.int .i64 t440)) (fun _ hk => hk.1.2) (.int .i64 t441)) (fun _ hk => hk.1.2) (.slice Ao30 t442.length co30)) (fun _ hk => hk.2) (.bool t445)) (fun _ hk => hk.2) (.bool t446)) (fun _ hk => hk.2) (.int .i64 t447)) (fun _ hk => hk.2) (.int .i64 t448)) (fun _ hk => hk.2) (.int .i64 t449)) (fun _ hk => hk.2) (.slice Ao35 t450.length co35)) (fun _ h_ => h_.1)) (fun _ h_ => h_.1))) hb); replace HO433 := Aside0.mk (Kd.N_below (by (with_reducible repeat (first | apply Kd.N_alloc | apply Kd.N_drewN | apply Kd.N_drew)); exact (Kd.N_mono (Kd.N_mono (Kd.N_far (p := ⟨gb455, 5, none⟩) (Kd.N_far (p := ⟨gb455, 4, none⟩) (Kd.N_far (p := ⟨gb455, 3, none⟩) (Kd.N_far (p := ⟨gb455, 2, none⟩) (Kd.N_far (p := ⟨gb455, 1, none⟩) (Kd.N_far (p := ⟨gb455, 0, none⟩) (Kd.N_far (p := ⟨gb454, 5, none⟩) (Kd.N_far (p := ⟨gb454, 4, none⟩) (Kd.N_far (p := ⟨gb454, 3, none⟩) (Kd.N_far (p := ⟨gb454, 2, none⟩) (Kd.N_far (p := ⟨gb454, 1, none⟩) (Kd.N_far (p := ⟨gb454, 0, none⟩) (Kd.N_mono (Kd.N_mono HO433.out (fun k_ hk => (⟨hk, hk.1.2⟩ : _ ∧ k_ ≠ gb454))) (fun k_ hk => (⟨hk, hk.1.2⟩ : _ ∧ k_ ≠ gb455))) (fun _ hk => hk.1.2) (.bool t437)) (fun _ hk => hk.1.2) (.bool t438)) (fun _ hk => hk.1.2) (.int .i64 t439)) (fun _ hk => hk.1.2) (.int .i64 t440)) (fun _ hk => hk.1.2) (.int .i64 t441)) (fun _ hk => hk.1.2) (.slice Ao30 t442.length co30)) (fun _ hk => hk.2) (.bool t445)) (fun _ hk => hk.2) (.bool t446)) (fun _ hk => hk.2) (.int .i64 t447)) (fun _ hk => hk.2) (.int .i64 t448)) (fun _ hk => hk.2) (.int .i64 t449)) (fun _ hk => hk.2) (.slice Ao35 t450.length co35)) (fun _ h_ => h_.1)) (fun _ h_ => h_.1))) hb); replace HO444 := Aside0.mk (Kd.N_below (by (with_reducible repeat (first | apply Kd.N_alloc | apply Kd.N_drewN | apply Kd.N_drew)); exact (Kd.N_mono (Kd.N_mono (Kd.N_far (p := ⟨gb455, 5, none⟩) (Kd.N_far (p := ⟨gb455, 4, none⟩) (Kd.N_far (p := ⟨gb455, 3, none⟩) (Kd.N_far (p := ⟨gb455, 2, none⟩) (Kd.N_far (p := ⟨gb455, 1, none⟩) (Kd.N_far (p := ⟨gb455, 0, none⟩) (Kd.N_far (p := ⟨gb454, 5, none⟩) (Kd.N_far (p := ⟨gb454, 4, none⟩) (Kd.N_far (p := ⟨gb454, 3, none⟩) (Kd.N_far (p := ⟨gb454, 2, none⟩) (Kd.N_far (p := ⟨gb454, 1, none⟩) (Kd.N_far (p := ⟨gb454, 0, none⟩) (Kd.N_mono (Kd.N_mono HO444.out (fun k_ hk => (⟨hk, hk.1.2⟩ : _ ∧ k_ ≠ gb454))) (fun k_ hk => (⟨hk, hk.1.2⟩ : _ ∧ k_ ≠ gb455))) (fun _ hk => hk.1.2) (.bool t437)) (fun _ hk => hk.1.2) (.bool t438)) (fun _ hk => hk.1.2) (.int .i64 t439)) (fun _ hk => hk.1.2) (.int .i64 t440)) (fun _ hk => hk.1.2) (.int .i64 t441)) (fun _ hk => hk.1.2) (.slice Ao30 t442.length co30)) (fun _ hk => hk.2) (.bool t445)) (fun _ hk => hk.2) (.bool t446)) (fun _ hk => hk.2) (.int .i64 t447)) (fun _ hk => hk.2) (.int .i64 t448)) (fun _ hk => hk.2) (.int .i64 t449)) (fun _ hk => hk.2) (.slice Ao35 t450.length co35)) (fun _ h_ => h_.1)) (fun _ h_ => h_.1))) hb); replace HO452 := Aside0.mk (Kd.N_below (by (with_reducible repeat (first | apply Kd.N_alloc | apply Kd.N_drewN | apply Kd.N_drew)); exact (Kd.N_mono (Kd.N_mono (Kd.N_far (p := ⟨gb455, 5, none⟩) (Kd.N_far (p := ⟨gb455, 4, none⟩) (Kd.N_far (p := ⟨gb455, 3, none⟩) (Kd.N_far (p := ⟨gb455, 2, none⟩) (Kd.N_far (p := ⟨gb455, 1, none⟩) (Kd.N_far (p := ⟨gb455, 0, none⟩) (Kd.N_far (p := ⟨gb454, 5, none⟩) (Kd.N_far (p := ⟨gb454, 4, none⟩) (Kd.N_far (p := ⟨gb454, 3, none⟩) (Kd.N_far (p := ⟨gb454, 2, none⟩) (Kd.N_far (p := ⟨gb454, 1, none⟩) (Kd.N_far (p := ⟨gb454, 0, none⟩) (Kd.N_mono (Kd.N_mono HO452.out (fun k_ hk => (⟨hk, hk.1.2⟩ : _ ∧ k_ ≠ gb454))) (fun k_ hk => (⟨hk, hk.1.2⟩ : _ ∧ k_ ≠ gb455))) (fun _ hk => hk.1.2) (.bool t437)) (fun _ hk => hk.1.2) (.bool t438)) (fun _ hk => hk.1.2) (.int .i64 t439)) (fun _ hk => hk.1.2) (.int .i64 t440)) (fun _ hk => hk.1.2) (.int .i64 t441)) (fun _ hk => hk.1.2) (.slice Ao30 t442.length co30)) (fun _ hk => hk.2) (.bool t445)) (fun _ hk => hk.2) (.bool t446)) (fun _ hk => hk.2) (.int .i64 t447)) (fun _ hk => hk.2) (.int .i64 t448)) (fun _ hk => hk.2) (.int .i64 t449)) (fun _ hk => hk.2) (.slice Ao35 t450.length co35)) (fun _ h_ => h_.1)) (fun _ h_ => h_.1))) hb); replace BK417 := tBb BK417 hb; replace BK435 := tBb BK435 hb; replace BK436 := tBb BK436 hb; replace BK454 := tBp (o' := .cells #[.bool t437, .bool t438, .int .i64 t439, .int .i64 t440, .int .i64 t441, .slice Ao30 t442.length co30] 25 (0, 0)) BK454 hb; replace BK455 := tBp (o' := .cells #[.bool t445, .bool t446, .int .i64 t447, .int .i64 t448, .int .i64 t449, .slice Ao35 t450.length co35] 25 (0, 0)) BK455 hb; replace HB := tBs HB hb; (try clear hb); (try clear hb2); (try clear hk); (try clear hi); have hnb67 := NB436_417.out; have hnc67 := NB417_436.out; have hnb68 := NB436_455.out; have hnc68 := NB455_436.out; obtain ⟨hcz69_0, hcz69_1, hcz69_2, hcz69_3, hcz69_4, hcz69_5, hfz69_0, hfz69_1, hfz69_2, hfz69_3, hfz69_4, hfz69_5⟩ := cells6 BK436.out; have hnb70 := NB455_417.out; have hnc70 := NB417_455.out; obtain ⟨hcz71_0, hcz71_1, hcz71_2, hcz71_3, hcz71_4, hcz71_5, hfz71_0, hfz71_1, hfz71_2, hfz71_3, hfz71_4, hfz71_5⟩ := cells6 BK455.out) | (go_at_call 11; (with_reducible refine (laws_sameBatch.calls k t426 t427 t428 t429 t430 _ _ t431 t445 t446 t447 t448 t449 _ _ t450 false _ ?side1 ?side2 ?side3 ?side4 A39.out).mono ?_); (case side1 => repeat (first | exact (Kd.N_reads' HO433.out).2.2 | (with_reducible refine Kd.C_alloc ?_ _) | (with_reducible refine Kd.C_drewN ?_ _) | (with_reducible refine Kd.C_drew ?_))); (case side2 => exact (Kd.N_reads' HO433.out).2.1); (case side3 => repeat (first | exact (Kd.N_reads' HO452.out).2.2 | (with_reducible refine Kd.C_alloc ?_ _) | (with_reducible refine Kd.C_drewN ?_ _) | (with_reducible refine Kd.C_drew ?_))); (case side4 => exact (Kd.N_reads' HO452.out).2.1); rintro e w72 ⟨rfl, hb⟩; replace HO415 := tNb HO415 hb; replace HO425 := tNb HO425 hb; replace HO433 := tNb HO433 hb; replace HO444 := tNb HO444 hb; replace HO452 := tNb HO452 hb; replace BK417 := tBb BK417 hb; replace BK435 := tBb BK435 hb; replace BK436 := tBb BK436 hb; replace BK454 := tBb BK454 hb; replace BK455 := tBb BK455 hb; replace HB := tBs HB hb; (try clear hb); (try clear hb2); (try clear hk); (try clear hi)))
      go_meet
      case rel => exact ⟨_, (true), tr, H', ⟨by first | omega | exact Nat.le_refl _⟩, ⟨tNm HO415.out⟩, ⟨tNm HO425.out⟩, ⟨tNm HO433.out⟩, ⟨tNm HO444.out⟩, ⟨tNm HO452.out⟩, ⟨tH BK417.out⟩, ⟨tH BK435.out⟩, ⟨tH BK436.out⟩, ⟨tH BK454.out⟩, ⟨tH BK455.out⟩, ⟨zb⟩⟩
    ·replace c38 := Bool.eq_false_iff.mpr c38
     subst c38
     rw [if_neg (show ¬ (false = true) by decide)] at H
     have H' := Aside0.mk H
     clear H
     have hnb73 := NB435_417.out
     have hnc73 := NB417_435.out
     have hnb74 := NB435_436.out
     have hnc74 := NB436_435.out
     have hnb75 := NB435_454.out
     have hnc75 := NB454_435.out
     have hnb76 := NB435_455.out
     have hnc76 := NB455_435.out
     obtain ⟨hcz77_0, hcz77_1, hcz77_2, hcz77_3, hcz77_4, hcz77_5, hfz77_0, hfz77_1, hfz77_2, hfz77_3, hfz77_4, hfz77_5⟩ := cells6 BK435.out
     have hnb78 := NB454_417.out
     have hnc78 := NB417_454.out
     have hnb79 := NB454_436.out
     have hnc79 := NB436_454.out
     have hnb80 := NB454_455.out
     have hnc80 := NB455_454.out
     obtain ⟨hcz81_0, hcz81_1, hcz81_2, hcz81_3, hcz81_4, hcz81_5, hfz81_0, hfz81_1, hfz81_2, hfz81_3, hfz81_4, hfz81_5⟩ := cells6 BK454.out
     go_wp2_with (first | (go_at_call 11; (with_reducible refine (laws_sameBatch.calls k t418 t419 t420 t421 t422 _ _ t423 t437 t438 t439 t440 t441 _ _ t442 false _ ?side1 ?side2 ?side3 ?side4 A37.out).mono ?_); (case side1 => refine (Kd.N_reads' (e := 41) (base := w.heap.size) (ok := fun k_ => (((((((some k_ ≠ (.slice Ao20 t431.length co20 : Value).ownBlock ∧ (some k_ ≠ (.slice Ao10 t413.length co10 : Value).ownBlock ∧ k_ ≠ gb417)) ∧ k_ ≠ gb435) ∧ k_ ≠ gb436) ∧ some k_ ≠ (.slice Ao30 t442.length co30 : Value).ownBlock) ∧ some k_ ≠ (.slice Ao35 t450.length co35 : Value).ownBlock) ∧ k_ ≠ gb454) ∧ k_ ≠ gb455)) (n := t423.length) (c := co17) ?_).2.2; exact (by (with_reducible repeat (first | apply Kd.N_alloc | apply Kd.N_drewN | apply Kd.N_drew)); exact (Kd.N_mono (Kd.N_mono (Kd.N_far (p := ⟨gb455, 5, none⟩) (Kd.N_far (p := ⟨gb455, 4, none⟩) (Kd.N_far (p := ⟨gb455, 3, none⟩) (Kd.N_far (p := ⟨gb455, 2, none⟩) (Kd.N_far (p := ⟨gb455, 1, none⟩) (Kd.N_far (p := ⟨gb455, 0, none⟩) (Kd.N_far (p := ⟨gb454, 5, none⟩) (Kd.N_far (p := ⟨gb454, 4, none⟩) (Kd.N_far (p := ⟨gb454, 3, none⟩) (Kd.N_far (p := ⟨gb454, 2, none⟩) (Kd.N_far (p := ⟨gb454, 1, none⟩) (Kd.N_far (p := ⟨gb454, 0, none⟩) (Kd.N_mono (Kd.N_mono HO425.out (fun k_ hk => (⟨hk, hk.1.2⟩ : _ ∧ k_ ≠ gb454))) (fun k_ hk => (⟨hk, hk.1.2⟩ : _ ∧ k_ ≠ gb455))) (fun _ hk => hk.1.2) (.bool t437)) (fun _ hk => hk.1.2) (.bool t438)) (fun _ hk => hk.1.2) (.int .i64 t439)) (fun _ hk => hk.1.2) (.int .i64 t440)) (fun _ hk => hk.1.2) (.int .i64 t441)) (fun _ hk => hk.1.2) (.slice Ao30 t442.length co30)) (fun _ hk => hk.2) (.bool t445)) (fun _ hk => hk.2) (.bool t446)) (fun _ hk => hk.2) (.int .i64 t447)) (fun _ hk => hk.2) (.int .i64 t448)) (fun _ hk => hk.2) (.int .i64 t449)) (fun _ hk => hk.2) (.slice Ao35 t450.length co35)) (fun _ h_ => h_.1)) (fun _ h_ => h_.1)))); (case side2 => exact (Kd.N_reads' HO425.out).2.1); (case side3 => refine (Kd.N_reads' (e := 41) (base := w.heap.size) (ok := fun k_ => (((some k_ ≠ (.slice Ao35 t450.length co35 : Value).ownBlock ∧ (some k_ ≠ (.slice Ao10 t413.length co10 : Value).ownBlock ∧ (some k_ ≠ (.slice Ao17 t423.length co17 : Value).ownBlock ∧ (some k_ ≠ (.slice Ao20 t431.length co20 : Value).ownBlock ∧ (k_ ≠ gb417 ∧ (k_ ≠ gb435 ∧ k_ ≠ gb436)))))) ∧ k_ ≠ gb454) ∧ k_ ≠ gb455)) (n := t442.length) (c := co30) ?_).2.2; exact (by (with_reducible repeat (first | apply Kd.N_alloc | apply Kd.N_drewN | apply Kd.N_drew)); exact (Kd.N_mono (Kd.N_mono (Kd.N_far (p := ⟨gb455, 5, none⟩) (Kd.N_far (p := ⟨gb455, 4, none⟩) (Kd.N_far (p := ⟨gb455, 3, none⟩) (Kd.N_far (p := ⟨gb455, 2, none⟩) (Kd.N_far (p := ⟨gb455, 1, none⟩) (Kd.N_far (p := ⟨gb455, 0, none⟩) (Kd.N_far (p := ⟨gb454, 5, none⟩) (Kd.N_far (p := ⟨gb454, 4, none⟩) (Kd.N_far (p := ⟨gb454, 3, none⟩) (Kd.N_far (p := ⟨gb454, 2, none⟩) (Kd.N_far (p := ⟨gb454, 1, none⟩) (Kd.N_far (p := ⟨gb454, 0, none⟩) (Kd.N_mono (Kd.N_mono HO444.out (fun k_ hk => (⟨hk, hk.1.2⟩ : _ ∧ k_ ≠ gb454))) (fun k_ hk => (⟨hk, hk.1.2⟩ : _ ∧ k_ ≠ gb455))) (fun _ hk => hk.1.2) (.bool t437)) (fun _ hk => hk.1.2) (.bool t438)) (fun _ hk => hk.1.2) (.int .i64 t439)) (fun _ hk => hk.1.2) (.int .i64 t440)) (fun _ hk => hk.1.2) (.int .i64 t441)) (fun _ hk => hk.1.2) (.slice Ao30 t442.length co30)) (fun _ hk => hk.2) (.bool t445)) (fun _ hk => hk.2) (.bool t446)) (fun _ hk => hk.2) (.int .i64 t447)) (fun _ hk => hk.2) (.int .i64 t448)) (fun _ hk => hk.2) (.int .i64 t449)) (fun _ hk => hk.2) (.slice Ao35 t450.length co35)) (fun _ h_ => h_.1)) (fun _ h_ => h_.1)))); (case side4 => exact (Kd.N_reads' HO444.out).2.1); rintro e w82 ⟨rfl, hb⟩; replace HO415 := Aside0.mk (Kd.N_below (by (with_reducible repeat (first | apply Kd.N_alloc | apply Kd.N_drewN | apply Kd.N_drew)); exact (Kd.N_mono (Kd.N_mono (Kd.N_far (p := ⟨gb455, 5, none⟩) (Kd.N_far (p := ⟨gb455, 4, none⟩) (Kd.N_far (p := ⟨gb455, 3, none⟩) (Kd.N_far (p := ⟨gb455, 2, none⟩) (Kd.N_far (p := ⟨gb455, 1, none⟩) (Kd.N_far (p := ⟨gb455, 0, none⟩) (Kd.N_far (p := ⟨gb454, 5, none⟩) (Kd.N_far (p := ⟨gb454, 4, none⟩) (Kd.N_far (p := ⟨gb454, 3, none⟩) (Kd.N_far (p := ⟨gb454, 2, none⟩) (Kd.N_far (p := ⟨gb454, 1, none⟩) (Kd.N_far (p := ⟨gb454, 0, none⟩) (Kd.N_mono (Kd.N_mono HO415.out (fun k_ hk => (⟨hk, hk.1.2⟩ : _ ∧ k_ ≠ gb454))) (fun k_ hk => (⟨hk, hk.1.2⟩ : _ ∧ k_ ≠ gb455))) (fun _ hk => hk.1.2) (.bool t437)) (fun _ hk => hk.1.2) (.bool t438)) (fun _ hk => hk.1.2) (.int .i64 t439)) (fun _ hk => hk.1.2) (.int .i64 t440)) (fun _ hk => hk.1.2) (.int .i64 t441)) (fun _ hk => hk.1.2) (.slice Ao30 t442.length co30)) (fun _ hk => hk.2) (.bool t445)) (fun _ hk => hk.2) (.bool t446)) (fun _ hk => hk.2) (.int .i64 t447)) (fun _ hk => hk.2) (.int .i64 t448)) (fun _ hk => hk.2) (.int .i64 t449)) (fun _ hk => hk.2) (.slice Ao35 t450.length co35)) (fun _ h_ => h_.1)) (fun _ h_ => h_.1))) hb); replace HO425 := Aside0.mk (Kd.N_below (by (with_reducible repeat (first | apply Kd.N_alloc | apply Kd.N_drewN | apply Kd.N_drew)); exact (Kd.N_mono (Kd.N_mono (Kd.N_far (p := ⟨gb455, 5, none⟩) (Kd.N_far (p := ⟨gb455, 4, none⟩) (Kd.N_far (p := ⟨gb455, 3, none⟩) (Kd.N_far (p := ⟨gb455, 2, none⟩) (Kd.N_far (p := ⟨gb455, 1, none⟩) (Kd.N_far (p := ⟨gb455, 0, none⟩) (Kd.N_far (p := ⟨gb454, 5, none⟩) (Kd.N_far (p := ⟨gb454, 4, none⟩) (Kd.N_far (p := ⟨gb454, 3, none⟩) (Kd.N_far (p := ⟨gb454, 2, none⟩) (Kd.N_far (p := ⟨gb454, 1, none⟩) (Kd.N_far (p := ⟨gb454, 0, none⟩) (Kd.N_mono (Kd.N_mono HO425.out (fun k_ hk => (⟨hk, hk.1.2⟩ : _ ∧ k_ ≠ gb454))) (fun k_ hk => (⟨hk, hk.1.2⟩ : _ ∧ k_ ≠ gb455))) (fun _ hk => hk.1.2) (.bool t437)) (fun _ hk => hk.1.2) (.bool t438)) (fun _ hk => hk.1.2) (.int .i64 t439)) (fun _ hk => hk.1.2) (.int .i64 t440)) (fun _ hk => hk.1.2) (.int .i64 t441)) (fun _ hk => hk.1.2) (.slice Ao30 t442.length co30)) (fun _ hk => hk.2) (.bool t445)) (fun _ hk => hk.2) (.bool t446)) (fun _ hk => hk.2) (.int .i64 t447)) (fun _ hk => hk.2) (.int .i64 t448)) (fun _ hk => hk.2) (.int .i64 t449)) (fun _ hk => hk.2) (.slice Ao35 t450.length co35)) (fun _ h_ => h_.1)) (fun _ h_ => h_.1))) hb); replace HO433 := Aside0.mk (Kd.N_below (by (with_reducible repeat (first | apply Kd.N_alloc | apply Kd.N_drewN | apply Kd.N_drew)); exact (Kd.N_mono (Kd.N_mono (Kd.N_far (p := ⟨gb455, 5, none⟩) (Kd.N_far (p := ⟨gb455, 4, none⟩) (Kd.N_far (p := ⟨gb455, 3, none⟩) (Kd.N_far (p := ⟨gb455, 2, none⟩) (Kd.N_far (p := ⟨gb455, 1, none⟩) (Kd.N_far (p := ⟨gb455, 0, none⟩) (Kd.N_far (p := ⟨gb454, 5, none⟩) (Kd.N_far (p := ⟨gb454, 4, none⟩) (Kd.N_far (p := ⟨gb454, 3, none⟩) (Kd.N_far (p := ⟨gb454, 2, none⟩) (Kd.N_far (p := ⟨gb454, 1, none⟩) (Kd.N_far (p := ⟨gb454, 0, none⟩) (Kd.N_mono (Kd.N_mono HO433.out (fun k_ hk => (⟨hk, hk.1.2⟩ : _ ∧ k_ ≠ gb454))) (fun k_ hk => (⟨hk, hk.1.2⟩ : _ ∧ k_ ≠ gb455))) (fun _ hk => hk.1.2) (.bool t437)) (fun _ hk => hk.1.2) (.bool t438)) (fun _ hk => hk.1.2) (.int .i64 t439)) (fun _ hk => hk.1.2) (.int .i64 t440)) (fun _ hk => hk.1.2) (.int .i64 t441)) (fun _ hk => hk.1.2) (.slice Ao30 t442.length co30)) (fun _ hk => hk.2) (.bool t445)) (fun _ hk => hk.2) (.bool t446)) (fun _ hk => hk.2) (.int .i64 t447)) (fun _ hk => hk.2) (.int .i64 t448)) (fun _ hk => hk.2) (.int .i64 t449)) (fun _ hk => hk.2) (.slice Ao35 t450.length co35)) (fun _ h_ => h_.1)) (fun _ h_ => h_.1))) hb); replace HO444 := Aside0.mk (Kd.N_below (by (with_reducible repeat (first | apply Kd.N_alloc | apply Kd.N_drewN | apply Kd.N_drew)); exact (Kd.N_mono (Kd.N_mono (Kd.N_far (p := ⟨gb455, 5, none⟩) (Kd.N_far (p := ⟨gb455, 4, none⟩) (Kd.N_far (p := ⟨gb455, 3, none⟩) (Kd.N_far (p := ⟨gb455, 2, none⟩) (Kd.N_far (p := ⟨gb455, 1, none⟩) (Kd.N_far (p := ⟨gb455, 0, none⟩) (Kd.N_far (p := ⟨gb454, 5, none⟩) (Kd.N_far (p := ⟨gb454, 4, none⟩) (Kd.N_far (p := ⟨gb454, 3, none⟩) (Kd.N_far (p := ⟨gb454, 2, none⟩) (Kd.N_far (p := ⟨gb454, 1, none⟩) (Kd.N_far (p := ⟨gb454, 0, none⟩) (Kd.N_mono (Kd.N_mono HO444.out (fun k_ hk => (⟨hk, hk.1.2⟩ : _ ∧ k_ ≠ gb454))) (fun k_ hk => (⟨hk, hk.1.2⟩ : _ ∧ k_ ≠ gb455))) (fun _ hk => hk.1.2) (.bool t437)) (fun _ hk => hk.1.2) (.bool t438)) (fun _ hk => hk.1.2) (.int .i64 t439)) (fun _ hk => hk.1.2) (.int .i64 t440)) (fun _ hk => hk.1.2) (.int .i64 t441)) (fun _ hk => hk.1.2) (.slice Ao30 t442.length co30)) (fun _ hk => hk.2) (.bool t445)) (fun _ hk => hk.2) (.bool t446)) (fun _ hk => hk.2) (.int .i64 t447)) (fun _ hk => hk.2) (.int .i64 t448)) (fun _ hk => hk.2) (.int .i64 t449)) (fun _ hk => hk.2) (.slice Ao35 t450.length co35)) (fun _ h_ => h_.1)) (fun _ h_ => h_.1))) hb); replace HO452 := Aside0.mk (Kd.N_below (by (with_reducible repeat (first | apply Kd.N_alloc | apply Kd.N_drewN | apply Kd.N_drew)); exact (Kd.N_mono (Kd.N_mono (Kd.N_far (p := ⟨gb455, 5, none⟩) (Kd.N_far (p := ⟨gb455, 4, none⟩) (Kd.N_far (p := ⟨gb455, 3, none⟩) (Kd.N_far (p := ⟨gb455, 2, none⟩) (Kd.N_far (p := ⟨gb455, 1, none⟩) (Kd.N_far (p := ⟨gb455, 0, none⟩) (Kd.N_far (p := ⟨gb454, 5, none⟩) (Kd.N_far (p := ⟨gb454, 4, none⟩) (Kd.N_far (p := ⟨gb454, 3, none⟩) (Kd.N_far (p := ⟨gb454, 2, none⟩) (Kd.N_far (p := ⟨gb454, 1, none⟩) (Kd.N_far (p := ⟨gb454, 0, none⟩) (Kd.N_mono (Kd.N_mono HO452.out (fun k_ hk => (⟨hk, hk.1.2⟩ : _ ∧ k_ ≠ gb454))) (fun k_ hk => (⟨hk, hk.1.2⟩ : _ ∧ k_ ≠ gb455))) (fun _ hk => hk.1.2) (.bool t437)) (fun _ hk => hk.1.2) (.bool t438)) (fun _ hk => hk.1.2) (.int .i64 t439)) (fun _ hk => hk.1.2) (.int .i64 t440)) (fun _ hk => hk.1.2) (.int .i64 t441)) (fun _ hk => hk.1.2) (.slice Ao30 t442.length co30)) (fun _ hk => hk.2) (.bool t445)) (fun _ hk => hk.2) (.bool t446)) (fun _ hk => hk.2) (.int .i64 t447)) (fun _ hk => hk.2) (.int .i64 t448)) (fun _ hk => hk.2) (.int .i64 t449)) (fun _ hk => hk.2) (.slice Ao35 t450.length co35)) (fun _ h_ => h_.1)) (fun _ h_ => h_.1))) hb); replace BK417 := tBb BK417 hb; replace BK435 := tBb BK435 hb; replace BK436 := tBb BK436 hb; replace BK454 := tBp (o' := .cells #[.bool t437, .bool t438, .int .i64 t439, .int .i64 t440, .int .i64 t441, .slice Ao30 t442.length co30] 25 (0, 0)) BK454 hb; replace BK455 := tBp (o' := .cells #[.bool t445, .bool t446, .int .i64 t447, .int .i64 t448, .int .i64 t449, .slice Ao35 t450.length co35] 25 (0, 0)) BK455 hb; replace HB := tBs HB hb; (try clear hb); (try clear hb2); (try clear hk); (try clear hi)))
     go_meet
     case rel => exact ⟨_, (true), tr, H', ⟨by first | omega | exact Nat.le_refl _⟩, ⟨tNm HO415.out⟩, ⟨tNm HO425.out⟩, ⟨tNm HO433.out⟩, ⟨tNm HO444.out⟩, ⟨tNm HO452.out⟩, ⟨tH BK417.out⟩, ⟨tH BK435.out⟩, ⟨tH BK436.out⟩, ⟨tH BK454.out⟩, ⟨tH BK455.out⟩, ⟨zb⟩⟩
  case rest =>
   clear HC6
   try clear c2; try clear c2b0; try clear c2b1; try clear hcz16_0; try clear hcz16_1; try clear hcz16_2; try clear hcz16_3; try clear hcz16_4; try clear hcz16_5; try clear hcz19_0; try clear hcz19_1; try clear hcz19_2; try clear hcz19_3; try clear hcz19_4; try clear hcz19_5; try clear hcz21_0; try clear hcz21_1; try clear hcz21_2; try clear hcz21_3; try clear hcz21_4; try clear hcz21_5; try clear hcz29_0; try clear hcz29_1; try clear hcz29_2; try clear hcz29_3; try clear hcz29_4; try clear hcz29_5; try clear hcz34_0; try clear hcz34_1; try clear hcz34_2; try clear hcz34_3; try clear hcz34_4; try clear hcz34_5; try clear hcz9_0; try clear hcz9_1; try clear hcz9_2; try clear hcz9_3; try clear hcz9_4; try clear hcz9_5; try clear hfz16_0; try clear hfz16_1; try clear hfz16_2; try clear hfz16_3; try clear hfz16_4; try clear hfz16_5; try clear hfz19_0; try clear hfz19_1; try clear hfz19_2; try clear hfz19_3; try clear hfz19_4; try clear hfz19_5; try clear hfz21_0; try clear hfz21_1; try clear hfz21_2; try clear hfz21_3; try clear hfz21_4; try clear hfz21_5; try clear hfz29_0; try clear hfz29_1; try clear hfz29_2; try clear hfz29_3; try clear hfz29_4; try clear hfz29_5; try clear hfz34_0; try clear hfz34_1; try clear hfz34_2; try clear hfz34_3; try clear hfz34_4; try clear hfz34_5; try clear hfz9_0; try clear hfz9_1; try clear hfz9_2; try clear hfz9_3; try clear hfz9_4; try clear hfz9_5
   obtain ⟨kq, x57_5, rfl, HA, HJ5, HO_418005, HO_436005, HO_437005, HO_455005, HO_456005, BK417, BK435, BK436, BK454, BK455, HB⟩ := hcut
   cases kq with
   | zero => exact absurd HA.out (by simp [laws_FnCut.j0])
   | succ kj5 =>
    have H := HA.out
    clear HA
    simp only [laws_FnCut.j0] at H
    by_cases c83 : x57_5 = true
    ·subst c83
     rw [if_pos rfl] at H
     by_cases c84 : (t434 == t453) = true
     ·rw [if_pos c84] at H
      have c84b0 : (t434 == t453) = true := c84
      (try (have c84b1 : decide (t434 = t453) = true := by simpa using c84))
      (try (have c84b2 : (t434 == t453) = true := by simpa using c84))
      clear c84
      replace H := tbe H
      obtain ⟨t458, A85, H⟩ := H
      by_cases c86 : t458 = true
      ·subst c86
       rw [if_pos rfl] at H
       replace H := tbe H
       obtain ⟨t459, A87, H⟩ := H
       obtain rfl := Option.some.inj H
       have hnb88 := NB435_417.out
       have hnc88 := NB417_435.out
       have hnb89 := NB435_436.out
       have hnc89 := NB436_435.out
       have hnb90 := NB435_454.out
       have hnc90 := NB454_435.out
       have hnb91 := NB435_455.out
       have hnc91 := NB455_435.out
       obtain ⟨hcz92_0, hcz92_1, hcz92_2, hcz92_3, hcz92_4, hcz92_5, hfz92_0, hfz92_1, hfz92_2, hfz92_3, hfz92_4, hfz92_5⟩ := cells6 BK435.out
       have hnb93 := NB454_417.out
       have hnc93 := NB417_454.out
       have hnb94 := NB454_436.out
       have hnc94 := NB436_454.out
       have hnb95 := NB454_455.out
       have hnc95 := NB455_454.out
       obtain ⟨hcz96_0, hcz96_1, hcz96_2, hcz96_3, hcz96_4, hcz96_5, hfz96_0, hfz96_1, hfz96_2, hfz96_3, hfz96_4, hfz96_5⟩ := cells6 BK454.out
       go_wp2_with (first | (go_at_call 11; (with_reducible refine (laws_sameBatch.calls kj5 t418 t419 t420 t421 t422 _ _ t423 t437 t438 t439 t440 t441 _ _ t442 true _ ?side1 ?side2 ?side3 ?side4 A85.out).mono ?_); (case side1 => repeat (first | exact (Kd.N_reads' HO_436005.out).2.2 | (with_reducible refine Kd.C_alloc ?_ _) | (with_reducible refine Kd.C_drewN ?_ _) | (with_reducible refine Kd.C_drew ?_))); (case side2 => exact (Kd.N_reads' HO_436005.out).2.1); (case side3 => repeat (first | exact (Kd.N_reads' HO_455005.out).2.2 | (with_reducible refine Kd.C_alloc ?_ _) | (with_reducible refine Kd.C_drewN ?_ _) | (with_reducible refine Kd.C_drew ?_))); (case side4 => exact (Kd.N_reads' HO_455005.out).2.1); rintro e w97 ⟨rfl, hb⟩; replace HO_418005 := tNb HO_418005 hb; replace HO_436005 := tNb HO_436005 hb; replace HO_437005 := tNb HO_437005 hb; replace HO_455005 := tNb HO_455005 hb; replace HO_456005 := tNb HO_456005 hb; replace BK417 := tBb BK417 hb; replace BK435 := tBb BK435 hb; replace BK436 := tBb BK436 hb; replace BK454 := tBb BK454 hb; replace BK455 := tBb BK455 hb; replace HB := tBs HB hb; (try clear hb); (try clear hb2); (try clear hk); (try clear hi); have hnb98 := NB436_417.out; have hnc98 := NB417_436.out; have hnb99 := NB436_455.out; have hnc99 := NB455_436.out; obtain ⟨hcz100_0, hcz100_1, hcz100_2, hcz100_3, hcz100_4, hcz100_5, hfz100_0, hfz100_1, hfz100_2, hfz100_3, hfz100_4, hfz100_5⟩ := cells6 BK436.out; have hnb101 := NB455_417.out; have hnc101 := NB417_455.out; obtain ⟨hcz102_0, hcz102_1, hcz102_2, hcz102_3, hcz102_4, hcz102_5, hfz102_0, hfz102_1, hfz102_2, hfz102_3, hfz102_4, hfz102_5⟩ := cells6 BK455.out) | (go_at_call 11; (with_reducible refine (laws_sameBatch.calls kj5 t426 t427 t428 t429 t430 _ _ t431 t445 t446 t447 t448 t449 _ _ t450 t459 _ ?side1 ?side2 ?side3 ?side4 A87.out).mono ?_); (case side1 => repeat (first | exact (Kd.N_reads' HO_437005.out).2.2 | (with_reducible refine Kd.C_alloc ?_ _) | (with_reducible refine Kd.C_drewN ?_ _) | (with_reducible refine Kd.C_drew ?_))); (case side2 => exact (Kd.N_reads' HO_437005.out).2.1); (case side3 => repeat (first | exact (Kd.N_reads' HO_456005.out).2.2 | (with_reducible refine Kd.C_alloc ?_ _) | (with_reducible refine Kd.C_drewN ?_ _) | (with_reducible refine Kd.C_drew ?_))); (case side4 => exact (Kd.N_reads' HO_456005.out).2.1); rintro e w103 ⟨rfl, hb⟩; replace HO_418005 := tNb HO_418005 hb; replace HO_436005 := tNb HO_436005 hb; replace HO_437005 := tNb HO_437005 hb; replace HO_455005 := tNb HO_455005 hb; replace HO_456005 := tNb HO_456005 hb; replace BK417 := tBb BK417 hb; replace BK435 := tBb BK435 hb; replace BK436 := tBb BK436 hb; replace BK454 := tBb BK454 hb; replace BK455 := tBb BK455 hb; replace HB := tBs HB hb; (try clear hb); (try clear hb2); (try clear hk); (try clear hi)))
       all_goals go_ret
       all_goals exact ⟨by first | rfl | (simp [errW_none, errW_some] <;> rfl) | (simp [*, errW_none, errW_some] <;> rfl), zb⟩
      ·replace c86 := Bool.eq_false_iff.mpr c86
       subst c86
       rw [if_neg (show ¬ (false = true) by decide)] at H
       obtain rfl := Option.some.inj H
       have hnb104 := NB435_417.out
       have hnc104 := NB417_435.out
       have hnb105 := NB435_436.out
       have hnc105 := NB436_435.out
       have hnb106 := NB435_454.out
       have hnc106 := NB454_435.out
       have hnb107 := NB435_455.out
       have hnc107 := NB455_435.out
       obtain ⟨hcz108_0, hcz108_1, hcz108_2, hcz108_3, hcz108_4, hcz108_5, hfz108_0, hfz108_1, hfz108_2, hfz108_3, hfz108_4, hfz108_5⟩ := cells6 BK435.out
       have hnb109 := NB454_417.out
       have hnc109 := NB417_454.out
       have hnb110 := NB454_436.out
       have hnc110 := NB436_454.out
       have hnb111 := NB454_455.out
       have hnc111 := NB455_454.out
       obtain ⟨hcz112_0, hcz112_1, hcz112_2, hcz112_3, hcz112_4, hcz112_5, hfz112_0, hfz112_1, hfz112_2, hfz112_3, hfz112_4, hfz112_5⟩ := cells6 BK454.out
       go_wp2_with (first | (go_at_call 11; (with_reducible refine (laws_sameBatch.calls kj5 t418 t419 t420 t421 t422 _ _ t423 t437 t438 t439 t440 t441 _ _ t442 false _ ?side1 ?side2 ?side3 ?side4 A85.out).mono ?_); (case side1 => repeat (first | exact (Kd.N_reads' HO_436005.out).2.2 | (with_reducible refine Kd.C_alloc ?_ _) | (with_reducible refine Kd.C_drewN ?_ _) | (with_reducible refine Kd.C_drew ?_))); (case side2 => exact (Kd.N_reads' HO_436005.out).2.1); (case side3 => repeat (first | exact (Kd.N_reads' HO_455005.out).2.2 | (with_reducible refine Kd.C_alloc ?_ _) | (with_reducible refine Kd.C_drewN ?_ _) | (with_reducible refine Kd.C_drew ?_))); (case side4 => exact (Kd.N_reads' HO_455005.out).2.1); rintro e w113 ⟨rfl, hb⟩; replace HO_418005 := tNb HO_418005 hb; replace HO_436005 := tNb HO_436005 hb; replace HO_437005 := tNb HO_437005 hb; replace HO_455005 := tNb HO_455005 hb; replace HO_456005 := tNb HO_456005 hb; replace BK417 := tBb BK417 hb; replace BK435 := tBb BK435 hb; replace BK436 := tBb BK436 hb; replace BK454 := tBb BK454 hb; replace BK455 := tBb BK455 hb; replace HB := tBs HB hb; (try clear hb); (try clear hb2); (try clear hk); (try clear hi)))
       all_goals go_ret
       all_goals exact ⟨by first | rfl | (simp [errW_none, errW_some] <;> rfl) | (simp [*, errW_none, errW_some] <;> rfl), zb⟩
     ·rw [if_neg c84] at H
      have c84b0 : (t434 == t453) = false := by simpa using c84
      (try (have c84b1 : decide (t434 = t453) = false := by simpa using c84))
      (try (have c84b2 : (t434 == t453) = false := by simpa using c84))
      (try (have c84b3 : ¬ (t434 = t453) := by simpa using c84))
      clear c84
      obtain rfl := Option.some.inj H
      go_wp2
      all_goals go_ret
      all_goals exact ⟨by first | rfl | (simp [errW_none, errW_some] <;> rfl) | (simp [*, errW_none, errW_some] <;> rfl), zb⟩
    ·replace c83 := Bool.eq_false_iff.mpr c83
     subst c83
     rw [if_neg (show ¬ (false = true) by decide)] at H
     replace H := tbe H
     obtain ⟨⟨t460, t461, t462⟩, A114, H⟩ := H
     dsimp only at H
     replace H := tbe H
     obtain ⟨⟨t463, t464, t465⟩, A115, H⟩ := H
     dsimp only at H
     by_cases c116 : t462 = true
     ·subst c116
      rw [if_pos rfl] at H
      by_cases c117 : t465 = true
      ·subst c117
       rw [if_pos rfl] at H
       by_cases c118 : t461 < t416
       ·rw [if_pos c118] at H
        have c118b0 : decide (t461 < t416) = true := decide_eq_true c118
        clear c118
        by_cases c119 : t463 ≥ t416
        ·rw [if_pos c119] at H
         have c119b0 : decide (t416 ≤ t463) = true := decide_eq_true c119
         clear c119
         replace H := tbe H
         obtain ⟨t466, A120, H⟩ := H
         by_cases c121 : t466 = true
         ·subst c121
          rw [if_pos rfl] at H
          replace H := tbe H
          obtain ⟨t467, A122, H⟩ := H
          obtain rfl := Option.some.inj H
          have hnb123 := NB435_417.out
          have hnc123 := NB417_435.out
          have hnb124 := NB435_436.out
          have hnc124 := NB436_435.out
          have hnb125 := NB435_454.out
          have hnc125 := NB454_435.out
          have hnb126 := NB435_455.out
          have hnc126 := NB455_435.out
          obtain ⟨hcz127_0, hcz127_1, hcz127_2, hcz127_3, hcz127_4, hcz127_5, hfz127_0, hfz127_1, hfz127_2, hfz127_3, hfz127_4, hfz127_5⟩ := cells6 BK435.out
          go_wp2_with (first | ((with_reducible refine gate_callee (f := 12) rfl ?_); refine goesL_ (some 73) rfl rfl Tryd.func12 (by kernel_rfl) rfl #[.agg #[.bool t418, .bool t419, .int .i64 t420, .int .i64 t421, .int .i64 t422, .slice Ao17 t423.length co17]] rfl tq ?_; (with_reducible refine (impl_BatchSpan.calls kj5 t418 t419 t420 t421 t422 _ _ t423 t460 t461 true _ ?side1 ?side2 A114.out).mono ?_); (case side1 => repeat (first | exact (Kd.N_reads' HO_436005.out).2.2 | (with_reducible refine Kd.C_alloc ?_ _) | (with_reducible refine Kd.C_drewN ?_ _) | (with_reducible refine Kd.C_drew ?_))); (case side2 => exact (Kd.N_reads' HO_436005.out).2.1); rintro e w128 ⟨rfl, hb⟩; refine ⟨_, rfl, ?_⟩; replace HO_418005 := tNb HO_418005 hb; replace HO_436005 := tNb HO_436005 hb; replace HO_437005 := tNb HO_437005 hb; replace HO_455005 := tNb HO_455005 hb; replace HO_456005 := tNb HO_456005 hb; replace BK417 := tBb BK417 hb; replace BK435 := tBb BK435 hb; replace BK436 := tBb BK436 hb; replace BK454 := tBb BK454 hb; replace BK455 := tBb BK455 hb; replace HB := tBs HB hb; (try clear hb); (try clear hb2); (try clear hk); (try clear hi); have hnb129 := NB436_417.out; have hnc129 := NB417_436.out; have hnb130 := NB436_454.out; have hnc130 := NB454_436.out; have hnb131 := NB436_455.out; have hnc131 := NB455_436.out; obtain ⟨hcz132_0, hcz132_1, hcz132_2, hcz132_3, hcz132_4, hcz132_5, hfz132_0, hfz132_1, hfz132_2, hfz132_3, hfz132_4, hfz132_5⟩ := cells6 BK436.out) | ((with_reducible refine gate_callee (f := 12) rfl ?_); refine goesL_ (some 79) rfl rfl Tryd.func12 (by kernel_rfl) rfl #[.agg #[.bool t426, .bool t427, .int .i64 t428, .int .i64 t429, .int .i64 t430, .slice Ao20 t431.length co20]] rfl tq ?_; (with_reducible refine (impl_BatchSpan.calls kj5 t426 t427 t428 t429 t430 _ _ t431 t463 t464 true _ ?side1 ?side2 A115.out).mono ?_); (case side1 => repeat (first | exact (Kd.N_reads' HO_437005.out).2.2 | (with_reducible refine Kd.C_alloc ?_ _) | (with_reducible refine Kd.C_drewN ?_ _) | (with_reducible refine Kd.C_drew ?_))); (case side2 => exact (Kd.N_reads' HO_437005.out).2.1); rintro e w133 ⟨rfl, hb⟩; refine ⟨_, rfl, ?_⟩; replace HO_418005 := tNb HO_418005 hb; replace HO_436005 := tNb HO_436005 hb; replace HO_437005 := tNb HO_437005 hb; replace HO_455005 := tNb HO_455005 hb; replace HO_456005 := tNb HO_456005 hb; replace BK417 := tBb BK417 hb; replace BK435 := tBb BK435 hb; replace BK436 := tBb BK436 hb; replace BK454 := tBb BK454 hb; replace BK455 := tBb BK455 hb; replace HB := tBs HB hb; (try clear hb); (try clear hb2); (try clear hk); (try clear hi); obtain ⟨hcz134_0, hcz134_1, hcz134_2, hcz134_3, hcz134_4, hcz134_5, hfz134_0, hfz134_1, hfz134_2, hfz134_3, hfz134_4, hfz134_5⟩ := cells6 BK435.out) | (go_at_call 13; (with_reducible refine (impl_BatchValid.calls kj5 t418 t419 t420 t421 t422 _ _ t423 true _ ?side1 ?side2 A120.out).mono ?_); (case side1 => repeat (first | exact (Kd.N_reads' HO_436005.out).2.2 | (with_reducible refine Kd.C_alloc ?_ _) | (with_reducible refine Kd.C_drewN ?_ _) | (with_reducible refine Kd.C_drew ?_))); (case side2 => exact (Kd.N_reads' HO_436005.out).2.1); rintro e w135 ⟨rfl, hb⟩; replace HO_418005 := tNb HO_418005 hb; replace HO_436005 := tNb HO_436005 hb; replace HO_437005 := tNb HO_437005 hb; replace HO_455005 := tNb HO_455005 hb; replace HO_456005 := tNb HO_456005 hb; replace BK417 := tBb BK417 hb; replace BK435 := tBb BK435 hb; replace BK436 := tBb BK436 hb; replace BK454 := tBb BK454 hb; replace BK455 := tBb BK455 hb; replace HB := tBs HB hb; (try clear hb); (try clear hb2); (try clear hk); (try clear hi); obtain ⟨hcz136_0, hcz136_1, hcz136_2, hcz136_3, hcz136_4, hcz136_5, hfz136_0, hfz136_1, hfz136_2, hfz136_3, hfz136_4, hfz136_5⟩ := cells6 BK436.out) | (go_at_call 13; (with_reducible refine (impl_BatchValid.calls kj5 t426 t427 t428 t429 t430 _ _ t431 t467 _ ?side1 ?side2 A122.out).mono ?_); (case side1 => repeat (first | exact (Kd.N_reads' HO_437005.out).2.2 | (with_reducible refine Kd.C_alloc ?_ _) | (with_reducible refine Kd.C_drewN ?_ _) | (with_reducible refine Kd.C_drew ?_))); (case side2 => exact (Kd.N_reads' HO_437005.out).2.1); rintro e w137 ⟨rfl, hb⟩; replace HO_418005 := tNb HO_418005 hb; replace HO_436005 := tNb HO_436005 hb; replace HO_437005 := tNb HO_437005 hb; replace HO_455005 := tNb HO_455005 hb; replace HO_456005 := tNb HO_456005 hb; replace BK417 := tBb BK417 hb; replace BK435 := tBb BK435 hb; replace BK436 := tBb BK436 hb; replace BK454 := tBb BK454 hb; replace BK455 := tBb BK455 hb; replace HB := tBs HB hb; (try clear hb); (try clear hb2); (try clear hk); (try clear hi)))
          all_goals go_ret
          all_goals exact ⟨by first | rfl | (simp [errW_none, errW_some] <;> rfl) | (simp [*, errW_none, errW_some] <;> rfl), zb⟩
         ·replace c121 := Bool.eq_false_iff.mpr c121
          subst c121
          rw [if_neg (show ¬ (false = true) by decide)] at H
          obtain rfl := Option.some.inj H
          have hnb138 := NB435_417.out
          have hnc138 := NB417_435.out
          have hnb139 := NB435_436.out
          have hnc139 := NB436_435.out
          have hnb140 := NB435_454.out
          have hnc140 := NB454_435.out
          have hnb141 := NB435_455.out
          have hnc141 := NB455_435.out
          obtain ⟨hcz142_0, hcz142_1, hcz142_2, hcz142_3, hcz142_4, hcz142_5, hfz142_0, hfz142_1, hfz142_2, hfz142_3, hfz142_4, hfz142_5⟩ := cells6 BK435.out
          go_wp2_with (first | ((with_reducible refine gate_callee (f := 12) rfl ?_); refine goesL_ (some 73) rfl rfl Tryd.func12 (by kernel_rfl) rfl #[.agg #[.bool t418, .bool t419, .int .i64 t420, .int .i64 t421, .int .i64 t422, .slice Ao17 t423.length co17]] rfl tq ?_; (with_reducible refine (impl_BatchSpan.calls kj5 t418 t419 t420 t421 t422 _ _ t423 t460 t461 true _ ?side1 ?side2 A114.out).mono ?_); (case side1 => repeat (first | exact (Kd.N_reads' HO_436005.out).2.2 | (with_reducible refine Kd.C_alloc ?_ _) | (with_reducible refine Kd.C_drewN ?_ _) | (with_reducible refine Kd.C_drew ?_))); (case side2 => exact (Kd.N_reads' HO_436005.out).2.1); rintro e w143 ⟨rfl, hb⟩; refine ⟨_, rfl, ?_⟩; replace HO_418005 := tNb HO_418005 hb; replace HO_436005 := tNb HO_436005 hb; replace HO_437005 := tNb HO_437005 hb; replace HO_455005 := tNb HO_455005 hb; replace HO_456005 := tNb HO_456005 hb; replace BK417 := tBb BK417 hb; replace BK435 := tBb BK435 hb; replace BK436 := tBb BK436 hb; replace BK454 := tBb BK454 hb; replace BK455 := tBb BK455 hb; replace HB := tBs HB hb; (try clear hb); (try clear hb2); (try clear hk); (try clear hi); have hnb144 := NB436_417.out; have hnc144 := NB417_436.out; have hnb145 := NB436_454.out; have hnc145 := NB454_436.out; have hnb146 := NB436_455.out; have hnc146 := NB455_436.out; obtain ⟨hcz147_0, hcz147_1, hcz147_2, hcz147_3, hcz147_4, hcz147_5, hfz147_0, hfz147_1, hfz147_2, hfz147_3, hfz147_4, hfz147_5⟩ := cells6 BK436.out) | ((with_reducible refine gate_callee (f := 12) rfl ?_); refine goesL_ (some 79) rfl rfl Tryd.func12 (by kernel_rfl) rfl #[.agg #[.bool t426, .bool t427, .int .i64 t428, .int .i64 t429, .int .i64 t430, .slice Ao20 t431.length co20]] rfl tq ?_; (with_reducible refine (impl_BatchSpan.calls kj5 t426 t427 t428 t429 t430 _ _ t431 t463 t464 true _ ?side1 ?side2 A115.out).mono ?_); (case side1 => repeat (first | exact (Kd.N_reads' HO_437005.out).2.2 | (with_reducible refine Kd.C_alloc ?_ _) | (with_reducible refine Kd.C_drewN ?_ _) | (with_reducible refine Kd.C_drew ?_))); (case side2 => exact (Kd.N_reads' HO_437005.out).2.1); rintro e w148 ⟨rfl, hb⟩; refine ⟨_, rfl, ?_⟩; replace HO_418005 := tNb HO_418005 hb; replace HO_436005 := tNb HO_436005 hb; replace HO_437005 := tNb HO_437005 hb; replace HO_455005 := tNb HO_455005 hb; replace HO_456005 := tNb HO_456005 hb; replace BK417 := tBb BK417 hb; replace BK435 := tBb BK435 hb; replace BK436 := tBb BK436 hb; replace BK454 := tBb BK454 hb; replace BK455 := tBb BK455 hb; replace HB := tBs HB hb; (try clear hb); (try clear hb2); (try clear hk); (try clear hi); obtain ⟨hcz149_0, hcz149_1, hcz149_2, hcz149_3, hcz149_4, hcz149_5, hfz149_0, hfz149_1, hfz149_2, hfz149_3, hfz149_4, hfz149_5⟩ := cells6 BK435.out) | (go_at_call 13; (with_reducible refine (impl_BatchValid.calls kj5 t418 t419 t420 t421 t422 _ _ t423 false _ ?side1 ?side2 A120.out).mono ?_); (case side1 => repeat (first | exact (Kd.N_reads' HO_436005.out).2.2 | (with_reducible refine Kd.C_alloc ?_ _) | (with_reducible refine Kd.C_drewN ?_ _) | (with_reducible refine Kd.C_drew ?_))); (case side2 => exact (Kd.N_reads' HO_436005.out).2.1); rintro e w150 ⟨rfl, hb⟩; replace HO_418005 := tNb HO_418005 hb; replace HO_436005 := tNb HO_436005 hb; replace HO_437005 := tNb HO_437005 hb; replace HO_455005 := tNb HO_455005 hb; replace HO_456005 := tNb HO_456005 hb; replace BK417 := tBb BK417 hb; replace BK435 := tBb BK435 hb; replace BK436 := tBb BK436 hb; replace BK454 := tBb BK454 hb; replace BK455 := tBb BK455 hb; replace HB := tBs HB hb; (try clear hb); (try clear hb2); (try clear hk); (try clear hi)))
          all_goals go_ret
          all_goals exact ⟨by first | rfl | (simp [errW_none, errW_some] <;> rfl) | (simp [*, errW_none, errW_some] <;> rfl), zb⟩
        ·rw [if_neg c119] at H
         have c119b0 : decide (t416 ≤ t463) = false := decide_eq_false c119
         clear c119
         obtain rfl := Option.some.inj H
         have hnb151 := NB435_417.out
         have hnc151 := NB417_435.out
         have hnb152 := NB435_436.out
         have hnc152 := NB436_435.out
         have hnb153 := NB435_454.out
         have hnc153 := NB454_435.out
         have hnb154 := NB435_455.out
         have hnc154 := NB455_435.out
         obtain ⟨hcz155_0, hcz155_1, hcz155_2, hcz155_3, hcz155_4, hcz155_5, hfz155_0, hfz155_1, hfz155_2, hfz155_3, hfz155_4, hfz155_5⟩ := cells6 BK435.out
         go_wp2_with (first | ((with_reducible refine gate_callee (f := 12) rfl ?_); refine goesL_ (some 73) rfl rfl Tryd.func12 (by kernel_rfl) rfl #[.agg #[.bool t418, .bool t419, .int .i64 t420, .int .i64 t421, .int .i64 t422, .slice Ao17 t423.length co17]] rfl tq ?_; (with_reducible refine (impl_BatchSpan.calls kj5 t418 t419 t420 t421 t422 _ _ t423 t460 t461 true _ ?side1 ?side2 A114.out).mono ?_); (case side1 => repeat (first | exact (Kd.N_reads' HO_436005.out).2.2 | (with_reducible refine Kd.C_alloc ?_ _) | (with_reducible refine Kd.C_drewN ?_ _) | (with_reducible refine Kd.C_drew ?_))); (case side2 => exact (Kd.N_reads' HO_436005.out).2.1); rintro e w156 ⟨rfl, hb⟩; refine ⟨_, rfl, ?_⟩; replace HO_418005 := tNb HO_418005 hb; replace HO_436005 := tNb HO_436005 hb; replace HO_437005 := tNb HO_437005 hb; replace HO_455005 := tNb HO_455005 hb; replace HO_456005 := tNb HO_456005 hb; replace BK417 := tBb BK417 hb; replace BK435 := tBb BK435 hb; replace BK436 := tBb BK436 hb; replace BK454 := tBb BK454 hb; replace BK455 := tBb BK455 hb; replace HB := tBs HB hb; (try clear hb); (try clear hb2); (try clear hk); (try clear hi); have hnb157 := NB436_417.out; have hnc157 := NB417_436.out; have hnb158 := NB436_454.out; have hnc158 := NB454_436.out; have hnb159 := NB436_455.out; have hnc159 := NB455_436.out; obtain ⟨hcz160_0, hcz160_1, hcz160_2, hcz160_3, hcz160_4, hcz160_5, hfz160_0, hfz160_1, hfz160_2, hfz160_3, hfz160_4, hfz160_5⟩ := cells6 BK436.out) | ((with_reducible refine gate_callee (f := 12) rfl ?_); refine goesL_ (some 79) rfl rfl Tryd.func12 (by kernel_rfl) rfl #[.agg #[.bool t426, .bool t427, .int .i64 t428, .int .i64 t429, .int .i64 t430, .slice Ao20 t431.length co20]] rfl tq ?_; (with_reducible refine (impl_BatchSpan.calls kj5 t426 t427 t428 t429 t430 _ _ t431 t463 t464 true _ ?side1 ?side2 A115.out).mono ?_); (case side1 => repeat (first | exact (Kd.N_reads' HO_437005.out).2.2 | (with_reducible refine Kd.C_alloc ?_ _) | (with_reducible refine Kd.C_drewN ?_ _) | (with_reducible refine Kd.C_drew ?_))); (case side2 => exact (Kd.N_reads' HO_437005.out).2.1); rintro e w161 ⟨rfl, hb⟩; refine ⟨_, rfl, ?_⟩; replace HO_418005 := tNb HO_418005 hb; replace HO_436005 := tNb HO_436005 hb; replace HO_437005 := tNb HO_437005 hb; replace HO_455005 := tNb HO_455005 hb; replace HO_456005 := tNb HO_456005 hb; replace BK417 := tBb BK417 hb; replace BK435 := tBb BK435 hb; replace BK436 := tBb BK436 hb; replace BK454 := tBb BK454 hb; replace BK455 := tBb BK455 hb; replace HB := tBs HB hb; (try clear hb); (try clear hb2); (try clear hk); (try clear hi)))
         all_goals go_ret
         all_goals exact ⟨by first | rfl | (simp [errW_none, errW_some] <;> rfl) | (simp [*, errW_none, errW_some] <;> rfl), zb⟩
       ·rw [if_neg c118] at H
        have c118b0 : decide (t461 < t416) = false := decide_eq_false c118
        clear c118
        obtain rfl := Option.some.inj H
        have hnb162 := NB435_417.out
        have hnc162 := NB417_435.out
        have hnb163 := NB435_436.out
        have hnc163 := NB436_435.out
        have hnb164 := NB435_454.out
        have hnc164 := NB454_435.out
        have hnb165 := NB435_455.out
        have hnc165 := NB455_435.out
        obtain ⟨hcz166_0, hcz166_1, hcz166_2, hcz166_3, hcz166_4, hcz166_5, hfz166_0, hfz166_1, hfz166_2, hfz166_3, hfz166_4, hfz166_5⟩ := cells6 BK435.out
        go_wp2_with (first | ((with_reducible refine gate_callee (f := 12) rfl ?_); refine goesL_ (some 73) rfl rfl Tryd.func12 (by kernel_rfl) rfl #[.agg #[.bool t418, .bool t419, .int .i64 t420, .int .i64 t421, .int .i64 t422, .slice Ao17 t423.length co17]] rfl tq ?_; (with_reducible refine (impl_BatchSpan.calls kj5 t418 t419 t420 t421 t422 _ _ t423 t460 t461 true _ ?side1 ?side2 A114.out).mono ?_); (case side1 => repeat (first | exact (Kd.N_reads' HO_436005.out).2.2 | (with_reducible refine Kd.C_alloc ?_ _) | (with_reducible refine Kd.C_drewN ?_ _) | (with_reducible refine Kd.C_drew ?_))); (case side2 => exact (Kd.N_reads' HO_436005.out).2.1); rintro e w167 ⟨rfl, hb⟩; refine ⟨_, rfl, ?_⟩; replace HO_418005 := tNb HO_418005 hb; replace HO_436005 := tNb HO_436005 hb; replace HO_437005 := tNb HO_437005 hb; replace HO_455005 := tNb HO_455005 hb; replace HO_456005 := tNb HO_456005 hb; replace BK417 := tBb BK417 hb; replace BK435 := tBb BK435 hb; replace BK436 := tBb BK436 hb; replace BK454 := tBb BK454 hb; replace BK455 := tBb BK455 hb; replace HB := tBs HB hb; (try clear hb); (try clear hb2); (try clear hk); (try clear hi); have hnb168 := NB436_417.out; have hnc168 := NB417_436.out; have hnb169 := NB436_454.out; have hnc169 := NB454_436.out; have hnb170 := NB436_455.out; have hnc170 := NB455_436.out; obtain ⟨hcz171_0, hcz171_1, hcz171_2, hcz171_3, hcz171_4, hcz171_5, hfz171_0, hfz171_1, hfz171_2, hfz171_3, hfz171_4, hfz171_5⟩ := cells6 BK436.out) | ((with_reducible refine gate_callee (f := 12) rfl ?_); refine goesL_ (some 79) rfl rfl Tryd.func12 (by kernel_rfl) rfl #[.agg #[.bool t426, .bool t427, .int .i64 t428, .int .i64 t429, .int .i64 t430, .slice Ao20 t431.length co20]] rfl tq ?_; (with_reducible refine (impl_BatchSpan.calls kj5 t426 t427 t428 t429 t430 _ _ t431 t463 t464 true _ ?side1 ?side2 A115.out).mono ?_); (case side1 => repeat (first | exact (Kd.N_reads' HO_437005.out).2.2 | (with_reducible refine Kd.C_alloc ?_ _) | (with_reducible refine Kd.C_drewN ?_ _) | (with_reducible refine Kd.C_drew ?_))); (case side2 => exact (Kd.N_reads' HO_437005.out).2.1); rintro e w172 ⟨rfl, hb⟩; refine ⟨_, rfl, ?_⟩; replace HO_418005 := tNb HO_418005 hb; replace HO_436005 := tNb HO_436005 hb; replace HO_437005 := tNb HO_437005 hb; replace HO_455005 := tNb HO_455005 hb; replace HO_456005 := tNb HO_456005 hb; replace BK417 := tBb BK417 hb; replace BK435 := tBb BK435 hb; replace BK436 := tBb BK436 hb; replace BK454 := tBb BK454 hb; replace BK455 := tBb BK455 hb; replace HB := tBs HB hb; (try clear hb); (try clear hb2); (try clear hk); (try clear hi)))
        all_goals go_ret
        all_goals exact ⟨by first | rfl | (simp [errW_none, errW_some] <;> rfl) | (simp [*, errW_none, errW_some] <;> rfl), zb⟩
      ·replace c117 := Bool.eq_false_iff.mpr c117
       subst c117
       rw [if_neg (show ¬ (false = true) by decide)] at H
       obtain rfl := Option.some.inj H
       have hnb173 := NB435_417.out
       have hnc173 := NB417_435.out
       have hnb174 := NB435_436.out
       have hnc174 := NB436_435.out
       have hnb175 := NB435_454.out
       have hnc175 := NB454_435.out
       have hnb176 := NB435_455.out
       have hnc176 := NB455_435.out
       obtain ⟨hcz177_0, hcz177_1, hcz177_2, hcz177_3, hcz177_4, hcz177_5, hfz177_0, hfz177_1, hfz177_2, hfz177_3, hfz177_4, hfz177_5⟩ := cells6 BK435.out
       go_wp2_with (first | ((with_reducible refine gate_callee (f := 12) rfl ?_); refine goesL_ (some 73) rfl rfl Tryd.func12 (by kernel_rfl) rfl #[.agg #[.bool t418, .bool t419, .int .i64 t420, .int .i64 t421, .int .i64 t422, .slice Ao17 t423.length co17]] rfl tq ?_; (with_reducible refine (impl_BatchSpan.calls kj5 t418 t419 t420 t421 t422 _ _ t423 t460 t461 true _ ?side1 ?side2 A114.out).mono ?_); (case side1 => repeat (first | exact (Kd.N_reads' HO_436005.out).2.2 | (with_reducible refine Kd.C_alloc ?_ _) | (with_reducible refine Kd.C_drewN ?_ _) | (with_reducible refine Kd.C_drew ?_))); (case side2 => exact (Kd.N_reads' HO_436005.out).2.1); rintro e w178 ⟨rfl, hb⟩; refine ⟨_, rfl, ?_⟩; replace HO_418005 := tNb HO_418005 hb; replace HO_436005 := tNb HO_436005 hb; replace HO_437005 := tNb HO_437005 hb; replace HO_455005 := tNb HO_455005 hb; replace HO_456005 := tNb HO_456005 hb; replace BK417 := tBb BK417 hb; replace BK435 := tBb BK435 hb; replace BK436 := tBb BK436 hb; replace BK454 := tBb BK454 hb; replace BK455 := tBb BK455 hb; replace HB := tBs HB hb; (try clear hb); (try clear hb2); (try clear hk); (try clear hi); have hnb179 := NB436_417.out; have hnc179 := NB417_436.out; have hnb180 := NB436_454.out; have hnc180 := NB454_436.out; have hnb181 := NB436_455.out; have hnc181 := NB455_436.out; obtain ⟨hcz182_0, hcz182_1, hcz182_2, hcz182_3, hcz182_4, hcz182_5, hfz182_0, hfz182_1, hfz182_2, hfz182_3, hfz182_4, hfz182_5⟩ := cells6 BK436.out) | ((with_reducible refine gate_callee (f := 12) rfl ?_); refine goesL_ (some 79) rfl rfl Tryd.func12 (by kernel_rfl) rfl #[.agg #[.bool t426, .bool t427, .int .i64 t428, .int .i64 t429, .int .i64 t430, .slice Ao20 t431.length co20]] rfl tq ?_; (with_reducible refine (impl_BatchSpan.calls kj5 t426 t427 t428 t429 t430 _ _ t431 t463 t464 false _ ?side1 ?side2 A115.out).mono ?_); (case side1 => repeat (first | exact (Kd.N_reads' HO_437005.out).2.2 | (with_reducible refine Kd.C_alloc ?_ _) | (with_reducible refine Kd.C_drewN ?_ _) | (with_reducible refine Kd.C_drew ?_))); (case side2 => exact (Kd.N_reads' HO_437005.out).2.1); rintro e w183 ⟨rfl, hb⟩; refine ⟨_, rfl, ?_⟩; replace HO_418005 := tNb HO_418005 hb; replace HO_436005 := tNb HO_436005 hb; replace HO_437005 := tNb HO_437005 hb; replace HO_455005 := tNb HO_455005 hb; replace HO_456005 := tNb HO_456005 hb; replace BK417 := tBb BK417 hb; replace BK435 := tBb BK435 hb; replace BK436 := tBb BK436 hb; replace BK454 := tBb BK454 hb; replace BK455 := tBb BK455 hb; replace HB := tBs HB hb; (try clear hb); (try clear hb2); (try clear hk); (try clear hi)))
       all_goals go_ret
       all_goals exact ⟨by first | rfl | (simp [errW_none, errW_some] <;> rfl) | (simp [*, errW_none, errW_some] <;> rfl), zb⟩
     ·replace c116 := Bool.eq_false_iff.mpr c116
      subst c116
      rw [if_neg (show ¬ (false = true) by decide)] at H
      obtain rfl := Option.some.inj H
      have hnb184 := NB435_417.out
      have hnc184 := NB417_435.out
      have hnb185 := NB435_436.out
      have hnc185 := NB436_435.out
      have hnb186 := NB435_454.out
      have hnc186 := NB454_435.out
      have hnb187 := NB435_455.out
      have hnc187 := NB455_435.out
      obtain ⟨hcz188_0, hcz188_1, hcz188_2, hcz188_3, hcz188_4, hcz188_5, hfz188_0, hfz188_1, hfz188_2, hfz188_3, hfz188_4, hfz188_5⟩ := cells6 BK435.out
      go_wp2_with (first | ((with_reducible refine gate_callee (f := 12) rfl ?_); refine goesL_ (some 73) rfl rfl Tryd.func12 (by kernel_rfl) rfl #[.agg #[.bool t418, .bool t419, .int .i64 t420, .int .i64 t421, .int .i64 t422, .slice Ao17 t423.length co17]] rfl tq ?_; (with_reducible refine (impl_BatchSpan.calls kj5 t418 t419 t420 t421 t422 _ _ t423 t460 t461 false _ ?side1 ?side2 A114.out).mono ?_); (case side1 => repeat (first | exact (Kd.N_reads' HO_436005.out).2.2 | (with_reducible refine Kd.C_alloc ?_ _) | (with_reducible refine Kd.C_drewN ?_ _) | (with_reducible refine Kd.C_drew ?_))); (case side2 => exact (Kd.N_reads' HO_436005.out).2.1); rintro e w189 ⟨rfl, hb⟩; refine ⟨_, rfl, ?_⟩; replace HO_418005 := tNb HO_418005 hb; replace HO_436005 := tNb HO_436005 hb; replace HO_437005 := tNb HO_437005 hb; replace HO_455005 := tNb HO_455005 hb; replace HO_456005 := tNb HO_456005 hb; replace BK417 := tBb BK417 hb; replace BK435 := tBb BK435 hb; replace BK436 := tBb BK436 hb; replace BK454 := tBb BK454 hb; replace BK455 := tBb BK455 hb; replace HB := tBs HB hb; (try clear hb); (try clear hb2); (try clear hk); (try clear hi); have hnb190 := NB436_417.out; have hnc190 := NB417_436.out; have hnb191 := NB436_454.out; have hnc191 := NB454_436.out; have hnb192 := NB436_455.out; have hnc192 := NB455_436.out; obtain ⟨hcz193_0, hcz193_1, hcz193_2, hcz193_3, hcz193_4, hcz193_5, hfz193_0, hfz193_1, hfz193_2, hfz193_3, hfz193_4, hfz193_5⟩ := cells6 BK436.out) | ((with_reducible refine gate_callee (f := 12) rfl ?_); refine goesL_ (some 79) rfl rfl Tryd.func12 (by kernel_rfl) rfl #[.agg #[.bool t426, .bool t427, .int .i64 t428, .int .i64 t429, .int .i64 t430, .slice Ao20 t431.length co20]] rfl tq ?_; (with_reducible refine (impl_BatchSpan.calls kj5 t426 t427 t428 t429 t430 _ _ t431 t463 t464 t465 _ ?side1 ?side2 A115.out).mono ?_); (case side1 => repeat (first | exact (Kd.N_reads' HO_437005.out).2.2 | (with_reducible refine Kd.C_alloc ?_ _) | (with_reducible refine Kd.C_drewN ?_ _) | (with_reducible refine Kd.C_drew ?_))); (case side2 => exact (Kd.N_reads' HO_437005.out).2.1); rintro e w194 ⟨rfl, hb⟩; refine ⟨_, rfl, ?_⟩; replace HO_418005 := tNb HO_418005 hb; replace HO_436005 := tNb HO_436005 hb; replace HO_437005 := tNb HO_437005 hb; replace HO_455005 := tNb HO_455005 hb; replace HO_456005 := tNb HO_456005 hb; replace BK417 := tBb BK417 hb; replace BK435 := tBb BK435 hb; replace BK436 := tBb BK436 hb; replace BK454 := tBb BK454 hb; replace BK455 := tBb BK455 hb; replace HB := tBs HB hb; (try clear hb); (try clear hb2); (try clear hk); (try clear hi)))
      all_goals go_ret
      all_goals exact ⟨by first | rfl | (simp [errW_none, errW_some] <;> rfl) | (simp [*, errW_none, errW_some] <;> rfl), zb⟩

end Go.Proofs.YtahenocndacjeaaDoor.G

namespace Go.Proofs.YtahenocndacjeaaDoor.Rd
open Go.RowKit Go.Proofs.YtahenocndacjeaaDoorW.PrintWords
set_option linter.unusedVariables false
section
variable {H : Type} {enc : TypeId × Value → H} {P : Program} {w : World} {base : Nat} {spare : Nat → Bool} {held : Bool}
/-- What a reading of type t gives: a value of the kind, and what is known of it. -/
def Opens (enc : TypeId × Value → H) (P : Program) (w : World) (base : Nat) (spare : Nat → Bool) (held : Bool) {α : Type} (t : TypeId) (d : Kd α) (ok : α → Prop) : Prop :=
  P.cellsOf t = d.sz ∧ ∀ fuel cs x, DataW.trod enc P w base spare held fuel t cs = some x → ∃ v, d.K w v cs ∧ ok v
theorem Opens.imp_ {α : Type} {t : TypeId} {d : Kd α} {ok ok' : α → Prop} (h : Opens enc P w base spare held t d ok) (hi : ∀ v, ok v → ok' v) : Opens enc P w base spare held t d ok' :=
  ⟨h.1, fun fuel cs x hx => by
    obtain ⟨v, hk, ho⟩ := h.2 fuel cs x hx
    exact ⟨v, hk, hi v ho⟩⟩
theorem opens_int {t : TypeId} {k : IntKind} (ht : P.underlying t = some (.int k)) (hc : P.cellsOf t = 1) : Opens enc P w base spare held t (Kd.int k) (fun n => (Lit.int k n).wf = true) := by
  refine ⟨hc, fun fuel cs x h => ?_⟩
  obtain ⟨n, rfl, _, hw⟩ := DataW.trod_int ht h
  exact ⟨n, rfl, hw⟩
theorem cells_len {base : Nat} {a : Addr} {n : Nat} {cs : List Value} (h : w.cells? base a n = some cs) : cs.length = n ∧ ∀ i u, cs[i]? = some u → w.cell? (a.add i) = some u := by
  unfold World.cells? at h
  split at h
  · rename_i hb
    refine ⟨by simpa using mapM_some_length h, fun i u hu => ?_⟩
    have hi : i < n := by
      have := (List.getElem?_eq_some_iff.1 hu).1
      have h2 : cs.length = n := by simpa using mapM_some_length h
      omega
    have := mapM_some_get h i i (by simp [hi])
    rw [hu] at this
    exact this
  · simp at h
theorem opens_row {α : Type} {t e : TypeId} {d : Kd α} {ok : α → Prop} (ht : P.underlying t = some (.slice e)) (hd : Opens enc P w base spare held e d ok) {fuel : Nat} {cs : List Value} {x : DataW H × List MemPlace}
    (h : DataW.trod enc P w base spare held fuel t cs = some x) : ∃ (A : Option Addr) (c : Nat) (xs : List α), cs = [.slice A xs.length c] ∧ xs.length ≤ c ∧ c ≤ maxLen ∧ d.C w A xs.length xs ∧ ∀ y ∈ xs, ok y := by
  rcases Go.Deep.open_slice ht h with ⟨rfl, _⟩ | ⟨a, len, cap, m, n, D, Pl, rfl, hb, hl, hm, hmm, _, hel⟩
  · exact ⟨none, 0, [], rfl, Nat.le_refl _, by unfold maxLen; omega, ⟨rfl, by simp, fun h0 => absurd h0 (by simp)⟩, by simp⟩
  have hlm : len ≤ m := by rw [hmm]; split <;> omega
  have hx : ∀ i, i < len → ∃ y : α, ok y ∧ ∃ c, c.length = d.sz ∧ d.K w y c ∧ ∀ j u, c[j]? = some u → w.cell? (a.add (i * d.sz + j)) = some u := by
    intro i hi
    obtain ⟨cs', h1, h2⟩ := hel i (by omega)
    obtain ⟨y, hk, ho⟩ := hd.2 _ _ _ h2
    obtain ⟨hl', hc'⟩ := cells_len h1
    refine ⟨y, ho, cs', by rw [hl', hd.1], hk, fun j u hu => ?_⟩
    have := hc' j u hu
    rw [Go.Deep.add_add, hd.1] at this
    exact this
  rcases Nat.eq_zero_or_pos len with h0 | h0
  · subst h0
    exact ⟨some a, cap, [], rfl, Nat.zero_le _, hm, ⟨rfl, by simp, fun h1 => absurd h1 (by simp)⟩, by simp⟩
  obtain ⟨y0, _⟩ := hx 0 h0
  haveI : Inhabited α := ⟨y0⟩
  obtain ⟨g, hg⟩ := Go.Deep.choose_lt hx
  have hlen : ((List.range len).map g).length = len := by simp
  refine ⟨some a, cap, (List.range len).map g, by rw [hlen], by rw [hlen]; exact hl, hm, ⟨rfl, by rw [hlen]; unfold maxLen at hm; omega, fun _ => ⟨a, rfl, fun j p hj => ?_⟩⟩, fun y hy => ?_⟩
  · have hj' : j < len := by
      have := (List.getElem?_eq_some_iff.1 hj).1
      omega
    rw [List.getElem?_map, List.getElem?_range hj'] at hj
    simp at hj
    subst hj
    obtain ⟨_, c, hc1, hc2, hc3⟩ := hg j hj'
    exact ⟨c, hc1, hc2, hc3⟩
  · obtain ⟨i, hi, rfl⟩ := List.mem_map.1 hy
    exact (hg i (List.mem_range.1 hi)).1
end
end Go.Proofs.YtahenocndacjeaaDoor.Rd

namespace Go.Proofs.YtahenocndacjeaaDoor.OFnCut
open Go.RowKit Go.Proofs.YtahenocndacjeaaDoorW.PrintWords Go.Proofs.YtahenocndacjeaaDoor.G
set_option linter.unusedVariables false
def Pure : Prop := ∀ (l0 : List Int), l0.length ≤ maxLen → (∀ y ∈ l0, (Lit.int .u8 y).wf = true) → ∃ k, laws_FnCut.f k l0 = some true
end Go.Proofs.YtahenocndacjeaaDoor.OFnCut

namespace Go.Proofs.YtahenocndacjeaaDoor.Pu
open Go.RowKit Go.Proofs.YtahenocndacjeaaDoorW.PrintWords Go.Proofs.YtahenocndacjeaaDoorW.PrintLast Go.Proofs.YtahenocndacjeaaDoorW.PrintMore Go.Proofs.YtahenocndacjeaaDoor.G
set_option linter.unusedVariables false
set_option linter.unusedSimpArgs false
abbrev RT := S41
abbrev BT := S25
def aheadL (l : List RT) (o : Int) : List RT := l.filter fun r => decide (r.f0 < o)
def behindL (l : List RT) (o : Int) : List RT := l.filter fun r => !decide (r.f0 < o)
theorem aheadL_cons (x : RT) (l : List RT) (o : Int) : aheadL (x :: l) o = if x.f0 < o then x :: aheadL l o else aheadL l o := by
  unfold aheadL
  rw [List.filter_cons]
  by_cases h : x.f0 < o <;> simp [h]
theorem behindL_cons (x : RT) (l : List RT) (o : Int) : behindL (x :: l) o = if x.f0 < o then behindL l o else x :: behindL l o := by
  unfold behindL
  rw [List.filter_cons]
  by_cases h : x.f0 < o <;> simp [h]
abbrev CutT := Bool × Bool × Int × Int × Int × List RT × Bool × Bool × Int × Int × Int × List RT × Option Int
def cutFin (p : Bool) (a b : List RT) : CutT := if a = [] ∨ b = [] then (false, false, 0, 0, 0, [], false, false, 0, 0, 0, [], some 1) else (p, false, 255, 0, 0, a, p, false, 255, 0, 0, b, none)
theorem copyOf_ev (x : RT) (h : x.f3.length ≤ 12 ∧ x.f5.length ≤ 12) : impl_Record_copyOf.f x.f0 x.f1 x.f2 x.f3 x.f4 x.f5 = some (x.f0, x.f1, x.f2, x.f3, x.f4, x.f5) := by
  simp only [impl_Record_copyOf.f, slices_Clone_int_int.f]
  rw [if_pos (by omega), if_pos (by omega)]
  rfl
theorem cut_loop (l : List RT) (o : Int) (p : Bool) (hl : l.length ≤ 6) (hr : ∀ r ∈ l, r.f3.length ≤ 12 ∧ r.f5.length ≤ 12) : ∀ d i (xs ys : List RT), l.length - i = d → i ≤ l.length → xs.length + ys.length = i →
    Ev (fun k => impl_Batch_cut.l0 k o l (l.length : Int) (i : Int) p false 255 0 0 xs p false 255 0 0 ys) (cutFin p (xs ++ aheadL (l.drop i) o) (ys ++ behindL (l.drop i) o)) := by
  intro d
  induction d with
  | zero =>
    intro i xs ys hd hi hx
    refine Ev.step (fun k => by rw [impl_Batch_cut.l0]) ?_
    rw [List.drop_of_length_le (by omega)]
    simp only [aheadL, behindL, List.filter_nil, List.append_nil, if_neg (show ¬ (i : Int) < (l.length : Int) by omega)]
    by_cases h1 : xs = []
    · have h0 : (xs.length : Int) = 0 := by rw [h1]; rfl
      rw [show cutFin p xs ys = (false, false, 0, 0, 0, [], false, false, 0, 0, 0, [], some 1) by unfold cutFin; rw [if_pos (.inl h1)]]
      simp only [if_pos h0]
      exact Ev.now _
    · have h1' : ¬ ((xs.length : Int) = 0) := by have := List.length_pos_iff.2 h1; omega
      simp only [if_neg h1']
      by_cases h2 : ys = []
      · have h0 : (ys.length : Int) = 0 := by rw [h2]; rfl
        rw [show cutFin p xs ys = (false, false, 0, 0, 0, [], false, false, 0, 0, 0, [], some 1) by unfold cutFin; rw [if_pos (.inr h2)]]
        simp only [if_pos h0]
        exact Ev.now _
      · have h2' : ¬ ((ys.length : Int) = 0) := by have := List.length_pos_iff.2 h2; omega
        rw [show cutFin p xs ys = (p, false, 255, 0, 0, xs, p, false, 255, 0, 0, ys, none) by unfold cutFin; rw [if_neg (by simp [h1, h2])]]
        simp only [if_neg h2']
        exact Ev.now _
  | succ d ih =>
    intro i xs ys hd hi hx
    have hlt : i < l.length := by omega
    refine Ev.step (fun k => by rw [impl_Batch_cut.l0]) ?_
    simp only [if_pos (show (i : Int) < (l.length : Int) by omega), if_pos (show (0 : Int) ≤ (i : Int) by omega), rdR_nat l i hlt, copyOf_ev _ (hr _ (List.getElem_mem hlt)), bindS, w64 (a := (i : Int) + 1) (by omega) (by omega)]
    rw [List.drop_eq_getElem_cons hlt]
    by_cases hc : l[i].f0 < o
    · simp only [if_pos hc, if_pos (show xs.length < 1759218604441 by omega)]
      have := ih (i + 1) (xs ++ [l[i]]) ys (by omega) (by omega) (by simp; omega)
      have e1 : xs ++ aheadL (l[i] :: l.drop (i + 1)) o = (xs ++ [l[i]]) ++ aheadL (l.drop (i + 1)) o := by rw [aheadL_cons, if_pos hc, List.append_assoc]; rfl
      have e2 : behindL (l[i] :: l.drop (i + 1)) o = behindL (l.drop (i + 1)) o := by rw [behindL_cons, if_pos hc]
      rw [e1, e2]
      exact this
    · simp only [if_neg hc, if_pos (show ys.length < 1759218604441 by omega)]
      have := ih (i + 1) xs (ys ++ [l[i]]) (by omega) (by omega) (by simp; omega)
      have e1 : ys ++ behindL (l[i] :: l.drop (i + 1)) o = (ys ++ [l[i]]) ++ behindL (l.drop (i + 1)) o := by rw [behindL_cons, if_neg hc, List.append_assoc]; rfl
      have e2 : aheadL (l[i] :: l.drop (i + 1)) o = aheadL (l.drop (i + 1)) o := by rw [aheadL_cons, if_neg hc]
      rw [e1, e2]
      exact this
def cutV (b : BT) (o : Int) : CutT := if (batOk b && decide (b.f2 = 255)) = true then cutFin b.f0 (aheadL b.f5 o) (behindL b.f5 o) else (false, false, 0, 0, 0, [], false, false, 0, 0, 0, [], some 1)
theorem cut_ev (b : BT) (o : Int) : Ev (fun k => impl_Batch_cut.f k b.f0 b.f1 b.f2 b.f3 b.f4 b.f5 o) (cutV b o) := by
  unfold impl_Batch_cut.f cutV
  simp only [impl_BatchValid.f, bindS]
  cases hv : batOk b
  · simp only [Bool.false_eq_true, if_false, Bool.false_and]
    refine Ev.step (fun k => by rw [impl_Batch_cut.j0]) ?_
    exact Ev.now _
  · simp only [if_true, Bool.true_and]
    refine Ev.step (fun k => by rw [impl_Batch_cut.j0]) ?_
    by_cases h : b.f2 = 255
    · simp only [h, bne_self_eq_false, Bool.false_eq_true, if_false, decide_true, if_true]
      have hlen := batOk_len hv
      have hrec : ∀ r ∈ b.f5, r.f3.length ≤ 12 ∧ r.f5.length ≤ 12 := fun r hr => by
        obtain ⟨i, hi, rfl⟩ := List.getElem_of_mem hr
        exact recOk_len (batOk_rec hv i hi)
      have := cut_loop b.f5 o b.f0 hlen.2 hrec _ 0 [] [] rfl (by omega) (by simp)
      simpa using this
    · simp only [show (b.f2 != 255) = true by simp [h], if_true, decide_eq_false h, Bool.false_eq_true, if_false]
      exact Ev.now _
abbrev BCutT := Bool × Bool × Int × Int × Int × List RT × Bool × Bool × Int × Int × Int × List RT × Bool
def cutGood (b : BT) (o : Int) : Bool := (batOk b && decide (b.f2 = 255)) && (!(aheadL b.f5 o).isEmpty && !(behindL b.f5 o).isEmpty)
def bcutV (b : BT) (o : Int) : BCutT := if cutGood b o = true then (b.f0, false, 255, 0, 0, aheadL b.f5 o, b.f0, false, 255, 0, 0, behindL b.f5 o, true) else (false, false, 0, 0, 0, [], false, false, 0, 0, 0, [], false)
theorem BatchCut_ev (b : BT) (o : Int) : Ev (fun k => impl_BatchCut.f k b.f0 b.f1 b.f2 b.f3 b.f4 b.f5 o) (bcutV b o) := by
  unfold impl_BatchCut.f
  refine Ev.bind (cut_ev b o) ?_
  unfold bcutV cutGood cutV
  cases hv : (batOk b && decide (b.f2 = 255))
  · simp only [Bool.false_eq_true, if_false, Bool.false_and, errors_Is.f, if_true, bindS]
    exact Ev.now _
  · simp only [if_true, Bool.true_and, cutFin]
    by_cases h : aheadL b.f5 o = [] ∨ behindL b.f5 o = []
    · have h' : (!(aheadL b.f5 o).isEmpty && !(behindL b.f5 o).isEmpty) = false := by
        rcases h with h | h <;> simp [h]
      simp only [if_pos h, h', errors_Is.f, if_true, bindS, Bool.false_eq_true, if_false]
      exact Ev.now _
    · have h' : (!(aheadL b.f5 o).isEmpty && !(behindL b.f5 o).isEmpty) = true := by
        rw [not_or] at h
        simp [h.1, h.2]
      simp only [if_neg h, h', errors_Is.f, bindS, Bool.false_eq_true, if_false, if_true]
      exact Ev.now _
end Go.Proofs.YtahenocndacjeaaDoor.Pu

namespace Go.Proofs.YtahenocndacjeaaDoor.Pu
open Go.RowKit Go.Proofs.YtahenocndacjeaaDoorW.PrintWords Go.Proofs.YtahenocndacjeaaDoorW.PrintLast Go.Proofs.YtahenocndacjeaaDoorW.PrintMore Go.Proofs.YtahenocndacjeaaDoor.G
set_option linter.unusedVariables false
set_option linter.unusedSimpArgs false
def ShortR (l : List RT) : Prop := l.length ≤ 6 ∧ ∀ r ∈ l, r.f3.length ≤ 12 ∧ r.f5.length ≤ 12
theorem short_of {b : BT} (h : batOk b = true) : ShortR b.f5 := ⟨(batOk_len h).2, fun r hr => by
  obtain ⟨i, hi, rfl⟩ := List.getElem_of_mem hr
  exact recOk_len (batOk_rec h i hi)⟩
theorem l12Copy_ev (x : RT) (h : x.f3.length ≤ 12 ∧ x.f5.length ≤ 12) : spec_l12Copy.f x.f0 x.f1 x.f2 x.f3 x.f4 x.f5 = some (x.f0, x.f1, x.f2, x.f3, x.f4, x.f5) := by
  unfold spec_l12Copy.f
  simp only [bindS, List.length_nil, List.nil_append]
  rw [if_pos (by omega), if_pos (by omega)]
theorem free_loop (p : Bool) (l : List RT) (h : ShortR l) : ∀ d i, l.length - i = d → i ≤ l.length → Ev (fun k => spec_l31Free.l0 k l (i : Int) p false 255 0 0 (l.take i)) (p, false, 255, 0, 0, l) := by
  intro d
  induction d with
  | zero =>
    intro i hd hi
    refine Ev.step (fun k => by rw [spec_l31Free.l0]) ?_
    simp only [if_neg (show ¬ (i : Int) < (l.length : Int) by omega), List.take_of_length_le (show l.length ≤ i by omega)]
    exact Ev.now _
  | succ d ih =>
    intro i hd hi
    have hlt : i < l.length := by omega
    have hl := h.1
    refine Ev.step (fun k => by rw [spec_l31Free.l0]) ?_
    simp only [if_pos (show (i : Int) < (l.length : Int) by omega), if_pos (show (0 : Int) ≤ (i : Int) by omega), rdR_nat l i hlt, l12Copy_ev _ (h.2 _ (List.getElem_mem hlt)), bindS, w64 (a := (i : Int) + 1) (by omega) (by omega), if_pos (show (l.take i).length < 1759218604441 by rw [List.length_take]; omega)]
    have := ih (i + 1) (by omega) (by omega)
    rw [← List.take_append_getElem hlt] at this
    exact this
theorem free_ev (p : Bool) (l : List RT) (h : ShortR l) : Ev (fun k => spec_l31Free.f k p l) (p, false, 255, 0, 0, l) := by
  unfold spec_l31Free.f
  have := free_loop p l h _ 0 rfl (by omega)
  simpa using this
theorem ShortR.take {l : List RT} (h : ShortR l) (n : Nat) : ShortR (l.take n) := ⟨by rw [List.length_take]; have := h.1; omega, fun r hr => h.2 r (List.mem_of_mem_take hr)⟩
theorem ShortR.drop {l : List RT} (h : ShortR l) (n : Nat) : ShortR (l.drop n) := ⟨by rw [List.length_drop]; have := h.1; omega, fun r hr => h.2 r (List.mem_of_mem_drop hr)⟩
end Go.Proofs.YtahenocndacjeaaDoor.Pu

namespace Go.Proofs.YtahenocndacjeaaDoor.Pu
open Go.RowKit Go.Proofs.YtahenocndacjeaaDoorW.PrintWords Go.Proofs.YtahenocndacjeaaDoorW.PrintLast Go.Proofs.YtahenocndacjeaaDoorW.PrintMore Go.Proofs.YtahenocndacjeaaDoor.G
set_option linter.unusedVariables false
set_option linter.unusedSimpArgs false
/-- Offsets that grow. -/
def Inc : List RT → Prop
  | [] => True
  | x :: l => (∀ y ∈ l, x.f0 < y.f0) ∧ Inc l
theorem inc_of : ∀ (l : List RT), (∀ i (h : i + 1 < l.length), l[i].f0 < l[i + 1].f0) → Inc l
  | [], _ => trivial
  | [x], _ => ⟨fun y hy => by simp at hy, trivial⟩
  | x :: z :: l, h => by
    have h1 := inc_of (z :: l) fun i hi => h (i + 1) (by simp only [List.length_cons] at hi ⊢; omega)
    have h0 : x.f0 < z.f0 := h 0 (by simp)
    refine ⟨fun y hy => ?_, h1⟩
    rcases List.mem_cons.1 hy with rfl | hy
    · exact h0
    · have := h1.1 y hy
      omega
theorem inc_bat {b : BT} (h : batOk b = true) : Inc b.f5 := by
  refine inc_of _ fun i hi => ?_
  unfold batOk at h
  simp only [Bool.and_eq_true] at h
  have := List.all_eq_true.1 h.2.2.2 (i + 1) (by simp [List.mem_range']; omega)
  unfold recStep at this
  rw [rdR_nat b.f5 (i + 1) hi, show ((i + 1 : Nat) : Int) - 1 = (i : Int) by omega, rdR_nat b.f5 i (by omega)] at this
  simpa using (Bool.and_eq_true_iff.1 this).2
/-- How many lie ahead of an offset, from the first one on. -/
def cutAt (l : List RT) (o : Int) : Nat := (l.takeWhile fun r => decide (r.f0 < o)).length
theorem cutAt_cons (x : RT) (l : List RT) (o : Int) : cutAt (x :: l) o = if x.f0 < o then cutAt l o + 1 else 0 := by
  unfold cutAt
  rw [List.takeWhile_cons]
  by_cases h : x.f0 < o <;> simp [h]
theorem cutAt_le : ∀ (l : List RT) (o : Int), cutAt l o ≤ l.length
  | [], _ => by simp [cutAt]
  | x :: l, o => by
    rw [cutAt_cons]
    have := cutAt_le l o
    split <;> simp <;> omega
theorem cut_parts : ∀ (l : List RT) (o : Int), Inc l → aheadL l o = l.take (cutAt l o) ∧ behindL l o = l.drop (cutAt l o)
  | [], _, _ => by simp [aheadL, behindL, cutAt]
  | x :: l, o, h => by
    rw [cutAt_cons, aheadL_cons, behindL_cons]
    obtain ⟨h1, h2⟩ := cut_parts l o h.2
    by_cases hc : x.f0 < o
    · rw [if_pos hc, if_pos hc, if_pos hc, h1, h2]
      exact ⟨rfl, rfl⟩
    · rw [if_neg hc, if_neg hc, if_neg hc]
      have ha : aheadL l o = [] := List.filter_eq_nil_iff.2 fun y hy => by have := h.1 y hy; simp; omega
      have hb : behindL l o = l := List.filter_eq_self.2 fun y hy => by have := h.1 y hy; simp; omega
      rw [ha, hb]
      exact ⟨rfl, rfl⟩
theorem sCut_loop (p b1 : Bool) (b2 b3 b4 : Int) (l : List RT) (o : Int) (hl : l.length ≤ 6) {r : BCutT} (hj : Ev (fun k => spec_BatchCut.j2 k ((cutAt l o : Nat) : Int) p b1 b2 b3 b4 l) r) : ∀ d i, l.length - i = d → i ≤ l.length → i + cutAt (l.drop i) o = cutAt l o →
    Ev (fun k => spec_BatchCut.l0 k o (i : Int) p b1 b2 b3 b4 l) r := by
  intro d
  induction d with
  | zero =>
    intro i hd hi hc
    refine Ev.step (fun k => by rw [spec_BatchCut.l0]) ?_
    simp only [if_neg (show ¬ (i : Int) < (l.length : Int) by omega)]
    rw [List.drop_of_length_le (by omega)] at hc
    have : i = cutAt l o := by simpa [cutAt] using hc
    rw [this]
    exact hj
  | succ d ih =>
    intro i hd hi hc
    have hlt : i < l.length := by omega
    refine Ev.step (fun k => by rw [spec_BatchCut.l0]) ?_
    simp only [if_pos (show (i : Int) < (l.length : Int) by omega), if_pos (show (0 : Int) ≤ (i : Int) by omega), rdR_nat l i hlt, w64 (a := (i : Int) + 1) (by omega) (by omega)]
    rw [List.drop_eq_getElem_cons hlt, cutAt_cons] at hc
    by_cases h : l[i].f0 < o
    · simp only [if_pos h]
      rw [if_pos h] at hc
      exact ih (i + 1) (by omega) (by omega) (by omega)
    · simp only [if_neg h]
      rw [if_neg h] at hc
      have : i = cutAt l o := by omega
      rw [this]
      exact hj
theorem sBatchCut_ev (b : BT) (o : Int) : Ev (fun k => spec_BatchCut.f k b.f0 b.f1 b.f2 b.f3 b.f4 b.f5 o) (bcutV b o) := by
  unfold spec_BatchCut.f
  simp only [spec_BatchValid.f, bindS]
  unfold bcutV cutGood
  cases hv : batOk b
  · simp only [Bool.false_eq_true, if_false, Bool.false_and]
    refine Ev.step (fun k => by rw [spec_BatchCut.j0]) ?_
    exact Ev.now _
  · simp only [if_true, Bool.true_and]
    refine Ev.step (fun k => by rw [spec_BatchCut.j0]) ?_
    by_cases h : b.f2 = 255
    · have hS := short_of hv
      have hle := cutAt_le b.f5 o
      obtain ⟨e1, e2⟩ := cut_parts b.f5 o (inc_bat hv)
      rw [e1, e2]
      simp only [h, bne_self_eq_false, Bool.false_eq_true, if_false, decide_true, Bool.true_and]
      refine sCut_loop _ _ _ _ _ _ _ hS.1 ?_ _ 0 rfl (by omega) (by simp)
      refine Ev.step (fun k => by rw [spec_BatchCut.j2]) ?_
      have hb : (!(b.f5.take (cutAt b.f5 o)).isEmpty && !(b.f5.drop (cutAt b.f5 o)).isEmpty) = (!decide (cutAt b.f5 o = 0) && !decide (cutAt b.f5 o = b.f5.length)) := by
        have h0 := hS.1
        have h1 := (batOk_len hv).1
        congr 1
        · by_cases hz : cutAt b.f5 o = 0
          · simp [hz]
          · have : b.f5.take (cutAt b.f5 o) ≠ [] := fun e => by have := congrArg List.length e; rw [List.length_take, List.length_nil] at this; omega
            simp [hz, List.isEmpty_eq_false_iff.2 this]
        · by_cases hz : cutAt b.f5 o = b.f5.length
          · simp [hz]
          · have : b.f5.drop (cutAt b.f5 o) ≠ [] := fun e => by have := congrArg List.length e; rw [List.length_drop, List.length_nil] at this; omega
            simp [hz, List.isEmpty_eq_false_iff.2 this]
      rw [hb]
      by_cases h0 : cutAt b.f5 o = 0
      · simp only [if_pos (show ((cutAt b.f5 o : Nat) : Int) = 0 by omega), decide_eq_true h0, Bool.not_true, Bool.false_and, Bool.false_eq_true, if_false]
        refine Ev.step (fun k => by rw [spec_BatchCut.j3]) ?_
        simp only [if_true]
        exact Ev.now _
      · simp only [if_neg (show ¬ ((cutAt b.f5 o : Nat) : Int) = 0 by omega), decide_eq_false h0, Bool.not_false, Bool.true_and]
        refine Ev.step (fun k => by rw [spec_BatchCut.j3]) ?_
        by_cases h1 : cutAt b.f5 o = b.f5.length
        · simp only [show (((cutAt b.f5 o : Nat) : Int) == (b.f5.length : Int)) = true by rw [beq_iff_eq]; omega, if_true, decide_eq_true h1, Bool.not_true, Bool.false_eq_true, if_false]
          exact Ev.now _
        · simp only [show (((cutAt b.f5 o : Nat) : Int) == (b.f5.length : Int)) = false by rw [beq_eq_false_iff_ne]; omega, Bool.false_eq_true, if_false, decide_eq_false h1, Bool.not_false, if_true, if_pos (show (0 : Int) ≤ ((cutAt b.f5 o : Nat) : Int) by omega), if_pos (show ((cutAt b.f5 o : Nat) : Int) ≤ (b.f5.length : Int) by omega), Int.toNat_natCast]
          refine Ev.bind (free_ev _ _ (hS.take _)) ?_
          refine Ev.bind (free_ev _ _ (hS.drop _)) ?_
          exact Ev.now _
    · simp only [show (b.f2 != 255) = true by simp [h], if_true, decide_eq_false h, Bool.false_and, Bool.false_eq_true, if_false]
      exact Ev.now _
end Go.Proofs.YtahenocndacjeaaDoor.Pu

namespace Go.Proofs.YtahenocndacjeaaDoor.Pu
open Go.RowKit Go.Proofs.YtahenocndacjeaaDoorW.PrintWords Go.Proofs.YtahenocndacjeaaDoorW.PrintLast Go.Proofs.YtahenocndacjeaaDoorW.PrintMore Go.Proofs.YtahenocndacjeaaDoor.G
theorem BatchValid_ev (b : S25) (_ : RowR b.f5) : Ev (fun k => impl_BatchValid.f k b.f0 b.f1 b.f2 b.f3 b.f4 b.f5) (batOk b) := Ev.now _
end Go.Proofs.YtahenocndacjeaaDoor.Pu

namespace Go.Proofs.YtahenocndacjeaaDoor.Pu
open Go.RowKit Go.Proofs.YtahenocndacjeaaDoorW.PrintWords Go.Proofs.YtahenocndacjeaaDoorW.PrintLast Go.Proofs.YtahenocndacjeaaDoorW.PrintMore Go.Proofs.YtahenocndacjeaaDoor.G
set_option linter.unusedVariables false
set_option linter.unusedSimpArgs false
theorem firstOf_eq {b : S25} (h : 0 < b.f5.length) : firstOf b = b.f5[0].f0 := by
  unfold firstOf
  rw [show (0 : Int) = ((0 : Nat) : Int) from rfl, rdR_nat b.f5 0 h]
theorem lastOf_eq {b : S25} (h : 0 < b.f5.length) : lastOf b = (b.f5[b.f5.length - 1]'(by omega)).f0 := by
  unfold lastOf
  rw [show (b.f5.length : Int) - 1 = ((b.f5.length - 1 : Nat) : Int) by omega, rdR_nat b.f5 _ (by omega)]
end Go.Proofs.YtahenocndacjeaaDoor.Pu

namespace Go.Proofs.YtahenocndacjeaaDoor.Pu
open Go.RowKit Go.Proofs.YtahenocndacjeaaDoorW.PrintWords Go.Proofs.YtahenocndacjeaaDoorW.PrintLast Go.Proofs.YtahenocndacjeaaDoorW.PrintMore Go.Proofs.YtahenocndacjeaaDoor.G
set_option linter.unusedVariables false
set_option linter.unusedSimpArgs false
theorem inc_filter (p : RT → Bool) : ∀ (l : List RT), Inc l → Inc (l.filter p)
  | [], _ => trivial
  | x :: l, h => by
    rw [List.filter_cons]
    split
    · exact ⟨fun y hy => h.1 y (List.mem_filter.1 hy).1, inc_filter p l h.2⟩
    · exact inc_filter p l h.2
theorem inc_step : ∀ (l : List RT), Inc l → ∀ (j : Nat) (hj : j + 1 < l.length), l[j].f0 < l[j + 1].f0
  | [], _, j, hj => by simp at hj
  | x :: l, h, 0, hj => h.1 _ (List.getElem_mem (l := l) (n := 0) (by simpa using hj))
  | x :: l, h, j + 1, hj => inc_step l h.2 j (by simpa using hj)
theorem recsInc_of (l : List RT) (h : ∀ r ∈ l, recOk r = true) (hi : Inc l) : recsInc l = true := incs_of fun j hj => by
  unfold recStep
  rw [rdR_nat l j hj, h _ (List.getElem_mem hj), Bool.true_and]
  rcases j with _ | j
  · simp
  · rw [show ((j + 1 : Nat) : Int) - 1 = (j : Int) by omega, rdR_nat l j (by omega), decide_eq_true (inc_step l hi j hj), Bool.or_true]
def freeB (p : Bool) (l : List RT) : BT := ⟨p, false, 255, 0, 0, l⟩
theorem free_ok {p : Bool} {l : List RT} (hr : ∀ r ∈ l, recOk r = true) (hi : Inc l) (h1 : 1 ≤ l.length) (h6 : l.length ≤ 6) : batOk (freeB p l) = true := by
  unfold batOk headOk lenOk freeB
  simp only [recsInc_of l hr hi, if_true, decide_true, Bool.not_false, Bool.true_or, Bool.and_true, Bool.true_and, Bool.and_eq_true, decide_eq_true_eq]
  omega
theorem bat_recs {b : BT} (h : batOk b = true) : ∀ r ∈ b.f5, recOk r = true := fun r hr => by
  obtain ⟨i, hi, rfl⟩ := List.getElem_of_mem hr
  exact batOk_rec h i hi
theorem good_parts {b : BT} {o : Int} (h : cutGood b o = true) : batOk b = true ∧ b.f2 = 255 ∧ aheadL b.f5 o ≠ [] ∧ behindL b.f5 o ≠ [] := by
  unfold cutGood at h
  simp only [Bool.and_eq_true, Bool.not_eq_true', decide_eq_true_eq] at h
  exact ⟨h.1.1, h.1.2, fun e => by rw [e] at h; simp at h, fun e => by rw [e] at h; simp at h⟩
theorem part_ok {b : BT} {o : Int} (p : RT → Bool) (h : cutGood b o = true) (hn : b.f5.filter p ≠ []) : batOk (freeB b.f0 (b.f5.filter p)) = true := by
  have hb := (good_parts h).1
  refine free_ok (fun r hr => bat_recs hb r (List.mem_filter.1 hr).1) (inc_filter p _ (inc_bat hb)) (List.length_pos_iff.2 hn) ?_
  have := (batOk_len hb).2
  have := List.length_filter_le p b.f5
  omega
theorem ahead_ok {b : BT} {o : Int} (h : cutGood b o = true) : batOk (freeB b.f0 (aheadL b.f5 o)) = true := part_ok _ h (good_parts h).2.2.1
theorem behind_ok {b : BT} {o : Int} (h : cutGood b o = true) : batOk (freeB b.f0 (behindL b.f5 o)) = true := part_ok _ h (good_parts h).2.2.2
theorem ahead_lt {b : BT} {o : Int} (h : cutGood b o = true) : lastOf (freeB b.f0 (aheadL b.f5 o)) < o := by
  have hn := (batOk_len (ahead_ok h)).1
  rw [lastOf_eq (by omega)]
  have := (List.mem_filter.1 (List.getElem_mem (l := aheadL b.f5 o) (n := (aheadL b.f5 o).length - 1) (by simp only [freeB] at hn; omega))).2
  simpa [freeB] using this
theorem behind_ge {b : BT} {o : Int} (h : cutGood b o = true) : o ≤ firstOf (freeB b.f0 (behindL b.f5 o)) := by
  have hn := (batOk_len (behind_ok h)).1
  rw [firstOf_eq (by omega)]
  have := (List.mem_filter.1 (List.getElem_mem (l := behindL b.f5 o) (n := 0) (by simp only [freeB] at hn; omega))).2
  simpa [freeB] using this
theorem short_row {l : List RT} (h : ShortR l) : RowR l := ⟨by have := h.1; omega, fun r hr => by have := h.2 r hr; exact ⟨by omega, by omega⟩⟩
theorem short_filter {l : List RT} (p : RT → Bool) (h : ShortR l) : ShortR (l.filter p) := ⟨Nat.le_trans (List.length_filter_le p l) h.1, fun r hr => h.2 r (List.mem_filter.1 hr).1⟩
end Go.Proofs.YtahenocndacjeaaDoor.Pu

namespace Go.Proofs.YtahenocndacjeaaDoor.Pu
open Go.RowKit Go.Proofs.YtahenocndacjeaaDoorW.PrintWords Go.Proofs.YtahenocndacjeaaDoorW.PrintLast Go.Proofs.YtahenocndacjeaaDoorW.PrintMore Go.Proofs.YtahenocndacjeaaDoor.G
set_option linter.unusedVariables false
set_option linter.unusedSimpArgs false
theorem selfInts (l : List Int) (hl : l.length ≤ 9223372036854775807) : Ev (fun k => laws_sameInts.f k l l) true := by
  unfold laws_sameInts.f
  simp only [if_true]
  have := ev_all l hl (fun k i => laws_sameInts.l0 k l l i) (fun k i => some true) (fun _ => true) true
    (fun k => by simp only [laws_sameInts.l0]; rw [if_neg (by omega)])
    (fun k i h => by simp only [laws_sameInts.l0]; rw [if_pos (by omega), if_pos (by omega), if_pos (by omega), if_pos trivial]; rfl)
    (fun i h => Ev.now _) l.length 0 (by omega) (by omega)
  rw [show ((l.drop 0).all fun _ => true) = true from List.all_eq_true.2 (fun _ _ => rfl)] at this
  simpa using this
theorem selfRecord (x : S41) (h : Lens x) : Ev (fun k => laws_sameRecord.f k x.f0 x.f1 x.f2 x.f3 x.f4 x.f5 x.f0 x.f1 x.f2 x.f3 x.f4 x.f5) true := by
  unfold laws_sameRecord.f
  simp only [if_true, beq_self_eq_true]
  refine Ev.bind (selfInts _ h.1) ?_
  simp only [if_true]
  exact Ev.bind (selfInts _ h.2) (Ev.now _)
theorem selfRecords (l : List S41) (h : RowR l) : Ev (fun k => laws_sameRecords.f k l l) true := by
  unfold laws_sameRecords.f
  simp only [if_true]
  have := ev_all l h.1 (fun k i => laws_sameRecords.l0 k l l i) (fun k i => laws_sameRecord.f k (rd_T41 l i).f0 (rd_T41 l i).f1 (rd_T41 l i).f2 (rd_T41 l i).f3 (rd_T41 l i).f4 (rd_T41 l i).f5 (rd_T41 l i).f0 (rd_T41 l i).f1 (rd_T41 l i).f2 (rd_T41 l i).f3 (rd_T41 l i).f4 (rd_T41 l i).f5) (fun _ => true) true
    (fun k => by simp only [laws_sameRecords.l0]; rw [if_neg (by omega)])
    (fun k i h => by simp only [laws_sameRecords.l0]; rw [if_pos (by omega), if_pos (by omega), if_pos (by omega)])
    (fun i hi => by rw [rdR_nat l i hi]; exact selfRecord _ (h.2 _ (List.getElem_mem hi))) l.length 0 (by omega) (by omega)
  rw [show ((l.drop 0).all fun _ => true) = true from List.all_eq_true.2 (fun _ _ => rfl)] at this
  simpa using this
theorem selfBatch (b : S25) (h : RowR b.f5) : Ev (fun k => laws_sameBatch.f k b.f0 b.f1 b.f2 b.f3 b.f4 b.f5 b.f0 b.f1 b.f2 b.f3 b.f4 b.f5) true := by
  unfold laws_sameBatch.f
  simp only [if_true, beq_self_eq_true]
  exact Ev.bind (selfRecords _ h) (Ev.now _)
end Go.Proofs.YtahenocndacjeaaDoor.Pu

namespace Go.Proofs.YtahenocndacjeaaDoor.Pu
open Go.RowKit Go.Proofs.YtahenocndacjeaaDoorW.PrintWords Go.Proofs.YtahenocndacjeaaDoorW.PrintLast Go.Proofs.YtahenocndacjeaaDoorW.PrintMore Go.Proofs.YtahenocndacjeaaDoor.G
set_option linter.unusedVariables false
set_option linter.unusedSimpArgs false
theorem BatchSpan_ev (b : S25) (hb : RowR b.f5) : Ev (fun k => impl_BatchSpan.f k b.f0 b.f1 b.f2 b.f3 b.f4 b.f5) (if batOk b = true then (firstOf b, lastOf b, true) else (0, 0, false)) := by
  unfold impl_BatchSpan.f
  refine Ev.bind (BatchValid_ev b hb) ?_
  cases h : batOk b
  · simp only [Bool.false_eq_true, if_false]
    exact Ev.now _
  · have hn := batOk_len h
    simp only [if_true]
    unfold impl_Batch_first.f impl_Batch_last.f
    simp only [if_pos (show (0 : Int) < (b.f5.length : Int) by omega), w64 (a := (b.f5.length : Int) - 1) (by omega) (by omega), if_pos (show (0 : Int) ≤ (b.f5.length : Int) - 1 by omega), if_pos (show (b.f5.length : Int) - 1 < (b.f5.length : Int) by omega), bindS]
    exact Ev.now _
end Go.Proofs.YtahenocndacjeaaDoor.Pu

