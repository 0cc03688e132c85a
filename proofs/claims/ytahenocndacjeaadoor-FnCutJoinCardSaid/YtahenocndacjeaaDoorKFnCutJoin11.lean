/- A text of seat YtahenocndacjeaaDoor: what the law FnCutJoin needs of this repo's texts (by pack.py). Not trusted: Lean checks it. -/
import Derived.Test.YtahenocndacjeaaDoorKFnCutJoin10
import Derived.Deep.Slices
import Derived.SizedLaws
import Derived.Laws.BitsLemmas
namespace Go.Proofs.YtahenocndacjeaaDoor.G
open Go.RowKit Go.Proofs.YtahenocndacjeaaDoorW.PrintWords Go.Proofs.YtahenocndacjeaaDoorW.PrintLast Go.Proofs.YtahenocndacjeaaDoorW.PrintMore
attribute [local go_sem] max2_int min2_int max_two min_two max_three min_three max_four min_four   -- for this text's walks alone
set_option linter.unusedVariables false
set_option linter.unusedSimpArgs false

def laws_FnCutJoin.j0 : Nat → Bool → Bool → Bool → Bool → Bool → Int → Int → Int → List (S41) → Bool → Bool → Int → Int → Int → List (S41) → Bool → Bool → Int → Int → Int → List (S41) → Bool → Bool → Int → Int → Int → List (S41) → Bool → Bool → Int → Int → Int → List (S41) → Option (Bool)
 | 0, _, _, _, _, _, _, _, _, _, _, _, _, _, _, _, _, _, _, _, _, _, _, _, _, _, _, _, _, _, _, _, _, _ => none
 | k + 1, x7, x10, x53, x536000, x536001, x536002, x536003, x536004, x536005, x554000, x554001, x554002, x554003, x554004, x554005, x555000, x555001, x555002, x555003, x555004, x555005, x573000, x573001, x573002, x573003, x573004, x573005, x574000, x574001, x574002, x574003, x574004, x574005 => if x53 = true then (if (x7 == x10) = true then ((laws_sameBatch.f k x554000 x554001 x554002 x554003 x554004 x554005 x573000 x573001 x573002 x573003 x573004 x573005).bind fun t576 => (if t576 = true then ((laws_sameBatch.f k x555000 x555001 x555002 x555003 x555004 x555005 x574000 x574001 x574002 x574003 x574004 x574005).bind fun t577 => (some t577)) else (some false))) else (some false)) else ((impl_BatchJoin.f k x554000 x554001 x554002 x554003 x554004 x554005 x555000 x555001 x555002 x555003 x555004 x555005).bind fun bt578 => (if bt578.2.2.2.2.2.2 = true then ((laws_sameBatch.f k bt578.1 bt578.2.1 bt578.2.2.1 bt578.2.2.2.1 bt578.2.2.2.2.1 bt578.2.2.2.2.2.1 x536000 x536001 x536002 x536003 x536004 x536005).bind fun t588 => (some t588)) else (some false)))
def laws_FnCutJoin.f (k : Nat) (l0 : List Int) : Option (Bool) := if (l0.length : Int) > 1048576 then (some true) else ((spec_DrawBatchCut.f k l0).bind fun bt526 => ((impl_BatchCut.f k bt526.1 bt526.2.1 bt526.2.2.1 bt526.2.2.2.1 bt526.2.2.2.2.1 bt526.2.2.2.2.2.1 bt526.2.2.2.2.2.2).bind fun bt536 => ((spec_BatchCut.f k bt526.1 bt526.2.1 bt526.2.2.1 bt526.2.2.2.1 bt526.2.2.2.2.1 bt526.2.2.2.2.2.1 bt526.2.2.2.2.2.2).bind fun bt555 => (if (bt536.2.2.2.2.2.2.2.2.2.2.2.2 != bt555.2.2.2.2.2.2.2.2.2.2.2.2) = true then (laws_FnCutJoin.j0 k bt536.2.2.2.2.2.2.2.2.2.2.2.2 bt555.2.2.2.2.2.2.2.2.2.2.2.2 true bt526.1 bt526.2.1 bt526.2.2.1 bt526.2.2.2.1 bt526.2.2.2.2.1 bt526.2.2.2.2.2.1 bt536.1 bt536.2.1 bt536.2.2.1 bt536.2.2.2.1 bt536.2.2.2.2.1 bt536.2.2.2.2.2.1 bt536.2.2.2.2.2.2.1 bt536.2.2.2.2.2.2.2.1 bt536.2.2.2.2.2.2.2.2.1 bt536.2.2.2.2.2.2.2.2.2.1 bt536.2.2.2.2.2.2.2.2.2.2.1 bt536.2.2.2.2.2.2.2.2.2.2.2.1 bt555.1 bt555.2.1 bt555.2.2.1 bt555.2.2.2.1 bt555.2.2.2.2.1 bt555.2.2.2.2.2.1 bt555.2.2.2.2.2.2.1 bt555.2.2.2.2.2.2.2.1 bt555.2.2.2.2.2.2.2.2.1 bt555.2.2.2.2.2.2.2.2.2.1 bt555.2.2.2.2.2.2.2.2.2.2.1 bt555.2.2.2.2.2.2.2.2.2.2.2.1) else ((laws_sameBatch.f k bt536.1 bt536.2.1 bt536.2.2.1 bt536.2.2.2.1 bt536.2.2.2.2.1 bt536.2.2.2.2.2.1 bt555.1 bt555.2.1 bt555.2.2.1 bt555.2.2.2.1 bt555.2.2.2.2.1 bt555.2.2.2.2.2.1).bind fun t574 => (if t574 = true then ((laws_sameBatch.f k bt536.2.2.2.2.2.2.1 bt536.2.2.2.2.2.2.2.1 bt536.2.2.2.2.2.2.2.2.1 bt536.2.2.2.2.2.2.2.2.2.1 bt536.2.2.2.2.2.2.2.2.2.2.1 bt536.2.2.2.2.2.2.2.2.2.2.2.1 bt555.2.2.2.2.2.2.1 bt555.2.2.2.2.2.2.2.1 bt555.2.2.2.2.2.2.2.2.1 bt555.2.2.2.2.2.2.2.2.2.1 bt555.2.2.2.2.2.2.2.2.2.2.1 bt555.2.2.2.2.2.2.2.2.2.2.2.1).bind fun t575 => (if t575 = true then (laws_FnCutJoin.j0 k bt536.2.2.2.2.2.2.2.2.2.2.2.2 bt555.2.2.2.2.2.2.2.2.2.2.2.2 (!bt536.2.2.2.2.2.2.2.2.2.2.2.2) bt526.1 bt526.2.1 bt526.2.2.1 bt526.2.2.2.1 bt526.2.2.2.2.1 bt526.2.2.2.2.2.1 bt536.1 bt536.2.1 bt536.2.2.1 bt536.2.2.2.1 bt536.2.2.2.2.1 bt536.2.2.2.2.2.1 bt536.2.2.2.2.2.2.1 bt536.2.2.2.2.2.2.2.1 bt536.2.2.2.2.2.2.2.2.1 bt536.2.2.2.2.2.2.2.2.2.1 bt536.2.2.2.2.2.2.2.2.2.2.1 bt536.2.2.2.2.2.2.2.2.2.2.2.1 bt555.1 bt555.2.1 bt555.2.2.1 bt555.2.2.2.1 bt555.2.2.2.2.1 bt555.2.2.2.2.2.1 bt555.2.2.2.2.2.2.1 bt555.2.2.2.2.2.2.2.1 bt555.2.2.2.2.2.2.2.2.1 bt555.2.2.2.2.2.2.2.2.2.1 bt555.2.2.2.2.2.2.2.2.2.2.1 bt555.2.2.2.2.2.2.2.2.2.2.2.1) else (laws_FnCutJoin.j0 k bt536.2.2.2.2.2.2.2.2.2.2.2.2 bt555.2.2.2.2.2.2.2.2.2.2.2.2 true bt526.1 bt526.2.1 bt526.2.2.1 bt526.2.2.2.1 bt526.2.2.2.2.1 bt526.2.2.2.2.2.1 bt536.1 bt536.2.1 bt536.2.2.1 bt536.2.2.2.1 bt536.2.2.2.2.1 bt536.2.2.2.2.2.1 bt536.2.2.2.2.2.2.1 bt536.2.2.2.2.2.2.2.1 bt536.2.2.2.2.2.2.2.2.1 bt536.2.2.2.2.2.2.2.2.2.1 bt536.2.2.2.2.2.2.2.2.2.2.1 bt536.2.2.2.2.2.2.2.2.2.2.2.1 bt555.1 bt555.2.1 bt555.2.2.1 bt555.2.2.2.1 bt555.2.2.2.2.1 bt555.2.2.2.2.2.1 bt555.2.2.2.2.2.2.1 bt555.2.2.2.2.2.2.2.1 bt555.2.2.2.2.2.2.2.2.1 bt555.2.2.2.2.2.2.2.2.2.1 bt555.2.2.2.2.2.2.2.2.2.2.1 bt555.2.2.2.2.2.2.2.2.2.2.2.1))) else (laws_FnCutJoin.j0 k bt536.2.2.2.2.2.2.2.2.2.2.2.2 bt555.2.2.2.2.2.2.2.2.2.2.2.2 true bt526.1 bt526.2.1 bt526.2.2.1 bt526.2.2.2.1 bt526.2.2.2.2.1 bt526.2.2.2.2.2.1 bt536.1 bt536.2.1 bt536.2.2.1 bt536.2.2.2.1 bt536.2.2.2.2.1 bt536.2.2.2.2.2.1 bt536.2.2.2.2.2.2.1 bt536.2.2.2.2.2.2.2.1 bt536.2.2.2.2.2.2.2.2.1 bt536.2.2.2.2.2.2.2.2.2.1 bt536.2.2.2.2.2.2.2.2.2.2.1 bt536.2.2.2.2.2.2.2.2.2.2.2.1 bt555.1 bt555.2.1 bt555.2.2.1 bt555.2.2.2.1 bt555.2.2.2.2.1 bt555.2.2.2.2.2.1 bt555.2.2.2.2.2.2.1 bt555.2.2.2.2.2.2.2.1 bt555.2.2.2.2.2.2.2.2.1 bt555.2.2.2.2.2.2.2.2.2.1 bt555.2.2.2.2.2.2.2.2.2.2.1 bt555.2.2.2.2.2.2.2.2.2.2.2.1)))))))
set_option maxHeartbeats 40000000 in
set_option maxRecDepth 100000 in
theorem laws_FnCutJoin.calls [ErrA] (k : Nat) (A0 : Option Addr) (c0 : Nat) (l0 : List Int) (r : Bool) (w : World) (hE : ErrOk [0, 1] w) (hr0 : Kd.C (Kd.int .u8) w A0 l0.length l0) (hc0 : l0.length ≤ c0) (h : laws_FnCutJoin.f k l0 = some r) :
  Calls Tryd.prog 4 #[.slice A0 l0.length c0] w fun e w' => e = .returned (.bool r) ∧ Below w.heap.size w w' := by
 have HE := Aside0.mk hE
 clear hE
 have hu25 := Tryd.underlying25
 have HR0 := Aside0.mk hr0
 have HC0 := Aside0.mk hc0
 clear hr0 hc0
 have HB := Aside0.mk (Below.refl w.heap.size w)
 have H : (if (l0.length : Int) > 1048576 then (some true) else ((spec_DrawBatchCut.f k l0).bind fun bt526 => ((impl_BatchCut.f k bt526.1 bt526.2.1 bt526.2.2.1 bt526.2.2.2.1 bt526.2.2.2.2.1 bt526.2.2.2.2.2.1 bt526.2.2.2.2.2.2).bind fun bt536 => ((spec_BatchCut.f k bt526.1 bt526.2.1 bt526.2.2.1 bt526.2.2.2.1 bt526.2.2.2.2.1 bt526.2.2.2.2.2.1 bt526.2.2.2.2.2.2).bind fun bt555 => (if (bt536.2.2.2.2.2.2.2.2.2.2.2.2 != bt555.2.2.2.2.2.2.2.2.2.2.2.2) = true then (laws_FnCutJoin.j0 k bt536.2.2.2.2.2.2.2.2.2.2.2.2 bt555.2.2.2.2.2.2.2.2.2.2.2.2 true bt526.1 bt526.2.1 bt526.2.2.1 bt526.2.2.2.1 bt526.2.2.2.2.1 bt526.2.2.2.2.2.1 bt536.1 bt536.2.1 bt536.2.2.1 bt536.2.2.2.1 bt536.2.2.2.2.1 bt536.2.2.2.2.2.1 bt536.2.2.2.2.2.2.1 bt536.2.2.2.2.2.2.2.1 bt536.2.2.2.2.2.2.2.2.1 bt536.2.2.2.2.2.2.2.2.2.1 bt536.2.2.2.2.2.2.2.2.2.2.1 bt536.2.2.2.2.2.2.2.2.2.2.2.1 bt555.1 bt555.2.1 bt555.2.2.1 bt555.2.2.2.1 bt555.2.2.2.2.1 bt555.2.2.2.2.2.1 bt555.2.2.2.2.2.2.1 bt555.2.2.2.2.2.2.2.1 bt555.2.2.2.2.2.2.2.2.1 bt555.2.2.2.2.2.2.2.2.2.1 bt555.2.2.2.2.2.2.2.2.2.2.1 bt555.2.2.2.2.2.2.2.2.2.2.2.1) else ((laws_sameBatch.f k bt536.1 bt536.2.1 bt536.2.2.1 bt536.2.2.2.1 bt536.2.2.2.2.1 bt536.2.2.2.2.2.1 bt555.1 bt555.2.1 bt555.2.2.1 bt555.2.2.2.1 bt555.2.2.2.2.1 bt555.2.2.2.2.2.1).bind fun t574 => (if t574 = true then ((laws_sameBatch.f k bt536.2.2.2.2.2.2.1 bt536.2.2.2.2.2.2.2.1 bt536.2.2.2.2.2.2.2.2.1 bt536.2.2.2.2.2.2.2.2.2.1 bt536.2.2.2.2.2.2.2.2.2.2.1 bt536.2.2.2.2.2.2.2.2.2.2.2.1 bt555.2.2.2.2.2.2.1 bt555.2.2.2.2.2.2.2.1 bt555.2.2.2.2.2.2.2.2.1 bt555.2.2.2.2.2.2.2.2.2.1 bt555.2.2.2.2.2.2.2.2.2.2.1 bt555.2.2.2.2.2.2.2.2.2.2.2.1).bind fun t575 => (if t575 = true then (laws_FnCutJoin.j0 k bt536.2.2.2.2.2.2.2.2.2.2.2.2 bt555.2.2.2.2.2.2.2.2.2.2.2.2 (!bt536.2.2.2.2.2.2.2.2.2.2.2.2) bt526.1 bt526.2.1 bt526.2.2.1 bt526.2.2.2.1 bt526.2.2.2.2.1 bt526.2.2.2.2.2.1 bt536.1 bt536.2.1 bt536.2.2.1 bt536.2.2.2.1 bt536.2.2.2.2.1 bt536.2.2.2.2.2.1 bt536.2.2.2.2.2.2.1 bt536.2.2.2.2.2.2.2.1 bt536.2.2.2.2.2.2.2.2.1 bt536.2.2.2.2.2.2.2.2.2.1 bt536.2.2.2.2.2.2.2.2.2.2.1 bt536.2.2.2.2.2.2.2.2.2.2.2.1 bt555.1 bt555.2.1 bt555.2.2.1 bt555.2.2.2.1 bt555.2.2.2.2.1 bt555.2.2.2.2.2.1 bt555.2.2.2.2.2.2.1 bt555.2.2.2.2.2.2.2.1 bt555.2.2.2.2.2.2.2.2.1 bt555.2.2.2.2.2.2.2.2.2.1 bt555.2.2.2.2.2.2.2.2.2.2.1 bt555.2.2.2.2.2.2.2.2.2.2.2.1) else (laws_FnCutJoin.j0 k bt536.2.2.2.2.2.2.2.2.2.2.2.2 bt555.2.2.2.2.2.2.2.2.2.2.2.2 true bt526.1 bt526.2.1 bt526.2.2.1 bt526.2.2.2.1 bt526.2.2.2.2.1 bt526.2.2.2.2.2.1 bt536.1 bt536.2.1 bt536.2.2.1 bt536.2.2.2.1 bt536.2.2.2.2.1 bt536.2.2.2.2.2.1 bt536.2.2.2.2.2.2.1 bt536.2.2.2.2.2.2.2.1 bt536.2.2.2.2.2.2.2.2.1 bt536.2.2.2.2.2.2.2.2.2.1 bt536.2.2.2.2.2.2.2.2.2.2.1 bt536.2.2.2.2.2.2.2.2.2.2.2.1 bt555.1 bt555.2.1 bt555.2.2.1 bt555.2.2.2.1 bt555.2.2.2.2.1 bt555.2.2.2.2.2.1 bt555.2.2.2.2.2.2.1 bt555.2.2.2.2.2.2.2.1 bt555.2.2.2.2.2.2.2.2.1 bt555.2.2.2.2.2.2.2.2.2.1 bt555.2.2.2.2.2.2.2.2.2.2.1 bt555.2.2.2.2.2.2.2.2.2.2.2.1))) else (laws_FnCutJoin.j0 k bt536.2.2.2.2.2.2.2.2.2.2.2.2 bt555.2.2.2.2.2.2.2.2.2.2.2.2 true bt526.1 bt526.2.1 bt526.2.2.1 bt526.2.2.2.1 bt526.2.2.2.2.1 bt526.2.2.2.2.2.1 bt536.1 bt536.2.1 bt536.2.2.1 bt536.2.2.2.1 bt536.2.2.2.2.1 bt536.2.2.2.2.2.1 bt536.2.2.2.2.2.2.1 bt536.2.2.2.2.2.2.2.1 bt536.2.2.2.2.2.2.2.2.1 bt536.2.2.2.2.2.2.2.2.2.1 bt536.2.2.2.2.2.2.2.2.2.2.1 bt536.2.2.2.2.2.2.2.2.2.2.2.1 bt555.1 bt555.2.1 bt555.2.2.1 bt555.2.2.2.1 bt555.2.2.2.2.1 bt555.2.2.2.2.2.1 bt555.2.2.2.2.2.2.1 bt555.2.2.2.2.2.2.2.1 bt555.2.2.2.2.2.2.2.2.1 bt555.2.2.2.2.2.2.2.2.2.1 bt555.2.2.2.2.2.2.2.2.2.2.1 bt555.2.2.2.2.2.2.2.2.2.2.2.1)))))))) = some r := h
 clear h
 by_cases c2 : (l0.length : Int) > 1048576
 ·rw [if_pos c2] at H
  have c2b0 : decide (1048576 < (l0.length : Int)) = true := decide_eq_true c2
  have c2b1 : decide (1048576 < l0.length) = true := decide_eq_true (by omega)
  clear c2
  obtain rfl := Option.some.inj H
  go_enter Tryd.func4, Tryd.ntmps4
  go_wp2
  all_goals go_ret
  all_goals exact ⟨by first | rfl | (simp [errW_none, errW_some] <;> rfl) | (simp [*, errW_none, errW_some] <;> rfl), zb⟩
 ·rw [if_neg c2] at H
  have c2b0 : decide (1048576 < (l0.length : Int)) = false := decide_eq_false c2
  have c2b1 : decide (1048576 < l0.length) = false := decide_eq_false (by omega)
  clear c2
  replace H := tbe H
  obtain ⟨⟨t526, t527, t528, t529, t530, t531, t534⟩, A3, H⟩ := H
  dsimp only at H
  replace H := tbe H
  obtain ⟨⟨t536, t537, t538, t539, t540, t541, t544, t545, t546, t547, t548, t549, t552⟩, A4, H⟩ := H
  dsimp only at H
  replace H := tbe H
  obtain ⟨⟨t555, t556, t557, t558, t559, t560, t563, t564, t565, t566, t567, t568, t571⟩, A5, H⟩ := H
  dsimp only at H
  have HC6 := Aside0.mk H
  clear H
  go_enter Tryd.func4, Tryd.ntmps4
  go_upto_region 6 with (first | ((with_reducible refine gate_callee (f := 8) rfl ?_); refine goesL_ (some 18) rfl rfl Tryd.func8 (by kernel_rfl) rfl #[.slice A0 l0.length c0] rfl tq ?_; (with_reducible refine (spec_DrawBatchCut.calls k _ _ l0 t526 t527 t528 t529 t530 t531 t534 _ ?side1 ?side2 A3.out).mono ?_); (case side1 => exact tC HR0.out); (case side2 => exact HC0.out); rintro e w7 ⟨v532, rfl, ho0, hb⟩; have u_v532 := tsv Tryd.prog v532 ho0; refine ⟨_, rfl, ?_⟩; have HO533 := Aside0.mk (Kd.N_lower (Kd.N_mono (ok' := fun k_ => True) ho0 (fun k_ hk_ => trivial)) (below_size zb)); replace HB := tBs HB hb; (try clear hb); (try clear hb2); (try clear hk); (try clear hi); (try clear ho0)) | ((with_reducible refine gate_dst (N := 3) rfl ?_); refine box_event ?hg (N := 3) ?hd (cs := #[.bool false, .bool false, .int .i64 0, .int .i64 0, .int .i64 0, .slice none 0 0]) (t := 25) ?hr ?_; (case hd => rfl); (case hg => rfl); (case hr => first | (go_simp; done) | (go_simp; rfl)); intro gb535 hg w8 hbox hb; replace HO533 := tNB HO533 hg hb; have BK535 := Aside0.mk (hbox); have GW535 := tge HB hg; have GE535 := tge HB hg; replace HB := tBs HB hb; clear hb hbox hg; obtain ⟨hcz9_0, hcz9_1, hcz9_2, hcz9_3, hcz9_4, hcz9_5, hfz9_0, hfz9_1, hfz9_2, hfz9_3, hfz9_4, hfz9_5⟩ := cells6 BK535.out; obtain ⟨Ao10, co10, eo10⟩ := Kd.N_slice HO533.out; subst eo10) | ((with_reducible refine gate_callee (f := 9) rfl ?_); refine goesL_ (some 24) rfl rfl Tryd.func9 (by kernel_rfl) rfl #[.agg #[.bool t526, .bool t527, .int .i64 t528, .int .i64 t529, .int .i64 t530, .slice Ao10 t531.length co10], .int .i64 t534] rfl tq ?_; (with_reducible refine (impl_BatchCut.calls (hE := ?sideE) k t526 t527 t528 t529 t530 _ _ t531 t534 t536 t537 t538 t539 t540 t541 t544 t545 t546 t547 t548 t549 t552 _ ?side1 ?side2 A4.out).mono ?_); (case sideE => exact ErrOk.below (HE.out.sub (by decide)) zb); (case side1 => refine (Kd.N_reads' (e := 41) (base := w.heap.size) (ok := fun k_ => (True ∧ k_ ≠ gb535)) (n := t531.length) (c := co10) ?_).2.2; exact (tN HO533.out)); (case side2 => exact (Kd.N_reads' HO533.out).2.1); rintro e w11 ⟨v542, v550, rfl, ho0, ho1, hb⟩; have u_v542 := tsv Tryd.prog v542 ho0; have u_v550 := tsv Tryd.prog v550 ho1; refine ⟨_, rfl, ?_⟩; have HO543 := Aside0.mk (Kd.N_lower (Kd.N_mono (ok' := fun k_ => some k_ ≠ (v550 : Value).ownBlock ∧ some k_ ≠ (.slice Ao10 t531.length co10 : Value).ownBlock ∧ k_ ≠ gb535) (Kd.S_N (Kd.S_bound ho0)) (fun k_ hk_ => ⟨hk_.1, (tfr HO533 k_ hk_.2.1), (tfB BK535 k_ hk_.2.1)⟩)) (below_size zb)); have HO551 := Aside0.mk (Kd.N_lower (Kd.N_mono (ok' := fun k_ => some k_ ≠ (v542 : Value).ownBlock ∧ some k_ ≠ (.slice Ao10 t531.length co10 : Value).ownBlock ∧ k_ ≠ gb535) (Kd.S_N (Kd.S_bound ho1)) (fun k_ hk_ => ⟨hk_.1, (tfr HO533 k_ hk_.2.1), (tfB BK535 k_ hk_.2.1)⟩)) (below_size zb)); replace HO533 := Aside0.mk (Kd.N_mono (Kd.N_told (Kd.N_told (Kd.N_old (tN HO533.out) hb) (tb ho0)) (tb ho1)) (fun _ h_ => h_.1)); replace BK535 := tBp (o' := .cells #[.bool t526, .bool t527, .int .i64 t528, .int .i64 t529, .int .i64 t530, .slice Ao10 t531.length co10] 25 (0, 0)) BK535 hb; replace HB := tBs HB hb; (try clear hb); (try clear hb2); (try clear hk); (try clear hi); (try clear ho0); (try clear ho1)) | ((with_reducible refine gate_dst (N := 5) rfl ?_); refine box_event ?hg (N := 5) ?hd (cs := #[.bool false, .bool false, .int .i64 0, .int .i64 0, .int .i64 0, .slice none 0 0]) (t := 25) ?hr ?_; (case hd => rfl); (case hg => rfl); (case hr => first | (go_simp; done) | (go_simp; rfl)); intro gb553 hg w12 hbox hb; replace HO533 := tNB HO533 hg hb; replace HO543 := tNB HO543 hg hb; replace HO551 := tNB HO551 hg hb; have BK553 := Aside0.mk (hbox); have GW553 := tge HB hg; have GE553 := tge HB hg; replace HB := tBs HB hb; have NB535_553 := tlt BK535 hg; have NB553_535 := tgt BK535 hg; replace BK535 := tBb BK535 hb; clear hb hbox hg) | ((with_reducible refine gate_dst (N := 6) rfl ?_); refine box_event ?hg (N := 6) ?hd (cs := #[.bool false, .bool false, .int .i64 0, .int .i64 0, .int .i64 0, .slice none 0 0]) (t := 25) ?hr ?_; (case hd => rfl); (case hg => rfl); (case hr => first | (go_simp; done) | (go_simp; rfl)); intro gb554 hg w13 hbox hb; replace HO533 := tNB HO533 hg hb; replace HO543 := tNB HO543 hg hb; replace HO551 := tNB HO551 hg hb; have BK554 := Aside0.mk (hbox); have GW554 := tge HB hg; have GE554 := tge HB hg; replace HB := tBs HB hb; have NB535_554 := tlt BK535 hg; have NB554_535 := tgt BK535 hg; replace BK535 := tBb BK535 hb; have NB553_554 := tlt BK553 hg; have NB554_553 := tgt BK553 hg; replace BK553 := tBb BK553 hb; clear hb hbox hg; have hnb14 := NB553_535.out; have hnc14 := NB535_553.out; have hnb15 := NB553_554.out; have hnc15 := NB554_553.out; obtain ⟨hcz16_0, hcz16_1, hcz16_2, hcz16_3, hcz16_4, hcz16_5, hfz16_0, hfz16_1, hfz16_2, hfz16_3, hfz16_4, hfz16_5⟩ := cells6 BK553.out; obtain ⟨Ao17, co17, eo17⟩ := Kd.N_slice HO543.out; subst eo17; have hnb18 := NB554_535.out; have hnc18 := NB535_554.out; obtain ⟨hcz19_0, hcz19_1, hcz19_2, hcz19_3, hcz19_4, hcz19_5, hfz19_0, hfz19_1, hfz19_2, hfz19_3, hfz19_4, hfz19_5⟩ := cells6 BK554.out; obtain ⟨Ao20, co20, eo20⟩ := Kd.N_slice HO551.out; subst eo20; obtain ⟨hcz21_0, hcz21_1, hcz21_2, hcz21_3, hcz21_4, hcz21_5, hfz21_0, hfz21_1, hfz21_2, hfz21_3, hfz21_4, hfz21_5⟩ := cells6 BK535.out) | ((with_reducible refine gate_callee (f := 10) rfl ?_); refine goesL_ (some 31) rfl rfl Tryd.func10 (by kernel_rfl) rfl #[.agg #[.bool t526, .bool t527, .int .i64 t528, .int .i64 t529, .int .i64 t530, .slice Ao10 t531.length co10], .int .i64 t534] rfl tq ?_; (with_reducible refine (spec_BatchCut.calls k t526 t527 t528 t529 t530 _ _ t531 t534 t555 t556 t557 t558 t559 t560 t563 t564 t565 t566 t567 t568 t571 _ ?side1 ?side2 A5.out).mono ?_); (case side1 => refine (Kd.N_reads' (e := 41) (base := w.heap.size) (ok := fun k_ => (((((True ∧ k_ ≠ gb535) ∧ some k_ ≠ (.slice Ao17 t541.length co17 : Value).ownBlock) ∧ some k_ ≠ (.slice Ao20 t549.length co20 : Value).ownBlock) ∧ k_ ≠ gb553) ∧ k_ ≠ gb554)) (n := t531.length) (c := co10) ?_).2.2; exact (by (with_reducible repeat (first | apply Kd.N_alloc | apply Kd.N_drewN | apply Kd.N_drew)); exact (Kd.N_mono (Kd.N_mono (Kd.N_far (p := ⟨gb554, 5, none⟩) (Kd.N_far (p := ⟨gb554, 4, none⟩) (Kd.N_far (p := ⟨gb554, 3, none⟩) (Kd.N_far (p := ⟨gb554, 2, none⟩) (Kd.N_far (p := ⟨gb554, 1, none⟩) (Kd.N_far (p := ⟨gb554, 0, none⟩) (Kd.N_far (p := ⟨gb553, 5, none⟩) (Kd.N_far (p := ⟨gb553, 4, none⟩) (Kd.N_far (p := ⟨gb553, 3, none⟩) (Kd.N_far (p := ⟨gb553, 2, none⟩) (Kd.N_far (p := ⟨gb553, 1, none⟩) (Kd.N_far (p := ⟨gb553, 0, none⟩) (Kd.N_mono (Kd.N_mono HO533.out (fun k_ hk => (⟨hk, hk.1.2⟩ : _ ∧ k_ ≠ gb553))) (fun k_ hk => (⟨hk, hk.1.2⟩ : _ ∧ k_ ≠ gb554))) (fun _ hk => hk.1.2) (.bool t536)) (fun _ hk => hk.1.2) (.bool t537)) (fun _ hk => hk.1.2) (.int .i64 t538)) (fun _ hk => hk.1.2) (.int .i64 t539)) (fun _ hk => hk.1.2) (.int .i64 t540)) (fun _ hk => hk.1.2) (.slice Ao17 t541.length co17)) (fun _ hk => hk.2) (.bool t544)) (fun _ hk => hk.2) (.bool t545)) (fun _ hk => hk.2) (.int .i64 t546)) (fun _ hk => hk.2) (.int .i64 t547)) (fun _ hk => hk.2) (.int .i64 t548)) (fun _ hk => hk.2) (.slice Ao20 t549.length co20)) (fun _ h_ => h_.1)) (fun _ h_ => h_.1)))); (case side2 => exact (Kd.N_reads' HO533.out).2.1); rintro e w22 ⟨v561, v569, rfl, ho0, ho1, hb⟩; have u_v561 := tsv Tryd.prog v561 ho0; have u_v569 := tsv Tryd.prog v569 ho1; refine ⟨_, rfl, ?_⟩; have HO562 := Aside0.mk (Kd.N_lower (Kd.N_mono (ok' := fun k_ => some k_ ≠ (v569 : Value).ownBlock ∧ some k_ ≠ (.slice Ao10 t531.length co10 : Value).ownBlock ∧ some k_ ≠ (.slice Ao17 t541.length co17 : Value).ownBlock ∧ some k_ ≠ (.slice Ao20 t549.length co20 : Value).ownBlock ∧ k_ ≠ gb535 ∧ k_ ≠ gb553 ∧ k_ ≠ gb554) (Kd.S_N (Kd.S_bound ho0)) (fun k_ hk_ => ⟨hk_.1, (Kd.fresh' (Kd.N_lt (by (with_reducible repeat (first | apply Kd.N_alloc | apply Kd.N_drewN | apply Kd.N_drew)); exact (Kd.N_mono (Kd.N_mono (Kd.N_far (p := ⟨gb554, 5, none⟩) (Kd.N_far (p := ⟨gb554, 4, none⟩) (Kd.N_far (p := ⟨gb554, 3, none⟩) (Kd.N_far (p := ⟨gb554, 2, none⟩) (Kd.N_far (p := ⟨gb554, 1, none⟩) (Kd.N_far (p := ⟨gb554, 0, none⟩) (Kd.N_far (p := ⟨gb553, 5, none⟩) (Kd.N_far (p := ⟨gb553, 4, none⟩) (Kd.N_far (p := ⟨gb553, 3, none⟩) (Kd.N_far (p := ⟨gb553, 2, none⟩) (Kd.N_far (p := ⟨gb553, 1, none⟩) (Kd.N_far (p := ⟨gb553, 0, none⟩) (Kd.N_mono (Kd.N_mono HO533.out (fun k_ hk => (⟨hk, hk.1.2⟩ : _ ∧ k_ ≠ gb553))) (fun k_ hk => (⟨hk, hk.1.2⟩ : _ ∧ k_ ≠ gb554))) (fun _ hk => hk.1.2) (.bool t536)) (fun _ hk => hk.1.2) (.bool t537)) (fun _ hk => hk.1.2) (.int .i64 t538)) (fun _ hk => hk.1.2) (.int .i64 t539)) (fun _ hk => hk.1.2) (.int .i64 t540)) (fun _ hk => hk.1.2) (.slice Ao17 t541.length co17)) (fun _ hk => hk.2) (.bool t544)) (fun _ hk => hk.2) (.bool t545)) (fun _ hk => hk.2) (.int .i64 t546)) (fun _ hk => hk.2) (.int .i64 t547)) (fun _ hk => hk.2) (.int .i64 t548)) (fun _ hk => hk.2) (.slice Ao20 t549.length co20)) (fun _ h_ => h_.1)) (fun _ h_ => h_.1)))) k_ hk_.2.1), (Kd.fresh' (Kd.N_lt (by (with_reducible repeat (first | apply Kd.N_alloc | apply Kd.N_drewN | apply Kd.N_drew)); exact (Kd.N_mono (Kd.N_mono (Kd.N_far (p := ⟨gb554, 5, none⟩) (Kd.N_far (p := ⟨gb554, 4, none⟩) (Kd.N_far (p := ⟨gb554, 3, none⟩) (Kd.N_far (p := ⟨gb554, 2, none⟩) (Kd.N_far (p := ⟨gb554, 1, none⟩) (Kd.N_far (p := ⟨gb554, 0, none⟩) (Kd.N_far (p := ⟨gb553, 5, none⟩) (Kd.N_far (p := ⟨gb553, 4, none⟩) (Kd.N_far (p := ⟨gb553, 3, none⟩) (Kd.N_far (p := ⟨gb553, 2, none⟩) (Kd.N_far (p := ⟨gb553, 1, none⟩) (Kd.N_far (p := ⟨gb553, 0, none⟩) (Kd.N_mono (Kd.N_mono HO543.out (fun k_ hk => (⟨hk, hk.1.2⟩ : _ ∧ k_ ≠ gb553))) (fun k_ hk => (⟨hk, hk.1.2⟩ : _ ∧ k_ ≠ gb554))) (fun _ hk => hk.1.2) (.bool t536)) (fun _ hk => hk.1.2) (.bool t537)) (fun _ hk => hk.1.2) (.int .i64 t538)) (fun _ hk => hk.1.2) (.int .i64 t539)) (fun _ hk => hk.1.2) (.int .i64 t540)) (fun _ hk => hk.1.2) (.slice Ao17 t541.length co17)) (fun _ hk => hk.2) (.bool t544)) (fun _ hk => hk.2) (.bool t545)) (fun _ hk => hk.2) (.int .i64 t546)) (fun _ hk => hk.2) (.int .i64 t547)) (fun _ hk => hk.2) (.int .i64 t548)) (fun _ hk => hk.2) (.slice Ao20 t549.length co20)) (fun _ h_ => h_.1)) (fun _ h_ => h_.1)))) k_ hk_.2.1), (Kd.fresh' (Kd.N_lt (by (with_reducible repeat (first | apply Kd.N_alloc | apply Kd.N_drewN | apply Kd.N_drew)); exact (Kd.N_mono (Kd.N_mono (Kd.N_far (p := ⟨gb554, 5, none⟩) (Kd.N_far (p := ⟨gb554, 4, none⟩) (Kd.N_far (p := ⟨gb554, 3, none⟩) (Kd.N_far (p := ⟨gb554, 2, none⟩) (Kd.N_far (p := ⟨gb554, 1, none⟩) (Kd.N_far (p := ⟨gb554, 0, none⟩) (Kd.N_far (p := ⟨gb553, 5, none⟩) (Kd.N_far (p := ⟨gb553, 4, none⟩) (Kd.N_far (p := ⟨gb553, 3, none⟩) (Kd.N_far (p := ⟨gb553, 2, none⟩) (Kd.N_far (p := ⟨gb553, 1, none⟩) (Kd.N_far (p := ⟨gb553, 0, none⟩) (Kd.N_mono (Kd.N_mono HO551.out (fun k_ hk => (⟨hk, hk.1.2⟩ : _ ∧ k_ ≠ gb553))) (fun k_ hk => (⟨hk, hk.1.2⟩ : _ ∧ k_ ≠ gb554))) (fun _ hk => hk.1.2) (.bool t536)) (fun _ hk => hk.1.2) (.bool t537)) (fun _ hk => hk.1.2) (.int .i64 t538)) (fun _ hk => hk.1.2) (.int .i64 t539)) (fun _ hk => hk.1.2) (.int .i64 t540)) (fun _ hk => hk.1.2) (.slice Ao17 t541.length co17)) (fun _ hk => hk.2) (.bool t544)) (fun _ hk => hk.2) (.bool t545)) (fun _ hk => hk.2) (.int .i64 t546)) (fun _ hk => hk.2) (.int .i64 t547)) (fun _ hk => hk.2) (.int .i64 t548)) (fun _ hk => hk.2) (.slice Ao20 t549.length co20)) (fun _ h_ => h_.1)) (fun _ h_ => h_.1)))) k_ hk_.2.1), (tfB BK535 k_ hk_.2.1), (tfB BK553 k_ hk_.2.1), (tfB BK554 k_ hk_.2.1)⟩)) (below_size zb)); have HO570 := Aside0.mk (Kd.N_lower (Kd.N_mono (ok' := fun k_ => some k_ ≠ (v561 : Value).ownBlock ∧ some k_ ≠ (.slice Ao10 t531.length co10 : Value).ownBlock ∧ some k_ ≠ (.slice Ao17 t541.length co17 : Value).ownBlock ∧ some k_ ≠ (.slice Ao20 t549.length co20 : Value).ownBlock ∧ k_ ≠ gb535 ∧ k_ ≠ gb553 ∧ k_ ≠ gb554) (Kd.S_N (Kd.S_bound ho1)) (fun k_ hk_ => ⟨hk_.1, (Kd.fresh' (Kd.N_lt (by (with_reducible repeat (first | apply Kd.N_alloc | apply Kd.N_drewN | apply Kd.N_drew)); exact (Kd.N_mono (Kd.N_mono (Kd.N_far (p := ⟨gb554, 5, none⟩) (Kd.N_far (p := ⟨gb554, 4, none⟩) (Kd.N_far (p := ⟨gb554, 3, none⟩) (Kd.N_far (p := ⟨gb554, 2, none⟩) (Kd.N_far (p := ⟨gb554, 1, none⟩) (Kd.N_far (p := ⟨gb554, 0, none⟩) (Kd.N_far (p := ⟨gb553, 5, none⟩) (Kd.N_far (p := ⟨gb553, 4, none⟩) (Kd.N_far (p := ⟨gb553, 3, none⟩) (Kd.N_far (p := ⟨gb553, 2, none⟩) (Kd.N_far (p := ⟨gb553, 1, none⟩) (Kd.N_far (p := ⟨gb553, 0, none⟩) (Kd.N_mono (Kd.N_mono HO533.out (fun k_ hk => (⟨hk, hk.1.2⟩ : _ ∧ k_ ≠ gb553))) (fun k_ hk => (⟨hk, hk.1.2⟩ : _ ∧ k_ ≠ gb554))) (fun _ hk => hk.1.2) (.bool t536)) (fun _ hk => hk.1.2) (.bool t537)) (fun _ hk => hk.1.2) (.int .i64 t538)) (fun _ hk => hk.1.2) (.int .i64 t539)) (fun _ hk => hk.1.2) (.int .i64 t540)) (fun _ hk => hk.1.2) (.slice Ao17 t541.length co17)) (fun _ hk => hk.2) (.bool t544)) (fun _ hk => hk.2) (.bool t545)) (fun _ hk => hk.2) (.int .i64 t546)) (fun _ hk => hk.2) (.int .i64 t547)) (fun _ hk => hk.2) (.int .i64 t548)) (fun _ hk => hk.2) (.slice Ao20 t549.length co20)) (fun _ h_ => h_.1)) (fun _ h_ => h_.1)))) k_ hk_.2.1), (Kd.fresh' (Kd.N_lt (by (with_reducible repeat (first | apply Kd.N_alloc | apply Kd.N_drewN | apply Kd.N_drew)); exact (Kd.N_mono (Kd.N_mono (Kd.N_far (p := ⟨gb554, 5, none⟩) (Kd.N_far (p := ⟨gb554, 4, none⟩) (Kd.N_far (p := ⟨gb554, 3, none⟩) (Kd.N_far (p := ⟨gb554, 2, none⟩) (Kd.N_far (p := ⟨gb554, 1, none⟩) (Kd.N_far (p := ⟨gb554, 0, none⟩) (Kd.N_far (p := ⟨gb553, 5, none⟩) (Kd.N_far (p := ⟨gb553, 4, none⟩) (Kd.N_far (p := ⟨gb553, 3, none⟩) (Kd.N_far (p := ⟨gb553, 2, none⟩) (Kd.N_far (p := ⟨gb553, 1, none⟩) (Kd.N_far (p := ⟨gb553, 0, none⟩) (Kd.N_mono (Kd.N_mono HO543.out (fun k_ hk => (⟨hk, hk.1.2⟩ : _ ∧ k_ ≠ gb553))) (fun k_ hk => (⟨hk, hk.1.2⟩ : _ ∧ k_ ≠ gb554))) (fun _ hk => hk.1.2) (.bool t536)) (fun _ hk => hk.1.2) (.bool t537)) (fun _ hk => hk.1.2) (.int .i64 t538)) (fun _ hk => hk.1.2) (.int .i64 t539)) (fun _ hk => hk.1.2) (.int .i64 t540)) (fun _ hk => hk.1.2) (.slice Ao17 t541.length co17)) (fun _ hk => hk.2) (.bool t544)) (fun _ hk => hk.2) (.bool t545)) (fun _ hk => hk.2) (.int .i64 t546)) (fun _ hk => hk.2) (.int .i64 t547)) (fun _ hk => hk.2) (.int .i64 t548)) (fun _ hk => hk.2) (.slice Ao20 t549.length co20)) (fun _ h_ => h_.1)) (fun _ h_ => h_.1)))) k_ hk_.2.1), (Kd.fresh' (Kd.N_lt (by (with_reducible repeat (first | apply Kd.N_alloc | apply Kd.N_drewN | apply Kd.N_drew)); exact (Kd.N_mono (Kd.N_mono (Kd.N_far (p := ⟨gb554, 5, none⟩) (Kd.N_far (p := ⟨gb554, 4, none⟩) (Kd.N_far (p := ⟨gb554, 3, none⟩) (Kd.N_far (p := ⟨gb554, 2, none⟩) (Kd.N_far (p := ⟨gb554, 1, none⟩) (Kd.N_far (p := ⟨gb554, 0, none⟩) (Kd.N_far (p := ⟨gb553, 5, none⟩) (Kd.N_far (p := ⟨gb553, 4, none⟩) (Kd.N_far (p := ⟨gb553, 3, none⟩) (Kd.N_far (p := ⟨gb553, 2, none⟩) (Kd.N_far (p := ⟨gb553, 1, none⟩) (Kd.N_far (p := ⟨gb553, 0, none⟩) (Kd.N_mono (Kd.N_mono HO551.out (fun k_ hk => (⟨hk, hk.1.2⟩ : _ ∧ k_ ≠ gb553))) (fun k_ hk => (⟨hk, hk.1.2⟩ : _ ∧ k_ ≠ gb554))) (fun _ hk => hk.1.2) (.bool t536)) (fun _ hk => hk.1.2) (.bool t537)) (fun _ hk => hk.1.2) (.int .i64 t538)) (fun _ hk => hk.1.2) (.int .i64 t539)) (fun _ hk => hk.1.2) (.int .i64 t540)) (fun _ hk => hk.1.2) (.slice Ao17 t541.length co17)) (fun _ hk => hk.2) (.bool t544)) (fun _ hk => hk.2) (.bool t545)) (fun _ hk => hk.2) (.int .i64 t546)) (fun _ hk => hk.2) (.int .i64 t547)) (fun _ hk => hk.2) (.int .i64 t548)) (fun _ hk => hk.2) (.slice Ao20 t549.length co20)) (fun _ h_ => h_.1)) (fun _ h_ => h_.1)))) k_ hk_.2.1), (tfB BK535 k_ hk_.2.1), (tfB BK553 k_ hk_.2.1), (tfB BK554 k_ hk_.2.1)⟩)) (below_size zb)); replace HO533 := Aside0.mk (Kd.N_mono (Kd.N_told (Kd.N_told (Kd.N_old (by (with_reducible repeat (first | apply Kd.N_alloc | apply Kd.N_drewN | apply Kd.N_drew)); exact (Kd.N_mono (Kd.N_mono (Kd.N_far (p := ⟨gb554, 5, none⟩) (Kd.N_far (p := ⟨gb554, 4, none⟩) (Kd.N_far (p := ⟨gb554, 3, none⟩) (Kd.N_far (p := ⟨gb554, 2, none⟩) (Kd.N_far (p := ⟨gb554, 1, none⟩) (Kd.N_far (p := ⟨gb554, 0, none⟩) (Kd.N_far (p := ⟨gb553, 5, none⟩) (Kd.N_far (p := ⟨gb553, 4, none⟩) (Kd.N_far (p := ⟨gb553, 3, none⟩) (Kd.N_far (p := ⟨gb553, 2, none⟩) (Kd.N_far (p := ⟨gb553, 1, none⟩) (Kd.N_far (p := ⟨gb553, 0, none⟩) (Kd.N_mono (Kd.N_mono HO533.out (fun k_ hk => (⟨hk, hk.1.2⟩ : _ ∧ k_ ≠ gb553))) (fun k_ hk => (⟨hk, hk.1.2⟩ : _ ∧ k_ ≠ gb554))) (fun _ hk => hk.1.2) (.bool t536)) (fun _ hk => hk.1.2) (.bool t537)) (fun _ hk => hk.1.2) (.int .i64 t538)) (fun _ hk => hk.1.2) (.int .i64 t539)) (fun _ hk => hk.1.2) (.int .i64 t540)) (fun _ hk => hk.1.2) (.slice Ao17 t541.length co17)) (fun _ hk => hk.2) (.bool t544)) (fun _ hk => hk.2) (.bool t545)) (fun _ hk => hk.2) (.int .i64 t546)) (fun _ hk => hk.2) (.int .i64 t547)) (fun _ hk => hk.2) (.int .i64 t548)) (fun _ hk => hk.2) (.slice Ao20 t549.length co20)) (fun _ h_ => h_.1)) (fun _ h_ => h_.1))) hb) (tb ho0)) (tb ho1)) (fun _ h_ => h_.1)); replace HO543 := Aside0.mk (Kd.N_mono (Kd.N_told (Kd.N_told (Kd.N_old (by (with_reducible repeat (first | apply Kd.N_alloc | apply Kd.N_drewN | apply Kd.N_drew)); exact (Kd.N_mono (Kd.N_mono (Kd.N_far (p := ⟨gb554, 5, none⟩) (Kd.N_far (p := ⟨gb554, 4, none⟩) (Kd.N_far (p := ⟨gb554, 3, none⟩) (Kd.N_far (p := ⟨gb554, 2, none⟩) (Kd.N_far (p := ⟨gb554, 1, none⟩) (Kd.N_far (p := ⟨gb554, 0, none⟩) (Kd.N_far (p := ⟨gb553, 5, none⟩) (Kd.N_far (p := ⟨gb553, 4, none⟩) (Kd.N_far (p := ⟨gb553, 3, none⟩) (Kd.N_far (p := ⟨gb553, 2, none⟩) (Kd.N_far (p := ⟨gb553, 1, none⟩) (Kd.N_far (p := ⟨gb553, 0, none⟩) (Kd.N_mono (Kd.N_mono HO543.out (fun k_ hk => (⟨hk, hk.1.2⟩ : _ ∧ k_ ≠ gb553))) (fun k_ hk => (⟨hk, hk.1.2⟩ : _ ∧ k_ ≠ gb554))) (fun _ hk => hk.1.2) (.bool t536)) (fun _ hk => hk.1.2) (.bool t537)) (fun _ hk => hk.1.2) (.int .i64 t538)) (fun _ hk => hk.1.2) (.int .i64 t539)) (fun _ hk => hk.1.2) (.int .i64 t540)) (fun _ hk => hk.1.2) (.slice Ao17 t541.length co17)) (fun _ hk => hk.2) (.bool t544)) (fun _ hk => hk.2) (.bool t545)) (fun _ hk => hk.2) (.int .i64 t546)) (fun _ hk => hk.2) (.int .i64 t547)) (fun _ hk => hk.2) (.int .i64 t548)) (fun _ hk => hk.2) (.slice Ao20 t549.length co20)) (fun _ h_ => h_.1)) (fun _ h_ => h_.1))) hb) (tb ho0)) (tb ho1)) (fun _ h_ => h_.1)); replace HO551 := Aside0.mk (Kd.N_mono (Kd.N_told (Kd.N_told (Kd.N_old (by (with_reducible repeat (first | apply Kd.N_alloc | apply Kd.N_drewN | apply Kd.N_drew)); exact (Kd.N_mono (Kd.N_mono (Kd.N_far (p := ⟨gb554, 5, none⟩) (Kd.N_far (p := ⟨gb554, 4, none⟩) (Kd.N_far (p := ⟨gb554, 3, none⟩) (Kd.N_far (p := ⟨gb554, 2, none⟩) (Kd.N_far (p := ⟨gb554, 1, none⟩) (Kd.N_far (p := ⟨gb554, 0, none⟩) (Kd.N_far (p := ⟨gb553, 5, none⟩) (Kd.N_far (p := ⟨gb553, 4, none⟩) (Kd.N_far (p := ⟨gb553, 3, none⟩) (Kd.N_far (p := ⟨gb553, 2, none⟩) (Kd.N_far (p := ⟨gb553, 1, none⟩) (Kd.N_far (p := ⟨gb553, 0, none⟩) (Kd.N_mono (Kd.N_mono HO551.out (fun k_ hk => (⟨hk, hk.1.2⟩ : _ ∧ k_ ≠ gb553))) (fun k_ hk => (⟨hk, hk.1.2⟩ : _ ∧ k_ ≠ gb554))) (fun _ hk => hk.1.2) (.bool t536)) (fun _ hk => hk.1.2) (.bool t537)) (fun _ hk => hk.1.2) (.int .i64 t538)) (fun _ hk => hk.1.2) (.int .i64 t539)) (fun _ hk => hk.1.2) (.int .i64 t540)) (fun _ hk => hk.1.2) (.slice Ao17 t541.length co17)) (fun _ hk => hk.2) (.bool t544)) (fun _ hk => hk.2) (.bool t545)) (fun _ hk => hk.2) (.int .i64 t546)) (fun _ hk => hk.2) (.int .i64 t547)) (fun _ hk => hk.2) (.int .i64 t548)) (fun _ hk => hk.2) (.slice Ao20 t549.length co20)) (fun _ h_ => h_.1)) (fun _ h_ => h_.1))) hb) (tb ho0)) (tb ho1)) (fun _ h_ => h_.1)); replace BK535 := tBb BK535 hb; replace BK553 := tBp (o' := .cells #[.bool t536, .bool t537, .int .i64 t538, .int .i64 t539, .int .i64 t540, .slice Ao17 t541.length co17] 25 (0, 0)) BK553 hb; replace BK554 := tBp (o' := .cells #[.bool t544, .bool t545, .int .i64 t546, .int .i64 t547, .int .i64 t548, .slice Ao20 t549.length co20] 25 (0, 0)) BK554 hb; replace HB := tBs HB hb; (try clear hb); (try clear hb2); (try clear hk); (try clear hi); (try clear ho0); (try clear ho1)) | ((with_reducible refine gate_dst (N := 8) rfl ?_); refine box_event ?hg (N := 8) ?hd (cs := #[.bool false, .bool false, .int .i64 0, .int .i64 0, .int .i64 0, .slice none 0 0]) (t := 25) ?hr ?_; (case hd => rfl); (case hg => rfl); (case hr => first | (go_simp; done) | (go_simp; rfl)); intro gb572 hg w23 hbox hb; replace HO533 := tNB HO533 hg hb; replace HO543 := tNB HO543 hg hb; replace HO551 := tNB HO551 hg hb; replace HO562 := tNB HO562 hg hb; replace HO570 := tNB HO570 hg hb; have BK572 := Aside0.mk (hbox); have GW572 := tge HB hg; have GE572 := tge HB hg; replace HB := tBs HB hb; have NB535_572 := tlt BK535 hg; have NB572_535 := tgt BK535 hg; replace BK535 := tBb BK535 hb; have NB553_572 := tlt BK553 hg; have NB572_553 := tgt BK553 hg; replace BK553 := tBb BK553 hb; have NB554_572 := tlt BK554 hg; have NB572_554 := tgt BK554 hg; replace BK554 := tBb BK554 hb; clear hb hbox hg) | ((with_reducible refine gate_dst (N := 9) rfl ?_); refine box_event ?hg (N := 9) ?hd (cs := #[.bool false, .bool false, .int .i64 0, .int .i64 0, .int .i64 0, .slice none 0 0]) (t := 25) ?hr ?_; (case hd => rfl); (case hg => rfl); (case hr => first | (go_simp; done) | (go_simp; rfl)); intro gb573 hg w24 hbox hb; replace HO533 := tNB HO533 hg hb; replace HO543 := tNB HO543 hg hb; replace HO551 := tNB HO551 hg hb; replace HO562 := tNB HO562 hg hb; replace HO570 := tNB HO570 hg hb; have BK573 := Aside0.mk (hbox); have GW573 := tge HB hg; have GE573 := tge HB hg; replace HB := tBs HB hb; have NB535_573 := tlt BK535 hg; have NB573_535 := tgt BK535 hg; replace BK535 := tBb BK535 hb; have NB553_573 := tlt BK553 hg; have NB573_553 := tgt BK553 hg; replace BK553 := tBb BK553 hb; have NB554_573 := tlt BK554 hg; have NB573_554 := tgt BK554 hg; replace BK554 := tBb BK554 hb; have NB572_573 := tlt BK572 hg; have NB573_572 := tgt BK572 hg; replace BK572 := tBb BK572 hb; clear hb hbox hg; have hnb25 := NB572_535.out; have hnc25 := NB535_572.out; have hnb26 := NB572_553.out; have hnc26 := NB553_572.out; have hnb27 := NB572_554.out; have hnc27 := NB554_572.out; have hnb28 := NB572_573.out; have hnc28 := NB573_572.out; obtain ⟨hcz29_0, hcz29_1, hcz29_2, hcz29_3, hcz29_4, hcz29_5, hfz29_0, hfz29_1, hfz29_2, hfz29_3, hfz29_4, hfz29_5⟩ := cells6 BK572.out; obtain ⟨Ao30, co30, eo30⟩ := Kd.N_slice HO562.out; subst eo30; have hnb31 := NB573_535.out; have hnc31 := NB535_573.out; have hnb32 := NB573_553.out; have hnc32 := NB553_573.out; have hnb33 := NB573_554.out; have hnc33 := NB554_573.out; obtain ⟨hcz34_0, hcz34_1, hcz34_2, hcz34_3, hcz34_4, hcz34_5, hfz34_0, hfz34_1, hfz34_2, hfz34_3, hfz34_4, hfz34_5⟩ := cells6 BK573.out; obtain ⟨Ao35, co35, eo35⟩ := Kd.N_slice HO570.out; subst eo35))
  (try simp only [Act.put, List.setIfInBounds_toArray, List.set_cons_zero, List.set_cons_succ])
  go_cut [53] (fun v53 wc => ∃ (kq : Nat) (x53_5 : Bool), v53 = .bool x53_5 ∧ Aside0 (laws_FnCutJoin.j0 kq t552 t571 x53_5 t526 t527 t528 t529 t530 t531 t536 t537 t538 t539 t540 t541 t544 t545 t546 t547 t548 t549 t555 t556 t557 t558 t559 t560 t563 t564 t565 t566 t567 t568 = some r) ∧ Aside0 (kq ≤ k) ∧ Aside0 (Kd.N k41 41 wc w.heap.size (fun k_ => some k_ ≠ ((.slice Ao17 t541.length co17) : Value).ownBlock ∧ some k_ ≠ ((.slice Ao20 t549.length co20) : Value).ownBlock ∧ some k_ ≠ ((.slice Ao30 t560.length co30) : Value).ownBlock ∧ some k_ ≠ ((.slice Ao35 t568.length co35) : Value).ownBlock ∧ k_ ≠ gb535 ∧ k_ ≠ gb553 ∧ k_ ≠ gb554 ∧ k_ ≠ gb572 ∧ k_ ≠ gb573) (.slice Ao10 t531.length co10) t531) ∧ Aside0 (Kd.N k41 41 wc w.heap.size (fun k_ => some k_ ≠ ((.slice Ao10 t531.length co10) : Value).ownBlock ∧ some k_ ≠ ((.slice Ao20 t549.length co20) : Value).ownBlock ∧ some k_ ≠ ((.slice Ao30 t560.length co30) : Value).ownBlock ∧ some k_ ≠ ((.slice Ao35 t568.length co35) : Value).ownBlock ∧ k_ ≠ gb535 ∧ k_ ≠ gb553 ∧ k_ ≠ gb554 ∧ k_ ≠ gb572 ∧ k_ ≠ gb573) (.slice Ao17 t541.length co17) t541) ∧ Aside0 (Kd.N k41 41 wc w.heap.size (fun k_ => some k_ ≠ ((.slice Ao10 t531.length co10) : Value).ownBlock ∧ some k_ ≠ ((.slice Ao17 t541.length co17) : Value).ownBlock ∧ some k_ ≠ ((.slice Ao30 t560.length co30) : Value).ownBlock ∧ some k_ ≠ ((.slice Ao35 t568.length co35) : Value).ownBlock ∧ k_ ≠ gb535 ∧ k_ ≠ gb553 ∧ k_ ≠ gb554 ∧ k_ ≠ gb572 ∧ k_ ≠ gb573) (.slice Ao20 t549.length co20) t549) ∧ Aside0 (Kd.N k41 41 wc w.heap.size (fun k_ => some k_ ≠ ((.slice Ao10 t531.length co10) : Value).ownBlock ∧ some k_ ≠ ((.slice Ao17 t541.length co17) : Value).ownBlock ∧ some k_ ≠ ((.slice Ao20 t549.length co20) : Value).ownBlock ∧ some k_ ≠ ((.slice Ao35 t568.length co35) : Value).ownBlock ∧ k_ ≠ gb535 ∧ k_ ≠ gb553 ∧ k_ ≠ gb554 ∧ k_ ≠ gb572 ∧ k_ ≠ gb573) (.slice Ao30 t560.length co30) t560) ∧ Aside0 (Kd.N k41 41 wc w.heap.size (fun k_ => some k_ ≠ ((.slice Ao10 t531.length co10) : Value).ownBlock ∧ some k_ ≠ ((.slice Ao17 t541.length co17) : Value).ownBlock ∧ some k_ ≠ ((.slice Ao20 t549.length co20) : Value).ownBlock ∧ some k_ ≠ ((.slice Ao30 t560.length co30) : Value).ownBlock ∧ k_ ≠ gb535 ∧ k_ ≠ gb553 ∧ k_ ≠ gb554 ∧ k_ ≠ gb572 ∧ k_ ≠ gb573) (.slice Ao35 t568.length co35) t568) ∧ Aside0 (wc.heap[gb535]? = some (.cells #[.bool t526, .bool t527, .int .i64 t528, .int .i64 t529, .int .i64 t530, (.slice Ao10 t531.length co10)] 25 (0, 0))) ∧ Aside0 (wc.heap[gb553]? = some (.cells #[.bool t536, .bool t537, .int .i64 t538, .int .i64 t539, .int .i64 t540, (.slice Ao17 t541.length co17)] 25 (0, 0))) ∧ Aside0 (wc.heap[gb554]? = some (.cells #[.bool t544, .bool t545, .int .i64 t546, .int .i64 t547, .int .i64 t548, (.slice Ao20 t549.length co20)] 25 (0, 0))) ∧ Aside0 (wc.heap[gb572]? = some (.cells #[.bool t555, .bool t556, .int .i64 t557, .int .i64 t558, .int .i64 t559, (.slice Ao30 t560.length co30)] 25 (0, 0))) ∧ Aside0 (wc.heap[gb573]? = some (.cells #[.bool t563, .bool t564, .int .i64 t565, .int .i64 t566, .int .i64 t567, (.slice Ao35 t568.length co35)] 25 (0, 0))) ∧ Aside0 (Below w.heap.size w wc))
  case first =>
   have H := HC6.out
   clear HC6
   by_cases c36 : (t552 != t571) = true
   ·rw [if_pos c36] at H
    have c36b0 : (t552 != t571) = true := c36
    (try (have c36b1 : decide (t552 = t571) = false := by simpa using c36))
    (try (have c36b2 : (t552 == t571) = false := by simpa using c36))
    (try (have c36b3 : ¬ (t552 = t571) := by simpa using c36))
    clear c36
    (first | rw [c36b0] | (simp only [i64_w, i32_w]; rw [c36b0]) | skip)
    have H' := Aside0.mk H
    clear H
    go_wp2
    go_meet
    case rel => exact ⟨_, (true), tr, H', ⟨by first | omega | exact Nat.le_refl _⟩, ⟨by (with_reducible repeat (first | apply Kd.N_alloc | apply Kd.N_drewN | apply Kd.N_drew)); exact Kd.N_mono (Kd.N_far (p := ⟨gb573, 5, none⟩) (Kd.N_far (p := ⟨gb573, 4, none⟩) (Kd.N_far (p := ⟨gb573, 3, none⟩) (Kd.N_far (p := ⟨gb573, 2, none⟩) (Kd.N_far (p := ⟨gb573, 1, none⟩) (Kd.N_far (p := ⟨gb573, 0, none⟩) (Kd.N_far (p := ⟨gb572, 5, none⟩) (Kd.N_far (p := ⟨gb572, 4, none⟩) (Kd.N_far (p := ⟨gb572, 3, none⟩) (Kd.N_far (p := ⟨gb572, 2, none⟩) (Kd.N_far (p := ⟨gb572, 1, none⟩) (Kd.N_far (p := ⟨gb572, 0, none⟩) (Kd.N_mono (Kd.N_mono HO533.out (fun k_ hk => (⟨hk, hk.1.2⟩ : _ ∧ k_ ≠ gb572))) (fun k_ hk => (⟨hk, hk.1.2⟩ : _ ∧ k_ ≠ gb573))) (fun _ hk => hk.1.2) (.bool t555)) (fun _ hk => hk.1.2) (.bool t556)) (fun _ hk => hk.1.2) (.int .i64 t557)) (fun _ hk => hk.1.2) (.int .i64 t558)) (fun _ hk => hk.1.2) (.int .i64 t559)) (fun _ hk => hk.1.2) (.slice Ao30 t560.length co30)) (fun _ hk => hk.2) (.bool t563)) (fun _ hk => hk.2) (.bool t564)) (fun _ hk => hk.2) (.int .i64 t565)) (fun _ hk => hk.2) (.int .i64 t566)) (fun _ hk => hk.2) (.int .i64 t567)) (fun _ hk => hk.2) (.slice Ao35 t568.length co35)) (fun _ hk => ⟨hk.1.1.1.1.1.1.1.1.1.2, ⟨hk.1.1.1.1.1.1.1.1.2, ⟨hk.1.1.1.1.1.2, ⟨hk.1.1.1.1.2, ⟨hk.1.1.1.1.1.1.1.1.1.1.2, ⟨hk.1.1.1.1.1.1.1.2, ⟨hk.1.1.1.1.1.1.2, ⟨hk.1.1.1.2, hk.1.1.2⟩⟩⟩⟩⟩⟩⟩⟩)⟩, ⟨by (with_reducible repeat (first | apply Kd.N_alloc | apply Kd.N_drewN | apply Kd.N_drew)); exact Kd.N_mono (Kd.N_far (p := ⟨gb573, 5, none⟩) (Kd.N_far (p := ⟨gb573, 4, none⟩) (Kd.N_far (p := ⟨gb573, 3, none⟩) (Kd.N_far (p := ⟨gb573, 2, none⟩) (Kd.N_far (p := ⟨gb573, 1, none⟩) (Kd.N_far (p := ⟨gb573, 0, none⟩) (Kd.N_far (p := ⟨gb572, 5, none⟩) (Kd.N_far (p := ⟨gb572, 4, none⟩) (Kd.N_far (p := ⟨gb572, 3, none⟩) (Kd.N_far (p := ⟨gb572, 2, none⟩) (Kd.N_far (p := ⟨gb572, 1, none⟩) (Kd.N_far (p := ⟨gb572, 0, none⟩) (Kd.N_mono (Kd.N_mono HO543.out (fun k_ hk => (⟨hk, hk.1.2⟩ : _ ∧ k_ ≠ gb572))) (fun k_ hk => (⟨hk, hk.1.2⟩ : _ ∧ k_ ≠ gb573))) (fun _ hk => hk.1.2) (.bool t555)) (fun _ hk => hk.1.2) (.bool t556)) (fun _ hk => hk.1.2) (.int .i64 t557)) (fun _ hk => hk.1.2) (.int .i64 t558)) (fun _ hk => hk.1.2) (.int .i64 t559)) (fun _ hk => hk.1.2) (.slice Ao30 t560.length co30)) (fun _ hk => hk.2) (.bool t563)) (fun _ hk => hk.2) (.bool t564)) (fun _ hk => hk.2) (.int .i64 t565)) (fun _ hk => hk.2) (.int .i64 t566)) (fun _ hk => hk.2) (.int .i64 t567)) (fun _ hk => hk.2) (.slice Ao35 t568.length co35)) (fun _ hk => ⟨hk.1.1.1.1.1.1.1.1.2.1, ⟨hk.1.1.1.1.1.1.1.1.1, ⟨hk.1.1.1.1.1.2, ⟨hk.1.1.1.1.2, ⟨hk.1.1.1.1.1.1.1.1.2.2, ⟨hk.1.1.1.1.1.1.1.2, ⟨hk.1.1.1.1.1.1.2, ⟨hk.1.1.1.2, hk.1.1.2⟩⟩⟩⟩⟩⟩⟩⟩)⟩, ⟨by (with_reducible repeat (first | apply Kd.N_alloc | apply Kd.N_drewN | apply Kd.N_drew)); exact Kd.N_mono (Kd.N_far (p := ⟨gb573, 5, none⟩) (Kd.N_far (p := ⟨gb573, 4, none⟩) (Kd.N_far (p := ⟨gb573, 3, none⟩) (Kd.N_far (p := ⟨gb573, 2, none⟩) (Kd.N_far (p := ⟨gb573, 1, none⟩) (Kd.N_far (p := ⟨gb573, 0, none⟩) (Kd.N_far (p := ⟨gb572, 5, none⟩) (Kd.N_far (p := ⟨gb572, 4, none⟩) (Kd.N_far (p := ⟨gb572, 3, none⟩) (Kd.N_far (p := ⟨gb572, 2, none⟩) (Kd.N_far (p := ⟨gb572, 1, none⟩) (Kd.N_far (p := ⟨gb572, 0, none⟩) (Kd.N_mono (Kd.N_mono HO551.out (fun k_ hk => (⟨hk, hk.1.2⟩ : _ ∧ k_ ≠ gb572))) (fun k_ hk => (⟨hk, hk.1.2⟩ : _ ∧ k_ ≠ gb573))) (fun _ hk => hk.1.2) (.bool t555)) (fun _ hk => hk.1.2) (.bool t556)) (fun _ hk => hk.1.2) (.int .i64 t557)) (fun _ hk => hk.1.2) (.int .i64 t558)) (fun _ hk => hk.1.2) (.int .i64 t559)) (fun _ hk => hk.1.2) (.slice Ao30 t560.length co30)) (fun _ hk => hk.2) (.bool t563)) (fun _ hk => hk.2) (.bool t564)) (fun _ hk => hk.2) (.int .i64 t565)) (fun _ hk => hk.2) (.int .i64 t566)) (fun _ hk => hk.2) (.int .i64 t567)) (fun _ hk => hk.2) (.slice Ao35 t568.length co35)) (fun _ hk => ⟨hk.1.1.1.1.1.1.1.1.2.1, ⟨hk.1.1.1.1.1.1.1.1.1, ⟨hk.1.1.1.1.1.2, ⟨hk.1.1.1.1.2, ⟨hk.1.1.1.1.1.1.1.1.2.2, ⟨hk.1.1.1.1.1.1.1.2, ⟨hk.1.1.1.1.1.1.2, ⟨hk.1.1.1.2, hk.1.1.2⟩⟩⟩⟩⟩⟩⟩⟩)⟩, ⟨by (with_reducible repeat (first | apply Kd.N_alloc | apply Kd.N_drewN | apply Kd.N_drew)); exact Kd.N_mono (Kd.N_far (p := ⟨gb573, 5, none⟩) (Kd.N_far (p := ⟨gb573, 4, none⟩) (Kd.N_far (p := ⟨gb573, 3, none⟩) (Kd.N_far (p := ⟨gb573, 2, none⟩) (Kd.N_far (p := ⟨gb573, 1, none⟩) (Kd.N_far (p := ⟨gb573, 0, none⟩) (Kd.N_far (p := ⟨gb572, 5, none⟩) (Kd.N_far (p := ⟨gb572, 4, none⟩) (Kd.N_far (p := ⟨gb572, 3, none⟩) (Kd.N_far (p := ⟨gb572, 2, none⟩) (Kd.N_far (p := ⟨gb572, 1, none⟩) (Kd.N_far (p := ⟨gb572, 0, none⟩) (Kd.N_mono (Kd.N_mono HO562.out (fun k_ hk => (⟨hk, hk.1.2⟩ : _ ∧ k_ ≠ gb572))) (fun k_ hk => (⟨hk, hk.1.2⟩ : _ ∧ k_ ≠ gb573))) (fun _ hk => hk.1.2) (.bool t555)) (fun _ hk => hk.1.2) (.bool t556)) (fun _ hk => hk.1.2) (.int .i64 t557)) (fun _ hk => hk.1.2) (.int .i64 t558)) (fun _ hk => hk.1.2) (.int .i64 t559)) (fun _ hk => hk.1.2) (.slice Ao30 t560.length co30)) (fun _ hk => hk.2) (.bool t563)) (fun _ hk => hk.2) (.bool t564)) (fun _ hk => hk.2) (.int .i64 t565)) (fun _ hk => hk.2) (.int .i64 t566)) (fun _ hk => hk.2) (.int .i64 t567)) (fun _ hk => hk.2) (.slice Ao35 t568.length co35)) (fun _ hk => ⟨hk.1.1.1.1.2.1, ⟨hk.1.1.1.1.2.2.1, ⟨hk.1.1.1.1.2.2.2.1, ⟨hk.1.1.1.1.1, ⟨hk.1.1.1.1.2.2.2.2.1, ⟨hk.1.1.1.1.2.2.2.2.2.1, ⟨hk.1.1.1.1.2.2.2.2.2.2, ⟨hk.1.1.1.2, hk.1.1.2⟩⟩⟩⟩⟩⟩⟩⟩)⟩, ⟨by (with_reducible repeat (first | apply Kd.N_alloc | apply Kd.N_drewN | apply Kd.N_drew)); exact Kd.N_mono (Kd.N_far (p := ⟨gb573, 5, none⟩) (Kd.N_far (p := ⟨gb573, 4, none⟩) (Kd.N_far (p := ⟨gb573, 3, none⟩) (Kd.N_far (p := ⟨gb573, 2, none⟩) (Kd.N_far (p := ⟨gb573, 1, none⟩) (Kd.N_far (p := ⟨gb573, 0, none⟩) (Kd.N_far (p := ⟨gb572, 5, none⟩) (Kd.N_far (p := ⟨gb572, 4, none⟩) (Kd.N_far (p := ⟨gb572, 3, none⟩) (Kd.N_far (p := ⟨gb572, 2, none⟩) (Kd.N_far (p := ⟨gb572, 1, none⟩) (Kd.N_far (p := ⟨gb572, 0, none⟩) (Kd.N_mono (Kd.N_mono HO570.out (fun k_ hk => (⟨hk, hk.1.2⟩ : _ ∧ k_ ≠ gb572))) (fun k_ hk => (⟨hk, hk.1.2⟩ : _ ∧ k_ ≠ gb573))) (fun _ hk => hk.1.2) (.bool t555)) (fun _ hk => hk.1.2) (.bool t556)) (fun _ hk => hk.1.2) (.int .i64 t557)) (fun _ hk => hk.1.2) (.int .i64 t558)) (fun _ hk => hk.1.2) (.int .i64 t559)) (fun _ hk => hk.1.2) (.slice Ao30 t560.length co30)) (fun _ hk => hk.2) (.bool t563)) (fun _ hk => hk.2) (.bool t564)) (fun _ hk => hk.2) (.int .i64 t565)) (fun _ hk => hk.2) (.int .i64 t566)) (fun _ hk => hk.2) (.int .i64 t567)) (fun _ hk => hk.2) (.slice Ao35 t568.length co35)) (fun _ hk => ⟨hk.1.1.1.1.2.1, ⟨hk.1.1.1.1.2.2.1, ⟨hk.1.1.1.1.2.2.2.1, ⟨hk.1.1.1.1.1, ⟨hk.1.1.1.1.2.2.2.2.1, ⟨hk.1.1.1.1.2.2.2.2.2.1, ⟨hk.1.1.1.1.2.2.2.2.2.2, ⟨hk.1.1.1.2, hk.1.1.2⟩⟩⟩⟩⟩⟩⟩⟩)⟩, ⟨tH BK535.out⟩, ⟨tH BK553.out⟩, ⟨tH BK554.out⟩, ⟨tP BK572.out⟩, ⟨tP BK573.out⟩, ⟨zb⟩⟩
   ·rw [if_neg c36] at H
    have c36b0 : (t552 != t571) = false := by simpa using c36
    (try (have c36b1 : decide (t552 = t571) = true := by simpa using c36))
    (try (have c36b2 : (t552 == t571) = true := by simpa using c36))
    clear c36
    (first | rw [c36b0] | (simp only [i64_w, i32_w]; rw [c36b0]) | skip)
    replace H := tbe H
    obtain ⟨t574, A37, H⟩ := H
    by_cases c38 : t574 = true
    ·subst c38
     rw [if_pos rfl] at H
     replace H := tbe H
     obtain ⟨t575, A39, H⟩ := H
     by_cases c40 : t575 = true
     ·subst c40
      rw [if_pos rfl] at H
      have H' := Aside0.mk H
      clear H
      have hnb41 := NB553_535.out
      have hnc41 := NB535_553.out
      have hnb42 := NB553_554.out
      have hnc42 := NB554_553.out
      have hnb43 := NB553_572.out
      have hnc43 := NB572_553.out
      have hnb44 := NB553_573.out
      have hnc44 := NB573_553.out
      obtain ⟨hcz45_0, hcz45_1, hcz45_2, hcz45_3, hcz45_4, hcz45_5, hfz45_0, hfz45_1, hfz45_2, hfz45_3, hfz45_4, hfz45_5⟩ := cells6 BK553.out
      have hnb46 := NB572_535.out
      have hnc46 := NB535_572.out
      have hnb47 := NB572_554.out
      have hnc47 := NB554_572.out
      have hnb48 := NB572_573.out
      have hnc48 := NB573_572.out
      obtain ⟨hcz49_0, hcz49_1, hcz49_2, hcz49_3, hcz49_4, hcz49_5, hfz49_0, hfz49_1, hfz49_2, hfz49_3, hfz49_4, hfz49_5⟩ := cells6 BK572.out
      go_wp2_with (first | (go_at_call 11; (with_reducible refine (laws_sameBatch.calls k t536 t537 t538 t539 t540 _ _ t541 t555 t556 t557 t558 t559 _ _ t560 true _ ?side1 ?side2 ?side3 ?side4 A37.out).mono ?_); (case side1 => refine (Kd.N_reads' (e := 41) (base := w.heap.size) (ok := fun k_ => (((((((some k_ ≠ (.slice Ao20 t549.length co20 : Value).ownBlock ∧ (some k_ ≠ (.slice Ao10 t531.length co10 : Value).ownBlock ∧ k_ ≠ gb535)) ∧ k_ ≠ gb553) ∧ k_ ≠ gb554) ∧ some k_ ≠ (.slice Ao30 t560.length co30 : Value).ownBlock) ∧ some k_ ≠ (.slice Ao35 t568.length co35 : Value).ownBlock) ∧ k_ ≠ gb572) ∧ k_ ≠ gb573)) (n := t541.length) (c := co17) ?_).2.2; exact (by (with_reducible repeat (first | apply Kd.N_alloc | apply Kd.N_drewN | apply Kd.N_drew)); exact (Kd.N_mono (Kd.N_mono (Kd.N_far (p := ⟨gb573, 5, none⟩) (Kd.N_far (p := ⟨gb573, 4, none⟩) (Kd.N_far (p := ⟨gb573, 3, none⟩) (Kd.N_far (p := ⟨gb573, 2, none⟩) (Kd.N_far (p := ⟨gb573, 1, none⟩) (Kd.N_far (p := ⟨gb573, 0, none⟩) (Kd.N_far (p := ⟨gb572, 5, none⟩) (Kd.N_far (p := ⟨gb572, 4, none⟩) (Kd.N_far (p := ⟨gb572, 3, none⟩) (Kd.N_far (p := ⟨gb572, 2, none⟩) (Kd.N_far (p := ⟨gb572, 1, none⟩) (Kd.N_far (p := ⟨gb572, 0, none⟩) (Kd.N_mono (Kd.N_mono HO543.out (fun k_ hk => (⟨hk, hk.1.2⟩ : _ ∧ k_ ≠ gb572))) (fun k_ hk => (⟨hk, hk.1.2⟩ : _ ∧ k_ ≠ gb573))) (fun _ hk => hk.1.2) (.bool t555)) (fun _ hk => hk.1.2) (.bool t556)) (fun _ hk => hk.1.2) (.int .i64 t557)) (fun _ hk => hk.1.2) (.int .i64 t558)) (fun _ hk => hk.1.2) (.int .i64 t559)) (fun _ hk => hk.1.2) (.slice Ao30 t560.length co30)) (fun _ hk => hk.2) (.bool t563)) (fun _ hk => hk.2) (.bool t564)) (fun _ hk => hk.2) (.int .i64 t565)) (fun _ hk => hk.2) (.int .i64 t566)) (fun _ hk => hk.2) (.int .i64 t567)) (fun _ hk => hk.2) (.slice Ao35 t568.length co35)) (fun _ h_ => h_.1)) (fun _ h_ => h_.1)))); (case side2 => exact (Kd.N_reads' HO543.out).2.1); (case side3 => refine (Kd.N_reads' (e := 41) (base := w.heap.size) (ok := fun k_ => (((some k_ ≠ (.slice Ao35 t568.length co35 : Value).ownBlock ∧ (some k_ ≠ (.slice Ao10 t531.length co10 : Value).ownBlock ∧ (some k_ ≠ (.slice Ao17 t541.length co17 : Value).ownBlock ∧ (some k_ ≠ (.slice Ao20 t549.length co20 : Value).ownBlock ∧ (k_ ≠ gb535 ∧ (k_ ≠ gb553 ∧ k_ ≠ gb554)))))) ∧ k_ ≠ gb572) ∧ k_ ≠ gb573)) (n := t560.length) (c := co30) ?_).2.2; exact (by (with_reducible repeat (first | apply Kd.N_alloc | apply Kd.N_drewN | apply Kd.N_drew)); exact (Kd.N_mono (Kd.N_mono (Kd.N_far (p := ⟨gb573, 5, none⟩) (Kd.N_far (p := ⟨gb573, 4, none⟩) (Kd.N_far (p := ⟨gb573, 3, none⟩) (Kd.N_far (p := ⟨gb573, 2, none⟩) (Kd.N_far (p := ⟨gb573, 1, none⟩) (Kd.N_far (p := ⟨gb573, 0, none⟩) (Kd.N_far (p := ⟨gb572, 5, none⟩) (Kd.N_far (p := ⟨gb572, 4, none⟩) (Kd.N_far (p := ⟨gb572, 3, none⟩) (Kd.N_far (p := ⟨gb572, 2, none⟩) (Kd.N_far (p := ⟨gb572, 1, none⟩) (Kd.N_far (p := ⟨gb572, 0, none⟩) (Kd.N_mono (Kd.N_mono HO562.out (fun k_ hk => (⟨hk, hk.1.2⟩ : _ ∧ k_ ≠ gb572))) (fun k_ hk => (⟨hk, hk.1.2⟩ : _ ∧ k_ ≠ gb573))) (fun _ hk => hk.1.2) (.bool t555)) (fun _ hk => hk.1.2) (.bool t556)) (fun _ hk => hk.1.2) (.int .i64 t557)) (fun _ hk => hk.1.2) (.int .i64 t558)) (fun _ hk => hk.1.2) (.int .i64 t559)) (fun _ hk => hk.1.2) (.slice Ao30 t560.length co30)) (fun _ hk => hk.2) (.bool t563)) (fun _ hk => hk.2) (.bool t564)) (fun _ hk => hk.2) (.int .i64 t565)) (fun _ hk => hk.2) (.int .i64 t566)) (fun _ hk => hk.2) (.int .i64 t567)) (fun _ hk => hk.2) (.slice Ao35 t568.length co35)) (fun _ h_ => h_.1)) (fun _ h_ => h_.1)))); (case side4 => exact (Kd.N_reads' HO562.out).2.1); rintro e w50 ⟨rfl, hb⟩; replace HO533 := Aside0.mk (Kd.N_below (by (with_reducible repeat (first | apply Kd.N_alloc | apply Kd.N_drewN | apply Kd.N_drew)); exact (Kd.N_mono (Kd.N_mono (Kd.N_far (p := ⟨gb573, 5, none⟩) (Kd.N_far (p := ⟨gb573, 4, none⟩) (Kd.N_far (p := ⟨gb573, 3, none⟩) (Kd.N_far (p := ⟨gb573, 2, none⟩) (Kd.N_far (p := ⟨gb573, 1, none⟩) (Kd.N_far (p := ⟨gb573, 0, none⟩) (Kd.N_far (p := ⟨gb572, 5, none⟩) (Kd.N_far (p := ⟨gb572, 4, none⟩) (Kd.N_far (p := ⟨gb572, 3, none⟩) (Kd.N_far (p := ⟨gb572, 2, none⟩) (Kd.N_far (p := ⟨gb572, 1, none⟩) (Kd.N_far (p := ⟨gb572, 0, none⟩) (Kd.N_mono (Kd.N_mono HO533.out (fun k_ hk => (⟨hk, hk.1.2⟩ : _ ∧ k_ ≠ gb572))) (fun k_ hk => (⟨hk, hk.1.2⟩ : _ ∧ k_ ≠ gb573))) (fun _ hk => hk.1.2) (.bool t555)) (fun _ hk => hk.1.2) (.bool t556)) (fun _ hk => hk.1.2) (.int .i64 t557)) (fun _ hk => hk.1.2) (.int .i64 t558)) (fun _ hk => hk.1.2) (.int .i64 t559)) (fun _ hk => hk.1.2) (.slice Ao30 t560.length co30)) (fun _ hk => hk.2) (.bool t563)) (fun _ hk => hk.2) (.bool t564)) (fun _ hk => hk.2) (.int .i64 t565)) (fun _ hk => hk.2) (.int .i64 t566)) (fun _ hk => hk.2) (.int .i64 t567)) (fun _ hk => hk.2) (.slice Ao35 t568.length co35)) (fun _ h_ => h_.1)) (fun _ h_ => h_.1))) hb); replace HO543 := Aside0.mk (Kd.N_below (by (with_reducible repeat (first | apply Kd.N_alloc | apply Kd.N_drewN | apply Kd.N_drew)); exact (Kd.N_mono (Kd.N_mono (Kd.N_far (p := ⟨gb573, 5, none⟩) (Kd.N_far (p := ⟨gb573, 4, none⟩) (Kd.N_far (p := ⟨gb573, 3, none⟩) (Kd.N_far (p := ⟨gb573, 2, none⟩) (Kd.N_far (p := ⟨gb573, 1, none⟩) (Kd.N_far (p := ⟨gb573, 0, none⟩) (Kd.N_far (p := ⟨gb572, 5, none⟩) (Kd.N_far (p := ⟨gb572, 4, none⟩) (Kd.N_far (p := ⟨gb572, 3, none⟩) (Kd.N_far (p := ⟨gb572, 2, none⟩) (Kd.N_far (p := ⟨gb572, 1, none⟩) (Kd.N_far (p := ⟨gb572, 0, none⟩) (Kd.N_mono (Kd.N_mono HO543.out (fun k_ hk => (⟨hk, hk.1.2⟩ : _ ∧ k_ ≠ gb572))) (fun k_ hk => (⟨hk, hk.1.2⟩ : _ ∧ k_ ≠ gb573))) (fun _ hk => hk.1.2) (.bool t555)) (fun _ hk => hk.1.2) (.bool t556)) (fun _ hk => hk.1.2) (.int .i64 t557)) (fun _ hk => hk.1.2) (.int .i64 t558)) (fun _ hk => hk.1.2) (.int .i64 t559)) (fun _ hk => hk.1.2) (.slice Ao30 t560.length co30)) (fun _ hk => hk.2) (.bool t563)) (fun _ hk => hk.2) (.bool t564)) (fun _ hk => hk.2) (.int .i64 t565)) (fun _ hk => hk.2) (.int .i64 t566)) (fun _ hk => hk.2) (.int .i64 t567)) (fun _ hk => hk.2) (.slice Ao35 t568.length co35)) (fun _ h_ => h_.1)) (fun _ h_ => h_.1))) hb); replace HO551 := Aside0.mk (Kd.N_below (by (with_reducible repeat (first | apply Kd.N_alloc | apply Kd.N_drewN | apply Kd.N_drew)); exact (Kd.N_mono (Kd.N_mono (Kd.N_far (p := ⟨gb573, 5, none⟩) (Kd.N_far (p := ⟨gb573, 4, none⟩) (Kd.N_far (p := ⟨gb573, 3, none⟩) (Kd.N_far (p := ⟨gb573, 2, none⟩) (Kd.N_far (p := ⟨gb573, 1, none⟩) (Kd.N_far (p := ⟨gb573, 0, none⟩) (Kd.N_far (p := ⟨gb572, 5, none⟩) (Kd.N_far (p := ⟨gb572, 4, none⟩) (Kd.N_far (p := ⟨gb572, 3, none⟩) (Kd.N_far (p := ⟨gb572, 2, none⟩) (Kd.N_far (p := ⟨gb572, 1, none⟩) (Kd.N_far (p := ⟨gb572, 0, none⟩) (Kd.N_mono (Kd.N_mono HO551.out (fun k_ hk => (⟨hk, hk.1.2⟩ : _ ∧ k_ ≠ gb572))) (fun k_ hk => (⟨hk, hk.1.2⟩ : _ ∧ k_ ≠ gb573))) (fun _ hk => hk.1.2) (.bool t555)) (fun _ hk => hk.1.2) (.bool t556)) (fun _ hk => hk.1.2) (.int .i64 t557)) (fun _ hk => hk.1.2) (.int .i64 t558)) (fun _ hk => hk.1.2) (.int .i64 t559)) (fun _ hk => hk.1.2) (.slice Ao30 t560.length co30)) (fun _ hk => hk.2) (.bool t563)) (fun _ hk => hk.2) (.bool t564)) (fun _ hk => hk.2) (.int .i64 t565)) (fun _ hk => hk.2) (.int .i64 t566)) (fun _ hk => hk.2) (.int .i64 t567)) (fun _ hk => hk.2) (.slice Ao35 t568.length co35)) (fun _ h_ => h_.1)) (fun _ h_ => h_.1))) hb); replace HO562 := Aside0.mk (Kd.N_below (by (with_reducible repeat (first | apply Kd.N_alloc | apply Kd.N_drewN | apply Kd.N_drew)); exact (Kd.N_mono (Kd.N_mono (Kd.N_far (p := ⟨gb573, 5, none⟩) (Kd.N_far (p := ⟨gb573, 4, none⟩) (Kd.N_far (p := ⟨gb573, 3, none⟩) (Kd.N_far (p := ⟨gb573, 2, none⟩) (Kd.N_far (p := ⟨gb573, 1, none⟩) (Kd.N_far (p := ⟨gb573, 0, none⟩) (Kd.N_far (p := ⟨gb572, 5, none⟩) (Kd.N_far (p := ⟨gb572, 4, none⟩) (Kd.N_far (p := ⟨gb572, 3, none⟩) (Kd.N_far (p := ⟨gb572, 2, none⟩) (Kd.N_far (p := ⟨gb572, 1, none⟩) (Kd.N_far (p := ⟨gb572, 0, none⟩) (Kd.N_mono (Kd.N_mono HO562.out (fun k_ hk => (⟨hk, hk.1.2⟩ : _ ∧ k_ ≠ gb572))) (fun k_ hk => (⟨hk, hk.1.2⟩ : _ ∧ k_ ≠ gb573))) (fun _ hk => hk.1.2) (.bool t555)) (fun _ hk => hk.1.2) (.bool t556)) (fun _ hk => hk.1.2) (.int .i64 t557)) (fun _ hk => hk.1.2) (.int .i64 t558)) (fun _ hk => hk.1.2) (.int .i64 t559)) (fun _ hk => hk.1.2) (.slice Ao30 t560.length co30)) (fun _ hk => hk.2) (.bool t563)) (fun _ hk => hk.2) (.bool t564)) (fun _ hk => hk.2) (.int .i64 t565)) (fun _ hk => hk.2) (.int .i64 t566)) (fun _ hk => hk.2) (.int .i64 t567)) (fun _ hk => hk.2) (.slice Ao35 t568.length co35)) (fun _ h_ => h_.1)) (fun _ h_ => h_.1))) hb); replace HO570 := Aside0.mk (Kd.N_below (by (with_reducible repeat (first | apply Kd.N_alloc | apply Kd.N_drewN | apply Kd.N_drew)); exact (Kd.N_mono (Kd.N_mono (Kd.N_far (p := ⟨gb573, 5, none⟩) (Kd.N_far (p := ⟨gb573, 4, none⟩) (Kd.N_far (p := ⟨gb573, 3, none⟩) (Kd.N_far (p := ⟨gb573, 2, none⟩) (Kd.N_far (p := ⟨gb573, 1, none⟩) (Kd.N_far (p := ⟨gb573, 0, none⟩) (Kd.N_far (p := ⟨gb572, 5, none⟩) (Kd.N_far (p := ⟨gb572, 4, none⟩) (Kd.N_far (p := ⟨gb572, 3, none⟩) (Kd.N_far (p := ⟨gb572, 2, none⟩) (Kd.N_far (p := ⟨gb572, 1, none⟩) (Kd.N_far (p := ⟨gb572, 0, none⟩) (Kd.N_mono (Kd.N_mono HO570.out (fun k_ hk => (⟨hk, hk.1.2⟩ : _ ∧ k_ ≠ gb572))) (fun k_ hk => (⟨hk, hk.1.2⟩ : _ ∧ k_ ≠ gb573))) (fun _ hk => hk.1.2) (.bool t555)) (fun _ hk => hk.1.2) (.bool t556)) (fun _ hk => hk.1.2) (.int .i64 t557)) (fun _ hk => hk.1.2) (.int .i64 t558)) (fun _ hk => hk.1.2) (.int .i64 t559)) (fun _ hk => hk.1.2) (.slice Ao30 t560.length co30)) (fun _ hk => hk.2) (.bool t563)) (fun _ hk => hk.2) (.bool t564)) (fun _ hk => hk.2) (.int .i64 t565)) (fun _ hk => hk.2) (.int .i64 t566)) (fun _ hk => hk.2) (.int .i64 t567)) (fun _ hk => hk.2) (.slice Ao35 t568.length co35)) (fun _ h_ => h_.1)) (fun _ h_ => h_.1))) hb); replace BK535 := tBb BK535 hb; replace BK553 := tBb BK553 hb; replace BK554 := tBb BK554 hb; replace BK572 := tBp (o' := .cells #[.bool t555, .bool t556, .int .i64 t557, .int .i64 t558, .int .i64 t559, .slice Ao30 t560.length co30] 25 (0, 0)) BK572 hb; replace BK573 := tBp (o' := .cells #[.bool t563, .bool t564, .int .i64 t565, .int .i64 t566, .int .i64 t567, .slice Ao35 t568.length co35] 25 (0, 0)) BK573 hb; replace HB := tBs HB hb; (try clear hb); (try clear hb2); (try clear hk); (try clear hi); have hnb51 := NB554_535.out; have hnc51 := NB535_554.out; have hnb52 := NB554_573.out; have hnc52 := NB573_554.out; obtain ⟨hcz53_0, hcz53_1, hcz53_2, hcz53_3, hcz53_4, hcz53_5, hfz53_0, hfz53_1, hfz53_2, hfz53_3, hfz53_4, hfz53_5⟩ := cells6 BK554.out; have hnb54 := NB573_535.out; have hnc54 := NB535_573.out; obtain ⟨hcz55_0, hcz55_1, hcz55_2, hcz55_3, hcz55_4, hcz55_5, hfz55_0, hfz55_1, hfz55_2, hfz55_3, hfz55_4, hfz55_5⟩ := cells6 BK573.out) | (go_at_call 11; (with_reducible refine (laws_sameBatch.calls k t544 t545 t546 t547 t548 _ _ t549 t563 t564 t565 t566 t567 _ _ t568 true _ ?side1 ?side2 ?side3 ?side4 A39.out).mono ?_); (case side1 => repeat (first | exact (Kd.N_reads' HO551.out).2.2 | (with_reducible refine Kd.C_alloc ?_ _) | (with_reducible refine Kd.C_drewN ?_ _) | (with_reducible refine Kd.C_drew ?_))); (case side2 => exact (Kd.N_reads' HO551.out).2.1); (case side3 => repeat (first | exact (Kd.N_reads' HO570.out).2.2 | (with_reducible refine Kd.C_alloc ?_ _) | (with_reducible refine Kd.C_drewN ?_ _) | (with_reducible refine Kd.C_drew ?_))); (case side4 => exact (Kd.N_reads' HO570.out).2.1); rintro e w56 ⟨rfl, hb⟩; replace HO533 := tNb HO533 hb; replace HO543 := tNb HO543 hb; replace HO551 := tNb HO551 hb; replace HO562 := tNb HO562 hb; replace HO570 := tNb HO570 hb; replace BK535 := tBb BK535 hb; replace BK553 := tBb BK553 hb; replace BK554 := tBb BK554 hb; replace BK572 := tBb BK572 hb; replace BK573 := tBb BK573 hb; replace HB := tBs HB hb; (try clear hb); (try clear hb2); (try clear hk); (try clear hi)))
      go_meet
      case rel => exact ⟨_, (!t552), tr, H', ⟨by first | omega | exact Nat.le_refl _⟩, ⟨tNm HO533.out⟩, ⟨tNm HO543.out⟩, ⟨tNm HO551.out⟩, ⟨tNm HO562.out⟩, ⟨tNm HO570.out⟩, ⟨tH BK535.out⟩, ⟨tH BK553.out⟩, ⟨tH BK554.out⟩, ⟨tH BK572.out⟩, ⟨tH BK573.out⟩, ⟨zb⟩⟩
     ·replace c40 := Bool.eq_false_iff.mpr c40
      subst c40
      rw [if_neg (show ¬ (false = true) by decide)] at H
      have H' := Aside0.mk H
      clear H
      have hnb57 := NB553_535.out
      have hnc57 := NB535_553.out
      have hnb58 := NB553_554.out
      have hnc58 := NB554_553.out
      have hnb59 := NB553_572.out
      have hnc59 := NB572_553.out
      have hnb60 := NB553_573.out
      have hnc60 := NB573_553.out
      obtain ⟨hcz61_0, hcz61_1, hcz61_2, hcz61_3, hcz61_4, hcz61_5, hfz61_0, hfz61_1, hfz61_2, hfz61_3, hfz61_4, hfz61_5⟩ := cells6 BK553.out
      have hnb62 := NB572_535.out
      have hnc62 := NB535_572.out
      have hnb63 := NB572_554.out
      have hnc63 := NB554_572.out
      have hnb64 := NB572_573.out
      have hnc64 := NB573_572.out
      obtain ⟨hcz65_0, hcz65_1, hcz65_2, hcz65_3, hcz65_4, hcz65_5, hfz65_0, hfz65_1, hfz65_2, hfz65_3, hfz65_4, hfz65_5⟩ := cells6 BK572.out
      go_wp2_with (first | (go_at_call 11; (with_reducible refine (laws_sameBatch.calls k t536 t537 t538 t539 t540 _ _ t541 t555 t556 t557 t558 t559 _ _ t560 true _ ?side1 ?side2 ?side3 ?side4 A37.out).mono ?_); (case side1 => refine (Kd.N_reads' (e := 41) (base := w.heap.size) (ok := fun k_ => (((((((some k_ ≠ (.slice Ao20 t549.length co20 : Value).ownBlock ∧ (some k_ ≠ (.slice Ao10 t531.length co10 : Value).ownBlock ∧ k_ ≠ gb535)) ∧ k_ ≠ gb553) ∧ k_ ≠ gb554) ∧ some k_ ≠ (.slice Ao30 t560.length co30 : Value).ownBlock) ∧ some k_ ≠ (.slice Ao35 t568.length co35 : Value).ownBlock) ∧ k_ ≠ gb572) ∧ k_ ≠ gb573)) (n := t541.length) (c := co17) ?_).2.2; exact (by (with_reducible repeat (first | apply Kd.N_alloc | apply Kd.N_drewN | apply Kd.N_drew)); exact (Kd.N_mono (Kd.N_mono (Kd.N_far (p := ⟨gb573, 5, none⟩) (Kd.N_far (p := ⟨gb573, 4, none⟩) (Kd.N_far (p := ⟨gb573, 3, none⟩) (Kd.N_far (p := ⟨gb573, 2, none⟩) (Kd.N_far (p := ⟨gb573, 1, none⟩) (Kd.N_far (p := ⟨gb573, 0, none⟩) (Kd.N_far (p := ⟨gb572, 5, none⟩) (Kd.N_far (p := ⟨gb572, 4, none⟩) (Kd.N_far (p := ⟨gb572, 3, none⟩) (Kd.N_far (p := ⟨gb572, 2, none⟩) (Kd.N_far (p := ⟨gb572, 1, none⟩) (Kd.N_far (p := ⟨gb572, 0, none⟩) (Kd.N_mono (Kd.N_mono HO543.out (fun k_ hk => (⟨hk, hk.1.2⟩ : _ ∧ k_ ≠ gb572))) (fun k_ hk => (⟨hk, hk.1.2⟩ : _ ∧ k_ ≠ gb573))) (fun _ hk => hk.1.2) (.bool t555)) (fun _ hk => hk.1.2) (.bool t556)) (fun _ hk => hk.1.2) (.int .i64 t557)) (fun _ hk => hk.1.2) (.int .i64 t558)) (fun _ hk => hk.1.2) (.int .i64 t559)) (fun _ hk => hk.1.2) (.slice Ao30 t560.length co30)) (fun _ hk => hk.2) (.bool t563)) (fun _ hk => hk.2) (.bool t564)) (fun _ hk => hk.2) (.int .i64 t565)) (fun _ hk => hk.2) (.int .i64 t566)) (fun _ hk => hk.2) (.int .i64 t567)) (fun _ hk => hk.2) (.slice Ao35 t568.length co35)) (fun _ h_ => h_.1)) (fun _ h_ => h_.1)))); (case side2 => exact (Kd.N_reads' HO543.out).2.1); (case side3 => refine (Kd.N_reads' (e := 41) (base := w.heap.size) (ok := fun k_ => (((some k_ ≠ (.slice Ao35 t568.length co35 : Value).ownBlock ∧ (some k_ ≠ (.slice Ao10 t531.length co10 : Value).ownBlock ∧ (some k_ ≠ (.slice Ao17 t541.length co17 : Value).ownBlock ∧ (some k_ ≠ (.slice Ao20 t549.length co20 : Value).ownBlock ∧ (k_ ≠ gb535 ∧ (k_ ≠ gb553 ∧ k_ ≠ gb554)))))) ∧ k_ ≠ gb572) ∧ k_ ≠ gb573)) (n := t560.length) (c := co30) ?_).2.2; exact (by (with_reducible repeat (first | apply Kd.N_alloc | apply Kd.N_drewN | apply Kd.N_drew)); exact (Kd.N_mono (Kd.N_mono (Kd.N_far (p := ⟨gb573, 5, none⟩) (Kd.N_far (p := ⟨gb573, 4, none⟩) (Kd.N_far (p := ⟨gb573, 3, none⟩) (Kd.N_far (p := ⟨gb573, 2, none⟩) (Kd.N_far (p := ⟨gb573, 1, none⟩) (Kd.N_far (p := ⟨gb573, 0, none⟩) (Kd.N_far (p := ⟨gb572, 5, none⟩) (Kd.N_far (p := ⟨gb572, 4, none⟩) (Kd.N_far (p := ⟨gb572, 3, none⟩) (Kd.N_far (p := ⟨gb572, 2, none⟩) (Kd.N_far (p := ⟨gb572, 1, none⟩) (Kd.N_far (p := ⟨gb572, 0, none⟩) (Kd.N_mono (Kd.N_mono HO562.out (fun k_ hk => (⟨hk, hk.1.2⟩ : _ ∧ k_ ≠ gb572))) (fun k_ hk => (⟨hk, hk.1.2⟩ : _ ∧ k_ ≠ gb573))) (fun _ hk => hk.1.2) (.bool t555)) (fun _ hk => hk.1.2) (.bool t556)) (fun _ hk => hk.1.2) (.int .i64 t557)) (fun _ hk => hk.1.2) (.int .i64 t558)) (fun _ hk => hk.1.2) (.int .i64 t559)) (fun _ hk => hk.1.2) (.slice Ao30 t560.length co30)) (fun _ hk => hk.2) (.bool t563)) (fun _ hk => hk.2) (.bool t564)) (fun _ hk => hk.2) (.int .i64 t565)) (fun _ hk => hk.2) (.int .i64 t566)) (fun _ hk => hk.2) (.int .i64 t567)) (fun _ hk => hk.2) (.slice Ao35 t568.length co35)) (fun _ h_ => h_.1)) (fun _ h_ => h_.1)))); (case side4 => exact (Kd.N_reads' HO562.out).2.1); rintro e w66 ⟨rfl, hb⟩; replace HO533 := Aside0.mk (Kd.N_below (by (with_reducible repeat (first | apply Kd.N_alloc | apply Kd.N_drewN | apply Kd.N_drew)); exact (Kd.N_mono (Kd.N_mono (Kd.N_far (p := ⟨gb573, 5, none⟩) (Kd.N_far (p := ⟨gb573, 4, none⟩) (Kd.N_far (p := ⟨gb573, 3, none⟩) (Kd.N_far (p := ⟨gb573, 2, none⟩) (Kd.N_far (p := ⟨gb573, 1, none⟩) (Kd.N_far (p := ⟨gb573, 0, none⟩) (Kd.N_far (p := ⟨gb572, 5, none⟩) (Kd.N_far (p := ⟨gb572, 4, none⟩) (Kd.N_far (p := ⟨gb572, 3, none⟩) (Kd.N_far (p := ⟨gb572, 2, none⟩) (Kd.N_far (p := ⟨gb572, 1, none⟩) (Kd.N_far (p := ⟨gb572, 0, none⟩) (Kd.N_mono (Kd.N_mono HO533.out (fun k_ hk => (⟨hk, hk.1.2⟩ : _ ∧ k_ ≠ gb572))) (fun k_ hk => (⟨hk, hk.1.2⟩ : _ ∧ k_ ≠ gb573))) (fun _ hk => hk.1.2) (.bool t555)) (fun _ hk => hk.1.2) (.bool t556)) (fun _ hk => hk.1.2) (.int .i64 t557)) (fun _ hk => hk.1.2) (.int .i64 t558)) (fun _ hk => hk.1.2) (.int .i64 t559)) (fun _ hk => hk.1.2) (.slice Ao30 t560.length co30)) (fun _ hk => hk.2) (.bool t563)) (fun _ hk => hk.2) (.bool t564)) (fun _ hk => hk.2) (.int .i64 t565)) (fun _ hk => hk.2) (.int .i64 t566)) (fun _ hk => hk.2) (.int .i64 t567)) (fun _ hk => hk.2) (.slice Ao35 t568.length co35)) (fun _ h_ => h_.1)) (fun _ h_ => h_.1))) hb); replace HO543 := Aside0.mk (Kd.N_below (by (with_reducible repeat (first | apply Kd.N_alloc | apply Kd.N_drewN | apply Kd.N_drew)); exact (Kd.N_mono (Kd.N_mono (Kd.N_far (p := ⟨gb573, 5, none⟩) (Kd.N_far (p := ⟨gb573, 4, none⟩) (Kd.N_far (p := ⟨gb573, 3, none⟩) (Kd.N_far (p := ⟨gb573, 2, none⟩) (Kd.N_far (p := ⟨gb573, 1, none⟩) (Kd.N_far (p := ⟨gb573, 0, none⟩) (Kd.N_far (p := ⟨gb572, 5, none⟩) (Kd.N_far (p := ⟨gb572, 4, none⟩) (Kd.N_far (p := ⟨gb572, 3, none⟩) (Kd.N_far (p := ⟨gb572, 2, none⟩) (Kd.N_far (p := ⟨gb572, 1, none⟩) (Kd.N_far (p := ⟨gb572, 0, none⟩) (Kd.N_mono (Kd.N_mono HO543.out (fun k_ hk => (⟨hk, hk.1.2⟩ : _ ∧ k_ ≠ gb572))) (fun k_ hk => (⟨hk, hk.1.2⟩ : _ ∧ k_ ≠ gb573))) (fun _ hk => hk.1.2) (.bool t555)) (fun _ hk => hk.1.2) (.bool t556)) (fun _ hk => hk.1.2) (.int .i64 t557)) (fun _ hk => hk.1.2) (.int .i64 t558)) (fun _ hk => hk.1.2) (.int .i64 t559)) (fun _ hk => hk.1.2) (.slice Ao30 t560.length co30)) (fun _ hk => hk.2) (.bool t563)) (fun _ hk => hk.2) (.bool t564)) (fun _ hk => hk.2) (.int .i64 t565)) (fun _ hk => hk.2) (.int .i64 t566)) (fun _ hk => hk.2) (.int .i64 t567)) (fun _ hk => hk.2) (.slice Ao35 t568.length co35)) (fun _ h_ => h_.1)) (fun _ h_ => h_.1))) hb); replace HO551 := Aside0.mk (Kd.N_below (by (with_reducible repeat (first | apply Kd.N_alloc | apply Kd.N_drewN | apply Kd.N_drew)); exact (Kd.N_mono (Kd.N_mono (Kd.N_far (p := ⟨gb573, 5, none⟩) (Kd.N_far (p := ⟨gb573, 4, none⟩) (Kd.N_far (p := ⟨gb573, 3, none⟩) (Kd.N_far (p := ⟨gb573, 2, none⟩) (Kd.N_far (p := ⟨gb573, 1, none⟩) (Kd.N_far (p := ⟨gb573, 0, none⟩) (Kd.N_far (p := ⟨gb572, 5, none⟩) (Kd.N_far (p := ⟨gb572, 4, none⟩) (Kd.N_far (p := ⟨gb572, 3, none⟩) (Kd.N_far (p := ⟨gb572, 2, none⟩) (Kd.N_far (p := ⟨gb572, 1, none⟩) (Kd.N_far (p := ⟨gb572, 0, none⟩) (Kd.N_mono (Kd.N_mono HO551.out (fun k_ hk => (⟨hk, hk.1.2⟩ : _ ∧ k_ ≠ gb572))) (fun k_ hk => (⟨hk, hk.1.2⟩ : _ ∧ k_ ≠ gb573))) (fun _ hk => hk.1.2) (.bool t555)) (fun _ hk => hk.1.2) (.bool t556)) (fun _ hk => hk.1.2) (.int .i64 t557)) (fun _ hk => hk.1.2) (.int .i64 t558)) (fun _ hk => hk.1.2) (.int .i64 t559)) (fun _ hk => hk.1.2) (.slice Ao30 t560.length co30)) (fun _ hk => hk.2) (.bool t563)) (fun _ hk => hk.2) (.bool t564)) (fun _ hk => hk.2) (.int .i64 t565)) (fun _ hk => hk.2) (.int .i64 t566)) (fun _ hk => hk.2) (.int .i64 t567)) (fun _ hk => hk.2) (.slice Ao35 t568.length co35)) (fun _ h_ => h_.1)) (fun _ h_ => h_.1))) hb); replace HO562 := Aside0.mk (Kd.N_below (by (with_reducible repeat (first | apply Kd.N_alloc | apply Kd.N_drewN | apply Kd.N_drew)); exact (Kd.N_mono (Kd.N_mono (Kd.N_far (p := ⟨gb573, 5, none⟩) (Kd.N_far (p := ⟨gb573, 4, none⟩) (Kd.N_far (p := ⟨gb573, 3, none⟩) (Kd.N_far (p := ⟨gb573, 2, none⟩) (Kd.N_far (p := ⟨gb573, 1, none⟩) (Kd.N_far (p := ⟨gb573, 0, none⟩) (Kd.N_far (p := ⟨gb572, 5, none⟩) (Kd.N_far (p := ⟨gb572, 4, none⟩) (Kd.N_far (p := ⟨gb572, 3, none⟩) (Kd.N_far (p := ⟨gb572, 2, none⟩) (Kd.N_far (p := ⟨gb572, 1, none⟩) (Kd.N_far (p := ⟨gb572, 0, none⟩) (Kd.N_mono (Kd.N_mono HO562.out (fun k_ hk => (⟨hk, hk.1.2⟩ : _ ∧ k_ ≠ gb572))) (fun k_ hk => (⟨hk, hk.1.2⟩ : _ ∧ k_ ≠ gb573))) (fun _ hk => hk.1.2) (.bool t555)) (fun _ hk => hk.1.2) (.bool t556)) (fun _ hk => hk.1.2) (.int .i64 t557)) (fun _ hk => hk.1.2) (.int .i64 t558)) (fun _ hk => hk.1.2) (.int .i64 t559)) (fun _ hk => hk.1.2) (.slice Ao30 t560.length co30)) (fun _ hk => hk.2) (.bool t563)) (fun _ hk => hk.2) (.bool t564)) (fun _ hk => hk.2) (.int .i64 t565)) (fun _ hk => hk.2) (.int .i64 t566)) (fun _ hk => hk.2) (.int .i64 t567)) (fun _ hk => hk.2) (.slice Ao35 t568.length co35)) (fun _ h_ => h_.1)) (fun _ h_ => h_.1))) hb); replace HO570 := Aside0.mk (Kd.N_below (by (with_reducible repeat (first | apply Kd.N_alloc | apply Kd.N_drewN | apply Kd.N_drew)); exact (Kd.N_mono (Kd.N_mono (Kd.N_far (p := ⟨gb573, 5, none⟩) (Kd.N_far (p := ⟨gb573, 4, none⟩) (Kd.N_far (p := ⟨gb573, 3, none⟩) (Kd.N_far (p := ⟨gb573, 2, none⟩) (Kd.N_far (p := ⟨gb573, 1, none⟩) (Kd.N_far (p := ⟨gb573, 0, none⟩) (Kd.N_far (p := ⟨gb572, 5, none⟩) (Kd.N_far (p := ⟨gb572, 4, none⟩) (Kd.N_far (p := ⟨gb572, 3, none⟩) (Kd.N_far (p := ⟨gb572, 2, none⟩) (Kd.N_far (p := ⟨gb572, 1, none⟩) (Kd.N_far (p := ⟨gb572, 0, none⟩) (Kd.N_mono (Kd.N_mono HO570.out (fun k_ hk => (⟨hk, hk.1.2⟩ : _ ∧ k_ ≠ gb572))) (fun k_ hk => (⟨hk, hk.1.2⟩ : _ ∧ k_ ≠ gb573))) (fun _ hk => hk.1.2) (.bool t555)) (fun _ hk => hk.1.2) (.bool t556)) (fun _ hk => hk.1.2) (.int .i64 t557)) (fun _ hk => hk.1.2) (.int .i64 t558)) (fun _ hk => hk.1.2) (.int .i64 t559)) (fun _ hk => hk.1.2) (.slice Ao30 t560.length co30)) (fun _ hk => hk.2) (.bool t563)) (fun _ hk => hk.2) (.bool t564)) (fun _ hk => hk.2) (.int .i64 t565)) (fun _ hk => hk.2) (.int .i64 t566)) (fun _ hk => hk.2) (.int .i64 t567)) (fun _ hk => hk.2) (.slice Ao35 t568.length co35)) (fun _ h_ => h_.1)) (fun _ h_ => h_.1))) hb); replace BK535 := tBb BK535 hb; replace BK553 := tBb BK553 hb; replace BK554 := tBb BK554 hb; replace BK572 := tBp (o' := .cells #[.bool t555, .bool t556, .int .i64 t557, .int .i64 t558, .int .i64 t559, .slice Ao30 t560.length co30] 25 (0, 0)) BK572 hb; replace BK573 := tBp (o' := .cells #[.bool t563, .bool t564, .int .i64 t565, .int .i64 t566, .int .i64 t567, .slice Ao35 t568.length co35] 25 (0, 0)) BK573 hb; replace HB := tBs HB hb; (try clear hb); (try clear hb2); (try clear hk); (try clear hi); have hnb67 := NB554_535.out; have hnc67 := NB535_554.out; have hnb68 := NB554_573.out; have hnc68 := NB573_554.out; obtain ⟨hcz69_0, hcz69_1, hcz69_2, hcz69_3, hcz69_4, hcz69_5, hfz69_0, hfz69_1, hfz69_2, hfz69_3, hfz69_4, hfz69_5⟩ := cells6 BK554.out; have hnb70 := NB573_535.out; have hnc70 := NB535_573.out; obtain ⟨hcz71_0, hcz71_1, hcz71_2, hcz71_3, hcz71_4, hcz71_5, hfz71_0, hfz71_1, hfz71_2, hfz71_3, hfz71_4, hfz71_5⟩ := cells6 BK573.out) | (go_at_call 11; (with_reducible refine (laws_sameBatch.calls k t544 t545 t546 t547 t548 _ _ t549 t563 t564 t565 t566 t567 _ _ t568 false _ ?side1 ?side2 ?side3 ?side4 A39.out).mono ?_); (case side1 => repeat (first | exact (Kd.N_reads' HO551.out).2.2 | (with_reducible refine Kd.C_alloc ?_ _) | (with_reducible refine Kd.C_drewN ?_ _) | (with_reducible refine Kd.C_drew ?_))); (case side2 => exact (Kd.N_reads' HO551.out).2.1); (case side3 => repeat (first | exact (Kd.N_reads' HO570.out).2.2 | (with_reducible refine Kd.C_alloc ?_ _) | (with_reducible refine Kd.C_drewN ?_ _) | (with_reducible refine Kd.C_drew ?_))); (case side4 => exact (Kd.N_reads' HO570.out).2.1); rintro e w72 ⟨rfl, hb⟩; replace HO533 := tNb HO533 hb; replace HO543 := tNb HO543 hb; replace HO551 := tNb HO551 hb; replace HO562 := tNb HO562 hb; replace HO570 := tNb HO570 hb; replace BK535 := tBb BK535 hb; replace BK553 := tBb BK553 hb; replace BK554 := tBb BK554 hb; replace BK572 := tBb BK572 hb; replace BK573 := tBb BK573 hb; replace HB := tBs HB hb; (try clear hb); (try clear hb2); (try clear hk); (try clear hi)))
      go_meet
      case rel => exact ⟨_, (true), tr, H', ⟨by first | omega | exact Nat.le_refl _⟩, ⟨tNm HO533.out⟩, ⟨tNm HO543.out⟩, ⟨tNm HO551.out⟩, ⟨tNm HO562.out⟩, ⟨tNm HO570.out⟩, ⟨tH BK535.out⟩, ⟨tH BK553.out⟩, ⟨tH BK554.out⟩, ⟨tH BK572.out⟩, ⟨tH BK573.out⟩, ⟨zb⟩⟩
    ·replace c38 := Bool.eq_false_iff.mpr c38
     subst c38
     rw [if_neg (show ¬ (false = true) by decide)] at H
     have H' := Aside0.mk H
     clear H
     have hnb73 := NB553_535.out
     have hnc73 := NB535_553.out
     have hnb74 := NB553_554.out
     have hnc74 := NB554_553.out
     have hnb75 := NB553_572.out
     have hnc75 := NB572_553.out
     have hnb76 := NB553_573.out
     have hnc76 := NB573_553.out
     obtain ⟨hcz77_0, hcz77_1, hcz77_2, hcz77_3, hcz77_4, hcz77_5, hfz77_0, hfz77_1, hfz77_2, hfz77_3, hfz77_4, hfz77_5⟩ := cells6 BK553.out
     have hnb78 := NB572_535.out
     have hnc78 := NB535_572.out
     have hnb79 := NB572_554.out
     have hnc79 := NB554_572.out
     have hnb80 := NB572_573.out
     have hnc80 := NB573_572.out
     obtain ⟨hcz81_0, hcz81_1, hcz81_2, hcz81_3, hcz81_4, hcz81_5, hfz81_0, hfz81_1, hfz81_2, hfz81_3, hfz81_4, hfz81_5⟩ := cells6 BK572.out
     go_wp2_with (first | (go_at_call 11; (with_reducible refine (laws_sameBatch.calls k t536 t537 t538 t539 t540 _ _ t541 t555 t556 t557 t558 t559 _ _ t560 false _ ?side1 ?side2 ?side3 ?side4 A37.out).mono ?_); (case side1 => refine (Kd.N_reads' (e := 41) (base := w.heap.size) (ok := fun k_ => (((((((some k_ ≠ (.slice Ao20 t549.length co20 : Value).ownBlock ∧ (some k_ ≠ (.slice Ao10 t531.length co10 : Value).ownBlock ∧ k_ ≠ gb535)) ∧ k_ ≠ gb553) ∧ k_ ≠ gb554) ∧ some k_ ≠ (.slice Ao30 t560.length co30 : Value).ownBlock) ∧ some k_ ≠ (.slice Ao35 t568.length co35 : Value).ownBlock) ∧ k_ ≠ gb572) ∧ k_ ≠ gb573)) (n := t541.length) (c := co17) ?_).2.2; exact (by (with_reducible repeat (first | apply Kd.N_alloc | apply Kd.N_drewN | apply Kd.N_drew)); exact (Kd.N_mono (Kd.N_mono (Kd.N_far (p := ⟨gb573, 5, none⟩) (Kd.N_far (p := ⟨gb573, 4, none⟩) (Kd.N_far (p := ⟨gb573, 3, none⟩) (Kd.N_far (p := ⟨gb573, 2, none⟩) (Kd.N_far (p := ⟨gb573, 1, none⟩) (Kd.N_far (p := ⟨gb573, 0, none⟩) (Kd.N_far (p := ⟨gb572, 5, none⟩) (Kd.N_far (p := ⟨gb572, 4, none⟩) (Kd.N_far (p := ⟨gb572, 3, none⟩) (Kd.N_far (p := ⟨gb572, 2, none⟩) (Kd.N_far (p := ⟨gb572, 1, none⟩) (Kd.N_far (p := ⟨gb572, 0, none⟩) (Kd.N_mono (Kd.N_mono HO543.out (fun k_ hk => (⟨hk, hk.1.2⟩ : _ ∧ k_ ≠ gb572))) (fun k_ hk => (⟨hk, hk.1.2⟩ : _ ∧ k_ ≠ gb573))) (fun _ hk => hk.1.2) (.bool t555)) (fun _ hk => hk.1.2) (.bool t556)) (fun _ hk => hk.1.2) (.int .i64 t557)) (fun _ hk => hk.1.2) (.int .i64 t558)) (fun _ hk => hk.1.2) (.int .i64 t559)) (fun _ hk => hk.1.2) (.slice Ao30 t560.length co30)) (fun _ hk => hk.2) (.bool t563)) (fun _ hk => hk.2) (.bool t564)) (fun _ hk => hk.2) (.int .i64 t565)) (fun _ hk => hk.2) (.int .i64 t566)) (fun _ hk => hk.2) (.int .i64 t567)) (fun _ hk => hk.2) (.slice Ao35 t568.length co35)) (fun _ h_ => h_.1)) (fun _ h_ => h_.1)))); (case side2 => exact (Kd.N_reads' HO543.out).2.1); (case side3 => refine (Kd.N_reads' (e := 41) (base := w.heap.size) (ok := fun k_ => (((some k_ ≠ (.slice Ao35 t568.length co35 : Value).ownBlock ∧ (some k_ ≠ (.slice Ao10 t531.length co10 : Value).ownBlock ∧ (some k_ ≠ (.slice Ao17 t541.length co17 : Value).ownBlock ∧ (some k_ ≠ (.slice Ao20 t549.length co20 : Value).ownBlock ∧ (k_ ≠ gb535 ∧ (k_ ≠ gb553 ∧ k_ ≠ gb554)))))) ∧ k_ ≠ gb572) ∧ k_ ≠ gb573)) (n := t560.length) (c := co30) ?_).2.2; exact (by (with_reducible repeat (first | apply Kd.N_alloc | apply Kd.N_drewN | apply Kd.N_drew)); exact (Kd.N_mono (Kd.N_mono (Kd.N_far (p := ⟨gb573, 5, none⟩) (Kd.N_far (p := ⟨gb573, 4, none⟩) (Kd.N_far (p := ⟨gb573, 3, none⟩) (Kd.N_far (p := ⟨gb573, 2, none⟩) (Kd.N_far (p := ⟨gb573, 1, none⟩) (Kd.N_far (p := ⟨gb573, 0, none⟩) (Kd.N_far (p := ⟨gb572, 5, none⟩) (Kd.N_far (p := ⟨gb572, 4, none⟩) (Kd.N_far (p := ⟨gb572, 3, none⟩) (Kd.N_far (p := ⟨gb572, 2, none⟩) (Kd.N_far (p := ⟨gb572, 1, none⟩) (Kd.N_far (p := ⟨gb572, 0, none⟩) (Kd.N_mono (Kd.N_mono HO562.out (fun k_ hk => (⟨hk, hk.1.2⟩ : _ ∧ k_ ≠ gb572))) (fun k_ hk => (⟨hk, hk.1.2⟩ : _ ∧ k_ ≠ gb573))) (fun _ hk => hk.1.2) (.bool t555)) (fun _ hk => hk.1.2) (.bool t556)) (fun _ hk => hk.1.2) (.int .i64 t557)) (fun _ hk => hk.1.2) (.int .i64 t558)) (fun _ hk => hk.1.2) (.int .i64 t559)) (fun _ hk => hk.1.2) (.slice Ao30 t560.length co30)) (fun _ hk => hk.2) (.bool t563)) (fun _ hk => hk.2) (.bool t564)) (fun _ hk => hk.2) (.int .i64 t565)) (fun _ hk => hk.2) (.int .i64 t566)) (fun _ hk => hk.2) (.int .i64 t567)) (fun _ hk => hk.2) (.slice Ao35 t568.length co35)) (fun _ h_ => h_.1)) (fun _ h_ => h_.1)))); (case side4 => exact (Kd.N_reads' HO562.out).2.1); rintro e w82 ⟨rfl, hb⟩; replace HO533 := Aside0.mk (Kd.N_below (by (with_reducible repeat (first | apply Kd.N_alloc | apply Kd.N_drewN | apply Kd.N_drew)); exact (Kd.N_mono (Kd.N_mono (Kd.N_far (p := ⟨gb573, 5, none⟩) (Kd.N_far (p := ⟨gb573, 4, none⟩) (Kd.N_far (p := ⟨gb573, 3, none⟩) (Kd.N_far (p := ⟨gb573, 2, none⟩) (Kd.N_far (p := ⟨gb573, 1, none⟩) (Kd.N_far (p := ⟨gb573, 0, none⟩) (Kd.N_far (p := ⟨gb572, 5, none⟩) (Kd.N_far (p := ⟨gb572, 4, none⟩) (Kd.N_far (p := ⟨gb572, 3, none⟩) (Kd.N_far (p := ⟨gb572, 2, none⟩) (Kd.N_far (p := ⟨gb572, 1, none⟩) (Kd.N_far (p := ⟨gb572, 0, none⟩) (Kd.N_mono (Kd.N_mono HO533.out (fun k_ hk => (⟨hk, hk.1.2⟩ : _ ∧ k_ ≠ gb572))) (fun k_ hk => (⟨hk, hk.1.2⟩ : _ ∧ k_ ≠ gb573))) (fun _ hk => hk.1.2) (.bool t555)) (fun _ hk => hk.1.2) (.bool t556)) (fun _ hk => hk.1.2) (.int .i64 t557)) (fun _ hk => hk.1.2) (.int .i64 t558)) (fun _ hk => hk.1.2) (.int .i64 t559)) (fun _ hk => hk.1.2) (.slice Ao30 t560.length co30)) (fun _ hk => hk.2) (.bool t563)) (fun _ hk => hk.2) (.bool t564)) (fun _ hk => hk.2) (.int .i64 t565)) (fun _ hk => hk.2) (.int .i64 t566)) (fun _ hk => hk.2) (.int .i64 t567)) (fun _ hk => hk.2) (.slice Ao35 t568.length co35)) (fun _ h_ => h_.1)) (fun _ h_ => h_.1))) hb); replace HO543 := Aside0.mk (Kd.N_below (by (with_reducible repeat (first | apply Kd.N_alloc | apply Kd.N_drewN | apply Kd.N_drew)); exact (Kd.N_mono (Kd.N_mono (Kd.N_far (p := ⟨gb573, 5, none⟩) (Kd.N_far (p := ⟨gb573, 4, none⟩) (Kd.N_far (p := ⟨gb573, 3, none⟩) (Kd.N_far (p := ⟨gb573, 2, none⟩) (Kd.N_far (p := ⟨gb573, 1, none⟩) (Kd.N_far (p := ⟨gb573, 0, none⟩) (Kd.N_far (p := ⟨gb572, 5, none⟩) (Kd.N_far (p := ⟨gb572, 4, none⟩) (Kd.N_far (p := ⟨gb572, 3, none⟩) (Kd.N_far (p := ⟨gb572, 2, none⟩) (Kd.N_far (p := ⟨gb572, 1, none⟩) (Kd.N_far (p := ⟨gb572, 0, none⟩) (Kd.N_mono (Kd.N_mono HO543.out (fun k_ hk => (⟨hk, hk.1.2⟩ : _ ∧ k_ ≠ gb572))) (fun k_ hk => (⟨hk, hk.1.2⟩ : _ ∧ k_ ≠ gb573))) (fun _ hk => hk.1.2) (.bool t555)) (fun _ hk => hk.1.2) (.bool t556)) (fun _ hk => hk.1.2) (.int .i64 t557)) (fun _ hk => hk.1.2) (.int .i64 t558)) (fun _ hk => hk.1.2) (.int .i64 t559)) (fun _ hk => hk.1.2) (.slice Ao30 t560.length co30)) (fun _ hk => hk.2) (.bool t563)) (fun _ hk => hk.2) (.bool t564)) (fun _ hk => hk.2) (.int .i64 t565)) (fun _ hk => hk.2) (.int .i64 t566)) (fun _ hk => hk.2) (.int .i64 t567)) (fun _ hk => hk.2) (.slice Ao35 t568.length co35)) (fun _ h_ => h_.1)) (fun _ h_ => h_.1))) hb); replace HO551 := Aside0.mk (Kd.N_below (by (with_reducible repeat (first | apply Kd.N_alloc | apply Kd.N_drewN | apply Kd.N_drew)); exact (Kd.N_mono (Kd.N_mono (Kd.N_far (p := ⟨gb573, 5, none⟩) (Kd.N_far (p := ⟨gb573, 4, none⟩) (Kd.N_far (p := ⟨gb573, 3, none⟩) (Kd.N_far (p := ⟨gb573, 2, none⟩) (Kd.N_far (p := ⟨gb573, 1, none⟩) (Kd.N_far (p := ⟨gb573, 0, none⟩) (Kd.N_far (p := ⟨gb572, 5, none⟩) (Kd.N_far (p := ⟨gb572, 4, none⟩) (Kd.N_far (p := ⟨gb572, 3, none⟩) (Kd.N_far (p := ⟨gb572, 2, none⟩) (Kd.N_far (p := ⟨gb572, 1, none⟩) (Kd.N_far (p := ⟨gb572, 0, none⟩) (Kd.N_mono (Kd.N_mono HO551.out (fun k_ hk => (⟨hk, hk.1.2⟩ : _ ∧ k_ ≠ gb572))) (fun k_ hk => (⟨hk, hk.1.2⟩ : _ ∧ k_ ≠ gb573))) (fun _ hk => hk.1.2) (.bool t555)) (fun _ hk => hk.1.2) (.bool t556)) (fun _ hk => hk.1.2) (.int .i64 t557)) (fun _ hk => hk.1.2) (.int .i64 t558)) (fun _ hk => hk.1.2) (.int .i64 t559)) (fun _ hk => hk.1.2) (.slice Ao30 t560.length co30)) (fun _ hk => hk.2) (.bool t563)) (fun _ hk => hk.2) (.bool t564)) (fun _ hk => hk.2) (.int .i64 t565)) (fun _ hk => hk.2) (.int .i64 t566)) (fun _ hk => hk.2) (.int .i64 t567)) (fun _ hk => hk.2) (.slice Ao35 t568.length co35)) (fun _ h_ => h_.1)) (fun _ h_ => h_.1))) hb); replace HO562 := Aside0.mk (Kd.N_below (by (with_reducible repeat (first | apply Kd.N_alloc | apply Kd.N_drewN | apply Kd.N_drew)); exact (Kd.N_mono (Kd.N_mono (Kd.N_far (p := ⟨gb573, 5, none⟩) (Kd.N_far (p := ⟨gb573, 4, none⟩) (Kd.N_far (p := ⟨gb573, 3, none⟩) (Kd.N_far (p := ⟨gb573, 2, none⟩) (Kd.N_far (p := ⟨gb573, 1, none⟩) (Kd.N_far (p := ⟨gb573, 0, none⟩) (Kd.N_far (p := ⟨gb572, 5, none⟩) (Kd.N_far (p := ⟨gb572, 4, none⟩) (Kd.N_far (p := ⟨gb572, 3, none⟩) (Kd.N_far (p := ⟨gb572, 2, none⟩) (Kd.N_far (p := ⟨gb572, 1, none⟩) (Kd.N_far (p := ⟨gb572, 0, none⟩) (Kd.N_mono (Kd.N_mono HO562.out (fun k_ hk => (⟨hk, hk.1.2⟩ : _ ∧ k_ ≠ gb572))) (fun k_ hk => (⟨hk, hk.1.2⟩ : _ ∧ k_ ≠ gb573))) (fun _ hk => hk.1.2) (.bool t555)) (fun _ hk => hk.1.2) (.bool t556)) (fun _ hk => hk.1.2) (.int .i64 t557)) (fun _ hk => hk.1.2) (.int .i64 t558)) (fun _ hk => hk.1.2) (.int .i64 t559)) (fun _ hk => hk.1.2) (.slice Ao30 t560.length co30)) (fun _ hk => hk.2) (.bool t563)) (fun _ hk => hk.2) (.bool t564)) (fun _ hk => hk.2) (.int .i64 t565)) (fun _ hk => hk.2) (.int .i64 t566)) (fun _ hk => hk.2) (.int .i64 t567)) (fun _ hk => hk.2) (.slice Ao35 t568.length co35)) (fun _ h_ => h_.1)) (fun _ h_ => h_.1))) hb); replace HO570 := Aside0.mk (Kd.N_below (by (with_reducible repeat (first | apply Kd.N_alloc | apply Kd.N_drewN | apply Kd.N_drew)); exact (Kd.N_mono (Kd.N_mono (Kd.N_far (p := ⟨gb573, 5, none⟩) (Kd.N_far (p := ⟨gb573, 4, none⟩) (Kd.N_far (p := ⟨gb573, 3, none⟩) (Kd.N_far (p := ⟨gb573, 2, none⟩) (Kd.N_far (p := ⟨gb573, 1, none⟩) (Kd.N_far (p := ⟨gb573, 0, none⟩) (Kd.N_far (p := ⟨gb572, 5, none⟩) (Kd.N_far (p := ⟨gb572, 4, none⟩) (Kd.N_far (p := ⟨gb572, 3, none⟩) (Kd.N_far (p := ⟨gb572, 2, none⟩) (Kd.N_far (p := ⟨gb572, 1, none⟩) (Kd.N_far (p := ⟨gb572, 0, none⟩) (Kd.N_mono (Kd.N_mono HO570.out (fun k_ hk => (⟨hk, hk.1.2⟩ : _ ∧ k_ ≠ gb572))) (fun k_ hk => (⟨hk, hk.1.2⟩ : _ ∧ k_ ≠ gb573))) (fun _ hk => hk.1.2) (.bool t555)) (fun _ hk => hk.1.2) (.bool t556)) (fun _ hk => hk.1.2) (.int .i64 t557)) (fun _ hk => hk.1.2) (.int .i64 t558)) (fun _ hk => hk.1.2) (.int .i64 t559)) (fun _ hk => hk.1.2) (.slice Ao30 t560.length co30)) (fun _ hk => hk.2) (.bool t563)) (fun _ hk => hk.2) (.bool t564)) (fun _ hk => hk.2) (.int .i64 t565)) (fun _ hk => hk.2) (.int .i64 t566)) (fun _ hk => hk.2) (.int .i64 t567)) (fun _ hk => hk.2) (.slice Ao35 t568.length co35)) (fun _ h_ => h_.1)) (fun _ h_ => h_.1))) hb); replace BK535 := tBb BK535 hb; replace BK553 := tBb BK553 hb; replace BK554 := tBb BK554 hb; replace BK572 := tBp (o' := .cells #[.bool t555, .bool t556, .int .i64 t557, .int .i64 t558, .int .i64 t559, .slice Ao30 t560.length co30] 25 (0, 0)) BK572 hb; replace BK573 := tBp (o' := .cells #[.bool t563, .bool t564, .int .i64 t565, .int .i64 t566, .int .i64 t567, .slice Ao35 t568.length co35] 25 (0, 0)) BK573 hb; replace HB := tBs HB hb; (try clear hb); (try clear hb2); (try clear hk); (try clear hi)))
     go_meet
     case rel => exact ⟨_, (true), tr, H', ⟨by first | omega | exact Nat.le_refl _⟩, ⟨tNm HO533.out⟩, ⟨tNm HO543.out⟩, ⟨tNm HO551.out⟩, ⟨tNm HO562.out⟩, ⟨tNm HO570.out⟩, ⟨tH BK535.out⟩, ⟨tH BK553.out⟩, ⟨tH BK554.out⟩, ⟨tH BK572.out⟩, ⟨tH BK573.out⟩, ⟨zb⟩⟩
  case rest =>
   clear HC6
   try clear c2; try clear c2b0; try clear c2b1; try clear hcz16_0; try clear hcz16_1; try clear hcz16_2; try clear hcz16_3; try clear hcz16_4; try clear hcz16_5; try clear hcz19_0; try clear hcz19_1; try clear hcz19_2; try clear hcz19_3; try clear hcz19_4; try clear hcz19_5; try clear hcz21_0; try clear hcz21_1; try clear hcz21_2; try clear hcz21_3; try clear hcz21_4; try clear hcz21_5; try clear hcz29_0; try clear hcz29_1; try clear hcz29_2; try clear hcz29_3; try clear hcz29_4; try clear hcz29_5; try clear hcz34_0; try clear hcz34_1; try clear hcz34_2; try clear hcz34_3; try clear hcz34_4; try clear hcz34_5; try clear hcz9_0; try clear hcz9_1; try clear hcz9_2; try clear hcz9_3; try clear hcz9_4; try clear hcz9_5; try clear hfz16_0; try clear hfz16_1; try clear hfz16_2; try clear hfz16_3; try clear hfz16_4; try clear hfz16_5; try clear hfz19_0; try clear hfz19_1; try clear hfz19_2; try clear hfz19_3; try clear hfz19_4; try clear hfz19_5; try clear hfz21_0; try clear hfz21_1; try clear hfz21_2; try clear hfz21_3; try clear hfz21_4; try clear hfz21_5; try clear hfz29_0; try clear hfz29_1; try clear hfz29_2; try clear hfz29_3; try clear hfz29_4; try clear hfz29_5; try clear hfz34_0; try clear hfz34_1; try clear hfz34_2; try clear hfz34_3; try clear hfz34_4; try clear hfz34_5; try clear hfz9_0; try clear hfz9_1; try clear hfz9_2; try clear hfz9_3; try clear hfz9_4; try clear hfz9_5
   obtain ⟨kq, x53_5, rfl, HA, HJ5, HO_536005, HO_554005, HO_555005, HO_573005, HO_574005, BK535, BK553, BK554, BK572, BK573, HB⟩ := hcut
   cases kq with
   | zero => exact absurd HA.out (by simp [laws_FnCutJoin.j0])
   | succ kj5 =>
    have H := HA.out
    clear HA
    simp only [laws_FnCutJoin.j0] at H
    by_cases c83 : x53_5 = true
    ·subst c83
     rw [if_pos rfl] at H
     by_cases c84 : (t552 == t571) = true
     ·rw [if_pos c84] at H
      have c84b0 : (t552 == t571) = true := c84
      (try (have c84b1 : decide (t552 = t571) = true := by simpa using c84))
      (try (have c84b2 : (t552 == t571) = true := by simpa using c84))
      clear c84
      replace H := tbe H
      obtain ⟨t576, A85, H⟩ := H
      by_cases c86 : t576 = true
      ·subst c86
       rw [if_pos rfl] at H
       replace H := tbe H
       obtain ⟨t577, A87, H⟩ := H
       obtain rfl := Option.some.inj H
       have hnb88 := NB553_535.out
       have hnc88 := NB535_553.out
       have hnb89 := NB553_554.out
       have hnc89 := NB554_553.out
       have hnb90 := NB553_572.out
       have hnc90 := NB572_553.out
       have hnb91 := NB553_573.out
       have hnc91 := NB573_553.out
       obtain ⟨hcz92_0, hcz92_1, hcz92_2, hcz92_3, hcz92_4, hcz92_5, hfz92_0, hfz92_1, hfz92_2, hfz92_3, hfz92_4, hfz92_5⟩ := cells6 BK553.out
       have hnb93 := NB572_535.out
       have hnc93 := NB535_572.out
       have hnb94 := NB572_554.out
       have hnc94 := NB554_572.out
       have hnb95 := NB572_573.out
       have hnc95 := NB573_572.out
       obtain ⟨hcz96_0, hcz96_1, hcz96_2, hcz96_3, hcz96_4, hcz96_5, hfz96_0, hfz96_1, hfz96_2, hfz96_3, hfz96_4, hfz96_5⟩ := cells6 BK572.out
       go_wp2_with (first | (go_at_call 11; (with_reducible refine (laws_sameBatch.calls kj5 t536 t537 t538 t539 t540 _ _ t541 t555 t556 t557 t558 t559 _ _ t560 true _ ?side1 ?side2 ?side3 ?side4 A85.out).mono ?_); (case side1 => repeat (first | exact (Kd.N_reads' HO_554005.out).2.2 | (with_reducible refine Kd.C_alloc ?_ _) | (with_reducible refine Kd.C_drewN ?_ _) | (with_reducible refine Kd.C_drew ?_))); (case side2 => exact (Kd.N_reads' HO_554005.out).2.1); (case side3 => repeat (first | exact (Kd.N_reads' HO_573005.out).2.2 | (with_reducible refine Kd.C_alloc ?_ _) | (with_reducible refine Kd.C_drewN ?_ _) | (with_reducible refine Kd.C_drew ?_))); (case side4 => exact (Kd.N_reads' HO_573005.out).2.1); rintro e w97 ⟨rfl, hb⟩; replace HO_536005 := tNb HO_536005 hb; replace HO_554005 := tNb HO_554005 hb; replace HO_555005 := tNb HO_555005 hb; replace HO_573005 := tNb HO_573005 hb; replace HO_574005 := tNb HO_574005 hb; replace BK535 := tBb BK535 hb; replace BK553 := tBb BK553 hb; replace BK554 := tBb BK554 hb; replace BK572 := tBb BK572 hb; replace BK573 := tBb BK573 hb; replace HB := tBs HB hb; (try clear hb); (try clear hb2); (try clear hk); (try clear hi); have hnb98 := NB554_535.out; have hnc98 := NB535_554.out; have hnb99 := NB554_573.out; have hnc99 := NB573_554.out; obtain ⟨hcz100_0, hcz100_1, hcz100_2, hcz100_3, hcz100_4, hcz100_5, hfz100_0, hfz100_1, hfz100_2, hfz100_3, hfz100_4, hfz100_5⟩ := cells6 BK554.out; have hnb101 := NB573_535.out; have hnc101 := NB535_573.out; obtain ⟨hcz102_0, hcz102_1, hcz102_2, hcz102_3, hcz102_4, hcz102_5, hfz102_0, hfz102_1, hfz102_2, hfz102_3, hfz102_4, hfz102_5⟩ := cells6 BK573.out) | (go_at_call 11; (with_reducible refine (laws_sameBatch.calls kj5 t544 t545 t546 t547 t548 _ _ t549 t563 t564 t565 t566 t567 _ _ t568 t577 _ ?side1 ?side2 ?side3 ?side4 A87.out).mono ?_); (case side1 => repeat (first | exact (Kd.N_reads' HO_555005.out).2.2 | (with_reducible refine Kd.C_alloc ?_ _) | (with_reducible refine Kd.C_drewN ?_ _) | (with_reducible refine Kd.C_drew ?_))); (case side2 => exact (Kd.N_reads' HO_555005.out).2.1); (case side3 => repeat (first | exact (Kd.N_reads' HO_574005.out).2.2 | (with_reducible refine Kd.C_alloc ?_ _) | (with_reducible refine Kd.C_drewN ?_ _) | (with_reducible refine Kd.C_drew ?_))); (case side4 => exact (Kd.N_reads' HO_574005.out).2.1); rintro e w103 ⟨rfl, hb⟩; replace HO_536005 := tNb HO_536005 hb; replace HO_554005 := tNb HO_554005 hb; replace HO_555005 := tNb HO_555005 hb; replace HO_573005 := tNb HO_573005 hb; replace HO_574005 := tNb HO_574005 hb; replace BK535 := tBb BK535 hb; replace BK553 := tBb BK553 hb; replace BK554 := tBb BK554 hb; replace BK572 := tBb BK572 hb; replace BK573 := tBb BK573 hb; replace HB := tBs HB hb; (try clear hb); (try clear hb2); (try clear hk); (try clear hi)))
       all_goals go_ret
       all_goals exact ⟨by first | rfl | (simp [errW_none, errW_some] <;> rfl) | (simp [*, errW_none, errW_some] <;> rfl), zb⟩
      ·replace c86 := Bool.eq_false_iff.mpr c86
       subst c86
       rw [if_neg (show ¬ (false = true) by decide)] at H
       obtain rfl := Option.some.inj H
       have hnb104 := NB553_535.out
       have hnc104 := NB535_553.out
       have hnb105 := NB553_554.out
       have hnc105 := NB554_553.out
       have hnb106 := NB553_572.out
       have hnc106 := NB572_553.out
       have hnb107 := NB553_573.out
       have hnc107 := NB573_553.out
       obtain ⟨hcz108_0, hcz108_1, hcz108_2, hcz108_3, hcz108_4, hcz108_5, hfz108_0, hfz108_1, hfz108_2, hfz108_3, hfz108_4, hfz108_5⟩ := cells6 BK553.out
       have hnb109 := NB572_535.out
       have hnc109 := NB535_572.out
       have hnb110 := NB572_554.out
       have hnc110 := NB554_572.out
       have hnb111 := NB572_573.out
       have hnc111 := NB573_572.out
       obtain ⟨hcz112_0, hcz112_1, hcz112_2, hcz112_3, hcz112_4, hcz112_5, hfz112_0, hfz112_1, hfz112_2, hfz112_3, hfz112_4, hfz112_5⟩ := cells6 BK572.out
       go_wp2_with (first | (go_at_call 11; (with_reducible refine (laws_sameBatch.calls kj5 t536 t537 t538 t539 t540 _ _ t541 t555 t556 t557 t558 t559 _ _ t560 false _ ?side1 ?side2 ?side3 ?side4 A85.out).mono ?_); (case side1 => repeat (first | exact (Kd.N_reads' HO_554005.out).2.2 | (with_reducible refine Kd.C_alloc ?_ _) | (with_reducible refine Kd.C_drewN ?_ _) | (with_reducible refine Kd.C_drew ?_))); (case side2 => exact (Kd.N_reads' HO_554005.out).2.1); (case side3 => repeat (first | exact (Kd.N_reads' HO_573005.out).2.2 | (with_reducible refine Kd.C_alloc ?_ _) | (with_reducible refine Kd.C_drewN ?_ _) | (with_reducible refine Kd.C_drew ?_))); (case side4 => exact (Kd.N_reads' HO_573005.out).2.1); rintro e w113 ⟨rfl, hb⟩; replace HO_536005 := tNb HO_536005 hb; replace HO_554005 := tNb HO_554005 hb; replace HO_555005 := tNb HO_555005 hb; replace HO_573005 := tNb HO_573005 hb; replace HO_574005 := tNb HO_574005 hb; replace BK535 := tBb BK535 hb; replace BK553 := tBb BK553 hb; replace BK554 := tBb BK554 hb; replace BK572 := tBb BK572 hb; replace BK573 := tBb BK573 hb; replace HB := tBs HB hb; (try clear hb); (try clear hb2); (try clear hk); (try clear hi)))
       all_goals go_ret
       all_goals exact ⟨by first | rfl | (simp [errW_none, errW_some] <;> rfl) | (simp [*, errW_none, errW_some] <;> rfl), zb⟩
     ·rw [if_neg c84] at H
      have c84b0 : (t552 == t571) = false := by simpa using c84
      (try (have c84b1 : decide (t552 = t571) = false := by simpa using c84))
      (try (have c84b2 : (t552 == t571) = false := by simpa using c84))
      (try (have c84b3 : ¬ (t552 = t571) := by simpa using c84))
      clear c84
      obtain rfl := Option.some.inj H
      go_wp2
      all_goals go_ret
      all_goals exact ⟨by first | rfl | (simp [errW_none, errW_some] <;> rfl) | (simp [*, errW_none, errW_some] <;> rfl), zb⟩
    ·replace c83 := Bool.eq_false_iff.mpr c83
     subst c83
     rw [if_neg (show ¬ (false = true) by decide)] at H
     replace H := tbe H
     obtain ⟨⟨t578, t579, t580, t581, t582, t583, t586⟩, A114, H⟩ := H
     dsimp only at H
     by_cases c115 : t586 = true
     ·subst c115
      rw [if_pos rfl] at H
      replace H := tbe H
      obtain ⟨t588, A116, H⟩ := H
      obtain rfl := Option.some.inj H
      have hnb117 := NB553_535.out
      have hnc117 := NB535_553.out
      have hnb118 := NB553_554.out
      have hnc118 := NB554_553.out
      have hnb119 := NB553_572.out
      have hnc119 := NB572_553.out
      have hnb120 := NB553_573.out
      have hnc120 := NB573_553.out
      obtain ⟨hcz121_0, hcz121_1, hcz121_2, hcz121_3, hcz121_4, hcz121_5, hfz121_0, hfz121_1, hfz121_2, hfz121_3, hfz121_4, hfz121_5⟩ := cells6 BK553.out
      have hnb122 := NB554_535.out
      have hnc122 := NB535_554.out
      have hnb123 := NB554_572.out
      have hnc123 := NB572_554.out
      have hnb124 := NB554_573.out
      have hnc124 := NB573_554.out
      obtain ⟨hcz125_0, hcz125_1, hcz125_2, hcz125_3, hcz125_4, hcz125_5, hfz125_0, hfz125_1, hfz125_2, hfz125_3, hfz125_4, hfz125_5⟩ := cells6 BK554.out
      go_wp2_with (first | ((with_reducible refine gate_callee (f := 14) rfl ?_); refine goesL_ (some 70) rfl rfl Tryd.func14 (by kernel_rfl) rfl #[.agg #[.bool t536, .bool t537, .int .i64 t538, .int .i64 t539, .int .i64 t540, .slice Ao17 t541.length co17], .agg #[.bool t544, .bool t545, .int .i64 t546, .int .i64 t547, .int .i64 t548, .slice Ao20 t549.length co20]] rfl tq ?_; (with_reducible refine (impl_BatchJoin.calls (hE := ?sideE) kj5 t536 t537 t538 t539 t540 _ _ t541 t544 t545 t546 t547 t548 _ _ t549 t578 t579 t580 t581 t582 t583 true _ ?side1 ?side2 ?side3 ?side4 A114.out).mono ?_); (case sideE => exact ErrOk.below (HE.out.sub (by decide)) zb); (case side1 => repeat (first | exact (Kd.N_reads' HO_554005.out).2.2 | (with_reducible refine Kd.C_alloc ?_ _) | (with_reducible refine Kd.C_drewN ?_ _) | (with_reducible refine Kd.C_drew ?_))); (case side2 => exact (Kd.N_reads' HO_554005.out).2.1); (case side3 => repeat (first | exact (Kd.N_reads' HO_555005.out).2.2 | (with_reducible refine Kd.C_alloc ?_ _) | (with_reducible refine Kd.C_drewN ?_ _) | (with_reducible refine Kd.C_drew ?_))); (case side4 => exact (Kd.N_reads' HO_555005.out).2.1); rintro e w126 ⟨v584, rfl, ho0, hb⟩; have u_v584 := tsv Tryd.prog v584 ho0; refine ⟨_, rfl, ?_⟩; have HO585 := Aside0.mk (Kd.N_lower (Kd.N_mono (ok' := fun k_ => some k_ ≠ (.slice Ao10 t531.length co10 : Value).ownBlock ∧ some k_ ≠ (.slice Ao17 t541.length co17 : Value).ownBlock ∧ some k_ ≠ (.slice Ao20 t549.length co20 : Value).ownBlock ∧ some k_ ≠ (.slice Ao30 t560.length co30 : Value).ownBlock ∧ some k_ ≠ (.slice Ao35 t568.length co35 : Value).ownBlock ∧ k_ ≠ gb535 ∧ k_ ≠ gb553 ∧ k_ ≠ gb554 ∧ k_ ≠ gb572 ∧ k_ ≠ gb573) ho0 (fun k_ hk_ => ⟨(tfr HO_536005 k_ hk_), (tfr HO_554005 k_ hk_), (tfr HO_555005 k_ hk_), (tfr HO_573005 k_ hk_), (tfr HO_574005 k_ hk_), (tfB BK535 k_ hk_), (tfB BK553 k_ hk_), (tfB BK554 k_ hk_), (tfB BK572 k_ hk_), (tfB BK573 k_ hk_)⟩)) (below_size zb)); replace HO_536005 := tNe HO_536005 ho0 hb; replace HO_554005 := tNe HO_554005 ho0 hb; replace HO_555005 := tNe HO_555005 ho0 hb; replace HO_573005 := tNe HO_573005 ho0 hb; replace HO_574005 := tNe HO_574005 ho0 hb; replace BK535 := tBb BK535 hb; replace BK553 := tBb BK553 hb; replace BK554 := tBb BK554 hb; replace BK572 := tBb BK572 hb; replace BK573 := tBb BK573 hb; replace HB := tBs HB hb; (try clear hb); (try clear hb2); (try clear hk); (try clear hi); (try clear ho0)) | ((with_reducible refine gate_dst (N := 11) rfl ?_); refine box_event ?hg (N := 11) ?hd (cs := #[.bool false, .bool false, .int .i64 0, .int .i64 0, .int .i64 0, .slice none 0 0]) (t := 25) ?hr ?_; (case hd => rfl); (case hg => rfl); (case hr => first | (go_simp; done) | (go_simp; rfl)); intro gb587 hg w127 hbox hb; replace HO_536005 := tNB HO_536005 hg hb; replace HO_554005 := tNB HO_554005 hg hb; replace HO_555005 := tNB HO_555005 hg hb; replace HO_573005 := tNB HO_573005 hg hb; replace HO_574005 := tNB HO_574005 hg hb; replace HO585 := tNB HO585 hg hb; have BK587 := Aside0.mk (hbox); have GW587 := tge HB hg; have GE587 := tge HB hg; replace HB := tBs HB hb; have NB535_587 := tlt BK535 hg; have NB587_535 := tgt BK535 hg; replace BK535 := tBb BK535 hb; have NB553_587 := tlt BK553 hg; have NB587_553 := tgt BK553 hg; replace BK553 := tBb BK553 hb; have NB554_587 := tlt BK554 hg; have NB587_554 := tgt BK554 hg; replace BK554 := tBb BK554 hb; have NB572_587 := tlt BK572 hg; have NB587_572 := tgt BK572 hg; replace BK572 := tBb BK572 hb; have NB573_587 := tlt BK573 hg; have NB587_573 := tgt BK573 hg; replace BK573 := tBb BK573 hb; clear hb hbox hg; have hnb128 := NB587_535.out; have hnc128 := NB535_587.out; have hnb129 := NB587_553.out; have hnc129 := NB553_587.out; have hnb130 := NB587_554.out; have hnc130 := NB554_587.out; have hnb131 := NB587_572.out; have hnc131 := NB572_587.out; have hnb132 := NB587_573.out; have hnc132 := NB573_587.out; obtain ⟨hcz133_0, hcz133_1, hcz133_2, hcz133_3, hcz133_4, hcz133_5, hfz133_0, hfz133_1, hfz133_2, hfz133_3, hfz133_4, hfz133_5⟩ := cells6 BK587.out; obtain ⟨Ao134, co134, eo134⟩ := Kd.N_slice HO585.out; subst eo134; have hnb135 := NB535_572.out; have hnc135 := NB572_535.out; have hnb136 := NB535_573.out; have hnc136 := NB573_535.out; obtain ⟨hcz137_0, hcz137_1, hcz137_2, hcz137_3, hcz137_4, hcz137_5, hfz137_0, hfz137_1, hfz137_2, hfz137_3, hfz137_4, hfz137_5⟩ := cells6 BK535.out) | (go_at_call 11; (with_reducible refine (laws_sameBatch.calls kj5 t578 t579 t580 t581 t582 _ _ t583 t526 t527 t528 t529 t530 _ _ t531 t588 _ ?side1 ?side2 ?side3 ?side4 A116.out).mono ?_); (case side1 => refine (Kd.N_reads' (e := 41) (base := w.heap.size) (ok := fun k_ => ((some k_ ≠ (.slice Ao10 t531.length co10 : Value).ownBlock ∧ (some k_ ≠ (.slice Ao17 t541.length co17 : Value).ownBlock ∧ (some k_ ≠ (.slice Ao20 t549.length co20 : Value).ownBlock ∧ (some k_ ≠ (.slice Ao30 t560.length co30 : Value).ownBlock ∧ (some k_ ≠ (.slice Ao35 t568.length co35 : Value).ownBlock ∧ (k_ ≠ gb535 ∧ (k_ ≠ gb553 ∧ (k_ ≠ gb554 ∧ (k_ ≠ gb572 ∧ k_ ≠ gb573))))))))) ∧ k_ ≠ gb587)) (n := t583.length) (c := co134) ?_).2.2; exact (tN HO585.out)); (case side2 => exact (Kd.N_reads' HO585.out).2.1); (case side3 => refine (Kd.N_reads' (e := 41) (base := w.heap.size) (ok := fun k_ => (((some k_ ≠ (.slice Ao17 t541.length co17 : Value).ownBlock ∧ (some k_ ≠ (.slice Ao20 t549.length co20 : Value).ownBlock ∧ (some k_ ≠ (.slice Ao30 t560.length co30 : Value).ownBlock ∧ (some k_ ≠ (.slice Ao35 t568.length co35 : Value).ownBlock ∧ (k_ ≠ gb535 ∧ (k_ ≠ gb553 ∧ (k_ ≠ gb554 ∧ (k_ ≠ gb572 ∧ k_ ≠ gb573)))))))) ∧ some k_ ≠ (.slice Ao134 t583.length co134 : Value).ownBlock) ∧ k_ ≠ gb587)) (n := t531.length) (c := co10) ?_).2.2; exact (tN HO_536005.out)); (case side4 => exact (Kd.N_reads' HO_536005.out).2.1); rintro e w138 ⟨rfl, hb⟩; replace HO_536005 := tNb HO_536005 hb; replace HO_554005 := tNb HO_554005 hb; replace HO_555005 := tNb HO_555005 hb; replace HO_573005 := tNb HO_573005 hb; replace HO_574005 := tNb HO_574005 hb; replace HO585 := tNb HO585 hb; replace BK535 := tBb BK535 hb; replace BK553 := tBb BK553 hb; replace BK554 := tBb BK554 hb; replace BK572 := tBb BK572 hb; replace BK573 := tBb BK573 hb; replace BK587 := tBp (o' := .cells #[.bool t578, .bool t579, .int .i64 t580, .int .i64 t581, .int .i64 t582, .slice Ao134 t583.length co134] 25 (0, 0)) BK587 hb; replace HB := tBs HB hb; (try clear hb); (try clear hb2); (try clear hk); (try clear hi)))
      all_goals go_ret
      all_goals exact ⟨by first | rfl | (simp [errW_none, errW_some] <;> rfl) | (simp [*, errW_none, errW_some] <;> rfl), zb⟩
     ·replace c115 := Bool.eq_false_iff.mpr c115
      subst c115
      rw [if_neg (show ¬ (false = true) by decide)] at H
      obtain rfl := Option.some.inj H
      have hnb139 := NB553_535.out
      have hnc139 := NB535_553.out
      have hnb140 := NB553_554.out
      have hnc140 := NB554_553.out
      have hnb141 := NB553_572.out
      have hnc141 := NB572_553.out
      have hnb142 := NB553_573.out
      have hnc142 := NB573_553.out
      obtain ⟨hcz143_0, hcz143_1, hcz143_2, hcz143_3, hcz143_4, hcz143_5, hfz143_0, hfz143_1, hfz143_2, hfz143_3, hfz143_4, hfz143_5⟩ := cells6 BK553.out
      have hnb144 := NB554_535.out
      have hnc144 := NB535_554.out
      have hnb145 := NB554_572.out
      have hnc145 := NB572_554.out
      have hnb146 := NB554_573.out
      have hnc146 := NB573_554.out
      obtain ⟨hcz147_0, hcz147_1, hcz147_2, hcz147_3, hcz147_4, hcz147_5, hfz147_0, hfz147_1, hfz147_2, hfz147_3, hfz147_4, hfz147_5⟩ := cells6 BK554.out
      go_wp2_with (first | ((with_reducible refine gate_callee (f := 14) rfl ?_); refine goesL_ (some 70) rfl rfl Tryd.func14 (by kernel_rfl) rfl #[.agg #[.bool t536, .bool t537, .int .i64 t538, .int .i64 t539, .int .i64 t540, .slice Ao17 t541.length co17], .agg #[.bool t544, .bool t545, .int .i64 t546, .int .i64 t547, .int .i64 t548, .slice Ao20 t549.length co20]] rfl tq ?_; (with_reducible refine (impl_BatchJoin.calls (hE := ?sideE) kj5 t536 t537 t538 t539 t540 _ _ t541 t544 t545 t546 t547 t548 _ _ t549 t578 t579 t580 t581 t582 t583 false _ ?side1 ?side2 ?side3 ?side4 A114.out).mono ?_); (case sideE => exact ErrOk.below (HE.out.sub (by decide)) zb); (case side1 => repeat (first | exact (Kd.N_reads' HO_554005.out).2.2 | (with_reducible refine Kd.C_alloc ?_ _) | (with_reducible refine Kd.C_drewN ?_ _) | (with_reducible refine Kd.C_drew ?_))); (case side2 => exact (Kd.N_reads' HO_554005.out).2.1); (case side3 => repeat (first | exact (Kd.N_reads' HO_555005.out).2.2 | (with_reducible refine Kd.C_alloc ?_ _) | (with_reducible refine Kd.C_drewN ?_ _) | (with_reducible refine Kd.C_drew ?_))); (case side4 => exact (Kd.N_reads' HO_555005.out).2.1); rintro e w148 ⟨v584, rfl, ho0, hb⟩; have u_v584 := tsv Tryd.prog v584 ho0; refine ⟨_, rfl, ?_⟩; have HO585 := Aside0.mk (Kd.N_lower (Kd.N_mono (ok' := fun k_ => some k_ ≠ (.slice Ao10 t531.length co10 : Value).ownBlock ∧ some k_ ≠ (.slice Ao17 t541.length co17 : Value).ownBlock ∧ some k_ ≠ (.slice Ao20 t549.length co20 : Value).ownBlock ∧ some k_ ≠ (.slice Ao30 t560.length co30 : Value).ownBlock ∧ some k_ ≠ (.slice Ao35 t568.length co35 : Value).ownBlock ∧ k_ ≠ gb535 ∧ k_ ≠ gb553 ∧ k_ ≠ gb554 ∧ k_ ≠ gb572 ∧ k_ ≠ gb573) ho0 (fun k_ hk_ => ⟨(tfr HO_536005 k_ hk_), (tfr HO_554005 k_ hk_), (tfr HO_555005 k_ hk_), (tfr HO_573005 k_ hk_), (tfr HO_574005 k_ hk_), (tfB BK535 k_ hk_), (tfB BK553 k_ hk_), (tfB BK554 k_ hk_), (tfB BK572 k_ hk_), (tfB BK573 k_ hk_)⟩)) (below_size zb)); replace HO_536005 := tNe HO_536005 ho0 hb; replace HO_554005 := tNe HO_554005 ho0 hb; replace HO_555005 := tNe HO_555005 ho0 hb; replace HO_573005 := tNe HO_573005 ho0 hb; replace HO_574005 := tNe HO_574005 ho0 hb; replace BK535 := tBb BK535 hb; replace BK553 := tBb BK553 hb; replace BK554 := tBb BK554 hb; replace BK572 := tBb BK572 hb; replace BK573 := tBb BK573 hb; replace HB := tBs HB hb; (try clear hb); (try clear hb2); (try clear hk); (try clear hi); (try clear ho0)) | ((with_reducible refine gate_dst (N := 11) rfl ?_); refine box_event ?hg (N := 11) ?hd (cs := #[.bool false, .bool false, .int .i64 0, .int .i64 0, .int .i64 0, .slice none 0 0]) (t := 25) ?hr ?_; (case hd => rfl); (case hg => rfl); (case hr => first | (go_simp; done) | (go_simp; rfl)); intro gb587 hg w149 hbox hb; replace HO_536005 := tNB HO_536005 hg hb; replace HO_554005 := tNB HO_554005 hg hb; replace HO_555005 := tNB HO_555005 hg hb; replace HO_573005 := tNB HO_573005 hg hb; replace HO_574005 := tNB HO_574005 hg hb; replace HO585 := tNB HO585 hg hb; have BK587 := Aside0.mk (hbox); have GW587 := tge HB hg; have GE587 := tge HB hg; replace HB := tBs HB hb; have NB535_587 := tlt BK535 hg; have NB587_535 := tgt BK535 hg; replace BK535 := tBb BK535 hb; have NB553_587 := tlt BK553 hg; have NB587_553 := tgt BK553 hg; replace BK553 := tBb BK553 hb; have NB554_587 := tlt BK554 hg; have NB587_554 := tgt BK554 hg; replace BK554 := tBb BK554 hb; have NB572_587 := tlt BK572 hg; have NB587_572 := tgt BK572 hg; replace BK572 := tBb BK572 hb; have NB573_587 := tlt BK573 hg; have NB587_573 := tgt BK573 hg; replace BK573 := tBb BK573 hb; clear hb hbox hg; have hnb150 := NB587_535.out; have hnc150 := NB535_587.out; have hnb151 := NB587_553.out; have hnc151 := NB553_587.out; have hnb152 := NB587_554.out; have hnc152 := NB554_587.out; have hnb153 := NB587_572.out; have hnc153 := NB572_587.out; have hnb154 := NB587_573.out; have hnc154 := NB573_587.out; obtain ⟨hcz155_0, hcz155_1, hcz155_2, hcz155_3, hcz155_4, hcz155_5, hfz155_0, hfz155_1, hfz155_2, hfz155_3, hfz155_4, hfz155_5⟩ := cells6 BK587.out; obtain ⟨Ao156, co156, eo156⟩ := Kd.N_slice HO585.out; subst eo156))
      all_goals go_ret
      all_goals exact ⟨by first | rfl | (simp [errW_none, errW_some] <;> rfl) | (simp [*, errW_none, errW_some] <;> rfl), zb⟩

end Go.Proofs.YtahenocndacjeaaDoor.G

namespace Go.Proofs.YtahenocndacjeaaDoor.Rd
open Go.RowKit Go.Proofs.YtahenocndacjeaaDoorW.PrintWords
set_option linter.unusedVariables false
section
variable {H : Type} {enc : TypeId × Value → H} {P : Program} {w : World} {base : Nat} {spare : Nat → Bool} {held : Bool}
/-- What a reading of type t gives: a value of the kind, and what is known of it. -/
def Opens (enc : TypeId × Value → H) (P : Program) (w : World) (base : Nat) (spare : Nat → Bool) (held : Bool) {α : Type} (t : TypeId) (d : Kd α) (ok : α → Prop) : Prop :=
  P.cellsOf t = d.sz ∧ ∀ fuel cs x, DataW.trod enc P w base spare held fuel t cs = some x → ∃ v, d.K w v cs ∧ ok v
theorem Opens.imp_ {α : Type} {t : TypeId} {d : Kd α} {ok ok' : α → Prop} (h : Opens enc P w base spare held t d ok) (hi : ∀ v, ok v → ok' v) : Opens enc P w base spare held t d ok' :=
  ⟨h.1, fun fuel cs x hx => by
    obtain ⟨v, hk, ho⟩ := h.2 fuel cs x hx
    exact ⟨v, hk, hi v ho⟩⟩
theorem opens_int {t : TypeId} {k : IntKind} (ht : P.underlying t = some (.int k)) (hc : P.cellsOf t = 1) : Opens enc P w base spare held t (Kd.int k) (fun n => (Lit.int k n).wf = true) := by
  refine ⟨hc, fun fuel cs x h => ?_⟩
  obtain ⟨n, rfl, _, hw⟩ := DataW.trod_int ht h
  exact ⟨n, rfl, hw⟩
theorem cells_len {base : Nat} {a : Addr} {n : Nat} {cs : List Value} (h : w.cells? base a n = some cs) : cs.length = n ∧ ∀ i u, cs[i]? = some u → w.cell? (a.add i) = some u := by
  unfold World.cells? at h
  split at h
  · rename_i hb
    refine ⟨by simpa using mapM_some_length h, fun i u hu => ?_⟩
    have hi : i < n := by
      have := (List.getElem?_eq_some_iff.1 hu).1
      have h2 : cs.length = n := by simpa using mapM_some_length h
      omega
    have := mapM_some_get h i i (by simp [hi])
    rw [hu] at this
    exact this
  · simp at h
theorem opens_row {α : Type} {t e : TypeId} {d : Kd α} {ok : α → Prop} (ht : P.underlying t = some (.slice e)) (hd : Opens enc P w base spare held e d ok) {fuel : Nat} {cs : List Value} {x : DataW H × List MemPlace}
    (h : DataW.trod enc P w base spare held fuel t cs = some x) : ∃ (A : Option Addr) (c : Nat) (xs : List α), cs = [.slice A xs.length c] ∧ xs.length ≤ c ∧ c ≤ maxLen ∧ d.C w A xs.length xs ∧ ∀ y ∈ xs, ok y := by
  rcases Go.Deep.open_slice ht h with ⟨rfl, _⟩ | ⟨a, len, cap, m, n, D, Pl, rfl, hb, hl, hm, hmm, _, hel⟩
  · exact ⟨none, 0, [], rfl, Nat.le_refl _, by unfold maxLen; omega, ⟨rfl, by simp, fun h0 => absurd h0 (by simp)⟩, by simp⟩
  have hlm : len ≤ m := by rw [hmm]; split <;> omega
  have hx : ∀ i, i < len → ∃ y : α, ok y ∧ ∃ c, c.length = d.sz ∧ d.K w y c ∧ ∀ j u, c[j]? = some u → w.cell? (a.add (i * d.sz + j)) = some u := by
    intro i hi
    obtain ⟨cs', h1, h2⟩ := hel i (by omega)
    obtain ⟨y, hk, ho⟩ := hd.2 _ _ _ h2
    obtain ⟨hl', hc'⟩ := cells_len h1
    refine ⟨y, ho, cs', by rw [hl', hd.1], hk, fun j u hu => ?_⟩
    have := hc' j u hu
    rw [Go.Deep.add_add, hd.1] at this
    exact this
  rcases Nat.eq_zero_or_pos len with h0 | h0
  · subst h0
    exact ⟨some a, cap, [], rfl, Nat.zero_le _, hm, ⟨rfl, by simp, fun h1 => absurd h1 (by simp)⟩, by simp⟩
  obtain ⟨y0, _⟩ := hx 0 h0
  haveI : Inhabited α := ⟨y0⟩
  obtain ⟨g, hg⟩ := Go.Deep.choose_lt hx
  have hlen : ((List.range len).map g).length = len := by simp
  refine ⟨some a, cap, (List.range len).map g, by rw [hlen], by rw [hlen]; exact hl, hm, ⟨rfl, by rw [hlen]; unfold maxLen at hm; omega, fun _ => ⟨a, rfl, fun j p hj => ?_⟩⟩, fun y hy => ?_⟩
  · have hj' : j < len := by
      have := (List.getElem?_eq_some_iff.1 hj).1
      omega
    rw [List.getElem?_map, List.getElem?_range hj'] at hj
    simp at hj
    subst hj
    obtain ⟨_, c, hc1, hc2, hc3⟩ := hg j hj'
    exact ⟨c, hc1, hc2, hc3⟩
  · obtain ⟨i, hi, rfl⟩ := List.mem_map.1 hy
    exact (hg i (List.mem_range.1 hi)).1
end
end Go.Proofs.YtahenocndacjeaaDoor.Rd

namespace Go.Proofs.YtahenocndacjeaaDoor.OFnCutJoin
open Go.RowKit Go.Proofs.YtahenocndacjeaaDoorW.PrintWords Go.Proofs.YtahenocndacjeaaDoor.G
set_option linter.unusedVariables false
def Pure : Prop := ∀ (l0 : List Int), l0.length ≤ maxLen → (∀ y ∈ l0, (Lit.int .u8 y).wf = true) → ∃ k, laws_FnCutJoin.f k l0 = some true
end Go.Proofs.YtahenocndacjeaaDoor.OFnCutJoin

namespace Go.Proofs.YtahenocndacjeaaDoor.Pu
open Go.RowKit Go.Proofs.YtahenocndacjeaaDoorW.PrintWords Go.Proofs.YtahenocndacjeaaDoorW.PrintLast Go.Proofs.YtahenocndacjeaaDoorW.PrintMore Go.Proofs.YtahenocndacjeaaDoor.G
set_option linter.unusedVariables false
set_option linter.unusedSimpArgs false
abbrev RT := S41
abbrev BT := S25
def aheadL (l : List RT) (o : Int) : List RT := l.filter fun r => decide (r.f0 < o)
def behindL (l : List RT) (o : Int) : List RT := l.filter fun r => !decide (r.f0 < o)
theorem aheadL_cons (x : RT) (l : List RT) (o : Int) : aheadL (x :: l) o = if x.f0 < o then x :: aheadL l o else aheadL l o := by
  unfold aheadL
  rw [List.filter_cons]
  by_cases h : x.f0 < o <;> simp [h]
theorem behindL_cons (x : RT) (l : List RT) (o : Int) : behindL (x :: l) o = if x.f0 < o then behindL l o else x :: behindL l o := by
  unfold behindL
  rw [List.filter_cons]
  by_cases h : x.f0 < o <;> simp [h]
abbrev CutT := Bool × Bool × Int × Int × Int × List RT × Bool × Bool × Int × Int × Int × List RT × Option Int
def cutFin (p : Bool) (a b : List RT) : CutT := if a = [] ∨ b = [] then (false, false, 0, 0, 0, [], false, false, 0, 0, 0, [], some 1) else (p, false, 255, 0, 0, a, p, false, 255, 0, 0, b, none)
theorem copyOf_ev (x : RT) (h : x.f3.length ≤ 12 ∧ x.f5.length ≤ 12) : impl_Record_copyOf.f x.f0 x.f1 x.f2 x.f3 x.f4 x.f5 = some (x.f0, x.f1, x.f2, x.f3, x.f4, x.f5) := by
  simp only [impl_Record_copyOf.f, slices_Clone_int_int.f]
  rw [if_pos (by omega), if_pos (by omega)]
  rfl
theorem cut_loop (l : List RT) (o : Int) (p : Bool) (hl : l.length ≤ 6) (hr : ∀ r ∈ l, r.f3.length ≤ 12 ∧ r.f5.length ≤ 12) : ∀ d i (xs ys : List RT), l.length - i = d → i ≤ l.length → xs.length + ys.length = i →
    Ev (fun k => impl_Batch_cut.l0 k o l (l.length : Int) (i : Int) p false 255 0 0 xs p false 255 0 0 ys) (cutFin p (xs ++ aheadL (l.drop i) o) (ys ++ behindL (l.drop i) o)) := by
  intro d
  induction d with
  | zero =>
    intro i xs ys hd hi hx
    refine Ev.step (fun k => by rw [impl_Batch_cut.l0]) ?_
    rw [List.drop_of_length_le (by omega)]
    simp only [aheadL, behindL, List.filter_nil, List.append_nil, if_neg (show ¬ (i : Int) < (l.length : Int) by omega)]
    by_cases h1 : xs = []
    · have h0 : (xs.length : Int) = 0 := by rw [h1]; rfl
      rw [show cutFin p xs ys = (false, false, 0, 0, 0, [], false, false, 0, 0, 0, [], some 1) by unfold cutFin; rw [if_pos (.inl h1)]]
      simp only [if_pos h0]
      exact Ev.now _
    · have h1' : ¬ ((xs.length : Int) = 0) := by have := List.length_pos_iff.2 h1; omega
      simp only [if_neg h1']
      by_cases h2 : ys = []
      · have h0 : (ys.length : Int) = 0 := by rw [h2]; rfl
        rw [show cutFin p xs ys = (false, false, 0, 0, 0, [], false, false, 0, 0, 0, [], some 1) by unfold cutFin; rw [if_pos (.inr h2)]]
        simp only [if_pos h0]
        exact Ev.now _
      · have h2' : ¬ ((ys.length : Int) = 0) := by have := List.length_pos_iff.2 h2; omega
        rw [show cutFin p xs ys = (p, false, 255, 0, 0, xs, p, false, 255, 0, 0, ys, none) by unfold cutFin; rw [if_neg (by simp [h1, h2])]]
        simp only [if_neg h2']
        exact Ev.now _
  | succ d ih =>
    intro i xs ys hd hi hx
    have hlt : i < l.length := by omega
    refine Ev.step (fun k => by rw [impl_Batch_cut.l0]) ?_
    simp only [if_pos (show (i : Int) < (l.length : Int) by omega), if_pos (show (0 : Int) ≤ (i : Int) by omega), rdR_nat l i hlt, copyOf_ev _ (hr _ (List.getElem_mem hlt)), bindS, w64 (a := (i : Int) + 1) (by omega) (by omega)]
    rw [List.drop_eq_getElem_cons hlt]
    by_cases hc : l[i].f0 < o
    · simp only [if_pos hc, if_pos (show xs.length < 1759218604441 by omega)]
      have := ih (i + 1) (xs ++ [l[i]]) ys (by omega) (by omega) (by simp; omega)
      have e1 : xs ++ aheadL (l[i] :: l.drop (i + 1)) o = (xs ++ [l[i]]) ++ aheadL (l.drop (i + 1)) o := by rw [aheadL_cons, if_pos hc, List.append_assoc]; rfl
      have e2 : behindL (l[i] :: l.drop (i + 1)) o = behindL (l.drop (i + 1)) o := by rw [behindL_cons, if_pos hc]
      rw [e1, e2]
      exact this
    · simp only [if_neg hc, if_pos (show ys.length < 1759218604441 by omega)]
      have := ih (i + 1) xs (ys ++ [l[i]]) (by omega) (by omega) (by simp; omega)
      have e1 : ys ++ behindL (l[i] :: l.drop (i + 1)) o = (ys ++ [l[i]]) ++ behindL (l.drop (i + 1)) o := by rw [behindL_cons, if_neg hc, List.append_assoc]; rfl
      have e2 : aheadL (l[i] :: l.drop (i + 1)) o = aheadL (l.drop (i + 1)) o := by rw [aheadL_cons, if_neg hc]
      rw [e1, e2]
      exact this
def cutV (b : BT) (o : Int) : CutT := if (batOk b && decide (b.f2 = 255)) = true then cutFin b.f0 (aheadL b.f5 o) (behindL b.f5 o) else (false, false, 0, 0, 0, [], false, false, 0, 0, 0, [], some 1)
theorem cut_ev (b : BT) (o : Int) : Ev (fun k => impl_Batch_cut.f k b.f0 b.f1 b.f2 b.f3 b.f4 b.f5 o) (cutV b o) := by
  unfold impl_Batch_cut.f cutV
  simp only [impl_BatchValid.f, bindS]
  cases hv : batOk b
  · simp only [Bool.false_eq_true, if_false, Bool.false_and]
    refine Ev.step (fun k => by rw [impl_Batch_cut.j0]) ?_
    exact Ev.now _
  · simp only [if_true, Bool.true_and]
    refine Ev.step (fun k => by rw [impl_Batch_cut.j0]) ?_
    by_cases h : b.f2 = 255
    · simp only [h, bne_self_eq_false, Bool.false_eq_true, if_false, decide_true, if_true]
      have hlen := batOk_len hv
      have hrec : ∀ r ∈ b.f5, r.f3.length ≤ 12 ∧ r.f5.length ≤ 12 := fun r hr => by
        obtain ⟨i, hi, rfl⟩ := List.getElem_of_mem hr
        exact recOk_len (batOk_rec hv i hi)
      have := cut_loop b.f5 o b.f0 hlen.2 hrec _ 0 [] [] rfl (by omega) (by simp)
      simpa using this
    · simp only [show (b.f2 != 255) = true by simp [h], if_true, decide_eq_false h, Bool.false_eq_true, if_false]
      exact Ev.now _
abbrev BCutT := Bool × Bool × Int × Int × Int × List RT × Bool × Bool × Int × Int × Int × List RT × Bool
def cutGood (b : BT) (o : Int) : Bool := (batOk b && decide (b.f2 = 255)) && (!(aheadL b.f5 o).isEmpty && !(behindL b.f5 o).isEmpty)
def bcutV (b : BT) (o : Int) : BCutT := if cutGood b o = true then (b.f0, false, 255, 0, 0, aheadL b.f5 o, b.f0, false, 255, 0, 0, behindL b.f5 o, true) else (false, false, 0, 0, 0, [], false, false, 0, 0, 0, [], false)
theorem BatchCut_ev (b : BT) (o : Int) : Ev (fun k => impl_BatchCut.f k b.f0 b.f1 b.f2 b.f3 b.f4 b.f5 o) (bcutV b o) := by
  unfold impl_BatchCut.f
  refine Ev.bind (cut_ev b o) ?_
  unfold bcutV cutGood cutV
  cases hv : (batOk b && decide (b.f2 = 255))
  · simp only [Bool.false_eq_true, if_false, Bool.false_and, errors_Is.f, if_true, bindS]
    exact Ev.now _
  · simp only [if_true, Bool.true_and, cutFin]
    by_cases h : aheadL b.f5 o = [] ∨ behindL b.f5 o = []
    · have h' : (!(aheadL b.f5 o).isEmpty && !(behindL b.f5 o).isEmpty) = false := by
        rcases h with h | h <;> simp [h]
      simp only [if_pos h, h', errors_Is.f, if_true, bindS, Bool.false_eq_true, if_false]
      exact Ev.now _
    · have h' : (!(aheadL b.f5 o).isEmpty && !(behindL b.f5 o).isEmpty) = true := by
        rw [not_or] at h
        simp [h.1, h.2]
      simp only [if_neg h, h', errors_Is.f, bindS, Bool.false_eq_true, if_false, if_true]
      exact Ev.now _
end Go.Proofs.YtahenocndacjeaaDoor.Pu

namespace Go.Proofs.YtahenocndacjeaaDoor.Pu
open Go.RowKit Go.Proofs.YtahenocndacjeaaDoorW.PrintWords Go.Proofs.YtahenocndacjeaaDoorW.PrintLast Go.Proofs.YtahenocndacjeaaDoorW.PrintMore Go.Proofs.YtahenocndacjeaaDoor.G
set_option linter.unusedVariables false
set_option linter.unusedSimpArgs false
def ShortR (l : List RT) : Prop := l.length ≤ 6 ∧ ∀ r ∈ l, r.f3.length ≤ 12 ∧ r.f5.length ≤ 12
theorem short_of {b : BT} (h : batOk b = true) : ShortR b.f5 := ⟨(batOk_len h).2, fun r hr => by
  obtain ⟨i, hi, rfl⟩ := List.getElem_of_mem hr
  exact recOk_len (batOk_rec h i hi)⟩
theorem copyRecords_loop (l : List RT) (h : ShortR l) : ∀ d i, l.length - i = d → i ≤ l.length → Ev (fun k => impl_copyRecords.l0 k (l.take i) l (l.length : Int) (i : Int)) l := by
  intro d
  induction d with
  | zero =>
    intro i hd hi
    refine Ev.step (fun k => by rw [impl_copyRecords.l0]) ?_
    simp only [if_neg (show ¬ (i : Int) < (l.length : Int) by omega), List.take_of_length_le (show l.length ≤ i by omega)]
    exact Ev.now _
  | succ d ih =>
    intro i hd hi
    have hlt : i < l.length := by omega
    have hl := h.1
    refine Ev.step (fun k => by rw [impl_copyRecords.l0]) ?_
    simp only [if_pos (show (i : Int) < (l.length : Int) by omega), if_pos (show (0 : Int) ≤ (i : Int) by omega), rdR_nat l i hlt, copyOf_ev _ (h.2 _ (List.getElem_mem hlt)), bindS, w64 (a := (i : Int) + 1) (by omega) (by omega), if_pos (show (l.take i).length < 1759218604441 by rw [List.length_take]; omega)]
    have := ih (i + 1) (by omega) (by omega)
    rw [← List.take_append_getElem hlt] at this
    exact this
theorem copyRecords_ev (l : List RT) (h : ShortR l) : Ev (fun k => impl_copyRecords.f k l) l := by
  unfold impl_copyRecords.f
  have hl := h.1
  simp only [if_pos (show (0 : Int) ≤ (l.length : Int) by omega), if_pos (show ((l.length : Int)).toNat ≤ 3518437208883 by rw [Int.toNat_natCast]; omega)]
  have := copyRecords_loop l h _ 0 rfl (by omega)
  simpa using this
theorem copyBatch_ev (b : BT) (h : ShortR b.f5) : Ev (fun k => impl_Batch_copyOf.f k b.f0 b.f1 b.f2 b.f3 b.f4 b.f5) (b.f0, b.f1, b.f2, b.f3, b.f4, b.f5) := by
  unfold impl_Batch_copyOf.f
  exact Ev.bind (copyRecords_ev _ h) (Ev.now _)
theorem l12Copy_ev (x : RT) (h : x.f3.length ≤ 12 ∧ x.f5.length ≤ 12) : spec_l12Copy.f x.f0 x.f1 x.f2 x.f3 x.f4 x.f5 = some (x.f0, x.f1, x.f2, x.f3, x.f4, x.f5) := by
  unfold spec_l12Copy.f
  simp only [bindS, List.length_nil, List.nil_append]
  rw [if_pos (by omega), if_pos (by omega)]
theorem free_loop (p : Bool) (l : List RT) (h : ShortR l) : ∀ d i, l.length - i = d → i ≤ l.length → Ev (fun k => spec_l31Free.l0 k l (i : Int) p false 255 0 0 (l.take i)) (p, false, 255, 0, 0, l) := by
  intro d
  induction d with
  | zero =>
    intro i hd hi
    refine Ev.step (fun k => by rw [spec_l31Free.l0]) ?_
    simp only [if_neg (show ¬ (i : Int) < (l.length : Int) by omega), List.take_of_length_le (show l.length ≤ i by omega)]
    exact Ev.now _
  | succ d ih =>
    intro i hd hi
    have hlt : i < l.length := by omega
    have hl := h.1
    refine Ev.step (fun k => by rw [spec_l31Free.l0]) ?_
    simp only [if_pos (show (i : Int) < (l.length : Int) by omega), if_pos (show (0 : Int) ≤ (i : Int) by omega), rdR_nat l i hlt, l12Copy_ev _ (h.2 _ (List.getElem_mem hlt)), bindS, w64 (a := (i : Int) + 1) (by omega) (by omega), if_pos (show (l.take i).length < 1759218604441 by rw [List.length_take]; omega)]
    have := ih (i + 1) (by omega) (by omega)
    rw [← List.take_append_getElem hlt] at this
    exact this
theorem free_ev (p : Bool) (l : List RT) (h : ShortR l) : Ev (fun k => spec_l31Free.f k p l) (p, false, 255, 0, 0, l) := by
  unfold spec_l31Free.f
  have := free_loop p l h _ 0 rfl (by omega)
  simpa using this
theorem ShortR.take {l : List RT} (h : ShortR l) (n : Nat) : ShortR (l.take n) := ⟨by rw [List.length_take]; have := h.1; omega, fun r hr => h.2 r (List.mem_of_mem_take hr)⟩
theorem ShortR.drop {l : List RT} (h : ShortR l) (n : Nat) : ShortR (l.drop n) := ⟨by rw [List.length_drop]; have := h.1; omega, fun r hr => h.2 r (List.mem_of_mem_drop hr)⟩
end Go.Proofs.YtahenocndacjeaaDoor.Pu

namespace Go.Proofs.YtahenocndacjeaaDoor.Pu
open Go.RowKit Go.Proofs.YtahenocndacjeaaDoorW.PrintWords Go.Proofs.YtahenocndacjeaaDoorW.PrintLast Go.Proofs.YtahenocndacjeaaDoorW.PrintMore Go.Proofs.YtahenocndacjeaaDoor.G
set_option linter.unusedVariables false
set_option linter.unusedSimpArgs false
/-- Offsets that grow. -/
def Inc : List RT → Prop
  | [] => True
  | x :: l => (∀ y ∈ l, x.f0 < y.f0) ∧ Inc l
theorem inc_of : ∀ (l : List RT), (∀ i (h : i + 1 < l.length), l[i].f0 < l[i + 1].f0) → Inc l
  | [], _ => trivial
  | [x], _ => ⟨fun y hy => by simp at hy, trivial⟩
  | x :: z :: l, h => by
    have h1 := inc_of (z :: l) fun i hi => h (i + 1) (by simp only [List.length_cons] at hi ⊢; omega)
    have h0 : x.f0 < z.f0 := h 0 (by simp)
    refine ⟨fun y hy => ?_, h1⟩
    rcases List.mem_cons.1 hy with rfl | hy
    · exact h0
    · have := h1.1 y hy
      omega
theorem inc_bat {b : BT} (h : batOk b = true) : Inc b.f5 := by
  refine inc_of _ fun i hi => ?_
  unfold batOk at h
  simp only [Bool.and_eq_true] at h
  have := List.all_eq_true.1 h.2.2.2 (i + 1) (by simp [List.mem_range']; omega)
  unfold recStep at this
  rw [rdR_nat b.f5 (i + 1) hi, show ((i + 1 : Nat) : Int) - 1 = (i : Int) by omega, rdR_nat b.f5 i (by omega)] at this
  simpa using (Bool.and_eq_true_iff.1 this).2
/-- How many lie ahead of an offset, from the first one on. -/
def cutAt (l : List RT) (o : Int) : Nat := (l.takeWhile fun r => decide (r.f0 < o)).length
theorem cutAt_cons (x : RT) (l : List RT) (o : Int) : cutAt (x :: l) o = if x.f0 < o then cutAt l o + 1 else 0 := by
  unfold cutAt
  rw [List.takeWhile_cons]
  by_cases h : x.f0 < o <;> simp [h]
theorem cutAt_le : ∀ (l : List RT) (o : Int), cutAt l o ≤ l.length
  | [], _ => by simp [cutAt]
  | x :: l, o => by
    rw [cutAt_cons]
    have := cutAt_le l o
    split <;> simp <;> omega
theorem cut_parts : ∀ (l : List RT) (o : Int), Inc l → aheadL l o = l.take (cutAt l o) ∧ behindL l o = l.drop (cutAt l o)
  | [], _, _ => by simp [aheadL, behindL, cutAt]
  | x :: l, o, h => by
    rw [cutAt_cons, aheadL_cons, behindL_cons]
    obtain ⟨h1, h2⟩ := cut_parts l o h.2
    by_cases hc : x.f0 < o
    · rw [if_pos hc, if_pos hc, if_pos hc, h1, h2]
      exact ⟨rfl, rfl⟩
    · rw [if_neg hc, if_neg hc, if_neg hc]
      have ha : aheadL l o = [] := List.filter_eq_nil_iff.2 fun y hy => by have := h.1 y hy; simp; omega
      have hb : behindL l o = l := List.filter_eq_self.2 fun y hy => by have := h.1 y hy; simp; omega
      rw [ha, hb]
      exact ⟨rfl, rfl⟩
theorem sCut_loop (p b1 : Bool) (b2 b3 b4 : Int) (l : List RT) (o : Int) (hl : l.length ≤ 6) {r : BCutT} (hj : Ev (fun k => spec_BatchCut.j2 k ((cutAt l o : Nat) : Int) p b1 b2 b3 b4 l) r) : ∀ d i, l.length - i = d → i ≤ l.length → i + cutAt (l.drop i) o = cutAt l o →
    Ev (fun k => spec_BatchCut.l0 k o (i : Int) p b1 b2 b3 b4 l) r := by
  intro d
  induction d with
  | zero =>
    intro i hd hi hc
    refine Ev.step (fun k => by rw [spec_BatchCut.l0]) ?_
    simp only [if_neg (show ¬ (i : Int) < (l.length : Int) by omega)]
    rw [List.drop_of_length_le (by omega)] at hc
    have : i = cutAt l o := by simpa [cutAt] using hc
    rw [this]
    exact hj
  | succ d ih =>
    intro i hd hi hc
    have hlt : i < l.length := by omega
    refine Ev.step (fun k => by rw [spec_BatchCut.l0]) ?_
    simp only [if_pos (show (i : Int) < (l.length : Int) by omega), if_pos (show (0 : Int) ≤ (i : Int) by omega), rdR_nat l i hlt, w64 (a := (i : Int) + 1) (by omega) (by omega)]
    rw [List.drop_eq_getElem_cons hlt, cutAt_cons] at hc
    by_cases h : l[i].f0 < o
    · simp only [if_pos h]
      rw [if_pos h] at hc
      exact ih (i + 1) (by omega) (by omega) (by omega)
    · simp only [if_neg h]
      rw [if_neg h] at hc
      have : i = cutAt l o := by omega
      rw [this]
      exact hj
theorem sBatchCut_ev (b : BT) (o : Int) : Ev (fun k => spec_BatchCut.f k b.f0 b.f1 b.f2 b.f3 b.f4 b.f5 o) (bcutV b o) := by
  unfold spec_BatchCut.f
  simp only [spec_BatchValid.f, bindS]
  unfold bcutV cutGood
  cases hv : batOk b
  · simp only [Bool.false_eq_true, if_false, Bool.false_and]
    refine Ev.step (fun k => by rw [spec_BatchCut.j0]) ?_
    exact Ev.now _
  · simp only [if_true, Bool.true_and]
    refine Ev.step (fun k => by rw [spec_BatchCut.j0]) ?_
    by_cases h : b.f2 = 255
    · have hS := short_of hv
      have hle := cutAt_le b.f5 o
      obtain ⟨e1, e2⟩ := cut_parts b.f5 o (inc_bat hv)
      rw [e1, e2]
      simp only [h, bne_self_eq_false, Bool.false_eq_true, if_false, decide_true, Bool.true_and]
      refine sCut_loop _ _ _ _ _ _ _ hS.1 ?_ _ 0 rfl (by omega) (by simp)
      refine Ev.step (fun k => by rw [spec_BatchCut.j2]) ?_
      have hb : (!(b.f5.take (cutAt b.f5 o)).isEmpty && !(b.f5.drop (cutAt b.f5 o)).isEmpty) = (!decide (cutAt b.f5 o = 0) && !decide (cutAt b.f5 o = b.f5.length)) := by
        have h0 := hS.1
        have h1 := (batOk_len hv).1
        congr 1
        · by_cases hz : cutAt b.f5 o = 0
          · simp [hz]
          · have : b.f5.take (cutAt b.f5 o) ≠ [] := fun e => by have := congrArg List.length e; rw [List.length_take, List.length_nil] at this; omega
            simp [hz, List.isEmpty_eq_false_iff.2 this]
        · by_cases hz : cutAt b.f5 o = b.f5.length
          · simp [hz]
          · have : b.f5.drop (cutAt b.f5 o) ≠ [] := fun e => by have := congrArg List.length e; rw [List.length_drop, List.length_nil] at this; omega
            simp [hz, List.isEmpty_eq_false_iff.2 this]
      rw [hb]
      by_cases h0 : cutAt b.f5 o = 0
      · simp only [if_pos (show ((cutAt b.f5 o : Nat) : Int) = 0 by omega), decide_eq_true h0, Bool.not_true, Bool.false_and, Bool.false_eq_true, if_false]
        refine Ev.step (fun k => by rw [spec_BatchCut.j3]) ?_
        simp only [if_true]
        exact Ev.now _
      · simp only [if_neg (show ¬ ((cutAt b.f5 o : Nat) : Int) = 0 by omega), decide_eq_false h0, Bool.not_false, Bool.true_and]
        refine Ev.step (fun k => by rw [spec_BatchCut.j3]) ?_
        by_cases h1 : cutAt b.f5 o = b.f5.length
        · simp only [show (((cutAt b.f5 o : Nat) : Int) == (b.f5.length : Int)) = true by rw [beq_iff_eq]; omega, if_true, decide_eq_true h1, Bool.not_true, Bool.false_eq_true, if_false]
          exact Ev.now _
        · simp only [show (((cutAt b.f5 o : Nat) : Int) == (b.f5.length : Int)) = false by rw [beq_eq_false_iff_ne]; omega, Bool.false_eq_true, if_false, decide_eq_false h1, Bool.not_false, if_true, if_pos (show (0 : Int) ≤ ((cutAt b.f5 o : Nat) : Int) by omega), if_pos (show ((cutAt b.f5 o : Nat) : Int) ≤ (b.f5.length : Int) by omega), Int.toNat_natCast]
          refine Ev.bind (free_ev _ _ (hS.take _)) ?_
          refine Ev.bind (free_ev _ _ (hS.drop _)) ?_
          exact Ev.now _
    · simp only [show (b.f2 != 255) = true by simp [h], if_true, decide_eq_false h, Bool.false_and, Bool.false_eq_true, if_false]
      exact Ev.now _
end Go.Proofs.YtahenocndacjeaaDoor.Pu

namespace Go.Proofs.YtahenocndacjeaaDoor.Pu
open Go.RowKit Go.Proofs.YtahenocndacjeaaDoorW.PrintWords Go.Proofs.YtahenocndacjeaaDoorW.PrintLast Go.Proofs.YtahenocndacjeaaDoorW.PrintMore Go.Proofs.YtahenocndacjeaaDoor.G
set_option linter.unusedVariables false
set_option linter.unusedSimpArgs false
theorem inc_filter (p : RT → Bool) : ∀ (l : List RT), Inc l → Inc (l.filter p)
  | [], _ => trivial
  | x :: l, h => by
    rw [List.filter_cons]
    split
    · exact ⟨fun y hy => h.1 y (List.mem_filter.1 hy).1, inc_filter p l h.2⟩
    · exact inc_filter p l h.2
theorem inc_step : ∀ (l : List RT), Inc l → ∀ (j : Nat) (hj : j + 1 < l.length), l[j].f0 < l[j + 1].f0
  | [], _, j, hj => by simp at hj
  | x :: l, h, 0, hj => h.1 _ (List.getElem_mem (l := l) (n := 0) (by simpa using hj))
  | x :: l, h, j + 1, hj => inc_step l h.2 j (by simpa using hj)
theorem recsInc_of (l : List RT) (h : ∀ r ∈ l, recOk r = true) (hi : Inc l) : recsInc l = true := incs_of fun j hj => by
  unfold recStep
  rw [rdR_nat l j hj, h _ (List.getElem_mem hj), Bool.true_and]
  rcases j with _ | j
  · simp
  · rw [show ((j + 1 : Nat) : Int) - 1 = (j : Int) by omega, rdR_nat l j (by omega), decide_eq_true (inc_step l hi j hj), Bool.or_true]
def freeB (p : Bool) (l : List RT) : BT := ⟨p, false, 255, 0, 0, l⟩
theorem free_ok {p : Bool} {l : List RT} (hr : ∀ r ∈ l, recOk r = true) (hi : Inc l) (h1 : 1 ≤ l.length) (h6 : l.length ≤ 6) : batOk (freeB p l) = true := by
  unfold batOk headOk lenOk freeB
  simp only [recsInc_of l hr hi, if_true, decide_true, Bool.not_false, Bool.true_or, Bool.and_true, Bool.true_and, Bool.and_eq_true, decide_eq_true_eq]
  omega
theorem bat_recs {b : BT} (h : batOk b = true) : ∀ r ∈ b.f5, recOk r = true := fun r hr => by
  obtain ⟨i, hi, rfl⟩ := List.getElem_of_mem hr
  exact batOk_rec h i hi
theorem good_parts {b : BT} {o : Int} (h : cutGood b o = true) : batOk b = true ∧ b.f2 = 255 ∧ aheadL b.f5 o ≠ [] ∧ behindL b.f5 o ≠ [] := by
  unfold cutGood at h
  simp only [Bool.and_eq_true, Bool.not_eq_true', decide_eq_true_eq] at h
  exact ⟨h.1.1, h.1.2, fun e => by rw [e] at h; simp at h, fun e => by rw [e] at h; simp at h⟩
theorem part_ok {b : BT} {o : Int} (p : RT → Bool) (h : cutGood b o = true) (hn : b.f5.filter p ≠ []) : batOk (freeB b.f0 (b.f5.filter p)) = true := by
  have hb := (good_parts h).1
  refine free_ok (fun r hr => bat_recs hb r (List.mem_filter.1 hr).1) (inc_filter p _ (inc_bat hb)) (List.length_pos_iff.2 hn) ?_
  have := (batOk_len hb).2
  have := List.length_filter_le p b.f5
  omega
theorem ahead_ok {b : BT} {o : Int} (h : cutGood b o = true) : batOk (freeB b.f0 (aheadL b.f5 o)) = true := part_ok _ h (good_parts h).2.2.1
theorem behind_ok {b : BT} {o : Int} (h : cutGood b o = true) : batOk (freeB b.f0 (behindL b.f5 o)) = true := part_ok _ h (good_parts h).2.2.2
theorem short_row {l : List RT} (h : ShortR l) : RowR l := ⟨by have := h.1; omega, fun r hr => by have := h.2 r hr; exact ⟨by omega, by omega⟩⟩
theorem short_filter {l : List RT} (p : RT → Bool) (h : ShortR l) : ShortR (l.filter p) := ⟨Nat.le_trans (List.length_filter_le p l) h.1, fun r hr => h.2 r (List.mem_filter.1 hr).1⟩
/-- The two parts, one behind the other, are the whole. -/
theorem parts_whole {b : BT} {o : Int} (h : cutGood b o = true) : aheadL b.f5 o ++ behindL b.f5 o = b.f5 := by
  obtain ⟨e1, e2⟩ := cut_parts b.f5 o (inc_bat (good_parts h).1)
  rw [e1, e2, List.take_append_drop]
/-- A valid batch without a producer is told by whether it is packed, and its records. -/
theorem free_of {b : BT} (h : batOk b = true) (h2 : b.f2 = 255) : b = freeB b.f0 b.f5 := by
  obtain ⟨b0, b1, b2, b3, b4, l⟩ := b
  simp only at h2
  subst h2
  unfold batOk headOk at h
  simp only [if_true, Bool.and_eq_true, decide_eq_true_eq, Bool.not_eq_true'] at h
  obtain ⟨⟨rfl, rfl, rfl⟩, -⟩ := h
  rfl
end Go.Proofs.YtahenocndacjeaaDoor.Pu

namespace Go.Proofs.YtahenocndacjeaaDoor.Pu
open Go.RowKit Go.Proofs.YtahenocndacjeaaDoorW.PrintWords Go.Proofs.YtahenocndacjeaaDoorW.PrintLast Go.Proofs.YtahenocndacjeaaDoorW.PrintMore Go.Proofs.YtahenocndacjeaaDoor.G
set_option linter.unusedVariables false
set_option linter.unusedSimpArgs false
theorem selfInts (l : List Int) (hl : l.length ≤ 9223372036854775807) : Ev (fun k => laws_sameInts.f k l l) true := by
  unfold laws_sameInts.f
  simp only [if_true]
  have := ev_all l hl (fun k i => laws_sameInts.l0 k l l i) (fun k i => some true) (fun _ => true) true
    (fun k => by simp only [laws_sameInts.l0]; rw [if_neg (by omega)])
    (fun k i h => by simp only [laws_sameInts.l0]; rw [if_pos (by omega), if_pos (by omega), if_pos (by omega), if_pos trivial]; rfl)
    (fun i h => Ev.now _) l.length 0 (by omega) (by omega)
  rw [show ((l.drop 0).all fun _ => true) = true from List.all_eq_true.2 (fun _ _ => rfl)] at this
  simpa using this
theorem selfRecord (x : S41) (h : Lens x) : Ev (fun k => laws_sameRecord.f k x.f0 x.f1 x.f2 x.f3 x.f4 x.f5 x.f0 x.f1 x.f2 x.f3 x.f4 x.f5) true := by
  unfold laws_sameRecord.f
  simp only [if_true, beq_self_eq_true]
  refine Ev.bind (selfInts _ h.1) ?_
  simp only [if_true]
  exact Ev.bind (selfInts _ h.2) (Ev.now _)
theorem selfRecords (l : List S41) (h : RowR l) : Ev (fun k => laws_sameRecords.f k l l) true := by
  unfold laws_sameRecords.f
  simp only [if_true]
  have := ev_all l h.1 (fun k i => laws_sameRecords.l0 k l l i) (fun k i => laws_sameRecord.f k (rd_T41 l i).f0 (rd_T41 l i).f1 (rd_T41 l i).f2 (rd_T41 l i).f3 (rd_T41 l i).f4 (rd_T41 l i).f5 (rd_T41 l i).f0 (rd_T41 l i).f1 (rd_T41 l i).f2 (rd_T41 l i).f3 (rd_T41 l i).f4 (rd_T41 l i).f5) (fun _ => true) true
    (fun k => by simp only [laws_sameRecords.l0]; rw [if_neg (by omega)])
    (fun k i h => by simp only [laws_sameRecords.l0]; rw [if_pos (by omega), if_pos (by omega), if_pos (by omega)])
    (fun i hi => by rw [rdR_nat l i hi]; exact selfRecord _ (h.2 _ (List.getElem_mem hi))) l.length 0 (by omega) (by omega)
  rw [show ((l.drop 0).all fun _ => true) = true from List.all_eq_true.2 (fun _ _ => rfl)] at this
  simpa using this
theorem selfBatch (b : S25) (h : RowR b.f5) : Ev (fun k => laws_sameBatch.f k b.f0 b.f1 b.f2 b.f3 b.f4 b.f5 b.f0 b.f1 b.f2 b.f3 b.f4 b.f5) true := by
  unfold laws_sameBatch.f
  simp only [if_true, beq_self_eq_true]
  exact Ev.bind (selfRecords _ h) (Ev.now _)
end Go.Proofs.YtahenocndacjeaaDoor.Pu

namespace Go.Proofs.YtahenocndacjeaaDoor.Pu
open Go.RowKit Go.Proofs.YtahenocndacjeaaDoorW.PrintWords Go.Proofs.YtahenocndacjeaaDoorW.PrintLast Go.Proofs.YtahenocndacjeaaDoorW.PrintMore Go.Proofs.YtahenocndacjeaaDoor.G
set_option linter.unusedVariables false
set_option linter.unusedSimpArgs false
abbrev JoinT := Bool × Bool × Int × Int × Int × List RT × Option Int
/-- Whether two batches can be joined. -/
def joinGood (a b : BT) : Bool := batOk a && (batOk b && (decide (a.f2 = 255) && (decide (b.f2 = 255) && (decide (a.f0 = b.f0) && batOk ⟨a.f0, a.f1, a.f2, a.f3, a.f4, a.f5 ++ b.f5⟩))))
def joinV (a b : BT) : JoinT := if joinGood a b = true then (a.f0, a.f1, a.f2, a.f3, a.f4, a.f5 ++ b.f5, none) else (false, false, 0, 0, 0, [], some 2)
theorem join_j (a b : BT) (x : Bool) (ha : batOk a = true) (hb : batOk b = true) : Ev (fun k => impl_Batch_join.j0 k x a.f0 a.f1 a.f2 a.f3 a.f4 a.f5 b.f0 b.f1 b.f2 b.f3 b.f4 b.f5) (if x = true ∨ ¬ batOk ⟨a.f0, a.f1, a.f2, a.f3, a.f4, a.f5 ++ b.f5⟩ = true then (false, false, 0, 0, 0, [], some 2) else (a.f0, a.f1, a.f2, a.f3, a.f4, a.f5 ++ b.f5, none)) := by
  refine Ev.step (fun k => by rw [impl_Batch_join.j0]) ?_
  cases x
  · simp only [Bool.false_eq_true, if_false, false_or]
    have h1 := short_of ha
    have h2 := short_of hb
    refine Ev.bind (copyBatch_ev a h1) ?_
    refine Ev.bind (copyRecords_ev b.f5 h2) ?_
    have := h1.1
    have := h2.1
    simp only [if_pos (show a.f5.length + b.f5.length < 1759218604441 by omega), bindS, impl_BatchValid.f]
    by_cases hv : batOk ⟨a.f0, a.f1, a.f2, a.f3, a.f4, a.f5 ++ b.f5⟩ = true
    · rw [if_neg (show ¬ ¬ batOk ⟨a.f0, a.f1, a.f2, a.f3, a.f4, a.f5 ++ b.f5⟩ = true from fun h => h hv)]
      simp only [hv, if_true]
      exact Ev.now _
    · rw [if_pos hv]
      simp only [if_neg hv]
      exact Ev.now _
  · simp only [if_true, true_or]
    exact Ev.now _
theorem join_ev (a b : BT) : Ev (fun k => impl_Batch_join.f k a.f0 a.f1 a.f2 a.f3 a.f4 a.f5 b.f0 b.f1 b.f2 b.f3 b.f4 b.f5) (joinV a b) := by
  have bad : ∀ k, impl_Batch_join.j0 (k + 1) true a.f0 a.f1 a.f2 a.f3 a.f4 a.f5 b.f0 b.f1 b.f2 b.f3 b.f4 b.f5 = some (false, false, 0, 0, 0, [], some 2) := fun k => by rw [impl_Batch_join.j0]; simp
  have badE : Ev (fun k => impl_Batch_join.j0 k true a.f0 a.f1 a.f2 a.f3 a.f4 a.f5 b.f0 b.f1 b.f2 b.f3 b.f4 b.f5) (false, false, 0, 0, 0, [], some 2) := Ev.step bad (Ev.now _)
  unfold impl_Batch_join.f joinV joinGood
  simp only [impl_BatchValid.f, bindS]
  cases ha : batOk a
  · simpa using badE
  · cases hb : batOk b
    · simpa using badE
    · simp only [if_true, Bool.true_and]
      by_cases h2 : a.f2 = 255
      · by_cases h3 : b.f2 = 255
        · simp only [if_pos h2, if_pos h3, decide_eq_true h2, decide_eq_true h3, Bool.true_and]
          have := join_j a b (a.f0 != b.f0) ha hb
          by_cases h4 : a.f0 = b.f0
          · have e : (a.f0 != b.f0) = false := by simp [h4]
            rw [e] at this ⊢
            simp only [Bool.false_eq_true, false_or] at this
            rw [decide_eq_true h4, Bool.true_and]
            by_cases hv : batOk ⟨a.f0, a.f1, a.f2, a.f3, a.f4, a.f5 ++ b.f5⟩ = true
            · rw [if_neg (by simp [hv])] at this
              rw [if_pos hv]
              exact this
            · rw [if_pos hv] at this
              rw [if_neg hv]
              exact this
          · have e : (a.f0 != b.f0) = true := by simp [h4]
            rw [e, decide_eq_false h4, Bool.false_and, if_neg (by simp)]
            exact badE
        · simp only [if_pos h2, if_neg h3, decide_eq_false h3, Bool.false_and, Bool.and_false, Bool.false_eq_true, if_false]
          exact badE
      · simp only [if_neg h2, decide_eq_false h2, Bool.false_and, Bool.and_false, Bool.false_eq_true, if_false]
        exact badE
abbrev BJoinT := Bool × Bool × Int × Int × Int × List RT × Bool
def bjoinV (a b : BT) : BJoinT := if joinGood a b = true then (a.f0, a.f1, a.f2, a.f3, a.f4, a.f5 ++ b.f5, true) else (false, false, 0, 0, 0, [], false)
theorem BatchJoin_ev (a b : BT) : Ev (fun k => impl_BatchJoin.f k a.f0 a.f1 a.f2 a.f3 a.f4 a.f5 b.f0 b.f1 b.f2 b.f3 b.f4 b.f5) (bjoinV a b) := by
  unfold impl_BatchJoin.f
  refine Ev.bind (join_ev a b) ?_
  unfold bjoinV joinV
  by_cases h : joinGood a b = true
  · simp only [if_pos h, errors_Is.f, bindS, Bool.false_eq_true, if_false]
    exact Ev.now _
  · simp only [if_neg h, errors_Is.f, if_true, bindS]
    exact Ev.now _
end Go.Proofs.YtahenocndacjeaaDoor.Pu

namespace Go.Proofs.YtahenocndacjeaaDoor.Pu
open Go.RowKit Go.Proofs.YtahenocndacjeaaDoorW.PrintWords Go.Proofs.YtahenocndacjeaaDoorW.PrintLast Go.Proofs.YtahenocndacjeaaDoor.G
set_option linter.unusedVariables false
set_option linter.unusedSimpArgs false
theorem xor_i64 (a b : Int) (h0 : 0 ≤ a) (h1 : a < 4611686018427387904) (k0 : 0 ≤ b) (k1 : b < 4611686018427387904) : 0 ≤ bits .xor .i64 a b := by
  obtain ⟨a, rfl⟩ := Int.eq_ofNat_of_zero_le h0
  obtain ⟨b, rfl⟩ := Int.eq_ofNat_of_zero_le k0
  have ha : a < 2 ^ 62 := by omega
  have hb : b < 2 ^ 62 := by omega
  have hx := Nat.xor_lt_two_pow ha hb
  have ha' : a % 2 ^ 64 = a := Nat.mod_eq_of_lt (by omega)
  have hb' : b % 2 ^ 64 = b := Nat.mod_eq_of_lt (by omega)
  show 0 ≤ IntKind.i64.wrap ((BitVec.ofInt 64 (a : Int) ^^^ BitVec.ofInt 64 (b : Int)).toNat : Int)
  rw [BitVec.ofInt_natCast, BitVec.ofInt_natCast, BitVec.toNat_xor, BitVec.toNat_ofNat, BitVec.toNat_ofNat, ha', hb', IntKind.wrap_i64]
  omega
theorem rd_range {b : List Int} (hb : ∀ x ∈ b, 0 ≤ x ∧ x ≤ 255) (i : Int) : 0 ≤ rd b i ∧ rd b i ≤ 255 := by
  unfold rd
  rw [List.getD_eq_getElem?_getD]
  rcases h : b[i.toNat]? with _ | x
  · simp
  · exact hb x (List.mem_of_getElem? h)
theorem mod_range {x n : Int} (h0 : 0 ≤ x) (h1 : 1 ≤ n) : 0 ≤ Int.tmod x n ∧ Int.tmod x n < n := by
  rw [Int.tmod_eq_emod_of_nonneg h0]
  exact ⟨Int.emod_nonneg _ (by omega), Int.emod_lt_of_pos _ (by omega)⟩
/-- A code that is read: bytes, and a place that is no great number. -/
def CodeOk (b : List Int) : Prop := b.length ≤ 2000 ∧ ∀ x ∈ b, 0 ≤ x ∧ x ≤ 255
theorem pick_ends {b : List Int} (hb : CodeOk b) (p n : Int) (h0 : 0 ≤ p) (h1 : p ≤ 1000000000) (hn : n ≤ 4611686018427387904) :
    EndsIn (fun k => spec_l6Rd_pick.f k b p n) (fun r => r.2 = p + 1 ∧ 0 ≤ r.1 ∧ (1 ≤ n → r.1 < n) ∧ (n < 1 → r.1 = 0)) := by
  obtain ⟨hl, hr⟩ := hb
  unfold spec_l6Rd_pick.f
  rw [w64 (a := p + 1) (by omega) (by omega)]
  by_cases hn1 : n < 1
  · simp only [if_pos hn1]
    refine EndsIn.step (fun k => by rw [spec_l6Rd_pick.j0]) ?_
    simp only [if_true]
    exact EndsIn.now _ ⟨rfl, by omega, by omega, fun _ => rfl⟩
  · simp only [if_neg hn1]
    refine EndsIn.step (fun k => by rw [spec_l6Rd_pick.j0]) ?_
    rw [show p + 1 - 1 = p by omega, w64 (a := p) (by omega) (by omega)]
    by_cases hz : (b.length : Int) = 0
    · have : ((b.length : Int) == 0) = true := by simpa using hz
      simp only [this, if_true]
      exact EndsIn.now _ ⟨rfl, by omega, by omega, fun h => by omega⟩
    · have hz' : ((b.length : Int) == 0) = false := by simpa using hz
      simp only [hz', Bool.false_eq_true, if_false]
      by_cases hp : p < (b.length : Int)
      · have hx := rd_range hr p
        simp only [if_pos hp, if_pos h0, if_neg (show ¬ n = 0 by omega)]
        rw [w64 (a := rd b p) (by omega) (by omega)]
        have hm := mod_range (x := rd b p) (n := n) hx.1 (by omega)
        exact EndsIn.now _ ⟨rfl, hm.1, fun _ => hm.2, fun h => by omega⟩
      · have hm1 := mod_range (x := p) (n := (b.length : Int)) h0 (by omega)
        have h7 : wrap64 (wrap64 (p * 7) + 3) = p * 7 + 3 := by
          rw [w64 (a := p * 7) (by omega) (by omega), w64 (by omega) (by omega)]
        have hm2 := mod_range (x := p * 7 + 3) (n := (b.length : Int)) (by omega) (by omega)
        simp only [if_neg hp, if_neg hz, h7, if_pos hm1.1, if_pos hm1.2, if_pos hm2.1, if_pos hm2.2, if_neg (show ¬ n = 0 by omega)]
        have hx1 := rd_range hr (Int.tmod p b.length)
        have hx2 := rd_range hr (Int.tmod (p * 7 + 3) b.length)
        generalize rd b (Int.tmod p b.length) = x1 at hx1 ⊢
        generalize rd b (Int.tmod (p * 7 + 3) b.length) = x2 at hx2 ⊢
        have hd : 0 ≤ Int.tdiv p (b.length : Int) ∧ Int.tdiv p (b.length : Int) ≤ p := by
          rw [Int.tdiv_eq_ediv_of_nonneg h0]
          exact ⟨Int.ediv_nonneg h0 (by omega), Int.ediv_le_self _ h0⟩
        generalize Int.tdiv p (b.length : Int) = q at hd ⊢
        have e1 : wrap64 x1 = x1 := w64 (by omega) (by omega)
        have e2 : wrap64 x2 = x2 := w64 (by omega) (by omega)
        have e3 : wrap64 (x1 * 131) = x1 * 131 := w64 (by omega) (by omega)
        have e4 : wrap64 (x2 * 1117) = x2 * 1117 := w64 (by omega) (by omega)
        have e5 : wrap64 (x1 * 131 + x2 * 1117) = x1 * 131 + x2 * 1117 := w64 (by omega) (by omega)
        have e6 : wrap64 (p * 29) = p * 29 := w64 (by omega) (by omega)
        have e7 : wrap64 (x1 * 131 + x2 * 1117 + p * 29) = x1 * 131 + x2 * 1117 + p * 29 := w64 (by omega) (by omega)
        have e8 : wrap64 q = q := w64 (by omega) (by omega)
        have e9 : wrap64 (q * 53) = q * 53 := w64 (by omega) (by omega)
        have e10 : wrap64 (x1 * 131 + x2 * 1117 + p * 29 + q * 53) = x1 * 131 + x2 * 1117 + p * 29 + q * 53 := w64 (by omega) (by omega)
        simp only [e1, e2, e3, e4, e5, e6, e7, e8, e9, e10]
        have hX : 0 ≤ x1 * 131 + x2 * 1117 + p * 29 + q * 53 ∧ x1 * 131 + x2 * 1117 + p * 29 + q * 53 < 4611686018427387904 := ⟨by omega, by omega⟩
        generalize x1 * 131 + x2 * 1117 + p * 29 + q * 53 = X at hX ⊢
        have e11 : wrap64 (Int.tdiv X 64) = X / 64 := by
          rw [Int.tdiv_eq_ediv_of_nonneg hX.1]
          exact w64 (by omega) (by omega)
        rw [e11]
        have hxx := xor_i64 X (X / 64) hX.1 hX.2 (by omega) (by omega)
        have hm := mod_range (n := n) hxx (by omega)
        exact EndsIn.now _ ⟨rfl, hm.1, fun _ => hm.2, fun h => by omega⟩
end Go.Proofs.YtahenocndacjeaaDoor.Pu

