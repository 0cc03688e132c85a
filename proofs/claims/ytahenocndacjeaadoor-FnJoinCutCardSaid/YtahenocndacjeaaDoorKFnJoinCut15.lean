/- A text of seat YtahenocndacjeaaDoor: what the law FnJoinCut needs of this repo's texts (by pack.py). Not trusted: Lean checks it. -/
import Derived.Test.YtahenocndacjeaaDoorKFnJoinCut14
namespace Go.Proofs.YtahenocndacjeaaDoor.G
open Go.RowKit Go.Proofs.YtahenocndacjeaaDoorW.PrintWords Go.Proofs.YtahenocndacjeaaDoorW.PrintLast Go.Proofs.YtahenocndacjeaaDoorW.PrintMore
attribute [local go_sem] max2_int min2_int max_two min_two max_three min_three max_four min_four   -- for this text's walks alone
set_option linter.unusedVariables false
set_option linter.unusedSimpArgs false

set_option maxHeartbeats 40000000 in
set_option maxRecDepth 100000 in
theorem laws_FnJoinCut.calls [ErrA] (k : Nat) (A0 : Option Addr) (c0 : Nat) (l0 : List Int) (r : Bool) (w : World) (hE : ErrOk [0, 1] w) (hr0 : Kd.C (Kd.int .u8) w A0 l0.length l0) (hc0 : l0.length ≤ c0) (h : laws_FnJoinCut.f k l0 = some r) :
  Calls Tryd.prog 5 #[.slice A0 l0.length c0] w fun e w' => e = .returned (.bool r) ∧ Below w.heap.size w w' := by
 have HE := Aside0.mk hE
 clear hE
 have hu25 := Tryd.underlying25
 have HR0 := Aside0.mk hr0
 have HC0 := Aside0.mk hc0
 clear hr0 hc0
 have HB := Aside0.mk (Below.refl w.heap.size w)
 have H : (if (l0.length : Int) > 1048576 then (some true) else ((spec_DrawBatchJoin.f k l0).bind fun bt647 => ((impl_BatchJoin.f k bt647.1 bt647.2.1 bt647.2.2.1 bt647.2.2.2.1 bt647.2.2.2.2.1 bt647.2.2.2.2.2.1 bt647.2.2.2.2.2.2.1 bt647.2.2.2.2.2.2.2.1 bt647.2.2.2.2.2.2.2.2.1 bt647.2.2.2.2.2.2.2.2.2.1 bt647.2.2.2.2.2.2.2.2.2.2.1 bt647.2.2.2.2.2.2.2.2.2.2.2).bind fun bt665 => ((spec_BatchJoin.f k bt647.1 bt647.2.1 bt647.2.2.1 bt647.2.2.2.1 bt647.2.2.2.2.1 bt647.2.2.2.2.2.1 bt647.2.2.2.2.2.2.1 bt647.2.2.2.2.2.2.2.1 bt647.2.2.2.2.2.2.2.2.1 bt647.2.2.2.2.2.2.2.2.2.1 bt647.2.2.2.2.2.2.2.2.2.2.1 bt647.2.2.2.2.2.2.2.2.2.2.2).bind fun bt675 => (if (bt665.2.2.2.2.2.2 != bt675.2.2.2.2.2.2) = true then (laws_FnJoinCut.j0 k bt665.2.2.2.2.2.2 bt675.2.2.2.2.2.2 true bt647.1 bt647.2.1 bt647.2.2.1 bt647.2.2.2.1 bt647.2.2.2.2.1 bt647.2.2.2.2.2.1 bt647.2.2.2.2.2.2.1 bt647.2.2.2.2.2.2.2.1 bt647.2.2.2.2.2.2.2.2.1 bt647.2.2.2.2.2.2.2.2.2.1 bt647.2.2.2.2.2.2.2.2.2.2.1 bt647.2.2.2.2.2.2.2.2.2.2.2 bt665.1 bt665.2.1 bt665.2.2.1 bt665.2.2.2.1 bt665.2.2.2.2.1 bt665.2.2.2.2.2.1 bt675.1 bt675.2.1 bt675.2.2.1 bt675.2.2.2.1 bt675.2.2.2.2.1 bt675.2.2.2.2.2.1) else ((laws_sameBatch.f k bt665.1 bt665.2.1 bt665.2.2.1 bt665.2.2.2.1 bt665.2.2.2.2.1 bt665.2.2.2.2.2.1 bt675.1 bt675.2.1 bt675.2.2.1 bt675.2.2.2.1 bt675.2.2.2.2.1 bt675.2.2.2.2.2.1).bind fun t685 => (if t685 = true then (laws_FnJoinCut.j0 k bt665.2.2.2.2.2.2 bt675.2.2.2.2.2.2 (!bt665.2.2.2.2.2.2) bt647.1 bt647.2.1 bt647.2.2.1 bt647.2.2.2.1 bt647.2.2.2.2.1 bt647.2.2.2.2.2.1 bt647.2.2.2.2.2.2.1 bt647.2.2.2.2.2.2.2.1 bt647.2.2.2.2.2.2.2.2.1 bt647.2.2.2.2.2.2.2.2.2.1 bt647.2.2.2.2.2.2.2.2.2.2.1 bt647.2.2.2.2.2.2.2.2.2.2.2 bt665.1 bt665.2.1 bt665.2.2.1 bt665.2.2.2.1 bt665.2.2.2.2.1 bt665.2.2.2.2.2.1 bt675.1 bt675.2.1 bt675.2.2.1 bt675.2.2.2.1 bt675.2.2.2.2.1 bt675.2.2.2.2.2.1) else (laws_FnJoinCut.j0 k bt665.2.2.2.2.2.2 bt675.2.2.2.2.2.2 true bt647.1 bt647.2.1 bt647.2.2.1 bt647.2.2.2.1 bt647.2.2.2.2.1 bt647.2.2.2.2.2.1 bt647.2.2.2.2.2.2.1 bt647.2.2.2.2.2.2.2.1 bt647.2.2.2.2.2.2.2.2.1 bt647.2.2.2.2.2.2.2.2.2.1 bt647.2.2.2.2.2.2.2.2.2.2.1 bt647.2.2.2.2.2.2.2.2.2.2.2 bt665.1 bt665.2.1 bt665.2.2.1 bt665.2.2.2.1 bt665.2.2.2.2.1 bt665.2.2.2.2.2.1 bt675.1 bt675.2.1 bt675.2.2.1 bt675.2.2.2.1 bt675.2.2.2.2.1 bt675.2.2.2.2.2.1)))))))) = some r := h
 clear h
 by_cases c2 : (l0.length : Int) > 1048576
 ·rw [if_pos c2] at H
  have c2b0 : decide (1048576 < (l0.length : Int)) = true := decide_eq_true c2
  have c2b1 : decide (1048576 < l0.length) = true := decide_eq_true (by omega)
  clear c2
  obtain rfl := Option.some.inj H
  go_enter Tryd.func5, Tryd.ntmps5
  go_wp2
  all_goals go_ret
  all_goals exact ⟨by first | rfl | (simp [errW_none, errW_some] <;> rfl) | (simp [*, errW_none, errW_some] <;> rfl), zb⟩
 ·rw [if_neg c2] at H
  have c2b0 : decide (1048576 < (l0.length : Int)) = false := decide_eq_false c2
  have c2b1 : decide (1048576 < l0.length) = false := decide_eq_false (by omega)
  clear c2
  replace H := tbe H
  obtain ⟨⟨t647, t648, t649, t650, t651, t652, t655, t656, t657, t658, t659, t660⟩, A3, H⟩ := H
  dsimp only at H
  replace H := tbe H
  obtain ⟨⟨t665, t666, t667, t668, t669, t670, t673⟩, A4, H⟩ := H
  dsimp only at H
  replace H := tbe H
  obtain ⟨⟨t675, t676, t677, t678, t679, t680, t683⟩, A5, H⟩ := H
  dsimp only at H
  have HC6 := Aside0.mk H
  clear H
  go_enter Tryd.func5, Tryd.ntmps5
  go_upto_region 6 with (first | ((with_reducible refine gate_callee (f := 15) rfl ?_); refine goesL_ (some 17) rfl rfl Tryd.func15 (by kernel_rfl) rfl #[.slice A0 l0.length c0] rfl tq ?_; (with_reducible refine (spec_DrawBatchJoin.calls k _ _ l0 t647 t648 t649 t650 t651 t652 t655 t656 t657 t658 t659 t660 _ ?side1 ?side2 A3.out).mono ?_); (case side1 => exact tC HR0.out); (case side2 => exact HC0.out); rintro e w7 ⟨v653, v661, rfl, ho0, ho1, hb⟩; have u_v653 := tsv Tryd.prog v653 ho0; have u_v661 := tsv Tryd.prog v661 ho1; refine ⟨_, rfl, ?_⟩; have HO654 := Aside0.mk (Kd.N_lower (Kd.N_mono (ok' := fun k_ => some k_ ≠ (v661 : Value).ownBlock) ho0 (fun k_ hk_ => hk_.2)) (below_size zb)); have HO662 := Aside0.mk (Kd.N_lower (Kd.N_mono (ok' := fun k_ => some k_ ≠ (v653 : Value).ownBlock) ho1 (fun k_ hk_ => hk_.2)) (below_size zb)); replace HB := tBs HB hb; (try clear hb); (try clear hb2); (try clear hk); (try clear hi); (try clear ho0); (try clear ho1)) | ((with_reducible refine gate_dst (N := 3) rfl ?_); refine box_event ?hg (N := 3) ?hd (cs := #[.bool false, .bool false, .int .i64 0, .int .i64 0, .int .i64 0, .slice none 0 0]) (t := 25) ?hr ?_; (case hd => rfl); (case hg => rfl); (case hr => first | (go_simp; done) | (go_simp; rfl)); intro gb663 hg w8 hbox hb; replace HO654 := tNB HO654 hg hb; replace HO662 := tNB HO662 hg hb; have BK663 := Aside0.mk (hbox); have GW663 := tge HB hg; have GE663 := tge HB hg; replace HB := tBs HB hb; clear hb hbox hg) | ((with_reducible refine gate_dst (N := 4) rfl ?_); refine box_event ?hg (N := 4) ?hd (cs := #[.bool false, .bool false, .int .i64 0, .int .i64 0, .int .i64 0, .slice none 0 0]) (t := 25) ?hr ?_; (case hd => rfl); (case hg => rfl); (case hr => first | (go_simp; done) | (go_simp; rfl)); intro gb664 hg w9 hbox hb; replace HO654 := tNB HO654 hg hb; replace HO662 := tNB HO662 hg hb; have BK664 := Aside0.mk (hbox); have GW664 := tge HB hg; have GE664 := tge HB hg; replace HB := tBs HB hb; have NB663_664 := tlt BK663 hg; have NB664_663 := tgt BK663 hg; replace BK663 := tBb BK663 hb; clear hb hbox hg; have hnb10 := NB663_664.out; have hnc10 := NB664_663.out; obtain ⟨hcz11_0, hcz11_1, hcz11_2, hcz11_3, hcz11_4, hcz11_5, hfz11_0, hfz11_1, hfz11_2, hfz11_3, hfz11_4, hfz11_5⟩ := cells6 BK663.out; obtain ⟨Ao12, co12, eo12⟩ := Kd.N_slice HO654.out; subst eo12; obtain ⟨hcz13_0, hcz13_1, hcz13_2, hcz13_3, hcz13_4, hcz13_5, hfz13_0, hfz13_1, hfz13_2, hfz13_3, hfz13_4, hfz13_5⟩ := cells6 BK664.out; obtain ⟨Ao14, co14, eo14⟩ := Kd.N_slice HO662.out; subst eo14) | ((with_reducible refine gate_callee (f := 14) rfl ?_); refine goesL_ (some 23) rfl rfl Tryd.func14 (by kernel_rfl) rfl #[.agg #[.bool t647, .bool t648, .int .i64 t649, .int .i64 t650, .int .i64 t651, .slice Ao12 t652.length co12], .agg #[.bool t655, .bool t656, .int .i64 t657, .int .i64 t658, .int .i64 t659, .slice Ao14 t660.length co14]] rfl tq ?_; (with_reducible refine (impl_BatchJoin.calls (hE := ?sideE) k t647 t648 t649 t650 t651 _ _ t652 t655 t656 t657 t658 t659 _ _ t660 t665 t666 t667 t668 t669 t670 t673 _ ?side1 ?side2 ?side3 ?side4 A4.out).mono ?_); (case sideE => exact ErrOk.below (HE.out.sub (by decide)) zb); (case side1 => refine (Kd.N_reads' (e := 41) (base := w.heap.size) (ok := fun k_ => ((some k_ ≠ (.slice Ao14 t660.length co14 : Value).ownBlock ∧ k_ ≠ gb663) ∧ k_ ≠ gb664)) (n := t652.length) (c := co12) ?_).2.2; exact (by (with_reducible repeat (first | apply Kd.N_alloc | apply Kd.N_drewN | apply Kd.N_drew)); exact (Kd.N_mono (Kd.N_mono (Kd.N_far (p := ⟨gb664, 5, none⟩) (Kd.N_far (p := ⟨gb664, 4, none⟩) (Kd.N_far (p := ⟨gb664, 3, none⟩) (Kd.N_far (p := ⟨gb664, 2, none⟩) (Kd.N_far (p := ⟨gb664, 1, none⟩) (Kd.N_far (p := ⟨gb664, 0, none⟩) (Kd.N_far (p := ⟨gb663, 5, none⟩) (Kd.N_far (p := ⟨gb663, 4, none⟩) (Kd.N_far (p := ⟨gb663, 3, none⟩) (Kd.N_far (p := ⟨gb663, 2, none⟩) (Kd.N_far (p := ⟨gb663, 1, none⟩) (Kd.N_far (p := ⟨gb663, 0, none⟩) (Kd.N_mono (Kd.N_mono HO654.out (fun k_ hk => (⟨hk, hk.1.2⟩ : _ ∧ k_ ≠ gb663))) (fun k_ hk => (⟨hk, hk.1.2⟩ : _ ∧ k_ ≠ gb664))) (fun _ hk => hk.1.2) (.bool t647)) (fun _ hk => hk.1.2) (.bool t648)) (fun _ hk => hk.1.2) (.int .i64 t649)) (fun _ hk => hk.1.2) (.int .i64 t650)) (fun _ hk => hk.1.2) (.int .i64 t651)) (fun _ hk => hk.1.2) (.slice Ao12 t652.length co12)) (fun _ hk => hk.2) (.bool t655)) (fun _ hk => hk.2) (.bool t656)) (fun _ hk => hk.2) (.int .i64 t657)) (fun _ hk => hk.2) (.int .i64 t658)) (fun _ hk => hk.2) (.int .i64 t659)) (fun _ hk => hk.2) (.slice Ao14 t660.length co14)) (fun _ h_ => h_.1)) (fun _ h_ => h_.1)))); (case side2 => exact (Kd.N_reads' HO654.out).2.1); (case side3 => refine (Kd.N_reads' (e := 41) (base := w.heap.size) (ok := fun k_ => ((some k_ ≠ (.slice Ao12 t652.length co12 : Value).ownBlock ∧ k_ ≠ gb663) ∧ k_ ≠ gb664)) (n := t660.length) (c := co14) ?_).2.2; exact (by (with_reducible repeat (first | apply Kd.N_alloc | apply Kd.N_drewN | apply Kd.N_drew)); exact (Kd.N_mono (Kd.N_mono (Kd.N_far (p := ⟨gb664, 5, none⟩) (Kd.N_far (p := ⟨gb664, 4, none⟩) (Kd.N_far (p := ⟨gb664, 3, none⟩) (Kd.N_far (p := ⟨gb664, 2, none⟩) (Kd.N_far (p := ⟨gb664, 1, none⟩) (Kd.N_far (p := ⟨gb664, 0, none⟩) (Kd.N_far (p := ⟨gb663, 5, none⟩) (Kd.N_far (p := ⟨gb663, 4, none⟩) (Kd.N_far (p := ⟨gb663, 3, none⟩) (Kd.N_far (p := ⟨gb663, 2, none⟩) (Kd.N_far (p := ⟨gb663, 1, none⟩) (Kd.N_far (p := ⟨gb663, 0, none⟩) (Kd.N_mono (Kd.N_mono HO662.out (fun k_ hk => (⟨hk, hk.1.2⟩ : _ ∧ k_ ≠ gb663))) (fun k_ hk => (⟨hk, hk.1.2⟩ : _ ∧ k_ ≠ gb664))) (fun _ hk => hk.1.2) (.bool t647)) (fun _ hk => hk.1.2) (.bool t648)) (fun _ hk => hk.1.2) (.int .i64 t649)) (fun _ hk => hk.1.2) (.int .i64 t650)) (fun _ hk => hk.1.2) (.int .i64 t651)) (fun _ hk => hk.1.2) (.slice Ao12 t652.length co12)) (fun _ hk => hk.2) (.bool t655)) (fun _ hk => hk.2) (.bool t656)) (fun _ hk => hk.2) (.int .i64 t657)) (fun _ hk => hk.2) (.int .i64 t658)) (fun _ hk => hk.2) (.int .i64 t659)) (fun _ hk => hk.2) (.slice Ao14 t660.length co14)) (fun _ h_ => h_.1)) (fun _ h_ => h_.1)))); (case side4 => exact (Kd.N_reads' HO662.out).2.1); rintro e w15 ⟨v671, rfl, ho0, hb⟩; have u_v671 := tsv Tryd.prog v671 ho0; refine ⟨_, rfl, ?_⟩; have HO672 := Aside0.mk (Kd.N_lower (Kd.N_mono (ok' := fun k_ => some k_ ≠ (.slice Ao12 t652.length co12 : Value).ownBlock ∧ some k_ ≠ (.slice Ao14 t660.length co14 : Value).ownBlock ∧ k_ ≠ gb663 ∧ k_ ≠ gb664) ho0 (fun k_ hk_ => ⟨(Kd.fresh' (Kd.N_lt (by (with_reducible repeat (first | apply Kd.N_alloc | apply Kd.N_drewN | apply Kd.N_drew)); exact (Kd.N_mono (Kd.N_mono (Kd.N_far (p := ⟨gb664, 5, none⟩) (Kd.N_far (p := ⟨gb664, 4, none⟩) (Kd.N_far (p := ⟨gb664, 3, none⟩) (Kd.N_far (p := ⟨gb664, 2, none⟩) (Kd.N_far (p := ⟨gb664, 1, none⟩) (Kd.N_far (p := ⟨gb664, 0, none⟩) (Kd.N_far (p := ⟨gb663, 5, none⟩) (Kd.N_far (p := ⟨gb663, 4, none⟩) (Kd.N_far (p := ⟨gb663, 3, none⟩) (Kd.N_far (p := ⟨gb663, 2, none⟩) (Kd.N_far (p := ⟨gb663, 1, none⟩) (Kd.N_far (p := ⟨gb663, 0, none⟩) (Kd.N_mono (Kd.N_mono HO654.out (fun k_ hk => (⟨hk, hk.1.2⟩ : _ ∧ k_ ≠ gb663))) (fun k_ hk => (⟨hk, hk.1.2⟩ : _ ∧ k_ ≠ gb664))) (fun _ hk => hk.1.2) (.bool t647)) (fun _ hk => hk.1.2) (.bool t648)) (fun _ hk => hk.1.2) (.int .i64 t649)) (fun _ hk => hk.1.2) (.int .i64 t650)) (fun _ hk => hk.1.2) (.int .i64 t651)) (fun _ hk => hk.1.2) (.slice Ao12 t652.length co12)) (fun _ hk => hk.2) (.bool t655)) (fun _ hk => hk.2) (.bool t656)) (fun _ hk => hk.2) (.int .i64 t657)) (fun _ hk => hk.2) (.int .i64 t658)) (fun _ hk => hk.2) (.int .i64 t659)) (fun _ hk => hk.2) (.slice Ao14 t660.length co14)) (fun _ h_ => h_.1)) (fun _ h_ => h_.1)))) k_ hk_), (Kd.fresh' (Kd.N_lt (by (with_reducible repeat (first | apply Kd.N_alloc | apply Kd.N_drewN | apply Kd.N_drew)); exact (Kd.N_mono (Kd.N_mono (Kd.N_far (p := ⟨gb664, 5, none⟩) (Kd.N_far (p := ⟨gb664, 4, none⟩) (Kd.N_far (p := ⟨gb664, 3, none⟩) (Kd.N_far (p := ⟨gb664, 2, none⟩) (Kd.N_far (p := ⟨gb664, 1, none⟩) (Kd.N_far (p := ⟨gb664, 0, none⟩) (Kd.N_far (p := ⟨gb663, 5, none⟩) (Kd.N_far (p := ⟨gb663, 4, none⟩) (Kd.N_far (p := ⟨gb663, 3, none⟩) (Kd.N_far (p := ⟨gb663, 2, none⟩) (Kd.N_far (p := ⟨gb663, 1, none⟩) (Kd.N_far (p := ⟨gb663, 0, none⟩) (Kd.N_mono (Kd.N_mono HO662.out (fun k_ hk => (⟨hk, hk.1.2⟩ : _ ∧ k_ ≠ gb663))) (fun k_ hk => (⟨hk, hk.1.2⟩ : _ ∧ k_ ≠ gb664))) (fun _ hk => hk.1.2) (.bool t647)) (fun _ hk => hk.1.2) (.bool t648)) (fun _ hk => hk.1.2) (.int .i64 t649)) (fun _ hk => hk.1.2) (.int .i64 t650)) (fun _ hk => hk.1.2) (.int .i64 t651)) (fun _ hk => hk.1.2) (.slice Ao12 t652.length co12)) (fun _ hk => hk.2) (.bool t655)) (fun _ hk => hk.2) (.bool t656)) (fun _ hk => hk.2) (.int .i64 t657)) (fun _ hk => hk.2) (.int .i64 t658)) (fun _ hk => hk.2) (.int .i64 t659)) (fun _ hk => hk.2) (.slice Ao14 t660.length co14)) (fun _ h_ => h_.1)) (fun _ h_ => h_.1)))) k_ hk_), (tfB BK663 k_ hk_), (tfB BK664 k_ hk_)⟩)) (below_size zb)); replace HO654 := Aside0.mk (Kd.N_elder' (by (with_reducible repeat (first | apply Kd.N_alloc | apply Kd.N_drewN | apply Kd.N_drew)); exact (Kd.N_mono (Kd.N_mono (Kd.N_far (p := ⟨gb664, 5, none⟩) (Kd.N_far (p := ⟨gb664, 4, none⟩) (Kd.N_far (p := ⟨gb664, 3, none⟩) (Kd.N_far (p := ⟨gb664, 2, none⟩) (Kd.N_far (p := ⟨gb664, 1, none⟩) (Kd.N_far (p := ⟨gb664, 0, none⟩) (Kd.N_far (p := ⟨gb663, 5, none⟩) (Kd.N_far (p := ⟨gb663, 4, none⟩) (Kd.N_far (p := ⟨gb663, 3, none⟩) (Kd.N_far (p := ⟨gb663, 2, none⟩) (Kd.N_far (p := ⟨gb663, 1, none⟩) (Kd.N_far (p := ⟨gb663, 0, none⟩) (Kd.N_mono (Kd.N_mono HO654.out (fun k_ hk => (⟨hk, hk.1.2⟩ : _ ∧ k_ ≠ gb663))) (fun k_ hk => (⟨hk, hk.1.2⟩ : _ ∧ k_ ≠ gb664))) (fun _ hk => hk.1.2) (.bool t647)) (fun _ hk => hk.1.2) (.bool t648)) (fun _ hk => hk.1.2) (.int .i64 t649)) (fun _ hk => hk.1.2) (.int .i64 t650)) (fun _ hk => hk.1.2) (.int .i64 t651)) (fun _ hk => hk.1.2) (.slice Ao12 t652.length co12)) (fun _ hk => hk.2) (.bool t655)) (fun _ hk => hk.2) (.bool t656)) (fun _ hk => hk.2) (.int .i64 t657)) (fun _ hk => hk.2) (.int .i64 t658)) (fun _ hk => hk.2) (.int .i64 t659)) (fun _ hk => hk.2) (.slice Ao14 t660.length co14)) (fun _ h_ => h_.1)) (fun _ h_ => h_.1))) (tb ho0) hb); replace HO662 := Aside0.mk (Kd.N_elder' (by (with_reducible repeat (first | apply Kd.N_alloc | apply Kd.N_drewN | apply Kd.N_drew)); exact (Kd.N_mono (Kd.N_mono (Kd.N_far (p := ⟨gb664, 5, none⟩) (Kd.N_far (p := ⟨gb664, 4, none⟩) (Kd.N_far (p := ⟨gb664, 3, none⟩) (Kd.N_far (p := ⟨gb664, 2, none⟩) (Kd.N_far (p := ⟨gb664, 1, none⟩) (Kd.N_far (p := ⟨gb664, 0, none⟩) (Kd.N_far (p := ⟨gb663, 5, none⟩) (Kd.N_far (p := ⟨gb663, 4, none⟩) (Kd.N_far (p := ⟨gb663, 3, none⟩) (Kd.N_far (p := ⟨gb663, 2, none⟩) (Kd.N_far (p := ⟨gb663, 1, none⟩) (Kd.N_far (p := ⟨gb663, 0, none⟩) (Kd.N_mono (Kd.N_mono HO662.out (fun k_ hk => (⟨hk, hk.1.2⟩ : _ ∧ k_ ≠ gb663))) (fun k_ hk => (⟨hk, hk.1.2⟩ : _ ∧ k_ ≠ gb664))) (fun _ hk => hk.1.2) (.bool t647)) (fun _ hk => hk.1.2) (.bool t648)) (fun _ hk => hk.1.2) (.int .i64 t649)) (fun _ hk => hk.1.2) (.int .i64 t650)) (fun _ hk => hk.1.2) (.int .i64 t651)) (fun _ hk => hk.1.2) (.slice Ao12 t652.length co12)) (fun _ hk => hk.2) (.bool t655)) (fun _ hk => hk.2) (.bool t656)) (fun _ hk => hk.2) (.int .i64 t657)) (fun _ hk => hk.2) (.int .i64 t658)) (fun _ hk => hk.2) (.int .i64 t659)) (fun _ hk => hk.2) (.slice Ao14 t660.length co14)) (fun _ h_ => h_.1)) (fun _ h_ => h_.1))) (tb ho0) hb); replace BK663 := tBp (o' := .cells #[.bool t647, .bool t648, .int .i64 t649, .int .i64 t650, .int .i64 t651, .slice Ao12 t652.length co12] 25 (0, 0)) BK663 hb; replace BK664 := tBp (o' := .cells #[.bool t655, .bool t656, .int .i64 t657, .int .i64 t658, .int .i64 t659, .slice Ao14 t660.length co14] 25 (0, 0)) BK664 hb; replace HB := tBs HB hb; (try clear hb); (try clear hb2); (try clear hk); (try clear hi); (try clear ho0)) | ((with_reducible refine gate_dst (N := 5) rfl ?_); refine box_event ?hg (N := 5) ?hd (cs := #[.bool false, .bool false, .int .i64 0, .int .i64 0, .int .i64 0, .slice none 0 0]) (t := 25) ?hr ?_; (case hd => rfl); (case hg => rfl); (case hr => first | (go_simp; done) | (go_simp; rfl)); intro gb674 hg w16 hbox hb; replace HO654 := tNB HO654 hg hb; replace HO662 := tNB HO662 hg hb; replace HO672 := tNB HO672 hg hb; have BK674 := Aside0.mk (hbox); have GW674 := tge HB hg; have GE674 := tge HB hg; replace HB := tBs HB hb; have NB663_674 := tlt BK663 hg; have NB674_663 := tgt BK663 hg; replace BK663 := tBb BK663 hb; have NB664_674 := tlt BK664 hg; have NB674_664 := tgt BK664 hg; replace BK664 := tBb BK664 hb; clear hb hbox hg; have hnb17 := NB674_663.out; have hnc17 := NB663_674.out; have hnb18 := NB674_664.out; have hnc18 := NB664_674.out; obtain ⟨hcz19_0, hcz19_1, hcz19_2, hcz19_3, hcz19_4, hcz19_5, hfz19_0, hfz19_1, hfz19_2, hfz19_3, hfz19_4, hfz19_5⟩ := cells6 BK674.out; obtain ⟨Ao20, co20, eo20⟩ := Kd.N_slice HO672.out; subst eo20) | ((with_reducible refine gate_store (t := 25) (p := 5) rfl ?_); refine store_event (t := 25) (p := 5) (v := ?vo_w21) (w1 := ((((((w16.setCell ⟨gb674, 0, none⟩ (.bool t665)).setCell ⟨gb674, 1, none⟩ (.bool t666)).setCell ⟨gb674, 2, none⟩ (.int .i64 t667)).setCell ⟨gb674, 3, none⟩ (.int .i64 t668)).setCell ⟨gb674, 4, none⟩ (.int .i64 t669)).setCell ⟨gb674, 5, none⟩ (.slice Ao20 t670.length co20))) ?hg ?ho ?hn ?hr ?_; (case ho => rfl); (case hg => rfl); (case hn => rfl); (case hr => first | (go_simp; done) | (go_simp; rfl)); intro w21 hw; have n0_ : Aside0 (Kd.N k41 41 w21 w.heap.size (fun k_ => some k_ ≠ (.slice Ao14 t660.length co14 : Value).ownBlock ∧ some k_ ≠ (.slice Ao20 t670.length co20 : Value).ownBlock ∧ k_ ≠ gb663 ∧ k_ ≠ gb664 ∧ k_ ≠ gb674) (.slice Ao12 t652.length co12) t652) := ⟨(by rw [hw]; exact (tNm HO654.out))⟩; have n1_ : Aside0 (Kd.N k41 41 w21 w.heap.size (fun k_ => some k_ ≠ (.slice Ao12 t652.length co12 : Value).ownBlock ∧ some k_ ≠ (.slice Ao20 t670.length co20 : Value).ownBlock ∧ k_ ≠ gb663 ∧ k_ ≠ gb664 ∧ k_ ≠ gb674) (.slice Ao14 t660.length co14) t660) := ⟨(by rw [hw]; exact (tNm HO662.out))⟩; have n2_ : Aside0 (Kd.N k41 41 w21 w.heap.size (fun k_ => some k_ ≠ (.slice Ao12 t652.length co12 : Value).ownBlock ∧ some k_ ≠ (.slice Ao14 t660.length co14 : Value).ownBlock ∧ k_ ≠ gb663 ∧ k_ ≠ gb664 ∧ k_ ≠ gb674) (.slice Ao20 t670.length co20) t670) := ⟨(by rw [hw]; exact (tNm HO672.out))⟩; have n3_ : Aside0 (w21.heap[gb663]? = some (.cells #[.bool t647, .bool t648, .int .i64 t649, .int .i64 t650, .int .i64 t651, .slice Ao12 t652.length co12] 25 (0, 0))) := ⟨(by rw [hw]; exact (tH BK663.out))⟩; have n4_ : Aside0 (w21.heap[gb664]? = some (.cells #[.bool t655, .bool t656, .int .i64 t657, .int .i64 t658, .int .i64 t659, .slice Ao14 t660.length co14] 25 (0, 0))) := ⟨(by rw [hw]; exact (tH BK664.out))⟩; have n5_ : Aside0 (w21.heap[gb674]? = some (.cells #[.bool t665, .bool t666, .int .i64 t667, .int .i64 t668, .int .i64 t669, .slice Ao20 t670.length co20] 25 (0, 0))) := ⟨(by rw [hw]; exact (tP BK674.out))⟩; have n6_ : Aside0 (Below w.heap.size w w21) := ⟨(by rw [hw]; exact zb)⟩; clear hw; clear HO654; clear HO662; clear HO672; clear BK663; clear BK664; clear BK674; clear HB; have HO654 := n0_; have HO662 := n1_; have HO672 := n2_; have BK663 := n3_; have BK664 := n4_; have BK674 := n5_; have HB := n6_; clear n0_ n1_ n2_ n3_ n4_ n5_ n6_; obtain ⟨hcz22_0, hcz22_1, hcz22_2, hcz22_3, hcz22_4, hcz22_5, hfz22_0, hfz22_1, hfz22_2, hfz22_3, hfz22_4, hfz22_5⟩ := cells6 BK663.out; obtain ⟨hcz23_0, hcz23_1, hcz23_2, hcz23_3, hcz23_4, hcz23_5, hfz23_0, hfz23_1, hfz23_2, hfz23_3, hfz23_4, hfz23_5⟩ := cells6 BK664.out) | ((with_reducible refine gate_callee (f := 16) rfl ?_); refine goesL_ (some 29) rfl rfl Tryd.func16 (by kernel_rfl) rfl #[.agg #[.bool t647, .bool t648, .int .i64 t649, .int .i64 t650, .int .i64 t651, .slice Ao12 t652.length co12], .agg #[.bool t655, .bool t656, .int .i64 t657, .int .i64 t658, .int .i64 t659, .slice Ao14 t660.length co14]] rfl tq ?_; (with_reducible refine (spec_BatchJoin.calls k t647 t648 t649 t650 t651 (fun k_ => (some k_ ≠ (.slice Ao14 t660.length co14 : Value).ownBlock ∧ (some k_ ≠ (.slice Ao20 t670.length co20 : Value).ownBlock ∧ (k_ ≠ gb663 ∧ (k_ ≠ gb664 ∧ k_ ≠ gb674))))) _ _ t652 t655 t656 t657 t658 t659 (fun k_ => (some k_ ≠ (.slice Ao12 t652.length co12 : Value).ownBlock ∧ (some k_ ≠ (.slice Ao20 t670.length co20 : Value).ownBlock ∧ (k_ ≠ gb663 ∧ (k_ ≠ gb664 ∧ k_ ≠ gb674))))) _ _ t660 t675 t676 t677 t678 t679 t680 t683 _ ?side1 ?side2 A5.out).mono ?_); (case side1 => exact Kd.N_V (HO654.out)); (case side2 => exact Kd.N_V (HO662.out)); rintro e w24 ⟨v681, rfl, ho0, hb⟩; have u_v681 := tsv Tryd.prog v681 ho0; refine ⟨_, rfl, ?_⟩; replace HO654 := tNe HO654 ho0 hb; replace HO662 := tNe HO662 ho0 hb; have HO682 := Aside0.mk (Kd.N_lower (Kd.N_mono (ok' := fun k_ => some k_ ≠ (.slice Ao20 t670.length co20 : Value).ownBlock ∧ k_ ≠ gb663 ∧ k_ ≠ gb664 ∧ k_ ≠ gb674) ho0 (fun k_ hk_ => ⟨Or.elim hk_ (fun hs_ => Or.elim hs_ (fun hs_ => hs_.2.1) (fun hs_ => hs_.2.1)) (fun hn_ => (tfr HO672 k_ hn_)), Or.elim hk_ (fun hs_ => Or.elim hs_ (fun hs_ => hs_.2.2.1) (fun hs_ => hs_.2.2.1)) (fun hn_ => (tfB BK663 k_ hn_)), Or.elim hk_ (fun hs_ => Or.elim hs_ (fun hs_ => hs_.2.2.2.1) (fun hs_ => hs_.2.2.2.1)) (fun hn_ => (tfB BK664 k_ hn_)), Or.elim hk_ (fun hs_ => Or.elim hs_ (fun hs_ => hs_.2.2.2.2) (fun hs_ => hs_.2.2.2.2)) (fun hn_ => (tfB BK674 k_ hn_))⟩)) (below_size zb)); replace HO672 := tNe HO672 ho0 hb; replace BK663 := tBb BK663 hb; replace BK664 := tBb BK664 hb; replace BK674 := tBb BK674 hb; replace HB := tBs HB hb; (try clear hb); (try clear hb2); (try clear hk); (try clear hi); (try clear ho0)) | ((with_reducible refine gate_dst (N := 7) rfl ?_); refine box_event ?hg (N := 7) ?hd (cs := #[.bool false, .bool false, .int .i64 0, .int .i64 0, .int .i64 0, .slice none 0 0]) (t := 25) ?hr ?_; (case hd => rfl); (case hg => rfl); (case hr => first | (go_simp; done) | (go_simp; rfl)); intro gb684 hg w25 hbox hb; replace HO654 := tNB HO654 hg hb; replace HO662 := tNB HO662 hg hb; replace HO672 := tNB HO672 hg hb; replace HO682 := tNB HO682 hg hb; have BK684 := Aside0.mk (hbox); have GW684 := tge HB hg; have GE684 := tge HB hg; replace HB := tBs HB hb; have NB663_684 := tlt BK663 hg; have NB684_663 := tgt BK663 hg; replace BK663 := tBb BK663 hb; have NB664_684 := tlt BK664 hg; have NB684_664 := tgt BK664 hg; replace BK664 := tBb BK664 hb; have NB674_684 := tlt BK674 hg; have NB684_674 := tgt BK674 hg; replace BK674 := tBb BK674 hb; clear hb hbox hg; have hnb26 := NB684_663.out; have hnc26 := NB663_684.out; have hnb27 := NB684_664.out; have hnc27 := NB664_684.out; have hnb28 := NB684_674.out; have hnc28 := NB674_684.out; obtain ⟨hcz29_0, hcz29_1, hcz29_2, hcz29_3, hcz29_4, hcz29_5, hfz29_0, hfz29_1, hfz29_2, hfz29_3, hfz29_4, hfz29_5⟩ := cells6 BK684.out; obtain ⟨Ao30, co30, eo30⟩ := Kd.N_slice HO682.out; subst eo30))
  (try simp only [Act.put, List.setIfInBounds_toArray, List.set_cons_zero, List.set_cons_succ])
  go_cut [44] (fun v44 wc => ∃ (kq : Nat) (x44_5 : Bool), v44 = .bool x44_5 ∧ Aside0 (laws_FnJoinCut.j0 kq t673 t683 x44_5 t647 t648 t649 t650 t651 t652 t655 t656 t657 t658 t659 t660 t665 t666 t667 t668 t669 t670 t675 t676 t677 t678 t679 t680 = some r) ∧ Aside0 (kq ≤ k) ∧ Aside0 (Kd.N k41 41 wc w.heap.size (fun k_ => some k_ ≠ ((.slice Ao14 t660.length co14) : Value).ownBlock ∧ some k_ ≠ ((.slice Ao20 t670.length co20) : Value).ownBlock ∧ some k_ ≠ ((.slice Ao30 t680.length co30) : Value).ownBlock ∧ k_ ≠ gb663 ∧ k_ ≠ gb664 ∧ k_ ≠ gb674 ∧ k_ ≠ gb684) (.slice Ao12 t652.length co12) t652) ∧ Aside0 (Kd.N k41 41 wc w.heap.size (fun k_ => some k_ ≠ ((.slice Ao12 t652.length co12) : Value).ownBlock ∧ some k_ ≠ ((.slice Ao20 t670.length co20) : Value).ownBlock ∧ some k_ ≠ ((.slice Ao30 t680.length co30) : Value).ownBlock ∧ k_ ≠ gb663 ∧ k_ ≠ gb664 ∧ k_ ≠ gb674 ∧ k_ ≠ gb684) (.slice Ao14 t660.length co14) t660) ∧ Aside0 (Kd.N k41 41 wc w.heap.size (fun k_ => some k_ ≠ ((.slice Ao12 t652.length co12) : Value).ownBlock ∧ some k_ ≠ ((.slice Ao14 t660.length co14) : Value).ownBlock ∧ some k_ ≠ ((.slice Ao30 t680.length co30) : Value).ownBlock ∧ k_ ≠ gb663 ∧ k_ ≠ gb664 ∧ k_ ≠ gb674 ∧ k_ ≠ gb684) (.slice Ao20 t670.length co20) t670) ∧ Aside0 (Kd.N k41 41 wc w.heap.size (fun k_ => some k_ ≠ ((.slice Ao20 t670.length co20) : Value).ownBlock ∧ k_ ≠ gb663 ∧ k_ ≠ gb664 ∧ k_ ≠ gb674 ∧ k_ ≠ gb684) (.slice Ao30 t680.length co30) t680) ∧ Aside0 (wc.heap[gb663]? = some (.cells #[.bool t647, .bool t648, .int .i64 t649, .int .i64 t650, .int .i64 t651, (.slice Ao12 t652.length co12)] 25 (0, 0))) ∧ Aside0 (wc.heap[gb664]? = some (.cells #[.bool t655, .bool t656, .int .i64 t657, .int .i64 t658, .int .i64 t659, (.slice Ao14 t660.length co14)] 25 (0, 0))) ∧ Aside0 (wc.heap[gb674]? = some (.cells #[.bool t665, .bool t666, .int .i64 t667, .int .i64 t668, .int .i64 t669, (.slice Ao20 t670.length co20)] 25 (0, 0))) ∧ Aside0 (wc.heap[gb684]? = some (.cells #[.bool t675, .bool t676, .int .i64 t677, .int .i64 t678, .int .i64 t679, (.slice Ao30 t680.length co30)] 25 (0, 0))) ∧ Aside0 (Below w.heap.size w wc))
  case first =>
   have H := HC6.out
   clear HC6
   by_cases c31 : (t673 != t683) = true
   ·rw [if_pos c31] at H
    have c31b0 : (t673 != t683) = true := c31
    (try (have c31b1 : decide (t673 = t683) = false := by simpa using c31))
    (try (have c31b2 : (t673 == t683) = false := by simpa using c31))
    (try (have c31b3 : ¬ (t673 = t683) := by simpa using c31))
    clear c31
    (first | rw [c31b0] | (simp only [i64_w, i32_w]; rw [c31b0]) | skip)
    have H' := Aside0.mk H
    clear H
    go_wp2
    go_meet
    case rel => exact ⟨_, (true), tr, H', ⟨by first | omega | exact Nat.le_refl _⟩, ⟨tNm HO654.out⟩, ⟨tNm HO662.out⟩, ⟨tNm HO672.out⟩, ⟨tNm HO682.out⟩, ⟨tH BK663.out⟩, ⟨tH BK664.out⟩, ⟨tH BK674.out⟩, ⟨tP BK684.out⟩, ⟨zb⟩⟩
   ·rw [if_neg c31] at H
    have c31b0 : (t673 != t683) = false := by simpa using c31
    (try (have c31b1 : decide (t673 = t683) = true := by simpa using c31))
    (try (have c31b2 : (t673 == t683) = true := by simpa using c31))
    clear c31
    (first | rw [c31b0] | (simp only [i64_w, i32_w]; rw [c31b0]) | skip)
    replace H := tbe H
    obtain ⟨t685, A32, H⟩ := H
    by_cases c33 : t685 = true
    ·subst c33
     rw [if_pos rfl] at H
     have H' := Aside0.mk H
     clear H
     have hnb34 := NB674_663.out
     have hnc34 := NB663_674.out
     have hnb35 := NB674_664.out
     have hnc35 := NB664_674.out
     have hnb36 := NB674_684.out
     have hnc36 := NB684_674.out
     obtain ⟨hcz37_0, hcz37_1, hcz37_2, hcz37_3, hcz37_4, hcz37_5, hfz37_0, hfz37_1, hfz37_2, hfz37_3, hfz37_4, hfz37_5⟩ := cells6 BK674.out
     have hnb38 := NB684_663.out
     have hnc38 := NB663_684.out
     have hnb39 := NB684_664.out
     have hnc39 := NB664_684.out
     obtain ⟨hcz40_0, hcz40_1, hcz40_2, hcz40_3, hcz40_4, hcz40_5, hfz40_0, hfz40_1, hfz40_2, hfz40_3, hfz40_4, hfz40_5⟩ := cells6 BK684.out
     go_wp2_with (first | (go_at_call 11; (with_reducible refine (laws_sameBatch.calls k t665 t666 t667 t668 t669 _ _ t670 t675 t676 t677 t678 t679 _ _ t680 true _ ?side1 ?side2 ?side3 ?side4 A32.out).mono ?_); (case side1 => exact (Kd.N_reads' (tN HO672.out)).2.2); (case side2 => exact (Kd.N_reads' HO672.out).2.1); (case side3 => exact (Kd.N_reads' (tN HO682.out)).2.2); (case side4 => exact (Kd.N_reads' HO682.out).2.1); rintro e w41 ⟨rfl, hb⟩; replace HO654 := tNb HO654 hb; replace HO662 := tNb HO662 hb; replace HO672 := tNb HO672 hb; replace HO682 := tNb HO682 hb; replace BK663 := tBb BK663 hb; replace BK664 := tBb BK664 hb; replace BK674 := tBb BK674 hb; replace BK684 := tBp (o' := .cells #[.bool t675, .bool t676, .int .i64 t677, .int .i64 t678, .int .i64 t679, .slice Ao30 t680.length co30] 25 (0, 0)) BK684 hb; replace HB := tBs HB hb; (try clear hb); (try clear hb2); (try clear hk); (try clear hi)))
     go_meet
     case rel => exact ⟨_, (!t673), tr, H', ⟨by first | omega | exact Nat.le_refl _⟩, ⟨tNm HO654.out⟩, ⟨tNm HO662.out⟩, ⟨tNm HO672.out⟩, ⟨tNm HO682.out⟩, ⟨tH BK663.out⟩, ⟨tH BK664.out⟩, ⟨tH BK674.out⟩, ⟨tH BK684.out⟩, ⟨zb⟩⟩
    ·replace c33 := Bool.eq_false_iff.mpr c33
     subst c33
     rw [if_neg (show ¬ (false = true) by decide)] at H
     have H' := Aside0.mk H
     clear H
     have hnb42 := NB674_663.out
     have hnc42 := NB663_674.out
     have hnb43 := NB674_664.out
     have hnc43 := NB664_674.out
     have hnb44 := NB674_684.out
     have hnc44 := NB684_674.out
     obtain ⟨hcz45_0, hcz45_1, hcz45_2, hcz45_3, hcz45_4, hcz45_5, hfz45_0, hfz45_1, hfz45_2, hfz45_3, hfz45_4, hfz45_5⟩ := cells6 BK674.out
     have hnb46 := NB684_663.out
     have hnc46 := NB663_684.out
     have hnb47 := NB684_664.out
     have hnc47 := NB664_684.out
     obtain ⟨hcz48_0, hcz48_1, hcz48_2, hcz48_3, hcz48_4, hcz48_5, hfz48_0, hfz48_1, hfz48_2, hfz48_3, hfz48_4, hfz48_5⟩ := cells6 BK684.out
     go_wp2_with (first | (go_at_call 11; (with_reducible refine (laws_sameBatch.calls k t665 t666 t667 t668 t669 _ _ t670 t675 t676 t677 t678 t679 _ _ t680 false _ ?side1 ?side2 ?side3 ?side4 A32.out).mono ?_); (case side1 => exact (Kd.N_reads' (tN HO672.out)).2.2); (case side2 => exact (Kd.N_reads' HO672.out).2.1); (case side3 => exact (Kd.N_reads' (tN HO682.out)).2.2); (case side4 => exact (Kd.N_reads' HO682.out).2.1); rintro e w49 ⟨rfl, hb⟩; replace HO654 := tNb HO654 hb; replace HO662 := tNb HO662 hb; replace HO672 := tNb HO672 hb; replace HO682 := tNb HO682 hb; replace BK663 := tBb BK663 hb; replace BK664 := tBb BK664 hb; replace BK674 := tBb BK674 hb; replace BK684 := tBp (o' := .cells #[.bool t675, .bool t676, .int .i64 t677, .int .i64 t678, .int .i64 t679, .slice Ao30 t680.length co30] 25 (0, 0)) BK684 hb; replace HB := tBs HB hb; (try clear hb); (try clear hb2); (try clear hk); (try clear hi)))
     go_meet
     case rel => exact ⟨_, (true), tr, H', ⟨by first | omega | exact Nat.le_refl _⟩, ⟨tNm HO654.out⟩, ⟨tNm HO662.out⟩, ⟨tNm HO672.out⟩, ⟨tNm HO682.out⟩, ⟨tH BK663.out⟩, ⟨tH BK664.out⟩, ⟨tH BK674.out⟩, ⟨tH BK684.out⟩, ⟨zb⟩⟩
  case rest =>
   clear HC6
   try clear c2; try clear c2b0; try clear c2b1; try clear hcz11_0; try clear hcz11_1; try clear hcz11_2; try clear hcz11_3; try clear hcz11_4; try clear hcz11_5; try clear hcz13_0; try clear hcz13_1; try clear hcz13_2; try clear hcz13_3; try clear hcz13_4; try clear hcz13_5; try clear hcz19_0; try clear hcz19_1; try clear hcz19_2; try clear hcz19_3; try clear hcz19_4; try clear hcz19_5; try clear hcz22_0; try clear hcz22_1; try clear hcz22_2; try clear hcz22_3; try clear hcz22_4; try clear hcz22_5; try clear hcz23_0; try clear hcz23_1; try clear hcz23_2; try clear hcz23_3; try clear hcz23_4; try clear hcz23_5; try clear hcz29_0; try clear hcz29_1; try clear hcz29_2; try clear hcz29_3; try clear hcz29_4; try clear hcz29_5; try clear hfz11_0; try clear hfz11_1; try clear hfz11_2; try clear hfz11_3; try clear hfz11_4; try clear hfz11_5; try clear hfz13_0; try clear hfz13_1; try clear hfz13_2; try clear hfz13_3; try clear hfz13_4; try clear hfz13_5; try clear hfz19_0; try clear hfz19_1; try clear hfz19_2; try clear hfz19_3; try clear hfz19_4; try clear hfz19_5; try clear hfz22_0; try clear hfz22_1; try clear hfz22_2; try clear hfz22_3; try clear hfz22_4; try clear hfz22_5; try clear hfz23_0; try clear hfz23_1; try clear hfz23_2; try clear hfz23_3; try clear hfz23_4; try clear hfz23_5; try clear hfz29_0; try clear hfz29_1; try clear hfz29_2; try clear hfz29_3; try clear hfz29_4; try clear hfz29_5
   obtain ⟨kq, x44_5, rfl, HA, HJ5, HO_664005, HO_665005, HO_675005, HO_685005, BK663, BK664, BK674, BK684, HB⟩ := hcut
   cases kq with
   | zero => exact absurd HA.out (by simp [laws_FnJoinCut.j0])
   | succ kj5 =>
    have H := HA.out
    clear HA
    simp only [laws_FnJoinCut.j0] at H
    by_cases c50 : x44_5 = true
    ·subst c50
     rw [if_pos rfl] at H
     by_cases c51 : (t673 == t683) = true
     ·rw [if_pos c51] at H
      have c51b0 : (t673 == t683) = true := c51
      (try (have c51b1 : decide (t673 = t683) = true := by simpa using c51))
      (try (have c51b2 : (t673 == t683) = true := by simpa using c51))
      clear c51
      replace H := tbe H
      obtain ⟨t686, A52, H⟩ := H
      obtain rfl := Option.some.inj H
      have hnb53 := NB674_663.out
      have hnc53 := NB663_674.out
      have hnb54 := NB674_664.out
      have hnc54 := NB664_674.out
      have hnb55 := NB674_684.out
      have hnc55 := NB684_674.out
      obtain ⟨hcz56_0, hcz56_1, hcz56_2, hcz56_3, hcz56_4, hcz56_5, hfz56_0, hfz56_1, hfz56_2, hfz56_3, hfz56_4, hfz56_5⟩ := cells6 BK674.out
      have hnb57 := NB684_663.out
      have hnc57 := NB663_684.out
      have hnb58 := NB684_664.out
      have hnc58 := NB664_684.out
      obtain ⟨hcz59_0, hcz59_1, hcz59_2, hcz59_3, hcz59_4, hcz59_5, hfz59_0, hfz59_1, hfz59_2, hfz59_3, hfz59_4, hfz59_5⟩ := cells6 BK684.out
      go_wp2_with (first | (go_at_call 11; (with_reducible refine (laws_sameBatch.calls kj5 t665 t666 t667 t668 t669 _ _ t670 t675 t676 t677 t678 t679 _ _ t680 t686 _ ?side1 ?side2 ?side3 ?side4 A52.out).mono ?_); (case side1 => repeat (first | exact (Kd.N_reads' HO_675005.out).2.2 | (with_reducible refine Kd.C_alloc ?_ _) | (with_reducible refine Kd.C_drewN ?_ _) | (with_reducible refine Kd.C_drew ?_))); (case side2 => exact (Kd.N_reads' HO_675005.out).2.1); (case side3 => repeat (first | exact (Kd.N_reads' HO_685005.out).2.2 | (with_reducible refine Kd.C_alloc ?_ _) | (with_reducible refine Kd.C_drewN ?_ _) | (with_reducible refine Kd.C_drew ?_))); (case side4 => exact (Kd.N_reads' HO_685005.out).2.1); rintro e w60 ⟨rfl, hb⟩; replace HO_664005 := tNb HO_664005 hb; replace HO_665005 := tNb HO_665005 hb; replace HO_675005 := tNb HO_675005 hb; replace HO_685005 := tNb HO_685005 hb; replace BK663 := tBb BK663 hb; replace BK664 := tBb BK664 hb; replace BK674 := tBb BK674 hb; replace BK684 := tBb BK684 hb; replace HB := tBs HB hb; (try clear hb); (try clear hb2); (try clear hk); (try clear hi)))
      all_goals go_ret
      all_goals exact ⟨by first | rfl | (simp [errW_none, errW_some] <;> rfl) | (simp [*, errW_none, errW_some] <;> rfl), zb⟩
     ·rw [if_neg c51] at H
      have c51b0 : (t673 == t683) = false := by simpa using c51
      (try (have c51b1 : decide (t673 = t683) = false := by simpa using c51))
      (try (have c51b2 : (t673 == t683) = false := by simpa using c51))
      (try (have c51b3 : ¬ (t673 = t683) := by simpa using c51))
      clear c51
      obtain rfl := Option.some.inj H
      go_wp2
      all_goals go_ret
      all_goals exact ⟨by first | rfl | (simp [errW_none, errW_some] <;> rfl) | (simp [*, errW_none, errW_some] <;> rfl), zb⟩
    ·replace c50 := Bool.eq_false_iff.mpr c50
     subst c50
     rw [if_neg (show ¬ (false = true) by decide)] at H
     by_cases c61 : 0 < (t660.length : Int)
     ·rw [if_pos c61] at H
      have c61b0 : decide (0 < (t660.length : Int)) = true := decide_eq_true c61
      have c61b1 : decide (0 < t660.length) = true := decide_eq_true (by omega)
      clear c61
      replace H := tbe H
      obtain ⟨⟨t688, t689, t690, t691, t692, t693, t696, t697, t698, t699, t700, t701, t704⟩, A62, H⟩ := H
      dsimp only at H
      try go_wp2
      replace HO_664005 := Aside0.mk (Kd.N_drew HO_664005.out)
      replace HO_665005 := Aside0.mk (Kd.N_drew HO_665005.out)
      replace HO_675005 := Aside0.mk (Kd.N_drew HO_675005.out)
      replace HO_685005 := Aside0.mk (Kd.N_drew HO_685005.out)
      replace BK663 := Aside0.mk (blk_drew BK663.out)
      replace BK664 := Aside0.mk (blk_drew BK664.out)
      replace BK674 := Aside0.mk (blk_drew BK674.out)
      replace BK684 := Aside0.mk (blk_drew BK684.out)
      replace HB := Aside0.mk (below_drew1 HB.out)
      have p687 : 0 ≤ (0 : Int) := (by omega)
      have q687 : 0 < (t660.length : Int) := td
      obtain ⟨ad687, A687_3, c687_3, A687_5, c687_5, e687, hx687_0, hx687_1, hx687_2, hx687_3, hx687_4, hx687_5, hl687_3, hi687_3, hl687_5, hi687_5⟩ := at_T41 (Kd.N_reads' HO_665005.out).2.2 0 p687 q687
      cases e687
      obtain ⟨ce687, hce687, hMe687, hcc687⟩ := Kd.N_get HO_665005.out z41 0 p687 (by first | exact q687 | exact td | (have e_ := (Kd.N_reads' HO_665005.out).1; omega))
      obtain ⟨ua687_3, uc687_3, ua687_5, uc687_5, rfl, ul687_3, ge687_3, ul687_5, ge687_5⟩ := k41_openF hMe687
      have hv687_3 := hcc687 3 _ rfl
      rw [add_field _ _ 3 (by omega)] at hv687_3
      replace hv687_3 := Option.some.inj (hv687_3.symm.trans hx687_3)
      injection hv687_3 with hva_ hvn_ hvc_
      rw [hva_] at ge687_3
      rw [hvc_] at ul687_3
      have HL687_3 := Aside0.mk (show Kd.V (Kd.int .i64) 3 _ w.heap.size _ _ ((rd_T41 t660 0).f3) from Kd.V_mk ul687_3 ge687_3)
      clear hva_ hvn_ hvc_ ge687_3 ul687_3
      have hv687_5 := hcc687 5 _ rfl
      rw [add_field _ _ 5 (by omega)] at hv687_5
      replace hv687_5 := Option.some.inj (hv687_5.symm.trans hx687_5)
      injection hv687_5 with hva_ hvn_ hvc_
      rw [hva_] at ge687_5
      rw [hvc_] at ul687_5
      have HL687_5 := Aside0.mk (show Kd.V (Kd.int .i64) 3 _ w.heap.size _ _ ((rd_T41 t660 0).f5) from Kd.V_mk ul687_5 ge687_5)
      clear hva_ hvn_ hvc_ ge687_5 ul687_5
      clear hcc687 hce687
      have qi687 : (0 < t660.length) = True := eq_true (by omega)
      (try rw [show ((0 : Int)).toNat = 0 from rfl] at hx687_0)
      (try rw [show 0 * 6 = 0 from rfl] at hx687_0)
      (try rw [Addr.add_zero'] at hx687_0)
      (try rw [show ((0 : Int)).toNat = 0 from rfl] at hx687_1)
      (try rw [show 0 * 6 = 0 from rfl] at hx687_1)
      (try rw [Addr.add_zero'] at hx687_1)
      (try rw [show ((0 : Int)).toNat = 0 from rfl] at hx687_2)
      (try rw [show 0 * 6 = 0 from rfl] at hx687_2)
      (try rw [Addr.add_zero'] at hx687_2)
      (try rw [show ((0 : Int)).toNat = 0 from rfl] at hx687_3)
      (try rw [show 0 * 6 = 0 from rfl] at hx687_3)
      (try rw [Addr.add_zero'] at hx687_3)
      (try rw [show ((0 : Int)).toNat = 0 from rfl] at hx687_4)
      (try rw [show 0 * 6 = 0 from rfl] at hx687_4)
      (try rw [Addr.add_zero'] at hx687_4)
      (try rw [show ((0 : Int)).toNat = 0 from rfl] at hx687_5)
      (try rw [show 0 * 6 = 0 from rfl] at hx687_5)
      (try rw [Addr.add_zero'] at hx687_5)
      have HR687_3 := Aside0.mk hi687_3
      have HC687_3 := Aside0.mk hl687_3
      clear hi687_3 hl687_3
      have HR687_5 := Aside0.mk hi687_5
      have HC687_5 := Aside0.mk hl687_5
      clear hi687_5 hl687_5
      replace p687 := eq_true p687
      replace q687 := eq_true q687
      refine start_ (n := 16) (S := fun w' => w'.cell? ⟨gb674, 0, none⟩ = some (.bool t665) ∧ w'.cell? ⟨gb674, 1, none⟩ = some (.bool t666) ∧ w'.cell? ⟨gb674, 2, none⟩ = some (.int .i64 t667) ∧ w'.cell? ⟨gb674, 3, none⟩ = some (.int .i64 t668) ∧ w'.cell? ⟨gb674, 4, none⟩ = some (.int .i64 t669) ∧ w'.cell? ⟨gb674, 5, none⟩ = some (.slice Ao20 t670.length co20) ∧ w'.cell? ⟨gb664, 0, none⟩ = some (.bool t655) ∧ w'.cell? ⟨gb664, 1, none⟩ = some (.bool t656) ∧ w'.cell? ⟨gb664, 2, none⟩ = some (.int .i64 t657) ∧ w'.cell? ⟨gb664, 3, none⟩ = some (.int .i64 t658) ∧ w'.cell? ⟨gb664, 4, none⟩ = some (.int .i64 t659) ∧ w'.cell? ⟨gb664, 5, none⟩ = some (.slice (some ad687) t660.length co14) ∧ w'.cell? ad687 = some (.int .i64 ((rd_T41 t660 0).f0)) ∧ w'.cell? ⟨ad687.block, ad687.off + 1, none⟩ = some (.int .i64 ((rd_T41 t660 0).f1)) ∧ w'.cell? ⟨ad687.block, ad687.off + 2, none⟩ = some (.bool ((rd_T41 t660 0).f2)) ∧ w'.cell? ⟨ad687.block, ad687.off + 3, none⟩ = some (.slice A687_3 ((rd_T41 t660 0).f3).length c687_3) ∧ w'.cell? ⟨ad687.block, ad687.off + 4, none⟩ = some (.bool ((rd_T41 t660 0).f4)) ∧ w'.cell? ⟨ad687.block, ad687.off + 5, none⟩ = some (.slice A687_5 ((rd_T41 t660 0).f5).length c687_5)) (ds := []) #[false, false, false, false, false, false, false, false, false, false, false, false, false, false, false, false] (by kernel_rfl) rfl rfl ⟨(blk_cell BK674.out 0).trans rfl, (blk_cell BK674.out 1).trans rfl, (blk_cell BK674.out 2).trans rfl, (blk_cell BK674.out 3).trans rfl, (blk_cell BK674.out 4).trans rfl, (blk_cell BK674.out 5).trans rfl, (blk_cell BK664.out 0).trans rfl, (blk_cell BK664.out 1).trans rfl, (blk_cell BK664.out 2).trans rfl, (blk_cell BK664.out 3).trans rfl, (blk_cell BK664.out 4).trans rfl, (blk_cell BK664.out 5).trans rfl, hx687_0, hx687_1, hx687_2, hx687_3, hx687_4, hx687_5⟩ (fun hHeld => ?_); refine with_tabW laws_FnJoinCut.tab8 laws_FnJoinCut.bits8 (fun HT_ HW_ => ?_)
      generalize wc.drew = w67 at HO_664005 HO_665005 HO_675005 HO_685005 BK663 BK664 BK674 BK684 HB HL687_3 HL687_5 HR687_3 HR687_5 hx687_0 hx687_1 hx687_2 hx687_3 hx687_4 hx687_5 hHeld ⊢
      refine tpu 1 (some 55) #[false, true, false, false, false, false, false, false, false, false, false, false, false, false, false, false] ?_
      refine tta 0 (some 54) #[true, true, false, false, false, false, false, false, false, false, false, false, false, false, false, false] hHeld ?_ (hy := by rintro w' ⟨s0, s1, s2, s3, s4, s5, s6, s7, s8, s9, s10, s11, s12, s13, s14, s15, s16, s17⟩; go_simp; with_reducible rfl)
      refine tta 2 (some 56) #[true, true, true, false, false, false, false, false, false, false, false, false, false, false, false, false] hHeld ?_ (hy := by rintro w' ⟨s0, s1, s2, s3, s4, s5, s6, s7, s8, s9, s10, s11, s12, s13, s14, s15, s16, s17⟩; go_simp; with_reducible rfl)
      refine tpu 3 (some 57) #[true, true, true, true, false, false, false, false, false, false, false, false, false, false, false, false] ?_
      refine tpu 4 (some 58) #[true, true, true, true, true, false, false, false, false, false, false, false, false, false, false, false] ?_
      refine tta 5 (some 59) #[true, true, true, true, true, true, false, false, false, false, false, false, false, false, false, false] hHeld ?_ (hy := by rintro w' ⟨s0, s1, s2, s3, s4, s5, s6, s7, s8, s9, s10, s11, s12, s13, s14, s15, s16, s17⟩; go_simp; with_reducible rfl)
      refine join_ (σ := Value × Value × Nat × Nat) 3 #[true, true, true, true, true, true, true, true, true, true, true, true, true, false, false, false] (fun s_ => [(60, .tuple #[.agg #[.bool t688, .bool t689, .int .i64 t690, .int .i64 t691, .int .i64 t692, s_.1], .agg #[.bool t696, .bool t697, .int .i64 t698, .int .i64 t699, .int .i64 t700, s_.2.1], .bool t704]), (9, .pointer (some ⟨s_.2.2.1, 0, none⟩)), (10, .pointer (some ⟨s_.2.2.2, 0, none⟩)), (53, .tuple #[.agg #[.bool t688, .bool t689, .int .i64 t690, .int .i64 t691, .int .i64 t692, s_.1], .agg #[.bool t696, .bool t697, .int .i64 t698, .int .i64 t699, .int .i64 t700, s_.2.1], .bool t704]), (61, .agg #[.bool t688, .bool t689, .int .i64 t690, .int .i64 t691, .int .i64 t692, s_.1]), (62, .agg #[.bool t696, .bool t697, .int .i64 t698, .int .i64 t699, .int .i64 t700, s_.2.1]), (63, .bool t704)]) (fun s_ w' => (w'.cell? ⟨gb674, 0, none⟩ = some (.bool t665) ∧ w'.cell? ⟨gb674, 1, none⟩ = some (.bool t666) ∧ w'.cell? ⟨gb674, 2, none⟩ = some (.int .i64 t667) ∧ w'.cell? ⟨gb674, 3, none⟩ = some (.int .i64 t668) ∧ w'.cell? ⟨gb674, 4, none⟩ = some (.int .i64 t669) ∧ w'.cell? ⟨gb674, 5, none⟩ = some (.slice Ao20 t670.length co20) ∧ w'.cell? ⟨gb664, 0, none⟩ = some (.bool t655) ∧ w'.cell? ⟨gb664, 1, none⟩ = some (.bool t656) ∧ w'.cell? ⟨gb664, 2, none⟩ = some (.int .i64 t657) ∧ w'.cell? ⟨gb664, 3, none⟩ = some (.int .i64 t658) ∧ w'.cell? ⟨gb664, 4, none⟩ = some (.int .i64 t659) ∧ w'.cell? ⟨gb664, 5, none⟩ = some (.slice (some ad687) t660.length co14) ∧ w'.cell? ad687 = some (.int .i64 ((rd_T41 t660 0).f0)) ∧ w'.cell? ⟨ad687.block, ad687.off + 1, none⟩ = some (.int .i64 ((rd_T41 t660 0).f1)) ∧ w'.cell? ⟨ad687.block, ad687.off + 2, none⟩ = some (.bool ((rd_T41 t660 0).f2)) ∧ w'.cell? ⟨ad687.block, ad687.off + 3, none⟩ = some (.slice A687_3 ((rd_T41 t660 0).f3).length c687_3) ∧ w'.cell? ⟨ad687.block, ad687.off + 4, none⟩ = some (.bool ((rd_T41 t660 0).f4)) ∧ w'.cell? ⟨ad687.block, ad687.off + 5, none⟩ = some (.slice A687_5 ((rd_T41 t660 0).f5).length c687_5)) ∧ (Kd.V (Kd.int .i64) 3 w' w.heap.size (fun k_ => some k_ ≠ (s_.1 : Value).ownBlock ∧ some k_ ≠ (s_.2.1 : Value).ownBlock ∧ some k_ ≠ (.slice Ao12 t652.length co12 : Value).ownBlock ∧ some k_ ≠ (.slice (some ad687) t660.length co14 : Value).ownBlock ∧ some k_ ≠ (.slice Ao20 t670.length co20 : Value).ownBlock ∧ some k_ ≠ (.slice Ao30 t680.length co30 : Value).ownBlock ∧ k_ ≠ gb663 ∧ k_ ≠ gb664 ∧ k_ ≠ gb674 ∧ k_ ≠ gb684 ∧ k_ ≠ s_.2.2.1 ∧ k_ ≠ s_.2.2.2) (.slice A687_3 ((rd_T41 t660 0).f3).length c687_3) ((rd_T41 t660 0).f3)) ∧ (Kd.V (Kd.int .i64) 3 w' w.heap.size (fun k_ => some k_ ≠ (s_.1 : Value).ownBlock ∧ some k_ ≠ (s_.2.1 : Value).ownBlock ∧ some k_ ≠ (.slice Ao12 t652.length co12 : Value).ownBlock ∧ some k_ ≠ (.slice (some ad687) t660.length co14 : Value).ownBlock ∧ some k_ ≠ (.slice Ao20 t670.length co20 : Value).ownBlock ∧ some k_ ≠ (.slice Ao30 t680.length co30 : Value).ownBlock ∧ k_ ≠ gb663 ∧ k_ ≠ gb664 ∧ k_ ≠ gb674 ∧ k_ ≠ gb684 ∧ k_ ≠ s_.2.2.1 ∧ k_ ≠ s_.2.2.2) (.slice A687_5 ((rd_T41 t660 0).f5).length c687_5) ((rd_T41 t660 0).f5)) ∧ (Kd.N k41 41 w' w.heap.size (fun k_ => some k_ ≠ (s_.2.1 : Value).ownBlock ∧ some k_ ≠ (.slice Ao12 t652.length co12 : Value).ownBlock ∧ some k_ ≠ (.slice (some ad687) t660.length co14 : Value).ownBlock ∧ some k_ ≠ (.slice Ao20 t670.length co20 : Value).ownBlock ∧ some k_ ≠ (.slice Ao30 t680.length co30 : Value).ownBlock ∧ k_ ≠ gb663 ∧ k_ ≠ gb664 ∧ k_ ≠ gb674 ∧ k_ ≠ gb684 ∧ k_ ≠ s_.2.2.1 ∧ k_ ≠ s_.2.2.2) s_.1 t693) ∧ (Kd.N k41 41 w' w.heap.size (fun k_ => some k_ ≠ (s_.1 : Value).ownBlock ∧ some k_ ≠ (.slice Ao12 t652.length co12 : Value).ownBlock ∧ some k_ ≠ (.slice (some ad687) t660.length co14 : Value).ownBlock ∧ some k_ ≠ (.slice Ao20 t670.length co20 : Value).ownBlock ∧ some k_ ≠ (.slice Ao30 t680.length co30 : Value).ownBlock ∧ k_ ≠ gb663 ∧ k_ ≠ gb664 ∧ k_ ≠ gb674 ∧ k_ ≠ gb684 ∧ k_ ≠ s_.2.2.1 ∧ k_ ≠ s_.2.2.2) s_.2.1 t701) ∧ (Kd.N k41 41 w' w.heap.size (fun k_ => some k_ ≠ (s_.1 : Value).ownBlock ∧ some k_ ≠ (s_.2.1 : Value).ownBlock ∧ some k_ ≠ (.slice (some ad687) t660.length co14 : Value).ownBlock ∧ some k_ ≠ (.slice Ao20 t670.length co20 : Value).ownBlock ∧ some k_ ≠ (.slice Ao30 t680.length co30 : Value).ownBlock ∧ k_ ≠ gb663 ∧ k_ ≠ gb664 ∧ k_ ≠ gb674 ∧ k_ ≠ gb684 ∧ k_ ≠ s_.2.2.1 ∧ k_ ≠ s_.2.2.2) (.slice Ao12 t652.length co12) t652) ∧ (Kd.N k41 41 w' w.heap.size (fun k_ => some k_ ≠ (s_.1 : Value).ownBlock ∧ some k_ ≠ (s_.2.1 : Value).ownBlock ∧ some k_ ≠ (.slice Ao12 t652.length co12 : Value).ownBlock ∧ some k_ ≠ (.slice Ao20 t670.length co20 : Value).ownBlock ∧ some k_ ≠ (.slice Ao30 t680.length co30 : Value).ownBlock ∧ k_ ≠ gb663 ∧ k_ ≠ gb664 ∧ k_ ≠ gb674 ∧ k_ ≠ gb684 ∧ k_ ≠ s_.2.2.1 ∧ k_ ≠ s_.2.2.2) (.slice (some ad687) t660.length co14) t660) ∧ (Kd.N k41 41 w' w.heap.size (fun k_ => some k_ ≠ (s_.1 : Value).ownBlock ∧ some k_ ≠ (s_.2.1 : Value).ownBlock ∧ some k_ ≠ (.slice Ao12 t652.length co12 : Value).ownBlock ∧ some k_ ≠ (.slice (some ad687) t660.length co14 : Value).ownBlock ∧ some k_ ≠ (.slice Ao30 t680.length co30 : Value).ownBlock ∧ k_ ≠ gb663 ∧ k_ ≠ gb664 ∧ k_ ≠ gb674 ∧ k_ ≠ gb684 ∧ k_ ≠ s_.2.2.1 ∧ k_ ≠ s_.2.2.2) (.slice Ao20 t670.length co20) t670) ∧ (Kd.N k41 41 w' w.heap.size (fun k_ => some k_ ≠ (s_.1 : Value).ownBlock ∧ some k_ ≠ (s_.2.1 : Value).ownBlock ∧ some k_ ≠ (.slice Ao20 t670.length co20 : Value).ownBlock ∧ k_ ≠ gb663 ∧ k_ ≠ gb664 ∧ k_ ≠ gb674 ∧ k_ ≠ gb684 ∧ k_ ≠ s_.2.2.1 ∧ k_ ≠ s_.2.2.2) (.slice Ao30 t680.length co30) t680) ∧ (w'.heap[gb663]? = some (.cells #[.bool t647, .bool t648, .int .i64 t649, .int .i64 t650, .int .i64 t651, .slice Ao12 t652.length co12] 25 (0, 0))) ∧ (w'.heap[gb664]? = some (.cells #[.bool t655, .bool t656, .int .i64 t657, .int .i64 t658, .int .i64 t659, .slice (some ad687) t660.length co14] 25 (0, 0))) ∧ (w'.heap[gb674]? = some (.cells #[.bool t665, .bool t666, .int .i64 t667, .int .i64 t668, .int .i64 t669, .slice Ao20 t670.length co20] 25 (0, 0))) ∧ (w'.heap[gb684]? = some (.cells #[.bool t675, .bool t676, .int .i64 t677, .int .i64 t678, .int .i64 t679, .slice Ao30 t680.length co30] 25 (0, 0))) ∧ (w'.heap[s_.2.2.1]? = some (.cells #[.bool false, .bool false, .int .i64 0, .int .i64 0, .int .i64 0, .slice none 0 0] 25 (0, 0))) ∧ (w'.heap[s_.2.2.2]? = some (.cells #[.bool false, .bool false, .int .i64 0, .int .i64 0, .int .i64 0, .slice none 0 0] 25 (0, 0))) ∧ (w.heap.size ≤ s_.2.2.1) ∧ (w.heap.size ≤ s_.2.2.1) ∧ (gb663 ≠ s_.2.2.1) ∧ (s_.2.2.1 ≠ gb663) ∧ (gb664 ≠ s_.2.2.1) ∧ (s_.2.2.1 ≠ gb664) ∧ (gb674 ≠ s_.2.2.1) ∧ (s_.2.2.1 ≠ gb674) ∧ (gb684 ≠ s_.2.2.1) ∧ (s_.2.2.1 ≠ gb684) ∧ (s_.2.2.2 ≠ s_.2.2.1) ∧ (s_.2.2.1 ≠ s_.2.2.2) ∧ (w.heap.size ≤ s_.2.2.2) ∧ (w.heap.size ≤ s_.2.2.2) ∧ (gb663 ≠ s_.2.2.2) ∧ (s_.2.2.2 ≠ gb663) ∧ (gb664 ≠ s_.2.2.2) ∧ (s_.2.2.2 ≠ gb664) ∧ (gb674 ≠ s_.2.2.2) ∧ (s_.2.2.2 ≠ gb674) ∧ (gb684 ≠ s_.2.2.2) ∧ (s_.2.2.2 ≠ gb684) ∧ (Below w.heap.size w w')) ?_ ?_
      rotate_left
      ·intro hJ6_11_12
       refine join_ (σ := Value × Value × Nat) 4 #[true, true, true, true, true, true, true, true, true, true, true, true, false, false, false, false] (fun s_ => [(60, .tuple #[.agg #[.bool t688, .bool t689, .int .i64 t690, .int .i64 t691, .int .i64 t692, s_.1], .agg #[.bool t696, .bool t697, .int .i64 t698, .int .i64 t699, .int .i64 t700, s_.2.1], .bool t704]), (9, .pointer (some ⟨s_.2.2, 0, none⟩)), (53, .tuple #[.agg #[.bool t688, .bool t689, .int .i64 t690, .int .i64 t691, .int .i64 t692, s_.1], .agg #[.bool t696, .bool t697, .int .i64 t698, .int .i64 t699, .int .i64 t700, s_.2.1], .bool t704]), (61, .agg #[.bool t688, .bool t689, .int .i64 t690, .int .i64 t691, .int .i64 t692, s_.1]), (62, .agg #[.bool t696, .bool t697, .int .i64 t698, .int .i64 t699, .int .i64 t700, s_.2.1]), (63, .bool t704)]) (fun s_ w' => (w'.cell? ⟨gb674, 0, none⟩ = some (.bool t665) ∧ w'.cell? ⟨gb674, 1, none⟩ = some (.bool t666) ∧ w'.cell? ⟨gb674, 2, none⟩ = some (.int .i64 t667) ∧ w'.cell? ⟨gb674, 3, none⟩ = some (.int .i64 t668) ∧ w'.cell? ⟨gb674, 4, none⟩ = some (.int .i64 t669) ∧ w'.cell? ⟨gb674, 5, none⟩ = some (.slice Ao20 t670.length co20) ∧ w'.cell? ⟨gb664, 0, none⟩ = some (.bool t655) ∧ w'.cell? ⟨gb664, 1, none⟩ = some (.bool t656) ∧ w'.cell? ⟨gb664, 2, none⟩ = some (.int .i64 t657) ∧ w'.cell? ⟨gb664, 3, none⟩ = some (.int .i64 t658) ∧ w'.cell? ⟨gb664, 4, none⟩ = some (.int .i64 t659) ∧ w'.cell? ⟨gb664, 5, none⟩ = some (.slice (some ad687) t660.length co14) ∧ w'.cell? ad687 = some (.int .i64 ((rd_T41 t660 0).f0)) ∧ w'.cell? ⟨ad687.block, ad687.off + 1, none⟩ = some (.int .i64 ((rd_T41 t660 0).f1)) ∧ w'.cell? ⟨ad687.block, ad687.off + 2, none⟩ = some (.bool ((rd_T41 t660 0).f2)) ∧ w'.cell? ⟨ad687.block, ad687.off + 3, none⟩ = some (.slice A687_3 ((rd_T41 t660 0).f3).length c687_3) ∧ w'.cell? ⟨ad687.block, ad687.off + 4, none⟩ = some (.bool ((rd_T41 t660 0).f4)) ∧ w'.cell? ⟨ad687.block, ad687.off + 5, none⟩ = some (.slice A687_5 ((rd_T41 t660 0).f5).length c687_5)) ∧ (Kd.V (Kd.int .i64) 3 w' w.heap.size (fun k_ => some k_ ≠ (s_.1 : Value).ownBlock ∧ some k_ ≠ (s_.2.1 : Value).ownBlock ∧ some k_ ≠ (.slice Ao12 t652.length co12 : Value).ownBlock ∧ some k_ ≠ (.slice (some ad687) t660.length co14 : Value).ownBlock ∧ some k_ ≠ (.slice Ao20 t670.length co20 : Value).ownBlock ∧ some k_ ≠ (.slice Ao30 t680.length co30 : Value).ownBlock ∧ k_ ≠ gb663 ∧ k_ ≠ gb664 ∧ k_ ≠ gb674 ∧ k_ ≠ gb684 ∧ k_ ≠ s_.2.2) (.slice A687_3 ((rd_T41 t660 0).f3).length c687_3) ((rd_T41 t660 0).f3)) ∧ (Kd.V (Kd.int .i64) 3 w' w.heap.size (fun k_ => some k_ ≠ (s_.1 : Value).ownBlock ∧ some k_ ≠ (s_.2.1 : Value).ownBlock ∧ some k_ ≠ (.slice Ao12 t652.length co12 : Value).ownBlock ∧ some k_ ≠ (.slice (some ad687) t660.length co14 : Value).ownBlock ∧ some k_ ≠ (.slice Ao20 t670.length co20 : Value).ownBlock ∧ some k_ ≠ (.slice Ao30 t680.length co30 : Value).ownBlock ∧ k_ ≠ gb663 ∧ k_ ≠ gb664 ∧ k_ ≠ gb674 ∧ k_ ≠ gb684 ∧ k_ ≠ s_.2.2) (.slice A687_5 ((rd_T41 t660 0).f5).length c687_5) ((rd_T41 t660 0).f5)) ∧ (Kd.N k41 41 w' w.heap.size (fun k_ => some k_ ≠ (s_.2.1 : Value).ownBlock ∧ some k_ ≠ (.slice Ao12 t652.length co12 : Value).ownBlock ∧ some k_ ≠ (.slice (some ad687) t660.length co14 : Value).ownBlock ∧ some k_ ≠ (.slice Ao20 t670.length co20 : Value).ownBlock ∧ some k_ ≠ (.slice Ao30 t680.length co30 : Value).ownBlock ∧ k_ ≠ gb663 ∧ k_ ≠ gb664 ∧ k_ ≠ gb674 ∧ k_ ≠ gb684 ∧ k_ ≠ s_.2.2) s_.1 t693) ∧ (Kd.N k41 41 w' w.heap.size (fun k_ => some k_ ≠ (s_.1 : Value).ownBlock ∧ some k_ ≠ (.slice Ao12 t652.length co12 : Value).ownBlock ∧ some k_ ≠ (.slice (some ad687) t660.length co14 : Value).ownBlock ∧ some k_ ≠ (.slice Ao20 t670.length co20 : Value).ownBlock ∧ some k_ ≠ (.slice Ao30 t680.length co30 : Value).ownBlock ∧ k_ ≠ gb663 ∧ k_ ≠ gb664 ∧ k_ ≠ gb674 ∧ k_ ≠ gb684 ∧ k_ ≠ s_.2.2) s_.2.1 t701) ∧ (Kd.N k41 41 w' w.heap.size (fun k_ => some k_ ≠ (s_.1 : Value).ownBlock ∧ some k_ ≠ (s_.2.1 : Value).ownBlock ∧ some k_ ≠ (.slice (some ad687) t660.length co14 : Value).ownBlock ∧ some k_ ≠ (.slice Ao20 t670.length co20 : Value).ownBlock ∧ some k_ ≠ (.slice Ao30 t680.length co30 : Value).ownBlock ∧ k_ ≠ gb663 ∧ k_ ≠ gb664 ∧ k_ ≠ gb674 ∧ k_ ≠ gb684 ∧ k_ ≠ s_.2.2) (.slice Ao12 t652.length co12) t652) ∧ (Kd.N k41 41 w' w.heap.size (fun k_ => some k_ ≠ (s_.1 : Value).ownBlock ∧ some k_ ≠ (s_.2.1 : Value).ownBlock ∧ some k_ ≠ (.slice Ao12 t652.length co12 : Value).ownBlock ∧ some k_ ≠ (.slice Ao20 t670.length co20 : Value).ownBlock ∧ some k_ ≠ (.slice Ao30 t680.length co30 : Value).ownBlock ∧ k_ ≠ gb663 ∧ k_ ≠ gb664 ∧ k_ ≠ gb674 ∧ k_ ≠ gb684 ∧ k_ ≠ s_.2.2) (.slice (some ad687) t660.length co14) t660) ∧ (Kd.N k41 41 w' w.heap.size (fun k_ => some k_ ≠ (s_.1 : Value).ownBlock ∧ some k_ ≠ (s_.2.1 : Value).ownBlock ∧ some k_ ≠ (.slice Ao12 t652.length co12 : Value).ownBlock ∧ some k_ ≠ (.slice (some ad687) t660.length co14 : Value).ownBlock ∧ some k_ ≠ (.slice Ao30 t680.length co30 : Value).ownBlock ∧ k_ ≠ gb663 ∧ k_ ≠ gb664 ∧ k_ ≠ gb674 ∧ k_ ≠ gb684 ∧ k_ ≠ s_.2.2) (.slice Ao20 t670.length co20) t670) ∧ (Kd.N k41 41 w' w.heap.size (fun k_ => some k_ ≠ (s_.1 : Value).ownBlock ∧ some k_ ≠ (s_.2.1 : Value).ownBlock ∧ some k_ ≠ (.slice Ao20 t670.length co20 : Value).ownBlock ∧ k_ ≠ gb663 ∧ k_ ≠ gb664 ∧ k_ ≠ gb674 ∧ k_ ≠ gb684 ∧ k_ ≠ s_.2.2) (.slice Ao30 t680.length co30) t680) ∧ (w'.heap[gb663]? = some (.cells #[.bool t647, .bool t648, .int .i64 t649, .int .i64 t650, .int .i64 t651, .slice Ao12 t652.length co12] 25 (0, 0))) ∧ (w'.heap[gb664]? = some (.cells #[.bool t655, .bool t656, .int .i64 t657, .int .i64 t658, .int .i64 t659, .slice (some ad687) t660.length co14] 25 (0, 0))) ∧ (w'.heap[gb674]? = some (.cells #[.bool t665, .bool t666, .int .i64 t667, .int .i64 t668, .int .i64 t669, .slice Ao20 t670.length co20] 25 (0, 0))) ∧ (w'.heap[gb684]? = some (.cells #[.bool t675, .bool t676, .int .i64 t677, .int .i64 t678, .int .i64 t679, .slice Ao30 t680.length co30] 25 (0, 0))) ∧ (w'.heap[s_.2.2]? = some (.cells #[.bool false, .bool false, .int .i64 0, .int .i64 0, .int .i64 0, .slice none 0 0] 25 (0, 0))) ∧ (w.heap.size ≤ s_.2.2) ∧ (w.heap.size ≤ s_.2.2) ∧ (gb663 ≠ s_.2.2) ∧ (s_.2.2 ≠ gb663) ∧ (gb664 ≠ s_.2.2) ∧ (s_.2.2 ≠ gb664) ∧ (gb674 ≠ s_.2.2) ∧ (s_.2.2 ≠ gb674) ∧ (gb684 ≠ s_.2.2) ∧ (s_.2.2 ≠ gb684) ∧ (Below w.heap.size w w')) ?_ ?_
       rotate_left
       ·intro hJ6_11
        refine join_ (σ := Value × Value × Nat) 4 #[true, true, true, true, true, true, true, true, true, true, true, false, true, false, false, false] (fun s_ => [(60, .tuple #[.agg #[.bool t688, .bool t689, .int .i64 t690, .int .i64 t691, .int .i64 t692, s_.1], .agg #[.bool t696, .bool t697, .int .i64 t698, .int .i64 t699, .int .i64 t700, s_.2.1], .bool t704]), (10, .pointer (some ⟨s_.2.2, 0, none⟩)), (53, .tuple #[.agg #[.bool t688, .bool t689, .int .i64 t690, .int .i64 t691, .int .i64 t692, s_.1], .agg #[.bool t696, .bool t697, .int .i64 t698, .int .i64 t699, .int .i64 t700, s_.2.1], .bool t704]), (61, .agg #[.bool t688, .bool t689, .int .i64 t690, .int .i64 t691, .int .i64 t692, s_.1]), (62, .agg #[.bool t696, .bool t697, .int .i64 t698, .int .i64 t699, .int .i64 t700, s_.2.1]), (63, .bool t704)]) (fun s_ w' => (w'.cell? ⟨gb674, 0, none⟩ = some (.bool t665) ∧ w'.cell? ⟨gb674, 1, none⟩ = some (.bool t666) ∧ w'.cell? ⟨gb674, 2, none⟩ = some (.int .i64 t667) ∧ w'.cell? ⟨gb674, 3, none⟩ = some (.int .i64 t668) ∧ w'.cell? ⟨gb674, 4, none⟩ = some (.int .i64 t669) ∧ w'.cell? ⟨gb674, 5, none⟩ = some (.slice Ao20 t670.length co20) ∧ w'.cell? ⟨gb664, 0, none⟩ = some (.bool t655) ∧ w'.cell? ⟨gb664, 1, none⟩ = some (.bool t656) ∧ w'.cell? ⟨gb664, 2, none⟩ = some (.int .i64 t657) ∧ w'.cell? ⟨gb664, 3, none⟩ = some (.int .i64 t658) ∧ w'.cell? ⟨gb664, 4, none⟩ = some (.int .i64 t659) ∧ w'.cell? ⟨gb664, 5, none⟩ = some (.slice (some ad687) t660.length co14) ∧ w'.cell? ad687 = some (.int .i64 ((rd_T41 t660 0).f0)) ∧ w'.cell? ⟨ad687.block, ad687.off + 1, none⟩ = some (.int .i64 ((rd_T41 t660 0).f1)) ∧ w'.cell? ⟨ad687.block, ad687.off + 2, none⟩ = some (.bool ((rd_T41 t660 0).f2)) ∧ w'.cell? ⟨ad687.block, ad687.off + 3, none⟩ = some (.slice A687_3 ((rd_T41 t660 0).f3).length c687_3) ∧ w'.cell? ⟨ad687.block, ad687.off + 4, none⟩ = some (.bool ((rd_T41 t660 0).f4)) ∧ w'.cell? ⟨ad687.block, ad687.off + 5, none⟩ = some (.slice A687_5 ((rd_T41 t660 0).f5).length c687_5)) ∧ (Kd.V (Kd.int .i64) 3 w' w.heap.size (fun k_ => some k_ ≠ (s_.1 : Value).ownBlock ∧ some k_ ≠ (s_.2.1 : Value).ownBlock ∧ some k_ ≠ (.slice Ao12 t652.length co12 : Value).ownBlock ∧ some k_ ≠ (.slice (some ad687) t660.length co14 : Value).ownBlock ∧ some k_ ≠ (.slice Ao20 t670.length co20 : Value).ownBlock ∧ some k_ ≠ (.slice Ao30 t680.length co30 : Value).ownBlock ∧ k_ ≠ gb663 ∧ k_ ≠ gb664 ∧ k_ ≠ gb674 ∧ k_ ≠ gb684 ∧ k_ ≠ s_.2.2) (.slice A687_3 ((rd_T41 t660 0).f3).length c687_3) ((rd_T41 t660 0).f3)) ∧ (Kd.V (Kd.int .i64) 3 w' w.heap.size (fun k_ => some k_ ≠ (s_.1 : Value).ownBlock ∧ some k_ ≠ (s_.2.1 : Value).ownBlock ∧ some k_ ≠ (.slice Ao12 t652.length co12 : Value).ownBlock ∧ some k_ ≠ (.slice (some ad687) t660.length co14 : Value).ownBlock ∧ some k_ ≠ (.slice Ao20 t670.length co20 : Value).ownBlock ∧ some k_ ≠ (.slice Ao30 t680.length co30 : Value).ownBlock ∧ k_ ≠ gb663 ∧ k_ ≠ gb664 ∧ k_ ≠ gb674 ∧ k_ ≠ gb684 ∧ k_ ≠ s_.2.2) (.slice A687_5 ((rd_T41 t660 0).f5).length c687_5) ((rd_T41 t660 0).f5)) ∧ (Kd.N k41 41 w' w.heap.size (fun k_ => some k_ ≠ (s_.2.1 : Value).ownBlock ∧ some k_ ≠ (.slice Ao12 t652.length co12 : Value).ownBlock ∧ some k_ ≠ (.slice (some ad687) t660.length co14 : Value).ownBlock ∧ some k_ ≠ (.slice Ao20 t670.length co20 : Value).ownBlock ∧ some k_ ≠ (.slice Ao30 t680.length co30 : Value).ownBlock ∧ k_ ≠ gb663 ∧ k_ ≠ gb664 ∧ k_ ≠ gb674 ∧ k_ ≠ gb684 ∧ k_ ≠ s_.2.2) s_.1 t693) ∧ (Kd.N k41 41 w' w.heap.size (fun k_ => some k_ ≠ (s_.1 : Value).ownBlock ∧ some k_ ≠ (.slice Ao12 t652.length co12 : Value).ownBlock ∧ some k_ ≠ (.slice (some ad687) t660.length co14 : Value).ownBlock ∧ some k_ ≠ (.slice Ao20 t670.length co20 : Value).ownBlock ∧ some k_ ≠ (.slice Ao30 t680.length co30 : Value).ownBlock ∧ k_ ≠ gb663 ∧ k_ ≠ gb664 ∧ k_ ≠ gb674 ∧ k_ ≠ gb684 ∧ k_ ≠ s_.2.2) s_.2.1 t701) ∧ (Kd.N k41 41 w' w.heap.size (fun k_ => some k_ ≠ (s_.1 : Value).ownBlock ∧ some k_ ≠ (s_.2.1 : Value).ownBlock ∧ some k_ ≠ (.slice (some ad687) t660.length co14 : Value).ownBlock ∧ some k_ ≠ (.slice Ao20 t670.length co20 : Value).ownBlock ∧ some k_ ≠ (.slice Ao30 t680.length co30 : Value).ownBlock ∧ k_ ≠ gb663 ∧ k_ ≠ gb664 ∧ k_ ≠ gb674 ∧ k_ ≠ gb684 ∧ k_ ≠ s_.2.2) (.slice Ao12 t652.length co12) t652) ∧ (Kd.N k41 41 w' w.heap.size (fun k_ => some k_ ≠ (s_.1 : Value).ownBlock ∧ some k_ ≠ (s_.2.1 : Value).ownBlock ∧ some k_ ≠ (.slice Ao12 t652.length co12 : Value).ownBlock ∧ some k_ ≠ (.slice Ao20 t670.length co20 : Value).ownBlock ∧ some k_ ≠ (.slice Ao30 t680.length co30 : Value).ownBlock ∧ k_ ≠ gb663 ∧ k_ ≠ gb664 ∧ k_ ≠ gb674 ∧ k_ ≠ gb684 ∧ k_ ≠ s_.2.2) (.slice (some ad687) t660.length co14) t660) ∧ (Kd.N k41 41 w' w.heap.size (fun k_ => some k_ ≠ (s_.1 : Value).ownBlock ∧ some k_ ≠ (s_.2.1 : Value).ownBlock ∧ some k_ ≠ (.slice Ao12 t652.length co12 : Value).ownBlock ∧ some k_ ≠ (.slice (some ad687) t660.length co14 : Value).ownBlock ∧ some k_ ≠ (.slice Ao30 t680.length co30 : Value).ownBlock ∧ k_ ≠ gb663 ∧ k_ ≠ gb664 ∧ k_ ≠ gb674 ∧ k_ ≠ gb684 ∧ k_ ≠ s_.2.2) (.slice Ao20 t670.length co20) t670) ∧ (Kd.N k41 41 w' w.heap.size (fun k_ => some k_ ≠ (s_.1 : Value).ownBlock ∧ some k_ ≠ (s_.2.1 : Value).ownBlock ∧ some k_ ≠ (.slice Ao20 t670.length co20 : Value).ownBlock ∧ k_ ≠ gb663 ∧ k_ ≠ gb664 ∧ k_ ≠ gb674 ∧ k_ ≠ gb684 ∧ k_ ≠ s_.2.2) (.slice Ao30 t680.length co30) t680) ∧ (w'.heap[gb663]? = some (.cells #[.bool t647, .bool t648, .int .i64 t649, .int .i64 t650, .int .i64 t651, .slice Ao12 t652.length co12] 25 (0, 0))) ∧ (w'.heap[gb664]? = some (.cells #[.bool t655, .bool t656, .int .i64 t657, .int .i64 t658, .int .i64 t659, .slice (some ad687) t660.length co14] 25 (0, 0))) ∧ (w'.heap[gb674]? = some (.cells #[.bool t665, .bool t666, .int .i64 t667, .int .i64 t668, .int .i64 t669, .slice Ao20 t670.length co20] 25 (0, 0))) ∧ (w'.heap[gb684]? = some (.cells #[.bool t675, .bool t676, .int .i64 t677, .int .i64 t678, .int .i64 t679, .slice Ao30 t680.length co30] 25 (0, 0))) ∧ (w'.heap[s_.2.2]? = some (.cells #[.bool false, .bool false, .int .i64 0, .int .i64 0, .int .i64 0, .slice none 0 0] 25 (0, 0))) ∧ (w.heap.size ≤ s_.2.2) ∧ (w.heap.size ≤ s_.2.2) ∧ (gb663 ≠ s_.2.2) ∧ (s_.2.2 ≠ gb663) ∧ (gb664 ≠ s_.2.2) ∧ (s_.2.2 ≠ gb664) ∧ (gb674 ≠ s_.2.2) ∧ (s_.2.2 ≠ gb674) ∧ (gb684 ≠ s_.2.2) ∧ (s_.2.2 ≠ gb684) ∧ (Below w.heap.size w w')) ?_ ?_
        rotate_left
        ·intro hJ6_12
         refine join_ (σ := Nat × Nat) 8 #[true, true, true, true, true, true, false, false, false, false, false, true, true, false, false, false] (fun s_ => [(9, .pointer (some ⟨s_.1, 0, none⟩)), (10, .pointer (some ⟨s_.2, 0, none⟩))]) (fun s_ w' => (w'.cell? ⟨gb674, 0, none⟩ = some (.bool t665) ∧ w'.cell? ⟨gb674, 1, none⟩ = some (.bool t666) ∧ w'.cell? ⟨gb674, 2, none⟩ = some (.int .i64 t667) ∧ w'.cell? ⟨gb674, 3, none⟩ = some (.int .i64 t668) ∧ w'.cell? ⟨gb674, 4, none⟩ = some (.int .i64 t669) ∧ w'.cell? ⟨gb674, 5, none⟩ = some (.slice Ao20 t670.length co20) ∧ w'.cell? ⟨gb664, 0, none⟩ = some (.bool t655) ∧ w'.cell? ⟨gb664, 1, none⟩ = some (.bool t656) ∧ w'.cell? ⟨gb664, 2, none⟩ = some (.int .i64 t657) ∧ w'.cell? ⟨gb664, 3, none⟩ = some (.int .i64 t658) ∧ w'.cell? ⟨gb664, 4, none⟩ = some (.int .i64 t659) ∧ w'.cell? ⟨gb664, 5, none⟩ = some (.slice (some ad687) t660.length co14) ∧ w'.cell? ad687 = some (.int .i64 ((rd_T41 t660 0).f0)) ∧ w'.cell? ⟨ad687.block, ad687.off + 1, none⟩ = some (.int .i64 ((rd_T41 t660 0).f1)) ∧ w'.cell? ⟨ad687.block, ad687.off + 2, none⟩ = some (.bool ((rd_T41 t660 0).f2)) ∧ w'.cell? ⟨ad687.block, ad687.off + 3, none⟩ = some (.slice A687_3 ((rd_T41 t660 0).f3).length c687_3) ∧ w'.cell? ⟨ad687.block, ad687.off + 4, none⟩ = some (.bool ((rd_T41 t660 0).f4)) ∧ w'.cell? ⟨ad687.block, ad687.off + 5, none⟩ = some (.slice A687_5 ((rd_T41 t660 0).f5).length c687_5)) ∧ (Kd.V (Kd.int .i64) 3 w' w.heap.size (fun k_ => some k_ ≠ (.slice Ao12 t652.length co12 : Value).ownBlock ∧ some k_ ≠ (.slice (some ad687) t660.length co14 : Value).ownBlock ∧ some k_ ≠ (.slice Ao20 t670.length co20 : Value).ownBlock ∧ some k_ ≠ (.slice Ao30 t680.length co30 : Value).ownBlock ∧ k_ ≠ gb663 ∧ k_ ≠ gb664 ∧ k_ ≠ gb674 ∧ k_ ≠ gb684 ∧ k_ ≠ s_.1 ∧ k_ ≠ s_.2) (.slice A687_3 ((rd_T41 t660 0).f3).length c687_3) ((rd_T41 t660 0).f3)) ∧ (Kd.V (Kd.int .i64) 3 w' w.heap.size (fun k_ => some k_ ≠ (.slice Ao12 t652.length co12 : Value).ownBlock ∧ some k_ ≠ (.slice (some ad687) t660.length co14 : Value).ownBlock ∧ some k_ ≠ (.slice Ao20 t670.length co20 : Value).ownBlock ∧ some k_ ≠ (.slice Ao30 t680.length co30 : Value).ownBlock ∧ k_ ≠ gb663 ∧ k_ ≠ gb664 ∧ k_ ≠ gb674 ∧ k_ ≠ gb684 ∧ k_ ≠ s_.1 ∧ k_ ≠ s_.2) (.slice A687_5 ((rd_T41 t660 0).f5).length c687_5) ((rd_T41 t660 0).f5)) ∧ (Kd.N k41 41 w' w.heap.size (fun k_ => some k_ ≠ (.slice (some ad687) t660.length co14 : Value).ownBlock ∧ some k_ ≠ (.slice Ao20 t670.length co20 : Value).ownBlock ∧ some k_ ≠ (.slice Ao30 t680.length co30 : Value).ownBlock ∧ k_ ≠ gb663 ∧ k_ ≠ gb664 ∧ k_ ≠ gb674 ∧ k_ ≠ gb684 ∧ k_ ≠ s_.1 ∧ k_ ≠ s_.2) (.slice Ao12 t652.length co12) t652) ∧ (Kd.N k41 41 w' w.heap.size (fun k_ => some k_ ≠ (.slice Ao12 t652.length co12 : Value).ownBlock ∧ some k_ ≠ (.slice Ao20 t670.length co20 : Value).ownBlock ∧ some k_ ≠ (.slice Ao30 t680.length co30 : Value).ownBlock ∧ k_ ≠ gb663 ∧ k_ ≠ gb664 ∧ k_ ≠ gb674 ∧ k_ ≠ gb684 ∧ k_ ≠ s_.1 ∧ k_ ≠ s_.2) (.slice (some ad687) t660.length co14) t660) ∧ (Kd.N k41 41 w' w.heap.size (fun k_ => some k_ ≠ (.slice Ao12 t652.length co12 : Value).ownBlock ∧ some k_ ≠ (.slice (some ad687) t660.length co14 : Value).ownBlock ∧ some k_ ≠ (.slice Ao30 t680.length co30 : Value).ownBlock ∧ k_ ≠ gb663 ∧ k_ ≠ gb664 ∧ k_ ≠ gb674 ∧ k_ ≠ gb684 ∧ k_ ≠ s_.1 ∧ k_ ≠ s_.2) (.slice Ao20 t670.length co20) t670) ∧ (Kd.N k41 41 w' w.heap.size (fun k_ => some k_ ≠ (.slice Ao20 t670.length co20 : Value).ownBlock ∧ k_ ≠ gb663 ∧ k_ ≠ gb664 ∧ k_ ≠ gb674 ∧ k_ ≠ gb684 ∧ k_ ≠ s_.1 ∧ k_ ≠ s_.2) (.slice Ao30 t680.length co30) t680) ∧ (w'.heap[gb663]? = some (.cells #[.bool t647, .bool t648, .int .i64 t649, .int .i64 t650, .int .i64 t651, .slice Ao12 t652.length co12] 25 (0, 0))) ∧ (w'.heap[gb664]? = some (.cells #[.bool t655, .bool t656, .int .i64 t657, .int .i64 t658, .int .i64 t659, .slice (some ad687) t660.length co14] 25 (0, 0))) ∧ (w'.heap[gb674]? = some (.cells #[.bool t665, .bool t666, .int .i64 t667, .int .i64 t668, .int .i64 t669, .slice Ao20 t670.length co20] 25 (0, 0))) ∧ (w'.heap[gb684]? = some (.cells #[.bool t675, .bool t676, .int .i64 t677, .int .i64 t678, .int .i64 t679, .slice Ao30 t680.length co30] 25 (0, 0))) ∧ (w'.heap[s_.1]? = some (.cells #[.bool false, .bool false, .int .i64 0, .int .i64 0, .int .i64 0, .slice none 0 0] 25 (0, 0))) ∧ (w'.heap[s_.2]? = some (.cells #[.bool false, .bool false, .int .i64 0, .int .i64 0, .int .i64 0, .slice none 0 0] 25 (0, 0))) ∧ (w.heap.size ≤ s_.1) ∧ (w.heap.size ≤ s_.1) ∧ (gb663 ≠ s_.1) ∧ (s_.1 ≠ gb663) ∧ (gb664 ≠ s_.1) ∧ (s_.1 ≠ gb664) ∧ (gb674 ≠ s_.1) ∧ (s_.1 ≠ gb674) ∧ (gb684 ≠ s_.1) ∧ (s_.1 ≠ gb684) ∧ (s_.2 ≠ s_.1) ∧ (s_.1 ≠ s_.2) ∧ (w.heap.size ≤ s_.2) ∧ (w.heap.size ≤ s_.2) ∧ (gb663 ≠ s_.2) ∧ (s_.2 ≠ gb663) ∧ (gb664 ≠ s_.2) ∧ (s_.2 ≠ gb664) ∧ (gb674 ≠ s_.2) ∧ (s_.2 ≠ gb674) ∧ (gb684 ≠ s_.2) ∧ (s_.2 ≠ gb684) ∧ (Below w.heap.size w w')) ?_ ?_
         rotate_left
         ·intro hJ11_12
          refine join_ (σ := Value × Value) 5 #[true, true, true, true, true, true, true, true, true, true, true, false, false, false, false, false] (fun s_ => [(60, .tuple #[.agg #[.bool t688, .bool t689, .int .i64 t690, .int .i64 t691, .int .i64 t692, s_.1], .agg #[.bool t696, .bool t697, .int .i64 t698, .int .i64 t699, .int .i64 t700, s_.2], .bool t704]), (53, .tuple #[.agg #[.bool t688, .bool t689, .int .i64 t690, .int .i64 t691, .int .i64 t692, s_.1], .agg #[.bool t696, .bool t697, .int .i64 t698, .int .i64 t699, .int .i64 t700, s_.2], .bool t704]), (61, .agg #[.bool t688, .bool t689, .int .i64 t690, .int .i64 t691, .int .i64 t692, s_.1]), (62, .agg #[.bool t696, .bool t697, .int .i64 t698, .int .i64 t699, .int .i64 t700, s_.2]), (63, .bool t704)]) (fun s_ w' => (w'.cell? ⟨gb674, 0, none⟩ = some (.bool t665) ∧ w'.cell? ⟨gb674, 1, none⟩ = some (.bool t666) ∧ w'.cell? ⟨gb674, 2, none⟩ = some (.int .i64 t667) ∧ w'.cell? ⟨gb674, 3, none⟩ = some (.int .i64 t668) ∧ w'.cell? ⟨gb674, 4, none⟩ = some (.int .i64 t669) ∧ w'.cell? ⟨gb674, 5, none⟩ = some (.slice Ao20 t670.length co20) ∧ w'.cell? ⟨gb664, 0, none⟩ = some (.bool t655) ∧ w'.cell? ⟨gb664, 1, none⟩ = some (.bool t656) ∧ w'.cell? ⟨gb664, 2, none⟩ = some (.int .i64 t657) ∧ w'.cell? ⟨gb664, 3, none⟩ = some (.int .i64 t658) ∧ w'.cell? ⟨gb664, 4, none⟩ = some (.int .i64 t659) ∧ w'.cell? ⟨gb664, 5, none⟩ = some (.slice (some ad687) t660.length co14) ∧ w'.cell? ad687 = some (.int .i64 ((rd_T41 t660 0).f0)) ∧ w'.cell? ⟨ad687.block, ad687.off + 1, none⟩ = some (.int .i64 ((rd_T41 t660 0).f1)) ∧ w'.cell? ⟨ad687.block, ad687.off + 2, none⟩ = some (.bool ((rd_T41 t660 0).f2)) ∧ w'.cell? ⟨ad687.block, ad687.off + 3, none⟩ = some (.slice A687_3 ((rd_T41 t660 0).f3).length c687_3) ∧ w'.cell? ⟨ad687.block, ad687.off + 4, none⟩ = some (.bool ((rd_T41 t660 0).f4)) ∧ w'.cell? ⟨ad687.block, ad687.off + 5, none⟩ = some (.slice A687_5 ((rd_T41 t660 0).f5).length c687_5)) ∧ (Kd.V (Kd.int .i64) 3 w' w.heap.size (fun k_ => some k_ ≠ (s_.1 : Value).ownBlock ∧ some k_ ≠ (s_.2 : Value).ownBlock ∧ some k_ ≠ (.slice Ao12 t652.length co12 : Value).ownBlock ∧ some k_ ≠ (.slice (some ad687) t660.length co14 : Value).ownBlock ∧ some k_ ≠ (.slice Ao20 t670.length co20 : Value).ownBlock ∧ some k_ ≠ (.slice Ao30 t680.length co30 : Value).ownBlock ∧ k_ ≠ gb663 ∧ k_ ≠ gb664 ∧ k_ ≠ gb674 ∧ k_ ≠ gb684) (.slice A687_3 ((rd_T41 t660 0).f3).length c687_3) ((rd_T41 t660 0).f3)) ∧ (Kd.V (Kd.int .i64) 3 w' w.heap.size (fun k_ => some k_ ≠ (s_.1 : Value).ownBlock ∧ some k_ ≠ (s_.2 : Value).ownBlock ∧ some k_ ≠ (.slice Ao12 t652.length co12 : Value).ownBlock ∧ some k_ ≠ (.slice (some ad687) t660.length co14 : Value).ownBlock ∧ some k_ ≠ (.slice Ao20 t670.length co20 : Value).ownBlock ∧ some k_ ≠ (.slice Ao30 t680.length co30 : Value).ownBlock ∧ k_ ≠ gb663 ∧ k_ ≠ gb664 ∧ k_ ≠ gb674 ∧ k_ ≠ gb684) (.slice A687_5 ((rd_T41 t660 0).f5).length c687_5) ((rd_T41 t660 0).f5)) ∧ (Kd.N k41 41 w' w.heap.size (fun k_ => some k_ ≠ (s_.2 : Value).ownBlock ∧ some k_ ≠ (.slice Ao12 t652.length co12 : Value).ownBlock ∧ some k_ ≠ (.slice (some ad687) t660.length co14 : Value).ownBlock ∧ some k_ ≠ (.slice Ao20 t670.length co20 : Value).ownBlock ∧ some k_ ≠ (.slice Ao30 t680.length co30 : Value).ownBlock ∧ k_ ≠ gb663 ∧ k_ ≠ gb664 ∧ k_ ≠ gb674 ∧ k_ ≠ gb684) s_.1 t693) ∧ (Kd.N k41 41 w' w.heap.size (fun k_ => some k_ ≠ (s_.1 : Value).ownBlock ∧ some k_ ≠ (.slice Ao12 t652.length co12 : Value).ownBlock ∧ some k_ ≠ (.slice (some ad687) t660.length co14 : Value).ownBlock ∧ some k_ ≠ (.slice Ao20 t670.length co20 : Value).ownBlock ∧ some k_ ≠ (.slice Ao30 t680.length co30 : Value).ownBlock ∧ k_ ≠ gb663 ∧ k_ ≠ gb664 ∧ k_ ≠ gb674 ∧ k_ ≠ gb684) s_.2 t701) ∧ (Kd.N k41 41 w' w.heap.size (fun k_ => some k_ ≠ (s_.1 : Value).ownBlock ∧ some k_ ≠ (s_.2 : Value).ownBlock ∧ some k_ ≠ (.slice (some ad687) t660.length co14 : Value).ownBlock ∧ some k_ ≠ (.slice Ao20 t670.length co20 : Value).ownBlock ∧ some k_ ≠ (.slice Ao30 t680.length co30 : Value).ownBlock ∧ k_ ≠ gb663 ∧ k_ ≠ gb664 ∧ k_ ≠ gb674 ∧ k_ ≠ gb684) (.slice Ao12 t652.length co12) t652) ∧ (Kd.N k41 41 w' w.heap.size (fun k_ => some k_ ≠ (s_.1 : Value).ownBlock ∧ some k_ ≠ (s_.2 : Value).ownBlock ∧ some k_ ≠ (.slice Ao12 t652.length co12 : Value).ownBlock ∧ some k_ ≠ (.slice Ao20 t670.length co20 : Value).ownBlock ∧ some k_ ≠ (.slice Ao30 t680.length co30 : Value).ownBlock ∧ k_ ≠ gb663 ∧ k_ ≠ gb664 ∧ k_ ≠ gb674 ∧ k_ ≠ gb684) (.slice (some ad687) t660.length co14) t660) ∧ (Kd.N k41 41 w' w.heap.size (fun k_ => some k_ ≠ (s_.1 : Value).ownBlock ∧ some k_ ≠ (s_.2 : Value).ownBlock ∧ some k_ ≠ (.slice Ao12 t652.length co12 : Value).ownBlock ∧ some k_ ≠ (.slice (some ad687) t660.length co14 : Value).ownBlock ∧ some k_ ≠ (.slice Ao30 t680.length co30 : Value).ownBlock ∧ k_ ≠ gb663 ∧ k_ ≠ gb664 ∧ k_ ≠ gb674 ∧ k_ ≠ gb684) (.slice Ao20 t670.length co20) t670) ∧ (Kd.N k41 41 w' w.heap.size (fun k_ => some k_ ≠ (s_.1 : Value).ownBlock ∧ some k_ ≠ (s_.2 : Value).ownBlock ∧ some k_ ≠ (.slice Ao20 t670.length co20 : Value).ownBlock ∧ k_ ≠ gb663 ∧ k_ ≠ gb664 ∧ k_ ≠ gb674 ∧ k_ ≠ gb684) (.slice Ao30 t680.length co30) t680) ∧ (w'.heap[gb663]? = some (.cells #[.bool t647, .bool t648, .int .i64 t649, .int .i64 t650, .int .i64 t651, .slice Ao12 t652.length co12] 25 (0, 0))) ∧ (w'.heap[gb664]? = some (.cells #[.bool t655, .bool t656, .int .i64 t657, .int .i64 t658, .int .i64 t659, .slice (some ad687) t660.length co14] 25 (0, 0))) ∧ (w'.heap[gb674]? = some (.cells #[.bool t665, .bool t666, .int .i64 t667, .int .i64 t668, .int .i64 t669, .slice Ao20 t670.length co20] 25 (0, 0))) ∧ (w'.heap[gb684]? = some (.cells #[.bool t675, .bool t676, .int .i64 t677, .int .i64 t678, .int .i64 t679, .slice Ao30 t680.length co30] 25 (0, 0))) ∧ (Below w.heap.size w w')) ?_ ?_
          rotate_left
          ·intro hJ6
           refine join_ (σ := Nat) 9 #[true, true, true, true, true, true, false, false, false, false, false, true, false, false, false, false] (fun s_ => [(9, .pointer (some ⟨s_, 0, none⟩))]) (fun s_ w' => (w'.cell? ⟨gb674, 0, none⟩ = some (.bool t665) ∧ w'.cell? ⟨gb674, 1, none⟩ = some (.bool t666) ∧ w'.cell? ⟨gb674, 2, none⟩ = some (.int .i64 t667) ∧ w'.cell? ⟨gb674, 3, none⟩ = some (.int .i64 t668) ∧ w'.cell? ⟨gb674, 4, none⟩ = some (.int .i64 t669) ∧ w'.cell? ⟨gb674, 5, none⟩ = some (.slice Ao20 t670.length co20) ∧ w'.cell? ⟨gb664, 0, none⟩ = some (.bool t655) ∧ w'.cell? ⟨gb664, 1, none⟩ = some (.bool t656) ∧ w'.cell? ⟨gb664, 2, none⟩ = some (.int .i64 t657) ∧ w'.cell? ⟨gb664, 3, none⟩ = some (.int .i64 t658) ∧ w'.cell? ⟨gb664, 4, none⟩ = some (.int .i64 t659) ∧ w'.cell? ⟨gb664, 5, none⟩ = some (.slice (some ad687) t660.length co14) ∧ w'.cell? ad687 = some (.int .i64 ((rd_T41 t660 0).f0)) ∧ w'.cell? ⟨ad687.block, ad687.off + 1, none⟩ = some (.int .i64 ((rd_T41 t660 0).f1)) ∧ w'.cell? ⟨ad687.block, ad687.off + 2, none⟩ = some (.bool ((rd_T41 t660 0).f2)) ∧ w'.cell? ⟨ad687.block, ad687.off + 3, none⟩ = some (.slice A687_3 ((rd_T41 t660 0).f3).length c687_3) ∧ w'.cell? ⟨ad687.block, ad687.off + 4, none⟩ = some (.bool ((rd_T41 t660 0).f4)) ∧ w'.cell? ⟨ad687.block, ad687.off + 5, none⟩ = some (.slice A687_5 ((rd_T41 t660 0).f5).length c687_5)) ∧ (Kd.V (Kd.int .i64) 3 w' w.heap.size (fun k_ => some k_ ≠ (.slice Ao12 t652.length co12 : Value).ownBlock ∧ some k_ ≠ (.slice (some ad687) t660.length co14 : Value).ownBlock ∧ some k_ ≠ (.slice Ao20 t670.length co20 : Value).ownBlock ∧ some k_ ≠ (.slice Ao30 t680.length co30 : Value).ownBlock ∧ k_ ≠ gb663 ∧ k_ ≠ gb664 ∧ k_ ≠ gb674 ∧ k_ ≠ gb684 ∧ k_ ≠ s_) (.slice A687_3 ((rd_T41 t660 0).f3).length c687_3) ((rd_T41 t660 0).f3)) ∧ (Kd.V (Kd.int .i64) 3 w' w.heap.size (fun k_ => some k_ ≠ (.slice Ao12 t652.length co12 : Value).ownBlock ∧ some k_ ≠ (.slice (some ad687) t660.length co14 : Value).ownBlock ∧ some k_ ≠ (.slice Ao20 t670.length co20 : Value).ownBlock ∧ some k_ ≠ (.slice Ao30 t680.length co30 : Value).ownBlock ∧ k_ ≠ gb663 ∧ k_ ≠ gb664 ∧ k_ ≠ gb674 ∧ k_ ≠ gb684 ∧ k_ ≠ s_) (.slice A687_5 ((rd_T41 t660 0).f5).length c687_5) ((rd_T41 t660 0).f5)) ∧ (Kd.N k41 41 w' w.heap.size (fun k_ => some k_ ≠ (.slice (some ad687) t660.length co14 : Value).ownBlock ∧ some k_ ≠ (.slice Ao20 t670.length co20 : Value).ownBlock ∧ some k_ ≠ (.slice Ao30 t680.length co30 : Value).ownBlock ∧ k_ ≠ gb663 ∧ k_ ≠ gb664 ∧ k_ ≠ gb674 ∧ k_ ≠ gb684 ∧ k_ ≠ s_) (.slice Ao12 t652.length co12) t652) ∧ (Kd.N k41 41 w' w.heap.size (fun k_ => some k_ ≠ (.slice Ao12 t652.length co12 : Value).ownBlock ∧ some k_ ≠ (.slice Ao20 t670.length co20 : Value).ownBlock ∧ some k_ ≠ (.slice Ao30 t680.length co30 : Value).ownBlock ∧ k_ ≠ gb663 ∧ k_ ≠ gb664 ∧ k_ ≠ gb674 ∧ k_ ≠ gb684 ∧ k_ ≠ s_) (.slice (some ad687) t660.length co14) t660) ∧ (Kd.N k41 41 w' w.heap.size (fun k_ => some k_ ≠ (.slice Ao12 t652.length co12 : Value).ownBlock ∧ some k_ ≠ (.slice (some ad687) t660.length co14 : Value).ownBlock ∧ some k_ ≠ (.slice Ao30 t680.length co30 : Value).ownBlock ∧ k_ ≠ gb663 ∧ k_ ≠ gb664 ∧ k_ ≠ gb674 ∧ k_ ≠ gb684 ∧ k_ ≠ s_) (.slice Ao20 t670.length co20) t670) ∧ (Kd.N k41 41 w' w.heap.size (fun k_ => some k_ ≠ (.slice Ao20 t670.length co20 : Value).ownBlock ∧ k_ ≠ gb663 ∧ k_ ≠ gb664 ∧ k_ ≠ gb674 ∧ k_ ≠ gb684 ∧ k_ ≠ s_) (.slice Ao30 t680.length co30) t680) ∧ (w'.heap[gb663]? = some (.cells #[.bool t647, .bool t648, .int .i64 t649, .int .i64 t650, .int .i64 t651, .slice Ao12 t652.length co12] 25 (0, 0))) ∧ (w'.heap[gb664]? = some (.cells #[.bool t655, .bool t656, .int .i64 t657, .int .i64 t658, .int .i64 t659, .slice (some ad687) t660.length co14] 25 (0, 0))) ∧ (w'.heap[gb674]? = some (.cells #[.bool t665, .bool t666, .int .i64 t667, .int .i64 t668, .int .i64 t669, .slice Ao20 t670.length co20] 25 (0, 0))) ∧ (w'.heap[gb684]? = some (.cells #[.bool t675, .bool t676, .int .i64 t677, .int .i64 t678, .int .i64 t679, .slice Ao30 t680.length co30] 25 (0, 0))) ∧ (w'.heap[s_]? = some (.cells #[.bool false, .bool false, .int .i64 0, .int .i64 0, .int .i64 0, .slice none 0 0] 25 (0, 0))) ∧ (w.heap.size ≤ s_) ∧ (w.heap.size ≤ s_) ∧ (gb663 ≠ s_) ∧ (s_ ≠ gb663) ∧ (gb664 ≠ s_) ∧ (s_ ≠ gb664) ∧ (gb674 ≠ s_) ∧ (s_ ≠ gb674) ∧ (gb684 ≠ s_) ∧ (s_ ≠ gb684) ∧ (Below w.heap.size w w')) ?_ ?_
           rotate_left
           ·intro hJ11
            refine join_ (σ := Nat) 9 #[true, true, true, true, true, true, false, false, false, false, false, false, true, false, false, false] (fun s_ => [(10, .pointer (some ⟨s_, 0, none⟩))]) (fun s_ w' => (w'.cell? ⟨gb674, 0, none⟩ = some (.bool t665) ∧ w'.cell? ⟨gb674, 1, none⟩ = some (.bool t666) ∧ w'.cell? ⟨gb674, 2, none⟩ = some (.int .i64 t667) ∧ w'.cell? ⟨gb674, 3, none⟩ = some (.int .i64 t668) ∧ w'.cell? ⟨gb674, 4, none⟩ = some (.int .i64 t669) ∧ w'.cell? ⟨gb674, 5, none⟩ = some (.slice Ao20 t670.length co20) ∧ w'.cell? ⟨gb664, 0, none⟩ = some (.bool t655) ∧ w'.cell? ⟨gb664, 1, none⟩ = some (.bool t656) ∧ w'.cell? ⟨gb664, 2, none⟩ = some (.int .i64 t657) ∧ w'.cell? ⟨gb664, 3, none⟩ = some (.int .i64 t658) ∧ w'.cell? ⟨gb664, 4, none⟩ = some (.int .i64 t659) ∧ w'.cell? ⟨gb664, 5, none⟩ = some (.slice (some ad687) t660.length co14) ∧ w'.cell? ad687 = some (.int .i64 ((rd_T41 t660 0).f0)) ∧ w'.cell? ⟨ad687.block, ad687.off + 1, none⟩ = some (.int .i64 ((rd_T41 t660 0).f1)) ∧ w'.cell? ⟨ad687.block, ad687.off + 2, none⟩ = some (.bool ((rd_T41 t660 0).f2)) ∧ w'.cell? ⟨ad687.block, ad687.off + 3, none⟩ = some (.slice A687_3 ((rd_T41 t660 0).f3).length c687_3) ∧ w'.cell? ⟨ad687.block, ad687.off + 4, none⟩ = some (.bool ((rd_T41 t660 0).f4)) ∧ w'.cell? ⟨ad687.block, ad687.off + 5, none⟩ = some (.slice A687_5 ((rd_T41 t660 0).f5).length c687_5)) ∧ (Kd.V (Kd.int .i64) 3 w' w.heap.size (fun k_ => some k_ ≠ (.slice Ao12 t652.length co12 : Value).ownBlock ∧ some k_ ≠ (.slice (some ad687) t660.length co14 : Value).ownBlock ∧ some k_ ≠ (.slice Ao20 t670.length co20 : Value).ownBlock ∧ some k_ ≠ (.slice Ao30 t680.length co30 : Value).ownBlock ∧ k_ ≠ gb663 ∧ k_ ≠ gb664 ∧ k_ ≠ gb674 ∧ k_ ≠ gb684 ∧ k_ ≠ s_) (.slice A687_3 ((rd_T41 t660 0).f3).length c687_3) ((rd_T41 t660 0).f3)) ∧ (Kd.V (Kd.int .i64) 3 w' w.heap.size (fun k_ => some k_ ≠ (.slice Ao12 t652.length co12 : Value).ownBlock ∧ some k_ ≠ (.slice (some ad687) t660.length co14 : Value).ownBlock ∧ some k_ ≠ (.slice Ao20 t670.length co20 : Value).ownBlock ∧ some k_ ≠ (.slice Ao30 t680.length co30 : Value).ownBlock ∧ k_ ≠ gb663 ∧ k_ ≠ gb664 ∧ k_ ≠ gb674 ∧ k_ ≠ gb684 ∧ k_ ≠ s_) (.slice A687_5 ((rd_T41 t660 0).f5).length c687_5) ((rd_T41 t660 0).f5)) ∧ (Kd.N k41 41 w' w.heap.size (fun k_ => some k_ ≠ (.slice (some ad687) t660.length co14 : Value).ownBlock ∧ some k_ ≠ (.slice Ao20 t670.length co20 : Value).ownBlock ∧ some k_ ≠ (.slice Ao30 t680.length co30 : Value).ownBlock ∧ k_ ≠ gb663 ∧ k_ ≠ gb664 ∧ k_ ≠ gb674 ∧ k_ ≠ gb684 ∧ k_ ≠ s_) (.slice Ao12 t652.length co12) t652) ∧ (Kd.N k41 41 w' w.heap.size (fun k_ => some k_ ≠ (.slice Ao12 t652.length co12 : Value).ownBlock ∧ some k_ ≠ (.slice Ao20 t670.length co20 : Value).ownBlock ∧ some k_ ≠ (.slice Ao30 t680.length co30 : Value).ownBlock ∧ k_ ≠ gb663 ∧ k_ ≠ gb664 ∧ k_ ≠ gb674 ∧ k_ ≠ gb684 ∧ k_ ≠ s_) (.slice (some ad687) t660.length co14) t660) ∧ (Kd.N k41 41 w' w.heap.size (fun k_ => some k_ ≠ (.slice Ao12 t652.length co12 : Value).ownBlock ∧ some k_ ≠ (.slice (some ad687) t660.length co14 : Value).ownBlock ∧ some k_ ≠ (.slice Ao30 t680.length co30 : Value).ownBlock ∧ k_ ≠ gb663 ∧ k_ ≠ gb664 ∧ k_ ≠ gb674 ∧ k_ ≠ gb684 ∧ k_ ≠ s_) (.slice Ao20 t670.length co20) t670) ∧ (Kd.N k41 41 w' w.heap.size (fun k_ => some k_ ≠ (.slice Ao20 t670.length co20 : Value).ownBlock ∧ k_ ≠ gb663 ∧ k_ ≠ gb664 ∧ k_ ≠ gb674 ∧ k_ ≠ gb684 ∧ k_ ≠ s_) (.slice Ao30 t680.length co30) t680) ∧ (w'.heap[gb663]? = some (.cells #[.bool t647, .bool t648, .int .i64 t649, .int .i64 t650, .int .i64 t651, .slice Ao12 t652.length co12] 25 (0, 0))) ∧ (w'.heap[gb664]? = some (.cells #[.bool t655, .bool t656, .int .i64 t657, .int .i64 t658, .int .i64 t659, .slice (some ad687) t660.length co14] 25 (0, 0))) ∧ (w'.heap[gb674]? = some (.cells #[.bool t665, .bool t666, .int .i64 t667, .int .i64 t668, .int .i64 t669, .slice Ao20 t670.length co20] 25 (0, 0))) ∧ (w'.heap[gb684]? = some (.cells #[.bool t675, .bool t676, .int .i64 t677, .int .i64 t678, .int .i64 t679, .slice Ao30 t680.length co30] 25 (0, 0))) ∧ (w'.heap[s_]? = some (.cells #[.bool false, .bool false, .int .i64 0, .int .i64 0, .int .i64 0, .slice none 0 0] 25 (0, 0))) ∧ (w.heap.size ≤ s_) ∧ (w.heap.size ≤ s_) ∧ (gb663 ≠ s_) ∧ (s_ ≠ gb663) ∧ (gb664 ≠ s_) ∧ (s_ ≠ gb664) ∧ (gb674 ≠ s_) ∧ (s_ ≠ gb674) ∧ (gb684 ≠ s_) ∧ (s_ ≠ gb684) ∧ (Below w.heap.size w w')) ?_ ?_
            rotate_left
            ·intro hJ12
             refine three_ (i := 6) (j := 11) (k := 12) (Ni := some 60) (Nj := some 9) (Nk := some 10) #[true, true, true, true, true, true, true, false, false, false, false, false, false, false, false, false] #[true, true, true, true, true, true, false, false, false, false, false, true, false, false, false, false] #[true, true, true, true, true, true, false, false, false, false, false, false, true, false, false, false] rfl rfl rfl rfl rfl rfl (three_of HT_.out (by kernel_rfl)) (by decide) (by decide) (by decide) (fun K hK => ?_) (fun K hK => ?_) (fun K hK => ?_)
             ·skip
              refine goes_ Tryd.func9 (by kernel_rfl) rfl #[.agg #[.bool t665, .bool t666, .int .i64 t667, .int .i64 t668, .int .i64 t669, .slice Ao20 t670.length co20], .int .i64 ((rd_T41 t660 0).f0)] (by rfl) rfl rfl tq ?_
              with_reducible refine (impl_BatchCut.calls (hE := ?sideE) kj5 t665 t666 t667 t668 t669 _ _ t670 ((rd_T41 t660 0).f0) t688 t689 t690 t691 t692 t693 t696 t697 t698 t699 t700 t701 t704 _ ?side1 ?side2 A62.out).mono ?_
              case sideE => exact ErrOk.below (HE.out.sub (by decide)) zb
              (case side1 => repeat (first | exact (Kd.N_reads' HO_675005.out).2.2 | (with_reducible refine Kd.C_alloc ?_ _) | (with_reducible refine Kd.C_drewN ?_ _) | (with_reducible refine Kd.C_drew ?_)))
              (case side2 => exact (Kd.N_reads' HO_675005.out).2.1)
              rintro e w68 ⟨v694, v702, rfl, ho0, ho1, hb⟩
              have HS12_ := tcb hb hHeld.2.2.2.2.2.2.2.2.2.2.2.2.1
              have HS13_ := tcb hb hHeld.2.2.2.2.2.2.2.2.2.2.2.2.2.1
              have HS14_ := tcb hb hHeld.2.2.2.2.2.2.2.2.2.2.2.2.2.2.1
              have HS15_ := tcb hb hHeld.2.2.2.2.2.2.2.2.2.2.2.2.2.2.2.1
              have HS16_ := tcb hb hHeld.2.2.2.2.2.2.2.2.2.2.2.2.2.2.2.2.1
              have HS17_ := tcb hb hHeld.2.2.2.2.2.2.2.2.2.2.2.2.2.2.2.2.2
              refine ⟨_, rfl, ?_⟩
              replace HL687_3 := Aside0.mk (Kd.V_mono (Kd.V_told (Kd.V_told (Kd.V_old (tV HL687_3.out) hb) (tb ho0)) (tb ho1)) (fun _ h_ => h_.1))
              replace HL687_5 := Aside0.mk (Kd.V_mono (Kd.V_told (Kd.V_told (Kd.V_old (tV HL687_5.out) hb) (tb ho0)) (tb ho1)) (fun _ h_ => h_.1))
              have HO695 := Aside0.mk (Kd.N_lower (Kd.N_mono (ok' := fun k_ => some k_ ≠ (v702 : Value).ownBlock ∧ some k_ ≠ (.slice Ao12 t652.length co12 : Value).ownBlock ∧ some k_ ≠ (.slice (some ad687) t660.length co14 : Value).ownBlock ∧ some k_ ≠ (.slice Ao20 t670.length co20 : Value).ownBlock ∧ some k_ ≠ (.slice Ao30 t680.length co30 : Value).ownBlock ∧ k_ ≠ gb663 ∧ k_ ≠ gb664 ∧ k_ ≠ gb674 ∧ k_ ≠ gb684) (Kd.S_N (Kd.S_bound ho0)) (fun k_ hk_ => ⟨hk_.1, (tfr HO_664005 k_ hk_.2.1), (tfr HO_665005 k_ hk_.2.1), (tfr HO_675005 k_ hk_.2.1), (tfr HO_685005 k_ hk_.2.1), (tfB BK663 k_ hk_.2.1), (tfB BK664 k_ hk_.2.1), (tfB BK674 k_ hk_.2.1), (tfB BK684 k_ hk_.2.1)⟩)) (below_size zb))
              have HO703 := Aside0.mk (Kd.N_lower (Kd.N_mono (ok' := fun k_ => some k_ ≠ (v694 : Value).ownBlock ∧ some k_ ≠ (.slice Ao12 t652.length co12 : Value).ownBlock ∧ some k_ ≠ (.slice (some ad687) t660.length co14 : Value).ownBlock ∧ some k_ ≠ (.slice Ao20 t670.length co20 : Value).ownBlock ∧ some k_ ≠ (.slice Ao30 t680.length co30 : Value).ownBlock ∧ k_ ≠ gb663 ∧ k_ ≠ gb664 ∧ k_ ≠ gb674 ∧ k_ ≠ gb684) (Kd.S_N (Kd.S_bound ho1)) (fun k_ hk_ => ⟨hk_.1, (tfr HO_664005 k_ hk_.2.1), (tfr HO_665005 k_ hk_.2.1), (tfr HO_675005 k_ hk_.2.1), (tfr HO_685005 k_ hk_.2.1), (tfB BK663 k_ hk_.2.1), (tfB BK664 k_ hk_.2.1), (tfB BK674 k_ hk_.2.1), (tfB BK684 k_ hk_.2.1)⟩)) (below_size zb))
              replace HO_664005 := Aside0.mk (Kd.N_mono (Kd.N_told (Kd.N_told (Kd.N_old (tN HO_664005.out) hb) (tb ho0)) (tb ho1)) (fun _ h_ => h_.1))
              replace HO_665005 := Aside0.mk (Kd.N_mono (Kd.N_told (Kd.N_told (Kd.N_old (tN HO_665005.out) hb) (tb ho0)) (tb ho1)) (fun _ h_ => h_.1))
              replace HO_675005 := Aside0.mk (Kd.N_mono (Kd.N_told (Kd.N_told (Kd.N_old (tN HO_675005.out) hb) (tb ho0)) (tb ho1)) (fun _ h_ => h_.1))
              replace HO_685005 := Aside0.mk (Kd.N_mono (Kd.N_told (Kd.N_told (Kd.N_old (tN HO_685005.out) hb) (tb ho0)) (tb ho1)) (fun _ h_ => h_.1))
              replace BK663 := tBb BK663 hb
              replace BK664 := tBb BK664 hb
              replace BK674 := tBb BK674 hb
              replace BK684 := tBb BK684 hb
              replace HR687_3 := tCb HR687_3 hb
              replace HR687_5 := tCb HR687_5 hb
              replace HB := tBs HB hb
              (try clear hb)
              (try clear hb2)
              (try clear hk)
              (try clear hi)
              (try clear ho0)
              (try clear ho1)
              refine hK.out _ _ ⟨(blk_cell BK674.out 0).trans rfl, (blk_cell BK674.out 1).trans rfl, (blk_cell BK674.out 2).trans rfl, (blk_cell BK674.out 3).trans rfl, (blk_cell BK674.out 4).trans rfl, (blk_cell BK674.out 5).trans rfl, (blk_cell BK664.out 0).trans rfl, (blk_cell BK664.out 1).trans rfl, (blk_cell BK664.out 2).trans rfl, (blk_cell BK664.out 3).trans rfl, (blk_cell BK664.out 4).trans rfl, (blk_cell BK664.out 5).trans rfl, HS12_, HS13_, HS14_, HS15_, HS16_, HS17_⟩ (fun hHeld => ?_)
              clear hK K
              refine tnm (some 60) ?_
              refine tpu 7 (some 53) #[true, true, true, true, true, true, true, true, false, false, false, false, false, false, false, false] ?_
              refine tpu 8 (some 61) #[true, true, true, true, true, true, true, true, true, false, false, false, false, false, false, false] ?_
              refine tpu 9 (some 62) #[true, true, true, true, true, true, true, true, true, true, false, false, false, false, false, false] ?_
              refine tpu 10 (some 63) #[true, true, true, true, true, true, true, true, true, true, true, false, false, false, false, false] ?_
              exact tnx (hJ6 (v694, v702) _ ⟨hHeld, (tVm HL687_3.out), (tVm HL687_5.out), (tN HO695.out), (tN HO703.out), (tNm HO_664005.out), (tNm HO_665005.out), (tNm HO_675005.out), (tNm HO_685005.out), (tH BK663.out), (tH BK664.out), (tH BK674.out), (tH BK684.out), zb⟩)
             ·skip
              refine box_step ?hg (N := 9) ?hd (cs := #[.bool false, .bool false, .int .i64 0, .int .i64 0, .int .i64 0, .slice none 0 0]) (t := 25) ?hr ?_; (case hd => rfl); (case hg => rfl); (case hr => first | (go_simp; done) | (go_simp; rfl))
              intro gb705 hg w68 hbox hb
              have HS12_ := tcb hb hHeld.2.2.2.2.2.2.2.2.2.2.2.2.1
              have HS13_ := tcb hb hHeld.2.2.2.2.2.2.2.2.2.2.2.2.2.1
              have HS14_ := tcb hb hHeld.2.2.2.2.2.2.2.2.2.2.2.2.2.2.1
              have HS15_ := tcb hb hHeld.2.2.2.2.2.2.2.2.2.2.2.2.2.2.2.1
              have HS16_ := tcb hb hHeld.2.2.2.2.2.2.2.2.2.2.2.2.2.2.2.2.1
              have HS17_ := tcb hb hHeld.2.2.2.2.2.2.2.2.2.2.2.2.2.2.2.2.2
              replace HO_664005 := tNB HO_664005 hg hb
              replace HO_665005 := tNB HO_665005 hg hb
              replace HO_675005 := tNB HO_675005 hg hb
              replace HO_685005 := tNB HO_685005 hg hb
              replace HL687_3 := tVB HL687_3 hg hb
              replace HL687_5 := tVB HL687_5 hg hb
              replace HR687_3 := tCb HR687_3 hb
              replace HR687_5 := tCb HR687_5 hb
              have BK705 := Aside0.mk (hbox)
              have GW705 := tge HB hg
              have GE705 := tge HB hg
              replace HB := tBs HB hb
              have NB663_705 := tlt BK663 hg
              have NB705_663 := tgt BK663 hg
              replace BK663 := tBb BK663 hb
              have NB664_705 := tlt BK664 hg
              have NB705_664 := tgt BK664 hg
              replace BK664 := tBb BK664 hb
              have NB674_705 := tlt BK674 hg
              have NB705_674 := tgt BK674 hg
              replace BK674 := tBb BK674 hb
              have NB684_705 := tlt BK684 hg
              have NB705_684 := tgt BK684 hg
              replace BK684 := tBb BK684 hb
              clear hb hbox hg
              refine hK.out _ _ ⟨(blk_cell BK674.out 0).trans rfl, (blk_cell BK674.out 1).trans rfl, (blk_cell BK674.out 2).trans rfl, (blk_cell BK674.out 3).trans rfl, (blk_cell BK674.out 4).trans rfl, (blk_cell BK674.out 5).trans rfl, (blk_cell BK664.out 0).trans rfl, (blk_cell BK664.out 1).trans rfl, (blk_cell BK664.out 2).trans rfl, (blk_cell BK664.out 3).trans rfl, (blk_cell BK664.out 4).trans rfl, (blk_cell BK664.out 5).trans rfl, HS12_, HS13_, HS14_, HS15_, HS16_, HS17_⟩ (fun hHeld => ?_)
              clear hK K
              refine tnm (some 9) ?_
              exact tnx (hJ11 (gb705) _ ⟨hHeld, (tVm HL687_3.out), (tVm HL687_5.out), (tNm HO_664005.out), (tNm HO_665005.out), (tNm HO_675005.out), (tNm HO_685005.out), (tH BK663.out), (tH BK664.out), (tH BK674.out), (tH BK684.out), (tH BK705.out), GW705.out, GE705.out, NB663_705.out, NB705_663.out, NB664_705.out, NB705_664.out, NB674_705.out, NB705_674.out, NB684_705.out, NB705_684.out, zb⟩)
             ·skip
              refine box_step ?hg (N := 10) ?hd (cs := #[.bool false, .bool false, .int .i64 0, .int .i64 0, .int .i64 0, .slice none 0 0]) (t := 25) ?hr ?_; (case hd => rfl); (case hg => rfl); (case hr => first | (go_simp; done) | (go_simp; rfl))
              intro gb706 hg w68 hbox hb
              have HS12_ := tcb hb hHeld.2.2.2.2.2.2.2.2.2.2.2.2.1
              have HS13_ := tcb hb hHeld.2.2.2.2.2.2.2.2.2.2.2.2.2.1
              have HS14_ := tcb hb hHeld.2.2.2.2.2.2.2.2.2.2.2.2.2.2.1
              have HS15_ := tcb hb hHeld.2.2.2.2.2.2.2.2.2.2.2.2.2.2.2.1
              have HS16_ := tcb hb hHeld.2.2.2.2.2.2.2.2.2.2.2.2.2.2.2.2.1
              have HS17_ := tcb hb hHeld.2.2.2.2.2.2.2.2.2.2.2.2.2.2.2.2.2
              replace HO_664005 := tNB HO_664005 hg hb
              replace HO_665005 := tNB HO_665005 hg hb
              replace HO_675005 := tNB HO_675005 hg hb
              replace HO_685005 := tNB HO_685005 hg hb
              replace HL687_3 := tVB HL687_3 hg hb
              replace HL687_5 := tVB HL687_5 hg hb
              replace HR687_3 := tCb HR687_3 hb
              replace HR687_5 := tCb HR687_5 hb
              have BK706 := Aside0.mk (hbox)
              have GW706 := tge HB hg
              have GE706 := tge HB hg
              replace HB := tBs HB hb
              have NB663_706 := tlt BK663 hg
              have NB706_663 := tgt BK663 hg
              replace BK663 := tBb BK663 hb
              have NB664_706 := tlt BK664 hg
              have NB706_664 := tgt BK664 hg
              replace BK664 := tBb BK664 hb
              have NB674_706 := tlt BK674 hg
              have NB706_674 := tgt BK674 hg
              replace BK674 := tBb BK674 hb
              have NB684_706 := tlt BK684 hg
              have NB706_684 := tgt BK684 hg
              replace BK684 := tBb BK684 hb
              clear hb hbox hg
              refine hK.out _ _ ⟨(blk_cell BK674.out 0).trans rfl, (blk_cell BK674.out 1).trans rfl, (blk_cell BK674.out 2).trans rfl, (blk_cell BK674.out 3).trans rfl, (blk_cell BK674.out 4).trans rfl, (blk_cell BK674.out 5).trans rfl, (blk_cell BK664.out 0).trans rfl, (blk_cell BK664.out 1).trans rfl, (blk_cell BK664.out 2).trans rfl, (blk_cell BK664.out 3).trans rfl, (blk_cell BK664.out 4).trans rfl, (blk_cell BK664.out 5).trans rfl, HS12_, HS13_, HS14_, HS15_, HS16_, HS17_⟩ (fun hHeld => ?_)
              clear hK K
              refine tnm (some 10) ?_
              exact tnx (hJ12 (gb706) _ ⟨hHeld, (tVm HL687_3.out), (tVm HL687_5.out), (tNm HO_664005.out), (tNm HO_665005.out), (tNm HO_675005.out), (tNm HO_685005.out), (tH BK663.out), (tH BK664.out), (tH BK674.out), (tH BK684.out), (tH BK706.out), GW706.out, GE706.out, NB663_706.out, NB706_663.out, NB664_706.out, NB706_664.out, NB674_706.out, NB706_674.out, NB684_706.out, NB706_684.out, zb⟩)
            ·skip
             rintro gb706 w69 ⟨hS_, h0_, h1_, h2_, h3_, h4_, h5_, h6_, h7_, h8_, h9_, h10_, h11_, h12_, h13_, h14_, h15_, h16_, h17_, h18_, h19_, h20_, h21_⟩
             try dsimp only at hS_ h0_ h1_ h2_ h3_ h4_ h5_ h6_ h7_ h8_ h9_ h10_ h11_ h12_ h13_ h14_ h15_ h16_ h17_ h18_ h19_ h20_ h21_
             clear HO_664005 HO_665005 HO_675005 HO_685005 BK663 BK664 BK674 BK684 HB
             have HL687_3 := Aside0.mk h0_
             have HL687_5 := Aside0.mk h1_
             have HO_664005 := Aside0.mk h2_
             have HO_665005 := Aside0.mk h3_
             have HO_675005 := Aside0.mk h4_
             have HO_685005 := Aside0.mk h5_
             have BK663 := Aside0.mk h6_
             have BK664 := Aside0.mk h7_
             have BK674 := Aside0.mk h8_
             have BK684 := Aside0.mk h9_
             have BK706 := Aside0.mk h10_
             have GW706 := Aside0.mk h11_
             have GE706 := Aside0.mk h12_
             have NB663_706 := Aside0.mk h13_
             have NB706_663 := Aside0.mk h14_
             have NB664_706 := Aside0.mk h15_
             have NB706_664 := Aside0.mk h16_
             have NB674_706 := Aside0.mk h17_
             have NB706_674 := Aside0.mk h18_
             have NB684_706 := Aside0.mk h19_
             have NB706_684 := Aside0.mk h20_
             have HB := Aside0.mk h21_
             clear h0_ h1_ h2_ h3_ h4_ h5_ h6_ h7_ h8_ h9_ h10_ h11_ h12_ h13_ h14_ h15_ h16_ h17_ h18_ h19_ h20_ h21_
             have hHeld := hS_
             refine tnp ?_
             refine two_ (i := 6) (j := 11) (Ni := some 60) (Nj := some 9) #[true, true, true, true, true, true, true, false, false, false, false, false, true, false, false, false] #[true, true, true, true, true, true, false, false, false, false, false, true, true, false, false, false] rfl rfl rfl rfl (two_of HT_.out (by kernel_rfl)) (by decide) (by decide) (fun K hK => ?_) (fun K hK => ?_)
             ·skip
              refine goes_ Tryd.func9 (by kernel_rfl) rfl #[.agg #[.bool t665, .bool t666, .int .i64 t667, .int .i64 t668, .int .i64 t669, .slice Ao20 t670.length co20], .int .i64 ((rd_T41 t660 0).f0)] (by rfl) rfl rfl tq ?_
              with_reducible refine (impl_BatchCut.calls (hE := ?sideE) kj5 t665 t666 t667 t668 t669 _ _ t670 ((rd_T41 t660 0).f0) t688 t689 t690 t691 t692 t693 t696 t697 t698 t699 t700 t701 t704 _ ?side1 ?side2 A62.out).mono ?_
              case sideE => exact ErrOk.below (HE.out.sub (by decide)) zb
              (case side1 => repeat (first | exact (Kd.N_reads' HO_675005.out).2.2 | (with_reducible refine Kd.C_alloc ?_ _) | (with_reducible refine Kd.C_drewN ?_ _) | (with_reducible refine Kd.C_drew ?_)))
              (case side2 => exact (Kd.N_reads' HO_675005.out).2.1)
              rintro e w70 ⟨v694, v702, rfl, ho0, ho1, hb⟩
              have HS12_ := tcb hb hHeld.2.2.2.2.2.2.2.2.2.2.2.2.1
              have HS13_ := tcb hb hHeld.2.2.2.2.2.2.2.2.2.2.2.2.2.1
              have HS14_ := tcb hb hHeld.2.2.2.2.2.2.2.2.2.2.2.2.2.2.1
              have HS15_ := tcb hb hHeld.2.2.2.2.2.2.2.2.2.2.2.2.2.2.2.1
              have HS16_ := tcb hb hHeld.2.2.2.2.2.2.2.2.2.2.2.2.2.2.2.2.1
              have HS17_ := tcb hb hHeld.2.2.2.2.2.2.2.2.2.2.2.2.2.2.2.2.2
              refine ⟨_, rfl, ?_⟩
              replace HL687_3 := Aside0.mk (Kd.V_mono (Kd.V_told (Kd.V_told (Kd.V_old (tV HL687_3.out) hb) (tb ho0)) (tb ho1)) (fun _ h_ => h_.1))
              replace HL687_5 := Aside0.mk (Kd.V_mono (Kd.V_told (Kd.V_told (Kd.V_old (tV HL687_5.out) hb) (tb ho0)) (tb ho1)) (fun _ h_ => h_.1))
              have HO695 := Aside0.mk (Kd.N_lower (Kd.N_mono (ok' := fun k_ => some k_ ≠ (v702 : Value).ownBlock ∧ some k_ ≠ (.slice Ao12 t652.length co12 : Value).ownBlock ∧ some k_ ≠ (.slice (some ad687) t660.length co14 : Value).ownBlock ∧ some k_ ≠ (.slice Ao20 t670.length co20 : Value).ownBlock ∧ some k_ ≠ (.slice Ao30 t680.length co30 : Value).ownBlock ∧ k_ ≠ gb663 ∧ k_ ≠ gb664 ∧ k_ ≠ gb674 ∧ k_ ≠ gb684 ∧ k_ ≠ gb706) (Kd.S_N (Kd.S_bound ho0)) (fun k_ hk_ => ⟨hk_.1, (tfr HO_664005 k_ hk_.2.1), (tfr HO_665005 k_ hk_.2.1), (tfr HO_675005 k_ hk_.2.1), (tfr HO_685005 k_ hk_.2.1), (tfB BK663 k_ hk_.2.1), (tfB BK664 k_ hk_.2.1), (tfB BK674 k_ hk_.2.1), (tfB BK684 k_ hk_.2.1), (tfB BK706 k_ hk_.2.1)⟩)) (below_size zb))
              have HO703 := Aside0.mk (Kd.N_lower (Kd.N_mono (ok' := fun k_ => some k_ ≠ (v694 : Value).ownBlock ∧ some k_ ≠ (.slice Ao12 t652.length co12 : Value).ownBlock ∧ some k_ ≠ (.slice (some ad687) t660.length co14 : Value).ownBlock ∧ some k_ ≠ (.slice Ao20 t670.length co20 : Value).ownBlock ∧ some k_ ≠ (.slice Ao30 t680.length co30 : Value).ownBlock ∧ k_ ≠ gb663 ∧ k_ ≠ gb664 ∧ k_ ≠ gb674 ∧ k_ ≠ gb684 ∧ k_ ≠ gb706) (Kd.S_N (Kd.S_bound ho1)) (fun k_ hk_ => ⟨hk_.1, (tfr HO_664005 k_ hk_.2.1), (tfr HO_665005 k_ hk_.2.1), (tfr HO_675005 k_ hk_.2.1), (tfr HO_685005 k_ hk_.2.1), (tfB BK663 k_ hk_.2.1), (tfB BK664 k_ hk_.2.1), (tfB BK674 k_ hk_.2.1), (tfB BK684 k_ hk_.2.1), (tfB BK706 k_ hk_.2.1)⟩)) (below_size zb))
              replace HO_664005 := Aside0.mk (Kd.N_mono (Kd.N_told (Kd.N_told (Kd.N_old (tN HO_664005.out) hb) (tb ho0)) (tb ho1)) (fun _ h_ => h_.1))
              replace HO_665005 := Aside0.mk (Kd.N_mono (Kd.N_told (Kd.N_told (Kd.N_old (tN HO_665005.out) hb) (tb ho0)) (tb ho1)) (fun _ h_ => h_.1))
              replace HO_675005 := Aside0.mk (Kd.N_mono (Kd.N_told (Kd.N_told (Kd.N_old (tN HO_675005.out) hb) (tb ho0)) (tb ho1)) (fun _ h_ => h_.1))
              replace HO_685005 := Aside0.mk (Kd.N_mono (Kd.N_told (Kd.N_told (Kd.N_old (tN HO_685005.out) hb) (tb ho0)) (tb ho1)) (fun _ h_ => h_.1))
              replace BK663 := tBb BK663 hb
              replace BK664 := tBb BK664 hb
              replace BK674 := tBb BK674 hb
              replace BK684 := tBb BK684 hb
              replace BK706 := tBb BK706 hb
              replace HB := tBs HB hb
              (try clear hb)
              (try clear hb2)
              (try clear hk)
              (try clear hi)
              (try clear ho0)
              (try clear ho1)
              refine hK.out _ _ ⟨(blk_cell BK674.out 0).trans rfl, (blk_cell BK674.out 1).trans rfl, (blk_cell BK674.out 2).trans rfl, (blk_cell BK674.out 3).trans rfl, (blk_cell BK674.out 4).trans rfl, (blk_cell BK674.out 5).trans rfl, (blk_cell BK664.out 0).trans rfl, (blk_cell BK664.out 1).trans rfl, (blk_cell BK664.out 2).trans rfl, (blk_cell BK664.out 3).trans rfl, (blk_cell BK664.out 4).trans rfl, (blk_cell BK664.out 5).trans rfl, HS12_, HS13_, HS14_, HS15_, HS16_, HS17_⟩ (fun hHeld => ?_)
              clear hK K
              refine tnm (some 60) ?_
              refine tpu 7 (some 53) #[true, true, true, true, true, true, true, true, false, false, false, false, true, false, false, false] ?_
              refine tpu 8 (some 61) #[true, true, true, true, true, true, true, true, true, false, false, false, true, false, false, false] ?_
              refine tpu 9 (some 62) #[true, true, true, true, true, true, true, true, true, true, false, false, true, false, false, false] ?_
              refine tpu 10 (some 63) #[true, true, true, true, true, true, true, true, true, true, true, false, true, false, false, false] ?_
              exact tnx (hJ6_12 (v694, v702, gb706) _ ⟨hHeld, (tVm HL687_3.out), (tVm HL687_5.out), (tN HO695.out), (tN HO703.out), (tNm HO_664005.out), (tNm HO_665005.out), (tNm HO_675005.out), (tNm HO_685005.out), (tH BK663.out), (tH BK664.out), (tH BK674.out), (tH BK684.out), (tH BK706.out), GW706.out, GE706.out, NB663_706.out, NB706_663.out, NB664_706.out, NB706_664.out, NB674_706.out, NB706_674.out, NB684_706.out, NB706_684.out, zb⟩)
             ·skip
              refine box_step ?hg (N := 9) ?hd (cs := #[.bool false, .bool false, .int .i64 0, .int .i64 0, .int .i64 0, .slice none 0 0]) (t := 25) ?hr ?_; (case hd => rfl); (case hg => rfl); (case hr => first | (go_simp; done) | (go_simp; rfl))
              intro gb705 hg w70 hbox hb
              have HS12_ := tcb hb hHeld.2.2.2.2.2.2.2.2.2.2.2.2.1
              have HS13_ := tcb hb hHeld.2.2.2.2.2.2.2.2.2.2.2.2.2.1
              have HS14_ := tcb hb hHeld.2.2.2.2.2.2.2.2.2.2.2.2.2.2.1
              have HS15_ := tcb hb hHeld.2.2.2.2.2.2.2.2.2.2.2.2.2.2.2.1
              have HS16_ := tcb hb hHeld.2.2.2.2.2.2.2.2.2.2.2.2.2.2.2.2.1
              have HS17_ := tcb hb hHeld.2.2.2.2.2.2.2.2.2.2.2.2.2.2.2.2.2
              replace HO_664005 := tNB HO_664005 hg hb
              replace HO_665005 := tNB HO_665005 hg hb
              replace HO_675005 := tNB HO_675005 hg hb
              replace HO_685005 := tNB HO_685005 hg hb
              replace HL687_3 := tVB HL687_3 hg hb
              replace HL687_5 := tVB HL687_5 hg hb
              have BK705 := Aside0.mk (hbox)
              have GW705 := tge HB hg
              have GE705 := tge HB hg
              replace HB := tBs HB hb
              have NB663_705 := tlt BK663 hg
              have NB705_663 := tgt BK663 hg
              replace BK663 := tBb BK663 hb
              have NB664_705 := tlt BK664 hg
              have NB705_664 := tgt BK664 hg
              replace BK664 := tBb BK664 hb
              have NB674_705 := tlt BK674 hg
              have NB705_674 := tgt BK674 hg
              replace BK674 := tBb BK674 hb
              have NB684_705 := tlt BK684 hg
              have NB705_684 := tgt BK684 hg
              replace BK684 := tBb BK684 hb
              have NB706_705 := tlt BK706 hg
              have NB705_706 := tgt BK706 hg
              replace BK706 := tBb BK706 hb
              clear hb hbox hg
              refine hK.out _ _ ⟨(blk_cell BK674.out 0).trans rfl, (blk_cell BK674.out 1).trans rfl, (blk_cell BK674.out 2).trans rfl, (blk_cell BK674.out 3).trans rfl, (blk_cell BK674.out 4).trans rfl, (blk_cell BK674.out 5).trans rfl, (blk_cell BK664.out 0).trans rfl, (blk_cell BK664.out 1).trans rfl, (blk_cell BK664.out 2).trans rfl, (blk_cell BK664.out 3).trans rfl, (blk_cell BK664.out 4).trans rfl, (blk_cell BK664.out 5).trans rfl, HS12_, HS13_, HS14_, HS15_, HS16_, HS17_⟩ (fun hHeld => ?_)
              clear hK K
              refine tnm (some 9) ?_
              exact tnx (hJ11_12 (gb705, gb706) _ ⟨hHeld, (tVm HL687_3.out), (tVm HL687_5.out), (tNm HO_664005.out), (tNm HO_665005.out), (tNm HO_675005.out), (tNm HO_685005.out), (tH BK663.out), (tH BK664.out), (tH BK674.out), (tH BK684.out), (tH BK705.out), (tH BK706.out), GW705.out, GE705.out, NB663_705.out, NB705_663.out, NB664_705.out, NB705_664.out, NB674_705.out, NB705_674.out, NB684_705.out, NB705_684.out, NB706_705.out, NB705_706.out, GW706.out, GE706.out, NB663_706.out, NB706_663.out, NB664_706.out, NB706_664.out, NB674_706.out, NB706_674.out, NB684_706.out, NB706_684.out, zb⟩)
           ·skip
            rintro gb705 w69 ⟨hS_, h0_, h1_, h2_, h3_, h4_, h5_, h6_, h7_, h8_, h9_, h10_, h11_, h12_, h13_, h14_, h15_, h16_, h17_, h18_, h19_, h20_, h21_⟩
            try dsimp only at hS_ h0_ h1_ h2_ h3_ h4_ h5_ h6_ h7_ h8_ h9_ h10_ h11_ h12_ h13_ h14_ h15_ h16_ h17_ h18_ h19_ h20_ h21_
            clear HO_664005 HO_665005 HO_675005 HO_685005 BK663 BK664 BK674 BK684 HB
            have HL687_3 := Aside0.mk h0_
            have HL687_5 := Aside0.mk h1_
            have HO_664005 := Aside0.mk h2_
            have HO_665005 := Aside0.mk h3_
            have HO_675005 := Aside0.mk h4_
            have HO_685005 := Aside0.mk h5_
            have BK663 := Aside0.mk h6_
            have BK664 := Aside0.mk h7_
            have BK674 := Aside0.mk h8_
            have BK684 := Aside0.mk h9_
            have BK705 := Aside0.mk h10_
            have GW705 := Aside0.mk h11_
            have GE705 := Aside0.mk h12_
            have NB663_705 := Aside0.mk h13_
            have NB705_663 := Aside0.mk h14_
            have NB664_705 := Aside0.mk h15_
            have NB705_664 := Aside0.mk h16_
            have NB674_705 := Aside0.mk h17_
            have NB705_674 := Aside0.mk h18_
            have NB684_705 := Aside0.mk h19_
            have NB705_684 := Aside0.mk h20_
            have HB := Aside0.mk h21_
            clear h0_ h1_ h2_ h3_ h4_ h5_ h6_ h7_ h8_ h9_ h10_ h11_ h12_ h13_ h14_ h15_ h16_ h17_ h18_ h19_ h20_ h21_
            have hHeld := hS_
            refine tnp ?_
            refine two_ (i := 6) (j := 12) (Ni := some 60) (Nj := some 10) #[true, true, true, true, true, true, true, false, false, false, false, true, false, false, false, false] #[true, true, true, true, true, true, false, false, false, false, false, true, true, false, false, false] rfl rfl rfl rfl (two_of HT_.out (by kernel_rfl)) (by decide) (by decide) (fun K hK => ?_) (fun K hK => ?_)
            ·skip
             refine goes_ Tryd.func9 (by kernel_rfl) rfl #[.agg #[.bool t665, .bool t666, .int .i64 t667, .int .i64 t668, .int .i64 t669, .slice Ao20 t670.length co20], .int .i64 ((rd_T41 t660 0).f0)] (by rfl) rfl rfl tq ?_
             with_reducible refine (impl_BatchCut.calls (hE := ?sideE) kj5 t665 t666 t667 t668 t669 _ _ t670 ((rd_T41 t660 0).f0) t688 t689 t690 t691 t692 t693 t696 t697 t698 t699 t700 t701 t704 _ ?side1 ?side2 A62.out).mono ?_
             case sideE => exact ErrOk.below (HE.out.sub (by decide)) zb
             (case side1 => repeat (first | exact (Kd.N_reads' HO_675005.out).2.2 | (with_reducible refine Kd.C_alloc ?_ _) | (with_reducible refine Kd.C_drewN ?_ _) | (with_reducible refine Kd.C_drew ?_)))
             (case side2 => exact (Kd.N_reads' HO_675005.out).2.1)
             rintro e w70 ⟨v694, v702, rfl, ho0, ho1, hb⟩
             have HS12_ := tcb hb hHeld.2.2.2.2.2.2.2.2.2.2.2.2.1
             have HS13_ := tcb hb hHeld.2.2.2.2.2.2.2.2.2.2.2.2.2.1
             have HS14_ := tcb hb hHeld.2.2.2.2.2.2.2.2.2.2.2.2.2.2.1
             have HS15_ := tcb hb hHeld.2.2.2.2.2.2.2.2.2.2.2.2.2.2.2.1
             have HS16_ := tcb hb hHeld.2.2.2.2.2.2.2.2.2.2.2.2.2.2.2.2.1
             have HS17_ := tcb hb hHeld.2.2.2.2.2.2.2.2.2.2.2.2.2.2.2.2.2
             refine ⟨_, rfl, ?_⟩
             replace HL687_3 := Aside0.mk (Kd.V_mono (Kd.V_told (Kd.V_told (Kd.V_old (tV HL687_3.out) hb) (tb ho0)) (tb ho1)) (fun _ h_ => h_.1))
             replace HL687_5 := Aside0.mk (Kd.V_mono (Kd.V_told (Kd.V_told (Kd.V_old (tV HL687_5.out) hb) (tb ho0)) (tb ho1)) (fun _ h_ => h_.1))
             have HO695 := Aside0.mk (Kd.N_lower (Kd.N_mono (ok' := fun k_ => some k_ ≠ (v702 : Value).ownBlock ∧ some k_ ≠ (.slice Ao12 t652.length co12 : Value).ownBlock ∧ some k_ ≠ (.slice (some ad687) t660.length co14 : Value).ownBlock ∧ some k_ ≠ (.slice Ao20 t670.length co20 : Value).ownBlock ∧ some k_ ≠ (.slice Ao30 t680.length co30 : Value).ownBlock ∧ k_ ≠ gb663 ∧ k_ ≠ gb664 ∧ k_ ≠ gb674 ∧ k_ ≠ gb684 ∧ k_ ≠ gb705) (Kd.S_N (Kd.S_bound ho0)) (fun k_ hk_ => ⟨hk_.1, (tfr HO_664005 k_ hk_.2.1), (tfr HO_665005 k_ hk_.2.1), (tfr HO_675005 k_ hk_.2.1), (tfr HO_685005 k_ hk_.2.1), (tfB BK663 k_ hk_.2.1), (tfB BK664 k_ hk_.2.1), (tfB BK674 k_ hk_.2.1), (tfB BK684 k_ hk_.2.1), (tfB BK705 k_ hk_.2.1)⟩)) (below_size zb))
             have HO703 := Aside0.mk (Kd.N_lower (Kd.N_mono (ok' := fun k_ => some k_ ≠ (v694 : Value).ownBlock ∧ some k_ ≠ (.slice Ao12 t652.length co12 : Value).ownBlock ∧ some k_ ≠ (.slice (some ad687) t660.length co14 : Value).ownBlock ∧ some k_ ≠ (.slice Ao20 t670.length co20 : Value).ownBlock ∧ some k_ ≠ (.slice Ao30 t680.length co30 : Value).ownBlock ∧ k_ ≠ gb663 ∧ k_ ≠ gb664 ∧ k_ ≠ gb674 ∧ k_ ≠ gb684 ∧ k_ ≠ gb705) (Kd.S_N (Kd.S_bound ho1)) (fun k_ hk_ => ⟨hk_.1, (tfr HO_664005 k_ hk_.2.1), (tfr HO_665005 k_ hk_.2.1), (tfr HO_675005 k_ hk_.2.1), (tfr HO_685005 k_ hk_.2.1), (tfB BK663 k_ hk_.2.1), (tfB BK664 k_ hk_.2.1), (tfB BK674 k_ hk_.2.1), (tfB BK684 k_ hk_.2.1), (tfB BK705 k_ hk_.2.1)⟩)) (below_size zb))
             replace HO_664005 := Aside0.mk (Kd.N_mono (Kd.N_told (Kd.N_told (Kd.N_old (tN HO_664005.out) hb) (tb ho0)) (tb ho1)) (fun _ h_ => h_.1))
             replace HO_665005 := Aside0.mk (Kd.N_mono (Kd.N_told (Kd.N_told (Kd.N_old (tN HO_665005.out) hb) (tb ho0)) (tb ho1)) (fun _ h_ => h_.1))
             replace HO_675005 := Aside0.mk (Kd.N_mono (Kd.N_told (Kd.N_told (Kd.N_old (tN HO_675005.out) hb) (tb ho0)) (tb ho1)) (fun _ h_ => h_.1))
             replace HO_685005 := Aside0.mk (Kd.N_mono (Kd.N_told (Kd.N_told (Kd.N_old (tN HO_685005.out) hb) (tb ho0)) (tb ho1)) (fun _ h_ => h_.1))
             replace BK663 := tBb BK663 hb
             replace BK664 := tBb BK664 hb
             replace BK674 := tBb BK674 hb
             replace BK684 := tBb BK684 hb
             replace BK705 := tBb BK705 hb
             replace HB := tBs HB hb
             (try clear hb)
             (try clear hb2)
             (try clear hk)
             (try clear hi)
             (try clear ho0)
             (try clear ho1)
             refine hK.out _ _ ⟨(blk_cell BK674.out 0).trans rfl, (blk_cell BK674.out 1).trans rfl, (blk_cell BK674.out 2).trans rfl, (blk_cell BK674.out 3).trans rfl, (blk_cell BK674.out 4).trans rfl, (blk_cell BK674.out 5).trans rfl, (blk_cell BK664.out 0).trans rfl, (blk_cell BK664.out 1).trans rfl, (blk_cell BK664.out 2).trans rfl, (blk_cell BK664.out 3).trans rfl, (blk_cell BK664.out 4).trans rfl, (blk_cell BK664.out 5).trans rfl, HS12_, HS13_, HS14_, HS15_, HS16_, HS17_⟩ (fun hHeld => ?_)
             clear hK K
             refine tnm (some 60) ?_
             refine tpu 7 (some 53) #[true, true, true, true, true, true, true, true, false, false, false, true, false, false, false, false] ?_
             refine tpu 8 (some 61) #[true, true, true, true, true, true, true, true, true, false, false, true, false, false, false, false] ?_
             refine tpu 9 (some 62) #[true, true, true, true, true, true, true, true, true, true, false, true, false, false, false, false] ?_
             refine tpu 10 (some 63) #[true, true, true, true, true, true, true, true, true, true, true, true, false, false, false, false] ?_
             exact tnx (hJ6_11 (v694, v702, gb705) _ ⟨hHeld, (tVm HL687_3.out), (tVm HL687_5.out), (tN HO695.out), (tN HO703.out), (tNm HO_664005.out), (tNm HO_665005.out), (tNm HO_675005.out), (tNm HO_685005.out), (tH BK663.out), (tH BK664.out), (tH BK674.out), (tH BK684.out), (tH BK705.out), GW705.out, GE705.out, NB663_705.out, NB705_663.out, NB664_705.out, NB705_664.out, NB674_705.out, NB705_674.out, NB684_705.out, NB705_684.out, zb⟩)
            ·skip
             refine box_step ?hg (N := 10) ?hd (cs := #[.bool false, .bool false, .int .i64 0, .int .i64 0, .int .i64 0, .slice none 0 0]) (t := 25) ?hr ?_; (case hd => rfl); (case hg => rfl); (case hr => first | (go_simp; done) | (go_simp; rfl))
             intro gb706 hg w70 hbox hb
             have HS12_ := tcb hb hHeld.2.2.2.2.2.2.2.2.2.2.2.2.1
             have HS13_ := tcb hb hHeld.2.2.2.2.2.2.2.2.2.2.2.2.2.1
             have HS14_ := tcb hb hHeld.2.2.2.2.2.2.2.2.2.2.2.2.2.2.1
             have HS15_ := tcb hb hHeld.2.2.2.2.2.2.2.2.2.2.2.2.2.2.2.1
             have HS16_ := tcb hb hHeld.2.2.2.2.2.2.2.2.2.2.2.2.2.2.2.2.1
             have HS17_ := tcb hb hHeld.2.2.2.2.2.2.2.2.2.2.2.2.2.2.2.2.2
             replace HO_664005 := tNB HO_664005 hg hb
             replace HO_665005 := tNB HO_665005 hg hb
             replace HO_675005 := tNB HO_675005 hg hb
             replace HO_685005 := tNB HO_685005 hg hb
             replace HL687_3 := tVB HL687_3 hg hb
             replace HL687_5 := tVB HL687_5 hg hb
             have BK706 := Aside0.mk (hbox)
             have GW706 := tge HB hg
             have GE706 := tge HB hg
             replace HB := tBs HB hb
             have NB663_706 := tlt BK663 hg
             have NB706_663 := tgt BK663 hg
             replace BK663 := tBb BK663 hb
             have NB664_706 := tlt BK664 hg
             have NB706_664 := tgt BK664 hg
             replace BK664 := tBb BK664 hb
             have NB674_706 := tlt BK674 hg
             have NB706_674 := tgt BK674 hg
             replace BK674 := tBb BK674 hb
             have NB684_706 := tlt BK684 hg
             have NB706_684 := tgt BK684 hg
             replace BK684 := tBb BK684 hb
             have NB705_706 := tlt BK705 hg
             have NB706_705 := tgt BK705 hg
             replace BK705 := tBb BK705 hb
             clear hb hbox hg
             refine hK.out _ _ ⟨(blk_cell BK674.out 0).trans rfl, (blk_cell BK674.out 1).trans rfl, (blk_cell BK674.out 2).trans rfl, (blk_cell BK674.out 3).trans rfl, (blk_cell BK674.out 4).trans rfl, (blk_cell BK674.out 5).trans rfl, (blk_cell BK664.out 0).trans rfl, (blk_cell BK664.out 1).trans rfl, (blk_cell BK664.out 2).trans rfl, (blk_cell BK664.out 3).trans rfl, (blk_cell BK664.out 4).trans rfl, (blk_cell BK664.out 5).trans rfl, HS12_, HS13_, HS14_, HS15_, HS16_, HS17_⟩ (fun hHeld => ?_)
             clear hK K
             refine tnm (some 10) ?_
             exact tnx (hJ11_12 (gb705, gb706) _ ⟨hHeld, (tVm HL687_3.out), (tVm HL687_5.out), (tNm HO_664005.out), (tNm HO_665005.out), (tNm HO_675005.out), (tNm HO_685005.out), (tH BK663.out), (tH BK664.out), (tH BK674.out), (tH BK684.out), (tH BK705.out), (tH BK706.out), GW705.out, GE705.out, NB663_705.out, NB705_663.out, NB664_705.out, NB705_664.out, NB674_705.out, NB705_674.out, NB684_705.out, NB705_684.out, NB706_705.out, NB705_706.out, GW706.out, GE706.out, NB663_706.out, NB706_663.out, NB664_706.out, NB706_664.out, NB674_706.out, NB706_674.out, NB684_706.out, NB706_684.out, zb⟩)
          ·skip
           rintro ⟨v694, v702⟩ w69 ⟨hS_, h0_, h1_, h2_, h3_, h4_, h5_, h6_, h7_, h8_, h9_, h10_, h11_, h12_⟩
           try dsimp only at hS_ h0_ h1_ h2_ h3_ h4_ h5_ h6_ h7_ h8_ h9_ h10_ h11_ h12_
           clear HO_664005 HO_665005 HO_675005 HO_685005 BK663 BK664 BK674 BK684 HB
           have HL687_3 := Aside0.mk h0_
           have HL687_5 := Aside0.mk h1_
           have HO695 := Aside0.mk h2_
           have HO703 := Aside0.mk h3_
           have HO_664005 := Aside0.mk h4_
           have HO_665005 := Aside0.mk h5_
           have HO_675005 := Aside0.mk h6_
           have HO_685005 := Aside0.mk h7_
           have BK663 := Aside0.mk h8_
           have BK664 := Aside0.mk h9_
           have BK674 := Aside0.mk h10_
           have BK684 := Aside0.mk h11_
           have HB := Aside0.mk h12_
           clear h0_ h1_ h2_ h3_ h4_ h5_ h6_ h7_ h8_ h9_ h10_ h11_ h12_
           have hHeld := hS_
           refine tnp ?_
           refine two_ (i := 11) (j := 12) (Ni := some 9) (Nj := some 10) #[true, true, true, true, true, true, true, true, true, true, true, true, false, false, false, false] #[true, true, true, true, true, true, true, true, true, true, true, false, true, false, false, false] rfl rfl rfl rfl (two_of HT_.out (by kernel_rfl)) (by decide) (by decide) (fun K hK => ?_) (fun K hK => ?_)
           ·skip
            refine box_step ?hg (N := 9) ?hd (cs := #[.bool false, .bool false, .int .i64 0, .int .i64 0, .int .i64 0, .slice none 0 0]) (t := 25) ?hr ?_; (case hd => rfl); (case hg => rfl); (case hr => first | (go_simp; done) | (go_simp; rfl))
            intro gb705 hg w70 hbox hb
            have HS12_ := tcb hb hHeld.2.2.2.2.2.2.2.2.2.2.2.2.1
            have HS13_ := tcb hb hHeld.2.2.2.2.2.2.2.2.2.2.2.2.2.1
            have HS14_ := tcb hb hHeld.2.2.2.2.2.2.2.2.2.2.2.2.2.2.1
            have HS15_ := tcb hb hHeld.2.2.2.2.2.2.2.2.2.2.2.2.2.2.2.1
            have HS16_ := tcb hb hHeld.2.2.2.2.2.2.2.2.2.2.2.2.2.2.2.2.1
            have HS17_ := tcb hb hHeld.2.2.2.2.2.2.2.2.2.2.2.2.2.2.2.2.2
            replace HO_664005 := tNB HO_664005 hg hb
            replace HO_665005 := tNB HO_665005 hg hb
            replace HO_675005 := tNB HO_675005 hg hb
            replace HO_685005 := tNB HO_685005 hg hb
            replace HL687_3 := tVB HL687_3 hg hb
            replace HL687_5 := tVB HL687_5 hg hb
            replace HO695 := tNB HO695 hg hb
            replace HO703 := tNB HO703 hg hb
            have BK705 := Aside0.mk (hbox)
            have GW705 := tge HB hg
            have GE705 := tge HB hg
            replace HB := tBs HB hb
            have NB663_705 := tlt BK663 hg
            have NB705_663 := tgt BK663 hg
            replace BK663 := tBb BK663 hb
            have NB664_705 := tlt BK664 hg
            have NB705_664 := tgt BK664 hg
            replace BK664 := tBb BK664 hb
            have NB674_705 := tlt BK674 hg
            have NB705_674 := tgt BK674 hg
            replace BK674 := tBb BK674 hb
            have NB684_705 := tlt BK684 hg
            have NB705_684 := tgt BK684 hg
            replace BK684 := tBb BK684 hb
            clear hb hbox hg
            refine hK.out _ _ ⟨(blk_cell BK674.out 0).trans rfl, (blk_cell BK674.out 1).trans rfl, (blk_cell BK674.out 2).trans rfl, (blk_cell BK674.out 3).trans rfl, (blk_cell BK674.out 4).trans rfl, (blk_cell BK674.out 5).trans rfl, (blk_cell BK664.out 0).trans rfl, (blk_cell BK664.out 1).trans rfl, (blk_cell BK664.out 2).trans rfl, (blk_cell BK664.out 3).trans rfl, (blk_cell BK664.out 4).trans rfl, (blk_cell BK664.out 5).trans rfl, HS12_, HS13_, HS14_, HS15_, HS16_, HS17_⟩ (fun hHeld => ?_)
            clear hK K
            refine tnm (some 9) ?_
            exact tnx (hJ6_11 (v694, v702, gb705) _ ⟨hHeld, (tVm HL687_3.out), (tVm HL687_5.out), (tNm HO695.out), (tNm HO703.out), (tNm HO_664005.out), (tNm HO_665005.out), (tNm HO_675005.out), (tNm HO_685005.out), (tH BK663.out), (tH BK664.out), (tH BK674.out), (tH BK684.out), (tH BK705.out), GW705.out, GE705.out, NB663_705.out, NB705_663.out, NB664_705.out, NB705_664.out, NB674_705.out, NB705_674.out, NB684_705.out, NB705_684.out, zb⟩)
           ·skip
            refine box_step ?hg (N := 10) ?hd (cs := #[.bool false, .bool false, .int .i64 0, .int .i64 0, .int .i64 0, .slice none 0 0]) (t := 25) ?hr ?_; (case hd => rfl); (case hg => rfl); (case hr => first | (go_simp; done) | (go_simp; rfl))
            intro gb706 hg w70 hbox hb
            have HS12_ := tcb hb hHeld.2.2.2.2.2.2.2.2.2.2.2.2.1
            have HS13_ := tcb hb hHeld.2.2.2.2.2.2.2.2.2.2.2.2.2.1
            have HS14_ := tcb hb hHeld.2.2.2.2.2.2.2.2.2.2.2.2.2.2.1
            have HS15_ := tcb hb hHeld.2.2.2.2.2.2.2.2.2.2.2.2.2.2.2.1
            have HS16_ := tcb hb hHeld.2.2.2.2.2.2.2.2.2.2.2.2.2.2.2.2.1
            have HS17_ := tcb hb hHeld.2.2.2.2.2.2.2.2.2.2.2.2.2.2.2.2.2
            replace HO_664005 := tNB HO_664005 hg hb
            replace HO_665005 := tNB HO_665005 hg hb
            replace HO_675005 := tNB HO_675005 hg hb
            replace HO_685005 := tNB HO_685005 hg hb
            replace HL687_3 := tVB HL687_3 hg hb
            replace HL687_5 := tVB HL687_5 hg hb
            replace HO695 := tNB HO695 hg hb
            replace HO703 := tNB HO703 hg hb
            have BK706 := Aside0.mk (hbox)
            have GW706 := tge HB hg
            have GE706 := tge HB hg
            replace HB := tBs HB hb
            have NB663_706 := tlt BK663 hg
            have NB706_663 := tgt BK663 hg
            replace BK663 := tBb BK663 hb
            have NB664_706 := tlt BK664 hg
            have NB706_664 := tgt BK664 hg
            replace BK664 := tBb BK664 hb
            have NB674_706 := tlt BK674 hg
            have NB706_674 := tgt BK674 hg
            replace BK674 := tBb BK674 hb
            have NB684_706 := tlt BK684 hg
            have NB706_684 := tgt BK684 hg
            replace BK684 := tBb BK684 hb
            clear hb hbox hg
            refine hK.out _ _ ⟨(blk_cell BK674.out 0).trans rfl, (blk_cell BK674.out 1).trans rfl, (blk_cell BK674.out 2).trans rfl, (blk_cell BK674.out 3).trans rfl, (blk_cell BK674.out 4).trans rfl, (blk_cell BK674.out 5).trans rfl, (blk_cell BK664.out 0).trans rfl, (blk_cell BK664.out 1).trans rfl, (blk_cell BK664.out 2).trans rfl, (blk_cell BK664.out 3).trans rfl, (blk_cell BK664.out 4).trans rfl, (blk_cell BK664.out 5).trans rfl, HS12_, HS13_, HS14_, HS15_, HS16_, HS17_⟩ (fun hHeld => ?_)
            clear hK K
            refine tnm (some 10) ?_
            exact tnx (hJ6_12 (v694, v702, gb706) _ ⟨hHeld, (tVm HL687_3.out), (tVm HL687_5.out), (tNm HO695.out), (tNm HO703.out), (tNm HO_664005.out), (tNm HO_665005.out), (tNm HO_675005.out), (tNm HO_685005.out), (tH BK663.out), (tH BK664.out), (tH BK674.out), (tH BK684.out), (tH BK706.out), GW706.out, GE706.out, NB663_706.out, NB706_663.out, NB664_706.out, NB706_664.out, NB674_706.out, NB706_674.out, NB684_706.out, NB706_684.out, zb⟩)
         ·skip
          rintro ⟨gb705, gb706⟩ w70 ⟨hS_, h0_, h1_, h2_, h3_, h4_, h5_, h6_, h7_, h8_, h9_, h10_, h11_, h12_, h13_, h14_, h15_, h16_, h17_, h18_, h19_, h20_, h21_, h22_, h23_, h24_, h25_, h26_, h27_, h28_, h29_, h30_, h31_, h32_, h33_, h34_⟩
          try dsimp only at hS_ h0_ h1_ h2_ h3_ h4_ h5_ h6_ h7_ h8_ h9_ h10_ h11_ h12_ h13_ h14_ h15_ h16_ h17_ h18_ h19_ h20_ h21_ h22_ h23_ h24_ h25_ h26_ h27_ h28_ h29_ h30_ h31_ h32_ h33_ h34_
          clear HO_664005 HO_665005 HO_675005 HO_685005 BK663 BK664 BK674 BK684 HB
          have HL687_3 := Aside0.mk h0_
          have HL687_5 := Aside0.mk h1_
          have HO_664005 := Aside0.mk h2_
          have HO_665005 := Aside0.mk h3_
          have HO_675005 := Aside0.mk h4_
          have HO_685005 := Aside0.mk h5_
          have BK663 := Aside0.mk h6_
          have BK664 := Aside0.mk h7_
          have BK674 := Aside0.mk h8_
          have BK684 := Aside0.mk h9_
          have BK705 := Aside0.mk h10_
          have BK706 := Aside0.mk h11_
          have GW705 := Aside0.mk h12_
          have GE705 := Aside0.mk h13_
          have NB663_705 := Aside0.mk h14_
          have NB705_663 := Aside0.mk h15_
          have NB664_705 := Aside0.mk h16_
          have NB705_664 := Aside0.mk h17_
          have NB674_705 := Aside0.mk h18_
          have NB705_674 := Aside0.mk h19_
          have NB684_705 := Aside0.mk h20_
          have NB705_684 := Aside0.mk h21_
          have NB706_705 := Aside0.mk h22_
          have NB705_706 := Aside0.mk h23_
          have GW706 := Aside0.mk h24_
          have GE706 := Aside0.mk h25_
          have NB663_706 := Aside0.mk h26_
          have NB706_663 := Aside0.mk h27_
          have NB664_706 := Aside0.mk h28_
          have NB706_664 := Aside0.mk h29_
          have NB674_706 := Aside0.mk h30_
          have NB706_674 := Aside0.mk h31_
          have NB684_706 := Aside0.mk h32_
          have NB706_684 := Aside0.mk h33_
          have HB := Aside0.mk h34_
          clear h0_ h1_ h2_ h3_ h4_ h5_ h6_ h7_ h8_ h9_ h10_ h11_ h12_ h13_ h14_ h15_ h16_ h17_ h18_ h19_ h20_ h21_ h22_ h23_ h24_ h25_ h26_ h27_ h28_ h29_ h30_ h31_ h32_ h33_ h34_
          have hHeld := hS_
          refine tnp ?_
          refine one_ (i := 6) (N := some 60) #[true, true, true, true, true, true, true, false, false, false, false, true, true, false, false, false] rfl rfl (one_of HT_.out (by kernel_rfl)) (by decide) (fun K hK => ?_)
          refine goes_ Tryd.func9 (by kernel_rfl) rfl #[.agg #[.bool t665, .bool t666, .int .i64 t667, .int .i64 t668, .int .i64 t669, .slice Ao20 t670.length co20], .int .i64 ((rd_T41 t660 0).f0)] (by rfl) rfl rfl tq ?_
          with_reducible refine (impl_BatchCut.calls (hE := ?sideE) kj5 t665 t666 t667 t668 t669 _ _ t670 ((rd_T41 t660 0).f0) t688 t689 t690 t691 t692 t693 t696 t697 t698 t699 t700 t701 t704 _ ?side1 ?side2 A62.out).mono ?_
          case sideE => exact ErrOk.below (HE.out.sub (by decide)) zb
          (case side1 => repeat (first | exact (Kd.N_reads' HO_675005.out).2.2 | (with_reducible refine Kd.C_alloc ?_ _) | (with_reducible refine Kd.C_drewN ?_ _) | (with_reducible refine Kd.C_drew ?_)))
          (case side2 => exact (Kd.N_reads' HO_675005.out).2.1)
          rintro e w71 ⟨v694, v702, rfl, ho0, ho1, hb⟩
          have HS12_ := tcb hb hHeld.2.2.2.2.2.2.2.2.2.2.2.2.1
          have HS13_ := tcb hb hHeld.2.2.2.2.2.2.2.2.2.2.2.2.2.1
          have HS14_ := tcb hb hHeld.2.2.2.2.2.2.2.2.2.2.2.2.2.2.1
          have HS15_ := tcb hb hHeld.2.2.2.2.2.2.2.2.2.2.2.2.2.2.2.1
          have HS16_ := tcb hb hHeld.2.2.2.2.2.2.2.2.2.2.2.2.2.2.2.2.1
          have HS17_ := tcb hb hHeld.2.2.2.2.2.2.2.2.2.2.2.2.2.2.2.2.2
          refine ⟨_, rfl, ?_⟩
          replace HL687_3 := Aside0.mk (Kd.V_mono (Kd.V_told (Kd.V_told (Kd.V_old (tV HL687_3.out) hb) (tb ho0)) (tb ho1)) (fun _ h_ => h_.1))
          replace HL687_5 := Aside0.mk (Kd.V_mono (Kd.V_told (Kd.V_told (Kd.V_old (tV HL687_5.out) hb) (tb ho0)) (tb ho1)) (fun _ h_ => h_.1))
          have HO695 := Aside0.mk (Kd.N_lower (Kd.N_mono (ok' := fun k_ => some k_ ≠ (v702 : Value).ownBlock ∧ some k_ ≠ (.slice Ao12 t652.length co12 : Value).ownBlock ∧ some k_ ≠ (.slice (some ad687) t660.length co14 : Value).ownBlock ∧ some k_ ≠ (.slice Ao20 t670.length co20 : Value).ownBlock ∧ some k_ ≠ (.slice Ao30 t680.length co30 : Value).ownBlock ∧ k_ ≠ gb663 ∧ k_ ≠ gb664 ∧ k_ ≠ gb674 ∧ k_ ≠ gb684 ∧ k_ ≠ gb705 ∧ k_ ≠ gb706) (Kd.S_N (Kd.S_bound ho0)) (fun k_ hk_ => ⟨hk_.1, (tfr HO_664005 k_ hk_.2.1), (tfr HO_665005 k_ hk_.2.1), (tfr HO_675005 k_ hk_.2.1), (tfr HO_685005 k_ hk_.2.1), (tfB BK663 k_ hk_.2.1), (tfB BK664 k_ hk_.2.1), (tfB BK674 k_ hk_.2.1), (tfB BK684 k_ hk_.2.1), (tfB BK705 k_ hk_.2.1), (tfB BK706 k_ hk_.2.1)⟩)) (below_size zb))
          have HO703 := Aside0.mk (Kd.N_lower (Kd.N_mono (ok' := fun k_ => some k_ ≠ (v694 : Value).ownBlock ∧ some k_ ≠ (.slice Ao12 t652.length co12 : Value).ownBlock ∧ some k_ ≠ (.slice (some ad687) t660.length co14 : Value).ownBlock ∧ some k_ ≠ (.slice Ao20 t670.length co20 : Value).ownBlock ∧ some k_ ≠ (.slice Ao30 t680.length co30 : Value).ownBlock ∧ k_ ≠ gb663 ∧ k_ ≠ gb664 ∧ k_ ≠ gb674 ∧ k_ ≠ gb684 ∧ k_ ≠ gb705 ∧ k_ ≠ gb706) (Kd.S_N (Kd.S_bound ho1)) (fun k_ hk_ => ⟨hk_.1, (tfr HO_664005 k_ hk_.2.1), (tfr HO_665005 k_ hk_.2.1), (tfr HO_675005 k_ hk_.2.1), (tfr HO_685005 k_ hk_.2.1), (tfB BK663 k_ hk_.2.1), (tfB BK664 k_ hk_.2.1), (tfB BK674 k_ hk_.2.1), (tfB BK684 k_ hk_.2.1), (tfB BK705 k_ hk_.2.1), (tfB BK706 k_ hk_.2.1)⟩)) (below_size zb))
          replace HO_664005 := Aside0.mk (Kd.N_mono (Kd.N_told (Kd.N_told (Kd.N_old (tN HO_664005.out) hb) (tb ho0)) (tb ho1)) (fun _ h_ => h_.1))
          replace HO_665005 := Aside0.mk (Kd.N_mono (Kd.N_told (Kd.N_told (Kd.N_old (tN HO_665005.out) hb) (tb ho0)) (tb ho1)) (fun _ h_ => h_.1))
          replace HO_675005 := Aside0.mk (Kd.N_mono (Kd.N_told (Kd.N_told (Kd.N_old (tN HO_675005.out) hb) (tb ho0)) (tb ho1)) (fun _ h_ => h_.1))
          replace HO_685005 := Aside0.mk (Kd.N_mono (Kd.N_told (Kd.N_told (Kd.N_old (tN HO_685005.out) hb) (tb ho0)) (tb ho1)) (fun _ h_ => h_.1))
          replace BK663 := tBb BK663 hb
          replace BK664 := tBb BK664 hb
          replace BK674 := tBb BK674 hb
          replace BK684 := tBb BK684 hb
          replace BK705 := tBb BK705 hb
          replace BK706 := tBb BK706 hb
          replace HB := tBs HB hb
          (try clear hb)
          (try clear hb2)
          (try clear hk)
          (try clear hi)
          (try clear ho0)
          (try clear ho1)
          refine hK.out _ _ ⟨(blk_cell BK674.out 0).trans rfl, (blk_cell BK674.out 1).trans rfl, (blk_cell BK674.out 2).trans rfl, (blk_cell BK674.out 3).trans rfl, (blk_cell BK674.out 4).trans rfl, (blk_cell BK674.out 5).trans rfl, (blk_cell BK664.out 0).trans rfl, (blk_cell BK664.out 1).trans rfl, (blk_cell BK664.out 2).trans rfl, (blk_cell BK664.out 3).trans rfl, (blk_cell BK664.out 4).trans rfl, (blk_cell BK664.out 5).trans rfl, HS12_, HS13_, HS14_, HS15_, HS16_, HS17_⟩ (fun hHeld => ?_)
          clear hK K
          refine tnm (some 60) ?_
          refine tpu 7 (some 53) #[true, true, true, true, true, true, true, true, false, false, false, true, true, false, false, false] ?_
          refine tpu 8 (some 61) #[true, true, true, true, true, true, true, true, true, false, false, true, true, false, false, false] ?_
          refine tpu 9 (some 62) #[true, true, true, true, true, true, true, true, true, true, false, true, true, false, false, false] ?_
          refine tpu 10 (some 63) #[true, true, true, true, true, true, true, true, true, true, true, true, true, false, false, false] ?_
          exact tnx (hJ6_11_12 (v694, v702, gb705, gb706) _ ⟨hHeld, (tVm HL687_3.out), (tVm HL687_5.out), (tN HO695.out), (tN HO703.out), (tNm HO_664005.out), (tNm HO_665005.out), (tNm HO_675005.out), (tNm HO_685005.out), (tH BK663.out), (tH BK664.out), (tH BK674.out), (tH BK684.out), (tH BK705.out), (tH BK706.out), GW705.out, GE705.out, NB663_705.out, NB705_663.out, NB664_705.out, NB705_664.out, NB674_705.out, NB705_674.out, NB684_705.out, NB705_684.out, NB706_705.out, NB705_706.out, GW706.out, GE706.out, NB663_706.out, NB706_663.out, NB664_706.out, NB706_664.out, NB674_706.out, NB706_674.out, NB684_706.out, NB706_684.out, zb⟩)
        ·skip
         rintro ⟨v694, v702, gb706⟩ w70 ⟨hS_, h0_, h1_, h2_, h3_, h4_, h5_, h6_, h7_, h8_, h9_, h10_, h11_, h12_, h13_, h14_, h15_, h16_, h17_, h18_, h19_, h20_, h21_, h22_, h23_⟩
         try dsimp only at hS_ h0_ h1_ h2_ h3_ h4_ h5_ h6_ h7_ h8_ h9_ h10_ h11_ h12_ h13_ h14_ h15_ h16_ h17_ h18_ h19_ h20_ h21_ h22_ h23_
         clear HO_664005 HO_665005 HO_675005 HO_685005 BK663 BK664 BK674 BK684 HB
         have HL687_3 := Aside0.mk h0_
         have HL687_5 := Aside0.mk h1_
         have HO695 := Aside0.mk h2_
         have HO703 := Aside0.mk h3_
         have HO_664005 := Aside0.mk h4_
         have HO_665005 := Aside0.mk h5_
         have HO_675005 := Aside0.mk h6_
         have HO_685005 := Aside0.mk h7_
         have BK663 := Aside0.mk h8_
         have BK664 := Aside0.mk h9_
         have BK674 := Aside0.mk h10_
         have BK684 := Aside0.mk h11_
         have BK706 := Aside0.mk h12_
         have GW706 := Aside0.mk h13_
         have GE706 := Aside0.mk h14_
         have NB663_706 := Aside0.mk h15_
         have NB706_663 := Aside0.mk h16_
         have NB664_706 := Aside0.mk h17_
         have NB706_664 := Aside0.mk h18_
         have NB674_706 := Aside0.mk h19_
         have NB706_674 := Aside0.mk h20_
         have NB684_706 := Aside0.mk h21_
         have NB706_684 := Aside0.mk h22_
         have HB := Aside0.mk h23_
         clear h0_ h1_ h2_ h3_ h4_ h5_ h6_ h7_ h8_ h9_ h10_ h11_ h12_ h13_ h14_ h15_ h16_ h17_ h18_ h19_ h20_ h21_ h22_ h23_
         have hHeld := hS_
         refine tnp ?_
         refine one_ (i := 11) (N := some 9) #[true, true, true, true, true, true, true, true, true, true, true, true, true, false, false, false] rfl rfl (one_of HT_.out (by kernel_rfl)) (by decide) (fun K hK => ?_)
         refine box_step ?hg (N := 9) ?hd (cs := #[.bool false, .bool false, .int .i64 0, .int .i64 0, .int .i64 0, .slice none 0 0]) (t := 25) ?hr ?_; (case hd => rfl); (case hg => rfl); (case hr => first | (go_simp; done) | (go_simp; rfl))
         intro gb705 hg w71 hbox hb
         have HS12_ := tcb hb hHeld.2.2.2.2.2.2.2.2.2.2.2.2.1
         have HS13_ := tcb hb hHeld.2.2.2.2.2.2.2.2.2.2.2.2.2.1
         have HS14_ := tcb hb hHeld.2.2.2.2.2.2.2.2.2.2.2.2.2.2.1
         have HS15_ := tcb hb hHeld.2.2.2.2.2.2.2.2.2.2.2.2.2.2.2.1
         have HS16_ := tcb hb hHeld.2.2.2.2.2.2.2.2.2.2.2.2.2.2.2.2.1
         have HS17_ := tcb hb hHeld.2.2.2.2.2.2.2.2.2.2.2.2.2.2.2.2.2
         replace HO_664005 := tNB HO_664005 hg hb
         replace HO_665005 := tNB HO_665005 hg hb
         replace HO_675005 := tNB HO_675005 hg hb
         replace HO_685005 := tNB HO_685005 hg hb
         replace HL687_3 := tVB HL687_3 hg hb
         replace HL687_5 := tVB HL687_5 hg hb
         replace HO695 := tNB HO695 hg hb
         replace HO703 := tNB HO703 hg hb
         have BK705 := Aside0.mk (hbox)
         have GW705 := tge HB hg
         have GE705 := tge HB hg
         replace HB := tBs HB hb
         have NB663_705 := tlt BK663 hg
         have NB705_663 := tgt BK663 hg
         replace BK663 := tBb BK663 hb
         have NB664_705 := tlt BK664 hg
         have NB705_664 := tgt BK664 hg
         replace BK664 := tBb BK664 hb
         have NB674_705 := tlt BK674 hg
         have NB705_674 := tgt BK674 hg
         replace BK674 := tBb BK674 hb
         have NB684_705 := tlt BK684 hg
         have NB705_684 := tgt BK684 hg
         replace BK684 := tBb BK684 hb
         have NB706_705 := tlt BK706 hg
         have NB705_706 := tgt BK706 hg
         replace BK706 := tBb BK706 hb
         clear hb hbox hg
         refine hK.out _ _ ⟨(blk_cell BK674.out 0).trans rfl, (blk_cell BK674.out 1).trans rfl, (blk_cell BK674.out 2).trans rfl, (blk_cell BK674.out 3).trans rfl, (blk_cell BK674.out 4).trans rfl, (blk_cell BK674.out 5).trans rfl, (blk_cell BK664.out 0).trans rfl, (blk_cell BK664.out 1).trans rfl, (blk_cell BK664.out 2).trans rfl, (blk_cell BK664.out 3).trans rfl, (blk_cell BK664.out 4).trans rfl, (blk_cell BK664.out 5).trans rfl, HS12_, HS13_, HS14_, HS15_, HS16_, HS17_⟩ (fun hHeld => ?_)
         clear hK K
         refine tnm (some 9) ?_
         exact tnx (hJ6_11_12 (v694, v702, gb705, gb706) _ ⟨hHeld, (tVm HL687_3.out), (tVm HL687_5.out), (tNm HO695.out), (tNm HO703.out), (tNm HO_664005.out), (tNm HO_665005.out), (tNm HO_675005.out), (tNm HO_685005.out), (tH BK663.out), (tH BK664.out), (tH BK674.out), (tH BK684.out), (tH BK705.out), (tH BK706.out), GW705.out, GE705.out, NB663_705.out, NB705_663.out, NB664_705.out, NB705_664.out, NB674_705.out, NB705_674.out, NB684_705.out, NB705_684.out, NB706_705.out, NB705_706.out, GW706.out, GE706.out, NB663_706.out, NB706_663.out, NB664_706.out, NB706_664.out, NB674_706.out, NB706_674.out, NB684_706.out, NB706_684.out, zb⟩)
       ·skip
        rintro ⟨v694, v702, gb705⟩ w70 ⟨hS_, h0_, h1_, h2_, h3_, h4_, h5_, h6_, h7_, h8_, h9_, h10_, h11_, h12_, h13_, h14_, h15_, h16_, h17_, h18_, h19_, h20_, h21_, h22_, h23_⟩
        try dsimp only at hS_ h0_ h1_ h2_ h3_ h4_ h5_ h6_ h7_ h8_ h9_ h10_ h11_ h12_ h13_ h14_ h15_ h16_ h17_ h18_ h19_ h20_ h21_ h22_ h23_
        clear HO_664005 HO_665005 HO_675005 HO_685005 BK663 BK664 BK674 BK684 HB
        have HL687_3 := Aside0.mk h0_
        have HL687_5 := Aside0.mk h1_
        have HO695 := Aside0.mk h2_
        have HO703 := Aside0.mk h3_
        have HO_664005 := Aside0.mk h4_
        have HO_665005 := Aside0.mk h5_
        have HO_675005 := Aside0.mk h6_
        have HO_685005 := Aside0.mk h7_
        have BK663 := Aside0.mk h8_
        have BK664 := Aside0.mk h9_
        have BK674 := Aside0.mk h10_
        have BK684 := Aside0.mk h11_
        have BK705 := Aside0.mk h12_
        have GW705 := Aside0.mk h13_
        have GE705 := Aside0.mk h14_
        have NB663_705 := Aside0.mk h15_
        have NB705_663 := Aside0.mk h16_
        have NB664_705 := Aside0.mk h17_
        have NB705_664 := Aside0.mk h18_
        have NB674_705 := Aside0.mk h19_
        have NB705_674 := Aside0.mk h20_
        have NB684_705 := Aside0.mk h21_
        have NB705_684 := Aside0.mk h22_
        have HB := Aside0.mk h23_
        clear h0_ h1_ h2_ h3_ h4_ h5_ h6_ h7_ h8_ h9_ h10_ h11_ h12_ h13_ h14_ h15_ h16_ h17_ h18_ h19_ h20_ h21_ h22_ h23_
        have hHeld := hS_
        refine tnp ?_
        refine one_ (i := 12) (N := some 10) #[true, true, true, true, true, true, true, true, true, true, true, true, true, false, false, false] rfl rfl (one_of HT_.out (by kernel_rfl)) (by decide) (fun K hK => ?_)
        refine box_step ?hg (N := 10) ?hd (cs := #[.bool false, .bool false, .int .i64 0, .int .i64 0, .int .i64 0, .slice none 0 0]) (t := 25) ?hr ?_; (case hd => rfl); (case hg => rfl); (case hr => first | (go_simp; done) | (go_simp; rfl))
        intro gb706 hg w71 hbox hb
        have HS12_ := tcb hb hHeld.2.2.2.2.2.2.2.2.2.2.2.2.1
        have HS13_ := tcb hb hHeld.2.2.2.2.2.2.2.2.2.2.2.2.2.1
        have HS14_ := tcb hb hHeld.2.2.2.2.2.2.2.2.2.2.2.2.2.2.1
        have HS15_ := tcb hb hHeld.2.2.2.2.2.2.2.2.2.2.2.2.2.2.2.1
        have HS16_ := tcb hb hHeld.2.2.2.2.2.2.2.2.2.2.2.2.2.2.2.2.1
        have HS17_ := tcb hb hHeld.2.2.2.2.2.2.2.2.2.2.2.2.2.2.2.2.2
        replace HO_664005 := tNB HO_664005 hg hb
        replace HO_665005 := tNB HO_665005 hg hb
        replace HO_675005 := tNB HO_675005 hg hb
        replace HO_685005 := tNB HO_685005 hg hb
        replace HL687_3 := tVB HL687_3 hg hb
        replace HL687_5 := tVB HL687_5 hg hb
        replace HO695 := tNB HO695 hg hb
        replace HO703 := tNB HO703 hg hb
        have BK706 := Aside0.mk (hbox)
        have GW706 := tge HB hg
        have GE706 := tge HB hg
        replace HB := tBs HB hb
        have NB663_706 := tlt BK663 hg
        have NB706_663 := tgt BK663 hg
        replace BK663 := tBb BK663 hb
        have NB664_706 := tlt BK664 hg
        have NB706_664 := tgt BK664 hg
        replace BK664 := tBb BK664 hb
        have NB674_706 := tlt BK674 hg
        have NB706_674 := tgt BK674 hg
        replace BK674 := tBb BK674 hb
        have NB684_706 := tlt BK684 hg
        have NB706_684 := tgt BK684 hg
        replace BK684 := tBb BK684 hb
        have NB705_706 := tlt BK705 hg
        have NB706_705 := tgt BK705 hg
        replace BK705 := tBb BK705 hb
        clear hb hbox hg
        refine hK.out _ _ ⟨(blk_cell BK674.out 0).trans rfl, (blk_cell BK674.out 1).trans rfl, (blk_cell BK674.out 2).trans rfl, (blk_cell BK674.out 3).trans rfl, (blk_cell BK674.out 4).trans rfl, (blk_cell BK674.out 5).trans rfl, (blk_cell BK664.out 0).trans rfl, (blk_cell BK664.out 1).trans rfl, (blk_cell BK664.out 2).trans rfl, (blk_cell BK664.out 3).trans rfl, (blk_cell BK664.out 4).trans rfl, (blk_cell BK664.out 5).trans rfl, HS12_, HS13_, HS14_, HS15_, HS16_, HS17_⟩ (fun hHeld => ?_)
        clear hK K
        refine tnm (some 10) ?_
        exact tnx (hJ6_11_12 (v694, v702, gb705, gb706) _ ⟨hHeld, (tVm HL687_3.out), (tVm HL687_5.out), (tNm HO695.out), (tNm HO703.out), (tNm HO_664005.out), (tNm HO_665005.out), (tNm HO_675005.out), (tNm HO_685005.out), (tH BK663.out), (tH BK664.out), (tH BK674.out), (tH BK684.out), (tH BK705.out), (tH BK706.out), GW705.out, GE705.out, NB663_705.out, NB705_663.out, NB664_705.out, NB705_664.out, NB674_705.out, NB705_674.out, NB684_705.out, NB705_684.out, NB706_705.out, NB705_706.out, GW706.out, GE706.out, NB663_706.out, NB706_663.out, NB664_706.out, NB706_664.out, NB674_706.out, NB706_674.out, NB684_706.out, NB706_684.out, zb⟩)
      rintro ⟨v694, v702, gb705, gb706⟩ w71 ⟨hS_, h0_, h1_, h2_, h3_, h4_, h5_, h6_, h7_, h8_, h9_, h10_, h11_, h12_, h13_, h14_, h15_, h16_, h17_, h18_, h19_, h20_, h21_, h22_, h23_, h24_, h25_, h26_, h27_, h28_, h29_, h30_, h31_, h32_, h33_, h34_, h35_, h36_⟩
      try dsimp only at hS_ h0_ h1_ h2_ h3_ h4_ h5_ h6_ h7_ h8_ h9_ h10_ h11_ h12_ h13_ h14_ h15_ h16_ h17_ h18_ h19_ h20_ h21_ h22_ h23_ h24_ h25_ h26_ h27_ h28_ h29_ h30_ h31_ h32_ h33_ h34_ h35_ h36_
      clear HO_664005 HO_665005 HO_675005 HO_685005 BK663 BK664 BK674 BK684 HB
      have HL687_3 := Aside0.mk h0_
      have HL687_5 := Aside0.mk h1_
      have HO695 := Aside0.mk h2_
      have HO703 := Aside0.mk h3_
      have HO_664005 := Aside0.mk h4_
      have HO_665005 := Aside0.mk h5_
      have HO_675005 := Aside0.mk h6_
      have HO_685005 := Aside0.mk h7_
      have BK663 := Aside0.mk h8_
      have BK664 := Aside0.mk h9_
      have BK674 := Aside0.mk h10_
      have BK684 := Aside0.mk h11_
      have BK705 := Aside0.mk h12_
      have BK706 := Aside0.mk h13_
      have GW705 := Aside0.mk h14_
      have GE705 := Aside0.mk h15_
      have NB663_705 := Aside0.mk h16_
      have NB705_663 := Aside0.mk h17_
      have NB664_705 := Aside0.mk h18_
      have NB705_664 := Aside0.mk h19_
      have NB674_705 := Aside0.mk h20_
      have NB705_674 := Aside0.mk h21_
      have NB684_705 := Aside0.mk h22_
      have NB705_684 := Aside0.mk h23_
      have NB706_705 := Aside0.mk h24_
      have NB705_706 := Aside0.mk h25_
      have GW706 := Aside0.mk h26_
      have GE706 := Aside0.mk h27_
      have NB663_706 := Aside0.mk h28_
      have NB706_663 := Aside0.mk h29_
      have NB664_706 := Aside0.mk h30_
      have NB706_664 := Aside0.mk h31_
      have NB674_706 := Aside0.mk h32_
      have NB706_674 := Aside0.mk h33_
      have NB684_706 := Aside0.mk h34_
      have NB706_684 := Aside0.mk h35_
      have HB := Aside0.mk h36_
      clear h0_ h1_ h2_ h3_ h4_ h5_ h6_ h7_ h8_ h9_ h10_ h11_ h12_ h13_ h14_ h15_ h16_ h17_ h18_ h19_ h20_ h21_ h22_ h23_ h24_ h25_ h26_ h27_ h28_ h29_ h30_ h31_ h32_ h33_ h34_ h35_ h36_
      have hHeld := hS_
      obtain ⟨Ao77, co77, eo77⟩ := Kd.N_slice HO695.out
      (first | subst eo77 | (injection eo77 with f1_ f2_ f3_; have f4_ := f1_.symm; have f5_ := f3_.symm; clear f1_ f2_ f3_; subst f4_; subst f5_))
      obtain ⟨Ao84, co84, eo84⟩ := Kd.N_slice HO703.out
      (first | subst eo84 | (injection eo84 with f1_ f2_ f3_; have f4_ := f1_.symm; have f5_ := f3_.symm; clear f1_ f2_ f3_; subst f4_; subst f5_))
      refine tnp ?_
      refine one_ (i := 13) (N := none) #[true, true, true, true, true, true, true, true, true, true, true, true, true, true, false, false] rfl rfl (one_of HT_.out (by kernel_rfl)) (by decide) (fun K hK => ?_)
      have hs72 : w71.cell? ⟨gb705, 0, none⟩ = some (.bool false) := (blk_cell BK705.out 0).trans rfl
      have hfs72 := blk_frozen BK705.out 0
      have hns72_0 := NB663_705.out
      have hns72_1 := NB664_705.out
      have hns72_2 := NB674_705.out
      have hns72_3 := NB684_705.out
      have hns72_5 := NB706_705.out
      have hms72_0 := NB705_663.out
      have hms72_1 := NB705_664.out
      have hms72_2 := NB705_674.out
      have hms72_3 := NB705_684.out
      have hms72_5 := NB705_706.out
      have hs73 : w71.cell? ⟨gb705, 1, none⟩ = some (.bool false) := (blk_cell BK705.out 1).trans rfl
      have hfs73 := blk_frozen BK705.out 1
      have hs74 : w71.cell? ⟨gb705, 2, none⟩ = some (.int .i64 0) := (blk_cell BK705.out 2).trans rfl
      have hfs74 := blk_frozen BK705.out 2
      have hs75 : w71.cell? ⟨gb705, 3, none⟩ = some (.int .i64 0) := (blk_cell BK705.out 3).trans rfl
      have hfs75 := blk_frozen BK705.out 3
      have hs76 : w71.cell? ⟨gb705, 4, none⟩ = some (.int .i64 0) := (blk_cell BK705.out 4).trans rfl
      have hfs76 := blk_frozen BK705.out 4
      have hs78 : w71.cell? ⟨gb705, 5, none⟩ = some (.slice none 0 0) := (blk_cell BK705.out 5).trans rfl
      have hfs78 := blk_frozen BK705.out 5
      refine tsk ?_
      refine hK.out _ _ ⟨(tcg NB674_705.out hHeld.1), (tcg NB674_705.out hHeld.2.1), (tcg NB674_705.out hHeld.2.2.1), (tcg NB674_705.out hHeld.2.2.2.1), (tcg NB674_705.out hHeld.2.2.2.2.1), (tcg NB674_705.out hHeld.2.2.2.2.2.1), (tcg NB664_705.out hHeld.2.2.2.2.2.2.1), (tcg NB664_705.out hHeld.2.2.2.2.2.2.2.1), (tcg NB664_705.out hHeld.2.2.2.2.2.2.2.2.1), (tcg NB664_705.out hHeld.2.2.2.2.2.2.2.2.2.1), (tcg NB664_705.out hHeld.2.2.2.2.2.2.2.2.2.2.1), (tcg NB664_705.out hHeld.2.2.2.2.2.2.2.2.2.2.2.1), (tcg (Kd.own_blk (Kd.N_away HO_665005.out (fun _ hk => hk.2.2.2.2.2.2.2.2.2.1))) hHeld.2.2.2.2.2.2.2.2.2.2.2.2.1), (tcg (Kd.own_blk (Kd.N_away HO_665005.out (fun _ hk => hk.2.2.2.2.2.2.2.2.2.1))) hHeld.2.2.2.2.2.2.2.2.2.2.2.2.2.1), (tcg (Kd.own_blk (Kd.N_away HO_665005.out (fun _ hk => hk.2.2.2.2.2.2.2.2.2.1))) hHeld.2.2.2.2.2.2.2.2.2.2.2.2.2.2.1), (tcg (Kd.own_blk (Kd.N_away HO_665005.out (fun _ hk => hk.2.2.2.2.2.2.2.2.2.1))) hHeld.2.2.2.2.2.2.2.2.2.2.2.2.2.2.2.1), (tcg (Kd.own_blk (Kd.N_away HO_665005.out (fun _ hk => hk.2.2.2.2.2.2.2.2.2.1))) hHeld.2.2.2.2.2.2.2.2.2.2.2.2.2.2.2.2.1), (tcg (Kd.own_blk (Kd.N_away HO_665005.out (fun _ hk => hk.2.2.2.2.2.2.2.2.2.1))) hHeld.2.2.2.2.2.2.2.2.2.2.2.2.2.2.2.2.2)⟩ (fun hHeld => ?_)
      clear hK K
      refine one_ (i := 14) (N := none) #[true, true, true, true, true, true, true, true, true, true, true, true, true, true, true, false] rfl rfl (one_of HT_.out (by kernel_rfl)) (by decide) (fun K hK => ?_)
      have hs79 : w71.cell? ⟨gb706, 0, none⟩ = some (.bool false) := (blk_cell BK706.out 0).trans rfl
      have hfs79 := blk_frozen BK706.out 0
      have hns79_0 := NB663_706.out
      have hns79_1 := NB664_706.out
      have hns79_2 := NB674_706.out
      have hns79_3 := NB684_706.out
      have hns79_4 := NB705_706.out
      have hms79_0 := NB706_663.out
      have hms79_1 := NB706_664.out
      have hms79_2 := NB706_674.out
      have hms79_3 := NB706_684.out
      have hms79_4 := NB706_705.out
      have hs80 : w71.cell? ⟨gb706, 1, none⟩ = some (.bool false) := (blk_cell BK706.out 1).trans rfl
      have hfs80 := blk_frozen BK706.out 1
      have hs81 : w71.cell? ⟨gb706, 2, none⟩ = some (.int .i64 0) := (blk_cell BK706.out 2).trans rfl
      have hfs81 := blk_frozen BK706.out 2
      have hs82 : w71.cell? ⟨gb706, 3, none⟩ = some (.int .i64 0) := (blk_cell BK706.out 3).trans rfl
      have hfs82 := blk_frozen BK706.out 3
      have hs83 : w71.cell? ⟨gb706, 4, none⟩ = some (.int .i64 0) := (blk_cell BK706.out 4).trans rfl
      have hfs83 := blk_frozen BK706.out 4
      have hs85 : w71.cell? ⟨gb706, 5, none⟩ = some (.slice none 0 0) := (blk_cell BK706.out 5).trans rfl
      have hfs85 := blk_frozen BK706.out 5
      refine tsk ?_
      refine hK.out _ _ ⟨(tcg NB674_706.out hHeld.1), (tcg NB674_706.out hHeld.2.1), (tcg NB674_706.out hHeld.2.2.1), (tcg NB674_706.out hHeld.2.2.2.1), (tcg NB674_706.out hHeld.2.2.2.2.1), (tcg NB674_706.out hHeld.2.2.2.2.2.1), (tcg NB664_706.out hHeld.2.2.2.2.2.2.1), (tcg NB664_706.out hHeld.2.2.2.2.2.2.2.1), (tcg NB664_706.out hHeld.2.2.2.2.2.2.2.2.1), (tcg NB664_706.out hHeld.2.2.2.2.2.2.2.2.2.1), (tcg NB664_706.out hHeld.2.2.2.2.2.2.2.2.2.2.1), (tcg NB664_706.out hHeld.2.2.2.2.2.2.2.2.2.2.2.1), (tcg (Kd.own_blk (Kd.N_away HO_665005.out (fun _ hk => hk.2.2.2.2.2.2.2.2.2.2))) hHeld.2.2.2.2.2.2.2.2.2.2.2.2.1), (tcg (Kd.own_blk (Kd.N_away HO_665005.out (fun _ hk => hk.2.2.2.2.2.2.2.2.2.2))) hHeld.2.2.2.2.2.2.2.2.2.2.2.2.2.1), (tcg (Kd.own_blk (Kd.N_away HO_665005.out (fun _ hk => hk.2.2.2.2.2.2.2.2.2.2))) hHeld.2.2.2.2.2.2.2.2.2.2.2.2.2.2.1), (tcg (Kd.own_blk (Kd.N_away HO_665005.out (fun _ hk => hk.2.2.2.2.2.2.2.2.2.2))) hHeld.2.2.2.2.2.2.2.2.2.2.2.2.2.2.2.1), (tcg (Kd.own_blk (Kd.N_away HO_665005.out (fun _ hk => hk.2.2.2.2.2.2.2.2.2.2))) hHeld.2.2.2.2.2.2.2.2.2.2.2.2.2.2.2.2.1), (tcg (Kd.own_blk (Kd.N_away HO_665005.out (fun _ hk => hk.2.2.2.2.2.2.2.2.2.2))) hHeld.2.2.2.2.2.2.2.2.2.2.2.2.2.2.2.2.2)⟩ (fun hHeld => ?_)
      clear hK K
      refine tpu 15 (some 11) #[true, true, true, true, true, true, true, true, true, true, true, true, true, true, true, true] ?_
      refine done_ (done_of HT_.out (by kernel_rfl)) ?_
      have hnb86 := NB705_663.out
      have hnc86 := NB663_705.out
      have hnb87 := NB705_664.out
      have hnc87 := NB664_705.out
      have hnb88 := NB705_674.out
      have hnc88 := NB674_705.out
      have hnb89 := NB705_684.out
      have hnc89 := NB684_705.out
      have hnb90 := NB705_706.out
      have hnc90 := NB706_705.out
      obtain ⟨hcz91_0, hcz91_1, hcz91_2, hcz91_3, hcz91_4, hcz91_5, hfz91_0, hfz91_1, hfz91_2, hfz91_3, hfz91_4, hfz91_5⟩ := cells6 BK705.out
      have hnb92 := NB663_664.out
      have hnc92 := NB664_663.out
      have hnb93 := NB663_674.out
      have hnc93 := NB674_663.out
      have hnb94 := NB663_684.out
      have hnc94 := NB684_663.out
      have hnb95 := NB663_706.out
      have hnc95 := NB706_663.out
      obtain ⟨hcz96_0, hcz96_1, hcz96_2, hcz96_3, hcz96_4, hcz96_5, hfz96_0, hfz96_1, hfz96_2, hfz96_3, hfz96_4, hfz96_5⟩ := cells6 BK663.out
      by_cases c63 : t704 = true
      ·subst c63
       rw [if_pos rfl] at H
       replace H := tbe H
       obtain ⟨t707, A64, H⟩ := H
       by_cases c65 : t707 = true
       ·subst c65
        rw [if_pos rfl] at H
        replace H := tbe H
        obtain ⟨t708, A66, H⟩ := H
        obtain rfl := Option.some.inj H
        try go_wp2_with (first | (go_at_call 11; (with_reducible refine (laws_sameBatch.calls kj5 t688 t689 t690 t691 t692 _ _ t693 t647 t648 t649 t650 t651 _ _ t652 true _ ?side1 ?side2 ?side3 ?side4 A64.out).mono ?_); (case side1 => refine (Kd.N_reads' (e := 41) (base := w.heap.size) (ok := fun k_ => (some k_ ≠ (.slice Ao84 t701.length co84 : Value).ownBlock ∧ (some k_ ≠ (.slice Ao12 t652.length co12 : Value).ownBlock ∧ (some k_ ≠ (.slice (some ad687) t660.length co14 : Value).ownBlock ∧ (some k_ ≠ (.slice Ao20 t670.length co20 : Value).ownBlock ∧ (some k_ ≠ (.slice Ao30 t680.length co30 : Value).ownBlock ∧ (k_ ≠ gb663 ∧ (k_ ≠ gb664 ∧ (k_ ≠ gb674 ∧ (k_ ≠ gb684 ∧ (k_ ≠ gb705 ∧ k_ ≠ gb706))))))))))) (n := t693.length) (c := co77) ?_).2.2; exact (by (with_reducible repeat (first | apply Kd.N_alloc | apply Kd.N_drewN | apply Kd.N_drew)); exact (Kd.N_mono (Kd.N_mono (Kd.N_far (p := ⟨gb706, 5, none⟩) (Kd.N_far (p := ⟨gb706, 4, none⟩) (Kd.N_far (p := ⟨gb706, 3, none⟩) (Kd.N_far (p := ⟨gb706, 2, none⟩) (Kd.N_far (p := ⟨gb706, 1, none⟩) (Kd.N_far (p := ⟨gb706, 0, none⟩) (Kd.N_far (p := ⟨gb705, 5, none⟩) (Kd.N_far (p := ⟨gb705, 4, none⟩) (Kd.N_far (p := ⟨gb705, 3, none⟩) (Kd.N_far (p := ⟨gb705, 2, none⟩) (Kd.N_far (p := ⟨gb705, 1, none⟩) (Kd.N_far (p := ⟨gb705, 0, none⟩) (Kd.N_mono (Kd.N_mono HO695.out (fun k_ hk => (⟨hk, hk.2.2.2.2.2.2.2.2.2.1⟩ : _ ∧ k_ ≠ gb705))) (fun k_ hk => (⟨hk, hk.1.2.2.2.2.2.2.2.2.2.2⟩ : _ ∧ k_ ≠ gb706))) (fun _ hk => hk.1.2) (.bool t688)) (fun _ hk => hk.1.2) (.bool t689)) (fun _ hk => hk.1.2) (.int .i64 t690)) (fun _ hk => hk.1.2) (.int .i64 t691)) (fun _ hk => hk.1.2) (.int .i64 t692)) (fun _ hk => hk.1.2) (.slice Ao77 t693.length co77)) (fun _ hk => hk.2) (.bool t696)) (fun _ hk => hk.2) (.bool t697)) (fun _ hk => hk.2) (.int .i64 t698)) (fun _ hk => hk.2) (.int .i64 t699)) (fun _ hk => hk.2) (.int .i64 t700)) (fun _ hk => hk.2) (.slice Ao84 t701.length co84)) (fun _ h_ => h_.1)) (fun _ h_ => h_.1)))); (case side2 => exact (Kd.N_reads' HO695.out).2.1); (case side3 => refine (Kd.N_reads' (e := 41) (base := w.heap.size) (ok := fun k_ => (some k_ ≠ (.slice Ao77 t693.length co77 : Value).ownBlock ∧ (some k_ ≠ (.slice Ao84 t701.length co84 : Value).ownBlock ∧ (some k_ ≠ (.slice (some ad687) t660.length co14 : Value).ownBlock ∧ (some k_ ≠ (.slice Ao20 t670.length co20 : Value).ownBlock ∧ (some k_ ≠ (.slice Ao30 t680.length co30 : Value).ownBlock ∧ (k_ ≠ gb663 ∧ (k_ ≠ gb664 ∧ (k_ ≠ gb674 ∧ (k_ ≠ gb684 ∧ (k_ ≠ gb705 ∧ k_ ≠ gb706))))))))))) (n := t652.length) (c := co12) ?_).2.2; exact (by (with_reducible repeat (first | apply Kd.N_alloc | apply Kd.N_drewN | apply Kd.N_drew)); exact (Kd.N_mono (Kd.N_mono (Kd.N_far (p := ⟨gb706, 5, none⟩) (Kd.N_far (p := ⟨gb706, 4, none⟩) (Kd.N_far (p := ⟨gb706, 3, none⟩) (Kd.N_far (p := ⟨gb706, 2, none⟩) (Kd.N_far (p := ⟨gb706, 1, none⟩) (Kd.N_far (p := ⟨gb706, 0, none⟩) (Kd.N_far (p := ⟨gb705, 5, none⟩) (Kd.N_far (p := ⟨gb705, 4, none⟩) (Kd.N_far (p := ⟨gb705, 3, none⟩) (Kd.N_far (p := ⟨gb705, 2, none⟩) (Kd.N_far (p := ⟨gb705, 1, none⟩) (Kd.N_far (p := ⟨gb705, 0, none⟩) (Kd.N_mono (Kd.N_mono HO_664005.out (fun k_ hk => (⟨hk, hk.2.2.2.2.2.2.2.2.2.1⟩ : _ ∧ k_ ≠ gb705))) (fun k_ hk => (⟨hk, hk.1.2.2.2.2.2.2.2.2.2.2⟩ : _ ∧ k_ ≠ gb706))) (fun _ hk => hk.1.2) (.bool t688)) (fun _ hk => hk.1.2) (.bool t689)) (fun _ hk => hk.1.2) (.int .i64 t690)) (fun _ hk => hk.1.2) (.int .i64 t691)) (fun _ hk => hk.1.2) (.int .i64 t692)) (fun _ hk => hk.1.2) (.slice Ao77 t693.length co77)) (fun _ hk => hk.2) (.bool t696)) (fun _ hk => hk.2) (.bool t697)) (fun _ hk => hk.2) (.int .i64 t698)) (fun _ hk => hk.2) (.int .i64 t699)) (fun _ hk => hk.2) (.int .i64 t700)) (fun _ hk => hk.2) (.slice Ao84 t701.length co84)) (fun _ h_ => h_.1)) (fun _ h_ => h_.1)))); (case side4 => exact (Kd.N_reads' HO_664005.out).2.1); rintro e w97 ⟨rfl, hb⟩; replace HO_664005 := Aside0.mk (Kd.N_below (by (with_reducible repeat (first | apply Kd.N_alloc | apply Kd.N_drewN | apply Kd.N_drew)); exact (Kd.N_mono (Kd.N_mono (Kd.N_far (p := ⟨gb706, 5, none⟩) (Kd.N_far (p := ⟨gb706, 4, none⟩) (Kd.N_far (p := ⟨gb706, 3, none⟩) (Kd.N_far (p := ⟨gb706, 2, none⟩) (Kd.N_far (p := ⟨gb706, 1, none⟩) (Kd.N_far (p := ⟨gb706, 0, none⟩) (Kd.N_far (p := ⟨gb705, 5, none⟩) (Kd.N_far (p := ⟨gb705, 4, none⟩) (Kd.N_far (p := ⟨gb705, 3, none⟩) (Kd.N_far (p := ⟨gb705, 2, none⟩) (Kd.N_far (p := ⟨gb705, 1, none⟩) (Kd.N_far (p := ⟨gb705, 0, none⟩) (Kd.N_mono (Kd.N_mono HO_664005.out (fun k_ hk => (⟨hk, hk.2.2.2.2.2.2.2.2.2.1⟩ : _ ∧ k_ ≠ gb705))) (fun k_ hk => (⟨hk, hk.1.2.2.2.2.2.2.2.2.2.2⟩ : _ ∧ k_ ≠ gb706))) (fun _ hk => hk.1.2) (.bool t688)) (fun _ hk => hk.1.2) (.bool t689)) (fun _ hk => hk.1.2) (.int .i64 t690)) (fun _ hk => hk.1.2) (.int .i64 t691)) (fun _ hk => hk.1.2) (.int .i64 t692)) (fun _ hk => hk.1.2) (.slice Ao77 t693.length co77)) (fun _ hk => hk.2) (.bool t696)) (fun _ hk => hk.2) (.bool t697)) (fun _ hk => hk.2) (.int .i64 t698)) (fun _ hk => hk.2) (.int .i64 t699)) (fun _ hk => hk.2) (.int .i64 t700)) (fun _ hk => hk.2) (.slice Ao84 t701.length co84)) (fun _ h_ => h_.1)) (fun _ h_ => h_.1))) hb); replace HO_665005 := Aside0.mk (Kd.N_below (by (with_reducible repeat (first | apply Kd.N_alloc | apply Kd.N_drewN | apply Kd.N_drew)); exact (Kd.N_mono (Kd.N_mono (Kd.N_far (p := ⟨gb706, 5, none⟩) (Kd.N_far (p := ⟨gb706, 4, none⟩) (Kd.N_far (p := ⟨gb706, 3, none⟩) (Kd.N_far (p := ⟨gb706, 2, none⟩) (Kd.N_far (p := ⟨gb706, 1, none⟩) (Kd.N_far (p := ⟨gb706, 0, none⟩) (Kd.N_far (p := ⟨gb705, 5, none⟩) (Kd.N_far (p := ⟨gb705, 4, none⟩) (Kd.N_far (p := ⟨gb705, 3, none⟩) (Kd.N_far (p := ⟨gb705, 2, none⟩) (Kd.N_far (p := ⟨gb705, 1, none⟩) (Kd.N_far (p := ⟨gb705, 0, none⟩) (Kd.N_mono (Kd.N_mono HO_665005.out (fun k_ hk => (⟨hk, hk.2.2.2.2.2.2.2.2.2.1⟩ : _ ∧ k_ ≠ gb705))) (fun k_ hk => (⟨hk, hk.1.2.2.2.2.2.2.2.2.2.2⟩ : _ ∧ k_ ≠ gb706))) (fun _ hk => hk.1.2) (.bool t688)) (fun _ hk => hk.1.2) (.bool t689)) (fun _ hk => hk.1.2) (.int .i64 t690)) (fun _ hk => hk.1.2) (.int .i64 t691)) (fun _ hk => hk.1.2) (.int .i64 t692)) (fun _ hk => hk.1.2) (.slice Ao77 t693.length co77)) (fun _ hk => hk.2) (.bool t696)) (fun _ hk => hk.2) (.bool t697)) (fun _ hk => hk.2) (.int .i64 t698)) (fun _ hk => hk.2) (.int .i64 t699)) (fun _ hk => hk.2) (.int .i64 t700)) (fun _ hk => hk.2) (.slice Ao84 t701.length co84)) (fun _ h_ => h_.1)) (fun _ h_ => h_.1))) hb); replace HO_675005 := Aside0.mk (Kd.N_below (by (with_reducible repeat (first | apply Kd.N_alloc | apply Kd.N_drewN | apply Kd.N_drew)); exact (Kd.N_mono (Kd.N_mono (Kd.N_far (p := ⟨gb706, 5, none⟩) (Kd.N_far (p := ⟨gb706, 4, none⟩) (Kd.N_far (p := ⟨gb706, 3, none⟩) (Kd.N_far (p := ⟨gb706, 2, none⟩) (Kd.N_far (p := ⟨gb706, 1, none⟩) (Kd.N_far (p := ⟨gb706, 0, none⟩) (Kd.N_far (p := ⟨gb705, 5, none⟩) (Kd.N_far (p := ⟨gb705, 4, none⟩) (Kd.N_far (p := ⟨gb705, 3, none⟩) (Kd.N_far (p := ⟨gb705, 2, none⟩) (Kd.N_far (p := ⟨gb705, 1, none⟩) (Kd.N_far (p := ⟨gb705, 0, none⟩) (Kd.N_mono (Kd.N_mono HO_675005.out (fun k_ hk => (⟨hk, hk.2.2.2.2.2.2.2.2.2.1⟩ : _ ∧ k_ ≠ gb705))) (fun k_ hk => (⟨hk, hk.1.2.2.2.2.2.2.2.2.2.2⟩ : _ ∧ k_ ≠ gb706))) (fun _ hk => hk.1.2) (.bool t688)) (fun _ hk => hk.1.2) (.bool t689)) (fun _ hk => hk.1.2) (.int .i64 t690)) (fun _ hk => hk.1.2) (.int .i64 t691)) (fun _ hk => hk.1.2) (.int .i64 t692)) (fun _ hk => hk.1.2) (.slice Ao77 t693.length co77)) (fun _ hk => hk.2) (.bool t696)) (fun _ hk => hk.2) (.bool t697)) (fun _ hk => hk.2) (.int .i64 t698)) (fun _ hk => hk.2) (.int .i64 t699)) (fun _ hk => hk.2) (.int .i64 t700)) (fun _ hk => hk.2) (.slice Ao84 t701.length co84)) (fun _ h_ => h_.1)) (fun _ h_ => h_.1))) hb); replace HO_685005 := Aside0.mk (Kd.N_below (by (with_reducible repeat (first | apply Kd.N_alloc | apply Kd.N_drewN | apply Kd.N_drew)); exact (Kd.N_mono (Kd.N_mono (Kd.N_far (p := ⟨gb706, 5, none⟩) (Kd.N_far (p := ⟨gb706, 4, none⟩) (Kd.N_far (p := ⟨gb706, 3, none⟩) (Kd.N_far (p := ⟨gb706, 2, none⟩) (Kd.N_far (p := ⟨gb706, 1, none⟩) (Kd.N_far (p := ⟨gb706, 0, none⟩) (Kd.N_far (p := ⟨gb705, 5, none⟩) (Kd.N_far (p := ⟨gb705, 4, none⟩) (Kd.N_far (p := ⟨gb705, 3, none⟩) (Kd.N_far (p := ⟨gb705, 2, none⟩) (Kd.N_far (p := ⟨gb705, 1, none⟩) (Kd.N_far (p := ⟨gb705, 0, none⟩) (Kd.N_mono (Kd.N_mono HO_685005.out (fun k_ hk => (⟨hk, hk.2.2.2.2.2.2.2.1⟩ : _ ∧ k_ ≠ gb705))) (fun k_ hk => (⟨hk, hk.1.2.2.2.2.2.2.2.2⟩ : _ ∧ k_ ≠ gb706))) (fun _ hk => hk.1.2) (.bool t688)) (fun _ hk => hk.1.2) (.bool t689)) (fun _ hk => hk.1.2) (.int .i64 t690)) (fun _ hk => hk.1.2) (.int .i64 t691)) (fun _ hk => hk.1.2) (.int .i64 t692)) (fun _ hk => hk.1.2) (.slice Ao77 t693.length co77)) (fun _ hk => hk.2) (.bool t696)) (fun _ hk => hk.2) (.bool t697)) (fun _ hk => hk.2) (.int .i64 t698)) (fun _ hk => hk.2) (.int .i64 t699)) (fun _ hk => hk.2) (.int .i64 t700)) (fun _ hk => hk.2) (.slice Ao84 t701.length co84)) (fun _ h_ => h_.1)) (fun _ h_ => h_.1))) hb); replace HL687_3 := Aside0.mk (Kd.V_below (by (with_reducible repeat (first | apply Kd.V_alloc | apply Kd.V_drewN | apply Kd.V_drew)); exact (Kd.V_mono (Kd.V_mono (Kd.V_far (p := ⟨gb706, 5, none⟩) (Kd.V_far (p := ⟨gb706, 4, none⟩) (Kd.V_far (p := ⟨gb706, 3, none⟩) (Kd.V_far (p := ⟨gb706, 2, none⟩) (Kd.V_far (p := ⟨gb706, 1, none⟩) (Kd.V_far (p := ⟨gb706, 0, none⟩) (Kd.V_far (p := ⟨gb705, 5, none⟩) (Kd.V_far (p := ⟨gb705, 4, none⟩) (Kd.V_far (p := ⟨gb705, 3, none⟩) (Kd.V_far (p := ⟨gb705, 2, none⟩) (Kd.V_far (p := ⟨gb705, 1, none⟩) (Kd.V_far (p := ⟨gb705, 0, none⟩) (Kd.V_mono (Kd.V_mono HL687_3.out (fun k_ hk => (⟨hk, hk.2.2.2.2.2.2.2.2.2.2.1⟩ : _ ∧ k_ ≠ gb705))) (fun k_ hk => (⟨hk, hk.1.2.2.2.2.2.2.2.2.2.2.2⟩ : _ ∧ k_ ≠ gb706))) (fun _ hk => hk.1.2) (.bool t688)) (fun _ hk => hk.1.2) (.bool t689)) (fun _ hk => hk.1.2) (.int .i64 t690)) (fun _ hk => hk.1.2) (.int .i64 t691)) (fun _ hk => hk.1.2) (.int .i64 t692)) (fun _ hk => hk.1.2) (.slice Ao77 t693.length co77)) (fun _ hk => hk.2) (.bool t696)) (fun _ hk => hk.2) (.bool t697)) (fun _ hk => hk.2) (.int .i64 t698)) (fun _ hk => hk.2) (.int .i64 t699)) (fun _ hk => hk.2) (.int .i64 t700)) (fun _ hk => hk.2) (.slice Ao84 t701.length co84)) (fun _ h_ => h_.1)) (fun _ h_ => h_.1))) hb); replace HL687_5 := Aside0.mk (Kd.V_below (by (with_reducible repeat (first | apply Kd.V_alloc | apply Kd.V_drewN | apply Kd.V_drew)); exact (Kd.V_mono (Kd.V_mono (Kd.V_far (p := ⟨gb706, 5, none⟩) (Kd.V_far (p := ⟨gb706, 4, none⟩) (Kd.V_far (p := ⟨gb706, 3, none⟩) (Kd.V_far (p := ⟨gb706, 2, none⟩) (Kd.V_far (p := ⟨gb706, 1, none⟩) (Kd.V_far (p := ⟨gb706, 0, none⟩) (Kd.V_far (p := ⟨gb705, 5, none⟩) (Kd.V_far (p := ⟨gb705, 4, none⟩) (Kd.V_far (p := ⟨gb705, 3, none⟩) (Kd.V_far (p := ⟨gb705, 2, none⟩) (Kd.V_far (p := ⟨gb705, 1, none⟩) (Kd.V_far (p := ⟨gb705, 0, none⟩) (Kd.V_mono (Kd.V_mono HL687_5.out (fun k_ hk => (⟨hk, hk.2.2.2.2.2.2.2.2.2.2.1⟩ : _ ∧ k_ ≠ gb705))) (fun k_ hk => (⟨hk, hk.1.2.2.2.2.2.2.2.2.2.2.2⟩ : _ ∧ k_ ≠ gb706))) (fun _ hk => hk.1.2) (.bool t688)) (fun _ hk => hk.1.2) (.bool t689)) (fun _ hk => hk.1.2) (.int .i64 t690)) (fun _ hk => hk.1.2) (.int .i64 t691)) (fun _ hk => hk.1.2) (.int .i64 t692)) (fun _ hk => hk.1.2) (.slice Ao77 t693.length co77)) (fun _ hk => hk.2) (.bool t696)) (fun _ hk => hk.2) (.bool t697)) (fun _ hk => hk.2) (.int .i64 t698)) (fun _ hk => hk.2) (.int .i64 t699)) (fun _ hk => hk.2) (.int .i64 t700)) (fun _ hk => hk.2) (.slice Ao84 t701.length co84)) (fun _ h_ => h_.1)) (fun _ h_ => h_.1))) hb); replace HO695 := Aside0.mk (Kd.N_below (by (with_reducible repeat (first | apply Kd.N_alloc | apply Kd.N_drewN | apply Kd.N_drew)); exact (Kd.N_mono (Kd.N_mono (Kd.N_far (p := ⟨gb706, 5, none⟩) (Kd.N_far (p := ⟨gb706, 4, none⟩) (Kd.N_far (p := ⟨gb706, 3, none⟩) (Kd.N_far (p := ⟨gb706, 2, none⟩) (Kd.N_far (p := ⟨gb706, 1, none⟩) (Kd.N_far (p := ⟨gb706, 0, none⟩) (Kd.N_far (p := ⟨gb705, 5, none⟩) (Kd.N_far (p := ⟨gb705, 4, none⟩) (Kd.N_far (p := ⟨gb705, 3, none⟩) (Kd.N_far (p := ⟨gb705, 2, none⟩) (Kd.N_far (p := ⟨gb705, 1, none⟩) (Kd.N_far (p := ⟨gb705, 0, none⟩) (Kd.N_mono (Kd.N_mono HO695.out (fun k_ hk => (⟨hk, hk.2.2.2.2.2.2.2.2.2.1⟩ : _ ∧ k_ ≠ gb705))) (fun k_ hk => (⟨hk, hk.1.2.2.2.2.2.2.2.2.2.2⟩ : _ ∧ k_ ≠ gb706))) (fun _ hk => hk.1.2) (.bool t688)) (fun _ hk => hk.1.2) (.bool t689)) (fun _ hk => hk.1.2) (.int .i64 t690)) (fun _ hk => hk.1.2) (.int .i64 t691)) (fun _ hk => hk.1.2) (.int .i64 t692)) (fun _ hk => hk.1.2) (.slice Ao77 t693.length co77)) (fun _ hk => hk.2) (.bool t696)) (fun _ hk => hk.2) (.bool t697)) (fun _ hk => hk.2) (.int .i64 t698)) (fun _ hk => hk.2) (.int .i64 t699)) (fun _ hk => hk.2) (.int .i64 t700)) (fun _ hk => hk.2) (.slice Ao84 t701.length co84)) (fun _ h_ => h_.1)) (fun _ h_ => h_.1))) hb); replace HO703 := Aside0.mk (Kd.N_below (by (with_reducible repeat (first | apply Kd.N_alloc | apply Kd.N_drewN | apply Kd.N_drew)); exact (Kd.N_mono (Kd.N_mono (Kd.N_far (p := ⟨gb706, 5, none⟩) (Kd.N_far (p := ⟨gb706, 4, none⟩) (Kd.N_far (p := ⟨gb706, 3, none⟩) (Kd.N_far (p := ⟨gb706, 2, none⟩) (Kd.N_far (p := ⟨gb706, 1, none⟩) (Kd.N_far (p := ⟨gb706, 0, none⟩) (Kd.N_far (p := ⟨gb705, 5, none⟩) (Kd.N_far (p := ⟨gb705, 4, none⟩) (Kd.N_far (p := ⟨gb705, 3, none⟩) (Kd.N_far (p := ⟨gb705, 2, none⟩) (Kd.N_far (p := ⟨gb705, 1, none⟩) (Kd.N_far (p := ⟨gb705, 0, none⟩) (Kd.N_mono (Kd.N_mono HO703.out (fun k_ hk => (⟨hk, hk.2.2.2.2.2.2.2.2.2.1⟩ : _ ∧ k_ ≠ gb705))) (fun k_ hk => (⟨hk, hk.1.2.2.2.2.2.2.2.2.2.2⟩ : _ ∧ k_ ≠ gb706))) (fun _ hk => hk.1.2) (.bool t688)) (fun _ hk => hk.1.2) (.bool t689)) (fun _ hk => hk.1.2) (.int .i64 t690)) (fun _ hk => hk.1.2) (.int .i64 t691)) (fun _ hk => hk.1.2) (.int .i64 t692)) (fun _ hk => hk.1.2) (.slice Ao77 t693.length co77)) (fun _ hk => hk.2) (.bool t696)) (fun _ hk => hk.2) (.bool t697)) (fun _ hk => hk.2) (.int .i64 t698)) (fun _ hk => hk.2) (.int .i64 t699)) (fun _ hk => hk.2) (.int .i64 t700)) (fun _ hk => hk.2) (.slice Ao84 t701.length co84)) (fun _ h_ => h_.1)) (fun _ h_ => h_.1))) hb); replace BK663 := tBb BK663 hb; replace BK664 := tBb BK664 hb; replace BK674 := tBb BK674 hb; replace BK684 := tBb BK684 hb; replace BK705 := tBp (o' := .cells #[.bool t688, .bool t689, .int .i64 t690, .int .i64 t691, .int .i64 t692, .slice Ao77 t693.length co77] 25 (0, 0)) BK705 hb; replace BK706 := tBp (o' := .cells #[.bool t696, .bool t697, .int .i64 t698, .int .i64 t699, .int .i64 t700, .slice Ao84 t701.length co84] 25 (0, 0)) BK706 hb; replace HB := tBs HB hb; (try clear hb); (try clear hb2); (try clear hk); (try clear hi); have hnb98 := NB706_664.out; have hnc98 := NB664_706.out; have hnb99 := NB706_674.out; have hnc99 := NB674_706.out; have hnb100 := NB706_684.out; have hnc100 := NB684_706.out; obtain ⟨hcz101_0, hcz101_1, hcz101_2, hcz101_3, hcz101_4, hcz101_5, hfz101_0, hfz101_1, hfz101_2, hfz101_3, hfz101_4, hfz101_5⟩ := cells6 BK706.out; have hnb102 := NB664_674.out; have hnc102 := NB674_664.out; have hnb103 := NB664_684.out; have hnc103 := NB684_664.out; obtain ⟨hcz104_0, hcz104_1, hcz104_2, hcz104_3, hcz104_4, hcz104_5, hfz104_0, hfz104_1, hfz104_2, hfz104_3, hfz104_4, hfz104_5⟩ := cells6 BK664.out) | (go_at_call 11; (with_reducible refine (laws_sameBatch.calls kj5 t696 t697 t698 t699 t700 _ _ t701 t655 t656 t657 t658 t659 _ _ t660 t708 _ ?side1 ?side2 ?side3 ?side4 A66.out).mono ?_); (case side1 => repeat (first | exact (Kd.N_reads' HO703.out).2.2 | (with_reducible refine Kd.C_alloc ?_ _) | (with_reducible refine Kd.C_drewN ?_ _) | (with_reducible refine Kd.C_drew ?_))); (case side2 => exact (Kd.N_reads' HO703.out).2.1); (case side3 => repeat (first | exact (Kd.N_reads' HO_665005.out).2.2 | (with_reducible refine Kd.C_alloc ?_ _) | (with_reducible refine Kd.C_drewN ?_ _) | (with_reducible refine Kd.C_drew ?_))); (case side4 => exact (Kd.N_reads' HO_665005.out).2.1); rintro e w105 ⟨rfl, hb⟩; replace HO_664005 := tNb HO_664005 hb; replace HO_665005 := tNb HO_665005 hb; replace HO_675005 := tNb HO_675005 hb; replace HO_685005 := tNb HO_685005 hb; replace HL687_3 := tVb HL687_3 hb; replace HL687_5 := tVb HL687_5 hb; replace HO695 := tNb HO695 hb; replace HO703 := tNb HO703 hb; replace BK663 := tBb BK663 hb; replace BK664 := tBb BK664 hb; replace BK674 := tBb BK674 hb; replace BK684 := tBb BK684 hb; replace BK705 := tBb BK705 hb; replace BK706 := tBb BK706 hb; replace HB := tBs HB hb; (try clear hb); (try clear hb2); (try clear hk); (try clear hi)))
        all_goals go_ret
        all_goals exact ⟨by first | rfl | (simp [errW_none, errW_some] <;> rfl) | (simp [*, errW_none, errW_some] <;> rfl), zb⟩
       ·replace c65 := Bool.eq_false_iff.mpr c65
        subst c65
        rw [if_neg (show ¬ (false = true) by decide)] at H
        obtain rfl := Option.some.inj H
        try go_wp2_with (first | (go_at_call 11; (with_reducible refine (laws_sameBatch.calls kj5 t688 t689 t690 t691 t692 _ _ t693 t647 t648 t649 t650 t651 _ _ t652 false _ ?side1 ?side2 ?side3 ?side4 A64.out).mono ?_); (case side1 => refine (Kd.N_reads' (e := 41) (base := w.heap.size) (ok := fun k_ => (some k_ ≠ (.slice Ao84 t701.length co84 : Value).ownBlock ∧ (some k_ ≠ (.slice Ao12 t652.length co12 : Value).ownBlock ∧ (some k_ ≠ (.slice (some ad687) t660.length co14 : Value).ownBlock ∧ (some k_ ≠ (.slice Ao20 t670.length co20 : Value).ownBlock ∧ (some k_ ≠ (.slice Ao30 t680.length co30 : Value).ownBlock ∧ (k_ ≠ gb663 ∧ (k_ ≠ gb664 ∧ (k_ ≠ gb674 ∧ (k_ ≠ gb684 ∧ (k_ ≠ gb705 ∧ k_ ≠ gb706))))))))))) (n := t693.length) (c := co77) ?_).2.2; exact (by (with_reducible repeat (first | apply Kd.N_alloc | apply Kd.N_drewN | apply Kd.N_drew)); exact (Kd.N_mono (Kd.N_mono (Kd.N_far (p := ⟨gb706, 5, none⟩) (Kd.N_far (p := ⟨gb706, 4, none⟩) (Kd.N_far (p := ⟨gb706, 3, none⟩) (Kd.N_far (p := ⟨gb706, 2, none⟩) (Kd.N_far (p := ⟨gb706, 1, none⟩) (Kd.N_far (p := ⟨gb706, 0, none⟩) (Kd.N_far (p := ⟨gb705, 5, none⟩) (Kd.N_far (p := ⟨gb705, 4, none⟩) (Kd.N_far (p := ⟨gb705, 3, none⟩) (Kd.N_far (p := ⟨gb705, 2, none⟩) (Kd.N_far (p := ⟨gb705, 1, none⟩) (Kd.N_far (p := ⟨gb705, 0, none⟩) (Kd.N_mono (Kd.N_mono HO695.out (fun k_ hk => (⟨hk, hk.2.2.2.2.2.2.2.2.2.1⟩ : _ ∧ k_ ≠ gb705))) (fun k_ hk => (⟨hk, hk.1.2.2.2.2.2.2.2.2.2.2⟩ : _ ∧ k_ ≠ gb706))) (fun _ hk => hk.1.2) (.bool t688)) (fun _ hk => hk.1.2) (.bool t689)) (fun _ hk => hk.1.2) (.int .i64 t690)) (fun _ hk => hk.1.2) (.int .i64 t691)) (fun _ hk => hk.1.2) (.int .i64 t692)) (fun _ hk => hk.1.2) (.slice Ao77 t693.length co77)) (fun _ hk => hk.2) (.bool t696)) (fun _ hk => hk.2) (.bool t697)) (fun _ hk => hk.2) (.int .i64 t698)) (fun _ hk => hk.2) (.int .i64 t699)) (fun _ hk => hk.2) (.int .i64 t700)) (fun _ hk => hk.2) (.slice Ao84 t701.length co84)) (fun _ h_ => h_.1)) (fun _ h_ => h_.1)))); (case side2 => exact (Kd.N_reads' HO695.out).2.1); (case side3 => refine (Kd.N_reads' (e := 41) (base := w.heap.size) (ok := fun k_ => (some k_ ≠ (.slice Ao77 t693.length co77 : Value).ownBlock ∧ (some k_ ≠ (.slice Ao84 t701.length co84 : Value).ownBlock ∧ (some k_ ≠ (.slice (some ad687) t660.length co14 : Value).ownBlock ∧ (some k_ ≠ (.slice Ao20 t670.length co20 : Value).ownBlock ∧ (some k_ ≠ (.slice Ao30 t680.length co30 : Value).ownBlock ∧ (k_ ≠ gb663 ∧ (k_ ≠ gb664 ∧ (k_ ≠ gb674 ∧ (k_ ≠ gb684 ∧ (k_ ≠ gb705 ∧ k_ ≠ gb706))))))))))) (n := t652.length) (c := co12) ?_).2.2; exact (by (with_reducible repeat (first | apply Kd.N_alloc | apply Kd.N_drewN | apply Kd.N_drew)); exact (Kd.N_mono (Kd.N_mono (Kd.N_far (p := ⟨gb706, 5, none⟩) (Kd.N_far (p := ⟨gb706, 4, none⟩) (Kd.N_far (p := ⟨gb706, 3, none⟩) (Kd.N_far (p := ⟨gb706, 2, none⟩) (Kd.N_far (p := ⟨gb706, 1, none⟩) (Kd.N_far (p := ⟨gb706, 0, none⟩) (Kd.N_far (p := ⟨gb705, 5, none⟩) (Kd.N_far (p := ⟨gb705, 4, none⟩) (Kd.N_far (p := ⟨gb705, 3, none⟩) (Kd.N_far (p := ⟨gb705, 2, none⟩) (Kd.N_far (p := ⟨gb705, 1, none⟩) (Kd.N_far (p := ⟨gb705, 0, none⟩) (Kd.N_mono (Kd.N_mono HO_664005.out (fun k_ hk => (⟨hk, hk.2.2.2.2.2.2.2.2.2.1⟩ : _ ∧ k_ ≠ gb705))) (fun k_ hk => (⟨hk, hk.1.2.2.2.2.2.2.2.2.2.2⟩ : _ ∧ k_ ≠ gb706))) (fun _ hk => hk.1.2) (.bool t688)) (fun _ hk => hk.1.2) (.bool t689)) (fun _ hk => hk.1.2) (.int .i64 t690)) (fun _ hk => hk.1.2) (.int .i64 t691)) (fun _ hk => hk.1.2) (.int .i64 t692)) (fun _ hk => hk.1.2) (.slice Ao77 t693.length co77)) (fun _ hk => hk.2) (.bool t696)) (fun _ hk => hk.2) (.bool t697)) (fun _ hk => hk.2) (.int .i64 t698)) (fun _ hk => hk.2) (.int .i64 t699)) (fun _ hk => hk.2) (.int .i64 t700)) (fun _ hk => hk.2) (.slice Ao84 t701.length co84)) (fun _ h_ => h_.1)) (fun _ h_ => h_.1)))); (case side4 => exact (Kd.N_reads' HO_664005.out).2.1); rintro e w136 ⟨rfl, hb⟩; replace HO_664005 := Aside0.mk (Kd.N_below (by (with_reducible repeat (first | apply Kd.N_alloc | apply Kd.N_drewN | apply Kd.N_drew)); exact (Kd.N_mono (Kd.N_mono (Kd.N_far (p := ⟨gb706, 5, none⟩) (Kd.N_far (p := ⟨gb706, 4, none⟩) (Kd.N_far (p := ⟨gb706, 3, none⟩) (Kd.N_far (p := ⟨gb706, 2, none⟩) (Kd.N_far (p := ⟨gb706, 1, none⟩) (Kd.N_far (p := ⟨gb706, 0, none⟩) (Kd.N_far (p := ⟨gb705, 5, none⟩) (Kd.N_far (p := ⟨gb705, 4, none⟩) (Kd.N_far (p := ⟨gb705, 3, none⟩) (Kd.N_far (p := ⟨gb705, 2, none⟩) (Kd.N_far (p := ⟨gb705, 1, none⟩) (Kd.N_far (p := ⟨gb705, 0, none⟩) (Kd.N_mono (Kd.N_mono HO_664005.out (fun k_ hk => (⟨hk, hk.2.2.2.2.2.2.2.2.2.1⟩ : _ ∧ k_ ≠ gb705))) (fun k_ hk => (⟨hk, hk.1.2.2.2.2.2.2.2.2.2.2⟩ : _ ∧ k_ ≠ gb706))) (fun _ hk => hk.1.2) (.bool t688)) (fun _ hk => hk.1.2) (.bool t689)) (fun _ hk => hk.1.2) (.int .i64 t690)) (fun _ hk => hk.1.2) (.int .i64 t691)) (fun _ hk => hk.1.2) (.int .i64 t692)) (fun _ hk => hk.1.2) (.slice Ao77 t693.length co77)) (fun _ hk => hk.2) (.bool t696)) (fun _ hk => hk.2) (.bool t697)) (fun _ hk => hk.2) (.int .i64 t698)) (fun _ hk => hk.2) (.int .i64 t699)) (fun _ hk => hk.2) (.int .i64 t700)) (fun _ hk => hk.2) (.slice Ao84 t701.length co84)) (fun _ h_ => h_.1)) (fun _ h_ => h_.1))) hb); replace HO_665005 := Aside0.mk (Kd.N_below (by (with_reducible repeat (first | apply Kd.N_alloc | apply Kd.N_drewN | apply Kd.N_drew)); exact (Kd.N_mono (Kd.N_mono (Kd.N_far (p := ⟨gb706, 5, none⟩) (Kd.N_far (p := ⟨gb706, 4, none⟩) (Kd.N_far (p := ⟨gb706, 3, none⟩) (Kd.N_far (p := ⟨gb706, 2, none⟩) (Kd.N_far (p := ⟨gb706, 1, none⟩) (Kd.N_far (p := ⟨gb706, 0, none⟩) (Kd.N_far (p := ⟨gb705, 5, none⟩) (Kd.N_far (p := ⟨gb705, 4, none⟩) (Kd.N_far (p := ⟨gb705, 3, none⟩) (Kd.N_far (p := ⟨gb705, 2, none⟩) (Kd.N_far (p := ⟨gb705, 1, none⟩) (Kd.N_far (p := ⟨gb705, 0, none⟩) (Kd.N_mono (Kd.N_mono HO_665005.out (fun k_ hk => (⟨hk, hk.2.2.2.2.2.2.2.2.2.1⟩ : _ ∧ k_ ≠ gb705))) (fun k_ hk => (⟨hk, hk.1.2.2.2.2.2.2.2.2.2.2⟩ : _ ∧ k_ ≠ gb706))) (fun _ hk => hk.1.2) (.bool t688)) (fun _ hk => hk.1.2) (.bool t689)) (fun _ hk => hk.1.2) (.int .i64 t690)) (fun _ hk => hk.1.2) (.int .i64 t691)) (fun _ hk => hk.1.2) (.int .i64 t692)) (fun _ hk => hk.1.2) (.slice Ao77 t693.length co77)) (fun _ hk => hk.2) (.bool t696)) (fun _ hk => hk.2) (.bool t697)) (fun _ hk => hk.2) (.int .i64 t698)) (fun _ hk => hk.2) (.int .i64 t699)) (fun _ hk => hk.2) (.int .i64 t700)) (fun _ hk => hk.2) (.slice Ao84 t701.length co84)) (fun _ h_ => h_.1)) (fun _ h_ => h_.1))) hb); replace HO_675005 := Aside0.mk (Kd.N_below (by (with_reducible repeat (first | apply Kd.N_alloc | apply Kd.N_drewN | apply Kd.N_drew)); exact (Kd.N_mono (Kd.N_mono (Kd.N_far (p := ⟨gb706, 5, none⟩) (Kd.N_far (p := ⟨gb706, 4, none⟩) (Kd.N_far (p := ⟨gb706, 3, none⟩) (Kd.N_far (p := ⟨gb706, 2, none⟩) (Kd.N_far (p := ⟨gb706, 1, none⟩) (Kd.N_far (p := ⟨gb706, 0, none⟩) (Kd.N_far (p := ⟨gb705, 5, none⟩) (Kd.N_far (p := ⟨gb705, 4, none⟩) (Kd.N_far (p := ⟨gb705, 3, none⟩) (Kd.N_far (p := ⟨gb705, 2, none⟩) (Kd.N_far (p := ⟨gb705, 1, none⟩) (Kd.N_far (p := ⟨gb705, 0, none⟩) (Kd.N_mono (Kd.N_mono HO_675005.out (fun k_ hk => (⟨hk, hk.2.2.2.2.2.2.2.2.2.1⟩ : _ ∧ k_ ≠ gb705))) (fun k_ hk => (⟨hk, hk.1.2.2.2.2.2.2.2.2.2.2⟩ : _ ∧ k_ ≠ gb706))) (fun _ hk => hk.1.2) (.bool t688)) (fun _ hk => hk.1.2) (.bool t689)) (fun _ hk => hk.1.2) (.int .i64 t690)) (fun _ hk => hk.1.2) (.int .i64 t691)) (fun _ hk => hk.1.2) (.int .i64 t692)) (fun _ hk => hk.1.2) (.slice Ao77 t693.length co77)) (fun _ hk => hk.2) (.bool t696)) (fun _ hk => hk.2) (.bool t697)) (fun _ hk => hk.2) (.int .i64 t698)) (fun _ hk => hk.2) (.int .i64 t699)) (fun _ hk => hk.2) (.int .i64 t700)) (fun _ hk => hk.2) (.slice Ao84 t701.length co84)) (fun _ h_ => h_.1)) (fun _ h_ => h_.1))) hb); replace HO_685005 := Aside0.mk (Kd.N_below (by (with_reducible repeat (first | apply Kd.N_alloc | apply Kd.N_drewN | apply Kd.N_drew)); exact (Kd.N_mono (Kd.N_mono (Kd.N_far (p := ⟨gb706, 5, none⟩) (Kd.N_far (p := ⟨gb706, 4, none⟩) (Kd.N_far (p := ⟨gb706, 3, none⟩) (Kd.N_far (p := ⟨gb706, 2, none⟩) (Kd.N_far (p := ⟨gb706, 1, none⟩) (Kd.N_far (p := ⟨gb706, 0, none⟩) (Kd.N_far (p := ⟨gb705, 5, none⟩) (Kd.N_far (p := ⟨gb705, 4, none⟩) (Kd.N_far (p := ⟨gb705, 3, none⟩) (Kd.N_far (p := ⟨gb705, 2, none⟩) (Kd.N_far (p := ⟨gb705, 1, none⟩) (Kd.N_far (p := ⟨gb705, 0, none⟩) (Kd.N_mono (Kd.N_mono HO_685005.out (fun k_ hk => (⟨hk, hk.2.2.2.2.2.2.2.1⟩ : _ ∧ k_ ≠ gb705))) (fun k_ hk => (⟨hk, hk.1.2.2.2.2.2.2.2.2⟩ : _ ∧ k_ ≠ gb706))) (fun _ hk => hk.1.2) (.bool t688)) (fun _ hk => hk.1.2) (.bool t689)) (fun _ hk => hk.1.2) (.int .i64 t690)) (fun _ hk => hk.1.2) (.int .i64 t691)) (fun _ hk => hk.1.2) (.int .i64 t692)) (fun _ hk => hk.1.2) (.slice Ao77 t693.length co77)) (fun _ hk => hk.2) (.bool t696)) (fun _ hk => hk.2) (.bool t697)) (fun _ hk => hk.2) (.int .i64 t698)) (fun _ hk => hk.2) (.int .i64 t699)) (fun _ hk => hk.2) (.int .i64 t700)) (fun _ hk => hk.2) (.slice Ao84 t701.length co84)) (fun _ h_ => h_.1)) (fun _ h_ => h_.1))) hb); replace HL687_3 := Aside0.mk (Kd.V_below (by (with_reducible repeat (first | apply Kd.V_alloc | apply Kd.V_drewN | apply Kd.V_drew)); exact (Kd.V_mono (Kd.V_mono (Kd.V_far (p := ⟨gb706, 5, none⟩) (Kd.V_far (p := ⟨gb706, 4, none⟩) (Kd.V_far (p := ⟨gb706, 3, none⟩) (Kd.V_far (p := ⟨gb706, 2, none⟩) (Kd.V_far (p := ⟨gb706, 1, none⟩) (Kd.V_far (p := ⟨gb706, 0, none⟩) (Kd.V_far (p := ⟨gb705, 5, none⟩) (Kd.V_far (p := ⟨gb705, 4, none⟩) (Kd.V_far (p := ⟨gb705, 3, none⟩) (Kd.V_far (p := ⟨gb705, 2, none⟩) (Kd.V_far (p := ⟨gb705, 1, none⟩) (Kd.V_far (p := ⟨gb705, 0, none⟩) (Kd.V_mono (Kd.V_mono HL687_3.out (fun k_ hk => (⟨hk, hk.2.2.2.2.2.2.2.2.2.2.1⟩ : _ ∧ k_ ≠ gb705))) (fun k_ hk => (⟨hk, hk.1.2.2.2.2.2.2.2.2.2.2.2⟩ : _ ∧ k_ ≠ gb706))) (fun _ hk => hk.1.2) (.bool t688)) (fun _ hk => hk.1.2) (.bool t689)) (fun _ hk => hk.1.2) (.int .i64 t690)) (fun _ hk => hk.1.2) (.int .i64 t691)) (fun _ hk => hk.1.2) (.int .i64 t692)) (fun _ hk => hk.1.2) (.slice Ao77 t693.length co77)) (fun _ hk => hk.2) (.bool t696)) (fun _ hk => hk.2) (.bool t697)) (fun _ hk => hk.2) (.int .i64 t698)) (fun _ hk => hk.2) (.int .i64 t699)) (fun _ hk => hk.2) (.int .i64 t700)) (fun _ hk => hk.2) (.slice Ao84 t701.length co84)) (fun _ h_ => h_.1)) (fun _ h_ => h_.1))) hb); replace HL687_5 := Aside0.mk (Kd.V_below (by (with_reducible repeat (first | apply Kd.V_alloc | apply Kd.V_drewN | apply Kd.V_drew)); exact (Kd.V_mono (Kd.V_mono (Kd.V_far (p := ⟨gb706, 5, none⟩) (Kd.V_far (p := ⟨gb706, 4, none⟩) (Kd.V_far (p := ⟨gb706, 3, none⟩) (Kd.V_far (p := ⟨gb706, 2, none⟩) (Kd.V_far (p := ⟨gb706, 1, none⟩) (Kd.V_far (p := ⟨gb706, 0, none⟩) (Kd.V_far (p := ⟨gb705, 5, none⟩) (Kd.V_far (p := ⟨gb705, 4, none⟩) (Kd.V_far (p := ⟨gb705, 3, none⟩) (Kd.V_far (p := ⟨gb705, 2, none⟩) (Kd.V_far (p := ⟨gb705, 1, none⟩) (Kd.V_far (p := ⟨gb705, 0, none⟩) (Kd.V_mono (Kd.V_mono HL687_5.out (fun k_ hk => (⟨hk, hk.2.2.2.2.2.2.2.2.2.2.1⟩ : _ ∧ k_ ≠ gb705))) (fun k_ hk => (⟨hk, hk.1.2.2.2.2.2.2.2.2.2.2.2⟩ : _ ∧ k_ ≠ gb706))) (fun _ hk => hk.1.2) (.bool t688)) (fun _ hk => hk.1.2) (.bool t689)) (fun _ hk => hk.1.2) (.int .i64 t690)) (fun _ hk => hk.1.2) (.int .i64 t691)) (fun _ hk => hk.1.2) (.int .i64 t692)) (fun _ hk => hk.1.2) (.slice Ao77 t693.length co77)) (fun _ hk => hk.2) (.bool t696)) (fun _ hk => hk.2) (.bool t697)) (fun _ hk => hk.2) (.int .i64 t698)) (fun _ hk => hk.2) (.int .i64 t699)) (fun _ hk => hk.2) (.int .i64 t700)) (fun _ hk => hk.2) (.slice Ao84 t701.length co84)) (fun _ h_ => h_.1)) (fun _ h_ => h_.1))) hb); replace HO695 := Aside0.mk (Kd.N_below (by (with_reducible repeat (first | apply Kd.N_alloc | apply Kd.N_drewN | apply Kd.N_drew)); exact (Kd.N_mono (Kd.N_mono (Kd.N_far (p := ⟨gb706, 5, none⟩) (Kd.N_far (p := ⟨gb706, 4, none⟩) (Kd.N_far (p := ⟨gb706, 3, none⟩) (Kd.N_far (p := ⟨gb706, 2, none⟩) (Kd.N_far (p := ⟨gb706, 1, none⟩) (Kd.N_far (p := ⟨gb706, 0, none⟩) (Kd.N_far (p := ⟨gb705, 5, none⟩) (Kd.N_far (p := ⟨gb705, 4, none⟩) (Kd.N_far (p := ⟨gb705, 3, none⟩) (Kd.N_far (p := ⟨gb705, 2, none⟩) (Kd.N_far (p := ⟨gb705, 1, none⟩) (Kd.N_far (p := ⟨gb705, 0, none⟩) (Kd.N_mono (Kd.N_mono HO695.out (fun k_ hk => (⟨hk, hk.2.2.2.2.2.2.2.2.2.1⟩ : _ ∧ k_ ≠ gb705))) (fun k_ hk => (⟨hk, hk.1.2.2.2.2.2.2.2.2.2.2⟩ : _ ∧ k_ ≠ gb706))) (fun _ hk => hk.1.2) (.bool t688)) (fun _ hk => hk.1.2) (.bool t689)) (fun _ hk => hk.1.2) (.int .i64 t690)) (fun _ hk => hk.1.2) (.int .i64 t691)) (fun _ hk => hk.1.2) (.int .i64 t692)) (fun _ hk => hk.1.2) (.slice Ao77 t693.length co77)) (fun _ hk => hk.2) (.bool t696)) (fun _ hk => hk.2) (.bool t697)) (fun _ hk => hk.2) (.int .i64 t698)) (fun _ hk => hk.2) (.int .i64 t699)) (fun _ hk => hk.2) (.int .i64 t700)) (fun _ hk => hk.2) (.slice Ao84 t701.length co84)) (fun _ h_ => h_.1)) (fun _ h_ => h_.1))) hb); replace HO703 := Aside0.mk (Kd.N_below (by (with_reducible repeat (first | apply Kd.N_alloc | apply Kd.N_drewN | apply Kd.N_drew)); exact (Kd.N_mono (Kd.N_mono (Kd.N_far (p := ⟨gb706, 5, none⟩) (Kd.N_far (p := ⟨gb706, 4, none⟩) (Kd.N_far (p := ⟨gb706, 3, none⟩) (Kd.N_far (p := ⟨gb706, 2, none⟩) (Kd.N_far (p := ⟨gb706, 1, none⟩) (Kd.N_far (p := ⟨gb706, 0, none⟩) (Kd.N_far (p := ⟨gb705, 5, none⟩) (Kd.N_far (p := ⟨gb705, 4, none⟩) (Kd.N_far (p := ⟨gb705, 3, none⟩) (Kd.N_far (p := ⟨gb705, 2, none⟩) (Kd.N_far (p := ⟨gb705, 1, none⟩) (Kd.N_far (p := ⟨gb705, 0, none⟩) (Kd.N_mono (Kd.N_mono HO703.out (fun k_ hk => (⟨hk, hk.2.2.2.2.2.2.2.2.2.1⟩ : _ ∧ k_ ≠ gb705))) (fun k_ hk => (⟨hk, hk.1.2.2.2.2.2.2.2.2.2.2⟩ : _ ∧ k_ ≠ gb706))) (fun _ hk => hk.1.2) (.bool t688)) (fun _ hk => hk.1.2) (.bool t689)) (fun _ hk => hk.1.2) (.int .i64 t690)) (fun _ hk => hk.1.2) (.int .i64 t691)) (fun _ hk => hk.1.2) (.int .i64 t692)) (fun _ hk => hk.1.2) (.slice Ao77 t693.length co77)) (fun _ hk => hk.2) (.bool t696)) (fun _ hk => hk.2) (.bool t697)) (fun _ hk => hk.2) (.int .i64 t698)) (fun _ hk => hk.2) (.int .i64 t699)) (fun _ hk => hk.2) (.int .i64 t700)) (fun _ hk => hk.2) (.slice Ao84 t701.length co84)) (fun _ h_ => h_.1)) (fun _ h_ => h_.1))) hb); replace BK663 := tBb BK663 hb; replace BK664 := tBb BK664 hb; replace BK674 := tBb BK674 hb; replace BK684 := tBb BK684 hb; replace BK705 := tBp (o' := .cells #[.bool t688, .bool t689, .int .i64 t690, .int .i64 t691, .int .i64 t692, .slice Ao77 t693.length co77] 25 (0, 0)) BK705 hb; replace BK706 := tBp (o' := .cells #[.bool t696, .bool t697, .int .i64 t698, .int .i64 t699, .int .i64 t700, .slice Ao84 t701.length co84] 25 (0, 0)) BK706 hb; replace HB := tBs HB hb; (try clear hb); (try clear hb2); (try clear hk); (try clear hi)))
        all_goals go_ret
        all_goals exact ⟨by first | rfl | (simp [errW_none, errW_some] <;> rfl) | (simp [*, errW_none, errW_some] <;> rfl), zb⟩
      ·replace c63 := Bool.eq_false_iff.mpr c63
       subst c63
       rw [if_neg (show ¬ (false = true) by decide)] at H
       obtain rfl := Option.some.inj H
       try go_wp2
       all_goals go_ret
       all_goals exact ⟨by first | rfl | (simp [errW_none, errW_some] <;> rfl) | (simp [*, errW_none, errW_some] <;> rfl), zb⟩
     ·rw [if_neg c61] at H
      exact absurd H (by simp)

end Go.Proofs.YtahenocndacjeaaDoor.G

