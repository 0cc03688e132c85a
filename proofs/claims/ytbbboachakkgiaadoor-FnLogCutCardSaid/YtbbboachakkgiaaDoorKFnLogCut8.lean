/- A text of seat YtbbboachakkgiaaDoor: what the law FnLogCut needs of this repo's texts (by pack.py). Not trusted: Lean checks it. -/
import Derived.Test.YtbbboachakkgiaaDoorKFnLogCut7
namespace Go.Proofs.YtbbboachakkgiaaDoor.G
open Go.RowKit Go.Proofs.YtbbboachakkgiaaDoorW.PrintWords Go.Proofs.YtbbboachakkgiaaDoorW.PrintLast Go.Proofs.YtbbboachakkgiaaDoorW.PrintMore
attribute [local go_sem] max2_int min2_int max_two min_two max_three min_three max_four min_four   -- for this text's walks alone
set_option linter.unusedVariables false
set_option linter.unusedSimpArgs false

def impl_BatchCut.f (k : Nat) (a0_0 : Bool) (a0_1 : Bool) (a0_2 : Int) (a0_3 : Int) (a0_4 : Int) (l0_5 : List (S33)) (a1 : Int) : Option (Bool × Bool × Int × Int × Int × (List (S33)) × Bool × Bool × Int × Int × Int × (List (S33)) × Bool) := (impl_Batch_cut.f k a0_0 a0_1 a0_2 a0_3 a0_4 l0_5 a1).bind fun bt360 => ((errors_Is.f bt360.2.2.2.2.2.2.2.2.2.2.2.2 (some 2)).bind fun t379 => (if t379 = true then (some (false, false, 0, 0, 0, ([] : List (S33)), false, false, 0, 0, 0, ([] : List (S33)), false)) else (some (bt360.1, bt360.2.1, bt360.2.2.1, bt360.2.2.2.1, bt360.2.2.2.2.1, bt360.2.2.2.2.2.1, bt360.2.2.2.2.2.2.1, bt360.2.2.2.2.2.2.2.1, bt360.2.2.2.2.2.2.2.2.1, bt360.2.2.2.2.2.2.2.2.2.1, bt360.2.2.2.2.2.2.2.2.2.2.1, bt360.2.2.2.2.2.2.2.2.2.2.2.1, true))))
set_option maxHeartbeats 40000000 in
set_option maxRecDepth 100000 in
theorem impl_BatchCut.calls [ErrA] (k : Nat) (a0_0 : Bool) (a0_1 : Bool) (a0_2 : Int) (a0_3 : Int) (a0_4 : Int) (A0_5 : Option Addr) (c0_5 : Nat) (l0_5 : List (S33)) (a1 : Int) (r1 : Bool) (r2 : Bool) (r3 : Int) (r4 : Int) (r5 : Int) (r6 : List (S33)) (r7 : Bool) (r8 : Bool) (r9 : Int) (r10 : Int) (r11 : Int) (r12 : List (S33)) (r13 : Bool) (w : World) (hE : ErrOk [1] w) (hr0_5 : Kd.C k33 w A0_5 l0_5.length l0_5) (hc0_5 : l0_5.length ≤ c0_5) (h : impl_BatchCut.f k a0_0 a0_1 a0_2 a0_3 a0_4 l0_5 a1 = some (r1, r2, r3, r4, r5, r6, r7, r8, r9, r10, r11, r12, r13)) :
  Calls Tryd.prog 37 #[.agg #[.bool a0_0, .bool a0_1, .int .i64 a0_2, .int .i64 a0_3, .int .i64 a0_4, .slice A0_5 l0_5.length c0_5], .int .i64 a1] w fun e w' => ∃ v5_ v11_ : Value, e = .returned (.tuple #[.agg #[.bool r1, .bool r2, .int .i64 r3, .int .i64 r4, .int .i64 r5, v5_], .agg #[.bool r7, .bool r8, .int .i64 r9, .int .i64 r10, .int .i64 r11, v11_], .bool r13]) ∧ Kd.S k33 33 w' w.heap.size (fun k_ => some k_ ≠ (v11_ : Value).ownBlock) v5_ r6 ∧ Kd.S k33 33 w' w.heap.size (fun k_ => some k_ ≠ (v5_ : Value).ownBlock) v11_ r12 ∧ Below w.heap.size w w' := by
 have HE := Aside0.mk hE
 clear hE
 have hu47 := Tryd.underlying47
 have HR0_5 := Aside0.mk hr0_5
 have HC0_5 := Aside0.mk hc0_5
 clear hr0_5 hc0_5
 have HB := Aside0.mk (Below.refl w.heap.size w)
 have H : ((impl_Batch_cut.f k a0_0 a0_1 a0_2 a0_3 a0_4 l0_5 a1).bind fun bt360 => ((errors_Is.f bt360.2.2.2.2.2.2.2.2.2.2.2.2 (some 2)).bind fun t379 => (if t379 = true then (some (false, false, 0, 0, 0, ([] : List (S33)), false, false, 0, 0, 0, ([] : List (S33)), false)) else (some (bt360.1, bt360.2.1, bt360.2.2.1, bt360.2.2.2.1, bt360.2.2.2.2.1, bt360.2.2.2.2.2.1, bt360.2.2.2.2.2.2.1, bt360.2.2.2.2.2.2.2.1, bt360.2.2.2.2.2.2.2.2.1, bt360.2.2.2.2.2.2.2.2.2.1, bt360.2.2.2.2.2.2.2.2.2.2.1, bt360.2.2.2.2.2.2.2.2.2.2.2.1, true))))) = some (r1, r2, r3, r4, r5, r6, r7, r8, r9, r10, r11, r12, r13) := h
 clear h
 replace H := tbe H
 obtain ⟨⟨t360, t361, t362, t363, t364, t365, t368, t369, t370, t371, t372, t373, t376⟩, A3, H⟩ := H
 dsimp only at H
 replace H := tbe H
 obtain ⟨t379, A4, H⟩ := H
 by_cases c5 : t379 = true
 ·subst c5
  rw [if_pos rfl] at H
  simp only [Option.some.injEq, Prod.mk.injEq] at H
  obtain ⟨rfl, rfl, rfl, rfl, rfl, rfl, rfl, rfl, rfl, rfl, rfl, rfl, rfl⟩ := H
  go_enter Tryd.func37, Tryd.ntmps37
  go_wp2_with (first | ((with_reducible refine gate_dst (N := 18) rfl ?_); refine glob_ rfl (v := .iface 151 (.pointer (some (ErrA.errA 2)))) (g := 1) ?hr ?hc ?_; (case hc => exact ErrOk.g1 (ErrOk.below HE.out zb) (by decide)); (case hr => intro W_ hc_; go_simp)) | ((with_reducible refine gate_dst (N := 2) rfl ?_); refine box_event ?hg (N := 2) ?hd (cs := #[.bool a0_0, .bool a0_1, .int .i64 a0_2, .int .i64 a0_3, .int .i64 a0_4, .slice A0_5 l0_5.length c0_5]) (t := 47) ?hr ?_; (case hd => rfl); (case hg => rfl); (case hr => first | (go_simp; done) | (go_simp; rfl)); intro gb357 hg w6 hbox hb; have BK357 := Aside0.mk (hbox); have GW357 := tge HB hg; have GE357 := tge HB hg; replace HB := tBs HB hb; clear hb hbox hg) | ((with_reducible refine gate_dst (N := 4) rfl ?_); refine box_event ?hg (N := 4) ?hd (cs := #[.bool false, .bool false, .int .i64 0, .int .i64 0, .int .i64 0, .slice none 0 0]) (t := 47) ?hr ?_; (case hd => rfl); (case hg => rfl); (case hr => first | (go_simp; done) | (go_simp; rfl)); intro gb358 hg w7 hbox hb; have BK358 := Aside0.mk (hbox); have GW358 := tge HB hg; have GE358 := tge HB hg; replace HB := tBs HB hb; have NB357_358 := tlt BK357 hg; have NB358_357 := tgt BK357 hg; replace BK357 := tBb BK357 hb; clear hb hbox hg) | ((with_reducible refine gate_dst (N := 5) rfl ?_); refine box_event ?hg (N := 5) ?hd (cs := #[.bool false, .bool false, .int .i64 0, .int .i64 0, .int .i64 0, .slice none 0 0]) (t := 47) ?hr ?_; (case hd => rfl); (case hg => rfl); (case hr => first | (go_simp; done) | (go_simp; rfl)); intro gb359 hg w8 hbox hb; have BK359 := Aside0.mk (hbox); have GW359 := tge HB hg; have GE359 := tge HB hg; replace HB := tBs HB hb; have NB357_359 := tlt BK357 hg; have NB359_357 := tgt BK357 hg; replace BK357 := tBb BK357 hb; have NB358_359 := tlt BK358 hg; have NB359_358 := tgt BK358 hg; replace BK358 := tBb BK358 hb; clear hb hbox hg; have hnb9 := NB357_358.out; have hnc9 := NB358_357.out; have hnb10 := NB357_359.out; have hnc10 := NB359_357.out; obtain ⟨hcz11_0, hcz11_1, hcz11_2, hcz11_3, hcz11_4, hcz11_5, hfz11_0, hfz11_1, hfz11_2, hfz11_3, hfz11_4, hfz11_5⟩ := cells6 BK357.out) | ((with_reducible refine gate_callee (f := 61) rfl ?_); refine goesL_ (some 13) rfl rfl Tryd.func61 (by kernel_rfl) rfl #[.agg #[.bool a0_0, .bool a0_1, .int .i64 a0_2, .int .i64 a0_3, .int .i64 a0_4, .slice A0_5 l0_5.length c0_5], .int .i64 a1] rfl tq ?_; (with_reducible refine (impl_Batch_cut.calls (hE := ?sideE) k a0_0 a0_1 a0_2 a0_3 a0_4 _ _ l0_5 a1 t360 t361 t362 t363 t364 t365 t368 t369 t370 t371 t372 t373 t376 _ ?side1 ?side2 A3.out).mono ?_); (case sideE => exact ErrOk.below (HE.out.sub (by decide)) zb); (case side1 => exact tC (Kd.C_below HR0_5.out HB.out)); (case side2 => exact HC0_5.out); rintro e w12 ⟨v366, v374, rfl, ho0, ho1, hb⟩; have u_v366 := tsv Tryd.prog v366 ho0; have u_v374 := tsv Tryd.prog v374 ho1; refine ⟨_, rfl, ?_⟩; have HO367 := tSl ho0 HB; have HO375 := tSl ho1 HB; replace BK357 := tBb BK357 hb; replace BK358 := tBb BK358 hb; replace BK359 := tBb BK359 hb; replace HB := tBs HB hb; (try clear hb); (try clear hb2); (try clear hk); (try clear hi); (try clear ho0); (try clear ho1); (try simp only [errW_none, errW_some])) | ((with_reducible refine gate_dst (N := 7) rfl ?_); refine box_event ?hg (N := 7) ?hd (cs := #[.bool false, .bool false, .int .i64 0, .int .i64 0, .int .i64 0, .slice none 0 0]) (t := 47) ?hr ?_; (case hd => rfl); (case hg => rfl); (case hr => first | (go_simp; done) | (go_simp; rfl)); intro gb377 hg w13 hbox hb; replace HO367 := tSb HO367 hb; replace HO375 := tSb HO375 hb; have BK377 := Aside0.mk (hbox); have GW377 := tge HB hg; have GE377 := tge HB hg; replace HB := tBs HB hb; have NB357_377 := tlt BK357 hg; have NB377_357 := tgt BK357 hg; replace BK357 := tBb BK357 hb; have NB358_377 := tlt BK358 hg; have NB377_358 := tgt BK358 hg; replace BK358 := tBb BK358 hb; have NB359_377 := tlt BK359 hg; have NB377_359 := tgt BK359 hg; replace BK359 := tBb BK359 hb; clear hb hbox hg) | ((with_reducible refine gate_dst (N := 8) rfl ?_); refine box_event ?hg (N := 8) ?hd (cs := #[.bool false, .bool false, .int .i64 0, .int .i64 0, .int .i64 0, .slice none 0 0]) (t := 47) ?hr ?_; (case hd => rfl); (case hg => rfl); (case hr => first | (go_simp; done) | (go_simp; rfl)); intro gb378 hg w14 hbox hb; replace HO367 := tSb HO367 hb; replace HO375 := tSb HO375 hb; have BK378 := Aside0.mk (hbox); have GW378 := tge HB hg; have GE378 := tge HB hg; replace HB := tBs HB hb; have NB357_378 := tlt BK357 hg; have NB378_357 := tgt BK357 hg; replace BK357 := tBb BK357 hb; have NB358_378 := tlt BK358 hg; have NB378_358 := tgt BK358 hg; replace BK358 := tBb BK358 hb; have NB359_378 := tlt BK359 hg; have NB378_359 := tgt BK359 hg; replace BK359 := tBb BK359 hb; have NB377_378 := tlt BK377 hg; have NB378_377 := tgt BK377 hg; replace BK377 := tBb BK377 hb; clear hb hbox hg; have hnb15 := NB377_357.out; have hnc15 := NB357_377.out; have hnb16 := NB377_358.out; have hnc16 := NB358_377.out; have hnb17 := NB377_359.out; have hnc17 := NB359_377.out; have hnb18 := NB377_378.out; have hnc18 := NB378_377.out; obtain ⟨hcz19_0, hcz19_1, hcz19_2, hcz19_3, hcz19_4, hcz19_5, hfz19_0, hfz19_1, hfz19_2, hfz19_3, hfz19_4, hfz19_5⟩ := cells6 BK377.out; obtain ⟨Ao20, co20, eo20⟩ := Kd.S_slice HO367.out; subst eo20; have hnb21 := NB378_357.out; have hnc21 := NB357_378.out; have hnb22 := NB378_358.out; have hnc22 := NB358_378.out; have hnb23 := NB378_359.out; have hnc23 := NB359_378.out; obtain ⟨hcz24_0, hcz24_1, hcz24_2, hcz24_3, hcz24_4, hcz24_5, hfz24_0, hfz24_1, hfz24_2, hfz24_3, hfz24_4, hfz24_5⟩ := cells6 BK378.out; obtain ⟨Ao25, co25, eo25⟩ := Kd.S_slice HO375.out; subst eo25; have CA4 := fun W => errors_Is.calls t376 (some 2) true W A4.out; try simp only [errW_none, errW_some] at CA4) | (go_at_call 52; (with_reducible refine (CA4 _).mono ?_); rintro e w26 ⟨rfl, hb⟩; replace HO367 := Aside0.mk (Kd.S_below (by (with_reducible repeat (first | apply Kd.S_alloc | apply Kd.S_drewN | apply Kd.S_drew)); exact (Kd.S_mono (Kd.S_mono (Kd.S_far (p := ⟨gb378, 5, none⟩) (Kd.S_far (p := ⟨gb378, 4, none⟩) (Kd.S_far (p := ⟨gb378, 3, none⟩) (Kd.S_far (p := ⟨gb378, 2, none⟩) (Kd.S_far (p := ⟨gb378, 1, none⟩) (Kd.S_far (p := ⟨gb378, 0, none⟩) (Kd.S_far (p := ⟨gb377, 5, none⟩) (Kd.S_far (p := ⟨gb377, 4, none⟩) (Kd.S_far (p := ⟨gb377, 3, none⟩) (Kd.S_far (p := ⟨gb377, 2, none⟩) (Kd.S_far (p := ⟨gb377, 1, none⟩) (Kd.S_far (p := ⟨gb377, 0, none⟩) (Kd.S_types (Kd.S_types HO367.out BK377.out (by decide)) BK378.out (by decide)) (fun _ hk => hk.1.2) (.bool t360)) (fun _ hk => hk.1.2) (.bool t361)) (fun _ hk => hk.1.2) (.int .i64 t362)) (fun _ hk => hk.1.2) (.int .i64 t363)) (fun _ hk => hk.1.2) (.int .i64 t364)) (fun _ hk => hk.1.2) (.slice Ao20 t365.length co20)) (fun _ hk => hk.2) (.bool t368)) (fun _ hk => hk.2) (.bool t369)) (fun _ hk => hk.2) (.int .i64 t370)) (fun _ hk => hk.2) (.int .i64 t371)) (fun _ hk => hk.2) (.int .i64 t372)) (fun _ hk => hk.2) (.slice Ao25 t373.length co25)) (fun _ h_ => h_.1)) (fun _ h_ => h_.1))) hb); replace HO375 := Aside0.mk (Kd.S_below (by (with_reducible repeat (first | apply Kd.S_alloc | apply Kd.S_drewN | apply Kd.S_drew)); exact (Kd.S_mono (Kd.S_mono (Kd.S_far (p := ⟨gb378, 5, none⟩) (Kd.S_far (p := ⟨gb378, 4, none⟩) (Kd.S_far (p := ⟨gb378, 3, none⟩) (Kd.S_far (p := ⟨gb378, 2, none⟩) (Kd.S_far (p := ⟨gb378, 1, none⟩) (Kd.S_far (p := ⟨gb378, 0, none⟩) (Kd.S_far (p := ⟨gb377, 5, none⟩) (Kd.S_far (p := ⟨gb377, 4, none⟩) (Kd.S_far (p := ⟨gb377, 3, none⟩) (Kd.S_far (p := ⟨gb377, 2, none⟩) (Kd.S_far (p := ⟨gb377, 1, none⟩) (Kd.S_far (p := ⟨gb377, 0, none⟩) (Kd.S_types (Kd.S_types HO375.out BK377.out (by decide)) BK378.out (by decide)) (fun _ hk => hk.1.2) (.bool t360)) (fun _ hk => hk.1.2) (.bool t361)) (fun _ hk => hk.1.2) (.int .i64 t362)) (fun _ hk => hk.1.2) (.int .i64 t363)) (fun _ hk => hk.1.2) (.int .i64 t364)) (fun _ hk => hk.1.2) (.slice Ao20 t365.length co20)) (fun _ hk => hk.2) (.bool t368)) (fun _ hk => hk.2) (.bool t369)) (fun _ hk => hk.2) (.int .i64 t370)) (fun _ hk => hk.2) (.int .i64 t371)) (fun _ hk => hk.2) (.int .i64 t372)) (fun _ hk => hk.2) (.slice Ao25 t373.length co25)) (fun _ h_ => h_.1)) (fun _ h_ => h_.1))) hb); replace BK357 := tBb BK357 hb; replace BK358 := tBb BK358 hb; replace BK359 := tBb BK359 hb; replace BK377 := tBp (o' := .cells #[.bool t360, .bool t361, .int .i64 t362, .int .i64 t363, .int .i64 t364, .slice Ao20 t365.length co20] 47 (0, 0)) BK377 hb; replace BK378 := tBp (o' := .cells #[.bool t368, .bool t369, .int .i64 t370, .int .i64 t371, .int .i64 t372, .slice Ao25 t373.length co25] 47 (0, 0)) BK378 hb; replace HB := tBs HB hb; (try clear hb); (try clear hb2); (try clear hk); (try clear hi); have hnb27 := NB358_359.out; have hnc27 := NB359_358.out; obtain ⟨hcz28_0, hcz28_1, hcz28_2, hcz28_3, hcz28_4, hcz28_5, hfz28_0, hfz28_1, hfz28_2, hfz28_3, hfz28_4, hfz28_5⟩ := cells6 BK358.out; obtain ⟨hcz29_0, hcz29_1, hcz29_2, hcz29_3, hcz29_4, hcz29_5, hfz29_0, hfz29_1, hfz29_2, hfz29_3, hfz29_4, hfz29_5⟩ := cells6 BK359.out))
  refine bodyPost_ret (results_list (rs := [.cell 4 47, .cell 5 47, .tmp 6]) rfl (by simp) (.cell gb358 47 #[.bool false, .bool false, .int .i64 0, .int .i64 0, .int .i64 0, .slice none 0 0] (0, 0) _ rfl (tP BK358.out) Tryd.underlying47 rfl (by kernel_rfl) (.cell gb359 47 #[.bool false, .bool false, .int .i64 0, .int .i64 0, .int .i64 0, .slice none 0 0] (0, 0) _ rfl (tP BK359.out) Tryd.underlying47 rfl (by kernel_rfl) (.tmp .nil)))) rfl ?_
  exact ⟨_, _, by first | rfl | (simp [errW_none, errW_some] <;> rfl) | (simp [*, errW_none, errW_some] <;> rfl), by first | exact Kd.S_nil _ _ _ _ _ | exact Kd.N_nil _ _ _ _ _ | exact Kd.V_nil _ _ _ _ _ | exact Kd.Q_nil _ _ _ _ _ | exact Kd.R_nil _ _ _ _ _, by first | exact Kd.S_nil _ _ _ _ _ | exact Kd.N_nil _ _ _ _ _ | exact Kd.V_nil _ _ _ _ _ | exact Kd.Q_nil _ _ _ _ _ | exact Kd.R_nil _ _ _ _ _, zb⟩
 ·replace c5 := Bool.eq_false_iff.mpr c5
  subst c5
  rw [if_neg (show ¬ (false = true) by decide)] at H
  simp only [Option.some.injEq, Prod.mk.injEq] at H
  obtain ⟨rfl, rfl, rfl, rfl, rfl, rfl, rfl, rfl, rfl, rfl, rfl, rfl, rfl⟩ := H
  go_enter Tryd.func37, Tryd.ntmps37
  try go_wp2_with (first | ((with_reducible refine gate_dst (N := 18) rfl ?_); refine glob_ rfl (v := .iface 151 (.pointer (some (ErrA.errA 2)))) (g := 1) ?hr ?hc ?_; (case hc => exact ErrOk.g1 (ErrOk.below HE.out zb) (by decide)); (case hr => intro W_ hc_; go_simp)) | ((with_reducible refine gate_dst (N := 2) rfl ?_); refine box_event ?hg (N := 2) ?hd (cs := #[.bool a0_0, .bool a0_1, .int .i64 a0_2, .int .i64 a0_3, .int .i64 a0_4, .slice A0_5 l0_5.length c0_5]) (t := 47) ?hr ?_; (case hd => rfl); (case hg => rfl); (case hr => first | (go_simp; done) | (go_simp; rfl)); intro gb357 hg w30 hbox hb; have BK357 := Aside0.mk (hbox); have GW357 := tge HB hg; have GE357 := tge HB hg; replace HB := tBs HB hb; clear hb hbox hg) | ((with_reducible refine gate_dst (N := 4) rfl ?_); refine box_event ?hg (N := 4) ?hd (cs := #[.bool false, .bool false, .int .i64 0, .int .i64 0, .int .i64 0, .slice none 0 0]) (t := 47) ?hr ?_; (case hd => rfl); (case hg => rfl); (case hr => first | (go_simp; done) | (go_simp; rfl)); intro gb358 hg w31 hbox hb; have BK358 := Aside0.mk (hbox); have GW358 := tge HB hg; have GE358 := tge HB hg; replace HB := tBs HB hb; have NB357_358 := tlt BK357 hg; have NB358_357 := tgt BK357 hg; replace BK357 := tBb BK357 hb; clear hb hbox hg) | ((with_reducible refine gate_dst (N := 5) rfl ?_); refine box_event ?hg (N := 5) ?hd (cs := #[.bool false, .bool false, .int .i64 0, .int .i64 0, .int .i64 0, .slice none 0 0]) (t := 47) ?hr ?_; (case hd => rfl); (case hg => rfl); (case hr => first | (go_simp; done) | (go_simp; rfl)); intro gb359 hg w32 hbox hb; have BK359 := Aside0.mk (hbox); have GW359 := tge HB hg; have GE359 := tge HB hg; replace HB := tBs HB hb; have NB357_359 := tlt BK357 hg; have NB359_357 := tgt BK357 hg; replace BK357 := tBb BK357 hb; have NB358_359 := tlt BK358 hg; have NB359_358 := tgt BK358 hg; replace BK358 := tBb BK358 hb; clear hb hbox hg; have hnb33 := NB357_358.out; have hnc33 := NB358_357.out; have hnb34 := NB357_359.out; have hnc34 := NB359_357.out; obtain ⟨hcz35_0, hcz35_1, hcz35_2, hcz35_3, hcz35_4, hcz35_5, hfz35_0, hfz35_1, hfz35_2, hfz35_3, hfz35_4, hfz35_5⟩ := cells6 BK357.out) | ((with_reducible refine gate_callee (f := 61) rfl ?_); refine goesL_ (some 13) rfl rfl Tryd.func61 (by kernel_rfl) rfl #[.agg #[.bool a0_0, .bool a0_1, .int .i64 a0_2, .int .i64 a0_3, .int .i64 a0_4, .slice A0_5 l0_5.length c0_5], .int .i64 a1] rfl tq ?_; (with_reducible refine (impl_Batch_cut.calls (hE := ?sideE) k a0_0 a0_1 a0_2 a0_3 a0_4 _ _ l0_5 a1 t360 t361 t362 t363 t364 t365 t368 t369 t370 t371 t372 t373 t376 _ ?side1 ?side2 A3.out).mono ?_); (case sideE => exact ErrOk.below (HE.out.sub (by decide)) zb); (case side1 => exact tC (Kd.C_below HR0_5.out HB.out)); (case side2 => exact HC0_5.out); rintro e w36 ⟨v366, v374, rfl, ho0, ho1, hb⟩; have u_v366 := tsv Tryd.prog v366 ho0; have u_v374 := tsv Tryd.prog v374 ho1; refine ⟨_, rfl, ?_⟩; have HO367 := tSl ho0 HB; have HO375 := tSl ho1 HB; replace BK357 := tBb BK357 hb; replace BK358 := tBb BK358 hb; replace BK359 := tBb BK359 hb; replace HB := tBs HB hb; (try clear hb); (try clear hb2); (try clear hk); (try clear hi); (try clear ho0); (try clear ho1); (try simp only [errW_none, errW_some])) | ((with_reducible refine gate_dst (N := 7) rfl ?_); refine box_event ?hg (N := 7) ?hd (cs := #[.bool false, .bool false, .int .i64 0, .int .i64 0, .int .i64 0, .slice none 0 0]) (t := 47) ?hr ?_; (case hd => rfl); (case hg => rfl); (case hr => first | (go_simp; done) | (go_simp; rfl)); intro gb377 hg w37 hbox hb; replace HO367 := tSb HO367 hb; replace HO375 := tSb HO375 hb; have BK377 := Aside0.mk (hbox); have GW377 := tge HB hg; have GE377 := tge HB hg; replace HB := tBs HB hb; have NB357_377 := tlt BK357 hg; have NB377_357 := tgt BK357 hg; replace BK357 := tBb BK357 hb; have NB358_377 := tlt BK358 hg; have NB377_358 := tgt BK358 hg; replace BK358 := tBb BK358 hb; have NB359_377 := tlt BK359 hg; have NB377_359 := tgt BK359 hg; replace BK359 := tBb BK359 hb; clear hb hbox hg) | ((with_reducible refine gate_dst (N := 8) rfl ?_); refine box_event ?hg (N := 8) ?hd (cs := #[.bool false, .bool false, .int .i64 0, .int .i64 0, .int .i64 0, .slice none 0 0]) (t := 47) ?hr ?_; (case hd => rfl); (case hg => rfl); (case hr => first | (go_simp; done) | (go_simp; rfl)); intro gb378 hg w38 hbox hb; replace HO367 := tSb HO367 hb; replace HO375 := tSb HO375 hb; have BK378 := Aside0.mk (hbox); have GW378 := tge HB hg; have GE378 := tge HB hg; replace HB := tBs HB hb; have NB357_378 := tlt BK357 hg; have NB378_357 := tgt BK357 hg; replace BK357 := tBb BK357 hb; have NB358_378 := tlt BK358 hg; have NB378_358 := tgt BK358 hg; replace BK358 := tBb BK358 hb; have NB359_378 := tlt BK359 hg; have NB378_359 := tgt BK359 hg; replace BK359 := tBb BK359 hb; have NB377_378 := tlt BK377 hg; have NB378_377 := tgt BK377 hg; replace BK377 := tBb BK377 hb; clear hb hbox hg; have hnb39 := NB377_357.out; have hnc39 := NB357_377.out; have hnb40 := NB377_358.out; have hnc40 := NB358_377.out; have hnb41 := NB377_359.out; have hnc41 := NB359_377.out; have hnb42 := NB377_378.out; have hnc42 := NB378_377.out; obtain ⟨hcz43_0, hcz43_1, hcz43_2, hcz43_3, hcz43_4, hcz43_5, hfz43_0, hfz43_1, hfz43_2, hfz43_3, hfz43_4, hfz43_5⟩ := cells6 BK377.out; obtain ⟨Ao44, co44, eo44⟩ := Kd.S_slice HO367.out; subst eo44; have hnb45 := NB378_357.out; have hnc45 := NB357_378.out; have hnb46 := NB378_358.out; have hnc46 := NB358_378.out; have hnb47 := NB378_359.out; have hnc47 := NB359_378.out; obtain ⟨hcz48_0, hcz48_1, hcz48_2, hcz48_3, hcz48_4, hcz48_5, hfz48_0, hfz48_1, hfz48_2, hfz48_3, hfz48_4, hfz48_5⟩ := cells6 BK378.out; obtain ⟨Ao49, co49, eo49⟩ := Kd.S_slice HO375.out; subst eo49; have CA4 := fun W => errors_Is.calls t376 (some 2) false W A4.out; try simp only [errW_none, errW_some] at CA4) | (go_at_call 52; (with_reducible refine (CA4 _).mono ?_); rintro e w50 ⟨rfl, hb⟩; replace HO367 := Aside0.mk (Kd.S_below (by (with_reducible repeat (first | apply Kd.S_alloc | apply Kd.S_drewN | apply Kd.S_drew)); exact (Kd.S_mono (Kd.S_mono (Kd.S_far (p := ⟨gb378, 5, none⟩) (Kd.S_far (p := ⟨gb378, 4, none⟩) (Kd.S_far (p := ⟨gb378, 3, none⟩) (Kd.S_far (p := ⟨gb378, 2, none⟩) (Kd.S_far (p := ⟨gb378, 1, none⟩) (Kd.S_far (p := ⟨gb378, 0, none⟩) (Kd.S_far (p := ⟨gb377, 5, none⟩) (Kd.S_far (p := ⟨gb377, 4, none⟩) (Kd.S_far (p := ⟨gb377, 3, none⟩) (Kd.S_far (p := ⟨gb377, 2, none⟩) (Kd.S_far (p := ⟨gb377, 1, none⟩) (Kd.S_far (p := ⟨gb377, 0, none⟩) (Kd.S_types (Kd.S_types HO367.out BK377.out (by decide)) BK378.out (by decide)) (fun _ hk => hk.1.2) (.bool t360)) (fun _ hk => hk.1.2) (.bool t361)) (fun _ hk => hk.1.2) (.int .i64 t362)) (fun _ hk => hk.1.2) (.int .i64 t363)) (fun _ hk => hk.1.2) (.int .i64 t364)) (fun _ hk => hk.1.2) (.slice Ao44 t365.length co44)) (fun _ hk => hk.2) (.bool t368)) (fun _ hk => hk.2) (.bool t369)) (fun _ hk => hk.2) (.int .i64 t370)) (fun _ hk => hk.2) (.int .i64 t371)) (fun _ hk => hk.2) (.int .i64 t372)) (fun _ hk => hk.2) (.slice Ao49 t373.length co49)) (fun _ h_ => h_.1)) (fun _ h_ => h_.1))) hb); replace HO375 := Aside0.mk (Kd.S_below (by (with_reducible repeat (first | apply Kd.S_alloc | apply Kd.S_drewN | apply Kd.S_drew)); exact (Kd.S_mono (Kd.S_mono (Kd.S_far (p := ⟨gb378, 5, none⟩) (Kd.S_far (p := ⟨gb378, 4, none⟩) (Kd.S_far (p := ⟨gb378, 3, none⟩) (Kd.S_far (p := ⟨gb378, 2, none⟩) (Kd.S_far (p := ⟨gb378, 1, none⟩) (Kd.S_far (p := ⟨gb378, 0, none⟩) (Kd.S_far (p := ⟨gb377, 5, none⟩) (Kd.S_far (p := ⟨gb377, 4, none⟩) (Kd.S_far (p := ⟨gb377, 3, none⟩) (Kd.S_far (p := ⟨gb377, 2, none⟩) (Kd.S_far (p := ⟨gb377, 1, none⟩) (Kd.S_far (p := ⟨gb377, 0, none⟩) (Kd.S_types (Kd.S_types HO375.out BK377.out (by decide)) BK378.out (by decide)) (fun _ hk => hk.1.2) (.bool t360)) (fun _ hk => hk.1.2) (.bool t361)) (fun _ hk => hk.1.2) (.int .i64 t362)) (fun _ hk => hk.1.2) (.int .i64 t363)) (fun _ hk => hk.1.2) (.int .i64 t364)) (fun _ hk => hk.1.2) (.slice Ao44 t365.length co44)) (fun _ hk => hk.2) (.bool t368)) (fun _ hk => hk.2) (.bool t369)) (fun _ hk => hk.2) (.int .i64 t370)) (fun _ hk => hk.2) (.int .i64 t371)) (fun _ hk => hk.2) (.int .i64 t372)) (fun _ hk => hk.2) (.slice Ao49 t373.length co49)) (fun _ h_ => h_.1)) (fun _ h_ => h_.1))) hb); replace BK357 := tBb BK357 hb; replace BK358 := tBb BK358 hb; replace BK359 := tBb BK359 hb; replace BK377 := tBp (o' := .cells #[.bool t360, .bool t361, .int .i64 t362, .int .i64 t363, .int .i64 t364, .slice Ao44 t365.length co44] 47 (0, 0)) BK377 hb; replace BK378 := tBp (o' := .cells #[.bool t368, .bool t369, .int .i64 t370, .int .i64 t371, .int .i64 t372, .slice Ao49 t373.length co49] 47 (0, 0)) BK378 hb; replace HB := tBs HB hb; (try clear hb); (try clear hb2); (try clear hk); (try clear hi)))
  replace HO367 := Aside0.mk (Kd.S_drew HO367.out)
  replace HO375 := Aside0.mk (Kd.S_drew HO375.out)
  replace BK357 := Aside0.mk (blk_drew BK357.out)
  replace BK358 := Aside0.mk (blk_drew BK358.out)
  replace BK359 := Aside0.mk (blk_drew BK359.out)
  replace BK377 := Aside0.mk (blk_drew BK377.out)
  replace BK378 := Aside0.mk (blk_drew BK378.out)
  replace HB := Aside0.mk (below_drew1 HB.out)
  refine start_ (n := 5) (S := fun w' => w'.cell? ⟨gb377, 0, none⟩ = some (.bool t360) ∧ w'.cell? ⟨gb377, 1, none⟩ = some (.bool t361) ∧ w'.cell? ⟨gb377, 2, none⟩ = some (.int .i64 t362) ∧ w'.cell? ⟨gb377, 3, none⟩ = some (.int .i64 t363) ∧ w'.cell? ⟨gb377, 4, none⟩ = some (.int .i64 t364) ∧ w'.cell? ⟨gb377, 5, none⟩ = some (.slice Ao44 t365.length co44) ∧ w'.cell? ⟨gb378, 0, none⟩ = some (.bool t368) ∧ w'.cell? ⟨gb378, 1, none⟩ = some (.bool t369) ∧ w'.cell? ⟨gb378, 2, none⟩ = some (.int .i64 t370) ∧ w'.cell? ⟨gb378, 3, none⟩ = some (.int .i64 t371) ∧ w'.cell? ⟨gb378, 4, none⟩ = some (.int .i64 t372) ∧ w'.cell? ⟨gb378, 5, none⟩ = some (.slice Ao49 t373.length co49)) (ds := []) #[false, false, false, false, false] (by kernel_rfl) rfl rfl ⟨(blk_cell BK377.out 0).trans rfl, (blk_cell BK377.out 1).trans rfl, (blk_cell BK377.out 2).trans rfl, (blk_cell BK377.out 3).trans rfl, (blk_cell BK377.out 4).trans rfl, (blk_cell BK377.out 5).trans rfl, (blk_cell BK378.out 0).trans rfl, (blk_cell BK378.out 1).trans rfl, (blk_cell BK378.out 2).trans rfl, (blk_cell BK378.out 3).trans rfl, (blk_cell BK378.out 4).trans rfl, (blk_cell BK378.out 5).trans rfl⟩ (fun hHeld => ?_)
  generalize w50.drew = w51 at HO367 HO375 BK357 BK358 BK359 BK377 BK378 HB hHeld ⊢
  refine take_ (i := 0) (N := some 22) (v := ?_) (a' := ?_) #[true, false, false, false, false] rfl rfl (by kernel_rfl) (fun _ _ _ h => h) (Or.inl ⟨by rfl, ?_⟩) hHeld ?_ ?_
  rotate_left
  ·rintro w' ⟨s0, s1, s2, s3, s4, s5, s6, s7, s8, s9, s10, s11⟩
   go_simp
   with_reducible rfl
  rotate_left
  ·simp only [Act.put, List.setIfInBounds_toArray, List.set_cons_zero, List.set_cons_succ, i64_w, i32_w]
   rfl
  refine take_ (i := 1) (N := some 23) (v := ?_) (a' := ?_) #[true, true, false, false, false] rfl rfl (by kernel_rfl) (fun _ _ _ h => h) (Or.inl ⟨by rfl, ?_⟩) hHeld ?_ ?_
  rotate_left
  ·rintro w' ⟨s0, s1, s2, s3, s4, s5, s6, s7, s8, s9, s10, s11⟩
   go_simp
   with_reducible rfl
  rotate_left
  ·simp only [Act.put, List.setIfInBounds_toArray, List.set_cons_zero, List.set_cons_succ, i64_w, i32_w]
   rfl
  refine one_ (i := 2) (N := none) #[true, true, true, false, false] rfl rfl (by kernel_rfl) (by decide) (fun K hK => ?_)
  have hs52 : w51.cell? ⟨gb358, 0, none⟩ = some (.bool false) := (blk_cell BK358.out 0).trans rfl
  have hfs52 := blk_frozen BK358.out 0
  have hns52_0 := NB357_358.out
  have hns52_2 := NB359_358.out
  have hns52_3 := NB377_358.out
  have hns52_4 := NB378_358.out
  have hms52_0 := NB358_357.out
  have hms52_2 := NB358_359.out
  have hms52_3 := NB358_377.out
  have hms52_4 := NB358_378.out
  have hs53 : w51.cell? ⟨gb358, 1, none⟩ = some (.bool false) := (blk_cell BK358.out 1).trans rfl
  have hfs53 := blk_frozen BK358.out 1
  have hns53_0 := NB357_358.out
  have hns53_2 := NB359_358.out
  have hns53_3 := NB377_358.out
  have hns53_4 := NB378_358.out
  have hms53_0 := NB358_357.out
  have hms53_2 := NB358_359.out
  have hms53_3 := NB358_377.out
  have hms53_4 := NB358_378.out
  have hs54 : w51.cell? ⟨gb358, 2, none⟩ = some (.int .i64 0) := (blk_cell BK358.out 2).trans rfl
  have hfs54 := blk_frozen BK358.out 2
  have hns54_0 := NB357_358.out
  have hns54_2 := NB359_358.out
  have hns54_3 := NB377_358.out
  have hns54_4 := NB378_358.out
  have hms54_0 := NB358_357.out
  have hms54_2 := NB358_359.out
  have hms54_3 := NB358_377.out
  have hms54_4 := NB358_378.out
  have hs55 : w51.cell? ⟨gb358, 3, none⟩ = some (.int .i64 0) := (blk_cell BK358.out 3).trans rfl
  have hfs55 := blk_frozen BK358.out 3
  have hns55_0 := NB357_358.out
  have hns55_2 := NB359_358.out
  have hns55_3 := NB377_358.out
  have hns55_4 := NB378_358.out
  have hms55_0 := NB358_357.out
  have hms55_2 := NB358_359.out
  have hms55_3 := NB358_377.out
  have hms55_4 := NB358_378.out
  have hs56 : w51.cell? ⟨gb358, 4, none⟩ = some (.int .i64 0) := (blk_cell BK358.out 4).trans rfl
  have hfs56 := blk_frozen BK358.out 4
  have hns56_0 := NB357_358.out
  have hns56_2 := NB359_358.out
  have hns56_3 := NB377_358.out
  have hns56_4 := NB378_358.out
  have hms56_0 := NB358_357.out
  have hms56_2 := NB358_359.out
  have hms56_3 := NB358_377.out
  have hms56_4 := NB358_378.out
  have hs57 : w51.cell? ⟨gb358, 5, none⟩ = some (.slice none 0 0) := (blk_cell BK358.out 5).trans rfl
  have hfs57 := blk_frozen BK358.out 5
  have hns57_0 := NB357_358.out
  have hns57_2 := NB359_358.out
  have hns57_3 := NB377_358.out
  have hns57_4 := NB378_358.out
  have hms57_0 := NB358_357.out
  have hms57_2 := NB358_359.out
  have hms57_3 := NB358_377.out
  have hms57_4 := NB358_378.out
  refine skip_ (w1 := ?_) (by rfl) rfl ?_ ?_
  rotate_left
  ·go_simp
   rfl
  refine hK.out _ _ ⟨(tcg NB377_358.out hHeld.1), (tcg NB377_358.out hHeld.2.1), (tcg NB377_358.out hHeld.2.2.1), (tcg NB377_358.out hHeld.2.2.2.1), (tcg NB377_358.out hHeld.2.2.2.2.1), (tcg NB377_358.out hHeld.2.2.2.2.2.1), (tcg NB378_358.out hHeld.2.2.2.2.2.2.1), (tcg NB378_358.out hHeld.2.2.2.2.2.2.2.1), (tcg NB378_358.out hHeld.2.2.2.2.2.2.2.2.1), (tcg NB378_358.out hHeld.2.2.2.2.2.2.2.2.2.1), (tcg NB378_358.out hHeld.2.2.2.2.2.2.2.2.2.2.1), (tcg NB378_358.out hHeld.2.2.2.2.2.2.2.2.2.2.2)⟩ (fun hHeld => ?_)
  clear hK K
  refine one_ (i := 3) (N := none) #[true, true, true, true, false] rfl rfl (by kernel_rfl) (by decide) (fun K hK => ?_)
  have hs58 : w51.cell? ⟨gb359, 0, none⟩ = some (.bool false) := (blk_cell BK359.out 0).trans rfl
  have hfs58 := blk_frozen BK359.out 0
  have hns58_0 := NB357_359.out
  have hns58_1 := NB358_359.out
  have hns58_3 := NB377_359.out
  have hns58_4 := NB378_359.out
  have hms58_0 := NB359_357.out
  have hms58_1 := NB359_358.out
  have hms58_3 := NB359_377.out
  have hms58_4 := NB359_378.out
  have hs59 : w51.cell? ⟨gb359, 1, none⟩ = some (.bool false) := (blk_cell BK359.out 1).trans rfl
  have hfs59 := blk_frozen BK359.out 1
  have hns59_0 := NB357_359.out
  have hns59_1 := NB358_359.out
  have hns59_3 := NB377_359.out
  have hns59_4 := NB378_359.out
  have hms59_0 := NB359_357.out
  have hms59_1 := NB359_358.out
  have hms59_3 := NB359_377.out
  have hms59_4 := NB359_378.out
  have hs60 : w51.cell? ⟨gb359, 2, none⟩ = some (.int .i64 0) := (blk_cell BK359.out 2).trans rfl
  have hfs60 := blk_frozen BK359.out 2
  have hns60_0 := NB357_359.out
  have hns60_1 := NB358_359.out
  have hns60_3 := NB377_359.out
  have hns60_4 := NB378_359.out
  have hms60_0 := NB359_357.out
  have hms60_1 := NB359_358.out
  have hms60_3 := NB359_377.out
  have hms60_4 := NB359_378.out
  have hs61 : w51.cell? ⟨gb359, 3, none⟩ = some (.int .i64 0) := (blk_cell BK359.out 3).trans rfl
  have hfs61 := blk_frozen BK359.out 3
  have hns61_0 := NB357_359.out
  have hns61_1 := NB358_359.out
  have hns61_3 := NB377_359.out
  have hns61_4 := NB378_359.out
  have hms61_0 := NB359_357.out
  have hms61_1 := NB359_358.out
  have hms61_3 := NB359_377.out
  have hms61_4 := NB359_378.out
  have hs62 : w51.cell? ⟨gb359, 4, none⟩ = some (.int .i64 0) := (blk_cell BK359.out 4).trans rfl
  have hfs62 := blk_frozen BK359.out 4
  have hns62_0 := NB357_359.out
  have hns62_1 := NB358_359.out
  have hns62_3 := NB377_359.out
  have hns62_4 := NB378_359.out
  have hms62_0 := NB359_357.out
  have hms62_1 := NB359_358.out
  have hms62_3 := NB359_377.out
  have hms62_4 := NB359_378.out
  have hs63 : w51.cell? ⟨gb359, 5, none⟩ = some (.slice none 0 0) := (blk_cell BK359.out 5).trans rfl
  have hfs63 := blk_frozen BK359.out 5
  have hns63_0 := NB357_359.out
  have hns63_1 := NB358_359.out
  have hns63_3 := NB377_359.out
  have hns63_4 := NB378_359.out
  have hms63_0 := NB359_357.out
  have hms63_1 := NB359_358.out
  have hms63_3 := NB359_377.out
  have hms63_4 := NB359_378.out
  refine skip_ (w1 := ?_) (by rfl) rfl ?_ ?_
  rotate_left
  ·go_simp
   rfl
  refine hK.out _ _ ⟨(tcg NB377_359.out hHeld.1), (tcg NB377_359.out hHeld.2.1), (tcg NB377_359.out hHeld.2.2.1), (tcg NB377_359.out hHeld.2.2.2.1), (tcg NB377_359.out hHeld.2.2.2.2.1), (tcg NB377_359.out hHeld.2.2.2.2.2.1), (tcg NB378_359.out hHeld.2.2.2.2.2.2.1), (tcg NB378_359.out hHeld.2.2.2.2.2.2.2.1), (tcg NB378_359.out hHeld.2.2.2.2.2.2.2.2.1), (tcg NB378_359.out hHeld.2.2.2.2.2.2.2.2.2.1), (tcg NB378_359.out hHeld.2.2.2.2.2.2.2.2.2.2.1), (tcg NB378_359.out hHeld.2.2.2.2.2.2.2.2.2.2.2)⟩ (fun hHeld => ?_)
  clear hK K
  refine pure_ (i := 4) (N := some 6) (v := ?_) (a' := ?_) #[true, true, true, true, true] rfl rfl (by kernel_rfl) (fun _ _ _ h => h) (Or.inl ⟨by rfl, ?_⟩) ?_ ?_
  rotate_left
  ·intro w'
   go_simp
   with_reducible rfl
  rotate_left
  ·simp only [Act.put, List.setIfInBounds_toArray, List.set_cons_zero, List.set_cons_succ, i64_w, i32_w]
   rfl
  refine done_ (by kernel_rfl) ?_
  try go_wp2
  refine bodyPost_ret (results_list (rs := [.cell 4 47, .cell 5 47, .tmp 6]) rfl (by simp) (.cell gb358 47 #[.bool t360, .bool t361, .int .i64 t362, .int .i64 t363, .int .i64 t364, .slice Ao44 t365.length co44] (0, 0) _ rfl (tP BK358.out) Tryd.underlying47 rfl (by kernel_rfl) (.cell gb359 47 #[.bool t368, .bool t369, .int .i64 t370, .int .i64 t371, .int .i64 t372, .slice Ao49 t373.length co49] (0, 0) _ rfl (tP BK359.out) Tryd.underlying47 rfl (by kernel_rfl) (.tmp .nil)))) rfl ?_
  exact ⟨_, _, by first | rfl | (simp [errW_none, errW_some] <;> rfl) | (simp [*, errW_none, errW_some] <;> rfl), tSm (Kd.S_types (Kd.S_types HO367.out BK358.out (by decide)) BK359.out (by decide)), tSm (Kd.S_types (Kd.S_types HO375.out BK358.out (by decide)) BK359.out (by decide)), zb⟩

def impl_LogCut.l0 : Nat → Int → List (S47) → List (S47) → Int → Int → Option ((List (S47)) × Bool)
 | 0, _, _, _, _, _ => none
 | k + 1, x1, x6, x16, x17, x18 => if x18 < x17 then (if 0 ≤ x18 then (if x18 < (x16.length : Int) then ((impl_Batch_last.f ((rd_T47 x16 x18).f0) ((rd_T47 x16 x18).f1) ((rd_T47 x16 x18).f2) ((rd_T47 x16 x18).f3) ((rd_T47 x16 x18).f4) ((rd_T47 x16 x18).f5)).bind fun t386 => (if t386 < x1 then ((impl_Batch_copyOf.f k ((rd_T47 x16 x18).f0) ((rd_T47 x16 x18).f1) ((rd_T47 x16 x18).f2) ((rd_T47 x16 x18).f3) ((rd_T47 x16 x18).f4) ((rd_T47 x16 x18).f5)).bind fun bt387 => (if x6.length < 2513169434916 then (impl_LogCut.l0 k x1 (x6 ++ [(⟨bt387.1, bt387.2.1, bt387.2.2.1, bt387.2.2.2.1, bt387.2.2.2.2.1, bt387.2.2.2.2.2⟩ : S47)]) x16 x17 (wrap64 (x18 + 1))) else (none))) else ((impl_Batch_first.f ((rd_T47 x16 x18).f0) ((rd_T47 x16 x18).f1) ((rd_T47 x16 x18).f2) ((rd_T47 x16 x18).f3) ((rd_T47 x16 x18).f4) ((rd_T47 x16 x18).f5)).bind fun t398 => (if t398 < x1 then ((impl_BatchCut.f k ((rd_T47 x16 x18).f0) ((rd_T47 x16 x18).f1) ((rd_T47 x16 x18).f2) ((rd_T47 x16 x18).f3) ((rd_T47 x16 x18).f4) ((rd_T47 x16 x18).f5) x1).bind fun bt399 => (if bt399.2.2.2.2.2.2.2.2.2.2.2.2 = true then (if x6.length < 2513169434916 then (impl_LogCut.l0 k x1 (x6 ++ [(⟨bt399.1, bt399.2.1, bt399.2.2.1, bt399.2.2.2.1, bt399.2.2.2.2.1, bt399.2.2.2.2.2.1⟩ : S47)]) x16 x17 (wrap64 (x18 + 1))) else (none)) else (some (([] : List (S47)), false)))) else (impl_LogCut.l0 k x1 x6 x16 x17 (wrap64 (x18 + 1))))))) else (none)) else (none)) else (some (x6, true))
def impl_LogCut.f (k : Nat) (l0 : List (S47)) (a1 : Int) : Option ((List (S47)) × Bool) := (impl_LogValid.f k l0).bind fun t380 => (if t380 = true then (impl_LogCut.l0 k a1 (([] : List (S47))) l0 (l0.length : Int) 0) else (some (([] : List (S47)), false)))
set_option maxHeartbeats 40000000 in
set_option maxRecDepth 100000 in
theorem impl_LogCut.calls [ErrA] (k : Nat) (A0 : Option Addr) (c0 : Nat) (l0 : List (S47)) (a1 : Int) (r1 : List (S47)) (r2 : Bool) (w : World) (hE : ErrOk [1] w) (hr0 : Kd.C k47 w A0 l0.length l0) (hc0 : l0.length ≤ c0) (h : impl_LogCut.f k l0 a1 = some (r1, r2)) :
  Calls Tryd.prog 12 #[.slice A0 l0.length c0, .int .i64 a1] w fun e w' => ∃ v0_ : Value, e = .returned (.tuple #[v0_, .bool r2]) ∧ Kd.R k47 47 w' w.heap.size (fun _ => True) v0_ r1 ∧ Below w.heap.size w w' := by
 have HE := Aside0.mk hE
 clear hE
 have hu47 := Tryd.underlying47
 have HR0 := Aside0.mk hr0
 have HC0 := Aside0.mk hc0
 clear hr0 hc0
 have HB := Aside0.mk (Below.refl w.heap.size w)
 have H : ((impl_LogValid.f k l0).bind fun t380 => (if t380 = true then (impl_LogCut.l0 k a1 (([] : List (S47))) l0 (l0.length : Int) 0) else (some (([] : List (S47)), false)))) = some (r1, r2) := h
 clear h
 replace H := tbe H
 obtain ⟨t380, A3, H⟩ := H
 by_cases c4 : t380 = true
 ·subst c4
  rw [if_pos rfl] at H
  obtain ⟨y381, hy381⟩ : ∃ y_ : List (S47), y_ = (([] : List (S47))) := ⟨_, rfl⟩
  replace H : (impl_LogCut.l0 k a1 y381 l0 (l0.length : Int) 0) = some (r1, r2) := by first | (rw [hy381]; with_reducible exact H) | (have H2_ := (Option.bind_some _ _).symm.trans H; rw [hy381]; with_reducible exact H2_) | (have H2_ := (Option.bind_some _ _).symm.trans H; with_reducible exact H2_) | with_reducible exact H | (rw [hy381]; exact H) | exact H
  have Ny381 := Aside0.mk hy381
  clear hy381
  have H' := Aside0.mk H
  clear H
  go_enter Tryd.func12, Tryd.ntmps12
  go_wp2_with (first | ((with_reducible refine gate_callee (f := 17) rfl ?_); refine goesL_ (some 13) rfl rfl Tryd.func17 (by kernel_rfl) rfl #[.slice A0 l0.length c0] rfl tq ?_; (with_reducible refine (impl_LogValid.calls k _ _ l0 true _ ?side1 ?side2 A3.out).mono ?_); (case side1 => exact tC HR0.out); (case side2 => exact HC0.out); rintro e w5 ⟨rfl, hb⟩; refine ⟨_, rfl, ?_⟩; replace HB := tBs HB hb; (try clear hb); (try clear hb2); (try clear hk); (try clear hi)) | ((with_reducible refine gate_dst (N := 15) rfl ?_); refine Kd.R_lit k47 _ 47 ?hg (N := 15) ?hd (xs := ([] : List (S47))) (inner := []) (ok := fun _ => True) (okp := fun _ => True) ?hr ?hp (fun _ hk => hk) trivial (Below.refl _ _) (Nat.le_refl _) (by simp) ?_; (case hd => rfl); (case hg => rfl); (case hr => first | (go_simp; done) | (go_simp; rfl)); (case hp => exact (Reps.none _ _)); intro v382 w6 ho7 hb hg_ hnew_; clear hg_ hnew_; (first | rw [← Ny381.out] at ho7 | (simp only [Int.reduceToNat] at ho7; rw [← Ny381.out] at ho7)); have HO383 := tRl ho7 HB; replace HB := tBs HB hb; clear hb ho7))
  go_loopg [6, 18] k (fun kq v6 v18 w' => ∃ (x6_1 : List (S47)) (x18_1 : Int), v18 = .int .i64 x18_1 ∧ Aside0 (impl_LogCut.l0 kq a1 x6_1 l0 (l0.length : Int) x18_1 = some (r1, r2)) ∧ Aside0 (kq ≤ k) ∧ Aside0 (Kd.R k47 47 w' w.heap.size (fun _ => True) v6 x6_1) ∧ Aside0 (Below w.heap.size w w'))
  case atStart => exact ⟨(y381), (0), tr, H', ⟨Nat.le_refl _⟩, ⟨tR HO383.out⟩, ⟨zb⟩⟩
  case round =>
   clear H'
   try clear c4
   obtain ⟨x6_1, x18_1, rfl, HA, HK1, HO_6, HB⟩ := hrel
   cases gk with
   | zero => exact absurd HA.out (by simp [impl_LogCut.l0])
   | succ k1 =>
    have H := HA.out
    clear HA
    simp only [impl_LogCut.l0] at H
    by_cases c8 : x18_1 < (l0.length : Int)
    ·rw [if_pos c8] at H
     have c8b0 : decide (x18_1 < (l0.length : Int)) = true := decide_eq_true c8
     clear c8
     by_cases c9 : 0 ≤ x18_1
     ·rw [if_pos c9] at H
      have c9b0 : decide (0 ≤ x18_1) = true := decide_eq_true c9
      clear c9
      by_cases c10 : x18_1 < (l0.length : Int)
      ·rw [if_pos c10] at H
       have c10b0 : decide (x18_1 < (l0.length : Int)) = true := decide_eq_true c10
       clear c10
       replace H := tbe H
       obtain ⟨t386, A11, H⟩ := H
       by_cases c12 : t386 < a1
       ·rw [if_pos c12] at H
        have c12b0 : decide (t386 < a1) = true := decide_eq_true c12
        clear c12
        replace H := tbe H
        obtain ⟨⟨t387, t388, t389, t390, t391, t392⟩, A13, H⟩ := H
        dsimp only at H
        by_cases c14 : x6_1.length < 2513169434916
        ·rw [if_pos c14] at H
         have LMc14 := Aside0.mk c14
         clear c14
         obtain ⟨y395, hy395⟩ : ∃ y_ : List (S47), y_ = (x6_1 ++ [(⟨t387, t388, t389, t390, t391, t392⟩ : S47)]) := ⟨_, rfl⟩
         replace H : (impl_LogCut.l0 k1 a1 y395 l0 (l0.length : Int) (wrap64 (x18_1 + 1))) = some (r1, r2) := by first | (rw [hy395]; with_reducible exact H) | (have H2_ := (Option.bind_some _ _).symm.trans H; rw [hy395]; with_reducible exact H2_) | (have H2_ := (Option.bind_some _ _).symm.trans H; with_reducible exact H2_) | with_reducible exact H | (rw [hy395]; exact H) | exact H
         have Ny395 := Aside0.mk hy395
         clear hy395
         have H' := Aside0.mk H
         clear H
         have p384 : 0 ≤ (x18_1 : Int) := td
         have q384 : x18_1 < (l0.length : Int) := td
         obtain ⟨ad384, A384_5, c384_5, e384, hx384_0, hx384_1, hx384_2, hx384_3, hx384_4, hx384_5, hl384_5, hi384_5⟩ := at_T47 HR0.out x18_1 p384 q384
         cases e384
         replace hx384_0 := tcl HB hx384_0
         replace hx384_1 := tcl HB hx384_1
         replace hx384_2 := tcl HB hx384_2
         replace hx384_3 := tcl HB hx384_3
         replace hx384_4 := tcl HB hx384_4
         replace hx384_5 := tcl HB hx384_5
         have HR384_5 := Aside0.mk hi384_5
         have HC384_5 := Aside0.mk hl384_5
         clear hi384_5 hl384_5
         replace p384 := eq_true p384
         replace q384 := eq_true q384
         go_wp2_with (first | ((with_reducible refine gate_dst (N := 8) rfl ?_); refine box_event ?hg (N := 8) ?hd (cs := #[.bool false, .bool false, .int .i64 0, .int .i64 0, .int .i64 0, .slice none 0 0]) (t := 47) ?hr ?_; (case hd => rfl); (case hg => rfl); (case hr => first | (go_simp; done) | (go_simp; rfl)); intro gb385 hg w15 hbox hb; replace HO_6 := tRB HO_6 hg hb; have BK385 := Aside0.mk (hbox); have GW385 := tge HB hg; have GE385 := tge HB hg; replace HB := tBs HB hb; clear hb hbox hg; obtain ⟨hcz16_0, hcz16_1, hcz16_2, hcz16_3, hcz16_4, hcz16_5, hfz16_0, hfz16_1, hfz16_2, hfz16_3, hfz16_4, hfz16_5⟩ := cells6 BK385.out) | ((with_reducible refine gate_callee (f := 34) rfl ?_); refine goesL_ (some 24) rfl rfl Tryd.func34 (by kernel_rfl) rfl #[.agg #[.bool ((rd_T47 l0 x18_1).f0), .bool ((rd_T47 l0 x18_1).f1), .int .i64 ((rd_T47 l0 x18_1).f2), .int .i64 ((rd_T47 l0 x18_1).f3), .int .i64 ((rd_T47 l0 x18_1).f4), .slice A384_5 ((rd_T47 l0 x18_1).f5).length c384_5]] rfl tq ?_; (with_reducible refine (impl_Batch_last.calls ((rd_T47 l0 x18_1).f0) ((rd_T47 l0 x18_1).f1) ((rd_T47 l0 x18_1).f2) ((rd_T47 l0 x18_1).f3) ((rd_T47 l0 x18_1).f4) _ _ ((rd_T47 l0 x18_1).f5) t386 _ ?side1 ?side2 A11.out).mono ?_); (case side1 => exact Kd.C_below HR384_5.out zb); (case side2 => exact HC384_5.out); rintro e w17 ⟨rfl, hb⟩; refine ⟨_, rfl, ?_⟩; replace HO_6 := tRb HO_6 hb; replace BK385 := tBp (o' := .cells #[.bool ((rd_T47 l0 x18_1).f0), .bool ((rd_T47 l0 x18_1).f1), .int .i64 ((rd_T47 l0 x18_1).f2), .int .i64 ((rd_T47 l0 x18_1).f3), .int .i64 ((rd_T47 l0 x18_1).f4), .slice A384_5 ((rd_T47 l0 x18_1).f5).length c384_5] 47 (0, 0)) BK385 hb; replace HB := tBs HB hb; (try clear hb); (try clear hb2); (try clear hk); (try clear hi); obtain ⟨hcz18_0, hcz18_1, hcz18_2, hcz18_3, hcz18_4, hcz18_5, hfz18_0, hfz18_1, hfz18_2, hfz18_3, hfz18_4, hfz18_5⟩ := cells6 BK385.out) | ((with_reducible refine gate_callee (f := 35) rfl ?_); refine goesL_ (some 29) rfl rfl Tryd.func35 (by kernel_rfl) rfl #[.agg #[.bool ((rd_T47 l0 x18_1).f0), .bool ((rd_T47 l0 x18_1).f1), .int .i64 ((rd_T47 l0 x18_1).f2), .int .i64 ((rd_T47 l0 x18_1).f3), .int .i64 ((rd_T47 l0 x18_1).f4), .slice A384_5 ((rd_T47 l0 x18_1).f5).length c384_5]] rfl tq ?_; (with_reducible refine (impl_Batch_copyOf.calls k1 ((rd_T47 l0 x18_1).f0) ((rd_T47 l0 x18_1).f1) ((rd_T47 l0 x18_1).f2) ((rd_T47 l0 x18_1).f3) ((rd_T47 l0 x18_1).f4) _ _ ((rd_T47 l0 x18_1).f5) t387 t388 t389 t390 t391 t392 _ ?side1 ?side2 A13.out).mono ?_); (case side1 => exact tC (Kd.C_below HR384_5.out HB.out)); (case side2 => exact HC384_5.out); rintro e w19 ⟨v393, rfl, ho0, hb⟩; have u_v393 := tsv Tryd.prog v393 ho0; refine ⟨_, rfl, ?_⟩; replace HO_6 := Aside0.mk (Kd.R_elder' (tR HO_6.out) (Kd.S_base ho0) hb); have HO394 := tSl ho0 HB; replace BK385 := tBb BK385 hb; replace HB := tBs HB hb; (try clear hb); (try clear hb2); (try clear hk); (try clear hi); (try clear ho0); obtain ⟨Ao21, co21, eo21⟩ := Kd.S_slice HO394.out; subst eo21) | ((with_reducible refine gate_builtin (b := .append) (xs := #[.tmp 27, .tmp 30]) rfl ?_); at_builtin; refine Kd.R_append k47 (w0 := w) w.heap.size rfl (.tmp 27) (.tmp 30) 23 47 (.agg #[(.bool false), (.bool false), (.int .i64 0), (.int .i64 0), (.int .i64 0), (.slice none 0 0)]) 56 rfl Tryd.underlying23 info47 rfl (by decide) (by omega) u6 x6_1 (⟨t387, t388, t389, t390, t391, t392⟩ : S47) [.bool t387, .bool t388, .int .i64 t389, .int .i64 t390, .int .i64 t391, .slice Ao21 t392.length co21] (fun k_ => k_ ≠ gb385) (fun k_ => ((fun k_ => k_ ≠ gb385)) k_ ∧ some k_ ≠ (u6 : Value).ownBlock) rfl rfl ?aP (fun _ hk => hk) ?aF ?aO ?aB ?aS ?aL ?_; (case aP => exact k47_mkM _ _ _ (⟨t387, t388, t389, t390, t391, t392⟩ : S47) (Kd.R_mono (Kd.R_types (Kd.R_apart' ((Kd.S_R HO394.out)) (Kd.R_typed HO_6.out) (by decide)) BK385.out (by decide)) (fun k_ hk => ⟨hk.2, hk.1.2⟩))); (case aB => exact zb); (case aF => exact (fun k_ hk => tfB BK385 k_ hk)); (case aO => exact (tRm HO_6.out)); (case aS => exact (below_size zb)); (case aL => have := LMc14.out; omega); intro v396 w20 ho hb hg hat; rw [← Ny395.out] at ho; replace BK385 := Aside0.mk (blk_grown (tH BK385.out) hg (Kd.R_away HO_6.out (fun _ hk => hk.1.2))); replace HB := Aside0.mk (hb); have HO397 := Aside0.mk (ho); clear HO_6 HO394; clear ho hb hg hat))
         go_roundg k1
         case measure => have := HK1.out; omega
         case rel => exact ⟨(y395), (wrap64 (x18_1 + 1)), tr, H', ⟨by have := HK1.out; omega⟩, ⟨tRm HO397.out⟩, ⟨zb⟩⟩
        ·rw [if_neg c14] at H
         exact absurd H (by simp)
       ·rw [if_neg c12] at H
        have c12b0 : decide (t386 < a1) = false := decide_eq_false c12
        clear c12
        replace H := tbe H
        obtain ⟨t398, A22, H⟩ := H
        by_cases c23 : t398 < a1
        ·rw [if_pos c23] at H
         have c23b0 : decide (t398 < a1) = true := decide_eq_true c23
         clear c23
         replace H := tbe H
         obtain ⟨⟨t399, t400, t401, t402, t403, t404, t407, t408, t409, t410, t411, t412, t415⟩, A24, H⟩ := H
         dsimp only at H
         by_cases c25 : t415 = true
         ·subst c25
          rw [if_pos rfl] at H
          by_cases c26 : x6_1.length < 2513169434916
          ·rw [if_pos c26] at H
           have LMc26 := Aside0.mk c26
           clear c26
           obtain ⟨y418, hy418⟩ : ∃ y_ : List (S47), y_ = (x6_1 ++ [(⟨t399, t400, t401, t402, t403, t404⟩ : S47)]) := ⟨_, rfl⟩
           replace H : (impl_LogCut.l0 k1 a1 y418 l0 (l0.length : Int) (wrap64 (x18_1 + 1))) = some (r1, r2) := by first | (rw [hy418]; with_reducible exact H) | (have H2_ := (Option.bind_some _ _).symm.trans H; rw [hy418]; with_reducible exact H2_) | (have H2_ := (Option.bind_some _ _).symm.trans H; with_reducible exact H2_) | with_reducible exact H | (rw [hy418]; exact H) | exact H
           have Ny418 := Aside0.mk hy418
           clear hy418
           have H' := Aside0.mk H
           clear H
           have p384 : 0 ≤ (x18_1 : Int) := td
           have q384 : x18_1 < (l0.length : Int) := td
           obtain ⟨ad384, A384_5, c384_5, e384, hx384_0, hx384_1, hx384_2, hx384_3, hx384_4, hx384_5, hl384_5, hi384_5⟩ := at_T47 HR0.out x18_1 p384 q384
           cases e384
           replace hx384_0 := tcl HB hx384_0
           replace hx384_1 := tcl HB hx384_1
           replace hx384_2 := tcl HB hx384_2
           replace hx384_3 := tcl HB hx384_3
           replace hx384_4 := tcl HB hx384_4
           replace hx384_5 := tcl HB hx384_5
           have HR384_5 := Aside0.mk hi384_5
           have HC384_5 := Aside0.mk hl384_5
           clear hi384_5 hl384_5
           replace p384 := eq_true p384
           replace q384 := eq_true q384
           go_wp2_with (first | ((with_reducible refine gate_dst (N := 8) rfl ?_); refine box_event ?hg (N := 8) ?hd (cs := #[.bool false, .bool false, .int .i64 0, .int .i64 0, .int .i64 0, .slice none 0 0]) (t := 47) ?hr ?_; (case hd => rfl); (case hg => rfl); (case hr => first | (go_simp; done) | (go_simp; rfl)); intro gb385 hg w27 hbox hb; replace HO_6 := tRB HO_6 hg hb; have BK385 := Aside0.mk (hbox); have GW385 := tge HB hg; have GE385 := tge HB hg; replace HB := tBs HB hb; clear hb hbox hg; obtain ⟨hcz28_0, hcz28_1, hcz28_2, hcz28_3, hcz28_4, hcz28_5, hfz28_0, hfz28_1, hfz28_2, hfz28_3, hfz28_4, hfz28_5⟩ := cells6 BK385.out) | ((with_reducible refine gate_callee (f := 34) rfl ?_); refine goesL_ (some 24) rfl rfl Tryd.func34 (by kernel_rfl) rfl #[.agg #[.bool ((rd_T47 l0 x18_1).f0), .bool ((rd_T47 l0 x18_1).f1), .int .i64 ((rd_T47 l0 x18_1).f2), .int .i64 ((rd_T47 l0 x18_1).f3), .int .i64 ((rd_T47 l0 x18_1).f4), .slice A384_5 ((rd_T47 l0 x18_1).f5).length c384_5]] rfl tq ?_; (with_reducible refine (impl_Batch_last.calls ((rd_T47 l0 x18_1).f0) ((rd_T47 l0 x18_1).f1) ((rd_T47 l0 x18_1).f2) ((rd_T47 l0 x18_1).f3) ((rd_T47 l0 x18_1).f4) _ _ ((rd_T47 l0 x18_1).f5) t386 _ ?side1 ?side2 A11.out).mono ?_); (case side1 => exact Kd.C_below HR384_5.out zb); (case side2 => exact HC384_5.out); rintro e w29 ⟨rfl, hb⟩; refine ⟨_, rfl, ?_⟩; replace HO_6 := tRb HO_6 hb; replace BK385 := tBp (o' := .cells #[.bool ((rd_T47 l0 x18_1).f0), .bool ((rd_T47 l0 x18_1).f1), .int .i64 ((rd_T47 l0 x18_1).f2), .int .i64 ((rd_T47 l0 x18_1).f3), .int .i64 ((rd_T47 l0 x18_1).f4), .slice A384_5 ((rd_T47 l0 x18_1).f5).length c384_5] 47 (0, 0)) BK385 hb; replace HB := tBs HB hb; (try clear hb); (try clear hb2); (try clear hk); (try clear hi); obtain ⟨hcz30_0, hcz30_1, hcz30_2, hcz30_3, hcz30_4, hcz30_5, hfz30_0, hfz30_1, hfz30_2, hfz30_3, hfz30_4, hfz30_5⟩ := cells6 BK385.out) | ((with_reducible refine gate_callee (f := 36) rfl ?_); refine goesL_ (some 34) rfl rfl Tryd.func36 (by kernel_rfl) rfl #[.agg #[.bool ((rd_T47 l0 x18_1).f0), .bool ((rd_T47 l0 x18_1).f1), .int .i64 ((rd_T47 l0 x18_1).f2), .int .i64 ((rd_T47 l0 x18_1).f3), .int .i64 ((rd_T47 l0 x18_1).f4), .slice A384_5 ((rd_T47 l0 x18_1).f5).length c384_5]] rfl tq ?_; (with_reducible refine (impl_Batch_first.calls ((rd_T47 l0 x18_1).f0) ((rd_T47 l0 x18_1).f1) ((rd_T47 l0 x18_1).f2) ((rd_T47 l0 x18_1).f3) ((rd_T47 l0 x18_1).f4) _ _ ((rd_T47 l0 x18_1).f5) t398 _ ?side1 ?side2 A22.out).mono ?_); (case side1 => exact tC (Kd.C_below HR384_5.out HB.out)); (case side2 => exact HC384_5.out); rintro e w31 ⟨rfl, hb⟩; refine ⟨_, rfl, ?_⟩; replace HO_6 := tRb HO_6 hb; replace BK385 := tBb BK385 hb; replace HB := tBs HB hb; (try clear hb); (try clear hb2); (try clear hk); (try clear hi); obtain ⟨hcz32_0, hcz32_1, hcz32_2, hcz32_3, hcz32_4, hcz32_5, hfz32_0, hfz32_1, hfz32_2, hfz32_3, hfz32_4, hfz32_5⟩ := cells6 BK385.out) | ((with_reducible refine gate_callee (f := 37) rfl ?_); refine goesL_ (some 40) rfl rfl Tryd.func37 (by kernel_rfl) rfl #[.agg #[.bool ((rd_T47 l0 x18_1).f0), .bool ((rd_T47 l0 x18_1).f1), .int .i64 ((rd_T47 l0 x18_1).f2), .int .i64 ((rd_T47 l0 x18_1).f3), .int .i64 ((rd_T47 l0 x18_1).f4), .slice A384_5 ((rd_T47 l0 x18_1).f5).length c384_5], .int .i64 a1] rfl tq ?_; (with_reducible refine (impl_BatchCut.calls (hE := ?sideE) k1 ((rd_T47 l0 x18_1).f0) ((rd_T47 l0 x18_1).f1) ((rd_T47 l0 x18_1).f2) ((rd_T47 l0 x18_1).f3) ((rd_T47 l0 x18_1).f4) _ _ ((rd_T47 l0 x18_1).f5) a1 t399 t400 t401 t402 t403 t404 t407 t408 t409 t410 t411 t412 true _ ?side1 ?side2 A24.out).mono ?_); (case sideE => exact ErrOk.below (HE.out.sub (by decide)) zb); (case side1 => exact tC (Kd.C_below HR384_5.out HB.out)); (case side2 => exact HC384_5.out); rintro e w33 ⟨v405, v413, rfl, ho0, ho1, hb⟩; have u_v405 := tsv Tryd.prog v405 ho0; have u_v413 := tsv Tryd.prog v413 ho1; refine ⟨_, rfl, ?_⟩; replace HO_6 := Aside0.mk (Kd.R_mono (Kd.R_told (Kd.R_told (Kd.R_old (tR HO_6.out) hb) (Kd.S_base ho0)) (Kd.S_base ho1)) (fun _ h_ => h_.1)); have HO406 := tSl ho0 HB; have HO414 := tSl ho1 HB; replace BK385 := tBb BK385 hb; replace HB := tBs HB hb; (try clear hb); (try clear hb2); (try clear hk); (try clear hi); (try clear ho0); (try clear ho1)) | ((with_reducible refine gate_dst (N := 9) rfl ?_); refine box_event ?hg (N := 9) ?hd (cs := #[.bool false, .bool false, .int .i64 0, .int .i64 0, .int .i64 0, .slice none 0 0]) (t := 47) ?hr ?_; (case hd => rfl); (case hg => rfl); (case hr => first | (go_simp; done) | (go_simp; rfl)); intro gb416 hg w34 hbox hb; replace HO_6 := tRB HO_6 hg hb; replace HO406 := tSb HO406 hb; replace HO414 := tSb HO414 hb; have BK416 := Aside0.mk (hbox); have GW416 := tge HB hg; have GE416 := tge HB hg; replace HB := tBs HB hb; have NB385_416 := tlt BK385 hg; have NB416_385 := tgt BK385 hg; replace BK385 := tBb BK385 hb; clear hb hbox hg) | ((with_reducible refine gate_dst (N := 10) rfl ?_); refine box_event ?hg (N := 10) ?hd (cs := #[.bool false, .bool false, .int .i64 0, .int .i64 0, .int .i64 0, .slice none 0 0]) (t := 47) ?hr ?_; (case hd => rfl); (case hg => rfl); (case hr => first | (go_simp; done) | (go_simp; rfl)); intro gb417 hg w35 hbox hb; replace HO_6 := tRB HO_6 hg hb; replace HO406 := tSb HO406 hb; replace HO414 := tSb HO414 hb; have BK417 := Aside0.mk (hbox); have GW417 := tge HB hg; have GE417 := tge HB hg; replace HB := tBs HB hb; have NB385_417 := tlt BK385 hg; have NB417_385 := tgt BK385 hg; replace BK385 := tBb BK385 hb; have NB416_417 := tlt BK416 hg; have NB417_416 := tgt BK416 hg; replace BK416 := tBb BK416 hb; clear hb hbox hg; have hnb36 := NB416_385.out; have hnc36 := NB385_416.out; have hnb37 := NB416_417.out; have hnc37 := NB417_416.out; obtain ⟨hcz38_0, hcz38_1, hcz38_2, hcz38_3, hcz38_4, hcz38_5, hfz38_0, hfz38_1, hfz38_2, hfz38_3, hfz38_4, hfz38_5⟩ := cells6 BK416.out; obtain ⟨Ao39, co39, eo39⟩ := Kd.S_slice HO406.out; subst eo39) | ((with_reducible refine gate_store (t := 47) (p := 9) rfl ?_); refine store_event (t := 47) (p := 9) (v := ?vo_w40) (w1 := ((((((w35.setCell ⟨gb416, 0, none⟩ (.bool t399)).setCell ⟨gb416, 1, none⟩ (.bool t400)).setCell ⟨gb416, 2, none⟩ (.int .i64 t401)).setCell ⟨gb416, 3, none⟩ (.int .i64 t402)).setCell ⟨gb416, 4, none⟩ (.int .i64 t403)).setCell ⟨gb416, 5, none⟩ (.slice Ao39 t404.length co39))) ?hg ?ho ?hn ?hr ?_; (case ho => rfl); (case hg => rfl); (case hn => rfl); (case hr => first | (go_simp; done) | (go_simp; rfl)); intro w40 hw; have n0_ : Aside0 (Kd.R k47 47 w40 w.heap.size (fun k_ => some k_ ≠ (.slice Ao39 t404.length co39 : Value).ownBlock ∧ some k_ ≠ (v413 : Value).ownBlock ∧ k_ ≠ gb385 ∧ k_ ≠ gb416 ∧ k_ ≠ gb417) u6 x6_1) := ⟨(by rw [hw]; exact (tRm HO_6.out))⟩; have n1_ : Aside0 (Kd.S k33 33 w40 w.heap.size (fun k_ => some k_ ≠ (v413 : Value).ownBlock) (.slice Ao39 t404.length co39) t404) := ⟨(by rw [hw]; exact (tSm (Kd.S_types HO406.out BK416.out (by decide))))⟩; have n2_ : Aside0 (Kd.S k33 33 w40 w.heap.size (fun k_ => some k_ ≠ (.slice Ao39 t404.length co39 : Value).ownBlock) v413 t412) := ⟨(by rw [hw]; exact (tSm (Kd.S_types HO414.out BK416.out (by decide))))⟩; have n3_ : Aside0 (w40.heap[gb385]? = some (.cells #[.bool ((rd_T47 l0 x18_1).f0), .bool ((rd_T47 l0 x18_1).f1), .int .i64 ((rd_T47 l0 x18_1).f2), .int .i64 ((rd_T47 l0 x18_1).f3), .int .i64 ((rd_T47 l0 x18_1).f4), .slice A384_5 ((rd_T47 l0 x18_1).f5).length c384_5] 47 (0, 0))) := ⟨(by rw [hw]; exact (tH BK385.out))⟩; have n4_ : Aside0 (w40.heap[gb416]? = some (.cells #[.bool t399, .bool t400, .int .i64 t401, .int .i64 t402, .int .i64 t403, .slice Ao39 t404.length co39] 47 (0, 0))) := ⟨(by rw [hw]; exact (tP BK416.out))⟩; have n5_ : Aside0 (w40.heap[gb417]? = some (.cells #[.bool false, .bool false, .int .i64 0, .int .i64 0, .int .i64 0, .slice none 0 0] 47 (0, 0))) := ⟨(by rw [hw]; exact (tH BK417.out))⟩; have n6_ : Aside0 (Below w.heap.size w w40) := ⟨(by rw [hw]; exact zb)⟩; clear hw; clear HO_6; clear HO406; clear HO414; clear BK385; clear BK416; clear BK417; clear HB; have HO_6 := n0_; have HO406 := n1_; have HO414 := n2_; have BK385 := n3_; have BK416 := n4_; have BK417 := n5_; have HB := n6_; clear n0_ n1_ n2_ n3_ n4_ n5_ n6_; have hnb41 := NB417_385.out; have hnc41 := NB385_417.out; obtain ⟨hcz42_0, hcz42_1, hcz42_2, hcz42_3, hcz42_4, hcz42_5, hfz42_0, hfz42_1, hfz42_2, hfz42_3, hfz42_4, hfz42_5⟩ := cells6 BK417.out; obtain ⟨Ao43, co43, eo43⟩ := Kd.S_slice HO414.out; subst eo43) | ((with_reducible refine gate_store (t := 47) (p := 10) rfl ?_); refine store_event (t := 47) (p := 10) (v := ?vo_w44) (w1 := ((((((w40.setCell ⟨gb417, 0, none⟩ (.bool t407)).setCell ⟨gb417, 1, none⟩ (.bool t408)).setCell ⟨gb417, 2, none⟩ (.int .i64 t409)).setCell ⟨gb417, 3, none⟩ (.int .i64 t410)).setCell ⟨gb417, 4, none⟩ (.int .i64 t411)).setCell ⟨gb417, 5, none⟩ (.slice Ao43 t412.length co43))) ?hg ?ho ?hn ?hr ?_; (case ho => rfl); (case hg => rfl); (case hn => rfl); (case hr => first | (go_simp; done) | (go_simp; rfl)); intro w44 hw; have n0_ : Aside0 (Kd.R k47 47 w44 w.heap.size (fun k_ => some k_ ≠ (.slice Ao39 t404.length co39 : Value).ownBlock ∧ some k_ ≠ (.slice Ao43 t412.length co43 : Value).ownBlock ∧ k_ ≠ gb385 ∧ k_ ≠ gb416 ∧ k_ ≠ gb417) u6 x6_1) := ⟨(by rw [hw]; exact (tRm HO_6.out))⟩; have n1_ : Aside0 (Kd.S k33 33 w44 w.heap.size (fun k_ => some k_ ≠ (.slice Ao43 t412.length co43 : Value).ownBlock) (.slice Ao39 t404.length co39) t404) := ⟨(by rw [hw]; exact (tSm (Kd.S_types HO406.out BK417.out (by decide))))⟩; have n2_ : Aside0 (Kd.S k33 33 w44 w.heap.size (fun k_ => some k_ ≠ (.slice Ao39 t404.length co39 : Value).ownBlock) (.slice Ao43 t412.length co43) t412) := ⟨(by rw [hw]; exact (tSm (Kd.S_types HO414.out BK417.out (by decide))))⟩; have n3_ : Aside0 (w44.heap[gb385]? = some (.cells #[.bool ((rd_T47 l0 x18_1).f0), .bool ((rd_T47 l0 x18_1).f1), .int .i64 ((rd_T47 l0 x18_1).f2), .int .i64 ((rd_T47 l0 x18_1).f3), .int .i64 ((rd_T47 l0 x18_1).f4), .slice A384_5 ((rd_T47 l0 x18_1).f5).length c384_5] 47 (0, 0))) := ⟨(by rw [hw]; exact (tH BK385.out))⟩; have n4_ : Aside0 (w44.heap[gb416]? = some (.cells #[.bool t399, .bool t400, .int .i64 t401, .int .i64 t402, .int .i64 t403, .slice Ao39 t404.length co39] 47 (0, 0))) := ⟨(by rw [hw]; exact (tH BK416.out))⟩; have n5_ : Aside0 (w44.heap[gb417]? = some (.cells #[.bool t407, .bool t408, .int .i64 t409, .int .i64 t410, .int .i64 t411, .slice Ao43 t412.length co43] 47 (0, 0))) := ⟨(by rw [hw]; exact (tP BK417.out))⟩; have n6_ : Aside0 (Below w.heap.size w w44) := ⟨(by rw [hw]; exact zb)⟩; clear hw; clear HO_6; clear HO406; clear HO414; clear BK385; clear BK416; clear BK417; clear HB; have HO_6 := n0_; have HO406 := n1_; have HO414 := n2_; have BK385 := n3_; have BK416 := n4_; have BK417 := n5_; have HB := n6_; clear n0_ n1_ n2_ n3_ n4_ n5_ n6_; obtain ⟨hcz45_0, hcz45_1, hcz45_2, hcz45_3, hcz45_4, hcz45_5, hfz45_0, hfz45_1, hfz45_2, hfz45_3, hfz45_4, hfz45_5⟩ := cells6 BK416.out) | ((with_reducible refine gate_builtin (b := .append) (xs := #[.tmp 46, .tmp 48]) rfl ?_); at_builtin; refine Kd.R_append k47 (w0 := w) w.heap.size rfl (.tmp 46) (.tmp 48) 23 47 (.agg #[(.bool false), (.bool false), (.int .i64 0), (.int .i64 0), (.int .i64 0), (.slice none 0 0)]) 56 rfl Tryd.underlying23 info47 rfl (by decide) (by omega) u6 x6_1 (⟨t399, t400, t401, t402, t403, t404⟩ : S47) [.bool t399, .bool t400, .int .i64 t401, .int .i64 t402, .int .i64 t403, .slice Ao39 t404.length co39] (fun k_ => some k_ ≠ (.slice Ao43 t412.length co43 : Value).ownBlock ∧ k_ ≠ gb385 ∧ k_ ≠ gb416 ∧ k_ ≠ gb417) (fun k_ => ((fun k_ => some k_ ≠ (.slice Ao43 t412.length co43 : Value).ownBlock ∧ k_ ≠ gb385 ∧ k_ ≠ gb416 ∧ k_ ≠ gb417)) k_ ∧ some k_ ≠ (u6 : Value).ownBlock) rfl rfl ?aP (fun _ hk => hk) ?aF ?aO ?aB ?aS ?aL ?_; (case aP => exact k47_mkM _ _ _ (⟨t399, t400, t401, t402, t403, t404⟩ : S47) (Kd.R_mono (Kd.R_types (Kd.R_types (Kd.R_types (Kd.R_apart' ((Kd.S_R HO406.out)) (Kd.R_typed HO_6.out) (by decide)) BK385.out (by decide)) BK416.out (by decide)) BK417.out (by decide)) (fun k_ hk => ⟨⟨hk.1.1.1.1, ⟨hk.1.1.2, ⟨hk.1.2, hk.2⟩⟩⟩, hk.1.1.1.2⟩))); (case aB => exact zb); (case aF => exact (fun k_ hk => ⟨Kd.fresh' (Kd.S_lt (tS HO414.out)) k_ hk, tfB BK385 k_ hk, tfB BK416 k_ hk, tfB BK417 k_ hk⟩)); (case aO => exact (tRm HO_6.out)); (case aS => exact (below_size zb)); (case aL => have := LMc26.out; omega); intro v419 w46 ho hb hg hat; rw [← Ny418.out] at ho; replace BK385 := Aside0.mk (blk_grown (tH BK385.out) hg (Kd.R_away HO_6.out (fun _ hk => hk.2.2.1))); replace HO414 := Aside0.mk (Kd.S_over' (tS HO414.out) (Kd.R_typed (tR HO_6.out)) (by decide) hg); replace BK416 := Aside0.mk (blk_grown (tH BK416.out) hg (Kd.R_away HO_6.out (fun _ hk => hk.2.2.2.1))); replace BK417 := Aside0.mk (blk_grown (tH BK417.out) hg (Kd.R_away HO_6.out (fun _ hk => hk.2.2.2.2))); replace HB := Aside0.mk (hb); have HO420 := Aside0.mk (ho); clear HO_6 HO406; clear ho hb hg hat))
           go_roundg k1
           case measure => have := HK1.out; omega
           case rel => exact ⟨(y418), (wrap64 (x18_1 + 1)), tr, H', ⟨by have := HK1.out; omega⟩, ⟨tRm HO420.out⟩, ⟨zb⟩⟩
          ·rw [if_neg c26] at H
           exact absurd H (by simp)
         ·replace c25 := Bool.eq_false_iff.mpr c25
          subst c25
          rw [if_neg (show ¬ (false = true) by decide)] at H
          simp only [Option.some.injEq, Prod.mk.injEq] at H
          obtain ⟨rfl, rfl⟩ := H
          have p384 : 0 ≤ (x18_1 : Int) := td
          have q384 : x18_1 < (l0.length : Int) := td
          obtain ⟨ad384, A384_5, c384_5, e384, hx384_0, hx384_1, hx384_2, hx384_3, hx384_4, hx384_5, hl384_5, hi384_5⟩ := at_T47 HR0.out x18_1 p384 q384
          cases e384
          replace hx384_0 := tcl HB hx384_0
          replace hx384_1 := tcl HB hx384_1
          replace hx384_2 := tcl HB hx384_2
          replace hx384_3 := tcl HB hx384_3
          replace hx384_4 := tcl HB hx384_4
          replace hx384_5 := tcl HB hx384_5
          have HR384_5 := Aside0.mk hi384_5
          have HC384_5 := Aside0.mk hl384_5
          clear hi384_5 hl384_5
          replace p384 := eq_true p384
          replace q384 := eq_true q384
          go_wp2_with (first | ((with_reducible refine gate_dst (N := 8) rfl ?_); refine box_event ?hg (N := 8) ?hd (cs := #[.bool false, .bool false, .int .i64 0, .int .i64 0, .int .i64 0, .slice none 0 0]) (t := 47) ?hr ?_; (case hd => rfl); (case hg => rfl); (case hr => first | (go_simp; done) | (go_simp; rfl)); intro gb385 hg w47 hbox hb; replace HO_6 := tRB HO_6 hg hb; have BK385 := Aside0.mk (hbox); have GW385 := tge HB hg; have GE385 := tge HB hg; replace HB := tBs HB hb; clear hb hbox hg; obtain ⟨hcz48_0, hcz48_1, hcz48_2, hcz48_3, hcz48_4, hcz48_5, hfz48_0, hfz48_1, hfz48_2, hfz48_3, hfz48_4, hfz48_5⟩ := cells6 BK385.out) | ((with_reducible refine gate_callee (f := 34) rfl ?_); refine goesL_ (some 24) rfl rfl Tryd.func34 (by kernel_rfl) rfl #[.agg #[.bool ((rd_T47 l0 x18_1).f0), .bool ((rd_T47 l0 x18_1).f1), .int .i64 ((rd_T47 l0 x18_1).f2), .int .i64 ((rd_T47 l0 x18_1).f3), .int .i64 ((rd_T47 l0 x18_1).f4), .slice A384_5 ((rd_T47 l0 x18_1).f5).length c384_5]] rfl tq ?_; (with_reducible refine (impl_Batch_last.calls ((rd_T47 l0 x18_1).f0) ((rd_T47 l0 x18_1).f1) ((rd_T47 l0 x18_1).f2) ((rd_T47 l0 x18_1).f3) ((rd_T47 l0 x18_1).f4) _ _ ((rd_T47 l0 x18_1).f5) t386 _ ?side1 ?side2 A11.out).mono ?_); (case side1 => exact Kd.C_below HR384_5.out zb); (case side2 => exact HC384_5.out); rintro e w49 ⟨rfl, hb⟩; refine ⟨_, rfl, ?_⟩; replace HO_6 := tRb HO_6 hb; replace BK385 := tBp (o' := .cells #[.bool ((rd_T47 l0 x18_1).f0), .bool ((rd_T47 l0 x18_1).f1), .int .i64 ((rd_T47 l0 x18_1).f2), .int .i64 ((rd_T47 l0 x18_1).f3), .int .i64 ((rd_T47 l0 x18_1).f4), .slice A384_5 ((rd_T47 l0 x18_1).f5).length c384_5] 47 (0, 0)) BK385 hb; replace HB := tBs HB hb; (try clear hb); (try clear hb2); (try clear hk); (try clear hi); obtain ⟨hcz50_0, hcz50_1, hcz50_2, hcz50_3, hcz50_4, hcz50_5, hfz50_0, hfz50_1, hfz50_2, hfz50_3, hfz50_4, hfz50_5⟩ := cells6 BK385.out) | ((with_reducible refine gate_callee (f := 36) rfl ?_); refine goesL_ (some 34) rfl rfl Tryd.func36 (by kernel_rfl) rfl #[.agg #[.bool ((rd_T47 l0 x18_1).f0), .bool ((rd_T47 l0 x18_1).f1), .int .i64 ((rd_T47 l0 x18_1).f2), .int .i64 ((rd_T47 l0 x18_1).f3), .int .i64 ((rd_T47 l0 x18_1).f4), .slice A384_5 ((rd_T47 l0 x18_1).f5).length c384_5]] rfl tq ?_; (with_reducible refine (impl_Batch_first.calls ((rd_T47 l0 x18_1).f0) ((rd_T47 l0 x18_1).f1) ((rd_T47 l0 x18_1).f2) ((rd_T47 l0 x18_1).f3) ((rd_T47 l0 x18_1).f4) _ _ ((rd_T47 l0 x18_1).f5) t398 _ ?side1 ?side2 A22.out).mono ?_); (case side1 => exact tC (Kd.C_below HR384_5.out HB.out)); (case side2 => exact HC384_5.out); rintro e w51 ⟨rfl, hb⟩; refine ⟨_, rfl, ?_⟩; replace HO_6 := tRb HO_6 hb; replace BK385 := tBb BK385 hb; replace HB := tBs HB hb; (try clear hb); (try clear hb2); (try clear hk); (try clear hi); obtain ⟨hcz52_0, hcz52_1, hcz52_2, hcz52_3, hcz52_4, hcz52_5, hfz52_0, hfz52_1, hfz52_2, hfz52_3, hfz52_4, hfz52_5⟩ := cells6 BK385.out) | ((with_reducible refine gate_callee (f := 37) rfl ?_); refine goesL_ (some 40) rfl rfl Tryd.func37 (by kernel_rfl) rfl #[.agg #[.bool ((rd_T47 l0 x18_1).f0), .bool ((rd_T47 l0 x18_1).f1), .int .i64 ((rd_T47 l0 x18_1).f2), .int .i64 ((rd_T47 l0 x18_1).f3), .int .i64 ((rd_T47 l0 x18_1).f4), .slice A384_5 ((rd_T47 l0 x18_1).f5).length c384_5], .int .i64 a1] rfl tq ?_; (with_reducible refine (impl_BatchCut.calls (hE := ?sideE) k1 ((rd_T47 l0 x18_1).f0) ((rd_T47 l0 x18_1).f1) ((rd_T47 l0 x18_1).f2) ((rd_T47 l0 x18_1).f3) ((rd_T47 l0 x18_1).f4) _ _ ((rd_T47 l0 x18_1).f5) a1 t399 t400 t401 t402 t403 t404 t407 t408 t409 t410 t411 t412 false _ ?side1 ?side2 A24.out).mono ?_); (case sideE => exact ErrOk.below (HE.out.sub (by decide)) zb); (case side1 => exact tC (Kd.C_below HR384_5.out HB.out)); (case side2 => exact HC384_5.out); rintro e w53 ⟨v405, v413, rfl, ho0, ho1, hb⟩; have u_v405 := tsv Tryd.prog v405 ho0; have u_v413 := tsv Tryd.prog v413 ho1; refine ⟨_, rfl, ?_⟩; replace HO_6 := Aside0.mk (Kd.R_mono (Kd.R_told (Kd.R_told (Kd.R_old (tR HO_6.out) hb) (Kd.S_base ho0)) (Kd.S_base ho1)) (fun _ h_ => h_.1)); have HO406 := tSl ho0 HB; have HO414 := tSl ho1 HB; replace BK385 := tBb BK385 hb; replace HB := tBs HB hb; (try clear hb); (try clear hb2); (try clear hk); (try clear hi); (try clear ho0); (try clear ho1)) | ((with_reducible refine gate_dst (N := 9) rfl ?_); refine box_event ?hg (N := 9) ?hd (cs := #[.bool false, .bool false, .int .i64 0, .int .i64 0, .int .i64 0, .slice none 0 0]) (t := 47) ?hr ?_; (case hd => rfl); (case hg => rfl); (case hr => first | (go_simp; done) | (go_simp; rfl)); intro gb416 hg w54 hbox hb; replace HO_6 := tRB HO_6 hg hb; replace HO406 := tSb HO406 hb; replace HO414 := tSb HO414 hb; have BK416 := Aside0.mk (hbox); have GW416 := tge HB hg; have GE416 := tge HB hg; replace HB := tBs HB hb; have NB385_416 := tlt BK385 hg; have NB416_385 := tgt BK385 hg; replace BK385 := tBb BK385 hb; clear hb hbox hg) | ((with_reducible refine gate_dst (N := 10) rfl ?_); refine box_event ?hg (N := 10) ?hd (cs := #[.bool false, .bool false, .int .i64 0, .int .i64 0, .int .i64 0, .slice none 0 0]) (t := 47) ?hr ?_; (case hd => rfl); (case hg => rfl); (case hr => first | (go_simp; done) | (go_simp; rfl)); intro gb417 hg w55 hbox hb; replace HO_6 := tRB HO_6 hg hb; replace HO406 := tSb HO406 hb; replace HO414 := tSb HO414 hb; have BK417 := Aside0.mk (hbox); have GW417 := tge HB hg; have GE417 := tge HB hg; replace HB := tBs HB hb; have NB385_417 := tlt BK385 hg; have NB417_385 := tgt BK385 hg; replace BK385 := tBb BK385 hb; have NB416_417 := tlt BK416 hg; have NB417_416 := tgt BK416 hg; replace BK416 := tBb BK416 hb; clear hb hbox hg; have hnb56 := NB416_385.out; have hnc56 := NB385_416.out; have hnb57 := NB416_417.out; have hnc57 := NB417_416.out; obtain ⟨hcz58_0, hcz58_1, hcz58_2, hcz58_3, hcz58_4, hcz58_5, hfz58_0, hfz58_1, hfz58_2, hfz58_3, hfz58_4, hfz58_5⟩ := cells6 BK416.out; obtain ⟨Ao59, co59, eo59⟩ := Kd.S_slice HO406.out; subst eo59; have hnb60 := NB417_385.out; have hnc60 := NB385_417.out; obtain ⟨hcz61_0, hcz61_1, hcz61_2, hcz61_3, hcz61_4, hcz61_5, hfz61_0, hfz61_1, hfz61_2, hfz61_3, hfz61_4, hfz61_5⟩ := cells6 BK417.out; obtain ⟨Ao62, co62, eo62⟩ := Kd.S_slice HO414.out; subst eo62))
          go_ret2
          exact ⟨_, by first | rfl | (simp [errW_none, errW_some] <;> rfl) | (simp [*, errW_none, errW_some] <;> rfl), by first | exact Kd.R_nil _ _ _ _ _ | exact Kd.N_nil _ _ _ _ _ | exact Kd.V_nil _ _ _ _ _ | exact Kd.Q_nil _ _ _ _ _ | exact Kd.S_nil _ _ _ _ _, zb⟩
        ·rw [if_neg c23] at H
         have c23b0 : decide (t398 < a1) = false := decide_eq_false c23
         clear c23
         have H' := Aside0.mk H
         clear H
         have p384 : 0 ≤ (x18_1 : Int) := td
         have q384 : x18_1 < (l0.length : Int) := td
         obtain ⟨ad384, A384_5, c384_5, e384, hx384_0, hx384_1, hx384_2, hx384_3, hx384_4, hx384_5, hl384_5, hi384_5⟩ := at_T47 HR0.out x18_1 p384 q384
         cases e384
         replace hx384_0 := tcl HB hx384_0
         replace hx384_1 := tcl HB hx384_1
         replace hx384_2 := tcl HB hx384_2
         replace hx384_3 := tcl HB hx384_3
         replace hx384_4 := tcl HB hx384_4
         replace hx384_5 := tcl HB hx384_5
         have HR384_5 := Aside0.mk hi384_5
         have HC384_5 := Aside0.mk hl384_5
         clear hi384_5 hl384_5
         replace p384 := eq_true p384
         replace q384 := eq_true q384
         go_wp2_with (first | ((with_reducible refine gate_dst (N := 8) rfl ?_); refine box_event ?hg (N := 8) ?hd (cs := #[.bool false, .bool false, .int .i64 0, .int .i64 0, .int .i64 0, .slice none 0 0]) (t := 47) ?hr ?_; (case hd => rfl); (case hg => rfl); (case hr => first | (go_simp; done) | (go_simp; rfl)); intro gb385 hg w63 hbox hb; replace HO_6 := tRB HO_6 hg hb; have BK385 := Aside0.mk (hbox); have GW385 := tge HB hg; have GE385 := tge HB hg; replace HB := tBs HB hb; clear hb hbox hg; obtain ⟨hcz64_0, hcz64_1, hcz64_2, hcz64_3, hcz64_4, hcz64_5, hfz64_0, hfz64_1, hfz64_2, hfz64_3, hfz64_4, hfz64_5⟩ := cells6 BK385.out) | ((with_reducible refine gate_callee (f := 34) rfl ?_); refine goesL_ (some 24) rfl rfl Tryd.func34 (by kernel_rfl) rfl #[.agg #[.bool ((rd_T47 l0 x18_1).f0), .bool ((rd_T47 l0 x18_1).f1), .int .i64 ((rd_T47 l0 x18_1).f2), .int .i64 ((rd_T47 l0 x18_1).f3), .int .i64 ((rd_T47 l0 x18_1).f4), .slice A384_5 ((rd_T47 l0 x18_1).f5).length c384_5]] rfl tq ?_; (with_reducible refine (impl_Batch_last.calls ((rd_T47 l0 x18_1).f0) ((rd_T47 l0 x18_1).f1) ((rd_T47 l0 x18_1).f2) ((rd_T47 l0 x18_1).f3) ((rd_T47 l0 x18_1).f4) _ _ ((rd_T47 l0 x18_1).f5) t386 _ ?side1 ?side2 A11.out).mono ?_); (case side1 => exact Kd.C_below HR384_5.out zb); (case side2 => exact HC384_5.out); rintro e w65 ⟨rfl, hb⟩; refine ⟨_, rfl, ?_⟩; replace HO_6 := tRb HO_6 hb; replace BK385 := tBp (o' := .cells #[.bool ((rd_T47 l0 x18_1).f0), .bool ((rd_T47 l0 x18_1).f1), .int .i64 ((rd_T47 l0 x18_1).f2), .int .i64 ((rd_T47 l0 x18_1).f3), .int .i64 ((rd_T47 l0 x18_1).f4), .slice A384_5 ((rd_T47 l0 x18_1).f5).length c384_5] 47 (0, 0)) BK385 hb; replace HB := tBs HB hb; (try clear hb); (try clear hb2); (try clear hk); (try clear hi); obtain ⟨hcz66_0, hcz66_1, hcz66_2, hcz66_3, hcz66_4, hcz66_5, hfz66_0, hfz66_1, hfz66_2, hfz66_3, hfz66_4, hfz66_5⟩ := cells6 BK385.out) | ((with_reducible refine gate_callee (f := 36) rfl ?_); refine goesL_ (some 34) rfl rfl Tryd.func36 (by kernel_rfl) rfl #[.agg #[.bool ((rd_T47 l0 x18_1).f0), .bool ((rd_T47 l0 x18_1).f1), .int .i64 ((rd_T47 l0 x18_1).f2), .int .i64 ((rd_T47 l0 x18_1).f3), .int .i64 ((rd_T47 l0 x18_1).f4), .slice A384_5 ((rd_T47 l0 x18_1).f5).length c384_5]] rfl tq ?_; (with_reducible refine (impl_Batch_first.calls ((rd_T47 l0 x18_1).f0) ((rd_T47 l0 x18_1).f1) ((rd_T47 l0 x18_1).f2) ((rd_T47 l0 x18_1).f3) ((rd_T47 l0 x18_1).f4) _ _ ((rd_T47 l0 x18_1).f5) t398 _ ?side1 ?side2 A22.out).mono ?_); (case side1 => exact tC (Kd.C_below HR384_5.out HB.out)); (case side2 => exact HC384_5.out); rintro e w67 ⟨rfl, hb⟩; refine ⟨_, rfl, ?_⟩; replace HO_6 := tRb HO_6 hb; replace BK385 := tBb BK385 hb; replace HB := tBs HB hb; (try clear hb); (try clear hb2); (try clear hk); (try clear hi)))
         go_roundg k1
         case measure => have := HK1.out; omega
         case rel => exact ⟨(x6_1), (wrap64 (x18_1 + 1)), tr, H', ⟨by have := HK1.out; omega⟩, ⟨tRm HO_6.out⟩, ⟨zb⟩⟩
      ·rw [if_neg c10] at H
       exact absurd H (by simp)
     ·rw [if_neg c9] at H
      exact absurd H (by simp)
    ·rw [if_neg c8] at H
     have c8b0 : decide (x18_1 < (l0.length : Int)) = false := decide_eq_false c8
     clear c8
     simp only [Option.some.injEq, Prod.mk.injEq] at H
     obtain ⟨rfl, rfl⟩ := H
     go_wp2
     go_ret2
     exact ⟨_, by first | rfl | (simp [errW_none, errW_some] <;> rfl) | (simp [*, errW_none, errW_some] <;> rfl), tR HO_6.out, zb⟩
 ·replace c4 := Bool.eq_false_iff.mpr c4
  subst c4
  rw [if_neg (show ¬ (false = true) by decide)] at H
  simp only [Option.some.injEq, Prod.mk.injEq] at H
  obtain ⟨rfl, rfl⟩ := H
  go_enter Tryd.func12, Tryd.ntmps12
  go_wp2_with (first | ((with_reducible refine gate_callee (f := 17) rfl ?_); refine goesL_ (some 13) rfl rfl Tryd.func17 (by kernel_rfl) rfl #[.slice A0 l0.length c0] rfl tq ?_; (with_reducible refine (impl_LogValid.calls k _ _ l0 false _ ?side1 ?side2 A3.out).mono ?_); (case side1 => exact tC HR0.out); (case side2 => exact HC0.out); rintro e w68 ⟨rfl, hb⟩; refine ⟨_, rfl, ?_⟩; replace HB := tBs HB hb; (try clear hb); (try clear hb2); (try clear hk); (try clear hi)))
  go_ret2
  exact ⟨_, by first | rfl | (simp [errW_none, errW_some] <;> rfl) | (simp [*, errW_none, errW_some] <;> rfl), by first | exact Kd.R_nil _ _ _ _ _ | exact Kd.N_nil _ _ _ _ _ | exact Kd.V_nil _ _ _ _ _ | exact Kd.Q_nil _ _ _ _ _ | exact Kd.S_nil _ _ _ _ _, zb⟩

end Go.Proofs.YtbbboachakkgiaaDoor.G

namespace Go.Proofs.YtbbboachakkgiaaDoor.G
open Go.RowKit Go.Proofs.YtbbboachakkgiaaDoorW.PrintWords Go.Proofs.YtbbboachakkgiaaDoorW.PrintLast Go.Proofs.YtbbboachakkgiaaDoorW.PrintMore
attribute [local go_sem] max2_int min2_int max_two min_two max_three min_three max_four min_four   -- for this text's walks alone
set_option linter.unusedVariables false
set_option linter.unusedSimpArgs false

def spec_l12Last.f (a0_0 : Bool) (a0_1 : Bool) (a0_2 : Int) (a0_3 : Int) (a0_4 : Int) (l0_5 : List (S33)) : Option (Int) := if 0 ≤ (wrap64 ((l0_5.length : Int) - 1)) then (if (wrap64 ((l0_5.length : Int) - 1)) < (l0_5.length : Int) then (some ((rd_T33 l0_5 (wrap64 ((l0_5.length : Int) - 1))).f0)) else (none)) else (none)
set_option maxHeartbeats 8000000 in
set_option maxRecDepth 100000 in
theorem spec_l12Last.calls (a0_0 : Bool) (a0_1 : Bool) (a0_2 : Int) (a0_3 : Int) (a0_4 : Int) (A0_5 : Option Addr) (c0_5 : Nat) (l0_5 : List (S33)) (r : Int) (w : World) (hr0_5 : Kd.C k33 w A0_5 l0_5.length l0_5) (hc0_5 : l0_5.length ≤ c0_5) (h : spec_l12Last.f a0_0 a0_1 a0_2 a0_3 a0_4 l0_5 = some r) :
  Calls Tryd.prog 39 #[.agg #[.bool a0_0, .bool a0_1, .int .i64 a0_2, .int .i64 a0_3, .int .i64 a0_4, .slice A0_5 l0_5.length c0_5]] w fun e w' => e = .returned (.int .i64 r) ∧ Below w.heap.size w w' := by
 have hu47 := Tryd.underlying47
 have HR0_5 := Aside0.mk hr0_5
 have HC0_5 := Aside0.mk hc0_5
 clear hr0_5 hc0_5
 have HB := Aside0.mk (Below.refl w.heap.size w)
 have H : (if 0 ≤ (wrap64 ((l0_5.length : Int) - 1)) then (if (wrap64 ((l0_5.length : Int) - 1)) < (l0_5.length : Int) then (some ((rd_T33 l0_5 (wrap64 ((l0_5.length : Int) - 1))).f0)) else (none)) else (none)) = some r := h
 clear h
 obtain ⟨ji2, hji2⟩ : ∃ j_ : Int, (wrap64 ((l0_5.length : Int) - 1)) = j_ := ⟨_, rfl⟩
 replace H : (if 0 ≤ (ji2) then (if (ji2) < (l0_5.length : Int) then (some ((rd_T33 l0_5 (ji2)).f0)) else (none)) else (none)) = some r := by first | (rw [hji2] at H; exact H) | (simp only [hji2] at H ⊢; exact H)
 have hji2w : (IntKind.i64.wrap ((l0_5.length : Int) - 1)) = ji2 := (i64_w _).trans hji2
 by_cases c3 : 0 ≤ (ji2)
 ·rw [if_pos c3] at H
  have c3b0 : decide (0 ≤ (ji2)) = true := decide_eq_true c3
  clear c3
  by_cases c4 : (ji2) < (l0_5.length : Int)
  ·rw [if_pos c4] at H
   have c4b0 : decide ((ji2) < (l0_5.length : Int)) = true := decide_eq_true c4
   clear c4
   obtain rfl := Option.some.inj H
   go_enter Tryd.func39, Tryd.ntmps39
   go_wp2_with (first | ((with_reducible refine gate_dst (N := 1) rfl ?_); refine box_event ?hg (N := 1) ?hd (cs := #[.bool a0_0, .bool a0_1, .int .i64 a0_2, .int .i64 a0_3, .int .i64 a0_4, .slice A0_5 l0_5.length c0_5]) (t := 47) ?hr ?_; (case hd => rfl); (case hg => rfl); (case hr => first | (go_simp; done) | (go_simp; rfl)); intro gb421 hg w5 hbox hb; have BK421 := Aside0.mk (hbox); have GW421 := tge HB hg; have GE421 := tge HB hg; replace HB := tBs HB hb; clear hb hbox hg; obtain ⟨hcz6_0, hcz6_1, hcz6_2, hcz6_3, hcz6_4, hcz6_5, hfz6_0, hfz6_1, hfz6_2, hfz6_3, hfz6_4, hfz6_5⟩ := cells6 BK421.out; have p422 : 0 ≤ ((ji2) : Int) := td; have q422 : (ji2) < (l0_5.length : Int) := td; obtain ⟨ad422, A422_3, c422_3, A422_5, c422_5, e422, hx422_0, hx422_1, hx422_2, hx422_3, hx422_4, hx422_5, hl422_3, hi422_3, hl422_5, hi422_5⟩ := at_T33 HR0_5.out (ji2) p422 q422; cases e422; replace hx422_0 := tcl HB hx422_0; replace hx422_1 := tcl HB hx422_1; replace hx422_2 := tcl HB hx422_2; replace hx422_3 := tcl HB hx422_3; replace hx422_4 := tcl HB hx422_4; replace hx422_5 := tcl HB hx422_5; have HR422_3 := Aside0.mk hi422_3; have HC422_3 := Aside0.mk hl422_3; clear hi422_3 hl422_3; have HR422_5 := Aside0.mk hi422_5; have HC422_5 := Aside0.mk hl422_5; clear hi422_5 hl422_5; replace p422 := eq_true p422; replace q422 := eq_true q422))
   go_ret
   exact ⟨by first | rfl | (simp [errW_none, errW_some] <;> rfl) | (simp only [← hji2]; first | rfl | (simp [errW_none, errW_some] <;> rfl)) | (simp [*, errW_none, errW_some] <;> rfl), zb⟩
  ·rw [if_neg c4] at H
   exact absurd H (by simp)
 ·rw [if_neg c3] at H
  exact absurd H (by simp)

end Go.Proofs.YtbbboachakkgiaaDoor.G

namespace Go.Proofs.YtbbboachakkgiaaDoor.G
open Go.RowKit Go.Proofs.YtbbboachakkgiaaDoorW.PrintWords Go.Proofs.YtbbboachakkgiaaDoorW.PrintLast Go.Proofs.YtbbboachakkgiaaDoorW.PrintMore Go.Proofs.YtbbboachakkgiaaDoor.Pu
set_option linter.unusedVariables false
set_option linter.unusedSimpArgs false
theorem slast_q (b : S47) (A : Option Addr) (c : Nat) (w : World) (hr : Kd.C k33 w A b.f5.length b.f5) (hc : b.f5.length ≤ c) (hn : 1 ≤ b.f5.length ∧ b.f5.length ≤ 6) : Calls Tryd.prog 39 #[.agg #[.bool b.f0, .bool b.f1, .int .i64 b.f2, .int .i64 b.f3, .int .i64 b.f4, .slice A b.f5.length c]] w fun e w' => e = .returned (.int .i64 (lastOf b)) ∧ Below w.heap.size w w' :=
  spec_l12Last.calls _ _ _ _ _ A c b.f5 _ w hr hc (by
    unfold spec_l12Last.f lastOf
    simp only [w64 (a := (b.f5.length : Int) - 1) (by omega) (by omega), if_pos (show (0 : Int) ≤ (b.f5.length : Int) - 1 by omega), if_pos (show (b.f5.length : Int) - 1 < (b.f5.length : Int) by omega), if_pos (show (0 : Int) < (b.f5.length : Int) by omega)])
set_option maxRecDepth 100000 in
set_option maxHeartbeats 4000000 in
theorem speclog_q (l : List S47) (A : Option Addr) (c : Nat) (w : World) (hr : Kd.C k47 w A l.length l) (hc : l.length ≤ c) :
    Calls Tryd.prog 38 #[.slice A l.length c] w fun e w' => e = .returned (.bool (logOk l)) ∧ Below w.heap.size w w' := by
  have hl := hr.2.1
  unfold logOk
  have HR := Aside0.mk hr
  clear hr
  go_enter Tryd.func38, Tryd.ntmps38
  go_wp2
  go_loopw [3] (fun v3 wr => ∃ i : Nat, v3 = .int .i64 i ∧ i ≤ l.length ∧ (∀ j, j < i → batStep l j = true) ∧ Below w.heap.size w wr) (fun v3 _ => l.length - (intOf v3).toNat)
  case atStart => exact ⟨0, rfl, Nat.zero_le _, fun j hj => absurd hj (Nat.not_lt_zero j), Below.refl _ _⟩
  case round =>
    obtain ⟨i, rfl, hi, hall, hB1⟩ := hrel
    by_cases hlt : i < l.length
    · obtain ⟨ad, A5, c5, rfl, e0, e1, e2, e3, e4, e5, l5, g5⟩ := at_T47 (Kd.C_below HR.out hB1) (i : Int) (by omega) (by omega)
      rw [show ((i : Int)).toNat = i from rfl] at e0 e1 e2 e3 e4 e5
      have hrec : batStep l i = (batOk (rd_T47 l (i : Int)) && (decide (i = 0) || decide (lastOf (rd_T47 l ((i : Int) - 1)) < firstOf (rd_T47 l (i : Int))))) := rfl
      generalize rd_T47 l (i : Int) = bi at *
      have ci : CellsB wr (ad.add (i * 6)) bi A5 c5 := ⟨e0, e1, e2, e3, e4, e5⟩
      clear e0 e1 e2 e3 e4 e5
      go_wp2
      have HRC := Aside0.mk (fun (W2 : World) (hb : Below wr.heap.size wr W2) => specbat_q bi A5 c5 W2 (Kd.C_below g5 hb) l5)
      have kS : ∀ w' : World, Below wr.drew.heap.size wr.drew w' → CellsB w' (ad.add (i * 6)) bi A5 c5 ∧ Below wr.heap.size wr w' := fun w' h => ⟨ci.below (below_step (below_drew (Below.refl _ wr)) h), below_step (below_drew (Below.refl _ wr)) h⟩
      have hil : (i : Int) < (l.length : Int) := by omega
      rcases hok : batOk bi with _ | _ <;> rw [hok] at HRC
      · have hno := Aside0.mk (logs_no hlt (hrec.trans (by rw [hok]; rfl)))
        refine r_begin (fun w' => CellsB w' (ad.add (i * 6)) bi A5 c5 ∧ Below wr.heap.size wr w') 27 (by kernel_rfl) rfl (kS _ (Below.refl _ _)) (fun hH => ?_)
        repeat (first | (refine r_skip (by kernel_rfl) (by rfl) (fun _ _ _ h => h) hH ?_; simp only [Act.put, List.setIfInBounds_toArray, List.set_cons_zero, List.set_cons_succ, Nat.reduceAdd]) | (refine r_go (v := ?_) (by kernel_rfl) (by rfl) (fun _ _ _ h => h) hH ?_ ?_; rotate_left; (focus (intro w hS; obtain ⟨⟨e0, e1, e2, e3, e4, e5⟩, e6⟩ := hS; go_simp; first | done | with_reducible rfl)); simp only [Act.put, List.setIfInBounds_toArray, List.set_cons_zero, List.set_cons_succ, Nat.reduceAdd]) | (fail "x"))
        refine r_one (by kernel_rfl) (by rfl) (fun K hK => ?_)
        go_simp
        go_at_call 59
        refine (HRC.out _ hH.2).mono ?_
        rintro e w2 ⟨rfl, hb⟩
        go_wp2_with fail
        refine hK.out _ _ (kS _ hb) (fun hH => ?_)
        clear hK K
        simp only [Act.put, List.setIfInBounds_toArray, List.set_cons_zero, List.set_cons_succ, Nat.reduceAdd]
        repeat (first | (refine r_skip (by kernel_rfl) (by rfl) (fun _ _ _ h => h) hH ?_; simp only [Act.put, List.setIfInBounds_toArray, List.set_cons_zero, List.set_cons_succ, Nat.reduceAdd]) | (refine r_go (v := ?_) (by kernel_rfl) (by rfl) (fun _ _ _ h => h) hH ?_ ?_; rotate_left; (focus (intro w hS; obtain ⟨⟨e0, e1, e2, e3, e4, e5⟩, e6⟩ := hS; go_simp; first | done | with_reducible rfl)); simp only [Act.put, List.setIfInBounds_toArray, List.set_cons_zero, List.set_cons_succ, Nat.reduceAdd]) | (fail "x"))
        refine r_done (by kernel_rfl) ?_
        go_wp2
        go_ret
        exact ⟨by rw [hno.out]; rfl, below_step hB1 hH.2⟩
      · rcases i with _ | j
        · have ez : ad.add (0 * 6) = ad := by go_simp
          rw [ez] at ci
          simp only [ez] at kS
          refine r_begin (fun w' => CellsB w' ad bi A5 c5 ∧ Below wr.heap.size wr w') 27 (by kernel_rfl) rfl (kS _ (Below.refl _ _)) (fun hH => ?_)
          repeat (first | (refine r_skip (by kernel_rfl) (by rfl) (fun _ _ _ h => h) hH ?_; simp only [Act.put, List.setIfInBounds_toArray, List.set_cons_zero, List.set_cons_succ, Nat.reduceAdd]) | (refine r_go (v := ?_) (by kernel_rfl) (by rfl) (fun _ _ _ h => h) hH ?_ ?_; rotate_left; (focus (intro w hS; obtain ⟨⟨e0, e1, e2, e3, e4, e5⟩, e6⟩ := hS; go_simp; first | done | with_reducible rfl)); simp only [Act.put, List.setIfInBounds_toArray, List.set_cons_zero, List.set_cons_succ, Nat.reduceAdd]) | (fail "x"))
          refine r_one (by kernel_rfl) (by rfl) (fun K hK => ?_)
          go_simp
          go_at_call 59
          refine (HRC.out _ hH.2).mono ?_
          rintro e w2 ⟨rfl, hb⟩
          go_wp2_with fail
          refine hK.out _ _ (kS _ hb) (fun hH => ?_)
          clear hK K
          simp only [Act.put, List.setIfInBounds_toArray, List.set_cons_zero, List.set_cons_succ, Nat.reduceAdd]
          repeat (first | (refine r_skip (by kernel_rfl) (by rfl) (fun _ _ _ h => h) hH ?_; simp only [Act.put, List.setIfInBounds_toArray, List.set_cons_zero, List.set_cons_succ, Nat.reduceAdd]) | (refine r_go (v := ?_) (by kernel_rfl) (by rfl) (fun _ _ _ h => h) hH ?_ ?_; rotate_left; (focus (intro w hS; obtain ⟨⟨e0, e1, e2, e3, e4, e5⟩, e6⟩ := hS; go_simp; first | done | with_reducible rfl)); simp only [Act.put, List.setIfInBounds_toArray, List.set_cons_zero, List.set_cons_succ, Nat.reduceAdd]) | (fail "x"))
          refine r_done (by kernel_rfl) ?_
          go_wp2
          go_roundw
          case rel =>
            have hst : ∀ j, j < 0 + 1 → batStep l j = true := by
              intro j hj
              obtain rfl : j = 0 := by omega
              exact hrec.trans (by rw [hok]; rfl)
            first | exact ⟨0 + 1, by simp, hlt, hst, below_step hB1 hH.2⟩ | ((repeat apply Exists.intro); refine ⟨⟨0 + 1, ?_, hlt, hst, below_step hB1 hH.2⟩, by first | rfl | (repeat' apply And.intro) <;> rfl⟩; simp)
          case measure => simp [intOf]; omega
        · obtain ⟨ad2, A4, c4, hq, f0, f1, f2, f3, f4, f5, l4, g4⟩ := at_T47 (Kd.C_below HR.out hB1) (j : Int) (by omega) (by omega)
          cases hq
          rw [show ((j : Int)).toNat = j from rfl] at f0 f1 f2 f3 f4 f5
          have hjs := hall j (by omega)
          have hrec2 : batStep l (j + 1) = (batOk bi && (decide (j + 1 = 0) || decide (lastOf (rd_T47 l (j : Int)) < firstOf bi))) := by
            rw [hrec, show ((j + 1 : Nat) : Int) - 1 = (j : Int) by omega]
          unfold batStep at hjs
          have hbj := (Bool.and_eq_true_iff.1 hjs).1
          clear hjs
          generalize rd_T47 l (j : Int) = bj at *
          have hnj := batOk_len hbj
          have hni := batOk_len hok
          have cj : CellsB wr (ad.add (j * 6)) bj A4 c4 := ⟨f0, f1, f2, f3, f4, f5⟩
          obtain ⟨ad5, _, _, _, _, rfl, k0, _⟩ := at_T33 g5 0 (by omega) (by omega)
          change wr.cell? (ad5.add (0 * 6)) = some (.int .i64 (firstOf bi)) at k0
          have ez : ad5.add (0 * 6) = ad5 := by go_simp
          rw [ez] at k0
          have hwj : IntKind.i64.wrap (j : Int) = (j : Int) := by rw [i64_w]; unfold wrap64; omega
          have hjl : (j : Int) < (l.length : Int) := by omega
          have hjl1 : (j : Int) + 1 < (l.length : Int) := by omega
          have hj0 : (0 : Int) ≤ (j : Int) + 1 := by omega
          have htn : ((j : Int) + 1).toNat = j + 1 := by omega
          have hn0 : 0 < bi.f5.length := by omega
          have HL := Aside0.mk (fun (W2 : World) (hb : Below wr.heap.size wr W2) => slast_q bj A4 c4 W2 (Kd.C_below g4 hb) l4 hnj)
          have kS2 : ∀ w' : World, Below wr.heap.size wr w' → CellsB w' (ad.add ((j + 1) * 6)) bi (some ad5) c5 ∧ CellsB w' (ad.add (j * 6)) bj A4 c4 ∧ w'.cell? ad5 = some (.int .i64 (firstOf bi)) ∧ Below wr.heap.size wr w' := fun w' h => ⟨ci.below h, cj.below h, pw_cell_below h k0, h⟩
          have hno := Aside0.mk hrec2
          clear hrec hrec2
          clear f0 f1 f2 f3 f4 f5 kS
          go_region_held3 (fun w' => (w'.cell? (ad.add ((j + 1) * 6)) = some (.bool bi.f0) ∧ w'.cell? ⟨(ad.add ((j + 1) * 6)).block, (ad.add ((j + 1) * 6)).off + 1, none⟩ = some (.bool bi.f1) ∧ w'.cell? ⟨(ad.add ((j + 1) * 6)).block, (ad.add ((j + 1) * 6)).off + 2, none⟩ = some (.int .i64 bi.f2) ∧ w'.cell? ⟨(ad.add ((j + 1) * 6)).block, (ad.add ((j + 1) * 6)).off + 3, none⟩ = some (.int .i64 bi.f3) ∧ w'.cell? ⟨(ad.add ((j + 1) * 6)).block, (ad.add ((j + 1) * 6)).off + 4, none⟩ = some (.int .i64 bi.f4) ∧ w'.cell? ⟨(ad.add ((j + 1) * 6)).block, (ad.add ((j + 1) * 6)).off + 5, none⟩ = some (.slice (some ad5) bi.f5.length c5)) ∧ (w'.cell? (ad.add (j * 6)) = some (.bool bj.f0) ∧ w'.cell? ⟨(ad.add (j * 6)).block, (ad.add (j * 6)).off + 1, none⟩ = some (.bool bj.f1) ∧ w'.cell? ⟨(ad.add (j * 6)).block, (ad.add (j * 6)).off + 2, none⟩ = some (.int .i64 bj.f2) ∧ w'.cell? ⟨(ad.add (j * 6)).block, (ad.add (j * 6)).off + 3, none⟩ = some (.int .i64 bj.f3) ∧ w'.cell? ⟨(ad.add (j * 6)).block, (ad.add (j * 6)).off + 4, none⟩ = some (.int .i64 bj.f4) ∧ w'.cell? ⟨(ad.add (j * 6)).block, (ad.add (j * 6)).off + 5, none⟩ = some (.slice A4 bj.f5.length c4)) ∧ w'.cell? ad5 = some (.int .i64 (firstOf bi)) ∧ Below wr.heap.size wr w') (first | exact kS2 _ (below_drew (Below.refl _ _)) | assumption | exact kS2 _ (below_step (below_drew (Below.refl _ _)) ‹_›) | exact kS2 _ (below_step (by have hq := ‹_ ∧ _ ∧ _ ∧ Below wr.heap.size wr _›; exact hq.2.2.2) ‹_›))
            (first | (go_at_call 59; refine (HRC.out _ (by first | exact below_drew (Below.refl _ _) | exact (‹_ ∧ _ ∧ _ ∧ Below wr.heap.size wr _›).2.2.2)).mono ?_; rintro e w' ⟨rfl, hb⟩) | (go_at_call 39; refine (HL.out _ (by first | exact below_drew (Below.refl _ _) | exact (‹_ ∧ _ ∧ _ ∧ Below wr.heap.size wr _›).2.2.2)).mono ?_; rintro e w' ⟨rfl, hb⟩))
          all_goals
            have hBw := below_step hB1 (‹_ ∧ _ ∧ _ ∧ Below wr.heap.size wr _›).2.2.2
            by_cases hc : lastOf bj < firstOf bi
            · have hst : ∀ j', j' < j + 1 + 1 → batStep l j' = true := by
                intro j' hj
                by_cases h' : j' < j + 1
                · exact hall j' h'
                · obtain rfl : j' = j + 1 := by omega
                  rw [hno.out, hok, decide_eq_true hc, Bool.or_true]; rfl
              have hng : ¬ firstOf bi ≤ lastOf bj := by omega
              go_wp2
              go_roundw
              case rel => first | exact ⟨j + 1 + 1, by simp, hlt, hst, hBw⟩ | ((repeat apply Exists.intro); refine ⟨⟨j + 1 + 1, ?_, hlt, hst, hBw⟩, by first | rfl | (repeat' apply And.intro) <;> rfl⟩; simp)
              case measure => simp [intOf]; omega
            · have hn2 := Aside0.mk (logs_no hlt (hno.out.trans (by rw [hok, decide_eq_false hc, decide_eq_false (show ¬ j + 1 = 0 by omega)]; rfl)))
              have hng : firstOf bi ≤ lastOf bj := by omega
              go_wp2
              go_ret
              exact ⟨by rw [hn2.out]; rfl, hBw⟩
    · obtain rfl : i = l.length := by omega
      go_wp2
      go_ret
      exact ⟨by rw [logs_of hall]; rfl, hB1⟩
def spec_LogValid.f (k : Nat) (a0 : List S47) : Option Bool := some (logOk a0)
theorem spec_LogValid.calls (k : Nat) (A0 : Option Addr) (c0 : Nat) (l0 : List (S47)) (r : Bool) (w : World) (hr0 : Kd.C k47 w A0 l0.length l0) (hc0 : l0.length ≤ c0) (h : spec_LogValid.f k l0 = some r) :
    Calls Tryd.prog 38 #[.slice A0 l0.length c0] w fun e w' => e = .returned (.bool r) ∧ Below w.heap.size w w' := by
  obtain rfl := Option.some.inj h
  exact speclog_q l0 A0 c0 w hr0 hc0
end Go.Proofs.YtbbboachakkgiaaDoor.G

namespace Go.Proofs.YtbbboachakkgiaaDoor.G
open Go.RowKit Go.Proofs.YtbbboachakkgiaaDoorW.PrintWords Go.Proofs.YtbbboachakkgiaaDoorW.PrintLast Go.Proofs.YtbbboachakkgiaaDoorW.PrintMore
attribute [local go_sem] max2_int min2_int max_two min_two max_three min_three max_four min_four   -- for this text's walks alone
set_option linter.unusedVariables false
set_option linter.unusedSimpArgs false

def spec_l12Copy.f (a0_0 : Int) (a0_1 : Int) (a0_2 : Bool) (l0_3 : List Int) (a0_4 : Bool) (l0_5 : List Int) : Option (Int × Int × Bool × List Int × Bool × List Int) := (some (([] : List Int) : List Int)).bind fun y425 => (if y425.length + l0_3.length < 17592186044416 then ((some (([] : List Int) : List Int)).bind fun y431 => (if y431.length + l0_5.length < 17592186044416 then (some (a0_0, a0_1, a0_2, (y425 ++ l0_3), a0_4, (y431 ++ l0_5))) else (none))) else (none))
set_option maxHeartbeats 8000000 in
set_option maxRecDepth 100000 in
theorem spec_l12Copy.calls (a0_0 : Int) (a0_1 : Int) (a0_2 : Bool) (A0_3 : Option Addr) (c0_3 : Nat) (l0_3 : List Int) (a0_4 : Bool) (A0_5 : Option Addr) (c0_5 : Nat) (l0_5 : List Int) (r1 : Int) (r2 : Int) (r3 : Bool) (r4 : List Int) (r5 : Bool) (r6 : List Int) (w : World) (hr0_3 : Kd.C (Kd.int .i64) w A0_3 l0_3.length l0_3) (hc0_3 : l0_3.length ≤ c0_3) (hr0_5 : Kd.C (Kd.int .i64) w A0_5 l0_5.length l0_5) (hc0_5 : l0_5.length ≤ c0_5) (h : spec_l12Copy.f a0_0 a0_1 a0_2 l0_3 a0_4 l0_5 = some (r1, r2, r3, r4, r5, r6)) :
  Calls Tryd.prog 62 #[.agg #[.int .i64 a0_0, .int .i64 a0_1, .bool a0_2, .slice A0_3 l0_3.length c0_3, .bool a0_4, .slice A0_5 l0_5.length c0_5]] w fun e w' => ∃ v3_ v5_ : Value, e = .returned (.agg #[.int .i64 r1, .int .i64 r2, .bool r3, v3_, .bool r5, v5_]) ∧ Kd.R (Kd.int .i64) 3 w' w.heap.size (fun k_ => some k_ ≠ (v5_ : Value).ownBlock) v3_ r4 ∧ Kd.R (Kd.int .i64) 3 w' w.heap.size (fun k_ => some k_ ≠ (v3_ : Value).ownBlock) v5_ r6 ∧ Below w.heap.size w w' := by
 have hu33 := Tryd.underlying33
 have HR0_3 := Aside0.mk hr0_3
 have HC0_3 := Aside0.mk hc0_3
 clear hr0_3 hc0_3
 have HR0_5 := Aside0.mk hr0_5
 have HC0_5 := Aside0.mk hc0_5
 clear hr0_5 hc0_5
 have HB := Aside0.mk (Below.refl w.heap.size w)
 have H : ((some (([] : List Int) : List Int)).bind fun y425 => (if y425.length + l0_3.length < 17592186044416 then ((some (([] : List Int) : List Int)).bind fun y431 => (if y431.length + l0_5.length < 17592186044416 then (some (a0_0, a0_1, a0_2, (y425 ++ l0_3), a0_4, (y431 ++ l0_5))) else (none))) else (none))) = some (r1, r2, r3, r4, r5, r6) := h
 clear h
 obtain ⟨y425, hy425⟩ : ∃ y_ : List Int, y_ = (([] : List Int)) := ⟨_, rfl⟩
 replace H : (if y425.length + l0_3.length < 17592186044416 then ((some (([] : List Int) : List Int)).bind fun y431 => (if y431.length + l0_5.length < 17592186044416 then (some (a0_0, a0_1, a0_2, (y425 ++ l0_3), a0_4, (y431 ++ l0_5))) else (none))) else (none)) = some (r1, r2, r3, r4, r5, r6) := by first | (rw [hy425]; with_reducible exact H) | (have H2_ := (Option.bind_some _ _).symm.trans H; rw [hy425]; with_reducible exact H2_) | (have H2_ := (Option.bind_some _ _).symm.trans H; with_reducible exact H2_) | with_reducible exact H | (rw [hy425]; exact H) | exact H
 have Ny425 := Aside0.mk hy425
 clear hy425
 by_cases c2 : y425.length + l0_3.length < 17592186044416
 ·rw [if_pos c2] at H
  have LMc2 := Aside0.mk c2
  clear c2
  obtain ⟨y428, hy428⟩ : ∃ y_ : List Int, y_ = (y425 ++ l0_3) := ⟨_, rfl⟩
  replace H : ((some (([] : List Int) : List Int)).bind fun y431 => (if y431.length + l0_5.length < 17592186044416 then (some (a0_0, a0_1, a0_2, y428, a0_4, (y431 ++ l0_5))) else (none))) = some (r1, r2, r3, r4, r5, r6) := by first | (rw [hy428]; with_reducible exact H) | (have H2_ := (Option.bind_some _ _).symm.trans H; rw [hy428]; with_reducible exact H2_) | (have H2_ := (Option.bind_some _ _).symm.trans H; with_reducible exact H2_) | with_reducible exact H | (rw [hy428]; exact H) | exact H
  have Ny428 := Aside0.mk hy428
  clear hy428
  obtain ⟨y431, hy431⟩ : ∃ y_ : List Int, y_ = (([] : List Int)) := ⟨_, rfl⟩
  replace H : (if y431.length + l0_5.length < 17592186044416 then (some (a0_0, a0_1, a0_2, y428, a0_4, (y431 ++ l0_5))) else (none)) = some (r1, r2, r3, r4, r5, r6) := by first | (rw [hy431]; with_reducible exact H) | (have H2_ := (Option.bind_some _ _).symm.trans H; rw [hy431]; with_reducible exact H2_) | (have H2_ := (Option.bind_some _ _).symm.trans H; with_reducible exact H2_) | with_reducible exact H | (rw [hy431]; exact H) | exact H
  have Ny431 := Aside0.mk hy431
  clear hy431
  by_cases c3 : y431.length + l0_5.length < 17592186044416
  ·rw [if_pos c3] at H
   have LMc3 := Aside0.mk c3
   clear c3
   obtain ⟨y434, hy434⟩ : ∃ y_ : List Int, y_ = (y431 ++ l0_5) := ⟨_, rfl⟩
   replace H : (some (a0_0, a0_1, a0_2, y428, a0_4, y434)) = some (r1, r2, r3, r4, r5, r6) := by first | (rw [hy434]; with_reducible exact H) | (have H2_ := (Option.bind_some _ _).symm.trans H; rw [hy434]; with_reducible exact H2_) | (have H2_ := (Option.bind_some _ _).symm.trans H; with_reducible exact H2_) | with_reducible exact H | (rw [hy434]; exact H) | exact H
   have Ny434 := Aside0.mk hy434
   clear hy434
   simp only [Option.some.injEq, Prod.mk.injEq] at H
   obtain ⟨rfl, rfl, rfl, rfl, rfl, rfl⟩ := H
   go_enter Tryd.func62, Tryd.ntmps62
   go_wp2_with (first | ((with_reducible refine gate_dst (N := 1) rfl ?_); refine box_event ?hg (N := 1) ?hd (cs := #[.int .i64 a0_0, .int .i64 a0_1, .bool a0_2, .slice A0_3 l0_3.length c0_3, .bool a0_4, .slice A0_5 l0_5.length c0_5]) (t := 33) ?hr ?_; (case hd => rfl); (case hg => rfl); (case hr => first | (go_simp; done) | (go_simp; rfl)); intro gb423 hg w4 hbox hb; have BK423 := Aside0.mk (hbox); have GW423 := tge HB hg; have GE423 := tge HB hg; replace HB := tBs HB hb; clear hb hbox hg) | ((with_reducible refine gate_dst (N := 2) rfl ?_); refine box_event ?hg (N := 2) ?hd (cs := #[.int .i64 0, .int .i64 0, .bool false, .slice none 0 0, .bool false, .slice none 0 0]) (t := 33) ?hr ?_; (case hd => rfl); (case hg => rfl); (case hr => first | (go_simp; done) | (go_simp; rfl)); intro gb424 hg w5 hbox hb; have BK424 := Aside0.mk (hbox); have GW424 := tge HB hg; have GE424 := tge HB hg; replace HB := tBs HB hb; have NB423_424 := tlt BK423 hg; have NB424_423 := tgt BK423 hg; replace BK423 := tBb BK423 hb; clear hb hbox hg) | ((with_reducible refine gate_dst (N := 3) rfl ?_); refine Kd.R_lit (Kd.int .i64) _ 3 ?hg (N := 3) ?hd (xs := ([] : List Int)) (inner := []) (ok := fun _ => True) (okp := fun _ => True) ?hr ?hp (fun _ hk => hk) trivial (Below.refl _ _) (Nat.le_refl _) (by simp) ?_; (case hd => rfl); (case hg => rfl); (case hr => first | (go_simp; done) | (go_simp; rfl)); (case hp => exact (Reps.none _ _)); intro v426 w6 ho7 hb hg_ hnew_; clear hg_ hnew_; (first | rw [← Ny425.out] at ho7 | (simp only [Int.reduceToNat] at ho7; rw [← Ny425.out] at ho7)); have HO427 := tRl ho7 HB; replace BK423 := tBb BK423 hb; replace BK424 := tBb BK424 hb; replace HB := tBs HB hb; clear hb ho7; have hnb8 := NB423_424.out; have hnc8 := NB424_423.out; obtain ⟨hcz9_0, hcz9_1, hcz9_2, hcz9_3, hcz9_4, hcz9_5, hfz9_0, hfz9_1, hfz9_2, hfz9_3, hfz9_4, hfz9_5⟩ := cells6 BK423.out) | ((with_reducible refine gate_builtin (b := .append) (xs := #[.tmp 3, .tmp 5]) rfl ?_); at_builtin; refine Kd.R_append_rows (Kd.int .i64) (w0 := w) w.heap.size rfl (.tmp 3) (.tmp 5) 31 3 (.int .i64 0) 8 rfl Tryd.underlying31 info3 rfl (by decide) (by omega) v426 y425 l0_3 _ _ _ (fun _ => True) (fun _ => False) rfl rfl ?aO ?aR (fun _ _ h => h) (fun _ h => h.elim) ?aF ?aB ?aS ?aL ?_; (case aR => exact tC (Kd.C_below HR0_3.out HB.out)); (case aB => exact zb); (case aF => exact (fun _ _ => trivial)); (case aO => exact (tR HO427.out)); (case aS => exact (below_size zb)); (case aL => have := LMc2.out; omega); intro v429 w10 ho hb hg hat; rw [← Ny428.out] at ho; replace BK423 := Aside0.mk (blk_grown (tH BK423.out) hg (Kd.R_ne HO427.out BK423.out (by decide))); replace BK424 := Aside0.mk (blk_grown (tH BK424.out) hg (Kd.R_ne HO427.out BK424.out (by decide))); replace HB := Aside0.mk (hb); have HO430 := Aside0.mk (ho); clear HO427; clear ho hb hg hat; obtain ⟨Ao11, co11, eo11⟩ := Kd.R_slice HO430.out; subst eo11; obtain ⟨hcz12_0, hcz12_1, hcz12_2, hcz12_3, hcz12_4, hcz12_5, hfz12_0, hfz12_1, hfz12_2, hfz12_3, hfz12_4, hfz12_5⟩ := cells6 BK423.out) | ((with_reducible refine gate_dst (N := 8) rfl ?_); refine Kd.R_lit (Kd.int .i64) _ 3 ?hg (N := 8) ?hd (xs := ([] : List Int)) (inner := []) (ok := fun _ => True) (okp := fun _ => True) ?hr ?hp (fun _ hk => hk) trivial (Below.refl _ _) (Nat.le_refl _) (by simp) ?_; (case hd => rfl); (case hg => rfl); (case hr => first | (go_simp; done) | (go_simp; rfl)); (case hp => exact (Reps.none _ _)); intro v432 w13 ho14 hb hg_ hnew_; clear hg_ hnew_; (first | rw [← Ny431.out] at ho14 | (simp only [Int.reduceToNat] at ho14; rw [← Ny431.out] at ho14)); have HO433 := Aside0.mk (Kd.R_lower (Kd.R_new' ho14 (Kd.R_lt (tRt HO430.out BK423.out))) (below_size zb)); replace HO430 := Aside0.mk (Kd.R_elder' (tRt HO430.out BK423.out) (Kd.R_base ho14) hb); replace BK423 := tBp (o' := .cells #[.int .i64 a0_0, .int .i64 a0_1, .bool a0_2, .slice Ao11 y428.length co11, .bool a0_4, .slice A0_5 l0_5.length c0_5] 33 (0, 0)) BK423 hb; replace BK424 := tBb BK424 hb; replace HB := tBs HB hb; clear hb ho14; obtain ⟨hcz15_0, hcz15_1, hcz15_2, hcz15_3, hcz15_4, hcz15_5, hfz15_0, hfz15_1, hfz15_2, hfz15_3, hfz15_4, hfz15_5⟩ := cells6 BK423.out) | ((with_reducible refine gate_builtin (b := .append) (xs := #[.tmp 8, .tmp 10]) rfl ?_); at_builtin; refine Kd.R_append_rows (Kd.int .i64) (w0 := w) w.heap.size rfl (.tmp 8) (.tmp 10) 31 3 (.int .i64 0) 8 rfl Tryd.underlying31 info3 rfl (by decide) (by omega) v432 y431 l0_5 _ _ _ (fun k_ => some k_ ≠ (.slice Ao11 y428.length co11 : Value).ownBlock) (fun _ => False) rfl rfl ?aO ?aR (fun _ _ h => h) (fun _ h => h.elim) ?aF ?aB ?aS ?aL ?_; (case aR => exact tC (Kd.C_below HR0_5.out HB.out)); (case aB => exact zb); (case aF => exact (fun k_ hk => Kd.fresh' (Kd.R_lt (tR HO430.out)) k_ hk)); (case aO => exact (tRm HO433.out)); (case aS => exact (below_size zb)); (case aL => have := LMc3.out; omega); intro v435 w16 ho hb hg hat; rw [← Ny434.out] at ho; replace BK423 := Aside0.mk (blk_grown (tH BK423.out) hg (Kd.R_ne HO433.out BK423.out (by decide))); replace BK424 := Aside0.mk (blk_grown (tH BK424.out) hg (Kd.R_ne HO433.out BK424.out (by decide))); replace HO430 := Aside0.mk (Kd.R_after (ok := (fun _ => True)) (tR HO430.out) hg hat); replace HB := Aside0.mk (hb); have HO436 := Aside0.mk (ho); clear HO433; clear ho hb hg hat; obtain ⟨Ao17, co17, eo17⟩ := Kd.R_slice HO436.out; subst eo17; obtain ⟨hcz18_0, hcz18_1, hcz18_2, hcz18_3, hcz18_4, hcz18_5, hfz18_0, hfz18_1, hfz18_2, hfz18_3, hfz18_4, hfz18_5⟩ := cells6 BK423.out; obtain ⟨hcz19_0, hcz19_1, hcz19_2, hcz19_3, hcz19_4, hcz19_5, hfz19_0, hfz19_1, hfz19_2, hfz19_3, hfz19_4, hfz19_5⟩ := cells6 BK424.out))
   refine bodyPost_ret (results_cell_row rfl _ _ gb424 33 #[.int .i64 a0_0, .int .i64 a0_1, .bool a0_2, .slice Ao11 y428.length co11, .bool a0_4, .slice Ao17 y434.length co17] (0, 0) _ rfl (tP BK424.out) Tryd.underlying33 rfl (by kernel_rfl)) rfl ?_
   exact ⟨_, _, by first | rfl | (simp [errW_none, errW_some] <;> rfl) | (simp [*, errW_none, errW_some] <;> rfl), tRm (Kd.R_types (Kd.R_types HO430.out BK423.out (by decide)) BK424.out (by decide)), tRm (Kd.R_types (Kd.R_types HO436.out BK423.out (by decide)) BK424.out (by decide)), zb⟩
  ·rw [if_neg c3] at H
   exact absurd H (by simp)
 ·rw [if_neg c2] at H
  exact absurd H (by simp)

def spec_l12Batch.l0 : Nat → List (S33) → Int → Bool → Bool → Int → Int → Int → List (S33) → Option (Bool × Bool × Int × Int × Int × (List (S33)))
 | 0, _, _, _, _, _, _, _, _ => none
 | k + 1, x3, x4, x438000, x438001, x438002, x438003, x438004, x438005 => if x4 < (x438005.length : Int) then (if 0 ≤ x4 then ((spec_l12Copy.f ((rd_T33 x438005 x4).f0) ((rd_T33 x438005 x4).f1) ((rd_T33 x438005 x4).f2) ((rd_T33 x438005 x4).f3) ((rd_T33 x438005 x4).f4) ((rd_T33 x438005 x4).f5)).bind fun bt443 => (if x3.length < 1759218604441 then (spec_l12Batch.l0 k (x3 ++ [(⟨bt443.1, bt443.2.1, bt443.2.2.1, bt443.2.2.2.1, bt443.2.2.2.2.1, bt443.2.2.2.2.2⟩ : S33)]) (wrap64 (x4 + 1)) x438000 x438001 x438002 x438003 x438004 x438005) else (none))) else (none)) else (some (x438000, x438001, x438002, x438003, x438004, x3))
def spec_l12Batch.f (k : Nat) (a0_0 : Bool) (a0_1 : Bool) (a0_2 : Int) (a0_3 : Int) (a0_4 : Int) (l0_5 : List (S33)) : Option (Bool × Bool × Int × Int × Int × (List (S33))) := spec_l12Batch.l0 k (([] : List (S33))) 0 a0_0 a0_1 a0_2 a0_3 a0_4 l0_5
set_option maxHeartbeats 8000000 in
set_option maxRecDepth 100000 in
theorem spec_l12Batch.calls (k : Nat) (a0_0 : Bool) (a0_1 : Bool) (a0_2 : Int) (a0_3 : Int) (a0_4 : Int) (A0_5 : Option Addr) (c0_5 : Nat) (l0_5 : List (S33)) (r1 : Bool) (r2 : Bool) (r3 : Int) (r4 : Int) (r5 : Int) (r6 : List (S33)) (w : World) (hr0_5 : Kd.C k33 w A0_5 l0_5.length l0_5) (hc0_5 : l0_5.length ≤ c0_5) (h : spec_l12Batch.f k a0_0 a0_1 a0_2 a0_3 a0_4 l0_5 = some (r1, r2, r3, r4, r5, r6)) :
  Calls Tryd.prog 40 #[.agg #[.bool a0_0, .bool a0_1, .int .i64 a0_2, .int .i64 a0_3, .int .i64 a0_4, .slice A0_5 l0_5.length c0_5]] w fun e w' => ∃ v5_ : Value, e = .returned (.agg #[.bool r1, .bool r2, .int .i64 r3, .int .i64 r4, .int .i64 r5, v5_]) ∧ Kd.S k33 33 w' w.heap.size (fun _ => True) v5_ r6 ∧ Below w.heap.size w w' := by
 have hu47 := Tryd.underlying47
 have hu33 := Tryd.underlying33
 have HR0_5 := Aside0.mk hr0_5
 have HC0_5 := Aside0.mk hc0_5
 clear hr0_5 hc0_5
 have HB := Aside0.mk (Below.refl w.heap.size w)
 have H : (spec_l12Batch.l0 k (([] : List (S33))) 0 a0_0 a0_1 a0_2 a0_3 a0_4 l0_5) = some (r1, r2, r3, r4, r5, r6) := h
 clear h
 obtain ⟨y439, hy439⟩ : ∃ y_ : List (S33), y_ = (([] : List (S33))) := ⟨_, rfl⟩
 replace H : (spec_l12Batch.l0 k y439 0 a0_0 a0_1 a0_2 a0_3 a0_4 l0_5) = some (r1, r2, r3, r4, r5, r6) := by first | (rw [hy439]; with_reducible exact H) | (have H2_ := (Option.bind_some _ _).symm.trans H; rw [hy439]; with_reducible exact H2_) | (have H2_ := (Option.bind_some _ _).symm.trans H; with_reducible exact H2_) | with_reducible exact H | (rw [hy439]; exact H) | exact H
 have Ny439 := Aside0.mk hy439
 clear hy439
 have H' := Aside0.mk H
 clear H
 go_enter Tryd.func40, Tryd.ntmps40
 go_wp2_with (first | ((with_reducible refine gate_dst (N := 1) rfl ?_); refine box_event ?hg (N := 1) ?hd (cs := #[.bool a0_0, .bool a0_1, .int .i64 a0_2, .int .i64 a0_3, .int .i64 a0_4, .slice A0_5 l0_5.length c0_5]) (t := 47) ?hr ?_; (case hd => rfl); (case hg => rfl); (case hr => first | (go_simp; done) | (go_simp; rfl)); intro gb437 hg w2 hbox hb; have BK437 := Aside0.mk (hbox); have GW437 := tge HB hg; have GE437 := tge HB hg; replace HB := tBs HB hb; clear hb hbox hg) | ((with_reducible refine gate_dst (N := 2) rfl ?_); refine box_event ?hg (N := 2) ?hd (cs := #[.bool false, .bool false, .int .i64 0, .int .i64 0, .int .i64 0, .slice none 0 0]) (t := 47) ?hr ?_; (case hd => rfl); (case hg => rfl); (case hr => first | (go_simp; done) | (go_simp; rfl)); intro gb438 hg w3 hbox hb; have BK438 := Aside0.mk (hbox); have GW438 := tge HB hg; have GE438 := tge HB hg; replace HB := tBs HB hb; have NB437_438 := tlt BK437 hg; have NB438_437 := tgt BK437 hg; replace BK437 := tBb BK437 hb; clear hb hbox hg) | ((with_reducible refine gate_dst (N := 5) rfl ?_); refine Kd.S_lit k33 _ 33 ?hg (N := 5) ?hd (xs := ([] : List (S33))) (inner := []) (ok := fun _ => True) (okp := fun _ => True) ?hr ?hp (fun _ hk => hk) trivial (Below.refl _ _) (Nat.le_refl _) (by simp) ?_; (case hd => rfl); (case hg => rfl); (case hr => first | (go_simp; done) | (go_simp; rfl)); (case hp => exact (Reps.none _ _)); intro v440 w4 ho5 hb hg_ hnew_; clear hg_ hnew_; (first | rw [← Ny439.out] at ho5 | (simp only [Int.reduceToNat] at ho5; rw [← Ny439.out] at ho5)); have HO441 := tSl ho5 HB; replace BK437 := tBb BK437 hb; replace BK438 := tBb BK438 hb; replace HB := tBs HB hb; clear hb ho5))
 go_loopg [3, 4] k (fun kq v3 v4 w' => ∃ (x3_1 : List (S33)) (x4_1 : Int), v4 = .int .i64 x4_1 ∧ Aside0 (spec_l12Batch.l0 kq x3_1 x4_1 a0_0 a0_1 a0_2 a0_3 a0_4 l0_5 = some (r1, r2, r3, r4, r5, r6)) ∧ Aside0 (kq ≤ k) ∧ Aside0 (Kd.S k33 33 w' w.heap.size (fun _ => True) v3 x3_1) ∧ Aside0 (w'.heap[gb437]? = some (.cells #[.bool a0_0, .bool a0_1, .int .i64 a0_2, .int .i64 a0_3, .int .i64 a0_4, (.slice A0_5 l0_5.length c0_5)] 47 (0, 0))) ∧ Aside0 (w'.heap[gb438]? = some (.cells #[.bool false, .bool false, .int .i64 0, .int .i64 0, .int .i64 0, (.slice none 0 0)] 47 (0, 0))) ∧ Aside0 (Below w.heap.size w w'))
 case atStart => exact ⟨(y439), (0), tr, H', ⟨Nat.le_refl _⟩, ⟨tS HO441.out⟩, ⟨tH BK437.out⟩, ⟨tH BK438.out⟩, ⟨zb⟩⟩
 case round =>
  clear H'
  obtain ⟨x3_1, x4_1, rfl, HA, HK1, HO_3, BK437, BK438, HB⟩ := hrel
  cases gk with
  | zero => exact absurd HA.out (by simp [spec_l12Batch.l0])
  | succ k1 =>
   have H := HA.out
   clear HA
   simp only [spec_l12Batch.l0] at H
   by_cases c6 : x4_1 < (l0_5.length : Int)
   ·rw [if_pos c6] at H
    have c6b0 : decide (x4_1 < (l0_5.length : Int)) = true := decide_eq_true c6
    clear c6
    by_cases c7 : 0 ≤ x4_1
    ·rw [if_pos c7] at H
     have c7b0 : decide (0 ≤ x4_1) = true := decide_eq_true c7
     clear c7
     replace H := tbe H
     obtain ⟨⟨t443, t444, t445, t446, t449, t450⟩, A8, H⟩ := H
     dsimp only at H
     by_cases c9 : x3_1.length < 1759218604441
     ·rw [if_pos c9] at H
      have LMc9 := Aside0.mk c9
      clear c9
      obtain ⟨y453, hy453⟩ : ∃ y_ : List (S33), y_ = (x3_1 ++ [(⟨t443, t444, t445, t446, t449, t450⟩ : S33)]) := ⟨_, rfl⟩
      replace H : (spec_l12Batch.l0 k1 y453 (wrap64 (x4_1 + 1)) a0_0 a0_1 a0_2 a0_3 a0_4 l0_5) = some (r1, r2, r3, r4, r5, r6) := by first | (rw [hy453]; with_reducible exact H) | (have H2_ := (Option.bind_some _ _).symm.trans H; rw [hy453]; with_reducible exact H2_) | (have H2_ := (Option.bind_some _ _).symm.trans H; with_reducible exact H2_) | with_reducible exact H | (rw [hy453]; exact H) | exact H
      have Ny453 := Aside0.mk hy453
      clear hy453
      have H' := Aside0.mk H
      clear H
      have hnb10 := NB437_438.out
      have hnc10 := NB438_437.out
      obtain ⟨hcz11_0, hcz11_1, hcz11_2, hcz11_3, hcz11_4, hcz11_5, hfz11_0, hfz11_1, hfz11_2, hfz11_3, hfz11_4, hfz11_5⟩ := cells6 BK437.out
      have p442 : 0 ≤ (x4_1 : Int) := td
      have q442 : x4_1 < (l0_5.length : Int) := td
      obtain ⟨ad442, A442_3, c442_3, A442_5, c442_5, e442, hx442_0, hx442_1, hx442_2, hx442_3, hx442_4, hx442_5, hl442_3, hi442_3, hl442_5, hi442_5⟩ := at_T33 HR0_5.out x4_1 p442 q442
      cases e442
      replace hx442_0 := tcl HB hx442_0
      replace hx442_1 := tcl HB hx442_1
      replace hx442_2 := tcl HB hx442_2
      replace hx442_3 := tcl HB hx442_3
      replace hx442_4 := tcl HB hx442_4
      replace hx442_5 := tcl HB hx442_5
      have HR442_3 := Aside0.mk hi442_3
      have HC442_3 := Aside0.mk hl442_3
      clear hi442_3 hl442_3
      have HR442_5 := Aside0.mk hi442_5
      have HC442_5 := Aside0.mk hl442_5
      clear hi442_5 hl442_5
      replace p442 := eq_true p442
      replace q442 := eq_true q442
      go_wp2_with (first | ((with_reducible refine gate_callee (f := 62) rfl ?_); refine goesL_ (some 19) rfl rfl Tryd.func62 (by kernel_rfl) rfl #[.agg #[.int .i64 ((rd_T33 l0_5 x4_1).f0), .int .i64 ((rd_T33 l0_5 x4_1).f1), .bool ((rd_T33 l0_5 x4_1).f2), .slice A442_3 ((rd_T33 l0_5 x4_1).f3).length c442_3, .bool ((rd_T33 l0_5 x4_1).f4), .slice A442_5 ((rd_T33 l0_5 x4_1).f5).length c442_5]] rfl tq ?_; (with_reducible refine (spec_l12Copy.calls ((rd_T33 l0_5 x4_1).f0) ((rd_T33 l0_5 x4_1).f1) ((rd_T33 l0_5 x4_1).f2) _ _ ((rd_T33 l0_5 x4_1).f3) ((rd_T33 l0_5 x4_1).f4) _ _ ((rd_T33 l0_5 x4_1).f5) t443 t444 t445 t446 t449 t450 _ ?side1 ?side2 ?side3 ?side4 A8.out).mono ?_); (case side1 => exact tC (Kd.C_below HR442_3.out HB.out)); (case side2 => exact HC442_3.out); (case side3 => exact tC (Kd.C_below HR442_5.out HB.out)); (case side4 => exact HC442_5.out); rintro e w12 ⟨v447, v451, rfl, ho0, ho1, hb⟩; have u_v447 := tsv Tryd.prog v447 ho0; have u_v451 := tsv Tryd.prog v451 ho1; refine ⟨_, rfl, ?_⟩; replace HO_3 := Aside0.mk (Kd.S_mono (Kd.S_told (Kd.S_told (Kd.S_old (tS HO_3.out) hb) (Kd.R_base ho0)) (Kd.R_base ho1)) (fun _ h_ => h_.1)); have HO448 := tRl ho0 HB; have HO452 := tRl ho1 HB; replace BK437 := tBb BK437 hb; replace BK438 := tBb BK438 hb; replace HB := tBs HB hb; (try clear hb); (try clear hb2); (try clear hk); (try clear hi); (try clear ho0); (try clear ho1); obtain ⟨Ao14, co14, eo14⟩ := Kd.R_slice HO448.out; subst eo14; obtain ⟨Ao15, co15, eo15⟩ := Kd.R_slice HO452.out; subst eo15) | ((with_reducible refine gate_builtin (b := .append) (xs := #[.tmp 13, .tmp 20]) rfl ?_); at_builtin; refine Kd.S_append k33 (w0 := w) w.heap.size rfl (.tmp 13) (.tmp 20) 29 33 (.agg #[(.int .i64 0), (.int .i64 0), (.bool false), (.slice none 0 0), (.bool false), (.slice none 0 0)]) 80 rfl Tryd.underlying29 info33 rfl (by decide) (by omega) u3 x3_1 (⟨t443, t444, t445, t446, t449, t450⟩ : S33) [.int .i64 t443, .int .i64 t444, .bool t445, .slice Ao14 t446.length co14, .bool t449, .slice Ao15 t450.length co15] (fun _ => True) (fun k_ => some k_ = (.slice Ao14 t446.length co14 : Value).ownBlock ∨ some k_ = (.slice Ao15 t450.length co15 : Value).ownBlock) rfl rfl ?aP (fun k_ hk_ => hk_.elim (fun h_ => ((Kd.R_mono (ok' := fun k_ => ((fun _ => True)) k_ ∧ some k_ ≠ (u3 : Value).ownBlock) (Kd.R_apart' (HO448.out) (Kd.S_typed HO_3.out) (by decide)) (fun k_ hk => ⟨trivial, hk.2⟩))).1 k_ h_.symm) (fun h_ => ((Kd.R_mono (ok' := fun k_ => ((fun _ => True)) k_ ∧ some k_ ≠ (u3 : Value).ownBlock) (Kd.R_apart' (HO452.out) (Kd.S_typed HO_3.out) (by decide)) (fun k_ hk => ⟨trivial, hk.2⟩))).1 k_ h_.symm)) ?aF ?aO ?aB ?aS ?aL ?_; (case aP => exact k33_mkM _ _ _ (⟨t443, t444, t445, t446, t449, t450⟩ : S33) (Kd.R_mono (Kd.R_tight rfl (Kd.R_mono (ok' := fun k_ => ((fun _ => True)) k_ ∧ some k_ ≠ (u3 : Value).ownBlock) (Kd.R_apart' (HO448.out) (Kd.S_typed HO_3.out) (by decide)) (fun k_ hk => ⟨trivial, hk.2⟩))) (fun _ h_ => Or.inl h_)) (Kd.R_mono (Kd.R_tight rfl (Kd.R_mono (ok' := fun k_ => ((fun _ => True)) k_ ∧ some k_ ≠ (u3 : Value).ownBlock) (Kd.R_apart' (HO452.out) (Kd.S_typed HO_3.out) (by decide)) (fun k_ hk => ⟨trivial, hk.2⟩))) (fun _ h_ => Or.inr (h_)))); (case aB => exact zb); (case aF => exact (fun _ _ => trivial)); (case aO => exact (tSm HO_3.out)); (case aS => exact (below_size zb)); (case aL => have := LMc9.out; omega); intro v454 w13 ho hb hg hat; rw [← Ny453.out] at ho; replace BK437 := Aside0.mk (blk_grown (tH BK437.out) hg (Kd.S_ne HO_3.out BK437.out (by decide))); replace BK438 := Aside0.mk (blk_grown (tH BK438.out) hg (Kd.S_ne HO_3.out BK438.out (by decide))); replace HB := Aside0.mk (hb); have HO455 := Aside0.mk (ho); clear HO_3 HO448 HO452; clear ho hb hg hat))
      go_roundg k1
      case measure => have := HK1.out; omega
      case rel => exact ⟨(y453), (wrap64 (x4_1 + 1)), tr, H', ⟨by have := HK1.out; omega⟩, ⟨tS HO455.out⟩, ⟨tH BK437.out⟩, ⟨tH BK438.out⟩, ⟨zb⟩⟩
     ·rw [if_neg c9] at H
      exact absurd H (by simp)
    ·rw [if_neg c7] at H
     exact absurd H (by simp)
   ·rw [if_neg c6] at H
    have c6b0 : decide (x4_1 < (l0_5.length : Int)) = false := decide_eq_false c6
    clear c6
    simp only [Option.some.injEq, Prod.mk.injEq] at H
    obtain ⟨rfl, rfl, rfl, rfl, rfl, rfl⟩ := H
    have hnb16 := NB437_438.out
    have hnc16 := NB438_437.out
    obtain ⟨hcz17_0, hcz17_1, hcz17_2, hcz17_3, hcz17_4, hcz17_5, hfz17_0, hfz17_1, hfz17_2, hfz17_3, hfz17_4, hfz17_5⟩ := cells6 BK437.out
    obtain ⟨Ao18, co18, eo18⟩ := Kd.S_slice HO_3.out
    subst eo18
    obtain ⟨hcz19_0, hcz19_1, hcz19_2, hcz19_3, hcz19_4, hcz19_5, hfz19_0, hfz19_1, hfz19_2, hfz19_3, hfz19_4, hfz19_5⟩ := cells6 BK438.out
    go_wp2
    refine bodyPost_ret (results_cell_row rfl _ _ gb438 47 #[.bool a0_0, .bool a0_1, .int .i64 a0_2, .int .i64 a0_3, .int .i64 a0_4, .slice Ao18 x3_1.length co18] (0, 0) _ rfl (tP BK438.out) Tryd.underlying47 rfl (by kernel_rfl)) rfl ?_
    exact ⟨_, by first | rfl | (simp [errW_none, errW_some] <;> rfl) | (simp [*, errW_none, errW_some] <;> rfl), tSm (Kd.S_types (Kd.S_types HO_3.out BK437.out (by decide)) BK438.out (by decide)), zb⟩

def spec_l31Free.l0 : Nat → List (S33) → Int → Bool → Bool → Int → Int → Int → List (S33) → Option (Bool × Bool × Int × Int × Int × (List (S33)))
 | 0, _, _, _, _, _, _, _, _ => none
 | k + 1, x1, x6, x461000, x461001, x461002, x461003, x461004, x461005 => if x6 < (x1.length : Int) then (if 0 ≤ x6 then ((spec_l12Copy.f ((rd_T33 x1 x6).f0) ((rd_T33 x1 x6).f1) ((rd_T33 x1 x6).f2) ((rd_T33 x1 x6).f3) ((rd_T33 x1 x6).f4) ((rd_T33 x1 x6).f5)).bind fun bt462 => (if x461005.length < 1759218604441 then (spec_l31Free.l0 k x1 (wrap64 (x6 + 1)) x461000 x461001 x461002 x461003 x461004 (x461005 ++ [(⟨bt462.1, bt462.2.1, bt462.2.2.1, bt462.2.2.2.1, bt462.2.2.2.2.1, bt462.2.2.2.2.2⟩ : S33)])) else (none))) else (none)) else (some (x461000, x461001, x461002, x461003, x461004, x461005))
def spec_l31Free.f (k : Nat) (a0 : Bool) (l1 : List (S33)) : Option (Bool × Bool × Int × Int × Int × (List (S33))) := spec_l31Free.l0 k l1 0 a0 false 255 0 0 (([] : List (S33)))
def spec_l31Free.T5 : Bool × List (List Nat × List Nat) := (true, [([], []), ([0], [0]), ([], []), ([], []), ([2, 3], [2, 3]), ([4], [4]), ([5], [5]), ([6], [6]), ([1, 7, 6], [1, 7]), ([0, 1, 2, 3, 4, 5, 6, 7, 8], []), ([9, 8, 8, 0, 1, 2, 3, 4, 5, 6, 7, 8], [8, 9])])
def spec_l31Free.B5 : List Nat := [0, 1, 0, 0, 12, 28, 60, 124, 255, 511, 1023]
theorem spec_l31Free.tab5 : rtab .any (opsOf Tryd.f63 5) = spec_l31Free.T5 := by kernel_rfl
theorem spec_l31Free.bits5 : waitsOk spec_l31Free.T5.2 spec_l31Free.B5 = true := by kernel_rfl
set_option maxHeartbeats 8000000 in
set_option maxRecDepth 100000 in
theorem spec_l31Free.calls (k : Nat) (a0 : Bool) (A1 : Option Addr) (c1 : Nat) (l1 : List (S33)) (r1 : Bool) (r2 : Bool) (r3 : Int) (r4 : Int) (r5 : Int) (r6 : List (S33)) (w : World) (hr1 : Kd.C k33 w A1 l1.length l1) (hc1 : l1.length ≤ c1) (h : spec_l31Free.f k a0 l1 = some (r1, r2, r3, r4, r5, r6)) :
  Calls Tryd.prog 63 #[.bool a0, .slice A1 l1.length c1] w fun e w' => ∃ v5_ : Value, e = .returned (.agg #[.bool r1, .bool r2, .int .i64 r3, .int .i64 r4, .int .i64 r5, v5_]) ∧ Kd.S k33 33 w' w.heap.size (fun _ => True) v5_ r6 ∧ Below w.heap.size w w' := by
 have hu47 := Tryd.underlying47
 have hu33 := Tryd.underlying33
 have HR1 := Aside0.mk hr1
 have HC1 := Aside0.mk hc1
 clear hr1 hc1
 have HB := Aside0.mk (Below.refl w.heap.size w)
 have H : (spec_l31Free.l0 k l1 0 a0 false 255 0 0 (([] : List (S33)))) = some (r1, r2, r3, r4, r5, r6) := h
 clear h
 obtain ⟨y457, hy457⟩ : ∃ y_ : List (S33), y_ = (([] : List (S33))) := ⟨_, rfl⟩
 replace H : (spec_l31Free.l0 k l1 0 a0 false 255 0 0 y457) = some (r1, r2, r3, r4, r5, r6) := by first | (rw [hy457]; with_reducible exact H) | (have H2_ := (Option.bind_some _ _).symm.trans H; rw [hy457]; with_reducible exact H2_) | (have H2_ := (Option.bind_some _ _).symm.trans H; with_reducible exact H2_) | with_reducible exact H | (rw [hy457]; exact H) | exact H
 have Ny457 := Aside0.mk hy457
 clear hy457
 have H' := Aside0.mk H
 clear H
 go_enter Tryd.func63, Tryd.ntmps63
 go_wp2_with (first | ((with_reducible refine gate_dst (N := 4) rfl ?_); refine box_event ?hg (N := 4) ?hd (cs := #[.bool false, .bool false, .int .i64 0, .int .i64 0, .int .i64 0, .slice none 0 0]) (t := 47) ?hr ?_; (case hd => rfl); (case hg => rfl); (case hr => first | (go_simp; done) | (go_simp; rfl)); intro gb456 hg w3 hbox hb; have BK456 := Aside0.mk (hbox); have GW456 := tge HB hg; have GE456 := tge HB hg; replace HB := tBs HB hb; clear hb hbox hg) | ((with_reducible refine gate_dst (N := 8) rfl ?_); refine Kd.S_lit k33 _ 33 ?hg (N := 8) ?hd (xs := ([] : List (S33))) (inner := []) (ok := fun _ => True) (okp := fun _ => True) ?hr ?hp (fun _ hk => hk) trivial (Below.refl _ _) (Nat.le_refl _) (by simp) ?_; (case hd => rfl); (case hg => rfl); (case hr => first | (go_simp; done) | (go_simp; rfl)); (case hp => exact (Reps.none _ _)); intro v458 w4 ho5 hb hg_ hnew_; clear hg_ hnew_; (first | rw [← Ny457.out] at ho5 | (simp only [Int.reduceToNat] at ho5; rw [← Ny457.out] at ho5)); have HO459 := tSl ho5 HB; replace BK456 := tBb BK456 hb; replace HB := tBs HB hb; clear hb ho5; obtain ⟨Ao6, co6, eo6⟩ := Kd.S_slice HO459.out; subst eo6) | ((with_reducible refine gate_dst (N := 5) rfl ?_); refine box_event ?hg (N := 5) ?hd (cs := #[.bool false, .bool false, .int .i64 0, .int .i64 0, .int .i64 0, .slice none 0 0]) (t := 47) ?hr ?_; (case hd => rfl); (case hg => rfl); (case hr => first | (go_simp; done) | (go_simp; rfl)); intro gb460 hg w7 hbox hb; replace HO459 := tSb HO459 hb; have BK460 := Aside0.mk (hbox); have GW460 := tge HB hg; have GE460 := tge HB hg; replace HB := tBs HB hb; have NB456_460 := tlt BK456 hg; have NB460_456 := tgt BK456 hg; replace BK456 := tBb BK456 hb; clear hb hbox hg; have hnb8 := NB460_456.out; have hnc8 := NB456_460.out; obtain ⟨hcz9_0, hcz9_1, hcz9_2, hcz9_3, hcz9_4, hcz9_5, hfz9_0, hfz9_1, hfz9_2, hfz9_3, hfz9_4, hfz9_5⟩ := cells6 BK460.out))
 go_loopg [6] k (fun kq v6 w' => ∃ (x6_1 : Int) (x461005_1 : List (S33)) (u461005 : Value), v6 = .int .i64 x6_1 ∧ Aside0 (spec_l31Free.l0 kq l1 x6_1 a0 false 255 0 0 x461005_1 = some (r1, r2, r3, r4, r5, r6)) ∧ Aside0 (kq ≤ k) ∧ Aside0 (Kd.S k33 33 w' w.heap.size (fun _ => True) u461005 x461005_1) ∧ Aside0 (w'.heap[gb456]? = some (.cells #[.bool false, .bool false, .int .i64 0, .int .i64 0, .int .i64 0, (.slice none 0 0)] 47 (0, 0))) ∧ Aside0 (w'.heap[gb460]? = some (.cells #[.bool a0, .bool false, .int .i64 255, .int .i64 0, .int .i64 0, u461005] 47 (0, 0))) ∧ Aside0 (Below w.heap.size w w'))
 case atStart => exact ⟨(0), (y457), (.slice Ao6 y457.length co6), tr, H', ⟨Nat.le_refl _⟩, ⟨tSm (Kd.S_types HO459.out BK460.out (by decide))⟩, ⟨tH BK456.out⟩, ⟨tP BK460.out⟩, ⟨zb⟩⟩
 case round =>
  clear H'
  try clear c1; try clear hcz9_0; try clear hcz9_1; try clear hcz9_2; try clear hcz9_3; try clear hcz9_4; try clear hcz9_5; try clear hfz9_0; try clear hfz9_1; try clear hfz9_2; try clear hfz9_3; try clear hfz9_4; try clear hfz9_5
  obtain ⟨x6_1, x461005_1, u461005, rfl, HA, HK1, HO_461005, BK456, BK460, HB⟩ := hrel
  cases gk with
  | zero => exact absurd HA.out (by simp [spec_l31Free.l0])
  | succ k1 =>
   have H := HA.out
   clear HA
   simp only [spec_l31Free.l0] at H
   by_cases c10 : x6_1 < (l1.length : Int)
   ·rw [if_pos c10] at H
    have c10b0 : decide (x6_1 < (l1.length : Int)) = true := decide_eq_true c10
    clear c10
    by_cases c11 : 0 ≤ x6_1
    ·rw [if_pos c11] at H
     have c11b0 : decide (0 ≤ x6_1) = true := decide_eq_true c11
     clear c11
     replace H := tbe H
     obtain ⟨⟨t462, t463, t464, t465, t468, t469⟩, A12, H⟩ := H
     dsimp only at H
     by_cases c13 : x461005_1.length < 1759218604441
     ·rw [if_pos c13] at H
      have LMc13 := Aside0.mk c13
      clear c13
      obtain ⟨y472, hy472⟩ : ∃ y_ : List (S33), y_ = (x461005_1 ++ [(⟨t462, t463, t464, t465, t468, t469⟩ : S33)]) := ⟨_, rfl⟩
      replace H : (spec_l31Free.l0 k1 l1 (wrap64 (x6_1 + 1)) a0 false 255 0 0 y472) = some (r1, r2, r3, r4, r5, r6) := by first | (rw [hy472]; with_reducible exact H) | (have H2_ := (Option.bind_some _ _).symm.trans H; rw [hy472]; with_reducible exact H2_) | (have H2_ := (Option.bind_some _ _).symm.trans H; with_reducible exact H2_) | with_reducible exact H | (rw [hy472]; exact H) | exact H
      have Ny472 := Aside0.mk hy472
      clear hy472
      have H' := Aside0.mk H
      clear H
      try go_wp2
      replace HO_461005 := Aside0.mk (Kd.S_drew HO_461005.out)
      replace BK456 := Aside0.mk (blk_drew BK456.out)
      replace BK460 := Aside0.mk (blk_drew BK460.out)
      replace HB := Aside0.mk (below_drew1 HB.out)
      have p461 : 0 ≤ (x6_1 : Int) := td
      have q461 : x6_1 < (l1.length : Int) := td
      obtain ⟨ad461, A461_3, c461_3, A461_5, c461_5, e461, hx461_0, hx461_1, hx461_2, hx461_3, hx461_4, hx461_5, hl461_3, hi461_3, hl461_5, hi461_5⟩ := at_T33 HR1.out x6_1 p461 q461
      have hw461_5 := hx461_5
      have hw461_4 := hx461_4
      have hw461_3 := hx461_3
      have hw461_2 := hx461_2
      have hw461_1 := hx461_1
      have hw461_0 := hx461_0
      cases e461
      replace hx461_0 := tcl HB hx461_0
      replace hx461_1 := tcl HB hx461_1
      replace hx461_2 := tcl HB hx461_2
      replace hx461_3 := tcl HB hx461_3
      replace hx461_4 := tcl HB hx461_4
      replace hx461_5 := tcl HB hx461_5
      have HR461_3 := Aside0.mk hi461_3
      have HC461_3 := Aside0.mk hl461_3
      clear hi461_3 hl461_3
      have HR461_5 := Aside0.mk hi461_5
      have HC461_5 := Aside0.mk hl461_5
      clear hi461_5 hl461_5
      replace p461 := eq_true p461
      replace q461 := eq_true q461
      refine start_ (n := 11) (S := fun w' => w'.cell? ⟨gb460, 0, none⟩ = some (.bool a0) ∧ w'.cell? ⟨gb460, 1, none⟩ = some (.bool false) ∧ w'.cell? ⟨gb460, 2, none⟩ = some (.int .i64 255) ∧ w'.cell? ⟨gb460, 3, none⟩ = some (.int .i64 0) ∧ w'.cell? ⟨gb460, 4, none⟩ = some (.int .i64 0) ∧ w'.cell? ⟨gb460, 5, none⟩ = some (u461005) ∧ w'.cell? (ad461.add ((x6_1).toNat * 6)) = some (.int .i64 ((rd_T33 l1 x6_1).f0)) ∧ w'.cell? ⟨(ad461.add ((x6_1).toNat * 6)).block, (ad461.add ((x6_1).toNat * 6)).off + 1, none⟩ = some (.int .i64 ((rd_T33 l1 x6_1).f1)) ∧ w'.cell? ⟨(ad461.add ((x6_1).toNat * 6)).block, (ad461.add ((x6_1).toNat * 6)).off + 2, none⟩ = some (.bool ((rd_T33 l1 x6_1).f2)) ∧ w'.cell? ⟨(ad461.add ((x6_1).toNat * 6)).block, (ad461.add ((x6_1).toNat * 6)).off + 3, none⟩ = some (.slice A461_3 ((rd_T33 l1 x6_1).f3).length c461_3) ∧ w'.cell? ⟨(ad461.add ((x6_1).toNat * 6)).block, (ad461.add ((x6_1).toNat * 6)).off + 4, none⟩ = some (.bool ((rd_T33 l1 x6_1).f4)) ∧ w'.cell? ⟨(ad461.add ((x6_1).toNat * 6)).block, (ad461.add ((x6_1).toNat * 6)).off + 5, none⟩ = some (.slice A461_5 ((rd_T33 l1 x6_1).f5).length c461_5)) (ds := [10]) #[false, false, false, false, false, false, false, false, false, false, false] (by kernel_rfl) rfl rfl ⟨(blk_cell BK460.out 0).trans rfl, (blk_cell BK460.out 1).trans rfl, (blk_cell BK460.out 2).trans rfl, (blk_cell BK460.out 3).trans rfl, (blk_cell BK460.out 4).trans rfl, (blk_cell BK460.out 5).trans rfl, (tcl HB hw461_0), (tcl HB hw461_1), (tcl HB hw461_2), (tcl HB hw461_3), (tcl HB hw461_4), (tcl HB hw461_5)⟩ (fun hHeld => ?_); refine with_tabW spec_l31Free.tab5 spec_l31Free.bits5 (fun HT_ HW_ => ?_)
      generalize wr.drew = w14 at HO_461005 BK456 BK460 HB HR461_3 HR461_5 hx461_0 hx461_1 hx461_2 hx461_3 hx461_4 hx461_5 hHeld ⊢
      refine pure_ (i := 0) (N := some 16) (v := ?_) (a' := ?_) #[true, false, false, false, false, false, false, false, false, false, false] rfl rfl (any_of HT_.out (by kernel_rfl)) (fun _ _ _ h => h) (Or.inl ⟨by rfl, ?_⟩) ?_ ?_
      rotate_left
      ·intro w'
       go_simp
       with_reducible rfl
      rotate_left
      ·simp only [Act.put, List.setIfInBounds_toArray, List.set_cons_zero, List.set_cons_succ, i64_w, i32_w]
       rfl
      refine pure_ (i := 2) (N := some 18) (v := ?_) (a' := ?_) #[true, false, true, false, false, false, false, false, false, false, false] rfl rfl (any_of HT_.out (by kernel_rfl)) (fun _ _ _ h => h) (Or.inl ⟨by rfl, ?_⟩) ?_ ?_
      rotate_left
      ·intro w'
       go_simp
       with_reducible rfl
      rotate_left
      ·simp only [Act.put, List.setIfInBounds_toArray, List.set_cons_zero, List.set_cons_succ, i64_w, i32_w]
       rfl
      refine pure_ (i := 3) (N := some 19) (v := ?_) (a' := ?_) #[true, false, true, true, false, false, false, false, false, false, false] rfl rfl (any_of HT_.out (by kernel_rfl)) (fun _ _ _ h => h) (Or.inl ⟨by rfl, ?_⟩) ?_ ?_
      rotate_left
      ·intro w'
       go_simp
       with_reducible rfl
      rotate_left
      ·simp only [Act.put, List.setIfInBounds_toArray, List.set_cons_zero, List.set_cons_succ, i64_w, i32_w]
       rfl
      refine pure_ (i := 4) (N := some 20) (v := ?_) (a' := ?_) #[true, false, true, true, true, false, false, false, false, false, false] rfl rfl (any_of HT_.out (by kernel_rfl)) (fun _ _ _ h => h) (Or.inl ⟨by rfl, ?_⟩) ?_ ?_
      rotate_left
      ·intro w'
       go_simp
       with_reducible rfl
      rotate_left
      ·simp only [Act.put, List.setIfInBounds_toArray, List.set_cons_zero, List.set_cons_succ, i64_w, i32_w]
       rfl
      refine take_ (i := 1) (N := some 17) (v := ?_) (a' := ?_) #[true, true, true, true, true, false, false, false, false, false, false] rfl rfl (take_ofW HT_.out HW_.out (by kernel_rfl)) (fun _ _ _ h => h) (Or.inl ⟨by rfl, ?_⟩) hHeld ?_ ?_
      rotate_left
      ·rintro w' ⟨s0, s1, s2, s3, s4, s5, s6, s7, s8, s9, s10, s11⟩
       go_simp
       with_reducible rfl
      rotate_left
      ·simp only [Act.put, List.setIfInBounds_toArray, List.set_cons_zero, List.set_cons_succ, i64_w, i32_w]
       rfl
      refine take_ (i := 5) (N := some 21) (v := ?_) (a' := ?_) #[true, true, true, true, true, true, false, false, false, false, false] rfl rfl (take_ofW HT_.out HW_.out (by kernel_rfl)) (fun _ _ _ h => h) (Or.inl ⟨by rfl, ?_⟩) hHeld ?_ ?_
      rotate_left
      ·rintro w' ⟨s0, s1, s2, s3, s4, s5, s6, s7, s8, s9, s10, s11⟩
       go_simp
       with_reducible rfl
      rotate_left
      ·simp only [Act.put, List.setIfInBounds_toArray, List.set_cons_zero, List.set_cons_succ, i64_w, i32_w]
       rfl
      refine one_ (i := 6) (N := some 22) #[true, true, true, true, true, true, true, false, false, false, false] rfl rfl (one_of HT_.out (by kernel_rfl)) (by decide) (fun K hK => ?_)
      refine goes_ Tryd.func62 (by kernel_rfl) rfl #[.agg #[.int .i64 ((rd_T33 l1 x6_1).f0), .int .i64 ((rd_T33 l1 x6_1).f1), .bool ((rd_T33 l1 x6_1).f2), .slice A461_3 ((rd_T33 l1 x6_1).f3).length c461_3, .bool ((rd_T33 l1 x6_1).f4), .slice A461_5 ((rd_T33 l1 x6_1).f5).length c461_5]] (by rfl) rfl rfl tq ?_
      with_reducible refine (spec_l12Copy.calls ((rd_T33 l1 x6_1).f0) ((rd_T33 l1 x6_1).f1) ((rd_T33 l1 x6_1).f2) _ _ ((rd_T33 l1 x6_1).f3) ((rd_T33 l1 x6_1).f4) _ _ ((rd_T33 l1 x6_1).f5) t462 t463 t464 t465 t468 t469 _ ?side1 ?side2 ?side3 ?side4 A12.out).mono ?_
      (case side1 => exact tC (Kd.C_below HR461_3.out HB.out))
      (case side2 => exact HC461_3.out)
      (case side3 => exact tC (Kd.C_below HR461_5.out HB.out))
      (case side4 => exact HC461_5.out)
      rintro e w15 ⟨v466, v470, rfl, ho0, ho1, hb⟩
      refine ⟨_, rfl, ?_⟩
      replace HO_461005 := Aside0.mk (Kd.S_mono (Kd.S_told (Kd.S_told (Kd.S_old (tS HO_461005.out) hb) (Kd.R_base ho0)) (Kd.R_base ho1)) (fun _ h_ => h_.1))
      have HO467 := tRl ho0 HB
      have HO471 := tRl ho1 HB
      replace BK456 := tBb BK456 hb
      replace BK460 := tBb BK460 hb
      replace HB := tBs HB hb
      (try clear hb)
      (try clear hb2)
      (try clear hk)
      (try clear hi)
      (try clear ho0)
      (try clear ho1)
      obtain ⟨Ao17, co17, eo17⟩ := Kd.R_slice HO467.out
      (first | subst eo17 | (injection eo17 with f1_ f2_ f3_; have f4_ := f1_.symm; have f5_ := f3_.symm; clear f1_ f2_ f3_; subst f4_; subst f5_))
      obtain ⟨Ao18, co18, eo18⟩ := Kd.R_slice HO471.out
      (first | subst eo18 | (injection eo18 with f1_ f2_ f3_; have f4_ := f1_.symm; have f5_ := f3_.symm; clear f1_ f2_ f3_; subst f4_; subst f5_))
      refine hK.out _ _ ⟨(blk_cell BK460.out 0).trans rfl, (blk_cell BK460.out 1).trans rfl, (blk_cell BK460.out 2).trans rfl, (blk_cell BK460.out 3).trans rfl, (blk_cell BK460.out 4).trans rfl, (blk_cell BK460.out 5).trans rfl, (tcl HB hw461_0), (tcl HB hw461_1), (tcl HB hw461_2), (tcl HB hw461_3), (tcl HB hw461_4), (tcl HB hw461_5)⟩ (fun hHeld => ?_)
      clear hK K
      refine norm_ (a' := ?_) ?_ ?_
      rotate_left
      ·show Act.put _ (some 22) _ = _
       simp only [Act.put, List.setIfInBounds_toArray, List.set_cons_zero, List.set_cons_succ, i64_w, i32_w]
       rfl
      refine one_ (i := 7) (N := some 23) #[true, true, true, true, true, true, true, true, false, false, false] rfl rfl (one_of HT_.out (by kernel_rfl)) (by decide) (fun K hK => ?_)
      refine value_ (w1 := ?_) (v := ?_) (by rfl) rfl ?_ ?_
      rotate_left 2
      ·go_simp
       constructor
       ·rfl
       ·rfl
      refine hK.out _ _ ⟨(blk_cell (blk_alloc BK460.out _) 0).trans rfl, (blk_cell (blk_alloc BK460.out _) 1).trans rfl, (blk_cell (blk_alloc BK460.out _) 2).trans rfl, (blk_cell (blk_alloc BK460.out _) 3).trans rfl, (blk_cell (blk_alloc BK460.out _) 4).trans rfl, (blk_cell (blk_alloc BK460.out _) 5).trans rfl, (World.cell?_alloc_lt _ _ _ (World.block_lt_of_cell? _ _ ((tcl HB hw461_0)))).trans ((tcl HB hw461_0)), (World.cell?_alloc_lt _ _ _ (World.block_lt_of_cell? _ _ ((tcl HB hw461_1)))).trans ((tcl HB hw461_1)), (World.cell?_alloc_lt _ _ _ (World.block_lt_of_cell? _ _ ((tcl HB hw461_2)))).trans ((tcl HB hw461_2)), (World.cell?_alloc_lt _ _ _ (World.block_lt_of_cell? _ _ ((tcl HB hw461_3)))).trans ((tcl HB hw461_3)), (World.cell?_alloc_lt _ _ _ (World.block_lt_of_cell? _ _ ((tcl HB hw461_4)))).trans ((tcl HB hw461_4)), (World.cell?_alloc_lt _ _ _ (World.block_lt_of_cell? _ _ ((tcl HB hw461_5)))).trans ((tcl HB hw461_5))⟩ (fun hHeld => ?_)
      clear hK K
      refine norm_ (a' := ?_) ?_ ?_
      rotate_left
      ·show Act.put _ (some 23) _ = _
       simp only [Act.put, List.setIfInBounds_toArray, List.set_cons_zero, List.set_cons_succ, i64_w, i32_w]
       rfl
      refine one_ (i := 8) (N := some 24) #[true, true, true, true, true, true, true, true, true, false, false] rfl rfl (one_of HT_.out (by kernel_rfl)) (by decide) (fun K hK => ?_)
      refine Kd.S_append_step k33 (w0 := w) w.heap.size (by rfl) (.tmp 17) (.tmp 23) 29 33 (.agg #[(.int .i64 0), (.int .i64 0), (.bool false), (.slice none 0 0), (.bool false), (.slice none 0 0)]) 80 rfl Tryd.underlying29 info33 rfl (by decide) (by omega) u461005 x461005_1 (⟨t462, t463, t464, t465, t468, t469⟩ : S33) [.int .i64 t462, .int .i64 t463, .bool t464, .slice Ao17 t465.length co17, .bool t468, .slice Ao18 t469.length co18] (fun _ => True) (fun k_ => some k_ = (.slice Ao17 t465.length co17 : Value).ownBlock ∨ some k_ = (.slice Ao18 t469.length co18 : Value).ownBlock) rfl rfl ?aP (fun k_ hk_ => hk_.elim (fun h_ => ((Kd.R_mono (ok' := fun k_ => ((fun _ => True)) k_ ∧ some k_ ≠ (u461005 : Value).ownBlock) (Kd.R_apart' (HO467.out) (Kd.S_typed HO_461005.out) (by decide)) (fun k_ hk => ⟨trivial, hk.2⟩))).1 k_ h_.symm) (fun h_ => ((Kd.R_mono (ok' := fun k_ => ((fun _ => True)) k_ ∧ some k_ ≠ (u461005 : Value).ownBlock) (Kd.R_apart' (HO471.out) (Kd.S_typed HO_461005.out) (by decide)) (fun k_ hk => ⟨trivial, hk.2⟩))).1 k_ h_.symm)) ?aF ?aO ?aB ?aS ?aL ?_
      (case aP => exact k33_mkM _ _ _ (⟨t462, t463, t464, t465, t468, t469⟩ : S33) (Kd.R_mono (Kd.R_tight rfl (Kd.R_mono (ok' := fun k_ => ((fun _ => True)) k_ ∧ some k_ ≠ (u461005 : Value).ownBlock) (Kd.R_apart' (HO467.out) (Kd.S_typed HO_461005.out) (by decide)) (fun k_ hk => ⟨trivial, hk.2⟩))) (fun _ h_ => Or.inl h_)) (Kd.R_mono (Kd.R_tight rfl (Kd.R_mono (ok' := fun k_ => ((fun _ => True)) k_ ∧ some k_ ≠ (u461005 : Value).ownBlock) (Kd.R_apart' (HO471.out) (Kd.S_typed HO_461005.out) (by decide)) (fun k_ hk => ⟨trivial, hk.2⟩))) (fun _ h_ => Or.inr (h_))))
      (case aB => exact zb)
      (case aF => exact (fun _ _ => trivial))
      (case aO => exact (tSm HO_461005.out))
      (case aS => exact (below_size zb))
      (case aL => have := LMc13.out; omega)
      intro v473 w16 ho hb hg hat
      rw [← Ny472.out] at ho
      replace BK456 := Aside0.mk (blk_grown (tH BK456.out) hg (Kd.S_ne HO_461005.out BK456.out (by decide)))
      replace BK460 := Aside0.mk (blk_grown (tH BK460.out) hg (Kd.S_ne HO_461005.out BK460.out (by decide)))
      replace HB := Aside0.mk (hb)
      have HO474 := Aside0.mk (ho)
      clear HO_461005 HO467 HO471
      clear ho hb hg hat
      obtain ⟨Ao19, co19, eo19⟩ := Kd.S_slice HO474.out
      (first | subst eo19 | (injection eo19 with f1_ f2_ f3_; have f4_ := f1_.symm; have f5_ := f3_.symm; clear f1_ f2_ f3_; subst f4_; subst f5_))
      refine hK.out _ _ ⟨(blk_cell BK460.out 0).trans rfl, (blk_cell BK460.out 1).trans rfl, (blk_cell BK460.out 2).trans rfl, (blk_cell BK460.out 3).trans rfl, (blk_cell BK460.out 4).trans rfl, (blk_cell BK460.out 5).trans rfl, (tcl HB hw461_0), (tcl HB hw461_1), (tcl HB hw461_2), (tcl HB hw461_3), (tcl HB hw461_4), (tcl HB hw461_5)⟩ (fun hHeld => ?_)
      clear hK K
      refine norm_ (a' := ?_) ?_ ?_
      rotate_left
      ·show Act.put _ (some 24) _ = _
       simp only [Act.put, List.setIfInBounds_toArray, List.set_cons_zero, List.set_cons_succ, i64_w, i32_w]
       rfl
      refine pure_ (i := 9) (N := some 25) (v := ?_) (a' := ?_) #[true, true, true, true, true, true, true, true, true, true, false] rfl rfl (any_of HT_.out (by kernel_rfl)) (fun _ _ _ h => h) (Or.inl ⟨by rfl, ?_⟩) ?_ ?_
      rotate_left
      ·intro w'
       go_simp
       with_reducible rfl
      rotate_left
      ·simp only [Act.put, List.setIfInBounds_toArray, List.set_cons_zero, List.set_cons_succ, i64_w, i32_w]
       rfl
      refine last_ (i := 10) (N := none) #[true, true, true, true, true, true, true, true, true, true, true] rfl rfl (one_of HT_.out (by kernel_rfl)) (by decide) (fun K hK => ?_)
      have hs20 : w16.cell? ⟨gb460, 5, none⟩ = some (u461005) := (blk_cell BK460.out 5).trans rfl
      have hfs20 := blk_frozen BK460.out 5
      have hns20_0 := NB456_460.out
      have hms20_0 := NB460_456.out
      refine skip_ (w1 := ?_) (by rfl) rfl ?_ ?_
      rotate_left
      ·go_simp
       rfl
      refine hK.out _ _ ?_
      clear hK K
      refine done_ (done_of HT_.out (by kernel_rfl)) ?_
      try go_wp2
      go_roundg k1
      case measure => have := HK1.out; omega
      case rel => exact ⟨(wrap64 (x6_1 + 1)), (y472), (.slice Ao19 y472.length co19), tr, H', ⟨by have := HK1.out; omega⟩, ⟨tSm (Kd.S_types HO474.out BK460.out (by decide))⟩, ⟨tH BK456.out⟩, ⟨tP BK460.out⟩, ⟨zb⟩⟩
     ·rw [if_neg c13] at H
      exact absurd H (by simp)
    ·rw [if_neg c11] at H
     exact absurd H (by simp)
   ·rw [if_neg c10] at H
    have c10b0 : decide (x6_1 < (l1.length : Int)) = false := decide_eq_false c10
    clear c10
    simp only [Option.some.injEq, Prod.mk.injEq] at H
    obtain ⟨rfl, rfl, rfl, rfl, rfl, rfl⟩ := H
    have hnb21 := NB460_456.out
    have hnc21 := NB456_460.out
    obtain ⟨hcz22_0, hcz22_1, hcz22_2, hcz22_3, hcz22_4, hcz22_5, hfz22_0, hfz22_1, hfz22_2, hfz22_3, hfz22_4, hfz22_5⟩ := cells6 BK460.out
    obtain ⟨hcz23_0, hcz23_1, hcz23_2, hcz23_3, hcz23_4, hcz23_5, hfz23_0, hfz23_1, hfz23_2, hfz23_3, hfz23_4, hfz23_5⟩ := cells6 BK456.out
    obtain ⟨Ao24, co24, eo24⟩ := Kd.S_slice HO_461005.out
    subst eo24
    go_wp2
    refine bodyPost_ret (results_cell_row rfl _ _ gb456 47 #[.bool a0, .bool false, .int .i64 255, .int .i64 0, .int .i64 0, .slice Ao24 x461005_1.length co24] (0, 0) _ rfl (tP BK456.out) Tryd.underlying47 rfl (by kernel_rfl)) rfl ?_
    exact ⟨_, by first | rfl | (simp [errW_none, errW_some] <;> rfl) | (simp [*, errW_none, errW_some] <;> rfl), tSm (Kd.S_types HO_461005.out BK456.out (by decide)), zb⟩

end Go.Proofs.YtbbboachakkgiaaDoor.G

