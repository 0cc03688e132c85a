/- A text of seat YtahenocndacjeaaDoor: what the law FnJoinCut needs of this repo's texts (by pack.py). Not trusted: Lean checks it. -/
import Derived.Test.YtahenocndacjeaaDoorKFnJoinCut8
namespace Go.Proofs.YtahenocndacjeaaDoor.G
open Go.RowKit Go.Proofs.YtahenocndacjeaaDoorW.PrintWords Go.Proofs.YtahenocndacjeaaDoorW.PrintLast Go.Proofs.YtahenocndacjeaaDoorW.PrintMore
attribute [local go_sem] max2_int min2_int max_two min_two max_three min_three max_four min_four   -- for this text's walks alone
set_option linter.unusedVariables false
set_option linter.unusedSimpArgs false

def impl_BatchJoin.f (k : Nat) (a0_0 : Bool) (a0_1 : Bool) (a0_2 : Int) (a0_3 : Int) (a0_4 : Int) (l0_5 : List (S41)) (a1_0 : Bool) (a1_1 : Bool) (a1_2 : Int) (a1_3 : Int) (a1_4 : Int) (l1_5 : List (S41)) : Option (Bool × Bool × Int × Int × Int × (List (S41)) × Bool) := (impl_Batch_join.f k a0_0 a0_1 a0_2 a0_3 a0_4 l0_5 a1_0 a1_1 a1_2 a1_3 a1_4 l1_5).bind fun bt515 => ((errors_Is.f bt515.2.2.2.2.2.2 (some 2)).bind fun t525 => (if t525 = true then (some (false, false, 0, 0, 0, ([] : List (S41)), false)) else (some (bt515.1, bt515.2.1, bt515.2.2.1, bt515.2.2.2.1, bt515.2.2.2.2.1, bt515.2.2.2.2.2.1, true))))
set_option maxHeartbeats 40000000 in
set_option maxRecDepth 100000 in
theorem impl_BatchJoin.calls [ErrA] (k : Nat) (a0_0 : Bool) (a0_1 : Bool) (a0_2 : Int) (a0_3 : Int) (a0_4 : Int) (A0_5 : Option Addr) (c0_5 : Nat) (l0_5 : List (S41)) (a1_0 : Bool) (a1_1 : Bool) (a1_2 : Int) (a1_3 : Int) (a1_4 : Int) (A1_5 : Option Addr) (c1_5 : Nat) (l1_5 : List (S41)) (r1 : Bool) (r2 : Bool) (r3 : Int) (r4 : Int) (r5 : Int) (r6 : List (S41)) (r7 : Bool) (w : World) (hE : ErrOk [1] w) (hr0_5 : Kd.C k41 w A0_5 l0_5.length l0_5) (hc0_5 : l0_5.length ≤ c0_5) (hr1_5 : Kd.C k41 w A1_5 l1_5.length l1_5) (hc1_5 : l1_5.length ≤ c1_5) (h : impl_BatchJoin.f k a0_0 a0_1 a0_2 a0_3 a0_4 l0_5 a1_0 a1_1 a1_2 a1_3 a1_4 l1_5 = some (r1, r2, r3, r4, r5, r6, r7)) :
  Calls Tryd.prog 14 #[.agg #[.bool a0_0, .bool a0_1, .int .i64 a0_2, .int .i64 a0_3, .int .i64 a0_4, .slice A0_5 l0_5.length c0_5], .agg #[.bool a1_0, .bool a1_1, .int .i64 a1_2, .int .i64 a1_3, .int .i64 a1_4, .slice A1_5 l1_5.length c1_5]] w fun e w' => ∃ v5_ : Value, e = .returned (.tuple #[.agg #[.bool r1, .bool r2, .int .i64 r3, .int .i64 r4, .int .i64 r5, v5_], .bool r7]) ∧ Kd.N k41 41 w' w.heap.size (fun k_ => (w.heap.size ≤ k_)) v5_ r6 ∧ Below w.heap.size w w' := by
 have HE := Aside0.mk hE
 clear hE
 have hu25 := Tryd.underlying25
 have HR0_5 := Aside0.mk hr0_5
 have HC0_5 := Aside0.mk hc0_5
 clear hr0_5 hc0_5
 have HR1_5 := Aside0.mk hr1_5
 have HC1_5 := Aside0.mk hc1_5
 clear hr1_5 hc1_5
 have HB := Aside0.mk (Below.refl w.heap.size w)
 have H : ((impl_Batch_join.f k a0_0 a0_1 a0_2 a0_3 a0_4 l0_5 a1_0 a1_1 a1_2 a1_3 a1_4 l1_5).bind fun bt515 => ((errors_Is.f bt515.2.2.2.2.2.2 (some 2)).bind fun t525 => (if t525 = true then (some (false, false, 0, 0, 0, ([] : List (S41)), false)) else (some (bt515.1, bt515.2.1, bt515.2.2.1, bt515.2.2.2.1, bt515.2.2.2.2.1, bt515.2.2.2.2.2.1, true))))) = some (r1, r2, r3, r4, r5, r6, r7) := h
 clear h
 replace H := tbe H
 obtain ⟨⟨t515, t516, t517, t518, t519, t520, t523⟩, A3, H⟩ := H
 dsimp only at H
 replace H := tbe H
 obtain ⟨t525, A4, H⟩ := H
 by_cases c5 : t525 = true
 ·subst c5
  rw [if_pos rfl] at H
  simp only [Option.some.injEq, Prod.mk.injEq] at H
  obtain ⟨rfl, rfl, rfl, rfl, rfl, rfl, rfl⟩ := H
  go_enter Tryd.func14, Tryd.ntmps14
  go_wp2_with (first | ((with_reducible refine gate_dst (N := 15) rfl ?_); refine glob_ rfl (v := .iface 106 (.pointer (some (ErrA.errA 2)))) (g := 1) ?hr ?hc ?_; (case hc => exact ErrOk.g1 (ErrOk.below HE.out zb) (by decide)); (case hr => intro W_ hc_; go_simp)) | ((with_reducible refine gate_dst (N := 2) rfl ?_); refine box_event ?hg (N := 2) ?hd (cs := #[.bool a0_0, .bool a0_1, .int .i64 a0_2, .int .i64 a0_3, .int .i64 a0_4, .slice A0_5 l0_5.length c0_5]) (t := 25) ?hr ?_; (case hd => rfl); (case hg => rfl); (case hr => first | (go_simp; done) | (go_simp; rfl)); intro gb512 hg w6 hbox hb; have BK512 := Aside0.mk (hbox); have GW512 := tge HB hg; have GE512 := tge HB hg; replace HB := tBs HB hb; clear hb hbox hg) | ((with_reducible refine gate_dst (N := 3) rfl ?_); refine box_event ?hg (N := 3) ?hd (cs := #[.bool a1_0, .bool a1_1, .int .i64 a1_2, .int .i64 a1_3, .int .i64 a1_4, .slice A1_5 l1_5.length c1_5]) (t := 25) ?hr ?_; (case hd => rfl); (case hg => rfl); (case hr => first | (go_simp; done) | (go_simp; rfl)); intro gb513 hg w7 hbox hb; have BK513 := Aside0.mk (hbox); have GW513 := tge HB hg; have GE513 := tge HB hg; replace HB := tBs HB hb; have NB512_513 := tlt BK512 hg; have NB513_512 := tgt BK512 hg; replace BK512 := tBb BK512 hb; clear hb hbox hg) | ((with_reducible refine gate_dst (N := 4) rfl ?_); refine box_event ?hg (N := 4) ?hd (cs := #[.bool false, .bool false, .int .i64 0, .int .i64 0, .int .i64 0, .slice none 0 0]) (t := 25) ?hr ?_; (case hd => rfl); (case hg => rfl); (case hr => first | (go_simp; done) | (go_simp; rfl)); intro gb514 hg w8 hbox hb; have BK514 := Aside0.mk (hbox); have GW514 := tge HB hg; have GE514 := tge HB hg; replace HB := tBs HB hb; have NB512_514 := tlt BK512 hg; have NB514_512 := tgt BK512 hg; replace BK512 := tBb BK512 hb; have NB513_514 := tlt BK513 hg; have NB514_513 := tgt BK513 hg; replace BK513 := tBb BK513 hb; clear hb hbox hg; have hnb9 := NB512_513.out; have hnc9 := NB513_512.out; have hnb10 := NB512_514.out; have hnc10 := NB514_512.out; obtain ⟨hcz11_0, hcz11_1, hcz11_2, hcz11_3, hcz11_4, hcz11_5, hfz11_0, hfz11_1, hfz11_2, hfz11_3, hfz11_4, hfz11_5⟩ := cells6 BK512.out; have hnb12 := NB513_514.out; have hnc12 := NB514_513.out; obtain ⟨hcz13_0, hcz13_1, hcz13_2, hcz13_3, hcz13_4, hcz13_5, hfz13_0, hfz13_1, hfz13_2, hfz13_3, hfz13_4, hfz13_5⟩ := cells6 BK513.out) | ((with_reducible refine gate_callee (f := 36) rfl ?_); refine goesL_ (some 11) rfl rfl Tryd.func36 (by kernel_rfl) rfl #[.agg #[.bool a0_0, .bool a0_1, .int .i64 a0_2, .int .i64 a0_3, .int .i64 a0_4, .slice A0_5 l0_5.length c0_5], .agg #[.bool a1_0, .bool a1_1, .int .i64 a1_2, .int .i64 a1_3, .int .i64 a1_4, .slice A1_5 l1_5.length c1_5]] rfl tq ?_; (with_reducible refine (impl_Batch_join.calls (hE := ?sideE) k a0_0 a0_1 a0_2 a0_3 a0_4 _ _ l0_5 a1_0 a1_1 a1_2 a1_3 a1_4 _ _ l1_5 t515 t516 t517 t518 t519 t520 t523 _ ?side1 ?side2 ?side3 ?side4 A3.out).mono ?_); (case sideE => exact ErrOk.below (HE.out.sub (by decide)) zb); (case side1 => exact tC (Kd.C_below HR0_5.out HB.out)); (case side2 => exact HC0_5.out); (case side3 => exact tC (Kd.C_below HR1_5.out HB.out)); (case side4 => exact HC1_5.out); rintro e w14 ⟨v521, rfl, ho0, hb⟩; have u_v521 := tsv Tryd.prog v521 ho0; refine ⟨_, rfl, ?_⟩; have HO522 := Aside0.mk (Kd.N_lower (Kd.N_mono (ok' := fun k_ => (w.heap.size ≤ k_) ∧ k_ ≠ gb512 ∧ k_ ≠ gb513 ∧ k_ ≠ gb514) ho0 (fun k_ hk_ => ⟨(Nat.le_trans (below_size zb) hk_), (tfB BK512 k_ hk_), (tfB BK513 k_ hk_), (tfB BK514 k_ hk_)⟩)) (below_size zb)); replace BK512 := tBb BK512 hb; replace BK513 := tBb BK513 hb; replace BK514 := tBb BK514 hb; replace HB := tBs HB hb; (try clear hb); (try clear hb2); (try clear hk); (try clear hi); (try clear ho0); (try simp only [errW_none, errW_some])) | ((with_reducible refine gate_dst (N := 6) rfl ?_); refine box_event ?hg (N := 6) ?hd (cs := #[.bool false, .bool false, .int .i64 0, .int .i64 0, .int .i64 0, .slice none 0 0]) (t := 25) ?hr ?_; (case hd => rfl); (case hg => rfl); (case hr => first | (go_simp; done) | (go_simp; rfl)); intro gb524 hg w15 hbox hb; replace HO522 := tNB HO522 hg hb; have BK524 := Aside0.mk (hbox); have GW524 := tge HB hg; have GE524 := tge HB hg; replace HB := tBs HB hb; have NB512_524 := tlt BK512 hg; have NB524_512 := tgt BK512 hg; replace BK512 := tBb BK512 hb; have NB513_524 := tlt BK513 hg; have NB524_513 := tgt BK513 hg; replace BK513 := tBb BK513 hb; have NB514_524 := tlt BK514 hg; have NB524_514 := tgt BK514 hg; replace BK514 := tBb BK514 hb; clear hb hbox hg; have hnb16 := NB524_512.out; have hnc16 := NB512_524.out; have hnb17 := NB524_513.out; have hnc17 := NB513_524.out; have hnb18 := NB524_514.out; have hnc18 := NB514_524.out; obtain ⟨hcz19_0, hcz19_1, hcz19_2, hcz19_3, hcz19_4, hcz19_5, hfz19_0, hfz19_1, hfz19_2, hfz19_3, hfz19_4, hfz19_5⟩ := cells6 BK524.out; obtain ⟨Ao20, co20, eo20⟩ := Kd.N_slice HO522.out; subst eo20; have CA4 := fun W => errors_Is.calls t523 (some 2) true W A4.out; try simp only [errW_none, errW_some] at CA4) | (go_at_call 27; (with_reducible refine (CA4 _).mono ?_); rintro e w21 ⟨rfl, hb⟩; replace HO522 := tNb HO522 hb; replace BK512 := tBb BK512 hb; replace BK513 := tBb BK513 hb; replace BK514 := tBb BK514 hb; replace BK524 := tBp (o' := .cells #[.bool t515, .bool t516, .int .i64 t517, .int .i64 t518, .int .i64 t519, .slice Ao20 t520.length co20] 25 (0, 0)) BK524 hb; replace HB := tBs HB hb; (try clear hb); (try clear hb2); (try clear hk); (try clear hi); obtain ⟨hcz22_0, hcz22_1, hcz22_2, hcz22_3, hcz22_4, hcz22_5, hfz22_0, hfz22_1, hfz22_2, hfz22_3, hfz22_4, hfz22_5⟩ := cells6 BK514.out))
  refine bodyPost_ret (results_ct rfl _ _ gb514 25 #[.bool false, .bool false, .int .i64 0, .int .i64 0, .int .i64 0, .slice none 0 0] (0, 0) _ rfl (tP BK514.out) Tryd.underlying25 rfl (by kernel_rfl)) rfl ?_
  exact ⟨_, by first | rfl | (simp [errW_none, errW_some] <;> rfl) | (simp [*, errW_none, errW_some] <;> rfl), by first | exact Kd.S_nil _ _ _ _ _ | exact Kd.N_nil _ _ _ _ _ | exact Kd.V_nil _ _ _ _ _ | exact Kd.Q_nil _ _ _ _ _ | exact Kd.R_nil _ _ _ _ _, zb⟩
 ·replace c5 := Bool.eq_false_iff.mpr c5
  subst c5
  rw [if_neg (show ¬ (false = true) by decide)] at H
  simp only [Option.some.injEq, Prod.mk.injEq] at H
  obtain ⟨rfl, rfl, rfl, rfl, rfl, rfl, rfl⟩ := H
  go_enter Tryd.func14, Tryd.ntmps14
  go_wp2_with (first | ((with_reducible refine gate_dst (N := 15) rfl ?_); refine glob_ rfl (v := .iface 106 (.pointer (some (ErrA.errA 2)))) (g := 1) ?hr ?hc ?_; (case hc => exact ErrOk.g1 (ErrOk.below HE.out zb) (by decide)); (case hr => intro W_ hc_; go_simp)) | ((with_reducible refine gate_dst (N := 2) rfl ?_); refine box_event ?hg (N := 2) ?hd (cs := #[.bool a0_0, .bool a0_1, .int .i64 a0_2, .int .i64 a0_3, .int .i64 a0_4, .slice A0_5 l0_5.length c0_5]) (t := 25) ?hr ?_; (case hd => rfl); (case hg => rfl); (case hr => first | (go_simp; done) | (go_simp; rfl)); intro gb512 hg w23 hbox hb; have BK512 := Aside0.mk (hbox); have GW512 := tge HB hg; have GE512 := tge HB hg; replace HB := tBs HB hb; clear hb hbox hg) | ((with_reducible refine gate_dst (N := 3) rfl ?_); refine box_event ?hg (N := 3) ?hd (cs := #[.bool a1_0, .bool a1_1, .int .i64 a1_2, .int .i64 a1_3, .int .i64 a1_4, .slice A1_5 l1_5.length c1_5]) (t := 25) ?hr ?_; (case hd => rfl); (case hg => rfl); (case hr => first | (go_simp; done) | (go_simp; rfl)); intro gb513 hg w24 hbox hb; have BK513 := Aside0.mk (hbox); have GW513 := tge HB hg; have GE513 := tge HB hg; replace HB := tBs HB hb; have NB512_513 := tlt BK512 hg; have NB513_512 := tgt BK512 hg; replace BK512 := tBb BK512 hb; clear hb hbox hg) | ((with_reducible refine gate_dst (N := 4) rfl ?_); refine box_event ?hg (N := 4) ?hd (cs := #[.bool false, .bool false, .int .i64 0, .int .i64 0, .int .i64 0, .slice none 0 0]) (t := 25) ?hr ?_; (case hd => rfl); (case hg => rfl); (case hr => first | (go_simp; done) | (go_simp; rfl)); intro gb514 hg w25 hbox hb; have BK514 := Aside0.mk (hbox); have GW514 := tge HB hg; have GE514 := tge HB hg; replace HB := tBs HB hb; have NB512_514 := tlt BK512 hg; have NB514_512 := tgt BK512 hg; replace BK512 := tBb BK512 hb; have NB513_514 := tlt BK513 hg; have NB514_513 := tgt BK513 hg; replace BK513 := tBb BK513 hb; clear hb hbox hg; have hnb26 := NB512_513.out; have hnc26 := NB513_512.out; have hnb27 := NB512_514.out; have hnc27 := NB514_512.out; obtain ⟨hcz28_0, hcz28_1, hcz28_2, hcz28_3, hcz28_4, hcz28_5, hfz28_0, hfz28_1, hfz28_2, hfz28_3, hfz28_4, hfz28_5⟩ := cells6 BK512.out; have hnb29 := NB513_514.out; have hnc29 := NB514_513.out; obtain ⟨hcz30_0, hcz30_1, hcz30_2, hcz30_3, hcz30_4, hcz30_5, hfz30_0, hfz30_1, hfz30_2, hfz30_3, hfz30_4, hfz30_5⟩ := cells6 BK513.out) | ((with_reducible refine gate_callee (f := 36) rfl ?_); refine goesL_ (some 11) rfl rfl Tryd.func36 (by kernel_rfl) rfl #[.agg #[.bool a0_0, .bool a0_1, .int .i64 a0_2, .int .i64 a0_3, .int .i64 a0_4, .slice A0_5 l0_5.length c0_5], .agg #[.bool a1_0, .bool a1_1, .int .i64 a1_2, .int .i64 a1_3, .int .i64 a1_4, .slice A1_5 l1_5.length c1_5]] rfl tq ?_; (with_reducible refine (impl_Batch_join.calls (hE := ?sideE) k a0_0 a0_1 a0_2 a0_3 a0_4 _ _ l0_5 a1_0 a1_1 a1_2 a1_3 a1_4 _ _ l1_5 t515 t516 t517 t518 t519 t520 t523 _ ?side1 ?side2 ?side3 ?side4 A3.out).mono ?_); (case sideE => exact ErrOk.below (HE.out.sub (by decide)) zb); (case side1 => exact tC (Kd.C_below HR0_5.out HB.out)); (case side2 => exact HC0_5.out); (case side3 => exact tC (Kd.C_below HR1_5.out HB.out)); (case side4 => exact HC1_5.out); rintro e w31 ⟨v521, rfl, ho0, hb⟩; have u_v521 := tsv Tryd.prog v521 ho0; refine ⟨_, rfl, ?_⟩; have HO522 := Aside0.mk (Kd.N_lower (Kd.N_mono (ok' := fun k_ => (w.heap.size ≤ k_) ∧ k_ ≠ gb512 ∧ k_ ≠ gb513 ∧ k_ ≠ gb514) ho0 (fun k_ hk_ => ⟨(Nat.le_trans (below_size zb) hk_), (tfB BK512 k_ hk_), (tfB BK513 k_ hk_), (tfB BK514 k_ hk_)⟩)) (below_size zb)); replace BK512 := tBb BK512 hb; replace BK513 := tBb BK513 hb; replace BK514 := tBb BK514 hb; replace HB := tBs HB hb; (try clear hb); (try clear hb2); (try clear hk); (try clear hi); (try clear ho0); (try simp only [errW_none, errW_some])) | ((with_reducible refine gate_dst (N := 6) rfl ?_); refine box_event ?hg (N := 6) ?hd (cs := #[.bool false, .bool false, .int .i64 0, .int .i64 0, .int .i64 0, .slice none 0 0]) (t := 25) ?hr ?_; (case hd => rfl); (case hg => rfl); (case hr => first | (go_simp; done) | (go_simp; rfl)); intro gb524 hg w32 hbox hb; replace HO522 := tNB HO522 hg hb; have BK524 := Aside0.mk (hbox); have GW524 := tge HB hg; have GE524 := tge HB hg; replace HB := tBs HB hb; have NB512_524 := tlt BK512 hg; have NB524_512 := tgt BK512 hg; replace BK512 := tBb BK512 hb; have NB513_524 := tlt BK513 hg; have NB524_513 := tgt BK513 hg; replace BK513 := tBb BK513 hb; have NB514_524 := tlt BK514 hg; have NB524_514 := tgt BK514 hg; replace BK514 := tBb BK514 hb; clear hb hbox hg; have hnb33 := NB524_512.out; have hnc33 := NB512_524.out; have hnb34 := NB524_513.out; have hnc34 := NB513_524.out; have hnb35 := NB524_514.out; have hnc35 := NB514_524.out; obtain ⟨hcz36_0, hcz36_1, hcz36_2, hcz36_3, hcz36_4, hcz36_5, hfz36_0, hfz36_1, hfz36_2, hfz36_3, hfz36_4, hfz36_5⟩ := cells6 BK524.out; obtain ⟨Ao37, co37, eo37⟩ := Kd.N_slice HO522.out; subst eo37; have CA4 := fun W => errors_Is.calls t523 (some 2) false W A4.out; try simp only [errW_none, errW_some] at CA4) | (go_at_call 27; (with_reducible refine (CA4 _).mono ?_); rintro e w38 ⟨rfl, hb⟩; replace HO522 := tNb HO522 hb; replace BK512 := tBb BK512 hb; replace BK513 := tBb BK513 hb; replace BK514 := tBb BK514 hb; replace BK524 := tBp (o' := .cells #[.bool t515, .bool t516, .int .i64 t517, .int .i64 t518, .int .i64 t519, .slice Ao37 t520.length co37] 25 (0, 0)) BK524 hb; replace HB := tBs HB hb; (try clear hb); (try clear hb2); (try clear hk); (try clear hi); obtain ⟨hcz39_0, hcz39_1, hcz39_2, hcz39_3, hcz39_4, hcz39_5, hfz39_0, hfz39_1, hfz39_2, hfz39_3, hfz39_4, hfz39_5⟩ := cells6 BK524.out; obtain ⟨hcz40_0, hcz40_1, hcz40_2, hcz40_3, hcz40_4, hcz40_5, hfz40_0, hfz40_1, hfz40_2, hfz40_3, hfz40_4, hfz40_5⟩ := cells6 BK514.out))
  refine bodyPost_ret (results_ct rfl _ _ gb514 25 #[.bool t515, .bool t516, .int .i64 t517, .int .i64 t518, .int .i64 t519, .slice Ao37 t520.length co37] (0, 0) _ rfl (tP BK514.out) Tryd.underlying25 rfl (by kernel_rfl)) rfl ?_
  exact ⟨_, by first | rfl | (simp [errW_none, errW_some] <;> rfl) | (simp [*, errW_none, errW_some] <;> rfl), tNm HO522.out, zb⟩

end Go.Proofs.YtahenocndacjeaaDoor.G

namespace Go.Proofs.YtahenocndacjeaaDoor.G
open Go.RowKit Go.Proofs.YtahenocndacjeaaDoorW.PrintWords Go.Proofs.YtahenocndacjeaaDoorW.PrintLast Go.Proofs.YtahenocndacjeaaDoorW.PrintMore
attribute [local go_sem] max2_int min2_int max_two min_two max_three min_three max_four min_four   -- for this text's walks alone
set_option linter.unusedVariables false
set_option linter.unusedSimpArgs false

def IsS72 (w0 W : World) (g : Nat) (f0 : List Int) (f1 : Int) : Prop := ∃ A0 c0, W.heap[g]? = some (.cells #[.slice A0 f0.length c0, .int .i64 f1] 72 (0, 0)) ∧ w0.heap.size ≤ g ∧ Kd.C (Kd.int .u8) w0 A0 f0.length f0
theorem IsS72.grown {w0 W : World} {g : Nat} {f0 : List Int} {f1 : Int} {W1 : World} {row : Option Nat} (h : IsS72 w0 W g f0 f1) (hw : W.grownBy W1 row) (hne : some g ≠ row) : IsS72 w0 W1 g f0 f1 := by
 obtain ⟨A0, c0, hb, hg, hr0⟩ := h
 exact ⟨A0, c0, blk_grown hb hw hne, hg, hr0⟩
theorem IsS72.own_neN {w0 W : World} {g : Nat} {f0 : List Int} {f1 : Int} {α : Type} {d : Kd α} {e : Nat} {base : Nat} {ok : Nat → Prop} {v : Value} {xs : List α} (h : IsS72 w0 W g f0 f1) (ho : Kd.N d e W base ok v xs) (ht : e ≠ 72) : some g ≠ v.ownBlock := by
 obtain ⟨A0, c0, hb, hg, hr0⟩ := h
 exact Kd.N_ne ho hb ht
theorem IsS72.fresh {w0 W : World} {g : Nat} {f0 : List Int} {f1 : Int} (h : IsS72 w0 W g f0 f1) : ∀ k, W.heap.size ≤ k → k ≠ g := by
 obtain ⟨A0, c0, hb, hg, hr0⟩ := h
 exact Kd.freshB hb
theorem IsS72.kept {w0 W : World} {g : Nat} {f0 : List Int} {f1 : Int} {W1 : World} {S : Nat → Prop} (h : IsS72 w0 W g f0 f1) (hk : Kept W W1 S) (hne : ¬ S g) : IsS72 w0 W1 g f0 f1 := by
 obtain ⟨A0, c0, hb, hg, hr0⟩ := h
 exact ⟨A0, c0, blk_kept hb hk hne, hg, hr0⟩
theorem IsS72.below {w0 W : World} {g : Nat} {f0 : List Int} {f1 : Int} {W1 : World} (h : IsS72 w0 W g f0 f1) (hw : Below W.heap.size W W1) : IsS72 w0 W1 g f0 f1 := h.grown (grown_of_below hw none) (by simp)
theorem IsS72.alloc {w0 W : World} {g : Nat} {f0 : List Int} {f1 : Int} (h : IsS72 w0 W g f0 f1) (o : Obj) : IsS72 w0 (W.alloc o) g f0 f1 := h.below (below_alloc (Below.refl _ _) o)
theorem IsS72.drewN {w0 W : World} {g : Nat} {f0 : List Int} {f1 : Int} (h : IsS72 w0 W g f0 f1) (m : Nat) : IsS72 w0 (W.drewN m) g f0 f1 := h
theorem IsS72.drew {w0 W : World} {g : Nat} {f0 : List Int} {f1 : Int} (h : IsS72 w0 W g f0 f1) : IsS72 w0 W.drew g f0 f1 := h
theorem IsS72.at_ {w0 W : World} {g : Nat} {f0 : List Int} {f1 : Int} {w' : World} {m : Nat} (hq : W.drewN m = w') (h : IsS72 w0 W g f0 f1) : IsS72 w0 w' g f0 f1 := by subst hq; exact IsS72.drewN h m
theorem IsS72.apart {w0 W : World} {g : Nat} {f0 : List Int} {f1 : Int} {α : Type} {d : Kd α} {e : Nat} {base : Nat} {ok : Nat → Prop} {v : Value} {xs : List α} (h : IsS72 w0 W g f0 f1) (ho : d.R e W base ok v xs) (ht : ∀ q, q ∈ e :: d.E → q ≠ 72) : d.R e W base (fun k => ok k ∧ k ≠ g) v xs := by
 obtain ⟨A0, c0, hb, hg, hr0⟩ := h
 exact Kd.R_types ho hb ht
theorem IsS72.own_ne {w0 W : World} {g : Nat} {f0 : List Int} {f1 : Int} {α : Type} {d : Kd α} {e : Nat} {base : Nat} {ok : Nat → Prop} {v : Value} {xs : List α} (h : IsS72 w0 W g f0 f1) (ho : d.R e W base ok v xs) (ht : e ≠ 72) : some g ≠ v.ownBlock := by
 obtain ⟨A0, c0, hb, hg, hr0⟩ := h
 exact Kd.R_ne ho hb ht
theorem IsS72.apartS {w0 W : World} {g : Nat} {f0 : List Int} {f1 : Int} {α : Type} {d : Kd α} {e : Nat} {base : Nat} {ok : Nat → Prop} {v : Value} {xs : List α} (h : IsS72 w0 W g f0 f1) (ho : d.S e W base ok v xs) (ht : ∀ q, q ∈ e :: d.E → q ≠ 72) : d.S e W base (fun k => ok k ∧ k ≠ g) v xs := by
 obtain ⟨A0, c0, hb, hg, hr0⟩ := h
 exact Kd.S_types ho hb ht
theorem IsS72.own_neS {w0 W : World} {g : Nat} {f0 : List Int} {f1 : Int} {α : Type} {d : Kd α} {e : Nat} {base : Nat} {ok : Nat → Prop} {v : Value} {xs : List α} (h : IsS72 w0 W g f0 f1) (ho : d.S e W base ok v xs) (ht : e ≠ 72) : some g ≠ v.ownBlock := by
 obtain ⟨A0, c0, hb, hg, hr0⟩ := h
 exact Kd.S_ne ho hb ht
theorem IsS72.lt {w0 W : World} {g : Nat} {f0 : List Int} {f1 : Int} (h : IsS72 w0 W g f0 f1) : g < W.heap.size := by
 obtain ⟨A0, c0, hb, hg, hr0⟩ := h
 exact blk_lt hb
theorem IsS72.ge {w0 W : World} {g : Nat} {f0 : List Int} {f1 : Int} (h : IsS72 w0 W g f0 f1) : w0.heap.size ≤ g := by
 obtain ⟨A0, c0, hb, hg, hr0⟩ := h
 exact hg
theorem IsS72.ne_blk {w0 W : World} {g : Nat} {f0 : List Int} {f1 : Int} {a : Nat} {cs : Array Value} {t : TypeId} {fr : Nat × Nat} (h : IsS72 w0 W g f0 f1) (hb2 : W.heap[a]? = some (.cells cs t fr)) (ht : t ≠ 72) : g ≠ a := by
 obtain ⟨A0, c0, hb, hg, hr0⟩ := h
 rintro rfl
 rw [hb] at hb2
 injection hb2 with hb2
 injection hb2 with _ ht2
 exact ht ht2.symm
theorem IsS72.far {w0 W : World} {g : Nat} {f0 : List Int} {f1 : Int} {p : Addr} (h : IsS72 w0 W g f0 f1) (hne : g ≠ p.block) (u : Value) : IsS72 w0 (W.setCell p u) g f0 f1 := by
 obtain ⟨A0, c0, hb, hg, hr0⟩ := h
 exact ⟨A0, c0, blk_far hb hne u, hg, hr0⟩
theorem cellS72_0 {W : World} {g : Nat} {A0 : Option Addr} {c0 : Nat} {f0 : List Int} {f1 : Int} (h : W.heap[g]? = some (.cells #[.slice A0 f0.length c0, .int .i64 f1] 72 (0, 0))) : W.cell? ⟨g, 0, none⟩ = some (.slice A0 f0.length c0) := (blk_cell h 0).trans rfl
theorem cellS72_1 {W : World} {g : Nat} {A0 : Option Addr} {c0 : Nat} {f0 : List Int} {f1 : Int} (h : W.heap[g]? = some (.cells #[.slice A0 f0.length c0, .int .i64 f1] 72 (0, 0))) : W.cell? ⟨g, 1, none⟩ = some (.int .i64 f1) := (blk_cell h 1).trans rfl
theorem IsS72.set_1 {w0 W : World} {g : Nat} {f0 : List Int} {f1 : Int} (h : IsS72 w0 W g f0 f1) (x : Int) : IsS72 w0 (W.setCell ⟨g, 1, none⟩ (.int .i64 x)) g f0 x := by
 obtain ⟨A0, c0, hb, hg, hr0⟩ := h
 exact ⟨A0, c0, by simpa using blk_set hb 1 (.int .i64 x), hg, hr0⟩
section
variable {α : Type} {d : Kd α} {e : Nat} {w w0 W w1 : World} {base g : Nat} {ok : Nat → Prop} {v : Value} {xs : List α}
theorem zi72 {p : Prop} (h : p := by repeat (first | (with_reducible first | exact HI0.out | apply IsS72.alloc | apply IsS72.drewN | apply IsS72.drew | apply IsS72.set_1 | (apply IsS72.far; (case hne => exact Aside0.out (by with_reducible assumption)))) | exact HI0.out)) : p := h
theorem tIb72 {f0 : List Int} {f1 f1' : Int} (h : Aside0 (IsS72 w w0 g f0 f1)) (hb : Below W.heap.size W w1) (k : IsS72 w w0 g f0 f1 → IsS72 w W g f0 f1' := by intro h_; repeat (first | (with_reducible first | exact h_ | apply IsS72.alloc | apply IsS72.drewN | apply IsS72.drew | apply IsS72.set_1 | (apply IsS72.far; (case hne => exact Aside0.out (by with_reducible assumption)))) | exact h_)) : Aside0 (IsS72 w w1 g f0 f1') := ⟨(k h.out).below hb⟩
theorem tRp72 {f0 : List Int} {f1 f1' : Int} {w' : World} (h : Aside0 (Kd.R d e w base ok v xs)) (hi : Aside0 (IsS72 w0 w1 g f0 f1)) (hk : KeepBut W w' g none) (k : Kd.R d e w base ok v xs → Kd.R d e W base ok v xs := by intro h_; (with_reducible repeat (first | apply Kd.R_alloc | apply Kd.R_drewN | apply Kd.R_drew | refine Kd.R_far ?_ (fun _ hk_ => Pr.out hk_) _)); exact h_) (ki : IsS72 w0 w1 g f0 f1 → IsS72 w0 W g f0 f1' := by intro h_; repeat (first | (with_reducible first | exact h_ | apply IsS72.alloc | apply IsS72.drewN | apply IsS72.drew | apply IsS72.set_1 | (apply IsS72.far; (case hne => exact Aside0.out (by with_reducible assumption)))) | exact h_)) (ht : ∀ q, q ∈ e :: d.E → q ≠ 72 := by decide) : Aside0 (Kd.R d e w' base ok v xs) := ⟨Kd.R_mono (Kd.R_keep (IsS72.apart (ki hi.out) (k h.out) ht) hk (fun _ h => h.2)) (fun _ h => h.1)⟩
theorem tSp72 {f0 : List Int} {f1 f1' : Int} {w' : World} (h : Aside0 (Kd.S d e w base ok v xs)) (hi : Aside0 (IsS72 w0 w1 g f0 f1)) (hk : KeepBut W w' g none) (k : Kd.S d e w base ok v xs → Kd.S d e W base ok v xs := by intro h_; (with_reducible repeat (first | apply Kd.S_alloc | apply Kd.S_drewN | apply Kd.S_drew | refine Kd.S_far ?_ (fun _ hk_ => Pr.out hk_) _)); exact h_) (ki : IsS72 w0 w1 g f0 f1 → IsS72 w0 W g f0 f1' := by intro h_; repeat (first | (with_reducible first | exact h_ | apply IsS72.alloc | apply IsS72.drewN | apply IsS72.drew | apply IsS72.set_1 | (apply IsS72.far; (case hne => exact Aside0.out (by with_reducible assumption)))) | exact h_)) (ht : ∀ q, q ∈ e :: d.E → q ≠ 72 := by decide) : Aside0 (Kd.S d e w' base ok v xs) := ⟨Kd.S_mono (Kd.S_keep (IsS72.apartS (ki hi.out) (k h.out) ht) hk (fun _ h => h.2)) (fun _ h => h.1)⟩
end

def spec_l6Open.f (l0 : List Int) : Option (List Int × Int) := if (l0.length : Int) > 2000 then (if 2000 ≤ (l0.length : Int) then (some (l0.take 2000, 0)) else (none)) else (some (l0, 0))
set_option maxHeartbeats 8000000 in
set_option maxRecDepth 100000 in
theorem spec_l6Open.calls (A0 : Option Addr) (c0 : Nat) (l0 : List Int) (r1 : List Int) (r2 : Int) (w0 w : World) (hB : Below w0.heap.size w0 w) (hr0 : Kd.C (Kd.int .u8) w0 A0 l0.length l0) (hc0 : l0.length ≤ c0) (h : spec_l6Open.f l0 = some (r1, r2)) :
  Calls Tryd.prog 22 #[.slice A0 l0.length c0] w fun e w' => ∃ g_ : Nat, e = .returned (.pointer (some ⟨g_, 0, none⟩)) ∧ IsS72 w0 w' g_ r1 r2 ∧ Below w0.heap.size w0 w' ∧ Below w.heap.size w w' := by
 have hu72 := Tryd.underlying72
 have HR0 := Aside0.mk hr0
 have HC0 := Aside0.mk hc0
 clear hr0 hc0
 have HBW := Aside0.mk (Below.refl w.heap.size w)
 have HW0 := Aside0.mk hB.size
 have HB := Aside0.mk hB
 clear hB
 have H : (if (l0.length : Int) > 2000 then (if 2000 ≤ (l0.length : Int) then (some (l0.take 2000, 0)) else (none)) else (some (l0, 0))) = some (r1, r2) := h
 clear h
 by_cases c2 : (l0.length : Int) > 2000
 ·rw [if_pos c2] at H
  have c2b0 : decide (2000 < (l0.length : Int)) = true := decide_eq_true c2
  have c2b1 : decide (2000 < l0.length) = true := decide_eq_true (by omega)
  clear c2
  by_cases c3 : 2000 ≤ (l0.length : Int)
  ·rw [if_pos c3] at H
   have c3b0 := eq_true c3
   have c3b1 : decide (2000 ≤ (l0.length : Int)) = true := decide_eq_true c3
   clear c3
   simp only [Option.some.injEq, Prod.mk.injEq] at H
   obtain ⟨rfl, rfl⟩ := H
   obtain ⟨i04, hi04, _, hsz4, _⟩ := info_parts info5
   obtain ⟨hcut4, hA4, hC4⟩ := print_take_of (P := Tryd.prog) (Value.int .u8) 0 22 5 .i64 Tryd.underlying22 hi04 hsz4 A0 c0 l0 2000 (by omega) (td) HC0.out
   have HR101 := Aside0.mk (Kd.C_of_reads (h1 := fun _ => rfl) (hA4 _ (Kd.reads_of_C HR0.out)))
   have HC101 := Aside0.mk hC4
   clear hA4 hC4 hi04 hsz4
   go_enter Tryd.func22, Tryd.ntmps22
   go_wp2_with (first | ((with_reducible refine gate_dst (N := 10) rfl ?_); refine box_event ?hg (N := 10) ?hd (cs := #[.slice A0 (l0.take 2000).length c0, .int .i64 0]) (t := 72) ?hr ?_; (case hd => rfl); (case hg => rfl); (case hr => first | (go_simp; done) | (go_simp; rfl)); intro gb102 hg w5 hbox hb; replace HB := tBs HB hb; have BK102 := Aside0.mk (hbox); have GW102 := Aside0.mk ((by rw [hg]; exact (below_size (by repeat (first | (with_reducible first | exact HBW.out | apply below_alloc | apply pw_below_drewN | apply below_drew1) | exact HBW.out))) : w.heap.size ≤ gb102)); have GE102 := Aside0.mk ((Nat.le_trans HW0.out (by rw [hg]; exact (below_size (by repeat (first | (with_reducible first | exact HBW.out | apply below_alloc | apply pw_below_drewN | apply below_drew1) | exact HBW.out))) : w.heap.size ≤ gb102) : w0.heap.size ≤ gb102)); replace HBW := Aside0.mk (below_step HBW.out hb); clear hb hbox hg))
   go_ret
   exact ⟨_, rfl, (show IsS72 w0 _ gb102 (l0.take 2000) 0 from ⟨_, _, tH BK102.out, GE102.out, HR101.out⟩), zb, by repeat (first | (with_reducible first | exact HBW.out | apply below_alloc | apply pw_below_drewN | apply below_drew1 | refine below_set ?_ GW102.out) | exact HBW.out)⟩
  ·rw [if_neg c3] at H
   exact absurd H (by simp)
 ·rw [if_neg c2] at H
  have c2b0 : decide (2000 < (l0.length : Int)) = false := decide_eq_false c2
  have c2b1 : decide (2000 < l0.length) = false := decide_eq_false (by omega)
  clear c2
  simp only [Option.some.injEq, Prod.mk.injEq] at H
  obtain ⟨rfl, rfl⟩ := H
  go_enter Tryd.func22, Tryd.ntmps22
  go_wp2_with (first | ((with_reducible refine gate_dst (N := 10) rfl ?_); refine box_event ?hg (N := 10) ?hd (cs := #[.slice A0 l0.length c0, .int .i64 0]) (t := 72) ?hr ?_; (case hd => rfl); (case hg => rfl); (case hr => first | (go_simp; done) | (go_simp; rfl)); intro gb103 hg w6 hbox hb; replace HB := tBs HB hb; have BK103 := Aside0.mk (hbox); have GW103 := Aside0.mk ((by rw [hg]; exact (below_size (by repeat (first | (with_reducible first | exact HBW.out | apply below_alloc | apply pw_below_drewN | apply below_drew1) | exact HBW.out))) : w.heap.size ≤ gb103)); have GE103 := Aside0.mk ((Nat.le_trans HW0.out (by rw [hg]; exact (below_size (by repeat (first | (with_reducible first | exact HBW.out | apply below_alloc | apply pw_below_drewN | apply below_drew1) | exact HBW.out))) : w.heap.size ≤ gb103) : w0.heap.size ≤ gb103)); replace HBW := Aside0.mk (below_step HBW.out hb); clear hb hbox hg))
  go_ret
  exact ⟨_, rfl, (show IsS72 w0 _ gb103 l0 0 from ⟨_, _, tH BK103.out, GE103.out, HR0.out⟩), zb, by repeat (first | (with_reducible first | exact HBW.out | apply below_alloc | apply pw_below_drewN | apply below_drew1 | refine below_set ?_ GW103.out) | exact HBW.out)⟩

def spec_l6Rd_pick.j0 : Nat → Int → Bool → List Int → Int → Option (Int × Int)
 | 0, _, _, _, _ => none
 | k + 1, x1, x24, x1000, x1001 => if x24 = true then (some (0, x1001)) else (if (wrap64 (x1001 - 1)) < (x1000.length : Int) then (if 0 ≤ (wrap64 (x1001 - 1)) then (if x1 = 0 then (none) else (some (Int.tmod (wrap64 (rd x1000 (wrap64 (x1001 - 1)))) x1, x1001))) else (none)) else (if (x1000.length : Int) = 0 then (none) else (if 0 ≤ (Int.tmod (wrap64 (x1001 - 1)) (x1000.length : Int)) then (if (Int.tmod (wrap64 (x1001 - 1)) (x1000.length : Int)) < (x1000.length : Int) then (if 0 ≤ (Int.tmod (wrap64 ((wrap64 ((wrap64 (x1001 - 1)) * 7)) + 3)) (x1000.length : Int)) then (if (Int.tmod (wrap64 ((wrap64 ((wrap64 (x1001 - 1)) * 7)) + 3)) (x1000.length : Int)) < (x1000.length : Int) then (if x1 = 0 then (none) else (some (Int.tmod (Go.bits .xor .i64 (wrap64 ((wrap64 ((wrap64 ((wrap64 ((wrap64 (rd x1000 (Int.tmod (wrap64 (x1001 - 1)) (x1000.length : Int)))) * 131)) + (wrap64 ((wrap64 (rd x1000 (Int.tmod (wrap64 ((wrap64 ((wrap64 (x1001 - 1)) * 7)) + 3)) (x1000.length : Int)))) * 1117)))) + (wrap64 ((wrap64 (x1001 - 1)) * 29)))) + (wrap64 ((wrap64 (Int.tdiv (wrap64 (x1001 - 1)) (x1000.length : Int))) * 53)))) (wrap64 (Int.tdiv (wrap64 ((wrap64 ((wrap64 ((wrap64 ((wrap64 (rd x1000 (Int.tmod (wrap64 (x1001 - 1)) (x1000.length : Int)))) * 131)) + (wrap64 ((wrap64 (rd x1000 (Int.tmod (wrap64 ((wrap64 ((wrap64 (x1001 - 1)) * 7)) + 3)) (x1000.length : Int)))) * 1117)))) + (wrap64 ((wrap64 (x1001 - 1)) * 29)))) + (wrap64 ((wrap64 (Int.tdiv (wrap64 (x1001 - 1)) (x1000.length : Int))) * 53)))) 64))) x1, x1001))) else (none)) else (none)) else (none)) else (none))))
def spec_l6Rd_pick.f (k : Nat) (s0_0 : List Int) (s0_1 : Int) (a1 : Int) : Option (Int × Int) := if a1 < 1 then (spec_l6Rd_pick.j0 k a1 true s0_0 (wrap64 (s0_1 + 1))) else (spec_l6Rd_pick.j0 k a1 ((s0_0.length : Int) == 0) s0_0 (wrap64 (s0_1 + 1)))
set_option maxHeartbeats 8000000 in
set_option maxRecDepth 100000 in
theorem spec_l6Rd_pick.calls (k : Nat) (g : Nat) (s0_0 : List Int) (s0_1 : Int) (a1 : Int) (r1 : Int) (r2 : Int) (w0 w : World) (hI : IsS72 w0 w g s0_0 s0_1) (hB : Below w0.heap.size w0 w) (h : spec_l6Rd_pick.f k s0_0 s0_1 a1 = some (r1, r2)) :
  Calls Tryd.prog 24 #[.pointer (some ⟨g, 0, none⟩), .int .i64 a1] w fun e w' => e = .returned (.int .i64 r1) ∧ IsS72 w0 w' g s0_0 r2 ∧ Below w0.heap.size w0 w' ∧ KeepBut w w' g none := by
 have HI0 := Aside0.mk hI
 have HK := Aside0.mk (KeepBut.refl w g none)
 have HL := Aside0.mk hB.size
 clear hI
 have HW0 := Aside0.mk hB.size
 have HB := Aside0.mk hB
 clear hB
 have H : (if a1 < 1 then (spec_l6Rd_pick.j0 k a1 true s0_0 (wrap64 (s0_1 + 1))) else (spec_l6Rd_pick.j0 k a1 ((s0_0.length : Int) == 0) s0_0 (wrap64 (s0_1 + 1)))) = some (r1, r2) := h
 clear h
 have HC3 := Aside0.mk H
 clear H
 obtain ⟨ASz4_0, cSz4_0, HGz4, hgz4, HSz4_0⟩ := HI0.out
 have hcz4_0 := cellS72_0 HGz4
 have hcz4_1 := cellS72_1 HGz4
 have hfz4_1 := blk_frozen HGz4 1
 clear HGz4 hgz4
 go_enter Tryd.func24, Tryd.ntmps24
 go_upto_region 2 with (fail)
 repeat (go_quiet (fail); go_upto_region 2 with (fail))
 go_cut [24] (fun v24 wc => ∃ (kq : Nat) (x24_2 : Bool), v24 = .bool x24_2 ∧ Aside0 (spec_l6Rd_pick.j0 kq a1 x24_2 s0_0 (wrap64 (s0_1 + 1)) = some (r1, r2)) ∧ Aside0 (kq ≤ k) ∧ Aside0 (IsS72 w0 wc g s0_0 (wrap64 (s0_1 + 1))) ∧ Aside0 (KeepBut w wc g none) ∧ Aside0 (Below w0.heap.size w0 wc))
 case first =>
  have H := HC3.out
  clear HC3
  by_cases c5 : a1 < 1
  ·rw [if_pos c5] at H
   have c5b0 : decide (a1 < 1) = true := decide_eq_true c5
   clear c5
   (first | rw [c5b0] | (simp only [i64_w, i32_w]; rw [c5b0]) | skip)
   have H' := Aside0.mk H
   clear H
   go_wp2
   repeat (go_quiet (fail); try go_wp2)
   go_meet
   case rel => exact ⟨_, (true), tr, H', ⟨by first | omega | exact Nat.le_refl _⟩, ⟨zi72⟩, ⟨zk⟩, ⟨zb⟩⟩
  ·rw [if_neg c5] at H
   have c5b0 : decide (a1 < 1) = false := decide_eq_false c5
   clear c5
   (first | rw [c5b0] | (simp only [i64_w, i32_w]; rw [c5b0]) | skip)
   have H' := Aside0.mk H
   clear H
   obtain ⟨ASz6_0, cSz6_0, HGz6, hgz6, HSz6_0⟩ := HI0.out
   have hcz6_0 := cellS72_0 HGz6
   have hcz6_1 := cellS72_1 HGz6
   have hfz6_1 := blk_frozen HGz6 1
   clear HGz6 hgz6
   go_wp2
   repeat (go_quiet (fail); try go_wp2)
   go_meet
   case rel => exact ⟨_, (((s0_0.length : Int) == 0)), tr, H', ⟨by first | omega | exact Nat.le_refl _⟩, ⟨zi72⟩, ⟨zk⟩, ⟨zb⟩⟩
 case rest =>
  clear HC3
  try clear hcz4_0; try clear hcz4_1; try clear hfz4_1
  obtain ⟨kq, x24_2, rfl, HA, HJ2, HI0, HK, HB⟩ := hcut
  cases kq with
  | zero => exact absurd HA.out (by simp [spec_l6Rd_pick.j0])
  | succ kj2 =>
   have H := HA.out
   clear HA
   simp only [spec_l6Rd_pick.j0] at H
   by_cases c7 : x24_2 = true
   ·subst c7
    rw [if_pos rfl] at H
    simp only [Option.some.injEq, Prod.mk.injEq] at H
    obtain ⟨rfl, rfl⟩ := H
    go_wp2
    repeat (go_quiet (fail); try go_wp2)
    go_ret
    exact ⟨by first | rfl | (simp [errW_none, errW_some] <;> rfl) | (simp [*, errW_none, errW_some] <;> rfl), zi72, zb, zk⟩
   ·replace c7 := Bool.eq_false_iff.mpr c7
    subst c7
    rw [if_neg (show ¬ (false = true) by decide)] at H
    by_cases c8 : (wrap64 ((wrap64 (s0_1 + 1)) - 1)) < (s0_0.length : Int)
    ·rw [if_pos c8] at H
     have c8b0 : decide ((wrap64 ((wrap64 (s0_1 + 1)) - 1)) < (s0_0.length : Int)) = true := decide_eq_true c8
     clear c8
     obtain ⟨ji9, hji9⟩ : ∃ j_ : Int, (wrap64 ((wrap64 (s0_1 + 1)) - 1)) = j_ := ⟨_, rfl⟩
     replace H : (if 0 ≤ (ji9) then (if a1 = 0 then (none) else (some (Int.tmod (wrap64 (rd s0_0 (ji9))) a1, (wrap64 (s0_1 + 1))))) else (none)) = some (r1, r2) := by first | (rw [hji9] at H; exact H) | (simp only [hji9] at H ⊢; exact H)
     (try rw [hji9] at c8b0)
     have hji9w : (IntKind.i64.wrap ((wrap64 (s0_1 + 1)) - 1)) = ji9 := (i64_w _).trans hji9
     by_cases c10 : 0 ≤ (ji9)
     ·rw [if_pos c10] at H
      have c10b0 : decide (0 ≤ (ji9)) = true := decide_eq_true c10
      clear c10
      by_cases c11 : a1 = 0
      ·rw [if_pos c11] at H
       exact absurd H (by simp)
      ·rw [if_neg c11] at H
       have c11b0 : (a1 == 0) = false := beq_eq_false_iff_ne.mpr c11
       have c11b1 : (a1 != 0) = true := bne_iff_ne.mpr c11
       simp only [Option.some.injEq, Prod.mk.injEq] at H
       obtain ⟨rfl, rfl⟩ := H
       obtain ⟨ASz12_0, cSz12_0, HGz12, hgz12, HSz12_0⟩ := HI0.out
       have hcz12_0 := cellS72_0 HGz12
       have hcz12_1 := cellS72_1 HGz12
       have hfz12_1 := blk_frozen HGz12 1
       clear HGz12 hgz12
       have p104 : 0 ≤ ((ji9) : Int) := td
       have q104 : (ji9) < (s0_0.length : Int) := td
       obtain ⟨ad104, e104, hx104_0⟩ := Kd.at_int HSz12_0 (ji9) p104 q104
       cases e104
       replace hx104_0 := pw_cell_below HB.out hx104_0
       replace p104 := eq_true p104
       replace q104 := eq_true q104
       go_wp2
       repeat (go_quiet (fail); try go_wp2)
       go_ret
       exact ⟨by first | rfl | (simp [errW_none, errW_some] <;> rfl) | (simp only [← hji9]; first | rfl | (simp [errW_none, errW_some] <;> rfl)) | (simp [*, errW_none, errW_some] <;> rfl), zi72, zb, zk⟩
     ·rw [if_neg c10] at H
      exact absurd H (by simp)
    ·rw [if_neg c8] at H
     have c8b0 : decide ((wrap64 ((wrap64 (s0_1 + 1)) - 1)) < (s0_0.length : Int)) = false := decide_eq_false c8
     clear c8
     by_cases c13 : (s0_0.length : Int) = 0
     ·rw [if_pos c13] at H
      exact absurd H (by simp)
     ·rw [if_neg c13] at H
      have c13b0 : ((s0_0.length : Int) == 0) = false := beq_eq_false_iff_ne.mpr c13
      have c13b1 : ((s0_0.length : Int) != 0) = true := bne_iff_ne.mpr c13
      have c13b2 : ¬ (s0_0 = []) := fun h_ => c13 (by rw [h_]; rfl)
      obtain ⟨ji14, hji14⟩ : ∃ j_ : Int, (Int.tmod (wrap64 ((wrap64 (s0_1 + 1)) - 1)) (s0_0.length : Int)) = j_ := ⟨_, rfl⟩
      replace H : (if 0 ≤ (ji14) then (if (ji14) < (s0_0.length : Int) then (if 0 ≤ (Int.tmod (wrap64 ((wrap64 ((wrap64 ((wrap64 (s0_1 + 1)) - 1)) * 7)) + 3)) (s0_0.length : Int)) then (if (Int.tmod (wrap64 ((wrap64 ((wrap64 ((wrap64 (s0_1 + 1)) - 1)) * 7)) + 3)) (s0_0.length : Int)) < (s0_0.length : Int) then (if a1 = 0 then (none) else (some (Int.tmod (Go.bits .xor .i64 (wrap64 ((wrap64 ((wrap64 ((wrap64 ((wrap64 (rd s0_0 (ji14))) * 131)) + (wrap64 ((wrap64 (rd s0_0 (Int.tmod (wrap64 ((wrap64 ((wrap64 ((wrap64 (s0_1 + 1)) - 1)) * 7)) + 3)) (s0_0.length : Int)))) * 1117)))) + (wrap64 ((wrap64 ((wrap64 (s0_1 + 1)) - 1)) * 29)))) + (wrap64 ((wrap64 (Int.tdiv (wrap64 ((wrap64 (s0_1 + 1)) - 1)) (s0_0.length : Int))) * 53)))) (wrap64 (Int.tdiv (wrap64 ((wrap64 ((wrap64 ((wrap64 ((wrap64 (rd s0_0 (ji14))) * 131)) + (wrap64 ((wrap64 (rd s0_0 (Int.tmod (wrap64 ((wrap64 ((wrap64 ((wrap64 (s0_1 + 1)) - 1)) * 7)) + 3)) (s0_0.length : Int)))) * 1117)))) + (wrap64 ((wrap64 ((wrap64 (s0_1 + 1)) - 1)) * 29)))) + (wrap64 ((wrap64 (Int.tdiv (wrap64 ((wrap64 (s0_1 + 1)) - 1)) (s0_0.length : Int))) * 53)))) 64))) a1, (wrap64 (s0_1 + 1))))) else (none)) else (none)) else (none)) else (none)) = some (r1, r2) := by first | (rw [hji14] at H; exact H) | (simp only [hji14] at H ⊢; exact H)
      by_cases c15 : 0 ≤ (ji14)
      ·rw [if_pos c15] at H
       have c15b0 : decide (0 ≤ (ji14)) = true := decide_eq_true c15
       clear c15
       by_cases c16 : (ji14) < (s0_0.length : Int)
       ·rw [if_pos c16] at H
        have c16b0 : decide ((ji14) < (s0_0.length : Int)) = true := decide_eq_true c16
        clear c16
        obtain ⟨ji17, hji17⟩ : ∃ j_ : Int, (Int.tmod (wrap64 ((wrap64 ((wrap64 ((wrap64 (s0_1 + 1)) - 1)) * 7)) + 3)) (s0_0.length : Int)) = j_ := ⟨_, rfl⟩
        replace H : (if 0 ≤ (ji17) then (if (ji17) < (s0_0.length : Int) then (if a1 = 0 then (none) else (some (Int.tmod (Go.bits .xor .i64 (wrap64 ((wrap64 ((wrap64 ((wrap64 ((wrap64 (rd s0_0 (ji14))) * 131)) + (wrap64 ((wrap64 (rd s0_0 (ji17))) * 1117)))) + (wrap64 ((wrap64 ((wrap64 (s0_1 + 1)) - 1)) * 29)))) + (wrap64 ((wrap64 (Int.tdiv (wrap64 ((wrap64 (s0_1 + 1)) - 1)) (s0_0.length : Int))) * 53)))) (wrap64 (Int.tdiv (wrap64 ((wrap64 ((wrap64 ((wrap64 ((wrap64 (rd s0_0 (ji14))) * 131)) + (wrap64 ((wrap64 (rd s0_0 (ji17))) * 1117)))) + (wrap64 ((wrap64 ((wrap64 (s0_1 + 1)) - 1)) * 29)))) + (wrap64 ((wrap64 (Int.tdiv (wrap64 ((wrap64 (s0_1 + 1)) - 1)) (s0_0.length : Int))) * 53)))) 64))) a1, (wrap64 (s0_1 + 1))))) else (none)) else (none)) = some (r1, r2) := by first | (rw [hji17] at H; exact H) | (simp only [hji17] at H ⊢; exact H)
        by_cases c18 : 0 ≤ (ji17)
        ·rw [if_pos c18] at H
         have c18b0 : decide (0 ≤ (ji17)) = true := decide_eq_true c18
         clear c18
         by_cases c19 : (ji17) < (s0_0.length : Int)
         ·rw [if_pos c19] at H
          have c19b0 : decide ((ji17) < (s0_0.length : Int)) = true := decide_eq_true c19
          clear c19
          by_cases c20 : a1 = 0
          ·rw [if_pos c20] at H
           exact absurd H (by simp)
          ·rw [if_neg c20] at H
           have c20b0 : (a1 == 0) = false := beq_eq_false_iff_ne.mpr c20
           have c20b1 : (a1 != 0) = true := bne_iff_ne.mpr c20
           simp only [Option.some.injEq, Prod.mk.injEq] at H
           obtain ⟨rfl, rfl⟩ := H
           obtain ⟨ASz21_0, cSz21_0, HGz21, hgz21, HSz21_0⟩ := HI0.out
           have hcz21_0 := cellS72_0 HGz21
           have hcz21_1 := cellS72_1 HGz21
           have hfz21_1 := blk_frozen HGz21 1
           clear HGz21 hgz21
           have p105 : 0 ≤ ((ji14) : Int) := td
           have q105 : (ji14) < (s0_0.length : Int) := td
           obtain ⟨ad105, e105, hx105_0⟩ := Kd.at_int HSz21_0 (ji14) p105 q105
           cases e105
           replace hx105_0 := pw_cell_below HB.out hx105_0
           replace p105 := eq_true p105
           replace q105 := eq_true q105
           have p106 : 0 ≤ ((ji17) : Int) := td
           have q106 : (ji17) < (s0_0.length : Int) := td
           obtain ⟨ad106, e106, hx106_0⟩ := Kd.at_int HSz21_0 (ji17) p106 q106
           obtain rfl : ad105 = ad106 := (by injection e106)
           replace hx106_0 := pw_cell_below HB.out hx106_0
           replace p106 := eq_true p106
           replace q106 := eq_true q106
           go_wp2
           repeat (go_quiet (fail); try go_wp2)
           go_ret
           exact ⟨by first | rfl | (simp [errW_none, errW_some] <;> rfl) | (simp only [← hji14, ← hji17]; first | rfl | (simp [errW_none, errW_some] <;> rfl)) | (simp [*, errW_none, errW_some] <;> rfl), zi72, zb, zk⟩
         ·rw [if_neg c19] at H
          exact absurd H (by simp)
        ·rw [if_neg c18] at H
         exact absurd H (by simp)
       ·rw [if_neg c16] at H
        exact absurd H (by simp)
      ·rw [if_neg c15] at H
       exact absurd H (by simp)

mutual
def spec_l91Part.j0 : Nat → List Int → Int → List Int → Int → Option (Bool × List Int × Int)
 | 0, _, _, _, _ => none
 | k + 1, x4, x5, x1000, x1001 => spec_l91Part.l0 k x4 x5 0 x1000 x1001
def spec_l91Part.l0 : Nat → List Int → Int → Int → List Int → Int → Option (Bool × List Int × Int)
 | 0, _, _, _, _, _ => none
 | k + 1, x4, x5, x6, x1000, x1001 => if x6 < x5 then ((spec_l6Rd_pick.f k x1000 x1001 256).bind fun bt119 => ((some (([1, 2, 3, bt119.1] : List Int) : List Int)).bind fun y121 => ((spec_l6Rd_pick.f k x1000 bt119.2 4).bind fun bt124 => (if 0 ≤ bt124.1 then (if bt124.1 < (y121.length : Int) then (if x4.length < 17592186044416 then (spec_l91Part.l0 k (x4 ++ [rd y121 bt124.1]) x5 (wrap64 (x6 + 1)) x1000 bt124.2) else (none)) else (none)) else (none))))) else (some (true, x4, x1001))
end
def spec_l91Part.f (k : Nat) (s0_0 : List Int) (s0_1 : Int) : Option (Bool × List Int × Int) := (spec_l6Rd_pick.f k s0_0 s0_1 4).bind fun bt107 => (if bt107.1 = 0 then (some (false, (([] : List Int)), bt107.2)) else ((some (([] : List Int) : List Int)).bind fun y112 => ((spec_l6Rd_pick.f k s0_0 bt107.2 5).bind fun bt115 => ((spec_l6Rd_pick.f k s0_0 bt115.2 12).bind fun bt117 => (if bt117.1 = 0 then (spec_l91Part.j0 k y112 12 s0_0 bt117.2) else (spec_l91Part.j0 k y112 bt115.1 s0_0 bt117.2))))))
set_option maxHeartbeats 8000000 in
set_option maxRecDepth 100000 in
theorem spec_l91Part.calls (k : Nat) (g : Nat) (s0_0 : List Int) (s0_1 : Int) (r1 : Bool) (r2 : List Int) (r3 : Int) (w0 w : World) (hI : IsS72 w0 w g s0_0 s0_1) (hB : Below w0.heap.size w0 w) (h : spec_l91Part.f k s0_0 s0_1 = some (r1, r2, r3)) :
  Calls Tryd.prog 42 #[.pointer (some ⟨g, 0, none⟩)] w fun e w' => ∃ v1_ : Value, e = .returned (.tuple #[.bool r1, v1_]) ∧ Kd.R (Kd.int .i64) 3 w' w.heap.size (fun _ => True) v1_ r2 ∧ IsS72 w0 w' g s0_0 r3 ∧ Below w0.heap.size w0 w' ∧ KeepBut w w' g none := by
 have HI0 := Aside0.mk hI
 have HK := Aside0.mk (KeepBut.refl w g none)
 have HL := Aside0.mk hB.size
 clear hI
 have HW0 := Aside0.mk hB.size
 have HB := Aside0.mk hB
 clear hB
 have H : ((spec_l6Rd_pick.f k s0_0 s0_1 4).bind fun bt107 => (if bt107.1 = 0 then (some (false, (([] : List Int)), bt107.2)) else ((some (([] : List Int) : List Int)).bind fun y112 => ((spec_l6Rd_pick.f k s0_0 bt107.2 5).bind fun bt115 => ((spec_l6Rd_pick.f k s0_0 bt115.2 12).bind fun bt117 => (if bt117.1 = 0 then (spec_l91Part.j0 k y112 12 s0_0 bt117.2) else (spec_l91Part.j0 k y112 bt115.1 s0_0 bt117.2))))))) = some (r1, r2, r3) := h
 clear h
 replace H := tbe H
 obtain ⟨⟨t107, t108⟩, A2, H⟩ := H
 dsimp only at H
 by_cases c3 : t107 = 0
 ·rw [if_pos c3] at H
  have c3b0 : (t107 == 0) = true := beq_iff_eq.mpr c3
  have c3b1 : (t107 != 0) = false := bne_eq_false_iff_eq.mpr c3
  clear c3
  obtain ⟨y109, hy109⟩ : ∃ y_ : List Int, y_ = (([] : List Int)) := ⟨_, rfl⟩
  replace H : (some (false, y109, t108)) = some (r1, r2, r3) := by first | (rw [hy109]; with_reducible exact H) | (have H2_ := (Option.bind_some _ _).symm.trans H; rw [hy109]; with_reducible exact H2_) | (have H2_ := (Option.bind_some _ _).symm.trans H; with_reducible exact H2_) | with_reducible exact H | (rw [hy109]; exact H) | exact H
  have Ny109 := Aside0.mk hy109
  clear hy109
  simp only [Option.some.injEq, Prod.mk.injEq] at H
  obtain ⟨rfl, rfl, rfl⟩ := H
  go_enter Tryd.func42, Tryd.ntmps42
  go_wp2_with (first | ((with_reducible refine gate_callee (f := 24) rfl ?_); refine goesL_ (some 8) rfl rfl Tryd.func24 (by kernel_rfl) rfl #[.pointer (some ⟨g, 0, none⟩), .int .i64 4] rfl tq ?_; (with_reducible refine (spec_l6Rd_pick.calls k g s0_0 s0_1 4 t107 t108 w0 _ ?side1 ?side2 A2.out).mono ?_); (case side1 => exact zi72); (case side2 => exact zb); rintro e w4 ⟨rfl, hi, hb, hk⟩; refine ⟨_, rfl, ?_⟩; replace HK := tKt HK hk; replace HB := Aside0.mk (hb); replace HI0 := Aside0.mk (hi); (try clear hb); (try clear hb2); (try clear hk); (try clear hi)) | ((with_reducible refine gate_dst (N := 10) rfl ?_); refine Kd.R_lit (Kd.int .i64) _ 3 ?hg (N := 10) ?hd (xs := ([] : List Int)) (inner := []) (ok := fun _ => True) (okp := fun _ => True) ?hr ?hp (fun _ hk => hk) trivial (Below.refl _ _) (Nat.le_refl _) (by simp) ?_; (case hd => rfl); (case hg => rfl); (case hr => first | (go_simp; done) | (go_simp; rfl)); (case hp => exact (Reps.none _ _)); intro v110 w5 ho6 hb hg_ hnew_; clear hg_ hnew_; (first | rw [← Ny109.out] at ho6 | (simp only [Int.reduceToNat] at ho6; rw [← Ny109.out] at ho6)); have HO111 := Aside0.mk (Kd.R_lower ho6 (keep_size (w := w) (g := g) (row := none) zk)); replace HI0 := tIb72 HI0 hb; replace HK := tKb HK hb; replace HB := tBs HB hb; clear hb ho6))
  go_ret2
  exact ⟨_, by first | rfl | (simp [errW_none, errW_some] <;> rfl) | (simp [*, errW_none, errW_some] <;> rfl), tR HO111.out, zi72, zb, zk⟩
 ·rw [if_neg c3] at H
  have c3b0 : (t107 == 0) = false := beq_eq_false_iff_ne.mpr c3
  have c3b1 : (t107 != 0) = true := bne_iff_ne.mpr c3
  obtain ⟨y112, hy112⟩ : ∃ y_ : List Int, y_ = (([] : List Int)) := ⟨_, rfl⟩
  replace H : ((spec_l6Rd_pick.f k s0_0 t108 5).bind fun bt115 => ((spec_l6Rd_pick.f k s0_0 bt115.2 12).bind fun bt117 => (if bt117.1 = 0 then (spec_l91Part.j0 k y112 12 s0_0 bt117.2) else (spec_l91Part.j0 k y112 bt115.1 s0_0 bt117.2)))) = some (r1, r2, r3) := by first | (rw [hy112]; with_reducible exact H) | (have H2_ := (Option.bind_some _ _).symm.trans H; rw [hy112]; with_reducible exact H2_) | (have H2_ := (Option.bind_some _ _).symm.trans H; with_reducible exact H2_) | with_reducible exact H | (rw [hy112]; exact H) | exact H
  have Ny112 := Aside0.mk hy112
  clear hy112
  replace H := tbe H
  obtain ⟨⟨t115, t116⟩, A7, H⟩ := H
  dsimp only at H
  replace H := tbe H
  obtain ⟨⟨t117, t118⟩, A8, H⟩ := H
  dsimp only at H
  have HC9 := Aside0.mk H
  clear H
  go_enter Tryd.func42, Tryd.ntmps42
  go_upto_if 16 with (first | ((with_reducible refine gate_callee (f := 24) rfl ?_); refine goesL_ (some 8) rfl rfl Tryd.func24 (by kernel_rfl) rfl #[.pointer (some ⟨g, 0, none⟩), .int .i64 4] rfl tq ?_; (with_reducible refine (spec_l6Rd_pick.calls k g s0_0 s0_1 4 t107 t108 w0 _ ?side1 ?side2 A2.out).mono ?_); (case side1 => exact zi72); (case side2 => exact zb); rintro e w10 ⟨rfl, hi, hb, hk⟩; refine ⟨_, rfl, ?_⟩; replace HK := tKt HK hk; replace HB := Aside0.mk (hb); replace HI0 := Aside0.mk (hi); (try clear hb); (try clear hb2); (try clear hk); (try clear hi)) | ((with_reducible refine gate_dst (N := 11) rfl ?_); refine Kd.R_lit (Kd.int .i64) _ 3 ?hg (N := 11) ?hd (xs := ([] : List Int)) (inner := []) (ok := fun _ => True) (okp := fun _ => True) ?hr ?hp (fun _ hk => hk) trivial (Below.refl _ _) (Nat.le_refl _) (by simp) ?_; (case hd => rfl); (case hg => rfl); (case hr => first | (go_simp; done) | (go_simp; rfl)); (case hp => exact (Reps.none _ _)); intro v113 w11 ho12 hb hg_ hnew_; clear hg_ hnew_; (first | rw [← Ny112.out] at ho12 | (simp only [Int.reduceToNat] at ho12; rw [← Ny112.out] at ho12)); have HO114 := Aside0.mk (Kd.R_lower ho12 (keep_size (w := w) (g := g) (row := none) zk)); replace HI0 := tIb72 HI0 hb; replace HK := tKb HK hb; replace HB := tBs HB hb; clear hb ho12) | ((with_reducible refine gate_callee (f := 24) rfl ?_); refine goesL_ (some 13) rfl rfl Tryd.func24 (by kernel_rfl) rfl #[.pointer (some ⟨g, 0, none⟩), .int .i64 5] rfl tq ?_; (with_reducible refine (spec_l6Rd_pick.calls k g s0_0 t108 5 t115 t116 w0 _ ?side1 ?side2 A7.out).mono ?_); (case side1 => exact zi72); (case side2 => exact zb); rintro e w13 ⟨rfl, hi, hb, hk⟩; refine ⟨_, rfl, ?_⟩; replace HO114 := tRp72 HO114 HI0 hk; replace HK := tKt HK hk; replace HB := Aside0.mk (hb); replace HI0 := Aside0.mk (hi); (try clear hb); (try clear hb2); (try clear hk); (try clear hi)) | ((with_reducible refine gate_callee (f := 24) rfl ?_); refine goesL_ (some 15) rfl rfl Tryd.func24 (by kernel_rfl) rfl #[.pointer (some ⟨g, 0, none⟩), .int .i64 12] rfl tq ?_; (with_reducible refine (spec_l6Rd_pick.calls k g s0_0 t116 12 t117 t118 w0 _ ?side1 ?side2 A8.out).mono ?_); (case side1 => exact zi72); (case side2 => exact zb); rintro e w14 ⟨rfl, hi, hb, hk⟩; refine ⟨_, rfl, ?_⟩; replace HO114 := tRp72 HO114 HI0 hk; replace HK := tKt HK hk; replace HB := Aside0.mk (hb); replace HI0 := Aside0.mk (hi); (try clear hb); (try clear hb2); (try clear hk); (try clear hi)))
  (try simp only [Act.put, List.setIfInBounds_toArray, List.set_cons_zero, List.set_cons_succ])
  go_cut [5] (fun v5 wc => ∃ (kq : Nat) (x5_8 : Int), v5 = .int .i64 x5_8 ∧ Aside0 (spec_l91Part.j0 kq y112 x5_8 s0_0 t118 = some (r1, r2, r3)) ∧ Aside0 (kq ≤ k) ∧ Aside0 (Kd.R (Kd.int .i64) 3 wc w.heap.size (fun _ => True) v113 y112) ∧ Aside0 (IsS72 w0 wc g s0_0 t118) ∧ Aside0 (KeepBut w wc g none) ∧ Aside0 (Below w0.heap.size w0 wc))
  case first =>
   have H := HC9.out
   clear HC9
   by_cases c15 : t117 = 0
   ·rw [if_pos c15] at H
    have c15b0 : (t117 == 0) = true := beq_iff_eq.mpr c15
    have c15b1 : (t117 != 0) = false := bne_eq_false_iff_eq.mpr c15
    clear c15
    (first | rw [c15b0] | (simp only [i64_w, i32_w]; rw [c15b0]) | skip)
    have H' := Aside0.mk H
    clear H
    go_wp2
    go_meet
    case rel => exact ⟨_, (12), tr, H', ⟨by first | omega | exact Nat.le_refl _⟩, ⟨tR HO114.out⟩, ⟨zi72⟩, ⟨zk⟩, ⟨zb⟩⟩
   ·rw [if_neg c15] at H
    have c15b0 : (t117 == 0) = false := beq_eq_false_iff_ne.mpr c15
    have c15b1 : (t117 != 0) = true := bne_iff_ne.mpr c15
    (first | rw [c15b0] | (simp only [i64_w, i32_w]; rw [c15b0]) | skip)
    have H' := Aside0.mk H
    clear H
    go_wp2
    go_meet
    case rel => exact ⟨_, (t115), tr, H', ⟨by first | omega | exact Nat.le_refl _⟩, ⟨tR HO114.out⟩, ⟨zi72⟩, ⟨zk⟩, ⟨zb⟩⟩
  case rest =>
   clear HC9
   try clear c3; try clear c3b0; try clear c3b1
   obtain ⟨kq, x5_8, rfl, HA, HJ8, HO_4, HI0, HK, HB⟩ := hcut
   cases kq with
   | zero => exact absurd HA.out (by simp [spec_l91Part.j0])
   | succ kj8 =>
    have H := HA.out
    clear HA
    simp only [spec_l91Part.j0] at H
    have H' := Aside0.mk H
    clear H
    go_wp2
    go_loopg [4, 6] kj8 (fun kq v4 v6 w' => ∃ (x4_2 : List Int) (x6_2 : Int) (x1001_2 : Int), v6 = .int .i64 x6_2 ∧ Aside0 (spec_l91Part.l0 kq x4_2 x5_8 x6_2 s0_0 x1001_2 = some (r1, r2, r3)) ∧ Aside0 (kq ≤ kj8) ∧ Aside0 (Kd.R (Kd.int .i64) 3 w' w.heap.size (fun _ => True) v4 x4_2) ∧ Aside0 (IsS72 w0 w' g s0_0 x1001_2) ∧ Aside0 (KeepBut w w' g none) ∧ Aside0 (Below w0.heap.size w0 w'))
    case atStart => exact ⟨(y112), (0), (t118), tr, H', ⟨Nat.le_refl _⟩, ⟨tR HO_4.out⟩, ⟨zi72⟩, ⟨zk⟩, ⟨zb⟩⟩
    case round =>
     clear H'
     try clear c3; try clear c3b0; try clear c3b1
     obtain ⟨x4_2, x6_2, x1001_2, rfl, HA, HK2, HO_4, HI0, HK, HB⟩ := hrel
     cases gk with
     | zero => exact absurd HA.out (by simp [spec_l91Part.l0])
     | succ k2 =>
      have H := HA.out
      clear HA
      simp only [spec_l91Part.l0] at H
      by_cases c16 : x6_2 < x5_8
      ·rw [if_pos c16] at H
       have c16b0 : decide (x6_2 < x5_8) = true := decide_eq_true c16
       clear c16
       replace H := tbe H
       obtain ⟨⟨t119, t120⟩, A17, H⟩ := H
       dsimp only at H
       obtain ⟨y121, hy121⟩ : ∃ y_ : List Int, y_ = (([1, 2, 3, t119] : List Int)) := ⟨_, rfl⟩
       replace H : ((spec_l6Rd_pick.f k2 s0_0 t120 4).bind fun bt124 => (if 0 ≤ bt124.1 then (if bt124.1 < (y121.length : Int) then (if x4_2.length < 17592186044416 then (spec_l91Part.l0 k2 (x4_2 ++ [rd y121 bt124.1]) x5_8 (wrap64 (x6_2 + 1)) s0_0 bt124.2) else (none)) else (none)) else (none))) = some (r1, r2, r3) := by first | (rw [hy121]; with_reducible exact H) | (have H2_ := (Option.bind_some _ _).symm.trans H; rw [hy121]; with_reducible exact H2_) | (have H2_ := (Option.bind_some _ _).symm.trans H; with_reducible exact H2_) | with_reducible exact H | (rw [hy121]; exact H) | exact H
       have Ny121 := Aside0.mk hy121
       clear hy121
       replace H := tbe H
       obtain ⟨⟨t124, t125⟩, A18, H⟩ := H
       dsimp only at H
       by_cases c19 : 0 ≤ t124
       ·rw [if_pos c19] at H
        have c19b0 : decide (0 ≤ t124) = true := decide_eq_true c19
        clear c19
        by_cases c20 : t124 < (y121.length : Int)
        ·rw [if_pos c20] at H
         have c20b0 : decide (t124 < (y121.length : Int)) = true := decide_eq_true c20
         clear c20
         by_cases c21 : x4_2.length < 17592186044416
         ·rw [if_pos c21] at H
          have LMc21 := Aside0.mk c21
          clear c21
          obtain ⟨y127, hy127⟩ : ∃ y_ : List Int, y_ = (x4_2 ++ [rd y121 t124]) := ⟨_, rfl⟩
          replace H : (spec_l91Part.l0 k2 y127 x5_8 (wrap64 (x6_2 + 1)) s0_0 t125) = some (r1, r2, r3) := by first | (rw [hy127]; with_reducible exact H) | (have H2_ := (Option.bind_some _ _).symm.trans H; rw [hy127]; with_reducible exact H2_) | (have H2_ := (Option.bind_some _ _).symm.trans H; with_reducible exact H2_) | with_reducible exact H | (rw [hy127]; exact H) | exact H
          have Ny127 := Aside0.mk hy127
          clear hy127
          have H' := Aside0.mk H
          clear H
          go_wp2_with (first | ((with_reducible refine gate_callee (f := 24) rfl ?_); refine goesL_ (some 24) rfl rfl Tryd.func24 (by kernel_rfl) rfl #[.pointer (some ⟨g, 0, none⟩), .int .i64 256] rfl tq ?_; (with_reducible refine (spec_l6Rd_pick.calls k2 g s0_0 x1001_2 256 t119 t120 w0 _ ?side1 ?side2 A17.out).mono ?_); (case side1 => exact zi72); (case side2 => exact zb); rintro e w22 ⟨rfl, hi, hb, hk⟩; refine ⟨_, rfl, ?_⟩; replace HO_4 := tRp72 HO_4 HI0 hk; replace HK := tKt HK hk; replace HB := Aside0.mk (hb); replace HI0 := Aside0.mk (hi); (try clear hb); (try clear hb2); (try clear hk); (try clear hi)) | ((with_reducible refine gate_dst (N := 25) rfl ?_); refine Kd.R_lit (Kd.int .i64) _ 3 ?hg (N := 25) ?hd (xs := ([1, 2, 3, t119] : List Int)) (inner := [.int .i64 1, .int .i64 2, .int .i64 3, .int .i64 t119]) (ok := fun _ => True) (okp := fun _ => True) ?hr ?hp (fun _ hk => hk) trivial (Below.refl _ _) (Nat.le_refl _) (by simp) ?_; (case hd => rfl); (case hg => rfl); (case hr => first | (go_simp; done) | (go_simp; rfl)); (case hp => exact (Reps.one (show Kd.M (Kd.int .i64) _ _ _ 1 [.int .i64 1] from rfl) (Reps.one (show Kd.M (Kd.int .i64) _ _ _ 2 [.int .i64 2] from rfl) (Reps.one (show Kd.M (Kd.int .i64) _ _ _ 3 [.int .i64 3] from rfl) (Reps.one (show Kd.M (Kd.int .i64) _ _ _ t119 [.int .i64 t119] from rfl) (Reps.none _ _)))))); intro v122 w23 ho24 hb hg_ hnew_; clear hg_ hnew_; (first | rw [← Ny121.out] at ho24 | (simp only [Int.reduceToNat] at ho24; rw [← Ny121.out] at ho24)); have HO123 := Aside0.mk (Kd.R_lower (Kd.R_new' ho24 (Kd.R_lt (tR HO_4.out))) (keep_size (w := w) (g := g) (row := none) zk)); replace HO_4 := Aside0.mk (Kd.R_elder' (tR HO_4.out) (Kd.R_base ho24) hb); replace HI0 := tIb72 HI0 hb; replace HK := tKb HK hb; replace HB := tBs HB hb; clear hb ho24) | ((with_reducible refine gate_callee (f := 24) rfl ?_); refine goesL_ (some 27) rfl rfl Tryd.func24 (by kernel_rfl) rfl #[.pointer (some ⟨g, 0, none⟩), .int .i64 4] rfl tq ?_; (with_reducible refine (spec_l6Rd_pick.calls k2 g s0_0 t120 4 t124 t125 w0 _ ?side1 ?side2 A18.out).mono ?_); (case side1 => exact zi72); (case side2 => exact zb); rintro e w25 ⟨rfl, hi, hb, hk⟩; refine ⟨_, rfl, ?_⟩; replace HO_4 := tRp72 HO_4 HI0 hk; replace HO123 := tRp72 HO123 HI0 hk; replace HK := tKt HK hk; replace HB := Aside0.mk (hb); replace HI0 := Aside0.mk (hi); (try clear hb); (try clear hb2); (try clear hk); (try clear hi); obtain ⟨Ao26, co26, eo26⟩ := Kd.R_slice HO123.out; subst eo26; have p126 : 0 ≤ (t124 : Int) := td; have q126 : t124 < (y121.length : Int) := td; obtain ⟨ad126, e126, hx126_0⟩ := Kd.at_int (Kd.R_reads' HO123.out).2.2 t124 p126 q126; cases e126; replace p126 := eq_true p126; replace q126 := eq_true q126) | ((with_reducible refine gate_builtin (b := .append) (xs := #[.tmp 22, .tmp 30]) rfl ?_); at_builtin; refine Kd.R_append (Kd.int .i64) w.heap.size rfl (.tmp 22) (.tmp 30) 39 3 (.int .i64 0) 8 rfl Tryd.underlying39 info3 rfl (by decide) (by omega) u4 x4_2 (rd y121 t124) [.int .i64 (rd y121 t124)] (fun k_ => some k_ ≠ (.slice (some ad126) y121.length co26 : Value).ownBlock) (fun _ => False) rfl rfl ?aP (fun _ hk => hk.elim) ?aF ?aO (Below.refl _ _) ?aS ?aL ?_; (case aP => exact rfl); (case aF => exact (fun k_ hk => Kd.fresh' (Kd.R_lt (tR HO123.out)) k_ hk)); (case aO => exact (tRm HO_4.out)); (case aS => exact (keep_size (w := w) (g := g) (row := none) zk)); (case aL => have := LMc21.out; omega); intro v128 w27 ho hb hg hat; rw [← Ny127.out] at ho; replace HO123 := Aside0.mk (Kd.R_after (ok := (fun _ => True)) (tR HO123.out) hg hat); replace HB := Aside0.mk (below_weaken zb HL.out hb); replace HI0 := Aside0.mk (IsS72.grown zi72 hg (IsS72.own_ne HI0.out HO_4.out (by decide))); replace HK := Aside0.mk (KeepBut.trans zk (KeepBut.of_grown hg g) (Kd.R_base2 HO_4.out)); have HO129 := Aside0.mk (ho); clear HO_4; clear ho hb hg hat))
          go_roundg k2
          case measure => have := HJ8.out; have := HK2.out; omega
          case rel => exact ⟨(y127), (wrap64 (x6_2 + 1)), (t125), tr, H', ⟨by have := HJ8.out; have := HK2.out; omega⟩, ⟨tRm HO129.out⟩, ⟨zi72⟩, ⟨zk⟩, ⟨zb⟩⟩
         ·rw [if_neg c21] at H
          exact absurd H (by simp)
        ·rw [if_neg c20] at H
         exact absurd H (by simp)
       ·rw [if_neg c19] at H
        exact absurd H (by simp)
      ·rw [if_neg c16] at H
       have c16b0 : decide (x6_2 < x5_8) = false := decide_eq_false c16
       clear c16
       simp only [Option.some.injEq, Prod.mk.injEq] at H
       obtain ⟨rfl, rfl, rfl⟩ := H
       go_wp2
       go_ret2
       exact ⟨_, by first | rfl | (simp [errW_none, errW_some] <;> rfl) | (simp [*, errW_none, errW_some] <;> rfl), tR HO_4.out, zi72, zb, zk⟩

mutual
def spec_l91Records.l0 : Nat → Int → List (S41) → Int → Int → Int → List Int → Int → Option ((List (S41)) × Int)
 | 0, _, _, _, _, _, _, _ => none
 | k + 1, x1, x7, x8, x9, x10, x1000, x1001 => if x10 < x8 then ((spec_l91Part.f k x1000 x1001).bind fun bt138 => ((spec_l91Part.f k x1000 bt138.2.2).bind fun bt143 => (if bt138.1 = true then ((spec_l6Rd_pick.f k x1000 bt143.2.2 2).bind fun bt148 => (spec_l91Records.j1 k x1 x7 x8 x9 x10 bt143.1 bt143.2.1 (bt148.1 == 0) x1000 bt148.2 x1 x9 bt138.1 bt138.2.1 false)) else (spec_l91Records.j1 k x1 x7 x8 x9 x10 bt143.1 bt143.2.1 false x1000 bt143.2.2 x1 x9 bt138.1 bt138.2.1 false)))) else (some (x7, x1001))
def spec_l91Records.j1 : Nat → Int → List (S41) → Int → Int → Int → Bool → List Int → Bool → List Int → Int → Int → Int → Bool → List Int → Bool → Option ((List (S41)) × Int)
 | 0, _, _, _, _, _, _, _, _, _, _, _, _, _, _, _ => none
 | k + 1, x1, x7, x8, x9, x10, x14, x15, x50, x1000, x1001, x138000, x138001, x138002, x138003, x138004 => if x50 = true then ((spec_l6Rd_pick.f k x1000 x1001 3).bind fun bt150 => (if x7.length < 1759218604441 then ((spec_l6Rd_pick.f k x1000 bt150.2 5).bind fun bt158 => ((spec_l6Rd_pick.f k x1000 bt158.2 30).bind fun bt160 => (spec_l91Records.l0 k (wrap64 ((wrap64 (x1 + 1)) + (wrap64 (Int.tdiv bt158.1 4)))) (x7 ++ [(⟨x138000, x138001, x138002, (([bt150.1] : List Int)), x14, x15⟩ : S41)]) x8 (mx (wrap64 ((wrap64 (x9 + bt160.1)) - 6)) 0) (wrap64 (x10 + 1)) x1000 bt160.2))) else (none))) else (if x7.length < 1759218604441 then ((spec_l6Rd_pick.f k x1000 x1001 5).bind fun bt165 => ((spec_l6Rd_pick.f k x1000 bt165.2 30).bind fun bt167 => (spec_l91Records.l0 k (wrap64 ((wrap64 (x1 + 1)) + (wrap64 (Int.tdiv bt165.1 4)))) (x7 ++ [(⟨x138000, x138001, x138002, x138003, x14, x15⟩ : S41)]) x8 (mx (wrap64 ((wrap64 (x9 + bt167.1)) - 6)) 0) (wrap64 (x10 + 1)) x1000 bt167.2))) else (none))
end
def spec_l91Records.f (k : Nat) (s0_0 : List Int) (s0_1 : Int) (a1 : Int) (a2 : Int) : Option ((List (S41)) × Int) := (spec_l6Rd_pick.f k s0_0 s0_1 a2).bind fun bt133 => ((spec_l6Rd_pick.f k s0_0 bt133.2 200).bind fun bt135 => (spec_l91Records.l0 k a1 (([] : List (S41))) (wrap64 (1 + bt133.1)) bt135.1 0 s0_0 bt135.2))
set_option maxHeartbeats 8000000 in
set_option maxRecDepth 100000 in
theorem spec_l91Records.calls (k : Nat) (g : Nat) (s0_0 : List Int) (s0_1 : Int) (a1 : Int) (a2 : Int) (r1 : List (S41)) (r2 : Int) (w0 w : World) (hI : IsS72 w0 w g s0_0 s0_1) (hB : Below w0.heap.size w0 w) (h : spec_l91Records.f k s0_0 s0_1 a1 a2 = some (r1, r2)) :
  Calls Tryd.prog 25 #[.pointer (some ⟨g, 0, none⟩), .int .i64 a1, .int .i64 a2] w fun e w' => ∃ v0_ : Value, e = .returned (v0_) ∧ Kd.S k41 41 w' w.heap.size (fun _ => True) v0_ r1 ∧ IsS72 w0 w' g s0_0 r2 ∧ Below w0.heap.size w0 w' ∧ KeepBut w w' g none := by
 have hu41 := Tryd.underlying41
 have HI0 := Aside0.mk hI
 have HK := Aside0.mk (KeepBut.refl w g none)
 have HL := Aside0.mk hB.size
 clear hI
 have HW0 := Aside0.mk hB.size
 have HB := Aside0.mk hB
 clear hB
 have H : ((spec_l6Rd_pick.f k s0_0 s0_1 a2).bind fun bt133 => ((spec_l6Rd_pick.f k s0_0 bt133.2 200).bind fun bt135 => (spec_l91Records.l0 k a1 (([] : List (S41))) (wrap64 (1 + bt133.1)) bt135.1 0 s0_0 bt135.2))) = some (r1, r2) := h
 clear h
 obtain ⟨y130, hy130⟩ : ∃ y_ : List (S41), y_ = (([] : List (S41))) := ⟨_, rfl⟩
 replace H : ((spec_l6Rd_pick.f k s0_0 s0_1 a2).bind fun bt133 => ((spec_l6Rd_pick.f k s0_0 bt133.2 200).bind fun bt135 => (spec_l91Records.l0 k a1 y130 (wrap64 (1 + bt133.1)) bt135.1 0 s0_0 bt135.2))) = some (r1, r2) := by first | (rw [hy130]; with_reducible exact H) | (have H2_ := (Option.bind_some _ _).symm.trans H; rw [hy130]; with_reducible exact H2_) | (have H2_ := (Option.bind_some _ _).symm.trans H; with_reducible exact H2_) | with_reducible exact H | (rw [hy130]; exact H) | exact H
 have Ny130 := Aside0.mk hy130
 clear hy130
 replace H := tbe H
 obtain ⟨⟨t133, t134⟩, A4, H⟩ := H
 dsimp only at H
 replace H := tbe H
 obtain ⟨⟨t135, t136⟩, A5, H⟩ := H
 dsimp only at H
 have H' := Aside0.mk H
 clear H
 go_enter Tryd.func25, Tryd.ntmps25
 go_wp2_with (first | ((with_reducible refine gate_dst (N := 16) rfl ?_); refine Kd.S_lit k41 _ 41 ?hg (N := 16) ?hd (xs := ([] : List (S41))) (inner := []) (ok := fun _ => True) (okp := fun _ => True) ?hr ?hp (fun _ hk => hk) trivial (Below.refl _ _) (Nat.le_refl _) (by simp) ?_; (case hd => rfl); (case hg => rfl); (case hr => first | (go_simp; done) | (go_simp; rfl)); (case hp => exact (Reps.none _ _)); intro v131 w6 ho7 hb hg_ hnew_; clear hg_ hnew_; (first | rw [← Ny130.out] at ho7 | (simp only [Int.reduceToNat] at ho7; rw [← Ny130.out] at ho7)); have HO132 := Aside0.mk (Kd.S_lower ho7 (keep_size (w := w) (g := g) (row := none) zk)); replace HI0 := tIb72 HI0 hb; replace HK := tKb HK hb; replace HB := tBs HB hb; clear hb ho7) | ((with_reducible refine gate_callee (f := 24) rfl ?_); refine goesL_ (some 19) rfl rfl Tryd.func24 (by kernel_rfl) rfl #[.pointer (some ⟨g, 0, none⟩), .int .i64 a2] rfl tq ?_; (with_reducible refine (spec_l6Rd_pick.calls k g s0_0 s0_1 a2 t133 t134 w0 _ ?side1 ?side2 A4.out).mono ?_); (case side1 => exact zi72); (case side2 => exact zb); rintro e w8 ⟨rfl, hi, hb, hk⟩; refine ⟨_, rfl, ?_⟩; replace HO132 := tSp72 HO132 HI0 hk; replace HK := tKt HK hk; replace HB := Aside0.mk (hb); replace HI0 := Aside0.mk (hi); (try clear hb); (try clear hb2); (try clear hk); (try clear hi)) | ((with_reducible refine gate_callee (f := 24) rfl ?_); refine goesL_ (some 22) rfl rfl Tryd.func24 (by kernel_rfl) rfl #[.pointer (some ⟨g, 0, none⟩), .int .i64 200] rfl tq ?_; (with_reducible refine (spec_l6Rd_pick.calls k g s0_0 t134 200 t135 t136 w0 _ ?side1 ?side2 A5.out).mono ?_); (case side1 => exact zi72); (case side2 => exact zb); rintro e w9 ⟨rfl, hi, hb, hk⟩; refine ⟨_, rfl, ?_⟩; replace HO132 := tSp72 HO132 HI0 hk; replace HK := tKt HK hk; replace HB := Aside0.mk (hb); replace HI0 := Aside0.mk (hi); (try clear hb); (try clear hb2); (try clear hk); (try clear hi)))
 go_loopg [1, 7, 9, 10] k (fun kq v1 v7 v9 v10 w' => ∃ (x1_1 : Int) (x7_1 : List (S41)) (x9_1 : Int) (x10_1 : Int) (x1001_1 : Int), v1 = .int .i64 x1_1 ∧ v9 = .int .i64 x9_1 ∧ v10 = .int .i64 x10_1 ∧ Aside0 (spec_l91Records.l0 kq x1_1 x7_1 (wrap64 (1 + t133)) x9_1 x10_1 s0_0 x1001_1 = some (r1, r2)) ∧ Aside0 (kq ≤ k) ∧ Aside0 (Kd.S k41 41 w' w.heap.size (fun _ => True) v7 x7_1) ∧ Aside0 (IsS72 w0 w' g s0_0 x1001_1) ∧ Aside0 (KeepBut w w' g none) ∧ Aside0 (Below w0.heap.size w0 w'))
 case atStart => exact ⟨(a1), (y130), (t135), (0), (t136), tr, tr, tr, H', ⟨Nat.le_refl _⟩, ⟨tS HO132.out⟩, ⟨zi72⟩, ⟨zk⟩, ⟨zb⟩⟩
 case round =>
  clear H'
  obtain ⟨x1_1, x7_1, x9_1, x10_1, x1001_1, rfl, rfl, rfl, HA, HK1, HO_7, HI0, HK, HB⟩ := hrel
  cases gk with
  | zero => exact absurd HA.out (by simp [spec_l91Records.l0])
  | succ k1 =>
   have H := HA.out
   clear HA
   simp only [spec_l91Records.l0] at H
   by_cases c10 : x10_1 < (wrap64 (1 + t133))
   ·rw [if_pos c10] at H
    have c10b0 : decide (x10_1 < (wrap64 (1 + t133))) = true := decide_eq_true c10
    clear c10
    replace H := tbe H
    obtain ⟨⟨t138, t139, t142⟩, A11, H⟩ := H
    dsimp only at H
    replace H := tbe H
    obtain ⟨⟨t143, t144, t147⟩, A12, H⟩ := H
    dsimp only at H
    have HC13 := Aside0.mk H
    clear H
    go_upto_region 12 with (first | ((with_reducible refine gate_dst (N := 11) rfl ?_); refine box_event ?hg (N := 11) ?hd (cs := #[.int .i64 0, .int .i64 0, .bool false, .slice none 0 0, .bool false, .slice none 0 0]) (t := 41) ?hr ?_; (case hd => rfl); (case hg => rfl); (case hr => first | (go_simp; done) | (go_simp; rfl)); intro gb137 hg w14 hbox hb; replace HO_7 := tSB HO_7 hg hb; replace HB := tBs HB hb; have BK137 := Aside0.mk (hbox); have GW137 := Aside0.mk ((by rw [hg]; exact (keep_size (w := w) (g := g) (row := none) zk) : w.heap.size ≤ gb137)); have GE137 := Aside0.mk ((Nat.le_trans HW0.out (by rw [hg]; exact (keep_size (w := w) (g := g) (row := none) zk) : w.heap.size ≤ gb137) : w0.heap.size ≤ gb137)); replace HK := tKb HK hb; have NB0_137 := Aside0.mk ((by rw [hg]; exact Nat.ne_of_lt (IsS72.lt (show IsS72 w0 _ g s0_0 x1001_1 from zi72)) : g ≠ gb137)); have NB137_0 := Aside0.mk ((by rw [hg]; exact Nat.ne_of_gt (IsS72.lt (show IsS72 w0 _ g s0_0 x1001_1 from zi72)) : gb137 ≠ g)); replace HI0 := tIb72 HI0 hb; clear hb hbox hg; have hnb15 := NB137_0.out; have hnc15 := NB0_137.out; obtain ⟨hcz16_0, hcz16_1, hcz16_2, hcz16_3, hcz16_4, hcz16_5, hfz16_0, hfz16_1, hfz16_2, hfz16_3, hfz16_4, hfz16_5⟩ := cells6 BK137.out) | ((with_reducible refine gate_callee (f := 42) rfl ?_); refine goesL_ (some 33) rfl rfl Tryd.func42 (by kernel_rfl) rfl #[.pointer (some ⟨g, 0, none⟩)] rfl tq ?_; (with_reducible refine (spec_l91Part.calls k1 g s0_0 x1001_1 t138 t139 t142 w0 _ ?side1 ?side2 A11.out).mono ?_); (case side1 => exact zi72); (case side2 => exact zb); rintro e w17 ⟨v140, rfl, ho0, hi, hb, hk⟩; have u_v140 := tsv Tryd.prog v140 ho0; refine ⟨_, rfl, ?_⟩; replace HO_7 := Aside0.mk (Kd.S_mono (Kd.S_told (Kd.S_oldK (IsS72.apartS (show IsS72 w0 _ g s0_0 x1001_1 from zi72) (tS HO_7.out) (by decide)) hk) (Kd.R_base ho0)) (fun _ h_ => h_.1)); replace BK137 := tBq (o' := .cells #[.int .i64 x1_1, .int .i64 x9_1, .bool false, .slice none 0 0, .bool false, .slice none 0 0] 41 (0, 0)) BK137 hk NB137_0; have HO141 := Aside0.mk (Kd.R_lower ho0 (keep_size (w := w) (g := g) (row := none) zk)); replace HK := tKt HK hk; replace HB := Aside0.mk (hb); replace HI0 := Aside0.mk (hi); (try clear hb); (try clear hb2); (try clear hk); (try clear hi); (try clear ho0)) | ((with_reducible refine gate_callee (f := 42) rfl ?_); refine goesL_ (some 38) rfl rfl Tryd.func42 (by kernel_rfl) rfl #[.pointer (some ⟨g, 0, none⟩)] rfl tq ?_; (with_reducible refine (spec_l91Part.calls k1 g s0_0 t142 t143 t144 t147 w0 _ ?side1 ?side2 A12.out).mono ?_); (case side1 => exact zi72); (case side2 => exact zb); rintro e w18 ⟨v145, rfl, ho0, hi, hb, hk⟩; have u_v145 := tsv Tryd.prog v145 ho0; refine ⟨_, rfl, ?_⟩; replace HO_7 := Aside0.mk (Kd.S_mono (Kd.S_told (Kd.S_oldK (IsS72.apartS (show IsS72 w0 _ g s0_0 t142 from zi72) (tS HO_7.out) (by decide)) hk) (Kd.R_base ho0)) (fun _ h_ => h_.1)); replace BK137 := tBk BK137 hk NB137_0; have HO146 := Aside0.mk (Kd.R_lower (Kd.R_new' ho0 (Kd.R_lt (tR HO141.out))) (keep_size (w := w) (g := g) (row := none) zk)); replace HO141 := Aside0.mk (Kd.R_mono (Kd.R_told (Kd.R_oldK (IsS72.apart (show IsS72 w0 _ g s0_0 t142 from zi72) (tR HO141.out) (by decide)) hk) (Kd.R_base ho0)) (fun _ h_ => h_.1)); replace HK := tKt HK hk; replace HB := Aside0.mk (hb); replace HI0 := Aside0.mk (hi); (try clear hb); (try clear hb2); (try clear hk); (try clear hi); (try clear ho0); obtain ⟨hcz19_0, hcz19_1, hcz19_2, hcz19_3, hcz19_4, hcz19_5, hfz19_0, hfz19_1, hfz19_2, hfz19_3, hfz19_4, hfz19_5⟩ := cells6 BK137.out; obtain ⟨Ao20, co20, eo20⟩ := Kd.R_slice HO141.out; subst eo20))
    (try simp only [Act.put, List.setIfInBounds_toArray, List.set_cons_zero, List.set_cons_succ])
    go_cut [50] (fun v50 wc => ∃ (kq : Nat) (x50_12 : Bool) (x1001_12 : Int), v50 = .bool x50_12 ∧ Aside0 (spec_l91Records.j1 kq x1_1 x7_1 (wrap64 (1 + t133)) x9_1 x10_1 t143 t144 x50_12 s0_0 x1001_12 x1_1 x9_1 t138 t139 false = some (r1, r2)) ∧ Aside0 (kq ≤ k1) ∧ Aside0 (Kd.S k41 41 wc w.heap.size (fun k_ => some k_ ≠ (v145 : Value).ownBlock ∧ some k_ ≠ ((.slice Ao20 t139.length co20) : Value).ownBlock ∧ k_ ≠ gb137) u7 x7_1) ∧ Aside0 (Kd.R (Kd.int .i64) 3 wc w.heap.size (fun k_ => some k_ ≠ ((.slice Ao20 t139.length co20) : Value).ownBlock) v145 t144) ∧ Aside0 (Kd.R (Kd.int .i64) 3 wc w.heap.size (fun k_ => some k_ ≠ (v145 : Value).ownBlock) (.slice Ao20 t139.length co20) t139) ∧ Aside0 (wc.heap[gb137]? = some (.cells #[.int .i64 x1_1, .int .i64 x9_1, .bool t138, (.slice Ao20 t139.length co20), .bool false, (.slice none 0 0)] 41 (0, 0))) ∧ Aside0 (IsS72 w0 wc g s0_0 x1001_12) ∧ Aside0 (KeepBut w wc g none) ∧ Aside0 (Below w0.heap.size w0 wc))
    case first =>
     have H := HC13.out
     clear HC13
     by_cases c21 : t138 = true
     ·subst c21
      rw [if_pos rfl] at H
      replace H := tbe H
      obtain ⟨⟨t148, t149⟩, A22, H⟩ := H
      dsimp only at H
      have H' := Aside0.mk H
      clear H
      go_wp2_with (first | (go_at_call 24; (with_reducible refine (spec_l6Rd_pick.calls k1 g s0_0 t147 2 t148 t149 w0 _ ?side1 ?side2 A22.out).mono ?_); (case side1 => exact zi72); (case side2 => exact zb); rintro e w23 ⟨rfl, hi, hb, hk⟩; replace HO_7 := tSp72 HO_7 HI0 hk; replace HO141 := Aside0.mk (Kd.R_mono (Kd.R_keep (IsS72.apart (show IsS72 w0 _ g s0_0 t147 from zi72) (tRt HO141.out BK137.out) (by decide)) hk (fun _ h => h.2)) (fun _ h => h.1)); replace HO146 := Aside0.mk (Kd.R_mono (Kd.R_keep (IsS72.apart (show IsS72 w0 _ g s0_0 t147 from zi72) (tRt HO146.out BK137.out) (by decide)) hk (fun _ h => h.2)) (fun _ h => h.1)); replace BK137 := tBq (o' := .cells #[.int .i64 x1_1, .int .i64 x9_1, .bool true, .slice Ao20 t139.length co20, .bool false, .slice none 0 0] 41 (0, 0)) BK137 hk NB137_0; replace HK := tKt HK hk; replace HB := Aside0.mk (hb); replace HI0 := Aside0.mk (hi); (try clear hb); (try clear hb2); (try clear hk); (try clear hi)))
      go_meet
      case rel => exact ⟨_, ((t148 == 0)), (t149), tr, H', ⟨by have := HK1.out; first | omega | exact Nat.le_refl _⟩, ⟨tSm HO_7.out⟩, ⟨tRm HO146.out⟩, ⟨tRm HO141.out⟩, ⟨tH BK137.out⟩, ⟨zi72⟩, ⟨zk⟩, ⟨zb⟩⟩
     ·replace c21 := Bool.eq_false_iff.mpr c21
      subst c21
      rw [if_neg (show ¬ (false = true) by decide)] at H
      have H' := Aside0.mk H
      clear H
      go_wp2
      go_meet
      case rel => exact ⟨_, (false), (t147), tr, H', ⟨by have := HK1.out; first | omega | exact Nat.le_refl _⟩, ⟨tSm HO_7.out⟩, ⟨tRm (Kd.R_types HO146.out BK137.out (by decide))⟩, ⟨tRm (Kd.R_types HO141.out BK137.out (by decide))⟩, ⟨tP BK137.out⟩, ⟨zi72⟩, ⟨zk⟩, ⟨zb⟩⟩
    case rest =>
     clear HC13
     try clear c10; try clear c10b0; try clear hcz16_0; try clear hcz16_1; try clear hcz16_2; try clear hcz16_3; try clear hcz16_4; try clear hcz16_5; try clear hcz19_0; try clear hcz19_1; try clear hcz19_2; try clear hcz19_3; try clear hcz19_4; try clear hcz19_5; try clear hfz16_0; try clear hfz16_1; try clear hfz16_2; try clear hfz16_3; try clear hfz16_4; try clear hfz16_5; try clear hfz19_0; try clear hfz19_1; try clear hfz19_2; try clear hfz19_3; try clear hfz19_4; try clear hfz19_5
     obtain ⟨kq, x50_12, x1001_12, rfl, HA, HJ12, HO_7, HO_15, HO_138003, BK137, HI0, HK, HB⟩ := hcut
     cases kq with
     | zero => exact absurd HA.out (by simp [spec_l91Records.j1])
     | succ kj12 =>
      have H := HA.out
      clear HA
      simp only [spec_l91Records.j1] at H
      by_cases c24 : x50_12 = true
      ·subst c24
       rw [if_pos rfl] at H
       replace H := tbe H
       obtain ⟨⟨t150, t151⟩, A25, H⟩ := H
       dsimp only at H
       obtain ⟨y152, hy152⟩ : ∃ y_ : List Int, y_ = (([t150] : List Int)) := ⟨_, rfl⟩
       replace H : (if x7_1.length < 1759218604441 then ((spec_l6Rd_pick.f kj12 s0_0 t151 5).bind fun bt158 => ((spec_l6Rd_pick.f kj12 s0_0 bt158.2 30).bind fun bt160 => (spec_l91Records.l0 kj12 (wrap64 ((wrap64 (x1_1 + 1)) + (wrap64 (Int.tdiv bt158.1 4)))) (x7_1 ++ [(⟨x1_1, x9_1, t138, y152, t143, t144⟩ : S41)]) (wrap64 (1 + t133)) (mx (wrap64 ((wrap64 (x9_1 + bt160.1)) - 6)) 0) (wrap64 (x10_1 + 1)) s0_0 bt160.2))) else (none)) = some (r1, r2) := by first | (rw [hy152]; with_reducible exact H) | (have H2_ := (Option.bind_some _ _).symm.trans H; rw [hy152]; with_reducible exact H2_) | (have H2_ := (Option.bind_some _ _).symm.trans H; with_reducible exact H2_) | with_reducible exact H | (rw [hy152]; exact H) | exact H
       have Ny152 := Aside0.mk hy152
       clear hy152
       by_cases c26 : x7_1.length < 1759218604441
       ·rw [if_pos c26] at H
        have LMc26 := Aside0.mk c26
        clear c26
        obtain ⟨y155, hy155⟩ : ∃ y_ : List (S41), y_ = (x7_1 ++ [(⟨x1_1, x9_1, t138, y152, t143, t144⟩ : S41)]) := ⟨_, rfl⟩
        replace H : ((spec_l6Rd_pick.f kj12 s0_0 t151 5).bind fun bt158 => ((spec_l6Rd_pick.f kj12 s0_0 bt158.2 30).bind fun bt160 => (spec_l91Records.l0 kj12 (wrap64 ((wrap64 (x1_1 + 1)) + (wrap64 (Int.tdiv bt158.1 4)))) y155 (wrap64 (1 + t133)) (mx (wrap64 ((wrap64 (x9_1 + bt160.1)) - 6)) 0) (wrap64 (x10_1 + 1)) s0_0 bt160.2))) = some (r1, r2) := by first | (rw [hy155]; with_reducible exact H) | (have H2_ := (Option.bind_some _ _).symm.trans H; rw [hy155]; with_reducible exact H2_) | (have H2_ := (Option.bind_some _ _).symm.trans H; with_reducible exact H2_) | with_reducible exact H | (rw [hy155]; exact H) | exact H
        have Ny155 := Aside0.mk hy155
        clear hy155
        replace H := tbe H
        obtain ⟨⟨t158, t159⟩, A27, H⟩ := H
        dsimp only at H
        replace H := tbe H
        obtain ⟨⟨t160, t161⟩, A28, H⟩ := H
        dsimp only at H
        obtain ⟨ji29, hji29⟩ : ∃ j_ : Int, (mx (wrap64 ((wrap64 (x9_1 + t160)) - 6)) 0) = j_ := ⟨_, rfl⟩
        replace H : (spec_l91Records.l0 kj12 (wrap64 ((wrap64 (x1_1 + 1)) + (wrap64 (Int.tdiv t158 4)))) y155 (wrap64 (1 + t133)) ji29 (wrap64 (x10_1 + 1)) s0_0 t161) = some (r1, r2) := by first | (rw [hji29] at H; exact H) | (simp only [hji29] at H ⊢; exact H)
        (try rw [hji29] at A25)
        (try rw [hji29] at A27)
        (try rw [hji29] at A28)
        have hji29_ : (if (wrap64 ((wrap64 (x9_1 + t160)) - 6)) < 0 then 0 else (wrap64 ((wrap64 (x9_1 + t160)) - 6))) = ji29 := hji29
        have H' := Aside0.mk H
        clear H
        go_wp2_with (first | ((with_reducible refine gate_callee (f := 24) rfl ?_); refine goesL_ (some 52) rfl rfl Tryd.func24 (by kernel_rfl) rfl #[.pointer (some ⟨g, 0, none⟩), .int .i64 3] rfl tq ?_; (with_reducible refine (spec_l6Rd_pick.calls kj12 g s0_0 x1001_12 3 t150 t151 w0 _ ?side1 ?side2 A25.out).mono ?_); (case side1 => exact zi72); (case side2 => exact zb); rintro e w30 ⟨rfl, hi, hb, hk⟩; refine ⟨_, rfl, ?_⟩; replace HO_7 := tSp72 HO_7 HI0 hk; replace HO_15 := tRp72 HO_15 HI0 hk; replace HO_138003 := tRp72 HO_138003 HI0 hk; replace BK137 := tBk BK137 hk NB137_0; replace HK := tKt HK hk; replace HB := Aside0.mk (hb); replace HI0 := Aside0.mk (hi); (try clear hb); (try clear hb2); (try clear hk); (try clear hi)) | ((with_reducible refine gate_dst (N := 53) rfl ?_); refine Kd.R_lit (Kd.int .i64) _ 3 ?hg (N := 53) ?hd (xs := ([t150] : List Int)) (inner := [.int .i64 t150]) (ok := fun _ => True) (okp := fun _ => True) ?hr ?hp (fun _ hk => hk) trivial (Below.refl _ _) (Nat.le_refl _) (by simp) ?_; (case hd => rfl); (case hg => rfl); (case hr => first | (go_simp; done) | (go_simp; rfl)); (case hp => exact (Reps.one (show Kd.M (Kd.int .i64) _ _ _ t150 [.int .i64 t150] from rfl) (Reps.none _ _))); intro v153 w31 ho32 hb hg_ hnew_; clear hg_ hnew_; (first | rw [← Ny152.out] at ho32 | (simp only [Int.reduceToNat] at ho32; rw [← Ny152.out] at ho32)); replace HO_7 := Aside0.mk (Kd.S_elder' (tS HO_7.out) (Kd.R_base ho32) hb); have HO154 := Aside0.mk (Kd.R_lower (Kd.R_new' (Kd.R_new' ho32 (Kd.R_lt (tR HO_15.out))) (Kd.R_lt (tR HO_138003.out))) (keep_size (w := w) (g := g) (row := none) zk)); replace HO_15 := Aside0.mk (Kd.R_elder' (tR HO_15.out) (Kd.R_base ho32) hb); replace HO_138003 := Aside0.mk (Kd.R_elder' (tR HO_138003.out) (Kd.R_base ho32) hb); replace BK137 := tBb BK137 hb; replace HI0 := tIb72 HI0 hb; replace HK := tKb HK hb; replace HB := tBs HB hb; clear hb ho32; obtain ⟨Ao33, co33, eo33⟩ := Kd.R_slice HO154.out; subst eo33; have hnb34 := NB137_0.out; have hnc34 := NB0_137.out; obtain ⟨hcz35_0, hcz35_1, hcz35_2, hcz35_3, hcz35_4, hcz35_5, hfz35_0, hfz35_1, hfz35_2, hfz35_3, hfz35_4, hfz35_5⟩ := cells6 BK137.out) | ((with_reducible refine gate_store (t := 39) (p := 54) rfl ?_); refine store_event (t := 39) (p := 54) (v := ?vo_w36) (w1 := (w31.setCell ⟨gb137, 3, none⟩ (.slice Ao33 y152.length co33))) ?hg ?ho ?hn ?hr ?_; (case ho => rfl); (case hg => rfl); (case hn => rfl); (case hr => first | (go_simp; done) | (go_simp; rfl)); intro w36 hw; have n0_ : Aside0 (Kd.S k41 41 w36 w.heap.size (fun k_ => some k_ ≠ (v145 : Value).ownBlock ∧ some k_ ≠ (.slice Ao20 t139.length co20 : Value).ownBlock ∧ some k_ ≠ (.slice Ao33 y152.length co33 : Value).ownBlock ∧ k_ ≠ gb137) u7 x7_1) := ⟨(by rw [hw]; exact (tSm HO_7.out))⟩; have n1_ : Aside0 (Kd.R (Kd.int .i64) 3 w36 w.heap.size (fun k_ => some k_ ≠ (.slice Ao20 t139.length co20 : Value).ownBlock ∧ some k_ ≠ (.slice Ao33 y152.length co33 : Value).ownBlock) v145 t144) := ⟨(by rw [hw]; exact (tRm (Kd.R_types HO_15.out BK137.out (by decide))))⟩; have n2_ : Aside0 (Kd.R (Kd.int .i64) 3 w36 w.heap.size (fun k_ => some k_ ≠ (v145 : Value).ownBlock ∧ some k_ ≠ (.slice Ao33 y152.length co33 : Value).ownBlock) (.slice Ao20 t139.length co20) t139) := ⟨(by rw [hw]; exact (tRm (Kd.R_types HO_138003.out BK137.out (by decide))))⟩; have n3_ : Aside0 (Kd.R (Kd.int .i64) 3 w36 w.heap.size (fun k_ => some k_ ≠ (v145 : Value).ownBlock ∧ some k_ ≠ (.slice Ao20 t139.length co20 : Value).ownBlock) (.slice Ao33 y152.length co33) y152) := ⟨(by rw [hw]; exact (tRm (Kd.R_types HO154.out BK137.out (by decide))))⟩; have n4_ : Aside0 (w36.heap[gb137]? = some (.cells #[.int .i64 x1_1, .int .i64 x9_1, .bool t138, .slice Ao33 y152.length co33, .bool false, .slice none 0 0] 41 (0, 0))) := ⟨(by rw [hw]; exact (tP BK137.out))⟩; have n5_ : Aside0 (IsS72 w0 w36 g s0_0 t151) := ⟨(by rw [hw]; exact zi72)⟩; have n6_ : Aside0 (KeepBut w w36 g none) := ⟨(by rw [hw]; exact zk)⟩; have n7_ : Aside0 (Below w0.heap.size w0 w36) := ⟨(by rw [hw]; exact zb)⟩; clear hw; clear HO_7; clear HO_15; clear HO_138003; clear HO154; clear BK137; clear HI0; clear HK; clear HB; have HO_7 := n0_; have HO_15 := n1_; have HO_138003 := n2_; have HO154 := n3_; have BK137 := n4_; have HI0 := n5_; have HK := n6_; have HB := n7_; clear n0_ n1_ n2_ n3_ n4_ n5_ n6_ n7_; obtain ⟨hcz37_0, hcz37_1, hcz37_2, hcz37_3, hcz37_4, hcz37_5, hfz37_0, hfz37_1, hfz37_2, hfz37_3, hfz37_4, hfz37_5⟩ := cells6 BK137.out) | ((with_reducible refine gate_store (t := 4) (p := 56) rfl ?_); refine store_event (t := 4) (p := 56) (v := ?vo_w38) (w1 := (w36.setCell ⟨gb137, 4, none⟩ (.bool t143))) ?hg ?ho ?hn ?hr ?_; (case ho => rfl); (case hg => rfl); (case hn => rfl); (case hr => first | (go_simp; done) | (go_simp; rfl)); intro w38 hw; have n0_ : Aside0 (Kd.S k41 41 w38 w.heap.size (fun k_ => some k_ ≠ (v145 : Value).ownBlock ∧ some k_ ≠ (.slice Ao20 t139.length co20 : Value).ownBlock ∧ some k_ ≠ (.slice Ao33 y152.length co33 : Value).ownBlock ∧ k_ ≠ gb137) u7 x7_1) := ⟨(by rw [hw]; exact (tSm HO_7.out))⟩; have n1_ : Aside0 (Kd.R (Kd.int .i64) 3 w38 w.heap.size (fun k_ => some k_ ≠ (.slice Ao20 t139.length co20 : Value).ownBlock ∧ some k_ ≠ (.slice Ao33 y152.length co33 : Value).ownBlock) v145 t144) := ⟨(by rw [hw]; exact (tRm (Kd.R_types HO_15.out BK137.out (by decide))))⟩; have n2_ : Aside0 (Kd.R (Kd.int .i64) 3 w38 w.heap.size (fun k_ => some k_ ≠ (v145 : Value).ownBlock ∧ some k_ ≠ (.slice Ao33 y152.length co33 : Value).ownBlock) (.slice Ao20 t139.length co20) t139) := ⟨(by rw [hw]; exact (tRm (Kd.R_types HO_138003.out BK137.out (by decide))))⟩; have n3_ : Aside0 (Kd.R (Kd.int .i64) 3 w38 w.heap.size (fun k_ => some k_ ≠ (v145 : Value).ownBlock ∧ some k_ ≠ (.slice Ao20 t139.length co20 : Value).ownBlock) (.slice Ao33 y152.length co33) y152) := ⟨(by rw [hw]; exact (tRm (Kd.R_types HO154.out BK137.out (by decide))))⟩; have n4_ : Aside0 (w38.heap[gb137]? = some (.cells #[.int .i64 x1_1, .int .i64 x9_1, .bool t138, .slice Ao33 y152.length co33, .bool t143, .slice none 0 0] 41 (0, 0))) := ⟨(by rw [hw]; exact (tP BK137.out))⟩; have n5_ : Aside0 (IsS72 w0 w38 g s0_0 t151) := ⟨(by rw [hw]; exact zi72)⟩; have n6_ : Aside0 (KeepBut w w38 g none) := ⟨(by rw [hw]; exact zk)⟩; have n7_ : Aside0 (Below w0.heap.size w0 w38) := ⟨(by rw [hw]; exact zb)⟩; clear hw; clear HO_7; clear HO_15; clear HO_138003; clear HO154; clear BK137; clear HI0; clear HK; clear HB; have HO_7 := n0_; have HO_15 := n1_; have HO_138003 := n2_; have HO154 := n3_; have BK137 := n4_; have HI0 := n5_; have HK := n6_; have HB := n7_; clear n0_ n1_ n2_ n3_ n4_ n5_ n6_ n7_; obtain ⟨Ao39, co39, eo39⟩ := Kd.R_slice HO_15.out; subst eo39; obtain ⟨hcz40_0, hcz40_1, hcz40_2, hcz40_3, hcz40_4, hcz40_5, hfz40_0, hfz40_1, hfz40_2, hfz40_3, hfz40_4, hfz40_5⟩ := cells6 BK137.out) | ((with_reducible refine gate_store (t := 39) (p := 58) rfl ?_); refine store_event (t := 39) (p := 58) (v := ?vo_w41) (w1 := (w38.setCell ⟨gb137, 5, none⟩ (.slice Ao39 t144.length co39))) ?hg ?ho ?hn ?hr ?_; (case ho => rfl); (case hg => rfl); (case hn => rfl); (case hr => first | (go_simp; done) | (go_simp; rfl)); intro w41 hw; have n0_ : Aside0 (Kd.S k41 41 w41 w.heap.size (fun k_ => some k_ ≠ (.slice Ao39 t144.length co39 : Value).ownBlock ∧ some k_ ≠ (.slice Ao20 t139.length co20 : Value).ownBlock ∧ some k_ ≠ (.slice Ao33 y152.length co33 : Value).ownBlock ∧ k_ ≠ gb137) u7 x7_1) := ⟨(by rw [hw]; exact (tSm HO_7.out))⟩; have n1_ : Aside0 (Kd.R (Kd.int .i64) 3 w41 w.heap.size (fun k_ => some k_ ≠ (.slice Ao20 t139.length co20 : Value).ownBlock ∧ some k_ ≠ (.slice Ao33 y152.length co33 : Value).ownBlock) (.slice Ao39 t144.length co39) t144) := ⟨(by rw [hw]; exact (tRm (Kd.R_types HO_15.out BK137.out (by decide))))⟩; have n2_ : Aside0 (Kd.R (Kd.int .i64) 3 w41 w.heap.size (fun k_ => some k_ ≠ (.slice Ao39 t144.length co39 : Value).ownBlock ∧ some k_ ≠ (.slice Ao33 y152.length co33 : Value).ownBlock) (.slice Ao20 t139.length co20) t139) := ⟨(by rw [hw]; exact (tRm (Kd.R_types HO_138003.out BK137.out (by decide))))⟩; have n3_ : Aside0 (Kd.R (Kd.int .i64) 3 w41 w.heap.size (fun k_ => some k_ ≠ (.slice Ao39 t144.length co39 : Value).ownBlock ∧ some k_ ≠ (.slice Ao20 t139.length co20 : Value).ownBlock) (.slice Ao33 y152.length co33) y152) := ⟨(by rw [hw]; exact (tRm (Kd.R_types HO154.out BK137.out (by decide))))⟩; have n4_ : Aside0 (w41.heap[gb137]? = some (.cells #[.int .i64 x1_1, .int .i64 x9_1, .bool t138, .slice Ao33 y152.length co33, .bool t143, .slice Ao39 t144.length co39] 41 (0, 0))) := ⟨(by rw [hw]; exact (tP BK137.out))⟩; have n5_ : Aside0 (IsS72 w0 w41 g s0_0 t151) := ⟨(by rw [hw]; exact zi72)⟩; have n6_ : Aside0 (KeepBut w w41 g none) := ⟨(by rw [hw]; exact zk)⟩; have n7_ : Aside0 (Below w0.heap.size w0 w41) := ⟨(by rw [hw]; exact zb)⟩; clear hw; clear HO_7; clear HO_15; clear HO_138003; clear HO154; clear BK137; clear HI0; clear HK; clear HB; have HO_7 := n0_; have HO_15 := n1_; have HO_138003 := n2_; have HO154 := n3_; have BK137 := n4_; have HI0 := n5_; have HK := n6_; have HB := n7_; clear n0_ n1_ n2_ n3_ n4_ n5_ n6_ n7_; obtain ⟨hcz42_0, hcz42_1, hcz42_2, hcz42_3, hcz42_4, hcz42_5, hfz42_0, hfz42_1, hfz42_2, hfz42_3, hfz42_4, hfz42_5⟩ := cells6 BK137.out) | ((with_reducible refine gate_builtin (b := .append) (xs := #[.tmp 59, .tmp 61]) rfl ?_); at_builtin; refine Kd.S_append k41 w.heap.size rfl (.tmp 59) (.tmp 61) 23 41 (.agg #[(.int .i64 0), (.int .i64 0), (.bool false), (.slice none 0 0), (.bool false), (.slice none 0 0)]) 80 rfl Tryd.underlying23 info41 rfl (by decide) (by omega) u7 x7_1 (⟨x1_1, x9_1, t138, y152, t143, t144⟩ : S41) [.int .i64 x1_1, .int .i64 x9_1, .bool t138, .slice Ao33 y152.length co33, .bool t143, .slice Ao39 t144.length co39] (fun k_ => some k_ ≠ (.slice Ao20 t139.length co20 : Value).ownBlock ∧ k_ ≠ gb137) (fun k_ => some k_ = (.slice Ao33 y152.length co33 : Value).ownBlock ∨ some k_ = (.slice Ao39 t144.length co39 : Value).ownBlock) rfl rfl ?aP (fun k_ hk_ => hk_.elim (fun h_ => ((Kd.R_mono (ok' := fun k_ => ((fun k_ => some k_ ≠ (.slice Ao20 t139.length co20 : Value).ownBlock ∧ k_ ≠ gb137)) k_ ∧ some k_ ≠ (u7 : Value).ownBlock) (Kd.R_types (Kd.R_apart' (HO154.out) (Kd.S_typed HO_7.out) (by decide)) BK137.out (by decide)) (fun k_ hk => ⟨⟨hk.1.1.2, hk.2⟩, hk.1.2⟩))).1 k_ h_.symm) (fun h_ => ((Kd.R_mono (ok' := fun k_ => ((fun k_ => some k_ ≠ (.slice Ao20 t139.length co20 : Value).ownBlock ∧ k_ ≠ gb137)) k_ ∧ some k_ ≠ (u7 : Value).ownBlock) (Kd.R_types (Kd.R_apart' (HO_15.out) (Kd.S_typed HO_7.out) (by decide)) BK137.out (by decide)) (fun k_ hk => ⟨⟨hk.1.1.1, hk.2⟩, hk.1.2⟩))).1 k_ h_.symm)) ?aF ?aO (Below.refl _ _) ?aS ?aL ?_; (case aP => exact k41_mkM _ _ _ (⟨x1_1, x9_1, t138, y152, t143, t144⟩ : S41) (Kd.R_mono (Kd.R_tight rfl (Kd.R_mono (ok' := fun k_ => ((fun k_ => some k_ ≠ (.slice Ao20 t139.length co20 : Value).ownBlock ∧ k_ ≠ gb137)) k_ ∧ some k_ ≠ (u7 : Value).ownBlock) (Kd.R_types (Kd.R_apart' (HO154.out) (Kd.S_typed HO_7.out) (by decide)) BK137.out (by decide)) (fun k_ hk => ⟨⟨hk.1.1.2, hk.2⟩, hk.1.2⟩))) (fun _ h_ => Or.inl h_)) (Kd.R_mono (Kd.R_tight rfl (Kd.R_mono (ok' := fun k_ => ((fun k_ => some k_ ≠ (.slice Ao20 t139.length co20 : Value).ownBlock ∧ k_ ≠ gb137)) k_ ∧ some k_ ≠ (u7 : Value).ownBlock) (Kd.R_types (Kd.R_apart' (HO_15.out) (Kd.S_typed HO_7.out) (by decide)) BK137.out (by decide)) (fun k_ hk => ⟨⟨hk.1.1.1, hk.2⟩, hk.1.2⟩))) (fun _ h_ => Or.inr (h_)))); (case aF => exact (fun k_ hk => ⟨Kd.fresh' (Kd.R_lt (tR HO_138003.out)) k_ hk, tfB BK137 k_ hk⟩)); (case aO => exact (tSm HO_7.out)); (case aS => exact (keep_size (w := w) (g := g) (row := none) zk)); (case aL => have := LMc26.out; omega); intro v156 w43 ho hb hg hat; rw [← Ny155.out] at ho; replace HO_138003 := Aside0.mk (Kd.R_over' (tR HO_138003.out) (Kd.S_typed (tS HO_7.out)) (by decide) hg); replace BK137 := Aside0.mk (blk_grown (tH BK137.out) hg (Kd.S_away HO_7.out (fun _ hk => hk.2.2.2))); replace HB := Aside0.mk (below_weaken zb HL.out hb); replace HI0 := Aside0.mk (IsS72.grown zi72 hg (IsS72.own_neS HI0.out HO_7.out (by decide))); replace HK := Aside0.mk (KeepBut.trans zk (KeepBut.of_grown hg g) (Kd.S_base2 HO_7.out)); have HO157 := Aside0.mk (ho); clear HO_7 HO154 HO_15; clear ho hb hg hat) | ((with_reducible refine gate_callee (f := 24) rfl ?_); refine goesL_ (some 66) rfl rfl Tryd.func24 (by kernel_rfl) rfl #[.pointer (some ⟨g, 0, none⟩), .int .i64 5] rfl tq ?_; (with_reducible refine (spec_l6Rd_pick.calls kj12 g s0_0 t151 5 t158 t159 w0 _ ?side1 ?side2 A27.out).mono ?_); (case side1 => exact zi72); (case side2 => exact zb); rintro e w44 ⟨rfl, hi, hb, hk⟩; refine ⟨_, rfl, ?_⟩; replace HO_138003 := tRp72 HO_138003 HI0 hk; replace BK137 := tBk BK137 hk NB137_0; replace HO157 := tSp72 HO157 HI0 hk; replace HK := tKt HK hk; replace HB := Aside0.mk (hb); replace HI0 := Aside0.mk (hi); (try clear hb); (try clear hb2); (try clear hk); (try clear hi)) | ((with_reducible refine gate_callee (f := 24) rfl ?_); refine goesL_ (some 71) rfl rfl Tryd.func24 (by kernel_rfl) rfl #[.pointer (some ⟨g, 0, none⟩), .int .i64 30] rfl tq ?_; (with_reducible refine (spec_l6Rd_pick.calls kj12 g s0_0 t159 30 t160 t161 w0 _ ?side1 ?side2 A28.out).mono ?_); (case side1 => exact zi72); (case side2 => exact zb); rintro e w45 ⟨rfl, hi, hb, hk⟩; refine ⟨_, rfl, ?_⟩; replace HO_138003 := tRp72 HO_138003 HI0 hk; replace BK137 := tBk BK137 hk NB137_0; replace HO157 := tSp72 HO157 HI0 hk; replace HK := tKt HK hk; replace HB := Aside0.mk (hb); replace HI0 := Aside0.mk (hi); (try clear hb); (try clear hb2); (try clear hk); (try clear hi)))
        go_roundg kj12
        case measure => have := HK1.out; have := HJ12.out; omega
        case rel => exact ⟨(wrap64 ((wrap64 (x1_1 + 1)) + (wrap64 (Int.tdiv t158 4)))), (y155), (ji29), (wrap64 (x10_1 + 1)), (t161), tr, (by first | rfl | (simp; done) | (simp only [← hji29] <;> (first | rfl | simp)) | (simp [*]; done)), tr, H', ⟨by have := HK1.out; have := HJ12.out; omega⟩, ⟨tSm HO157.out⟩, ⟨zi72⟩, ⟨zk⟩, ⟨zb⟩⟩
       ·rw [if_neg c26] at H
        exact absurd H (by simp)
      ·replace c24 := Bool.eq_false_iff.mpr c24
       subst c24
       rw [if_neg (show ¬ (false = true) by decide)] at H
       by_cases c46 : x7_1.length < 1759218604441
       ·rw [if_pos c46] at H
        have LMc46 := Aside0.mk c46
        clear c46
        obtain ⟨y162, hy162⟩ : ∃ y_ : List (S41), y_ = (x7_1 ++ [(⟨x1_1, x9_1, t138, t139, t143, t144⟩ : S41)]) := ⟨_, rfl⟩
        replace H : ((spec_l6Rd_pick.f kj12 s0_0 x1001_12 5).bind fun bt165 => ((spec_l6Rd_pick.f kj12 s0_0 bt165.2 30).bind fun bt167 => (spec_l91Records.l0 kj12 (wrap64 ((wrap64 (x1_1 + 1)) + (wrap64 (Int.tdiv bt165.1 4)))) y162 (wrap64 (1 + t133)) (mx (wrap64 ((wrap64 (x9_1 + bt167.1)) - 6)) 0) (wrap64 (x10_1 + 1)) s0_0 bt167.2))) = some (r1, r2) := by first | (rw [hy162]; with_reducible exact H) | (have H2_ := (Option.bind_some _ _).symm.trans H; rw [hy162]; with_reducible exact H2_) | (have H2_ := (Option.bind_some _ _).symm.trans H; with_reducible exact H2_) | with_reducible exact H | (rw [hy162]; exact H) | exact H
        have Ny162 := Aside0.mk hy162
        clear hy162
        replace H := tbe H
        obtain ⟨⟨t165, t166⟩, A47, H⟩ := H
        dsimp only at H
        replace H := tbe H
        obtain ⟨⟨t167, t168⟩, A48, H⟩ := H
        dsimp only at H
        obtain ⟨ji49, hji49⟩ : ∃ j_ : Int, (mx (wrap64 ((wrap64 (x9_1 + t167)) - 6)) 0) = j_ := ⟨_, rfl⟩
        replace H : (spec_l91Records.l0 kj12 (wrap64 ((wrap64 (x1_1 + 1)) + (wrap64 (Int.tdiv t165 4)))) y162 (wrap64 (1 + t133)) ji49 (wrap64 (x10_1 + 1)) s0_0 t168) = some (r1, r2) := by first | (rw [hji49] at H; exact H) | (simp only [hji49] at H ⊢; exact H)
        (try rw [hji49] at A47)
        (try rw [hji49] at A48)
        have hji49_ : (if (wrap64 ((wrap64 (x9_1 + t167)) - 6)) < 0 then 0 else (wrap64 ((wrap64 (x9_1 + t167)) - 6))) = ji49 := hji49
        have H' := Aside0.mk H
        clear H
        have hnb50 := NB137_0.out
        have hnc50 := NB0_137.out
        obtain ⟨hcz51_0, hcz51_1, hcz51_2, hcz51_3, hcz51_4, hcz51_5, hfz51_0, hfz51_1, hfz51_2, hfz51_3, hfz51_4, hfz51_5⟩ := cells6 BK137.out
        go_wp2_with (first | ((with_reducible refine gate_store (t := 4) (p := 56) rfl ?_); refine store_event (t := 4) (p := 56) (v := ?vo_w52) (w1 := (wc.setCell ⟨gb137, 4, none⟩ (.bool t143))) ?hg ?ho ?hn ?hr ?_; (case ho => rfl); (case hg => rfl); (case hn => rfl); (case hr => first | (go_simp; done) | (go_simp; rfl)); intro w52 hw; have n0_ : Aside0 (Kd.S k41 41 w52 w.heap.size (fun k_ => some k_ ≠ (v145 : Value).ownBlock ∧ some k_ ≠ (.slice Ao20 t139.length co20 : Value).ownBlock ∧ k_ ≠ gb137) u7 x7_1) := ⟨(by rw [hw]; exact (tSm HO_7.out))⟩; have n1_ : Aside0 (Kd.R (Kd.int .i64) 3 w52 w.heap.size (fun k_ => some k_ ≠ (.slice Ao20 t139.length co20 : Value).ownBlock) v145 t144) := ⟨(by rw [hw]; exact (tRm (Kd.R_types HO_15.out BK137.out (by decide))))⟩; have n2_ : Aside0 (Kd.R (Kd.int .i64) 3 w52 w.heap.size (fun k_ => some k_ ≠ (v145 : Value).ownBlock) (.slice Ao20 t139.length co20) t139) := ⟨(by rw [hw]; exact (tRm (Kd.R_types HO_138003.out BK137.out (by decide))))⟩; have n3_ : Aside0 (w52.heap[gb137]? = some (.cells #[.int .i64 x1_1, .int .i64 x9_1, .bool t138, .slice Ao20 t139.length co20, .bool t143, .slice none 0 0] 41 (0, 0))) := ⟨(by rw [hw]; exact (tP BK137.out))⟩; have n4_ : Aside0 (IsS72 w0 w52 g s0_0 x1001_12) := ⟨(by rw [hw]; exact zi72)⟩; have n5_ : Aside0 (KeepBut w w52 g none) := ⟨(by rw [hw]; exact zk)⟩; have n6_ : Aside0 (Below w0.heap.size w0 w52) := ⟨(by rw [hw]; exact zb)⟩; clear hw; clear HO_7; clear HO_15; clear HO_138003; clear BK137; clear HI0; clear HK; clear HB; have HO_7 := n0_; have HO_15 := n1_; have HO_138003 := n2_; have BK137 := n3_; have HI0 := n4_; have HK := n5_; have HB := n6_; clear n0_ n1_ n2_ n3_ n4_ n5_ n6_; obtain ⟨Ao53, co53, eo53⟩ := Kd.R_slice HO_15.out; subst eo53; obtain ⟨hcz54_0, hcz54_1, hcz54_2, hcz54_3, hcz54_4, hcz54_5, hfz54_0, hfz54_1, hfz54_2, hfz54_3, hfz54_4, hfz54_5⟩ := cells6 BK137.out) | ((with_reducible refine gate_store (t := 39) (p := 58) rfl ?_); refine store_event (t := 39) (p := 58) (v := ?vo_w55) (w1 := (w52.setCell ⟨gb137, 5, none⟩ (.slice Ao53 t144.length co53))) ?hg ?ho ?hn ?hr ?_; (case ho => rfl); (case hg => rfl); (case hn => rfl); (case hr => first | (go_simp; done) | (go_simp; rfl)); intro w55 hw; have n0_ : Aside0 (Kd.S k41 41 w55 w.heap.size (fun k_ => some k_ ≠ (.slice Ao53 t144.length co53 : Value).ownBlock ∧ some k_ ≠ (.slice Ao20 t139.length co20 : Value).ownBlock ∧ k_ ≠ gb137) u7 x7_1) := ⟨(by rw [hw]; exact (tSm HO_7.out))⟩; have n1_ : Aside0 (Kd.R (Kd.int .i64) 3 w55 w.heap.size (fun k_ => some k_ ≠ (.slice Ao20 t139.length co20 : Value).ownBlock) (.slice Ao53 t144.length co53) t144) := ⟨(by rw [hw]; exact (tRm (Kd.R_types HO_15.out BK137.out (by decide))))⟩; have n2_ : Aside0 (Kd.R (Kd.int .i64) 3 w55 w.heap.size (fun k_ => some k_ ≠ (.slice Ao53 t144.length co53 : Value).ownBlock) (.slice Ao20 t139.length co20) t139) := ⟨(by rw [hw]; exact (tRm (Kd.R_types HO_138003.out BK137.out (by decide))))⟩; have n3_ : Aside0 (w55.heap[gb137]? = some (.cells #[.int .i64 x1_1, .int .i64 x9_1, .bool t138, .slice Ao20 t139.length co20, .bool t143, .slice Ao53 t144.length co53] 41 (0, 0))) := ⟨(by rw [hw]; exact (tP BK137.out))⟩; have n4_ : Aside0 (IsS72 w0 w55 g s0_0 x1001_12) := ⟨(by rw [hw]; exact zi72)⟩; have n5_ : Aside0 (KeepBut w w55 g none) := ⟨(by rw [hw]; exact zk)⟩; have n6_ : Aside0 (Below w0.heap.size w0 w55) := ⟨(by rw [hw]; exact zb)⟩; clear hw; clear HO_7; clear HO_15; clear HO_138003; clear BK137; clear HI0; clear HK; clear HB; have HO_7 := n0_; have HO_15 := n1_; have HO_138003 := n2_; have BK137 := n3_; have HI0 := n4_; have HK := n5_; have HB := n6_; clear n0_ n1_ n2_ n3_ n4_ n5_ n6_; obtain ⟨hcz56_0, hcz56_1, hcz56_2, hcz56_3, hcz56_4, hcz56_5, hfz56_0, hfz56_1, hfz56_2, hfz56_3, hfz56_4, hfz56_5⟩ := cells6 BK137.out) | ((with_reducible refine gate_builtin (b := .append) (xs := #[.tmp 59, .tmp 61]) rfl ?_); at_builtin; refine Kd.S_append k41 w.heap.size rfl (.tmp 59) (.tmp 61) 23 41 (.agg #[(.int .i64 0), (.int .i64 0), (.bool false), (.slice none 0 0), (.bool false), (.slice none 0 0)]) 80 rfl Tryd.underlying23 info41 rfl (by decide) (by omega) u7 x7_1 (⟨x1_1, x9_1, t138, t139, t143, t144⟩ : S41) [.int .i64 x1_1, .int .i64 x9_1, .bool t138, .slice Ao20 t139.length co20, .bool t143, .slice Ao53 t144.length co53] (fun k_ => k_ ≠ gb137) (fun k_ => some k_ = (.slice Ao20 t139.length co20 : Value).ownBlock ∨ some k_ = (.slice Ao53 t144.length co53 : Value).ownBlock) rfl rfl ?aP (fun k_ hk_ => hk_.elim (fun h_ => ((Kd.R_mono (ok' := fun k_ => ((fun k_ => k_ ≠ gb137)) k_ ∧ some k_ ≠ (u7 : Value).ownBlock) (Kd.R_types (Kd.R_apart' (HO_138003.out) (Kd.S_typed HO_7.out) (by decide)) BK137.out (by decide)) (fun k_ hk => ⟨hk.2, hk.1.2⟩))).1 k_ h_.symm) (fun h_ => ((Kd.R_mono (ok' := fun k_ => ((fun k_ => k_ ≠ gb137)) k_ ∧ some k_ ≠ (u7 : Value).ownBlock) (Kd.R_types (Kd.R_apart' (HO_15.out) (Kd.S_typed HO_7.out) (by decide)) BK137.out (by decide)) (fun k_ hk => ⟨hk.2, hk.1.2⟩))).1 k_ h_.symm)) ?aF ?aO (Below.refl _ _) ?aS ?aL ?_; (case aP => exact k41_mkM _ _ _ (⟨x1_1, x9_1, t138, t139, t143, t144⟩ : S41) (Kd.R_mono (Kd.R_tight rfl (Kd.R_mono (ok' := fun k_ => ((fun k_ => k_ ≠ gb137)) k_ ∧ some k_ ≠ (u7 : Value).ownBlock) (Kd.R_types (Kd.R_apart' (HO_138003.out) (Kd.S_typed HO_7.out) (by decide)) BK137.out (by decide)) (fun k_ hk => ⟨hk.2, hk.1.2⟩))) (fun _ h_ => Or.inl h_)) (Kd.R_mono (Kd.R_tight rfl (Kd.R_mono (ok' := fun k_ => ((fun k_ => k_ ≠ gb137)) k_ ∧ some k_ ≠ (u7 : Value).ownBlock) (Kd.R_types (Kd.R_apart' (HO_15.out) (Kd.S_typed HO_7.out) (by decide)) BK137.out (by decide)) (fun k_ hk => ⟨hk.2, hk.1.2⟩))) (fun _ h_ => Or.inr (h_)))); (case aF => exact (fun k_ hk => tfB BK137 k_ hk)); (case aO => exact (tSm HO_7.out)); (case aS => exact (keep_size (w := w) (g := g) (row := none) zk)); (case aL => have := LMc46.out; omega); intro v163 w57 ho hb hg hat; rw [← Ny162.out] at ho; replace BK137 := Aside0.mk (blk_grown (tH BK137.out) hg (Kd.S_away HO_7.out (fun _ hk => hk.2.2))); replace HB := Aside0.mk (below_weaken zb HL.out hb); replace HI0 := Aside0.mk (IsS72.grown zi72 hg (IsS72.own_neS HI0.out HO_7.out (by decide))); replace HK := Aside0.mk (KeepBut.trans zk (KeepBut.of_grown hg g) (Kd.S_base2 HO_7.out)); have HO164 := Aside0.mk (ho); clear HO_7 HO_138003 HO_15; clear ho hb hg hat) | ((with_reducible refine gate_callee (f := 24) rfl ?_); refine goesL_ (some 66) rfl rfl Tryd.func24 (by kernel_rfl) rfl #[.pointer (some ⟨g, 0, none⟩), .int .i64 5] rfl tq ?_; (with_reducible refine (spec_l6Rd_pick.calls kj12 g s0_0 x1001_12 5 t165 t166 w0 _ ?side1 ?side2 A47.out).mono ?_); (case side1 => exact zi72); (case side2 => exact zb); rintro e w58 ⟨rfl, hi, hb, hk⟩; refine ⟨_, rfl, ?_⟩; replace BK137 := tBk BK137 hk NB137_0; replace HO164 := tSp72 HO164 HI0 hk; replace HK := tKt HK hk; replace HB := Aside0.mk (hb); replace HI0 := Aside0.mk (hi); (try clear hb); (try clear hb2); (try clear hk); (try clear hi)) | ((with_reducible refine gate_callee (f := 24) rfl ?_); refine goesL_ (some 71) rfl rfl Tryd.func24 (by kernel_rfl) rfl #[.pointer (some ⟨g, 0, none⟩), .int .i64 30] rfl tq ?_; (with_reducible refine (spec_l6Rd_pick.calls kj12 g s0_0 t166 30 t167 t168 w0 _ ?side1 ?side2 A48.out).mono ?_); (case side1 => exact zi72); (case side2 => exact zb); rintro e w59 ⟨rfl, hi, hb, hk⟩; refine ⟨_, rfl, ?_⟩; replace BK137 := tBk BK137 hk NB137_0; replace HO164 := tSp72 HO164 HI0 hk; replace HK := tKt HK hk; replace HB := Aside0.mk (hb); replace HI0 := Aside0.mk (hi); (try clear hb); (try clear hb2); (try clear hk); (try clear hi)))
        go_roundg kj12
        case measure => have := HK1.out; have := HJ12.out; omega
        case rel => exact ⟨(wrap64 ((wrap64 (x1_1 + 1)) + (wrap64 (Int.tdiv t165 4)))), (y162), (ji49), (wrap64 (x10_1 + 1)), (t168), tr, (by first | rfl | (simp; done) | (simp only [← hji49] <;> (first | rfl | simp)) | (simp [*]; done)), tr, H', ⟨by have := HK1.out; have := HJ12.out; omega⟩, ⟨tSm HO164.out⟩, ⟨zi72⟩, ⟨zk⟩, ⟨zb⟩⟩
       ·rw [if_neg c46] at H
        exact absurd H (by simp)
   ·rw [if_neg c10] at H
    have c10b0 : decide (x10_1 < (wrap64 (1 + t133))) = false := decide_eq_false c10
    clear c10
    simp only [Option.some.injEq, Prod.mk.injEq] at H
    obtain ⟨rfl, rfl⟩ := H
    go_wp2
    go_ret
    exact ⟨_, by first | rfl | (simp [errW_none, errW_some] <;> rfl) | (simp [*, errW_none, errW_some] <;> rfl), tS HO_7.out, zi72, zb, zk⟩

end Go.Proofs.YtahenocndacjeaaDoor.G

