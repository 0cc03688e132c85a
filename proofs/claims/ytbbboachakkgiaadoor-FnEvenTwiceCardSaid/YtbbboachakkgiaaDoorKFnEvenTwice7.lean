/- A text of seat YtbbboachakkgiaaDoor: what the law FnEvenTwice needs of this repo's texts (by pack.py). Not trusted: Lean checks it. -/
import Derived.Test.YtbbboachakkgiaaDoorKFnEvenTwice6
namespace Go.Proofs.YtbbboachakkgiaaDoor.G
open Go.RowKit Go.Proofs.YtbbboachakkgiaaDoorW.PrintWords Go.Proofs.YtbbboachakkgiaaDoorW.PrintLast Go.Proofs.YtbbboachakkgiaaDoorW.PrintMore
attribute [local go_sem] max2_int min2_int max_two min_two max_three min_three max_four min_four   -- for this text's walks alone
set_option linter.unusedVariables false
set_option linter.unusedSimpArgs false

def spec_l12Copy.f (a0_0 : Int) (a0_1 : Int) (a0_2 : Bool) (l0_3 : List Int) (a0_4 : Bool) (l0_5 : List Int) : Option (Int × Int × Bool × List Int × Bool × List Int) := (some (([] : List Int) : List Int)).bind fun y425 => (if y425.length + l0_3.length < 17592186044416 then ((some (([] : List Int) : List Int)).bind fun y431 => (if y431.length + l0_5.length < 17592186044416 then (some (a0_0, a0_1, a0_2, (y425 ++ l0_3), a0_4, (y431 ++ l0_5))) else (none))) else (none))
set_option maxHeartbeats 8000000 in
set_option maxRecDepth 100000 in
theorem spec_l12Copy.calls (a0_0 : Int) (a0_1 : Int) (a0_2 : Bool) (A0_3 : Option Addr) (c0_3 : Nat) (l0_3 : List Int) (a0_4 : Bool) (A0_5 : Option Addr) (c0_5 : Nat) (l0_5 : List Int) (r1 : Int) (r2 : Int) (r3 : Bool) (r4 : List Int) (r5 : Bool) (r6 : List Int) (w : World) (hr0_3 : Kd.C (Kd.int .i64) w A0_3 l0_3.length l0_3) (hc0_3 : l0_3.length ≤ c0_3) (hr0_5 : Kd.C (Kd.int .i64) w A0_5 l0_5.length l0_5) (hc0_5 : l0_5.length ≤ c0_5) (h : spec_l12Copy.f a0_0 a0_1 a0_2 l0_3 a0_4 l0_5 = some (r1, r2, r3, r4, r5, r6)) :
  Calls Tryd.prog 62 #[.agg #[.int .i64 a0_0, .int .i64 a0_1, .bool a0_2, .slice A0_3 l0_3.length c0_3, .bool a0_4, .slice A0_5 l0_5.length c0_5]] w fun e w' => ∃ v3_ v5_ : Value, e = .returned (.agg #[.int .i64 r1, .int .i64 r2, .bool r3, v3_, .bool r5, v5_]) ∧ Kd.R (Kd.int .i64) 3 w' w.heap.size (fun k_ => some k_ ≠ (v5_ : Value).ownBlock) v3_ r4 ∧ Kd.R (Kd.int .i64) 3 w' w.heap.size (fun k_ => some k_ ≠ (v3_ : Value).ownBlock) v5_ r6 ∧ Below w.heap.size w w' := by
 have hu33 := Tryd.underlying33
 have HR0_3 := Aside0.mk hr0_3
 have HC0_3 := Aside0.mk hc0_3
 clear hr0_3 hc0_3
 have HR0_5 := Aside0.mk hr0_5
 have HC0_5 := Aside0.mk hc0_5
 clear hr0_5 hc0_5
 have HB := Aside0.mk (Below.refl w.heap.size w)
 have H : ((some (([] : List Int) : List Int)).bind fun y425 => (if y425.length + l0_3.length < 17592186044416 then ((some (([] : List Int) : List Int)).bind fun y431 => (if y431.length + l0_5.length < 17592186044416 then (some (a0_0, a0_1, a0_2, (y425 ++ l0_3), a0_4, (y431 ++ l0_5))) else (none))) else (none))) = some (r1, r2, r3, r4, r5, r6) := h
 clear h
 obtain ⟨y425, hy425⟩ : ∃ y_ : List Int, y_ = (([] : List Int)) := ⟨_, rfl⟩
 replace H : (if y425.length + l0_3.length < 17592186044416 then ((some (([] : List Int) : List Int)).bind fun y431 => (if y431.length + l0_5.length < 17592186044416 then (some (a0_0, a0_1, a0_2, (y425 ++ l0_3), a0_4, (y431 ++ l0_5))) else (none))) else (none)) = some (r1, r2, r3, r4, r5, r6) := by first | (rw [hy425]; with_reducible exact H) | (have H2_ := (Option.bind_some _ _).symm.trans H; rw [hy425]; with_reducible exact H2_) | (have H2_ := (Option.bind_some _ _).symm.trans H; with_reducible exact H2_) | with_reducible exact H | (rw [hy425]; exact H) | exact H
 have Ny425 := Aside0.mk hy425
 clear hy425
 by_cases c2 : y425.length + l0_3.length < 17592186044416
 ·rw [if_pos c2] at H
  have LMc2 := Aside0.mk c2
  clear c2
  obtain ⟨y428, hy428⟩ : ∃ y_ : List Int, y_ = (y425 ++ l0_3) := ⟨_, rfl⟩
  replace H : ((some (([] : List Int) : List Int)).bind fun y431 => (if y431.length + l0_5.length < 17592186044416 then (some (a0_0, a0_1, a0_2, y428, a0_4, (y431 ++ l0_5))) else (none))) = some (r1, r2, r3, r4, r5, r6) := by first | (rw [hy428]; with_reducible exact H) | (have H2_ := (Option.bind_some _ _).symm.trans H; rw [hy428]; with_reducible exact H2_) | (have H2_ := (Option.bind_some _ _).symm.trans H; with_reducible exact H2_) | with_reducible exact H | (rw [hy428]; exact H) | exact H
  have Ny428 := Aside0.mk hy428
  clear hy428
  obtain ⟨y431, hy431⟩ : ∃ y_ : List Int, y_ = (([] : List Int)) := ⟨_, rfl⟩
  replace H : (if y431.length + l0_5.length < 17592186044416 then (some (a0_0, a0_1, a0_2, y428, a0_4, (y431 ++ l0_5))) else (none)) = some (r1, r2, r3, r4, r5, r6) := by first | (rw [hy431]; with_reducible exact H) | (have H2_ := (Option.bind_some _ _).symm.trans H; rw [hy431]; with_reducible exact H2_) | (have H2_ := (Option.bind_some _ _).symm.trans H; with_reducible exact H2_) | with_reducible exact H | (rw [hy431]; exact H) | exact H
  have Ny431 := Aside0.mk hy431
  clear hy431
  by_cases c3 : y431.length + l0_5.length < 17592186044416
  ·rw [if_pos c3] at H
   have LMc3 := Aside0.mk c3
   clear c3
   obtain ⟨y434, hy434⟩ : ∃ y_ : List Int, y_ = (y431 ++ l0_5) := ⟨_, rfl⟩
   replace H : (some (a0_0, a0_1, a0_2, y428, a0_4, y434)) = some (r1, r2, r3, r4, r5, r6) := by first | (rw [hy434]; with_reducible exact H) | (have H2_ := (Option.bind_some _ _).symm.trans H; rw [hy434]; with_reducible exact H2_) | (have H2_ := (Option.bind_some _ _).symm.trans H; with_reducible exact H2_) | with_reducible exact H | (rw [hy434]; exact H) | exact H
   have Ny434 := Aside0.mk hy434
   clear hy434
   simp only [Option.some.injEq, Prod.mk.injEq] at H
   obtain ⟨rfl, rfl, rfl, rfl, rfl, rfl⟩ := H
   go_enter Tryd.func62, Tryd.ntmps62
   go_wp2_with (first | ((with_reducible refine gate_dst (N := 1) rfl ?_); refine box_event ?hg (N := 1) ?hd (cs := #[.int .i64 a0_0, .int .i64 a0_1, .bool a0_2, .slice A0_3 l0_3.length c0_3, .bool a0_4, .slice A0_5 l0_5.length c0_5]) (t := 33) ?hr ?_; (case hd => rfl); (case hg => rfl); (case hr => first | (go_simp; done) | (go_simp; rfl)); intro gb423 hg w4 hbox hb; have BK423 := Aside0.mk (hbox); have GW423 := tge HB hg; have GE423 := tge HB hg; replace HB := tBs HB hb; clear hb hbox hg) | ((with_reducible refine gate_dst (N := 2) rfl ?_); refine box_event ?hg (N := 2) ?hd (cs := #[.int .i64 0, .int .i64 0, .bool false, .slice none 0 0, .bool false, .slice none 0 0]) (t := 33) ?hr ?_; (case hd => rfl); (case hg => rfl); (case hr => first | (go_simp; done) | (go_simp; rfl)); intro gb424 hg w5 hbox hb; have BK424 := Aside0.mk (hbox); have GW424 := tge HB hg; have GE424 := tge HB hg; replace HB := tBs HB hb; have NB423_424 := tlt BK423 hg; have NB424_423 := tgt BK423 hg; replace BK423 := tBb BK423 hb; clear hb hbox hg) | ((with_reducible refine gate_dst (N := 3) rfl ?_); refine Kd.R_lit (Kd.int .i64) _ 3 ?hg (N := 3) ?hd (xs := ([] : List Int)) (inner := []) (ok := fun _ => True) (okp := fun _ => True) ?hr ?hp (fun _ hk => hk) trivial (Below.refl _ _) (Nat.le_refl _) (by simp) ?_; (case hd => rfl); (case hg => rfl); (case hr => first | (go_simp; done) | (go_simp; rfl)); (case hp => exact (Reps.none _ _)); intro v426 w6 ho7 hb hg_ hnew_; clear hg_ hnew_; (first | rw [← Ny425.out] at ho7 | (simp only [Int.reduceToNat] at ho7; rw [← Ny425.out] at ho7)); have HO427 := tRl ho7 HB; replace BK423 := tBb BK423 hb; replace BK424 := tBb BK424 hb; replace HB := tBs HB hb; clear hb ho7; have hnb8 := NB423_424.out; have hnc8 := NB424_423.out; obtain ⟨hcz9_0, hcz9_1, hcz9_2, hcz9_3, hcz9_4, hcz9_5, hfz9_0, hfz9_1, hfz9_2, hfz9_3, hfz9_4, hfz9_5⟩ := cells6 BK423.out) | ((with_reducible refine gate_builtin (b := .append) (xs := #[.tmp 3, .tmp 5]) rfl ?_); at_builtin; refine Kd.R_append_rows (Kd.int .i64) (w0 := w) w.heap.size rfl (.tmp 3) (.tmp 5) 31 3 (.int .i64 0) 8 rfl Tryd.underlying31 info3 rfl (by decide) (by omega) v426 y425 l0_3 _ _ _ (fun _ => True) (fun _ => False) rfl rfl ?aO ?aR (fun _ _ h => h) (fun _ h => h.elim) ?aF ?aB ?aS ?aL ?_; (case aR => exact tC (Kd.C_below HR0_3.out HB.out)); (case aB => exact zb); (case aF => exact (fun _ _ => trivial)); (case aO => exact (tR HO427.out)); (case aS => exact (below_size zb)); (case aL => have := LMc2.out; omega); intro v429 w10 ho hb hg hat; rw [← Ny428.out] at ho; replace BK423 := Aside0.mk (blk_grown (tH BK423.out) hg (Kd.R_ne HO427.out BK423.out (by decide))); replace BK424 := Aside0.mk (blk_grown (tH BK424.out) hg (Kd.R_ne HO427.out BK424.out (by decide))); replace HB := Aside0.mk (hb); have HO430 := Aside0.mk (ho); clear HO427; clear ho hb hg hat; obtain ⟨Ao11, co11, eo11⟩ := Kd.R_slice HO430.out; subst eo11; obtain ⟨hcz12_0, hcz12_1, hcz12_2, hcz12_3, hcz12_4, hcz12_5, hfz12_0, hfz12_1, hfz12_2, hfz12_3, hfz12_4, hfz12_5⟩ := cells6 BK423.out) | ((with_reducible refine gate_dst (N := 8) rfl ?_); refine Kd.R_lit (Kd.int .i64) _ 3 ?hg (N := 8) ?hd (xs := ([] : List Int)) (inner := []) (ok := fun _ => True) (okp := fun _ => True) ?hr ?hp (fun _ hk => hk) trivial (Below.refl _ _) (Nat.le_refl _) (by simp) ?_; (case hd => rfl); (case hg => rfl); (case hr => first | (go_simp; done) | (go_simp; rfl)); (case hp => exact (Reps.none _ _)); intro v432 w13 ho14 hb hg_ hnew_; clear hg_ hnew_; (first | rw [← Ny431.out] at ho14 | (simp only [Int.reduceToNat] at ho14; rw [← Ny431.out] at ho14)); have HO433 := Aside0.mk (Kd.R_lower (Kd.R_new' ho14 (Kd.R_lt (tRt HO430.out BK423.out))) (below_size zb)); replace HO430 := Aside0.mk (Kd.R_elder' (tRt HO430.out BK423.out) (Kd.R_base ho14) hb); replace BK423 := tBp (o' := .cells #[.int .i64 a0_0, .int .i64 a0_1, .bool a0_2, .slice Ao11 y428.length co11, .bool a0_4, .slice A0_5 l0_5.length c0_5] 33 (0, 0)) BK423 hb; replace BK424 := tBb BK424 hb; replace HB := tBs HB hb; clear hb ho14; obtain ⟨hcz15_0, hcz15_1, hcz15_2, hcz15_3, hcz15_4, hcz15_5, hfz15_0, hfz15_1, hfz15_2, hfz15_3, hfz15_4, hfz15_5⟩ := cells6 BK423.out) | ((with_reducible refine gate_builtin (b := .append) (xs := #[.tmp 8, .tmp 10]) rfl ?_); at_builtin; refine Kd.R_append_rows (Kd.int .i64) (w0 := w) w.heap.size rfl (.tmp 8) (.tmp 10) 31 3 (.int .i64 0) 8 rfl Tryd.underlying31 info3 rfl (by decide) (by omega) v432 y431 l0_5 _ _ _ (fun k_ => some k_ ≠ (.slice Ao11 y428.length co11 : Value).ownBlock) (fun _ => False) rfl rfl ?aO ?aR (fun _ _ h => h) (fun _ h => h.elim) ?aF ?aB ?aS ?aL ?_; (case aR => exact tC (Kd.C_below HR0_5.out HB.out)); (case aB => exact zb); (case aF => exact (fun k_ hk => Kd.fresh' (Kd.R_lt (tR HO430.out)) k_ hk)); (case aO => exact (tRm HO433.out)); (case aS => exact (below_size zb)); (case aL => have := LMc3.out; omega); intro v435 w16 ho hb hg hat; rw [← Ny434.out] at ho; replace BK423 := Aside0.mk (blk_grown (tH BK423.out) hg (Kd.R_ne HO433.out BK423.out (by decide))); replace BK424 := Aside0.mk (blk_grown (tH BK424.out) hg (Kd.R_ne HO433.out BK424.out (by decide))); replace HO430 := Aside0.mk (Kd.R_after (ok := (fun _ => True)) (tR HO430.out) hg hat); replace HB := Aside0.mk (hb); have HO436 := Aside0.mk (ho); clear HO433; clear ho hb hg hat; obtain ⟨Ao17, co17, eo17⟩ := Kd.R_slice HO436.out; subst eo17; obtain ⟨hcz18_0, hcz18_1, hcz18_2, hcz18_3, hcz18_4, hcz18_5, hfz18_0, hfz18_1, hfz18_2, hfz18_3, hfz18_4, hfz18_5⟩ := cells6 BK423.out; obtain ⟨hcz19_0, hcz19_1, hcz19_2, hcz19_3, hcz19_4, hcz19_5, hfz19_0, hfz19_1, hfz19_2, hfz19_3, hfz19_4, hfz19_5⟩ := cells6 BK424.out))
   refine bodyPost_ret (results_cell_row rfl _ _ gb424 33 #[.int .i64 a0_0, .int .i64 a0_1, .bool a0_2, .slice Ao11 y428.length co11, .bool a0_4, .slice Ao17 y434.length co17] (0, 0) _ rfl (tP BK424.out) Tryd.underlying33 rfl (by kernel_rfl)) rfl ?_
   exact ⟨_, _, by first | rfl | (simp [errW_none, errW_some] <;> rfl) | (simp [*, errW_none, errW_some] <;> rfl), tRm (Kd.R_types (Kd.R_types HO430.out BK423.out (by decide)) BK424.out (by decide)), tRm (Kd.R_types (Kd.R_types HO436.out BK423.out (by decide)) BK424.out (by decide)), zb⟩
  ·rw [if_neg c3] at H
   exact absurd H (by simp)
 ·rw [if_neg c2] at H
  exact absurd H (by simp)

def spec_l12Batch.l0 : Nat → List (S33) → Int → Bool → Bool → Int → Int → Int → List (S33) → Option (Bool × Bool × Int × Int × Int × (List (S33)))
 | 0, _, _, _, _, _, _, _, _ => none
 | k + 1, x3, x4, x438000, x438001, x438002, x438003, x438004, x438005 => if x4 < (x438005.length : Int) then (if 0 ≤ x4 then ((spec_l12Copy.f ((rd_T33 x438005 x4).f0) ((rd_T33 x438005 x4).f1) ((rd_T33 x438005 x4).f2) ((rd_T33 x438005 x4).f3) ((rd_T33 x438005 x4).f4) ((rd_T33 x438005 x4).f5)).bind fun bt443 => (if x3.length < 1759218604441 then (spec_l12Batch.l0 k (x3 ++ [(⟨bt443.1, bt443.2.1, bt443.2.2.1, bt443.2.2.2.1, bt443.2.2.2.2.1, bt443.2.2.2.2.2⟩ : S33)]) (wrap64 (x4 + 1)) x438000 x438001 x438002 x438003 x438004 x438005) else (none))) else (none)) else (some (x438000, x438001, x438002, x438003, x438004, x3))
def spec_l12Batch.f (k : Nat) (a0_0 : Bool) (a0_1 : Bool) (a0_2 : Int) (a0_3 : Int) (a0_4 : Int) (l0_5 : List (S33)) : Option (Bool × Bool × Int × Int × Int × (List (S33))) := spec_l12Batch.l0 k (([] : List (S33))) 0 a0_0 a0_1 a0_2 a0_3 a0_4 l0_5
set_option maxHeartbeats 8000000 in
set_option maxRecDepth 100000 in
theorem spec_l12Batch.calls (k : Nat) (a0_0 : Bool) (a0_1 : Bool) (a0_2 : Int) (a0_3 : Int) (a0_4 : Int) (A0_5 : Option Addr) (c0_5 : Nat) (l0_5 : List (S33)) (r1 : Bool) (r2 : Bool) (r3 : Int) (r4 : Int) (r5 : Int) (r6 : List (S33)) (w : World) (hr0_5 : Kd.C k33 w A0_5 l0_5.length l0_5) (hc0_5 : l0_5.length ≤ c0_5) (h : spec_l12Batch.f k a0_0 a0_1 a0_2 a0_3 a0_4 l0_5 = some (r1, r2, r3, r4, r5, r6)) :
  Calls Tryd.prog 40 #[.agg #[.bool a0_0, .bool a0_1, .int .i64 a0_2, .int .i64 a0_3, .int .i64 a0_4, .slice A0_5 l0_5.length c0_5]] w fun e w' => ∃ v5_ : Value, e = .returned (.agg #[.bool r1, .bool r2, .int .i64 r3, .int .i64 r4, .int .i64 r5, v5_]) ∧ Kd.S k33 33 w' w.heap.size (fun _ => True) v5_ r6 ∧ Below w.heap.size w w' := by
 have hu47 := Tryd.underlying47
 have hu33 := Tryd.underlying33
 have HR0_5 := Aside0.mk hr0_5
 have HC0_5 := Aside0.mk hc0_5
 clear hr0_5 hc0_5
 have HB := Aside0.mk (Below.refl w.heap.size w)
 have H : (spec_l12Batch.l0 k (([] : List (S33))) 0 a0_0 a0_1 a0_2 a0_3 a0_4 l0_5) = some (r1, r2, r3, r4, r5, r6) := h
 clear h
 obtain ⟨y439, hy439⟩ : ∃ y_ : List (S33), y_ = (([] : List (S33))) := ⟨_, rfl⟩
 replace H : (spec_l12Batch.l0 k y439 0 a0_0 a0_1 a0_2 a0_3 a0_4 l0_5) = some (r1, r2, r3, r4, r5, r6) := by first | (rw [hy439]; with_reducible exact H) | (have H2_ := (Option.bind_some _ _).symm.trans H; rw [hy439]; with_reducible exact H2_) | (have H2_ := (Option.bind_some _ _).symm.trans H; with_reducible exact H2_) | with_reducible exact H | (rw [hy439]; exact H) | exact H
 have Ny439 := Aside0.mk hy439
 clear hy439
 have H' := Aside0.mk H
 clear H
 go_enter Tryd.func40, Tryd.ntmps40
 go_wp2_with (first | ((with_reducible refine gate_dst (N := 1) rfl ?_); refine box_event ?hg (N := 1) ?hd (cs := #[.bool a0_0, .bool a0_1, .int .i64 a0_2, .int .i64 a0_3, .int .i64 a0_4, .slice A0_5 l0_5.length c0_5]) (t := 47) ?hr ?_; (case hd => rfl); (case hg => rfl); (case hr => first | (go_simp; done) | (go_simp; rfl)); intro gb437 hg w2 hbox hb; have BK437 := Aside0.mk (hbox); have GW437 := tge HB hg; have GE437 := tge HB hg; replace HB := tBs HB hb; clear hb hbox hg) | ((with_reducible refine gate_dst (N := 2) rfl ?_); refine box_event ?hg (N := 2) ?hd (cs := #[.bool false, .bool false, .int .i64 0, .int .i64 0, .int .i64 0, .slice none 0 0]) (t := 47) ?hr ?_; (case hd => rfl); (case hg => rfl); (case hr => first | (go_simp; done) | (go_simp; rfl)); intro gb438 hg w3 hbox hb; have BK438 := Aside0.mk (hbox); have GW438 := tge HB hg; have GE438 := tge HB hg; replace HB := tBs HB hb; have NB437_438 := tlt BK437 hg; have NB438_437 := tgt BK437 hg; replace BK437 := tBb BK437 hb; clear hb hbox hg) | ((with_reducible refine gate_dst (N := 5) rfl ?_); refine Kd.S_lit k33 _ 33 ?hg (N := 5) ?hd (xs := ([] : List (S33))) (inner := []) (ok := fun _ => True) (okp := fun _ => True) ?hr ?hp (fun _ hk => hk) trivial (Below.refl _ _) (Nat.le_refl _) (by simp) ?_; (case hd => rfl); (case hg => rfl); (case hr => first | (go_simp; done) | (go_simp; rfl)); (case hp => exact (Reps.none _ _)); intro v440 w4 ho5 hb hg_ hnew_; clear hg_ hnew_; (first | rw [← Ny439.out] at ho5 | (simp only [Int.reduceToNat] at ho5; rw [← Ny439.out] at ho5)); have HO441 := tSl ho5 HB; replace BK437 := tBb BK437 hb; replace BK438 := tBb BK438 hb; replace HB := tBs HB hb; clear hb ho5))
 go_loopg [3, 4] k (fun kq v3 v4 w' => ∃ (x3_1 : List (S33)) (x4_1 : Int), v4 = .int .i64 x4_1 ∧ Aside0 (spec_l12Batch.l0 kq x3_1 x4_1 a0_0 a0_1 a0_2 a0_3 a0_4 l0_5 = some (r1, r2, r3, r4, r5, r6)) ∧ Aside0 (kq ≤ k) ∧ Aside0 (Kd.S k33 33 w' w.heap.size (fun _ => True) v3 x3_1) ∧ Aside0 (w'.heap[gb437]? = some (.cells #[.bool a0_0, .bool a0_1, .int .i64 a0_2, .int .i64 a0_3, .int .i64 a0_4, (.slice A0_5 l0_5.length c0_5)] 47 (0, 0))) ∧ Aside0 (w'.heap[gb438]? = some (.cells #[.bool false, .bool false, .int .i64 0, .int .i64 0, .int .i64 0, (.slice none 0 0)] 47 (0, 0))) ∧ Aside0 (Below w.heap.size w w'))
 case atStart => exact ⟨(y439), (0), tr, H', ⟨Nat.le_refl _⟩, ⟨tS HO441.out⟩, ⟨tH BK437.out⟩, ⟨tH BK438.out⟩, ⟨zb⟩⟩
 case round =>
  clear H'
  obtain ⟨x3_1, x4_1, rfl, HA, HK1, HO_3, BK437, BK438, HB⟩ := hrel
  cases gk with
  | zero => exact absurd HA.out (by simp [spec_l12Batch.l0])
  | succ k1 =>
   have H := HA.out
   clear HA
   simp only [spec_l12Batch.l0] at H
   by_cases c6 : x4_1 < (l0_5.length : Int)
   ·rw [if_pos c6] at H
    have c6b0 : decide (x4_1 < (l0_5.length : Int)) = true := decide_eq_true c6
    clear c6
    by_cases c7 : 0 ≤ x4_1
    ·rw [if_pos c7] at H
     have c7b0 : decide (0 ≤ x4_1) = true := decide_eq_true c7
     clear c7
     replace H := tbe H
     obtain ⟨⟨t443, t444, t445, t446, t449, t450⟩, A8, H⟩ := H
     dsimp only at H
     by_cases c9 : x3_1.length < 1759218604441
     ·rw [if_pos c9] at H
      have LMc9 := Aside0.mk c9
      clear c9
      obtain ⟨y453, hy453⟩ : ∃ y_ : List (S33), y_ = (x3_1 ++ [(⟨t443, t444, t445, t446, t449, t450⟩ : S33)]) := ⟨_, rfl⟩
      replace H : (spec_l12Batch.l0 k1 y453 (wrap64 (x4_1 + 1)) a0_0 a0_1 a0_2 a0_3 a0_4 l0_5) = some (r1, r2, r3, r4, r5, r6) := by first | (rw [hy453]; with_reducible exact H) | (have H2_ := (Option.bind_some _ _).symm.trans H; rw [hy453]; with_reducible exact H2_) | (have H2_ := (Option.bind_some _ _).symm.trans H; with_reducible exact H2_) | with_reducible exact H | (rw [hy453]; exact H) | exact H
      have Ny453 := Aside0.mk hy453
      clear hy453
      have H' := Aside0.mk H
      clear H
      have hnb10 := NB437_438.out
      have hnc10 := NB438_437.out
      obtain ⟨hcz11_0, hcz11_1, hcz11_2, hcz11_3, hcz11_4, hcz11_5, hfz11_0, hfz11_1, hfz11_2, hfz11_3, hfz11_4, hfz11_5⟩ := cells6 BK437.out
      have p442 : 0 ≤ (x4_1 : Int) := td
      have q442 : x4_1 < (l0_5.length : Int) := td
      obtain ⟨ad442, A442_3, c442_3, A442_5, c442_5, e442, hx442_0, hx442_1, hx442_2, hx442_3, hx442_4, hx442_5, hl442_3, hi442_3, hl442_5, hi442_5⟩ := at_T33 HR0_5.out x4_1 p442 q442
      cases e442
      replace hx442_0 := tcl HB hx442_0
      replace hx442_1 := tcl HB hx442_1
      replace hx442_2 := tcl HB hx442_2
      replace hx442_3 := tcl HB hx442_3
      replace hx442_4 := tcl HB hx442_4
      replace hx442_5 := tcl HB hx442_5
      have HR442_3 := Aside0.mk hi442_3
      have HC442_3 := Aside0.mk hl442_3
      clear hi442_3 hl442_3
      have HR442_5 := Aside0.mk hi442_5
      have HC442_5 := Aside0.mk hl442_5
      clear hi442_5 hl442_5
      replace p442 := eq_true p442
      replace q442 := eq_true q442
      go_wp2_with (first | ((with_reducible refine gate_callee (f := 62) rfl ?_); refine goesL_ (some 19) rfl rfl Tryd.func62 (by kernel_rfl) rfl #[.agg #[.int .i64 ((rd_T33 l0_5 x4_1).f0), .int .i64 ((rd_T33 l0_5 x4_1).f1), .bool ((rd_T33 l0_5 x4_1).f2), .slice A442_3 ((rd_T33 l0_5 x4_1).f3).length c442_3, .bool ((rd_T33 l0_5 x4_1).f4), .slice A442_5 ((rd_T33 l0_5 x4_1).f5).length c442_5]] rfl tq ?_; (with_reducible refine (spec_l12Copy.calls ((rd_T33 l0_5 x4_1).f0) ((rd_T33 l0_5 x4_1).f1) ((rd_T33 l0_5 x4_1).f2) _ _ ((rd_T33 l0_5 x4_1).f3) ((rd_T33 l0_5 x4_1).f4) _ _ ((rd_T33 l0_5 x4_1).f5) t443 t444 t445 t446 t449 t450 _ ?side1 ?side2 ?side3 ?side4 A8.out).mono ?_); (case side1 => exact tC (Kd.C_below HR442_3.out HB.out)); (case side2 => exact HC442_3.out); (case side3 => exact tC (Kd.C_below HR442_5.out HB.out)); (case side4 => exact HC442_5.out); rintro e w12 ⟨v447, v451, rfl, ho0, ho1, hb⟩; have u_v447 := tsv Tryd.prog v447 ho0; have u_v451 := tsv Tryd.prog v451 ho1; refine ⟨_, rfl, ?_⟩; replace HO_3 := Aside0.mk (Kd.S_mono (Kd.S_told (Kd.S_told (Kd.S_old (tS HO_3.out) hb) (Kd.R_base ho0)) (Kd.R_base ho1)) (fun _ h_ => h_.1)); have HO448 := tRl ho0 HB; have HO452 := tRl ho1 HB; replace BK437 := tBb BK437 hb; replace BK438 := tBb BK438 hb; replace HB := tBs HB hb; (try clear hb); (try clear hb2); (try clear hk); (try clear hi); (try clear ho0); (try clear ho1); obtain ⟨Ao14, co14, eo14⟩ := Kd.R_slice HO448.out; subst eo14; obtain ⟨Ao15, co15, eo15⟩ := Kd.R_slice HO452.out; subst eo15) | ((with_reducible refine gate_builtin (b := .append) (xs := #[.tmp 13, .tmp 20]) rfl ?_); at_builtin; refine Kd.S_append k33 (w0 := w) w.heap.size rfl (.tmp 13) (.tmp 20) 29 33 (.agg #[(.int .i64 0), (.int .i64 0), (.bool false), (.slice none 0 0), (.bool false), (.slice none 0 0)]) 80 rfl Tryd.underlying29 info33 rfl (by decide) (by omega) u3 x3_1 (⟨t443, t444, t445, t446, t449, t450⟩ : S33) [.int .i64 t443, .int .i64 t444, .bool t445, .slice Ao14 t446.length co14, .bool t449, .slice Ao15 t450.length co15] (fun _ => True) (fun k_ => some k_ = (.slice Ao14 t446.length co14 : Value).ownBlock ∨ some k_ = (.slice Ao15 t450.length co15 : Value).ownBlock) rfl rfl ?aP (fun k_ hk_ => hk_.elim (fun h_ => ((Kd.R_mono (ok' := fun k_ => ((fun _ => True)) k_ ∧ some k_ ≠ (u3 : Value).ownBlock) (Kd.R_apart' (HO448.out) (Kd.S_typed HO_3.out) (by decide)) (fun k_ hk => ⟨trivial, hk.2⟩))).1 k_ h_.symm) (fun h_ => ((Kd.R_mono (ok' := fun k_ => ((fun _ => True)) k_ ∧ some k_ ≠ (u3 : Value).ownBlock) (Kd.R_apart' (HO452.out) (Kd.S_typed HO_3.out) (by decide)) (fun k_ hk => ⟨trivial, hk.2⟩))).1 k_ h_.symm)) ?aF ?aO ?aB ?aS ?aL ?_; (case aP => exact k33_mkM _ _ _ (⟨t443, t444, t445, t446, t449, t450⟩ : S33) (Kd.R_mono (Kd.R_tight rfl (Kd.R_mono (ok' := fun k_ => ((fun _ => True)) k_ ∧ some k_ ≠ (u3 : Value).ownBlock) (Kd.R_apart' (HO448.out) (Kd.S_typed HO_3.out) (by decide)) (fun k_ hk => ⟨trivial, hk.2⟩))) (fun _ h_ => Or.inl h_)) (Kd.R_mono (Kd.R_tight rfl (Kd.R_mono (ok' := fun k_ => ((fun _ => True)) k_ ∧ some k_ ≠ (u3 : Value).ownBlock) (Kd.R_apart' (HO452.out) (Kd.S_typed HO_3.out) (by decide)) (fun k_ hk => ⟨trivial, hk.2⟩))) (fun _ h_ => Or.inr (h_)))); (case aB => exact zb); (case aF => exact (fun _ _ => trivial)); (case aO => exact (tSm HO_3.out)); (case aS => exact (below_size zb)); (case aL => have := LMc9.out; omega); intro v454 w13 ho hb hg hat; rw [← Ny453.out] at ho; replace BK437 := Aside0.mk (blk_grown (tH BK437.out) hg (Kd.S_ne HO_3.out BK437.out (by decide))); replace BK438 := Aside0.mk (blk_grown (tH BK438.out) hg (Kd.S_ne HO_3.out BK438.out (by decide))); replace HB := Aside0.mk (hb); have HO455 := Aside0.mk (ho); clear HO_3 HO448 HO452; clear ho hb hg hat))
      go_roundg k1
      case measure => have := HK1.out; omega
      case rel => exact ⟨(y453), (wrap64 (x4_1 + 1)), tr, H', ⟨by have := HK1.out; omega⟩, ⟨tS HO455.out⟩, ⟨tH BK437.out⟩, ⟨tH BK438.out⟩, ⟨zb⟩⟩
     ·rw [if_neg c9] at H
      exact absurd H (by simp)
    ·rw [if_neg c7] at H
     exact absurd H (by simp)
   ·rw [if_neg c6] at H
    have c6b0 : decide (x4_1 < (l0_5.length : Int)) = false := decide_eq_false c6
    clear c6
    simp only [Option.some.injEq, Prod.mk.injEq] at H
    obtain ⟨rfl, rfl, rfl, rfl, rfl, rfl⟩ := H
    have hnb16 := NB437_438.out
    have hnc16 := NB438_437.out
    obtain ⟨hcz17_0, hcz17_1, hcz17_2, hcz17_3, hcz17_4, hcz17_5, hfz17_0, hfz17_1, hfz17_2, hfz17_3, hfz17_4, hfz17_5⟩ := cells6 BK437.out
    obtain ⟨Ao18, co18, eo18⟩ := Kd.S_slice HO_3.out
    subst eo18
    obtain ⟨hcz19_0, hcz19_1, hcz19_2, hcz19_3, hcz19_4, hcz19_5, hfz19_0, hfz19_1, hfz19_2, hfz19_3, hfz19_4, hfz19_5⟩ := cells6 BK438.out
    go_wp2
    refine bodyPost_ret (results_cell_row rfl _ _ gb438 47 #[.bool a0_0, .bool a0_1, .int .i64 a0_2, .int .i64 a0_3, .int .i64 a0_4, .slice Ao18 x3_1.length co18] (0, 0) _ rfl (tP BK438.out) Tryd.underlying47 rfl (by kernel_rfl)) rfl ?_
    exact ⟨_, by first | rfl | (simp [errW_none, errW_some] <;> rfl) | (simp [*, errW_none, errW_some] <;> rfl), tSm (Kd.S_types (Kd.S_types HO_3.out BK437.out (by decide)) BK438.out (by decide)), zb⟩

def spec_l31Free.l0 : Nat → List (S33) → Int → Bool → Bool → Int → Int → Int → List (S33) → Option (Bool × Bool × Int × Int × Int × (List (S33)))
 | 0, _, _, _, _, _, _, _, _ => none
 | k + 1, x1, x6, x461000, x461001, x461002, x461003, x461004, x461005 => if x6 < (x1.length : Int) then (if 0 ≤ x6 then ((spec_l12Copy.f ((rd_T33 x1 x6).f0) ((rd_T33 x1 x6).f1) ((rd_T33 x1 x6).f2) ((rd_T33 x1 x6).f3) ((rd_T33 x1 x6).f4) ((rd_T33 x1 x6).f5)).bind fun bt462 => (if x461005.length < 1759218604441 then (spec_l31Free.l0 k x1 (wrap64 (x6 + 1)) x461000 x461001 x461002 x461003 x461004 (x461005 ++ [(⟨bt462.1, bt462.2.1, bt462.2.2.1, bt462.2.2.2.1, bt462.2.2.2.2.1, bt462.2.2.2.2.2⟩ : S33)])) else (none))) else (none)) else (some (x461000, x461001, x461002, x461003, x461004, x461005))
def spec_l31Free.f (k : Nat) (a0 : Bool) (l1 : List (S33)) : Option (Bool × Bool × Int × Int × Int × (List (S33))) := spec_l31Free.l0 k l1 0 a0 false 255 0 0 (([] : List (S33)))
def spec_l31Free.T5 : Bool × List (List Nat × List Nat) := (true, [([], []), ([0], [0]), ([], []), ([], []), ([2, 3], [2, 3]), ([4], [4]), ([5], [5]), ([6], [6]), ([1, 7, 6], [1, 7]), ([0, 1, 2, 3, 4, 5, 6, 7, 8], []), ([9, 8, 8, 0, 1, 2, 3, 4, 5, 6, 7, 8], [8, 9])])
def spec_l31Free.B5 : List Nat := [0, 1, 0, 0, 12, 28, 60, 124, 255, 511, 1023]
theorem spec_l31Free.tab5 : rtab .any (opsOf Tryd.f63 5) = spec_l31Free.T5 := by kernel_rfl
theorem spec_l31Free.bits5 : waitsOk spec_l31Free.T5.2 spec_l31Free.B5 = true := by kernel_rfl
set_option maxHeartbeats 8000000 in
set_option maxRecDepth 100000 in
theorem spec_l31Free.calls (k : Nat) (a0 : Bool) (A1 : Option Addr) (c1 : Nat) (l1 : List (S33)) (r1 : Bool) (r2 : Bool) (r3 : Int) (r4 : Int) (r5 : Int) (r6 : List (S33)) (w : World) (hr1 : Kd.C k33 w A1 l1.length l1) (hc1 : l1.length ≤ c1) (h : spec_l31Free.f k a0 l1 = some (r1, r2, r3, r4, r5, r6)) :
  Calls Tryd.prog 63 #[.bool a0, .slice A1 l1.length c1] w fun e w' => ∃ v5_ : Value, e = .returned (.agg #[.bool r1, .bool r2, .int .i64 r3, .int .i64 r4, .int .i64 r5, v5_]) ∧ Kd.S k33 33 w' w.heap.size (fun _ => True) v5_ r6 ∧ Below w.heap.size w w' := by
 have hu47 := Tryd.underlying47
 have hu33 := Tryd.underlying33
 have HR1 := Aside0.mk hr1
 have HC1 := Aside0.mk hc1
 clear hr1 hc1
 have HB := Aside0.mk (Below.refl w.heap.size w)
 have H : (spec_l31Free.l0 k l1 0 a0 false 255 0 0 (([] : List (S33)))) = some (r1, r2, r3, r4, r5, r6) := h
 clear h
 obtain ⟨y457, hy457⟩ : ∃ y_ : List (S33), y_ = (([] : List (S33))) := ⟨_, rfl⟩
 replace H : (spec_l31Free.l0 k l1 0 a0 false 255 0 0 y457) = some (r1, r2, r3, r4, r5, r6) := by first | (rw [hy457]; with_reducible exact H) | (have H2_ := (Option.bind_some _ _).symm.trans H; rw [hy457]; with_reducible exact H2_) | (have H2_ := (Option.bind_some _ _).symm.trans H; with_reducible exact H2_) | with_reducible exact H | (rw [hy457]; exact H) | exact H
 have Ny457 := Aside0.mk hy457
 clear hy457
 have H' := Aside0.mk H
 clear H
 go_enter Tryd.func63, Tryd.ntmps63
 go_wp2_with (first | ((with_reducible refine gate_dst (N := 4) rfl ?_); refine box_event ?hg (N := 4) ?hd (cs := #[.bool false, .bool false, .int .i64 0, .int .i64 0, .int .i64 0, .slice none 0 0]) (t := 47) ?hr ?_; (case hd => rfl); (case hg => rfl); (case hr => first | (go_simp; done) | (go_simp; rfl)); intro gb456 hg w3 hbox hb; have BK456 := Aside0.mk (hbox); have GW456 := tge HB hg; have GE456 := tge HB hg; replace HB := tBs HB hb; clear hb hbox hg) | ((with_reducible refine gate_dst (N := 8) rfl ?_); refine Kd.S_lit k33 _ 33 ?hg (N := 8) ?hd (xs := ([] : List (S33))) (inner := []) (ok := fun _ => True) (okp := fun _ => True) ?hr ?hp (fun _ hk => hk) trivial (Below.refl _ _) (Nat.le_refl _) (by simp) ?_; (case hd => rfl); (case hg => rfl); (case hr => first | (go_simp; done) | (go_simp; rfl)); (case hp => exact (Reps.none _ _)); intro v458 w4 ho5 hb hg_ hnew_; clear hg_ hnew_; (first | rw [← Ny457.out] at ho5 | (simp only [Int.reduceToNat] at ho5; rw [← Ny457.out] at ho5)); have HO459 := tSl ho5 HB; replace BK456 := tBb BK456 hb; replace HB := tBs HB hb; clear hb ho5; obtain ⟨Ao6, co6, eo6⟩ := Kd.S_slice HO459.out; subst eo6) | ((with_reducible refine gate_dst (N := 5) rfl ?_); refine box_event ?hg (N := 5) ?hd (cs := #[.bool false, .bool false, .int .i64 0, .int .i64 0, .int .i64 0, .slice none 0 0]) (t := 47) ?hr ?_; (case hd => rfl); (case hg => rfl); (case hr => first | (go_simp; done) | (go_simp; rfl)); intro gb460 hg w7 hbox hb; replace HO459 := tSb HO459 hb; have BK460 := Aside0.mk (hbox); have GW460 := tge HB hg; have GE460 := tge HB hg; replace HB := tBs HB hb; have NB456_460 := tlt BK456 hg; have NB460_456 := tgt BK456 hg; replace BK456 := tBb BK456 hb; clear hb hbox hg; have hnb8 := NB460_456.out; have hnc8 := NB456_460.out; obtain ⟨hcz9_0, hcz9_1, hcz9_2, hcz9_3, hcz9_4, hcz9_5, hfz9_0, hfz9_1, hfz9_2, hfz9_3, hfz9_4, hfz9_5⟩ := cells6 BK460.out))
 go_loopg [6] k (fun kq v6 w' => ∃ (x6_1 : Int) (x461005_1 : List (S33)) (u461005 : Value), v6 = .int .i64 x6_1 ∧ Aside0 (spec_l31Free.l0 kq l1 x6_1 a0 false 255 0 0 x461005_1 = some (r1, r2, r3, r4, r5, r6)) ∧ Aside0 (kq ≤ k) ∧ Aside0 (Kd.S k33 33 w' w.heap.size (fun _ => True) u461005 x461005_1) ∧ Aside0 (w'.heap[gb456]? = some (.cells #[.bool false, .bool false, .int .i64 0, .int .i64 0, .int .i64 0, (.slice none 0 0)] 47 (0, 0))) ∧ Aside0 (w'.heap[gb460]? = some (.cells #[.bool a0, .bool false, .int .i64 255, .int .i64 0, .int .i64 0, u461005] 47 (0, 0))) ∧ Aside0 (Below w.heap.size w w'))
 case atStart => exact ⟨(0), (y457), (.slice Ao6 y457.length co6), tr, H', ⟨Nat.le_refl _⟩, ⟨tSm (Kd.S_types HO459.out BK460.out (by decide))⟩, ⟨tH BK456.out⟩, ⟨tP BK460.out⟩, ⟨zb⟩⟩
 case round =>
  clear H'
  try clear c1; try clear hcz9_0; try clear hcz9_1; try clear hcz9_2; try clear hcz9_3; try clear hcz9_4; try clear hcz9_5; try clear hfz9_0; try clear hfz9_1; try clear hfz9_2; try clear hfz9_3; try clear hfz9_4; try clear hfz9_5
  obtain ⟨x6_1, x461005_1, u461005, rfl, HA, HK1, HO_461005, BK456, BK460, HB⟩ := hrel
  cases gk with
  | zero => exact absurd HA.out (by simp [spec_l31Free.l0])
  | succ k1 =>
   have H := HA.out
   clear HA
   simp only [spec_l31Free.l0] at H
   by_cases c10 : x6_1 < (l1.length : Int)
   ·rw [if_pos c10] at H
    have c10b0 : decide (x6_1 < (l1.length : Int)) = true := decide_eq_true c10
    clear c10
    by_cases c11 : 0 ≤ x6_1
    ·rw [if_pos c11] at H
     have c11b0 : decide (0 ≤ x6_1) = true := decide_eq_true c11
     clear c11
     replace H := tbe H
     obtain ⟨⟨t462, t463, t464, t465, t468, t469⟩, A12, H⟩ := H
     dsimp only at H
     by_cases c13 : x461005_1.length < 1759218604441
     ·rw [if_pos c13] at H
      have LMc13 := Aside0.mk c13
      clear c13
      obtain ⟨y472, hy472⟩ : ∃ y_ : List (S33), y_ = (x461005_1 ++ [(⟨t462, t463, t464, t465, t468, t469⟩ : S33)]) := ⟨_, rfl⟩
      replace H : (spec_l31Free.l0 k1 l1 (wrap64 (x6_1 + 1)) a0 false 255 0 0 y472) = some (r1, r2, r3, r4, r5, r6) := by first | (rw [hy472]; with_reducible exact H) | (have H2_ := (Option.bind_some _ _).symm.trans H; rw [hy472]; with_reducible exact H2_) | (have H2_ := (Option.bind_some _ _).symm.trans H; with_reducible exact H2_) | with_reducible exact H | (rw [hy472]; exact H) | exact H
      have Ny472 := Aside0.mk hy472
      clear hy472
      have H' := Aside0.mk H
      clear H
      try go_wp2
      replace HO_461005 := Aside0.mk (Kd.S_drew HO_461005.out)
      replace BK456 := Aside0.mk (blk_drew BK456.out)
      replace BK460 := Aside0.mk (blk_drew BK460.out)
      replace HB := Aside0.mk (below_drew1 HB.out)
      have p461 : 0 ≤ (x6_1 : Int) := td
      have q461 : x6_1 < (l1.length : Int) := td
      obtain ⟨ad461, A461_3, c461_3, A461_5, c461_5, e461, hx461_0, hx461_1, hx461_2, hx461_3, hx461_4, hx461_5, hl461_3, hi461_3, hl461_5, hi461_5⟩ := at_T33 HR1.out x6_1 p461 q461
      have hw461_5 := hx461_5
      have hw461_4 := hx461_4
      have hw461_3 := hx461_3
      have hw461_2 := hx461_2
      have hw461_1 := hx461_1
      have hw461_0 := hx461_0
      cases e461
      replace hx461_0 := tcl HB hx461_0
      replace hx461_1 := tcl HB hx461_1
      replace hx461_2 := tcl HB hx461_2
      replace hx461_3 := tcl HB hx461_3
      replace hx461_4 := tcl HB hx461_4
      replace hx461_5 := tcl HB hx461_5
      have HR461_3 := Aside0.mk hi461_3
      have HC461_3 := Aside0.mk hl461_3
      clear hi461_3 hl461_3
      have HR461_5 := Aside0.mk hi461_5
      have HC461_5 := Aside0.mk hl461_5
      clear hi461_5 hl461_5
      replace p461 := eq_true p461
      replace q461 := eq_true q461
      refine start_ (n := 11) (S := fun w' => w'.cell? ⟨gb460, 0, none⟩ = some (.bool a0) ∧ w'.cell? ⟨gb460, 1, none⟩ = some (.bool false) ∧ w'.cell? ⟨gb460, 2, none⟩ = some (.int .i64 255) ∧ w'.cell? ⟨gb460, 3, none⟩ = some (.int .i64 0) ∧ w'.cell? ⟨gb460, 4, none⟩ = some (.int .i64 0) ∧ w'.cell? ⟨gb460, 5, none⟩ = some (u461005) ∧ w'.cell? (ad461.add ((x6_1).toNat * 6)) = some (.int .i64 ((rd_T33 l1 x6_1).f0)) ∧ w'.cell? ⟨(ad461.add ((x6_1).toNat * 6)).block, (ad461.add ((x6_1).toNat * 6)).off + 1, none⟩ = some (.int .i64 ((rd_T33 l1 x6_1).f1)) ∧ w'.cell? ⟨(ad461.add ((x6_1).toNat * 6)).block, (ad461.add ((x6_1).toNat * 6)).off + 2, none⟩ = some (.bool ((rd_T33 l1 x6_1).f2)) ∧ w'.cell? ⟨(ad461.add ((x6_1).toNat * 6)).block, (ad461.add ((x6_1).toNat * 6)).off + 3, none⟩ = some (.slice A461_3 ((rd_T33 l1 x6_1).f3).length c461_3) ∧ w'.cell? ⟨(ad461.add ((x6_1).toNat * 6)).block, (ad461.add ((x6_1).toNat * 6)).off + 4, none⟩ = some (.bool ((rd_T33 l1 x6_1).f4)) ∧ w'.cell? ⟨(ad461.add ((x6_1).toNat * 6)).block, (ad461.add ((x6_1).toNat * 6)).off + 5, none⟩ = some (.slice A461_5 ((rd_T33 l1 x6_1).f5).length c461_5)) (ds := [10]) #[false, false, false, false, false, false, false, false, false, false, false] (by kernel_rfl) rfl rfl ⟨(blk_cell BK460.out 0).trans rfl, (blk_cell BK460.out 1).trans rfl, (blk_cell BK460.out 2).trans rfl, (blk_cell BK460.out 3).trans rfl, (blk_cell BK460.out 4).trans rfl, (blk_cell BK460.out 5).trans rfl, (tcl HB hw461_0), (tcl HB hw461_1), (tcl HB hw461_2), (tcl HB hw461_3), (tcl HB hw461_4), (tcl HB hw461_5)⟩ (fun hHeld => ?_); refine with_tabW spec_l31Free.tab5 spec_l31Free.bits5 (fun HT_ HW_ => ?_)
      generalize wr.drew = w14 at HO_461005 BK456 BK460 HB HR461_3 HR461_5 hx461_0 hx461_1 hx461_2 hx461_3 hx461_4 hx461_5 hHeld ⊢
      refine tpu 0 (some 16) #[true, false, false, false, false, false, false, false, false, false, false] ?_
      refine tpu 2 (some 18) #[true, false, true, false, false, false, false, false, false, false, false] ?_
      refine tpu 3 (some 19) #[true, false, true, true, false, false, false, false, false, false, false] ?_
      refine tpu 4 (some 20) #[true, false, true, true, true, false, false, false, false, false, false] ?_
      refine tta 1 (some 17) #[true, true, true, true, true, false, false, false, false, false, false] hHeld ?_ (hy := by rintro w' ⟨s0, s1, s2, s3, s4, s5, s6, s7, s8, s9, s10, s11⟩; go_simp; with_reducible rfl)
      refine tta 5 (some 21) #[true, true, true, true, true, true, false, false, false, false, false] hHeld ?_ (hy := by rintro w' ⟨s0, s1, s2, s3, s4, s5, s6, s7, s8, s9, s10, s11⟩; go_simp; with_reducible rfl)
      refine one_ (i := 6) (N := some 22) #[true, true, true, true, true, true, true, false, false, false, false] rfl rfl (one_of HT_.out (by kernel_rfl)) (by decide) (fun K hK => ?_)
      refine goes_ Tryd.func62 (by kernel_rfl) rfl #[.agg #[.int .i64 ((rd_T33 l1 x6_1).f0), .int .i64 ((rd_T33 l1 x6_1).f1), .bool ((rd_T33 l1 x6_1).f2), .slice A461_3 ((rd_T33 l1 x6_1).f3).length c461_3, .bool ((rd_T33 l1 x6_1).f4), .slice A461_5 ((rd_T33 l1 x6_1).f5).length c461_5]] (by rfl) rfl rfl tq ?_
      with_reducible refine (spec_l12Copy.calls ((rd_T33 l1 x6_1).f0) ((rd_T33 l1 x6_1).f1) ((rd_T33 l1 x6_1).f2) _ _ ((rd_T33 l1 x6_1).f3) ((rd_T33 l1 x6_1).f4) _ _ ((rd_T33 l1 x6_1).f5) t462 t463 t464 t465 t468 t469 _ ?side1 ?side2 ?side3 ?side4 A12.out).mono ?_
      (case side1 => exact tC (Kd.C_below HR461_3.out HB.out))
      (case side2 => exact HC461_3.out)
      (case side3 => exact tC (Kd.C_below HR461_5.out HB.out))
      (case side4 => exact HC461_5.out)
      rintro e w15 ⟨v466, v470, rfl, ho0, ho1, hb⟩
      refine ⟨_, rfl, ?_⟩
      replace HO_461005 := Aside0.mk (Kd.S_mono (Kd.S_told (Kd.S_told (Kd.S_old (tS HO_461005.out) hb) (Kd.R_base ho0)) (Kd.R_base ho1)) (fun _ h_ => h_.1))
      have HO467 := tRl ho0 HB
      have HO471 := tRl ho1 HB
      replace BK456 := tBb BK456 hb
      replace BK460 := tBb BK460 hb
      replace HB := tBs HB hb
      (try clear hb)
      (try clear hb2)
      (try clear hk)
      (try clear hi)
      (try clear ho0)
      (try clear ho1)
      obtain ⟨Ao17, co17, eo17⟩ := Kd.R_slice HO467.out
      (first | subst eo17 | (injection eo17 with f1_ f2_ f3_; have f4_ := f1_.symm; have f5_ := f3_.symm; clear f1_ f2_ f3_; subst f4_; subst f5_))
      obtain ⟨Ao18, co18, eo18⟩ := Kd.R_slice HO471.out
      (first | subst eo18 | (injection eo18 with f1_ f2_ f3_; have f4_ := f1_.symm; have f5_ := f3_.symm; clear f1_ f2_ f3_; subst f4_; subst f5_))
      refine hK.out _ _ ⟨(blk_cell BK460.out 0).trans rfl, (blk_cell BK460.out 1).trans rfl, (blk_cell BK460.out 2).trans rfl, (blk_cell BK460.out 3).trans rfl, (blk_cell BK460.out 4).trans rfl, (blk_cell BK460.out 5).trans rfl, (tcl HB hw461_0), (tcl HB hw461_1), (tcl HB hw461_2), (tcl HB hw461_3), (tcl HB hw461_4), (tcl HB hw461_5)⟩ (fun hHeld => ?_)
      clear hK K
      refine tnm (some 22) ?_
      refine one_ (i := 7) (N := some 23) #[true, true, true, true, true, true, true, true, false, false, false] rfl rfl (one_of HT_.out (by kernel_rfl)) (by decide) (fun K hK => ?_)
      refine value_ (w1 := ?_) (v := ?_) (by rfl) rfl ?_ ?_
      rotate_left 2
      ·go_simp
       constructor
       ·rfl
       ·rfl
      refine hK.out _ _ ⟨(blk_cell (blk_alloc BK460.out _) 0).trans rfl, (blk_cell (blk_alloc BK460.out _) 1).trans rfl, (blk_cell (blk_alloc BK460.out _) 2).trans rfl, (blk_cell (blk_alloc BK460.out _) 3).trans rfl, (blk_cell (blk_alloc BK460.out _) 4).trans rfl, (blk_cell (blk_alloc BK460.out _) 5).trans rfl, (World.cell?_alloc_lt _ _ _ (World.block_lt_of_cell? _ _ ((tcl HB hw461_0)))).trans ((tcl HB hw461_0)), (World.cell?_alloc_lt _ _ _ (World.block_lt_of_cell? _ _ ((tcl HB hw461_1)))).trans ((tcl HB hw461_1)), (World.cell?_alloc_lt _ _ _ (World.block_lt_of_cell? _ _ ((tcl HB hw461_2)))).trans ((tcl HB hw461_2)), (World.cell?_alloc_lt _ _ _ (World.block_lt_of_cell? _ _ ((tcl HB hw461_3)))).trans ((tcl HB hw461_3)), (World.cell?_alloc_lt _ _ _ (World.block_lt_of_cell? _ _ ((tcl HB hw461_4)))).trans ((tcl HB hw461_4)), (World.cell?_alloc_lt _ _ _ (World.block_lt_of_cell? _ _ ((tcl HB hw461_5)))).trans ((tcl HB hw461_5))⟩ (fun hHeld => ?_)
      clear hK K
      refine tnm (some 23) ?_
      refine one_ (i := 8) (N := some 24) #[true, true, true, true, true, true, true, true, true, false, false] rfl rfl (one_of HT_.out (by kernel_rfl)) (by decide) (fun K hK => ?_)
      refine Kd.S_append_step k33 (w0 := w) w.heap.size (by rfl) (.tmp 17) (.tmp 23) 29 33 (.agg #[(.int .i64 0), (.int .i64 0), (.bool false), (.slice none 0 0), (.bool false), (.slice none 0 0)]) 80 rfl Tryd.underlying29 info33 rfl (by decide) (by omega) u461005 x461005_1 (⟨t462, t463, t464, t465, t468, t469⟩ : S33) [.int .i64 t462, .int .i64 t463, .bool t464, .slice Ao17 t465.length co17, .bool t468, .slice Ao18 t469.length co18] (fun _ => True) (fun k_ => some k_ = (.slice Ao17 t465.length co17 : Value).ownBlock ∨ some k_ = (.slice Ao18 t469.length co18 : Value).ownBlock) rfl rfl ?aP (fun k_ hk_ => hk_.elim (fun h_ => ((Kd.R_mono (ok' := fun k_ => ((fun _ => True)) k_ ∧ some k_ ≠ (u461005 : Value).ownBlock) (Kd.R_apart' (HO467.out) (Kd.S_typed HO_461005.out) (by decide)) (fun k_ hk => ⟨trivial, hk.2⟩))).1 k_ h_.symm) (fun h_ => ((Kd.R_mono (ok' := fun k_ => ((fun _ => True)) k_ ∧ some k_ ≠ (u461005 : Value).ownBlock) (Kd.R_apart' (HO471.out) (Kd.S_typed HO_461005.out) (by decide)) (fun k_ hk => ⟨trivial, hk.2⟩))).1 k_ h_.symm)) ?aF ?aO ?aB ?aS ?aL ?_
      (case aP => exact k33_mkM _ _ _ (⟨t462, t463, t464, t465, t468, t469⟩ : S33) (Kd.R_mono (Kd.R_tight rfl (Kd.R_mono (ok' := fun k_ => ((fun _ => True)) k_ ∧ some k_ ≠ (u461005 : Value).ownBlock) (Kd.R_apart' (HO467.out) (Kd.S_typed HO_461005.out) (by decide)) (fun k_ hk => ⟨trivial, hk.2⟩))) (fun _ h_ => Or.inl h_)) (Kd.R_mono (Kd.R_tight rfl (Kd.R_mono (ok' := fun k_ => ((fun _ => True)) k_ ∧ some k_ ≠ (u461005 : Value).ownBlock) (Kd.R_apart' (HO471.out) (Kd.S_typed HO_461005.out) (by decide)) (fun k_ hk => ⟨trivial, hk.2⟩))) (fun _ h_ => Or.inr (h_))))
      (case aB => exact zb)
      (case aF => exact (fun _ _ => trivial))
      (case aO => exact (tSm HO_461005.out))
      (case aS => exact (below_size zb))
      (case aL => have := LMc13.out; omega)
      intro v473 w16 ho hb hg hat
      rw [← Ny472.out] at ho
      replace BK456 := Aside0.mk (blk_grown (tH BK456.out) hg (Kd.S_ne HO_461005.out BK456.out (by decide)))
      replace BK460 := Aside0.mk (blk_grown (tH BK460.out) hg (Kd.S_ne HO_461005.out BK460.out (by decide)))
      replace HB := Aside0.mk (hb)
      have HO474 := Aside0.mk (ho)
      clear HO_461005 HO467 HO471
      clear ho hb hg hat
      obtain ⟨Ao19, co19, eo19⟩ := Kd.S_slice HO474.out
      (first | subst eo19 | (injection eo19 with f1_ f2_ f3_; have f4_ := f1_.symm; have f5_ := f3_.symm; clear f1_ f2_ f3_; subst f4_; subst f5_))
      refine hK.out _ _ ⟨(blk_cell BK460.out 0).trans rfl, (blk_cell BK460.out 1).trans rfl, (blk_cell BK460.out 2).trans rfl, (blk_cell BK460.out 3).trans rfl, (blk_cell BK460.out 4).trans rfl, (blk_cell BK460.out 5).trans rfl, (tcl HB hw461_0), (tcl HB hw461_1), (tcl HB hw461_2), (tcl HB hw461_3), (tcl HB hw461_4), (tcl HB hw461_5)⟩ (fun hHeld => ?_)
      clear hK K
      refine tnm (some 24) ?_
      refine tpu 9 (some 25) #[true, true, true, true, true, true, true, true, true, true, false] ?_
      refine last_ (i := 10) (N := none) #[true, true, true, true, true, true, true, true, true, true, true] rfl rfl (one_of HT_.out (by kernel_rfl)) (by decide) (fun K hK => ?_)
      have hs20 : w16.cell? ⟨gb460, 5, none⟩ = some (u461005) := (blk_cell BK460.out 5).trans rfl
      have hfs20 := blk_frozen BK460.out 5
      have hns20_0 := NB456_460.out
      have hms20_0 := NB460_456.out
      refine tsk ?_
      refine hK.out _ _ ?_
      clear hK K
      refine done_ (done_of HT_.out (by kernel_rfl)) ?_
      try go_wp2
      go_roundg k1
      case measure => have := HK1.out; omega
      case rel => exact ⟨(wrap64 (x6_1 + 1)), (y472), (.slice Ao19 y472.length co19), tr, H', ⟨by have := HK1.out; omega⟩, ⟨tSm (Kd.S_types HO474.out BK460.out (by decide))⟩, ⟨tH BK456.out⟩, ⟨tP BK460.out⟩, ⟨zb⟩⟩
     ·rw [if_neg c13] at H
      exact absurd H (by simp)
    ·rw [if_neg c11] at H
     exact absurd H (by simp)
   ·rw [if_neg c10] at H
    have c10b0 : decide (x6_1 < (l1.length : Int)) = false := decide_eq_false c10
    clear c10
    simp only [Option.some.injEq, Prod.mk.injEq] at H
    obtain ⟨rfl, rfl, rfl, rfl, rfl, rfl⟩ := H
    have hnb21 := NB460_456.out
    have hnc21 := NB456_460.out
    obtain ⟨hcz22_0, hcz22_1, hcz22_2, hcz22_3, hcz22_4, hcz22_5, hfz22_0, hfz22_1, hfz22_2, hfz22_3, hfz22_4, hfz22_5⟩ := cells6 BK460.out
    obtain ⟨hcz23_0, hcz23_1, hcz23_2, hcz23_3, hcz23_4, hcz23_5, hfz23_0, hfz23_1, hfz23_2, hfz23_3, hfz23_4, hfz23_5⟩ := cells6 BK456.out
    obtain ⟨Ao24, co24, eo24⟩ := Kd.S_slice HO_461005.out
    subst eo24
    go_wp2
    refine bodyPost_ret (results_cell_row rfl _ _ gb456 47 #[.bool a0, .bool false, .int .i64 255, .int .i64 0, .int .i64 0, .slice Ao24 x461005_1.length co24] (0, 0) _ rfl (tP BK456.out) Tryd.underlying47 rfl (by kernel_rfl)) rfl ?_
    exact ⟨_, by first | rfl | (simp [errW_none, errW_some] <;> rfl) | (simp [*, errW_none, errW_some] <;> rfl), tSm (Kd.S_types HO_461005.out BK456.out (by decide)), zb⟩

end Go.Proofs.YtbbboachakkgiaaDoor.G

namespace Go.Proofs.YtbbboachakkgiaaDoor.G
open Go.RowKit Go.Proofs.YtbbboachakkgiaaDoorW.PrintWords Go.Proofs.YtbbboachakkgiaaDoorW.PrintLast Go.Proofs.YtbbboachakkgiaaDoorW.PrintMore
attribute [local go_sem] max2_int min2_int max_two min_two max_three min_three max_four min_four   -- for this text's walks alone
set_option linter.unusedVariables false
set_option linter.unusedSimpArgs false

def laws_sameInts.l0 : Nat → List Int → List Int → Int → Option (Bool)
 | 0, _, _, _ => none
 | k + 1, x0, x1, x5 => if x5 < (x0.length : Int) then (if 0 ≤ x5 then (if x5 < (x1.length : Int) then (if (rd x0 x5) = (rd x1 x5) then (laws_sameInts.l0 k x0 x1 (wrap64 (x5 + 1))) else (some false)) else (none)) else (none)) else (some true)
def laws_sameInts.f (k : Nat) (l0 : List Int) (l1 : List Int) : Option (Bool) := if (l0.length : Int) = (l1.length : Int) then (laws_sameInts.l0 k l0 l1 0) else (some false)
set_option maxHeartbeats 8000000 in
set_option maxRecDepth 100000 in
theorem laws_sameInts.calls (k : Nat) (A0 : Option Addr) (c0 : Nat) (l0 : List Int) (A1 : Option Addr) (c1 : Nat) (l1 : List Int) (r : Bool) (w : World) (hr0 : Kd.C (Kd.int .i64) w A0 l0.length l0) (hc0 : l0.length ≤ c0) (hr1 : Kd.C (Kd.int .i64) w A1 l1.length l1) (hc1 : l1.length ≤ c1) (h : laws_sameInts.f k l0 l1 = some r) :
  Calls Tryd.prog 43 #[.slice A0 l0.length c0, .slice A1 l1.length c1] w fun e w' => e = .returned (.bool r) ∧ Drawn0 w w' := by
 have HR0 := Aside0.mk hr0
 have HC0 := Aside0.mk hc0
 clear hr0 hc0
 have HR1 := Aside0.mk hr1
 have HC1 := Aside0.mk hc1
 clear hr1 hc1
 have H : (if (l0.length : Int) = (l1.length : Int) then (laws_sameInts.l0 k l0 l1 0) else (some false)) = some r := h
 clear h
 by_cases c3 : (l0.length : Int) = (l1.length : Int)
 ·rw [if_pos c3] at H
  have c3b0 : ((l0.length : Int) == (l1.length : Int)) = true := beq_iff_eq.mpr c3
  have c3b1 : ((l0.length : Int) != (l1.length : Int)) = false := bne_eq_false_iff_eq.mpr c3
  have c3b2 : (l0.length == l1.length) = true := by first | simpa using c3 | (simp at c3 ⊢; omega)
  clear c3
  have H' := Aside0.mk H
  clear H
  go_enter Tryd.func43, Tryd.ntmps43
  go_wp2
  repeat (go_quiet (fail); try go_wp2)
  go_loopg [5] k (fun kq v5 w' => ∃ (x5_1 : Int), v5 = .int .i64 x5_1 ∧ Aside0 (laws_sameInts.l0 kq l0 l1 x5_1 = some r) ∧ Aside0 (kq ≤ k) ∧ Drawn0 w w')
  case atStart => exact ⟨(0), tr, H', ⟨Nat.le_refl _⟩, by repeat (first | exact Drawn0.refl _ | apply Drawn0.step)⟩
  case round =>
   clear H'
   try clear c1; try clear c3; try clear c3b0; try clear c3b1; try clear c3b2
   obtain ⟨x5_1, rfl, HA, HK1, ⟨m1, rfl⟩⟩ := hrel
   cases gk with
   | zero => exact absurd HA.out (by simp [laws_sameInts.l0])
   | succ k1 =>
    have H := HA.out
    clear HA
    simp only [laws_sameInts.l0] at H
    by_cases c4 : x5_1 < (l0.length : Int)
    ·rw [if_pos c4] at H
     have c4b0 : decide (x5_1 < (l0.length : Int)) = true := decide_eq_true c4
     clear c4
     by_cases c5 : 0 ≤ x5_1
     ·rw [if_pos c5] at H
      have c5b0 : decide (0 ≤ x5_1) = true := decide_eq_true c5
      clear c5
      by_cases c6 : x5_1 < (l1.length : Int)
      ·rw [if_pos c6] at H
       have c6b0 : decide (x5_1 < (l1.length : Int)) = true := decide_eq_true c6
       clear c6
       by_cases c7 : (rd l0 x5_1) = (rd l1 x5_1)
       ·rw [if_pos c7] at H
        have c7b0 : ((rd l0 x5_1) == (rd l1 x5_1)) = true := beq_iff_eq.mpr c7
        have c7b1 : ((rd l0 x5_1) != (rd l1 x5_1)) = false := bne_eq_false_iff_eq.mpr c7
        clear c7
        have H' := Aside0.mk H
        clear H
        have p550 : 0 ≤ (x5_1 : Int) := td
        have q550 : x5_1 < (l0.length : Int) := td
        obtain ⟨ad550, e550, hx550_0⟩ := Kd.at_int HR0.out x5_1 p550 q550
        cases e550
        replace p550 := eq_true p550
        replace q550 := eq_true q550
        have p551 : 0 ≤ (x5_1 : Int) := td
        have q551 : x5_1 < (l1.length : Int) := td
        obtain ⟨ad551, e551, hx551_0⟩ := Kd.at_int HR1.out x5_1 p551 q551
        cases e551
        replace p551 := eq_true p551
        replace q551 := eq_true q551
        go_wp2
        repeat (go_quiet (fail); try go_wp2)
        go_roundg k1
        case measure => have := HK1.out; omega
        case rel => exact ⟨(wrap64 (x5_1 + 1)), tr, H', ⟨by have := HK1.out; omega⟩, by repeat (first | exact Drawn0.refl _ | apply Drawn0.step)⟩
       ·rw [if_neg c7] at H
        have c7b0 : ((rd l0 x5_1) == (rd l1 x5_1)) = false := beq_eq_false_iff_ne.mpr c7
        have c7b1 : ((rd l0 x5_1) != (rd l1 x5_1)) = true := bne_iff_ne.mpr c7
        obtain rfl := Option.some.inj H
        have p550 : 0 ≤ (x5_1 : Int) := td
        have q550 : x5_1 < (l0.length : Int) := td
        obtain ⟨ad550, e550, hx550_0⟩ := Kd.at_int HR0.out x5_1 p550 q550
        cases e550
        replace p550 := eq_true p550
        replace q550 := eq_true q550
        have p551 : 0 ≤ (x5_1 : Int) := td
        have q551 : x5_1 < (l1.length : Int) := td
        obtain ⟨ad551, e551, hx551_0⟩ := Kd.at_int HR1.out x5_1 p551 q551
        cases e551
        replace p551 := eq_true p551
        replace q551 := eq_true q551
        go_wp2
        repeat (go_quiet (fail); try go_wp2)
        go_ret
        exact ⟨by first | rfl | (simp; done) | (simp [*]; done), by repeat (first | exact Drawn0.refl _ | apply Drawn0.step)⟩
      ·rw [if_neg c6] at H
       exact absurd H (by simp)
     ·rw [if_neg c5] at H
      exact absurd H (by simp)
    ·rw [if_neg c4] at H
     have c4b0 : decide (x5_1 < (l0.length : Int)) = false := decide_eq_false c4
     clear c4
     obtain rfl := Option.some.inj H
     go_wp2
     repeat (go_quiet (fail); try go_wp2)
     go_ret
     exact ⟨by first | rfl | (simp; done) | (simp [*]; done), by repeat (first | exact Drawn0.refl _ | apply Drawn0.step)⟩
 ·rw [if_neg c3] at H
  have c3b0 : ((l0.length : Int) == (l1.length : Int)) = false := beq_eq_false_iff_ne.mpr c3
  have c3b1 : ((l0.length : Int) != (l1.length : Int)) = true := bne_iff_ne.mpr c3
  have c3b2 : (l0.length == l1.length) = false := by first | simpa using c3 | (simp at c3 ⊢; omega)
  obtain rfl := Option.some.inj H
  go_enter Tryd.func43, Tryd.ntmps43
  go_wp2
  repeat (go_quiet (fail); try go_wp2)
  go_ret
  exact ⟨by first | rfl | (simp; done) | (simp [*]; done), by repeat (first | exact Drawn0.refl _ | apply Drawn0.step)⟩

def laws_sameRecord.f (k : Nat) (a0_0 : Int) (a0_1 : Int) (a0_2 : Bool) (l0_3 : List Int) (a0_4 : Bool) (l0_5 : List Int) (a1_0 : Int) (a1_1 : Int) (a1_2 : Bool) (l1_3 : List Int) (a1_4 : Bool) (l1_5 : List Int) : Option (Bool) := if a0_0 = a1_0 then (if a0_1 = a1_1 then (if (a0_2 == a1_2) = true then (if (a0_4 == a1_4) = true then ((laws_sameInts.f k l0_3 l1_3).bind fun t554 => (if t554 = true then ((laws_sameInts.f k l0_5 l1_5).bind fun t555 => (some t555)) else (some false))) else (some false)) else (some false)) else (some false)) else (some false)
set_option maxHeartbeats 8000000 in
set_option maxRecDepth 100000 in
theorem laws_sameRecord.calls (k : Nat) (a0_0 : Int) (a0_1 : Int) (a0_2 : Bool) (A0_3 : Option Addr) (c0_3 : Nat) (l0_3 : List Int) (a0_4 : Bool) (A0_5 : Option Addr) (c0_5 : Nat) (l0_5 : List Int) (a1_0 : Int) (a1_1 : Int) (a1_2 : Bool) (A1_3 : Option Addr) (c1_3 : Nat) (l1_3 : List Int) (a1_4 : Bool) (A1_5 : Option Addr) (c1_5 : Nat) (l1_5 : List Int) (r : Bool) (w : World) (hr0_3 : Kd.C (Kd.int .i64) w A0_3 l0_3.length l0_3) (hc0_3 : l0_3.length ≤ c0_3) (hr0_5 : Kd.C (Kd.int .i64) w A0_5 l0_5.length l0_5) (hc0_5 : l0_5.length ≤ c0_5) (hr1_3 : Kd.C (Kd.int .i64) w A1_3 l1_3.length l1_3) (hc1_3 : l1_3.length ≤ c1_3) (hr1_5 : Kd.C (Kd.int .i64) w A1_5 l1_5.length l1_5) (hc1_5 : l1_5.length ≤ c1_5) (h : laws_sameRecord.f k a0_0 a0_1 a0_2 l0_3 a0_4 l0_5 a1_0 a1_1 a1_2 l1_3 a1_4 l1_5 = some r) :
  Calls Tryd.prog 16 #[.agg #[.int .i64 a0_0, .int .i64 a0_1, .bool a0_2, .slice A0_3 l0_3.length c0_3, .bool a0_4, .slice A0_5 l0_5.length c0_5], .agg #[.int .i64 a1_0, .int .i64 a1_1, .bool a1_2, .slice A1_3 l1_3.length c1_3, .bool a1_4, .slice A1_5 l1_5.length c1_5]] w fun e w' => e = .returned (.bool r) ∧ Below w.heap.size w w' := by
 have hu33 := Tryd.underlying33
 have HR0_3 := Aside0.mk hr0_3
 have HC0_3 := Aside0.mk hc0_3
 clear hr0_3 hc0_3
 have HR0_5 := Aside0.mk hr0_5
 have HC0_5 := Aside0.mk hc0_5
 clear hr0_5 hc0_5
 have HR1_3 := Aside0.mk hr1_3
 have HC1_3 := Aside0.mk hc1_3
 clear hr1_3 hc1_3
 have HR1_5 := Aside0.mk hr1_5
 have HC1_5 := Aside0.mk hc1_5
 clear hr1_5 hc1_5
 have HB := Aside0.mk (Below.refl w.heap.size w)
 have H : (if a0_0 = a1_0 then (if a0_1 = a1_1 then (if (a0_2 == a1_2) = true then (if (a0_4 == a1_4) = true then ((laws_sameInts.f k l0_3 l1_3).bind fun t554 => (if t554 = true then ((laws_sameInts.f k l0_5 l1_5).bind fun t555 => (some t555)) else (some false))) else (some false)) else (some false)) else (some false)) else (some false)) = some r := h
 clear h
 by_cases c3 : a0_0 = a1_0
 ·rw [if_pos c3] at H
  have c3b0 : (a0_0 == a1_0) = true := beq_iff_eq.mpr c3
  have c3b1 : (a0_0 != a1_0) = false := bne_eq_false_iff_eq.mpr c3
  clear c3
  by_cases c4 : a0_1 = a1_1
  ·rw [if_pos c4] at H
   have c4b0 : (a0_1 == a1_1) = true := beq_iff_eq.mpr c4
   have c4b1 : (a0_1 != a1_1) = false := bne_eq_false_iff_eq.mpr c4
   clear c4
   by_cases c5 : (a0_2 == a1_2) = true
   ·rw [if_pos c5] at H
    have c5b0 : (a0_2 == a1_2) = true := c5
    (try (have c5b1 : decide (a0_2 = a1_2) = true := by simpa using c5))
    (try (have c5b2 : (a0_2 == a1_2) = true := by simpa using c5))
    clear c5
    by_cases c6 : (a0_4 == a1_4) = true
    ·rw [if_pos c6] at H
     have c6b0 : (a0_4 == a1_4) = true := c6
     (try (have c6b1 : decide (a0_4 = a1_4) = true := by simpa using c6))
     (try (have c6b2 : (a0_4 == a1_4) = true := by simpa using c6))
     clear c6
     replace H := tbe H
     obtain ⟨t554, A7, H⟩ := H
     by_cases c8 : t554 = true
     ·subst c8
      rw [if_pos rfl] at H
      replace H := tbe H
      obtain ⟨t555, A9, H⟩ := H
      obtain rfl := Option.some.inj H
      go_enter Tryd.func16, Tryd.ntmps16
      go_wp2_with (first | ((with_reducible refine gate_dst (N := 2) rfl ?_); refine box_event ?hg (N := 2) ?hd (cs := #[.int .i64 a0_0, .int .i64 a0_1, .bool a0_2, .slice A0_3 l0_3.length c0_3, .bool a0_4, .slice A0_5 l0_5.length c0_5]) (t := 33) ?hr ?_; (case hd => rfl); (case hg => rfl); (case hr => first | (go_simp; done) | (go_simp; rfl)); intro gb552 hg w10 hbox hb; have BK552 := Aside0.mk (hbox); have GW552 := tge HB hg; have GE552 := tge HB hg; replace HB := tBs HB hb; clear hb hbox hg) | ((with_reducible refine gate_dst (N := 3) rfl ?_); refine box_event ?hg (N := 3) ?hd (cs := #[.int .i64 a1_0, .int .i64 a1_1, .bool a1_2, .slice A1_3 l1_3.length c1_3, .bool a1_4, .slice A1_5 l1_5.length c1_5]) (t := 33) ?hr ?_; (case hd => rfl); (case hg => rfl); (case hr => first | (go_simp; done) | (go_simp; rfl)); intro gb553 hg w11 hbox hb; have BK553 := Aside0.mk (hbox); have GW553 := tge HB hg; have GE553 := tge HB hg; replace HB := tBs HB hb; have NB552_553 := tlt BK552 hg; have NB553_552 := tgt BK552 hg; replace BK552 := tBb BK552 hb; clear hb hbox hg; have hnb12 := NB552_553.out; have hnc12 := NB553_552.out; obtain ⟨hcz13_0, hcz13_1, hcz13_2, hcz13_3, hcz13_4, hcz13_5, hfz13_0, hfz13_1, hfz13_2, hfz13_3, hfz13_4, hfz13_5⟩ := cells6 BK552.out; obtain ⟨hcz14_0, hcz14_1, hcz14_2, hcz14_3, hcz14_4, hcz14_5, hfz14_0, hfz14_1, hfz14_2, hfz14_3, hfz14_4, hfz14_5⟩ := cells6 BK553.out) | (go_at_call 43; (with_reducible refine (laws_sameInts.calls k _ _ l0_3 _ _ l1_3 true _ ?side1 ?side2 ?side3 ?side4 A7.out).mono ?_); (case side1 => exact tC (Kd.C_below HR0_3.out HB.out)); (case side2 => exact HC0_3.out); (case side3 => exact tC (Kd.C_below HR1_3.out HB.out)); (case side4 => exact HC1_3.out); rintro e w' ⟨rfl, ⟨nd, rfl⟩⟩) | (go_at_call 43; (with_reducible refine (laws_sameInts.calls k _ _ l0_5 _ _ l1_5 t555 _ ?side1 ?side2 ?side3 ?side4 A9.out).mono ?_); (case side1 => exact tC (Kd.C_below HR0_5.out zb)); (case side2 => exact HC0_5.out); (case side3 => exact tC (Kd.C_below HR1_5.out zb)); (case side4 => exact HC1_5.out); rintro e w' ⟨rfl, ⟨nd, rfl⟩⟩))
      go_ret
      exact ⟨by first | rfl | (simp [errW_none, errW_some] <;> rfl) | (simp [*, errW_none, errW_some] <;> rfl), zb⟩
     ·replace c8 := Bool.eq_false_iff.mpr c8
      subst c8
      rw [if_neg (show ¬ (false = true) by decide)] at H
      obtain rfl := Option.some.inj H
      go_enter Tryd.func16, Tryd.ntmps16
      go_wp2_with (first | ((with_reducible refine gate_dst (N := 2) rfl ?_); refine box_event ?hg (N := 2) ?hd (cs := #[.int .i64 a0_0, .int .i64 a0_1, .bool a0_2, .slice A0_3 l0_3.length c0_3, .bool a0_4, .slice A0_5 l0_5.length c0_5]) (t := 33) ?hr ?_; (case hd => rfl); (case hg => rfl); (case hr => first | (go_simp; done) | (go_simp; rfl)); intro gb552 hg w15 hbox hb; have BK552 := Aside0.mk (hbox); have GW552 := tge HB hg; have GE552 := tge HB hg; replace HB := tBs HB hb; clear hb hbox hg) | ((with_reducible refine gate_dst (N := 3) rfl ?_); refine box_event ?hg (N := 3) ?hd (cs := #[.int .i64 a1_0, .int .i64 a1_1, .bool a1_2, .slice A1_3 l1_3.length c1_3, .bool a1_4, .slice A1_5 l1_5.length c1_5]) (t := 33) ?hr ?_; (case hd => rfl); (case hg => rfl); (case hr => first | (go_simp; done) | (go_simp; rfl)); intro gb553 hg w16 hbox hb; have BK553 := Aside0.mk (hbox); have GW553 := tge HB hg; have GE553 := tge HB hg; replace HB := tBs HB hb; have NB552_553 := tlt BK552 hg; have NB553_552 := tgt BK552 hg; replace BK552 := tBb BK552 hb; clear hb hbox hg; have hnb17 := NB552_553.out; have hnc17 := NB553_552.out; obtain ⟨hcz18_0, hcz18_1, hcz18_2, hcz18_3, hcz18_4, hcz18_5, hfz18_0, hfz18_1, hfz18_2, hfz18_3, hfz18_4, hfz18_5⟩ := cells6 BK552.out; obtain ⟨hcz19_0, hcz19_1, hcz19_2, hcz19_3, hcz19_4, hcz19_5, hfz19_0, hfz19_1, hfz19_2, hfz19_3, hfz19_4, hfz19_5⟩ := cells6 BK553.out) | (go_at_call 43; (with_reducible refine (laws_sameInts.calls k _ _ l0_3 _ _ l1_3 false _ ?side1 ?side2 ?side3 ?side4 A7.out).mono ?_); (case side1 => exact tC (Kd.C_below HR0_3.out HB.out)); (case side2 => exact HC0_3.out); (case side3 => exact tC (Kd.C_below HR1_3.out HB.out)); (case side4 => exact HC1_3.out); rintro e w' ⟨rfl, ⟨nd, rfl⟩⟩))
      go_ret
      exact ⟨by first | rfl | (simp [errW_none, errW_some] <;> rfl) | (simp [*, errW_none, errW_some] <;> rfl), zb⟩
    ·rw [if_neg c6] at H
     have c6b0 : (a0_4 == a1_4) = false := by simpa using c6
     (try (have c6b1 : decide (a0_4 = a1_4) = false := by simpa using c6))
     (try (have c6b2 : (a0_4 == a1_4) = false := by simpa using c6))
     (try (have c6b3 : ¬ (a0_4 = a1_4) := by simpa using c6))
     clear c6
     obtain rfl := Option.some.inj H
     go_enter Tryd.func16, Tryd.ntmps16
     go_wp2_with (first | ((with_reducible refine gate_dst (N := 2) rfl ?_); refine box_event ?hg (N := 2) ?hd (cs := #[.int .i64 a0_0, .int .i64 a0_1, .bool a0_2, .slice A0_3 l0_3.length c0_3, .bool a0_4, .slice A0_5 l0_5.length c0_5]) (t := 33) ?hr ?_; (case hd => rfl); (case hg => rfl); (case hr => first | (go_simp; done) | (go_simp; rfl)); intro gb552 hg w20 hbox hb; have BK552 := Aside0.mk (hbox); have GW552 := tge HB hg; have GE552 := tge HB hg; replace HB := tBs HB hb; clear hb hbox hg) | ((with_reducible refine gate_dst (N := 3) rfl ?_); refine box_event ?hg (N := 3) ?hd (cs := #[.int .i64 a1_0, .int .i64 a1_1, .bool a1_2, .slice A1_3 l1_3.length c1_3, .bool a1_4, .slice A1_5 l1_5.length c1_5]) (t := 33) ?hr ?_; (case hd => rfl); (case hg => rfl); (case hr => first | (go_simp; done) | (go_simp; rfl)); intro gb553 hg w21 hbox hb; have BK553 := Aside0.mk (hbox); have GW553 := tge HB hg; have GE553 := tge HB hg; replace HB := tBs HB hb; have NB552_553 := tlt BK552 hg; have NB553_552 := tgt BK552 hg; replace BK552 := tBb BK552 hb; clear hb hbox hg; have hnb22 := NB552_553.out; have hnc22 := NB553_552.out; obtain ⟨hcz23_0, hcz23_1, hcz23_2, hcz23_3, hcz23_4, hcz23_5, hfz23_0, hfz23_1, hfz23_2, hfz23_3, hfz23_4, hfz23_5⟩ := cells6 BK552.out; obtain ⟨hcz24_0, hcz24_1, hcz24_2, hcz24_3, hcz24_4, hcz24_5, hfz24_0, hfz24_1, hfz24_2, hfz24_3, hfz24_4, hfz24_5⟩ := cells6 BK553.out))
     go_ret
     exact ⟨by first | rfl | (simp [errW_none, errW_some] <;> rfl) | (simp [*, errW_none, errW_some] <;> rfl), zb⟩
   ·rw [if_neg c5] at H
    have c5b0 : (a0_2 == a1_2) = false := by simpa using c5
    (try (have c5b1 : decide (a0_2 = a1_2) = false := by simpa using c5))
    (try (have c5b2 : (a0_2 == a1_2) = false := by simpa using c5))
    (try (have c5b3 : ¬ (a0_2 = a1_2) := by simpa using c5))
    clear c5
    obtain rfl := Option.some.inj H
    go_enter Tryd.func16, Tryd.ntmps16
    go_wp2_with (first | ((with_reducible refine gate_dst (N := 2) rfl ?_); refine box_event ?hg (N := 2) ?hd (cs := #[.int .i64 a0_0, .int .i64 a0_1, .bool a0_2, .slice A0_3 l0_3.length c0_3, .bool a0_4, .slice A0_5 l0_5.length c0_5]) (t := 33) ?hr ?_; (case hd => rfl); (case hg => rfl); (case hr => first | (go_simp; done) | (go_simp; rfl)); intro gb552 hg w25 hbox hb; have BK552 := Aside0.mk (hbox); have GW552 := tge HB hg; have GE552 := tge HB hg; replace HB := tBs HB hb; clear hb hbox hg) | ((with_reducible refine gate_dst (N := 3) rfl ?_); refine box_event ?hg (N := 3) ?hd (cs := #[.int .i64 a1_0, .int .i64 a1_1, .bool a1_2, .slice A1_3 l1_3.length c1_3, .bool a1_4, .slice A1_5 l1_5.length c1_5]) (t := 33) ?hr ?_; (case hd => rfl); (case hg => rfl); (case hr => first | (go_simp; done) | (go_simp; rfl)); intro gb553 hg w26 hbox hb; have BK553 := Aside0.mk (hbox); have GW553 := tge HB hg; have GE553 := tge HB hg; replace HB := tBs HB hb; have NB552_553 := tlt BK552 hg; have NB553_552 := tgt BK552 hg; replace BK552 := tBb BK552 hb; clear hb hbox hg; have hnb27 := NB552_553.out; have hnc27 := NB553_552.out; obtain ⟨hcz28_0, hcz28_1, hcz28_2, hcz28_3, hcz28_4, hcz28_5, hfz28_0, hfz28_1, hfz28_2, hfz28_3, hfz28_4, hfz28_5⟩ := cells6 BK552.out; obtain ⟨hcz29_0, hcz29_1, hcz29_2, hcz29_3, hcz29_4, hcz29_5, hfz29_0, hfz29_1, hfz29_2, hfz29_3, hfz29_4, hfz29_5⟩ := cells6 BK553.out))
    go_ret
    exact ⟨by first | rfl | (simp [errW_none, errW_some] <;> rfl) | (simp [*, errW_none, errW_some] <;> rfl), zb⟩
  ·rw [if_neg c4] at H
   have c4b0 : (a0_1 == a1_1) = false := beq_eq_false_iff_ne.mpr c4
   have c4b1 : (a0_1 != a1_1) = true := bne_iff_ne.mpr c4
   obtain rfl := Option.some.inj H
   go_enter Tryd.func16, Tryd.ntmps16
   go_wp2_with (first | ((with_reducible refine gate_dst (N := 2) rfl ?_); refine box_event ?hg (N := 2) ?hd (cs := #[.int .i64 a0_0, .int .i64 a0_1, .bool a0_2, .slice A0_3 l0_3.length c0_3, .bool a0_4, .slice A0_5 l0_5.length c0_5]) (t := 33) ?hr ?_; (case hd => rfl); (case hg => rfl); (case hr => first | (go_simp; done) | (go_simp; rfl)); intro gb552 hg w30 hbox hb; have BK552 := Aside0.mk (hbox); have GW552 := tge HB hg; have GE552 := tge HB hg; replace HB := tBs HB hb; clear hb hbox hg) | ((with_reducible refine gate_dst (N := 3) rfl ?_); refine box_event ?hg (N := 3) ?hd (cs := #[.int .i64 a1_0, .int .i64 a1_1, .bool a1_2, .slice A1_3 l1_3.length c1_3, .bool a1_4, .slice A1_5 l1_5.length c1_5]) (t := 33) ?hr ?_; (case hd => rfl); (case hg => rfl); (case hr => first | (go_simp; done) | (go_simp; rfl)); intro gb553 hg w31 hbox hb; have BK553 := Aside0.mk (hbox); have GW553 := tge HB hg; have GE553 := tge HB hg; replace HB := tBs HB hb; have NB552_553 := tlt BK552 hg; have NB553_552 := tgt BK552 hg; replace BK552 := tBb BK552 hb; clear hb hbox hg; have hnb32 := NB552_553.out; have hnc32 := NB553_552.out; obtain ⟨hcz33_0, hcz33_1, hcz33_2, hcz33_3, hcz33_4, hcz33_5, hfz33_0, hfz33_1, hfz33_2, hfz33_3, hfz33_4, hfz33_5⟩ := cells6 BK552.out; obtain ⟨hcz34_0, hcz34_1, hcz34_2, hcz34_3, hcz34_4, hcz34_5, hfz34_0, hfz34_1, hfz34_2, hfz34_3, hfz34_4, hfz34_5⟩ := cells6 BK553.out))
   go_ret
   exact ⟨by first | rfl | (simp [errW_none, errW_some] <;> rfl) | (simp [*, errW_none, errW_some] <;> rfl), zb⟩
 ·rw [if_neg c3] at H
  have c3b0 : (a0_0 == a1_0) = false := beq_eq_false_iff_ne.mpr c3
  have c3b1 : (a0_0 != a1_0) = true := bne_iff_ne.mpr c3
  obtain rfl := Option.some.inj H
  go_enter Tryd.func16, Tryd.ntmps16
  go_wp2_with (first | ((with_reducible refine gate_dst (N := 2) rfl ?_); refine box_event ?hg (N := 2) ?hd (cs := #[.int .i64 a0_0, .int .i64 a0_1, .bool a0_2, .slice A0_3 l0_3.length c0_3, .bool a0_4, .slice A0_5 l0_5.length c0_5]) (t := 33) ?hr ?_; (case hd => rfl); (case hg => rfl); (case hr => first | (go_simp; done) | (go_simp; rfl)); intro gb552 hg w35 hbox hb; have BK552 := Aside0.mk (hbox); have GW552 := tge HB hg; have GE552 := tge HB hg; replace HB := tBs HB hb; clear hb hbox hg) | ((with_reducible refine gate_dst (N := 3) rfl ?_); refine box_event ?hg (N := 3) ?hd (cs := #[.int .i64 a1_0, .int .i64 a1_1, .bool a1_2, .slice A1_3 l1_3.length c1_3, .bool a1_4, .slice A1_5 l1_5.length c1_5]) (t := 33) ?hr ?_; (case hd => rfl); (case hg => rfl); (case hr => first | (go_simp; done) | (go_simp; rfl)); intro gb553 hg w36 hbox hb; have BK553 := Aside0.mk (hbox); have GW553 := tge HB hg; have GE553 := tge HB hg; replace HB := tBs HB hb; have NB552_553 := tlt BK552 hg; have NB553_552 := tgt BK552 hg; replace BK552 := tBb BK552 hb; clear hb hbox hg; have hnb37 := NB552_553.out; have hnc37 := NB553_552.out; obtain ⟨hcz38_0, hcz38_1, hcz38_2, hcz38_3, hcz38_4, hcz38_5, hfz38_0, hfz38_1, hfz38_2, hfz38_3, hfz38_4, hfz38_5⟩ := cells6 BK552.out; obtain ⟨hcz39_0, hcz39_1, hcz39_2, hcz39_3, hcz39_4, hcz39_5, hfz39_0, hfz39_1, hfz39_2, hfz39_3, hfz39_4, hfz39_5⟩ := cells6 BK553.out))
  go_ret
  exact ⟨by first | rfl | (simp [errW_none, errW_some] <;> rfl) | (simp [*, errW_none, errW_some] <;> rfl), zb⟩

end Go.Proofs.YtbbboachakkgiaaDoor.G

namespace Go.Proofs.YtbbboachakkgiaaDoor.G
open Go.RowKit Go.Proofs.YtbbboachakkgiaaDoorW.PrintWords Go.Proofs.YtbbboachakkgiaaDoorW.PrintLast Go.Proofs.YtbbboachakkgiaaDoorW.PrintMore
attribute [local go_sem] max2_int min2_int max_two min_two max_three min_three max_four min_four   -- for this text's walks alone
set_option linter.unusedVariables false
set_option linter.unusedSimpArgs false

def laws_sameRecords.l0 : Nat → List (S33) → List (S33) → Int → Option (Bool)
 | 0, _, _, _ => none
 | k + 1, x0, x1, x5 => if x5 < (x0.length : Int) then (if 0 ≤ x5 then (if x5 < (x1.length : Int) then ((laws_sameRecord.f k ((rd_T33 x0 x5).f0) ((rd_T33 x0 x5).f1) ((rd_T33 x0 x5).f2) ((rd_T33 x0 x5).f3) ((rd_T33 x0 x5).f4) ((rd_T33 x0 x5).f5) ((rd_T33 x1 x5).f0) ((rd_T33 x1 x5).f1) ((rd_T33 x1 x5).f2) ((rd_T33 x1 x5).f3) ((rd_T33 x1 x5).f4) ((rd_T33 x1 x5).f5)).bind fun t558 => (if t558 = true then (laws_sameRecords.l0 k x0 x1 (wrap64 (x5 + 1))) else (some false))) else (none)) else (none)) else (some true)
def laws_sameRecords.f (k : Nat) (l0 : List (S33)) (l1 : List (S33)) : Option (Bool) := if (l0.length : Int) = (l1.length : Int) then (laws_sameRecords.l0 k l0 l1 0) else (some false)
def laws_sameRecords.T6 : Bool × List (List Nat × List Nat) := (true, [([], []), ([], []), ([0, 1], [0, 1]), ([2], [2]), ([], []), ([], []), ([4, 5], [4, 5]), ([6], [6]), ([3, 7], [3, 7]), ([8], [8])])
def laws_sameRecords.B6 : List Nat := [0, 0, 3, 7, 0, 0, 48, 112, 255, 511]
theorem laws_sameRecords.tab6 : rtab .any (opsOf Tryd.f27 6) = laws_sameRecords.T6 := by kernel_rfl
theorem laws_sameRecords.bits6 : waitsOk laws_sameRecords.T6.2 laws_sameRecords.B6 = true := by kernel_rfl
set_option maxHeartbeats 8000000 in
set_option maxRecDepth 100000 in
theorem laws_sameRecords.calls (k : Nat) (A0 : Option Addr) (c0 : Nat) (l0 : List (S33)) (A1 : Option Addr) (c1 : Nat) (l1 : List (S33)) (r : Bool) (w : World) (hr0 : Kd.C k33 w A0 l0.length l0) (hc0 : l0.length ≤ c0) (hr1 : Kd.C k33 w A1 l1.length l1) (hc1 : l1.length ≤ c1) (h : laws_sameRecords.f k l0 l1 = some r) :
  Calls Tryd.prog 27 #[.slice A0 l0.length c0, .slice A1 l1.length c1] w fun e w' => e = .returned (.bool r) ∧ Below w.heap.size w w' := by
 have hu33 := Tryd.underlying33
 have HR0 := Aside0.mk hr0
 have HC0 := Aside0.mk hc0
 clear hr0 hc0
 have HR1 := Aside0.mk hr1
 have HC1 := Aside0.mk hc1
 clear hr1 hc1
 have HB := Aside0.mk (Below.refl w.heap.size w)
 have H : (if (l0.length : Int) = (l1.length : Int) then (laws_sameRecords.l0 k l0 l1 0) else (some false)) = some r := h
 clear h
 by_cases c3 : (l0.length : Int) = (l1.length : Int)
 ·rw [if_pos c3] at H
  have c3b0 : ((l0.length : Int) == (l1.length : Int)) = true := beq_iff_eq.mpr c3
  have c3b1 : ((l0.length : Int) != (l1.length : Int)) = false := bne_eq_false_iff_eq.mpr c3
  have c3b2 : (l0.length == l1.length) = true := by first | simpa using c3 | (simp at c3 ⊢; omega)
  clear c3
  have H' := Aside0.mk H
  clear H
  go_enter Tryd.func27, Tryd.ntmps27
  go_wp2
  go_loopg [5] k (fun kq v5 w' => ∃ (x5_1 : Int), v5 = .int .i64 x5_1 ∧ Aside0 (laws_sameRecords.l0 kq l0 l1 x5_1 = some r) ∧ Aside0 (kq ≤ k) ∧ Aside0 (Below w.heap.size w w'))
  case atStart => exact ⟨(0), tr, H', ⟨Nat.le_refl _⟩, ⟨zb⟩⟩
  case round =>
   clear H'
   try clear c1; try clear c3; try clear c3b0; try clear c3b1; try clear c3b2
   obtain ⟨x5_1, rfl, HA, HK1, HB⟩ := hrel
   cases gk with
   | zero => exact absurd HA.out (by simp [laws_sameRecords.l0])
   | succ k1 =>
    have H := HA.out
    clear HA
    simp only [laws_sameRecords.l0] at H
    by_cases c4 : x5_1 < (l0.length : Int)
    ·rw [if_pos c4] at H
     have c4b0 : decide (x5_1 < (l0.length : Int)) = true := decide_eq_true c4
     clear c4
     by_cases c5 : 0 ≤ x5_1
     ·rw [if_pos c5] at H
      have c5b0 : decide (0 ≤ x5_1) = true := decide_eq_true c5
      clear c5
      by_cases c6 : x5_1 < (l1.length : Int)
      ·rw [if_pos c6] at H
       have c6b0 : decide (x5_1 < (l1.length : Int)) = true := decide_eq_true c6
       clear c6
       replace H := tbe H
       obtain ⟨t558, A7, H⟩ := H
       by_cases c8 : t558 = true
       ·subst c8
        rw [if_pos rfl] at H
        have H' := Aside0.mk H
        clear H
        try go_wp2
        replace HB := Aside0.mk (below_drew1 HB.out)
        have p556 : 0 ≤ (x5_1 : Int) := td
        have q556 : x5_1 < (l0.length : Int) := td
        obtain ⟨ad556, A556_3, c556_3, A556_5, c556_5, e556, hx556_0, hx556_1, hx556_2, hx556_3, hx556_4, hx556_5, hl556_3, hi556_3, hl556_5, hi556_5⟩ := at_T33 HR0.out x5_1 p556 q556
        have hw556_5 := hx556_5
        have hw556_4 := hx556_4
        have hw556_3 := hx556_3
        have hw556_2 := hx556_2
        have hw556_1 := hx556_1
        have hw556_0 := hx556_0
        cases e556
        replace hx556_0 := tcl HB hx556_0
        replace hx556_1 := tcl HB hx556_1
        replace hx556_2 := tcl HB hx556_2
        replace hx556_3 := tcl HB hx556_3
        replace hx556_4 := tcl HB hx556_4
        replace hx556_5 := tcl HB hx556_5
        have HR556_3 := Aside0.mk hi556_3
        have HC556_3 := Aside0.mk hl556_3
        clear hi556_3 hl556_3
        have HR556_5 := Aside0.mk hi556_5
        have HC556_5 := Aside0.mk hl556_5
        clear hi556_5 hl556_5
        replace p556 := eq_true p556
        replace q556 := eq_true q556
        have p557 : 0 ≤ (x5_1 : Int) := td
        have q557 : x5_1 < (l1.length : Int) := td
        obtain ⟨ad557, A557_3, c557_3, A557_5, c557_5, e557, hx557_0, hx557_1, hx557_2, hx557_3, hx557_4, hx557_5, hl557_3, hi557_3, hl557_5, hi557_5⟩ := at_T33 HR1.out x5_1 p557 q557
        have hw557_5 := hx557_5
        have hw557_4 := hx557_4
        have hw557_3 := hx557_3
        have hw557_2 := hx557_2
        have hw557_1 := hx557_1
        have hw557_0 := hx557_0
        cases e557
        replace hx557_0 := tcl HB hx557_0
        replace hx557_1 := tcl HB hx557_1
        replace hx557_2 := tcl HB hx557_2
        replace hx557_3 := tcl HB hx557_3
        replace hx557_4 := tcl HB hx557_4
        replace hx557_5 := tcl HB hx557_5
        have HR557_3 := Aside0.mk hi557_3
        have HC557_3 := Aside0.mk hl557_3
        clear hi557_3 hl557_3
        have HR557_5 := Aside0.mk hi557_5
        have HC557_5 := Aside0.mk hl557_5
        clear hi557_5 hl557_5
        replace p557 := eq_true p557
        replace q557 := eq_true q557
        refine start_ (n := 10) (S := fun w' => w'.cell? (ad556.add ((x5_1).toNat * 6)) = some (.int .i64 ((rd_T33 l0 x5_1).f0)) ∧ w'.cell? ⟨(ad556.add ((x5_1).toNat * 6)).block, (ad556.add ((x5_1).toNat * 6)).off + 1, none⟩ = some (.int .i64 ((rd_T33 l0 x5_1).f1)) ∧ w'.cell? ⟨(ad556.add ((x5_1).toNat * 6)).block, (ad556.add ((x5_1).toNat * 6)).off + 2, none⟩ = some (.bool ((rd_T33 l0 x5_1).f2)) ∧ w'.cell? ⟨(ad556.add ((x5_1).toNat * 6)).block, (ad556.add ((x5_1).toNat * 6)).off + 3, none⟩ = some (.slice A556_3 ((rd_T33 l0 x5_1).f3).length c556_3) ∧ w'.cell? ⟨(ad556.add ((x5_1).toNat * 6)).block, (ad556.add ((x5_1).toNat * 6)).off + 4, none⟩ = some (.bool ((rd_T33 l0 x5_1).f4)) ∧ w'.cell? ⟨(ad556.add ((x5_1).toNat * 6)).block, (ad556.add ((x5_1).toNat * 6)).off + 5, none⟩ = some (.slice A556_5 ((rd_T33 l0 x5_1).f5).length c556_5) ∧ w'.cell? (ad557.add ((x5_1).toNat * 6)) = some (.int .i64 ((rd_T33 l1 x5_1).f0)) ∧ w'.cell? ⟨(ad557.add ((x5_1).toNat * 6)).block, (ad557.add ((x5_1).toNat * 6)).off + 1, none⟩ = some (.int .i64 ((rd_T33 l1 x5_1).f1)) ∧ w'.cell? ⟨(ad557.add ((x5_1).toNat * 6)).block, (ad557.add ((x5_1).toNat * 6)).off + 2, none⟩ = some (.bool ((rd_T33 l1 x5_1).f2)) ∧ w'.cell? ⟨(ad557.add ((x5_1).toNat * 6)).block, (ad557.add ((x5_1).toNat * 6)).off + 3, none⟩ = some (.slice A557_3 ((rd_T33 l1 x5_1).f3).length c557_3) ∧ w'.cell? ⟨(ad557.add ((x5_1).toNat * 6)).block, (ad557.add ((x5_1).toNat * 6)).off + 4, none⟩ = some (.bool ((rd_T33 l1 x5_1).f4)) ∧ w'.cell? ⟨(ad557.add ((x5_1).toNat * 6)).block, (ad557.add ((x5_1).toNat * 6)).off + 5, none⟩ = some (.slice A557_5 ((rd_T33 l1 x5_1).f5).length c557_5)) (ds := []) #[false, false, false, false, false, false, false, false, false, false] (by kernel_rfl) rfl rfl ⟨(tcl HB hw556_0), (tcl HB hw556_1), (tcl HB hw556_2), (tcl HB hw556_3), (tcl HB hw556_4), (tcl HB hw556_5), (tcl HB hw557_0), (tcl HB hw557_1), (tcl HB hw557_2), (tcl HB hw557_3), (tcl HB hw557_4), (tcl HB hw557_5)⟩ (fun hHeld => ?_); refine with_tabW laws_sameRecords.tab6 laws_sameRecords.bits6 (fun HT_ HW_ => ?_)
        generalize wr.drew = w9 at HB HR556_3 HR556_5 HR557_3 HR557_5 hx556_0 hx556_1 hx556_2 hx556_3 hx556_4 hx556_5 hx557_0 hx557_1 hx557_2 hx557_3 hx557_4 hx557_5 hHeld ⊢
        refine tpu 0 (some 17) #[true, false, false, false, false, false, false, false, false, false] ?_
        refine tpu 1 (some 18) #[true, true, false, false, false, false, false, false, false, false] ?_
        refine tpu 2 (some 19) #[true, true, true, false, false, false, false, false, false, false] ?_
        refine tpu 4 (some 21) #[true, true, true, false, true, false, false, false, false, false] ?_
        refine tpu 5 (some 22) #[true, true, true, false, true, true, false, false, false, false] ?_
        refine tpu 6 (some 23) #[true, true, true, false, true, true, true, false, false, false] ?_
        refine tta 3 (some 20) #[true, true, true, true, true, true, true, false, false, false] hHeld ?_ (hy := by rintro w' ⟨s0, s1, s2, s3, s4, s5, s6, s7, s8, s9, s10, s11⟩; go_simp; with_reducible rfl)
        refine tta 7 (some 24) #[true, true, true, true, true, true, true, true, false, false] hHeld ?_ (hy := by rintro w' ⟨s0, s1, s2, s3, s4, s5, s6, s7, s8, s9, s10, s11⟩; go_simp; with_reducible rfl)
        refine one_ (i := 8) (N := some 25) #[true, true, true, true, true, true, true, true, true, false] rfl rfl (one_of HT_.out (by kernel_rfl)) (by decide) (fun K hK => ?_)
        refine goes_ Tryd.func16 (by kernel_rfl) rfl #[.agg #[.int .i64 ((rd_T33 l0 x5_1).f0), .int .i64 ((rd_T33 l0 x5_1).f1), .bool ((rd_T33 l0 x5_1).f2), .slice A556_3 ((rd_T33 l0 x5_1).f3).length c556_3, .bool ((rd_T33 l0 x5_1).f4), .slice A556_5 ((rd_T33 l0 x5_1).f5).length c556_5], .agg #[.int .i64 ((rd_T33 l1 x5_1).f0), .int .i64 ((rd_T33 l1 x5_1).f1), .bool ((rd_T33 l1 x5_1).f2), .slice A557_3 ((rd_T33 l1 x5_1).f3).length c557_3, .bool ((rd_T33 l1 x5_1).f4), .slice A557_5 ((rd_T33 l1 x5_1).f5).length c557_5]] (by rfl) rfl rfl tq ?_
        with_reducible refine (laws_sameRecord.calls k1 ((rd_T33 l0 x5_1).f0) ((rd_T33 l0 x5_1).f1) ((rd_T33 l0 x5_1).f2) _ _ ((rd_T33 l0 x5_1).f3) ((rd_T33 l0 x5_1).f4) _ _ ((rd_T33 l0 x5_1).f5) ((rd_T33 l1 x5_1).f0) ((rd_T33 l1 x5_1).f1) ((rd_T33 l1 x5_1).f2) _ _ ((rd_T33 l1 x5_1).f3) ((rd_T33 l1 x5_1).f4) _ _ ((rd_T33 l1 x5_1).f5) true _ ?side1 ?side2 ?side3 ?side4 ?side5 ?side6 ?side7 ?side8 A7.out).mono ?_
        (case side1 => exact tC (Kd.C_below HR556_3.out HB.out))
        (case side2 => exact HC556_3.out)
        (case side3 => exact tC (Kd.C_below HR556_5.out HB.out))
        (case side4 => exact HC556_5.out)
        (case side5 => exact tC (Kd.C_below HR557_3.out HB.out))
        (case side6 => exact HC557_3.out)
        (case side7 => exact tC (Kd.C_below HR557_5.out HB.out))
        (case side8 => exact HC557_5.out)
        rintro e w10 ⟨rfl, hb⟩
        refine ⟨_, rfl, ?_⟩
        replace HB := tBs HB hb
        (try clear hb)
        (try clear hb2)
        (try clear hk)
        (try clear hi)
        refine hK.out _ _ ⟨(tcl HB hw556_0), (tcl HB hw556_1), (tcl HB hw556_2), (tcl HB hw556_3), (tcl HB hw556_4), (tcl HB hw556_5), (tcl HB hw557_0), (tcl HB hw557_1), (tcl HB hw557_2), (tcl HB hw557_3), (tcl HB hw557_4), (tcl HB hw557_5)⟩ (fun hHeld => ?_)
        clear hK K
        refine tnm (some 25) ?_
        refine tpu 9 (some 26) #[true, true, true, true, true, true, true, true, true, true] ?_
        refine done_ (done_of HT_.out (by kernel_rfl)) ?_
        try go_wp2
        go_roundg k1
        case measure => have := HK1.out; omega
        case rel => exact ⟨(wrap64 (x5_1 + 1)), tr, H', ⟨by have := HK1.out; omega⟩, ⟨zb⟩⟩
       ·replace c8 := Bool.eq_false_iff.mpr c8
        subst c8
        rw [if_neg (show ¬ (false = true) by decide)] at H
        obtain rfl := Option.some.inj H
        try go_wp2
        replace HB := Aside0.mk (below_drew1 HB.out)
        have p556 : 0 ≤ (x5_1 : Int) := td
        have q556 : x5_1 < (l0.length : Int) := td
        obtain ⟨ad556, A556_3, c556_3, A556_5, c556_5, e556, hx556_0, hx556_1, hx556_2, hx556_3, hx556_4, hx556_5, hl556_3, hi556_3, hl556_5, hi556_5⟩ := at_T33 HR0.out x5_1 p556 q556
        have hw556_5 := hx556_5
        have hw556_4 := hx556_4
        have hw556_3 := hx556_3
        have hw556_2 := hx556_2
        have hw556_1 := hx556_1
        have hw556_0 := hx556_0
        cases e556
        replace hx556_0 := tcl HB hx556_0
        replace hx556_1 := tcl HB hx556_1
        replace hx556_2 := tcl HB hx556_2
        replace hx556_3 := tcl HB hx556_3
        replace hx556_4 := tcl HB hx556_4
        replace hx556_5 := tcl HB hx556_5
        have HR556_3 := Aside0.mk hi556_3
        have HC556_3 := Aside0.mk hl556_3
        clear hi556_3 hl556_3
        have HR556_5 := Aside0.mk hi556_5
        have HC556_5 := Aside0.mk hl556_5
        clear hi556_5 hl556_5
        replace p556 := eq_true p556
        replace q556 := eq_true q556
        have p557 : 0 ≤ (x5_1 : Int) := td
        have q557 : x5_1 < (l1.length : Int) := td
        obtain ⟨ad557, A557_3, c557_3, A557_5, c557_5, e557, hx557_0, hx557_1, hx557_2, hx557_3, hx557_4, hx557_5, hl557_3, hi557_3, hl557_5, hi557_5⟩ := at_T33 HR1.out x5_1 p557 q557
        have hw557_5 := hx557_5
        have hw557_4 := hx557_4
        have hw557_3 := hx557_3
        have hw557_2 := hx557_2
        have hw557_1 := hx557_1
        have hw557_0 := hx557_0
        cases e557
        replace hx557_0 := tcl HB hx557_0
        replace hx557_1 := tcl HB hx557_1
        replace hx557_2 := tcl HB hx557_2
        replace hx557_3 := tcl HB hx557_3
        replace hx557_4 := tcl HB hx557_4
        replace hx557_5 := tcl HB hx557_5
        have HR557_3 := Aside0.mk hi557_3
        have HC557_3 := Aside0.mk hl557_3
        clear hi557_3 hl557_3
        have HR557_5 := Aside0.mk hi557_5
        have HC557_5 := Aside0.mk hl557_5
        clear hi557_5 hl557_5
        replace p557 := eq_true p557
        replace q557 := eq_true q557
        refine start_ (n := 10) (S := fun w' => w'.cell? (ad556.add ((x5_1).toNat * 6)) = some (.int .i64 ((rd_T33 l0 x5_1).f0)) ∧ w'.cell? ⟨(ad556.add ((x5_1).toNat * 6)).block, (ad556.add ((x5_1).toNat * 6)).off + 1, none⟩ = some (.int .i64 ((rd_T33 l0 x5_1).f1)) ∧ w'.cell? ⟨(ad556.add ((x5_1).toNat * 6)).block, (ad556.add ((x5_1).toNat * 6)).off + 2, none⟩ = some (.bool ((rd_T33 l0 x5_1).f2)) ∧ w'.cell? ⟨(ad556.add ((x5_1).toNat * 6)).block, (ad556.add ((x5_1).toNat * 6)).off + 3, none⟩ = some (.slice A556_3 ((rd_T33 l0 x5_1).f3).length c556_3) ∧ w'.cell? ⟨(ad556.add ((x5_1).toNat * 6)).block, (ad556.add ((x5_1).toNat * 6)).off + 4, none⟩ = some (.bool ((rd_T33 l0 x5_1).f4)) ∧ w'.cell? ⟨(ad556.add ((x5_1).toNat * 6)).block, (ad556.add ((x5_1).toNat * 6)).off + 5, none⟩ = some (.slice A556_5 ((rd_T33 l0 x5_1).f5).length c556_5) ∧ w'.cell? (ad557.add ((x5_1).toNat * 6)) = some (.int .i64 ((rd_T33 l1 x5_1).f0)) ∧ w'.cell? ⟨(ad557.add ((x5_1).toNat * 6)).block, (ad557.add ((x5_1).toNat * 6)).off + 1, none⟩ = some (.int .i64 ((rd_T33 l1 x5_1).f1)) ∧ w'.cell? ⟨(ad557.add ((x5_1).toNat * 6)).block, (ad557.add ((x5_1).toNat * 6)).off + 2, none⟩ = some (.bool ((rd_T33 l1 x5_1).f2)) ∧ w'.cell? ⟨(ad557.add ((x5_1).toNat * 6)).block, (ad557.add ((x5_1).toNat * 6)).off + 3, none⟩ = some (.slice A557_3 ((rd_T33 l1 x5_1).f3).length c557_3) ∧ w'.cell? ⟨(ad557.add ((x5_1).toNat * 6)).block, (ad557.add ((x5_1).toNat * 6)).off + 4, none⟩ = some (.bool ((rd_T33 l1 x5_1).f4)) ∧ w'.cell? ⟨(ad557.add ((x5_1).toNat * 6)).block, (ad557.add ((x5_1).toNat * 6)).off + 5, none⟩ = some (.slice A557_5 ((rd_T33 l1 x5_1).f5).length c557_5)) (ds := []) #[false, false, false, false, false, false, false, false, false, false] (by kernel_rfl) rfl rfl ⟨(tcl HB hw556_0), (tcl HB hw556_1), (tcl HB hw556_2), (tcl HB hw556_3), (tcl HB hw556_4), (tcl HB hw556_5), (tcl HB hw557_0), (tcl HB hw557_1), (tcl HB hw557_2), (tcl HB hw557_3), (tcl HB hw557_4), (tcl HB hw557_5)⟩ (fun hHeld => ?_); refine with_tabW laws_sameRecords.tab6 laws_sameRecords.bits6 (fun HT_ HW_ => ?_)
        generalize wr.drew = w11 at HB HR556_3 HR556_5 HR557_3 HR557_5 hx556_0 hx556_1 hx556_2 hx556_3 hx556_4 hx556_5 hx557_0 hx557_1 hx557_2 hx557_3 hx557_4 hx557_5 hHeld ⊢
        refine tpu 0 (some 17) #[true, false, false, false, false, false, false, false, false, false] ?_
        refine tpu 1 (some 18) #[true, true, false, false, false, false, false, false, false, false] ?_
        refine tpu 2 (some 19) #[true, true, true, false, false, false, false, false, false, false] ?_
        refine tpu 4 (some 21) #[true, true, true, false, true, false, false, false, false, false] ?_
        refine tpu 5 (some 22) #[true, true, true, false, true, true, false, false, false, false] ?_
        refine tpu 6 (some 23) #[true, true, true, false, true, true, true, false, false, false] ?_
        refine tta 3 (some 20) #[true, true, true, true, true, true, true, false, false, false] hHeld ?_ (hy := by rintro w' ⟨s0, s1, s2, s3, s4, s5, s6, s7, s8, s9, s10, s11⟩; go_simp; with_reducible rfl)
        refine tta 7 (some 24) #[true, true, true, true, true, true, true, true, false, false] hHeld ?_ (hy := by rintro w' ⟨s0, s1, s2, s3, s4, s5, s6, s7, s8, s9, s10, s11⟩; go_simp; with_reducible rfl)
        refine one_ (i := 8) (N := some 25) #[true, true, true, true, true, true, true, true, true, false] rfl rfl (one_of HT_.out (by kernel_rfl)) (by decide) (fun K hK => ?_)
        refine goes_ Tryd.func16 (by kernel_rfl) rfl #[.agg #[.int .i64 ((rd_T33 l0 x5_1).f0), .int .i64 ((rd_T33 l0 x5_1).f1), .bool ((rd_T33 l0 x5_1).f2), .slice A556_3 ((rd_T33 l0 x5_1).f3).length c556_3, .bool ((rd_T33 l0 x5_1).f4), .slice A556_5 ((rd_T33 l0 x5_1).f5).length c556_5], .agg #[.int .i64 ((rd_T33 l1 x5_1).f0), .int .i64 ((rd_T33 l1 x5_1).f1), .bool ((rd_T33 l1 x5_1).f2), .slice A557_3 ((rd_T33 l1 x5_1).f3).length c557_3, .bool ((rd_T33 l1 x5_1).f4), .slice A557_5 ((rd_T33 l1 x5_1).f5).length c557_5]] (by rfl) rfl rfl tq ?_
        with_reducible refine (laws_sameRecord.calls k1 ((rd_T33 l0 x5_1).f0) ((rd_T33 l0 x5_1).f1) ((rd_T33 l0 x5_1).f2) _ _ ((rd_T33 l0 x5_1).f3) ((rd_T33 l0 x5_1).f4) _ _ ((rd_T33 l0 x5_1).f5) ((rd_T33 l1 x5_1).f0) ((rd_T33 l1 x5_1).f1) ((rd_T33 l1 x5_1).f2) _ _ ((rd_T33 l1 x5_1).f3) ((rd_T33 l1 x5_1).f4) _ _ ((rd_T33 l1 x5_1).f5) false _ ?side1 ?side2 ?side3 ?side4 ?side5 ?side6 ?side7 ?side8 A7.out).mono ?_
        (case side1 => exact tC (Kd.C_below HR556_3.out HB.out))
        (case side2 => exact HC556_3.out)
        (case side3 => exact tC (Kd.C_below HR556_5.out HB.out))
        (case side4 => exact HC556_5.out)
        (case side5 => exact tC (Kd.C_below HR557_3.out HB.out))
        (case side6 => exact HC557_3.out)
        (case side7 => exact tC (Kd.C_below HR557_5.out HB.out))
        (case side8 => exact HC557_5.out)
        rintro e w12 ⟨rfl, hb⟩
        refine ⟨_, rfl, ?_⟩
        replace HB := tBs HB hb
        (try clear hb)
        (try clear hb2)
        (try clear hk)
        (try clear hi)
        refine hK.out _ _ ⟨(tcl HB hw556_0), (tcl HB hw556_1), (tcl HB hw556_2), (tcl HB hw556_3), (tcl HB hw556_4), (tcl HB hw556_5), (tcl HB hw557_0), (tcl HB hw557_1), (tcl HB hw557_2), (tcl HB hw557_3), (tcl HB hw557_4), (tcl HB hw557_5)⟩ (fun hHeld => ?_)
        clear hK K
        refine tnm (some 25) ?_
        refine tpu 9 (some 26) #[true, true, true, true, true, true, true, true, true, true] ?_
        refine done_ (done_of HT_.out (by kernel_rfl)) ?_
        try go_wp2
        go_ret
        exact ⟨by first | rfl | (simp [errW_none, errW_some] <;> rfl) | (simp [*, errW_none, errW_some] <;> rfl), zb⟩
      ·rw [if_neg c6] at H
       exact absurd H (by simp)
     ·rw [if_neg c5] at H
      exact absurd H (by simp)
    ·rw [if_neg c4] at H
     have c4b0 : decide (x5_1 < (l0.length : Int)) = false := decide_eq_false c4
     clear c4
     obtain rfl := Option.some.inj H
     go_wp2
     go_ret
     exact ⟨by first | rfl | (simp [errW_none, errW_some] <;> rfl) | (simp [*, errW_none, errW_some] <;> rfl), zb⟩
 ·rw [if_neg c3] at H
  have c3b0 : ((l0.length : Int) == (l1.length : Int)) = false := beq_eq_false_iff_ne.mpr c3
  have c3b1 : ((l0.length : Int) != (l1.length : Int)) = true := bne_iff_ne.mpr c3
  have c3b2 : (l0.length == l1.length) = false := by first | simpa using c3 | (simp at c3 ⊢; omega)
  obtain rfl := Option.some.inj H
  go_enter Tryd.func27, Tryd.ntmps27
  go_wp2
  go_ret
  exact ⟨by first | rfl | (simp [errW_none, errW_some] <;> rfl) | (simp [*, errW_none, errW_some] <;> rfl), zb⟩

def laws_sameBatch.f (k : Nat) (a0_0 : Bool) (a0_1 : Bool) (a0_2 : Int) (a0_3 : Int) (a0_4 : Int) (l0_5 : List (S33)) (a1_0 : Bool) (a1_1 : Bool) (a1_2 : Int) (a1_3 : Int) (a1_4 : Int) (l1_5 : List (S33)) : Option (Bool) := if (a0_0 == a1_0) = true then (if (a0_1 == a1_1) = true then (if a0_2 = a1_2 then (if a0_3 = a1_3 then (if a0_4 = a1_4 then ((laws_sameRecords.f k l0_5 l1_5).bind fun t561 => (some t561)) else (some false)) else (some false)) else (some false)) else (some false)) else (some false)
set_option maxHeartbeats 8000000 in
set_option maxRecDepth 100000 in
theorem laws_sameBatch.calls (k : Nat) (a0_0 : Bool) (a0_1 : Bool) (a0_2 : Int) (a0_3 : Int) (a0_4 : Int) (A0_5 : Option Addr) (c0_5 : Nat) (l0_5 : List (S33)) (a1_0 : Bool) (a1_1 : Bool) (a1_2 : Int) (a1_3 : Int) (a1_4 : Int) (A1_5 : Option Addr) (c1_5 : Nat) (l1_5 : List (S33)) (r : Bool) (w : World) (hr0_5 : Kd.C k33 w A0_5 l0_5.length l0_5) (hc0_5 : l0_5.length ≤ c0_5) (hr1_5 : Kd.C k33 w A1_5 l1_5.length l1_5) (hc1_5 : l1_5.length ≤ c1_5) (h : laws_sameBatch.f k a0_0 a0_1 a0_2 a0_3 a0_4 l0_5 a1_0 a1_1 a1_2 a1_3 a1_4 l1_5 = some r) :
  Calls Tryd.prog 42 #[.agg #[.bool a0_0, .bool a0_1, .int .i64 a0_2, .int .i64 a0_3, .int .i64 a0_4, .slice A0_5 l0_5.length c0_5], .agg #[.bool a1_0, .bool a1_1, .int .i64 a1_2, .int .i64 a1_3, .int .i64 a1_4, .slice A1_5 l1_5.length c1_5]] w fun e w' => e = .returned (.bool r) ∧ Below w.heap.size w w' := by
 have hu47 := Tryd.underlying47
 have HR0_5 := Aside0.mk hr0_5
 have HC0_5 := Aside0.mk hc0_5
 clear hr0_5 hc0_5
 have HR1_5 := Aside0.mk hr1_5
 have HC1_5 := Aside0.mk hc1_5
 clear hr1_5 hc1_5
 have HB := Aside0.mk (Below.refl w.heap.size w)
 have H : (if (a0_0 == a1_0) = true then (if (a0_1 == a1_1) = true then (if a0_2 = a1_2 then (if a0_3 = a1_3 then (if a0_4 = a1_4 then ((laws_sameRecords.f k l0_5 l1_5).bind fun t561 => (some t561)) else (some false)) else (some false)) else (some false)) else (some false)) else (some false)) = some r := h
 clear h
 by_cases c3 : (a0_0 == a1_0) = true
 ·rw [if_pos c3] at H
  have c3b0 : (a0_0 == a1_0) = true := c3
  (try (have c3b1 : decide (a0_0 = a1_0) = true := by simpa using c3))
  (try (have c3b2 : (a0_0 == a1_0) = true := by simpa using c3))
  clear c3
  by_cases c4 : (a0_1 == a1_1) = true
  ·rw [if_pos c4] at H
   have c4b0 : (a0_1 == a1_1) = true := c4
   (try (have c4b1 : decide (a0_1 = a1_1) = true := by simpa using c4))
   (try (have c4b2 : (a0_1 == a1_1) = true := by simpa using c4))
   clear c4
   by_cases c5 : a0_2 = a1_2
   ·rw [if_pos c5] at H
    have c5b0 : (a0_2 == a1_2) = true := beq_iff_eq.mpr c5
    have c5b1 : (a0_2 != a1_2) = false := bne_eq_false_iff_eq.mpr c5
    clear c5
    by_cases c6 : a0_3 = a1_3
    ·rw [if_pos c6] at H
     have c6b0 : (a0_3 == a1_3) = true := beq_iff_eq.mpr c6
     have c6b1 : (a0_3 != a1_3) = false := bne_eq_false_iff_eq.mpr c6
     clear c6
     by_cases c7 : a0_4 = a1_4
     ·rw [if_pos c7] at H
      have c7b0 : (a0_4 == a1_4) = true := beq_iff_eq.mpr c7
      have c7b1 : (a0_4 != a1_4) = false := bne_eq_false_iff_eq.mpr c7
      clear c7
      replace H := tbe H
      obtain ⟨t561, A8, H⟩ := H
      obtain rfl := Option.some.inj H
      go_enter Tryd.func42, Tryd.ntmps42
      go_wp2_with (first | ((with_reducible refine gate_dst (N := 2) rfl ?_); refine box_event ?hg (N := 2) ?hd (cs := #[.bool a0_0, .bool a0_1, .int .i64 a0_2, .int .i64 a0_3, .int .i64 a0_4, .slice A0_5 l0_5.length c0_5]) (t := 47) ?hr ?_; (case hd => rfl); (case hg => rfl); (case hr => first | (go_simp; done) | (go_simp; rfl)); intro gb559 hg w9 hbox hb; have BK559 := Aside0.mk (hbox); have GW559 := tge HB hg; have GE559 := tge HB hg; replace HB := tBs HB hb; clear hb hbox hg) | ((with_reducible refine gate_dst (N := 3) rfl ?_); refine box_event ?hg (N := 3) ?hd (cs := #[.bool a1_0, .bool a1_1, .int .i64 a1_2, .int .i64 a1_3, .int .i64 a1_4, .slice A1_5 l1_5.length c1_5]) (t := 47) ?hr ?_; (case hd => rfl); (case hg => rfl); (case hr => first | (go_simp; done) | (go_simp; rfl)); intro gb560 hg w10 hbox hb; have BK560 := Aside0.mk (hbox); have GW560 := tge HB hg; have GE560 := tge HB hg; replace HB := tBs HB hb; have NB559_560 := tlt BK559 hg; have NB560_559 := tgt BK559 hg; replace BK559 := tBb BK559 hb; clear hb hbox hg; have hnb11 := NB559_560.out; have hnc11 := NB560_559.out; obtain ⟨hcz12_0, hcz12_1, hcz12_2, hcz12_3, hcz12_4, hcz12_5, hfz12_0, hfz12_1, hfz12_2, hfz12_3, hfz12_4, hfz12_5⟩ := cells6 BK559.out; obtain ⟨hcz13_0, hcz13_1, hcz13_2, hcz13_3, hcz13_4, hcz13_5, hfz13_0, hfz13_1, hfz13_2, hfz13_3, hfz13_4, hfz13_5⟩ := cells6 BK560.out) | (go_at_call 27; (with_reducible refine (laws_sameRecords.calls k _ _ l0_5 _ _ l1_5 t561 _ ?side1 ?side2 ?side3 ?side4 A8.out).mono ?_); (case side1 => exact tC (Kd.C_below HR0_5.out HB.out)); (case side2 => exact HC0_5.out); (case side3 => exact tC (Kd.C_below HR1_5.out HB.out)); (case side4 => exact HC1_5.out); rintro e w14 ⟨rfl, hb⟩; replace BK559 := tBb BK559 hb; replace BK560 := tBb BK560 hb; replace HB := tBs HB hb; (try clear hb); (try clear hb2); (try clear hk); (try clear hi)))
      go_ret
      exact ⟨by first | rfl | (simp [errW_none, errW_some] <;> rfl) | (simp [*, errW_none, errW_some] <;> rfl), zb⟩
     ·rw [if_neg c7] at H
      have c7b0 : (a0_4 == a1_4) = false := beq_eq_false_iff_ne.mpr c7
      have c7b1 : (a0_4 != a1_4) = true := bne_iff_ne.mpr c7
      obtain rfl := Option.some.inj H
      go_enter Tryd.func42, Tryd.ntmps42
      go_wp2_with (first | ((with_reducible refine gate_dst (N := 2) rfl ?_); refine box_event ?hg (N := 2) ?hd (cs := #[.bool a0_0, .bool a0_1, .int .i64 a0_2, .int .i64 a0_3, .int .i64 a0_4, .slice A0_5 l0_5.length c0_5]) (t := 47) ?hr ?_; (case hd => rfl); (case hg => rfl); (case hr => first | (go_simp; done) | (go_simp; rfl)); intro gb559 hg w15 hbox hb; have BK559 := Aside0.mk (hbox); have GW559 := tge HB hg; have GE559 := tge HB hg; replace HB := tBs HB hb; clear hb hbox hg) | ((with_reducible refine gate_dst (N := 3) rfl ?_); refine box_event ?hg (N := 3) ?hd (cs := #[.bool a1_0, .bool a1_1, .int .i64 a1_2, .int .i64 a1_3, .int .i64 a1_4, .slice A1_5 l1_5.length c1_5]) (t := 47) ?hr ?_; (case hd => rfl); (case hg => rfl); (case hr => first | (go_simp; done) | (go_simp; rfl)); intro gb560 hg w16 hbox hb; have BK560 := Aside0.mk (hbox); have GW560 := tge HB hg; have GE560 := tge HB hg; replace HB := tBs HB hb; have NB559_560 := tlt BK559 hg; have NB560_559 := tgt BK559 hg; replace BK559 := tBb BK559 hb; clear hb hbox hg; have hnb17 := NB559_560.out; have hnc17 := NB560_559.out; obtain ⟨hcz18_0, hcz18_1, hcz18_2, hcz18_3, hcz18_4, hcz18_5, hfz18_0, hfz18_1, hfz18_2, hfz18_3, hfz18_4, hfz18_5⟩ := cells6 BK559.out; obtain ⟨hcz19_0, hcz19_1, hcz19_2, hcz19_3, hcz19_4, hcz19_5, hfz19_0, hfz19_1, hfz19_2, hfz19_3, hfz19_4, hfz19_5⟩ := cells6 BK560.out))
      go_ret
      exact ⟨by first | rfl | (simp [errW_none, errW_some] <;> rfl) | (simp [*, errW_none, errW_some] <;> rfl), zb⟩
    ·rw [if_neg c6] at H
     have c6b0 : (a0_3 == a1_3) = false := beq_eq_false_iff_ne.mpr c6
     have c6b1 : (a0_3 != a1_3) = true := bne_iff_ne.mpr c6
     obtain rfl := Option.some.inj H
     go_enter Tryd.func42, Tryd.ntmps42
     go_wp2_with (first | ((with_reducible refine gate_dst (N := 2) rfl ?_); refine box_event ?hg (N := 2) ?hd (cs := #[.bool a0_0, .bool a0_1, .int .i64 a0_2, .int .i64 a0_3, .int .i64 a0_4, .slice A0_5 l0_5.length c0_5]) (t := 47) ?hr ?_; (case hd => rfl); (case hg => rfl); (case hr => first | (go_simp; done) | (go_simp; rfl)); intro gb559 hg w20 hbox hb; have BK559 := Aside0.mk (hbox); have GW559 := tge HB hg; have GE559 := tge HB hg; replace HB := tBs HB hb; clear hb hbox hg) | ((with_reducible refine gate_dst (N := 3) rfl ?_); refine box_event ?hg (N := 3) ?hd (cs := #[.bool a1_0, .bool a1_1, .int .i64 a1_2, .int .i64 a1_3, .int .i64 a1_4, .slice A1_5 l1_5.length c1_5]) (t := 47) ?hr ?_; (case hd => rfl); (case hg => rfl); (case hr => first | (go_simp; done) | (go_simp; rfl)); intro gb560 hg w21 hbox hb; have BK560 := Aside0.mk (hbox); have GW560 := tge HB hg; have GE560 := tge HB hg; replace HB := tBs HB hb; have NB559_560 := tlt BK559 hg; have NB560_559 := tgt BK559 hg; replace BK559 := tBb BK559 hb; clear hb hbox hg; have hnb22 := NB559_560.out; have hnc22 := NB560_559.out; obtain ⟨hcz23_0, hcz23_1, hcz23_2, hcz23_3, hcz23_4, hcz23_5, hfz23_0, hfz23_1, hfz23_2, hfz23_3, hfz23_4, hfz23_5⟩ := cells6 BK559.out; obtain ⟨hcz24_0, hcz24_1, hcz24_2, hcz24_3, hcz24_4, hcz24_5, hfz24_0, hfz24_1, hfz24_2, hfz24_3, hfz24_4, hfz24_5⟩ := cells6 BK560.out))
     go_ret
     exact ⟨by first | rfl | (simp [errW_none, errW_some] <;> rfl) | (simp [*, errW_none, errW_some] <;> rfl), zb⟩
   ·rw [if_neg c5] at H
    have c5b0 : (a0_2 == a1_2) = false := beq_eq_false_iff_ne.mpr c5
    have c5b1 : (a0_2 != a1_2) = true := bne_iff_ne.mpr c5
    obtain rfl := Option.some.inj H
    go_enter Tryd.func42, Tryd.ntmps42
    go_wp2_with (first | ((with_reducible refine gate_dst (N := 2) rfl ?_); refine box_event ?hg (N := 2) ?hd (cs := #[.bool a0_0, .bool a0_1, .int .i64 a0_2, .int .i64 a0_3, .int .i64 a0_4, .slice A0_5 l0_5.length c0_5]) (t := 47) ?hr ?_; (case hd => rfl); (case hg => rfl); (case hr => first | (go_simp; done) | (go_simp; rfl)); intro gb559 hg w25 hbox hb; have BK559 := Aside0.mk (hbox); have GW559 := tge HB hg; have GE559 := tge HB hg; replace HB := tBs HB hb; clear hb hbox hg) | ((with_reducible refine gate_dst (N := 3) rfl ?_); refine box_event ?hg (N := 3) ?hd (cs := #[.bool a1_0, .bool a1_1, .int .i64 a1_2, .int .i64 a1_3, .int .i64 a1_4, .slice A1_5 l1_5.length c1_5]) (t := 47) ?hr ?_; (case hd => rfl); (case hg => rfl); (case hr => first | (go_simp; done) | (go_simp; rfl)); intro gb560 hg w26 hbox hb; have BK560 := Aside0.mk (hbox); have GW560 := tge HB hg; have GE560 := tge HB hg; replace HB := tBs HB hb; have NB559_560 := tlt BK559 hg; have NB560_559 := tgt BK559 hg; replace BK559 := tBb BK559 hb; clear hb hbox hg; have hnb27 := NB559_560.out; have hnc27 := NB560_559.out; obtain ⟨hcz28_0, hcz28_1, hcz28_2, hcz28_3, hcz28_4, hcz28_5, hfz28_0, hfz28_1, hfz28_2, hfz28_3, hfz28_4, hfz28_5⟩ := cells6 BK559.out; obtain ⟨hcz29_0, hcz29_1, hcz29_2, hcz29_3, hcz29_4, hcz29_5, hfz29_0, hfz29_1, hfz29_2, hfz29_3, hfz29_4, hfz29_5⟩ := cells6 BK560.out))
    go_ret
    exact ⟨by first | rfl | (simp [errW_none, errW_some] <;> rfl) | (simp [*, errW_none, errW_some] <;> rfl), zb⟩
  ·rw [if_neg c4] at H
   have c4b0 : (a0_1 == a1_1) = false := by simpa using c4
   (try (have c4b1 : decide (a0_1 = a1_1) = false := by simpa using c4))
   (try (have c4b2 : (a0_1 == a1_1) = false := by simpa using c4))
   (try (have c4b3 : ¬ (a0_1 = a1_1) := by simpa using c4))
   clear c4
   obtain rfl := Option.some.inj H
   go_enter Tryd.func42, Tryd.ntmps42
   go_wp2_with (first | ((with_reducible refine gate_dst (N := 2) rfl ?_); refine box_event ?hg (N := 2) ?hd (cs := #[.bool a0_0, .bool a0_1, .int .i64 a0_2, .int .i64 a0_3, .int .i64 a0_4, .slice A0_5 l0_5.length c0_5]) (t := 47) ?hr ?_; (case hd => rfl); (case hg => rfl); (case hr => first | (go_simp; done) | (go_simp; rfl)); intro gb559 hg w30 hbox hb; have BK559 := Aside0.mk (hbox); have GW559 := tge HB hg; have GE559 := tge HB hg; replace HB := tBs HB hb; clear hb hbox hg) | ((with_reducible refine gate_dst (N := 3) rfl ?_); refine box_event ?hg (N := 3) ?hd (cs := #[.bool a1_0, .bool a1_1, .int .i64 a1_2, .int .i64 a1_3, .int .i64 a1_4, .slice A1_5 l1_5.length c1_5]) (t := 47) ?hr ?_; (case hd => rfl); (case hg => rfl); (case hr => first | (go_simp; done) | (go_simp; rfl)); intro gb560 hg w31 hbox hb; have BK560 := Aside0.mk (hbox); have GW560 := tge HB hg; have GE560 := tge HB hg; replace HB := tBs HB hb; have NB559_560 := tlt BK559 hg; have NB560_559 := tgt BK559 hg; replace BK559 := tBb BK559 hb; clear hb hbox hg; have hnb32 := NB559_560.out; have hnc32 := NB560_559.out; obtain ⟨hcz33_0, hcz33_1, hcz33_2, hcz33_3, hcz33_4, hcz33_5, hfz33_0, hfz33_1, hfz33_2, hfz33_3, hfz33_4, hfz33_5⟩ := cells6 BK559.out; obtain ⟨hcz34_0, hcz34_1, hcz34_2, hcz34_3, hcz34_4, hcz34_5, hfz34_0, hfz34_1, hfz34_2, hfz34_3, hfz34_4, hfz34_5⟩ := cells6 BK560.out))
   go_ret
   exact ⟨by first | rfl | (simp [errW_none, errW_some] <;> rfl) | (simp [*, errW_none, errW_some] <;> rfl), zb⟩
 ·rw [if_neg c3] at H
  have c3b0 : (a0_0 == a1_0) = false := by simpa using c3
  (try (have c3b1 : decide (a0_0 = a1_0) = false := by simpa using c3))
  (try (have c3b2 : (a0_0 == a1_0) = false := by simpa using c3))
  (try (have c3b3 : ¬ (a0_0 = a1_0) := by simpa using c3))
  clear c3
  obtain rfl := Option.some.inj H
  go_enter Tryd.func42, Tryd.ntmps42
  go_wp2_with (first | ((with_reducible refine gate_dst (N := 2) rfl ?_); refine box_event ?hg (N := 2) ?hd (cs := #[.bool a0_0, .bool a0_1, .int .i64 a0_2, .int .i64 a0_3, .int .i64 a0_4, .slice A0_5 l0_5.length c0_5]) (t := 47) ?hr ?_; (case hd => rfl); (case hg => rfl); (case hr => first | (go_simp; done) | (go_simp; rfl)); intro gb559 hg w35 hbox hb; have BK559 := Aside0.mk (hbox); have GW559 := tge HB hg; have GE559 := tge HB hg; replace HB := tBs HB hb; clear hb hbox hg) | ((with_reducible refine gate_dst (N := 3) rfl ?_); refine box_event ?hg (N := 3) ?hd (cs := #[.bool a1_0, .bool a1_1, .int .i64 a1_2, .int .i64 a1_3, .int .i64 a1_4, .slice A1_5 l1_5.length c1_5]) (t := 47) ?hr ?_; (case hd => rfl); (case hg => rfl); (case hr => first | (go_simp; done) | (go_simp; rfl)); intro gb560 hg w36 hbox hb; have BK560 := Aside0.mk (hbox); have GW560 := tge HB hg; have GE560 := tge HB hg; replace HB := tBs HB hb; have NB559_560 := tlt BK559 hg; have NB560_559 := tgt BK559 hg; replace BK559 := tBb BK559 hb; clear hb hbox hg; have hnb37 := NB559_560.out; have hnc37 := NB560_559.out; obtain ⟨hcz38_0, hcz38_1, hcz38_2, hcz38_3, hcz38_4, hcz38_5, hfz38_0, hfz38_1, hfz38_2, hfz38_3, hfz38_4, hfz38_5⟩ := cells6 BK559.out; obtain ⟨hcz39_0, hcz39_1, hcz39_2, hcz39_3, hcz39_4, hcz39_5, hfz39_0, hfz39_1, hfz39_2, hfz39_3, hfz39_4, hfz39_5⟩ := cells6 BK560.out))
  go_ret
  exact ⟨by first | rfl | (simp [errW_none, errW_some] <;> rfl) | (simp [*, errW_none, errW_some] <;> rfl), zb⟩

end Go.Proofs.YtbbboachakkgiaaDoor.G

namespace Go.Proofs.YtbbboachakkgiaaDoor.G
open Go.RowKit Go.Proofs.YtbbboachakkgiaaDoorW.PrintWords Go.Proofs.YtbbboachakkgiaaDoorW.PrintLast Go.Proofs.YtbbboachakkgiaaDoorW.PrintMore
attribute [local go_sem] max2_int min2_int max_two min_two max_three min_three max_four min_four   -- for this text's walks alone
set_option linter.unusedVariables false
set_option linter.unusedSimpArgs false

def laws_sameLog.l0 : Nat → List (S47) → List (S47) → Int → Option (Bool)
 | 0, _, _, _ => none
 | k + 1, x0, x1, x5 => if x5 < (x0.length : Int) then (if 0 ≤ x5 then (if x5 < (x1.length : Int) then ((laws_sameBatch.f k ((rd_T47 x0 x5).f0) ((rd_T47 x0 x5).f1) ((rd_T47 x0 x5).f2) ((rd_T47 x0 x5).f3) ((rd_T47 x0 x5).f4) ((rd_T47 x0 x5).f5) ((rd_T47 x1 x5).f0) ((rd_T47 x1 x5).f1) ((rd_T47 x1 x5).f2) ((rd_T47 x1 x5).f3) ((rd_T47 x1 x5).f4) ((rd_T47 x1 x5).f5)).bind fun t564 => (if t564 = true then (laws_sameLog.l0 k x0 x1 (wrap64 (x5 + 1))) else (some false))) else (none)) else (none)) else (some true)
def laws_sameLog.f (k : Nat) (l0 : List (S47)) (l1 : List (S47)) : Option (Bool) := if (l0.length : Int) = (l1.length : Int) then (laws_sameLog.l0 k l0 l1 0) else (some false)
def laws_sameLog.T6 : Bool × List (List Nat × List Nat) := (true, [([], []), ([], []), ([0, 1], [0, 1]), ([2], [2]), ([], []), ([], []), ([4, 5], [4, 5]), ([6], [6]), ([3, 7], [3, 7]), ([8], [8])])
def laws_sameLog.B6 : List Nat := [0, 0, 3, 7, 0, 0, 48, 112, 255, 511]
theorem laws_sameLog.tab6 : rtab .any (opsOf Tryd.f14 6) = laws_sameLog.T6 := by kernel_rfl
theorem laws_sameLog.bits6 : waitsOk laws_sameLog.T6.2 laws_sameLog.B6 = true := by kernel_rfl
set_option maxHeartbeats 8000000 in
set_option maxRecDepth 100000 in
theorem laws_sameLog.calls (k : Nat) (A0 : Option Addr) (c0 : Nat) (l0 : List (S47)) (A1 : Option Addr) (c1 : Nat) (l1 : List (S47)) (r : Bool) (w : World) (hr0 : Kd.C k47 w A0 l0.length l0) (hc0 : l0.length ≤ c0) (hr1 : Kd.C k47 w A1 l1.length l1) (hc1 : l1.length ≤ c1) (h : laws_sameLog.f k l0 l1 = some r) :
  Calls Tryd.prog 14 #[.slice A0 l0.length c0, .slice A1 l1.length c1] w fun e w' => e = .returned (.bool r) ∧ Below w.heap.size w w' := by
 have hu47 := Tryd.underlying47
 have HR0 := Aside0.mk hr0
 have HC0 := Aside0.mk hc0
 clear hr0 hc0
 have HR1 := Aside0.mk hr1
 have HC1 := Aside0.mk hc1
 clear hr1 hc1
 have HB := Aside0.mk (Below.refl w.heap.size w)
 have H : (if (l0.length : Int) = (l1.length : Int) then (laws_sameLog.l0 k l0 l1 0) else (some false)) = some r := h
 clear h
 by_cases c3 : (l0.length : Int) = (l1.length : Int)
 ·rw [if_pos c3] at H
  have c3b0 : ((l0.length : Int) == (l1.length : Int)) = true := beq_iff_eq.mpr c3
  have c3b1 : ((l0.length : Int) != (l1.length : Int)) = false := bne_eq_false_iff_eq.mpr c3
  have c3b2 : (l0.length == l1.length) = true := by first | simpa using c3 | (simp at c3 ⊢; omega)
  clear c3
  have H' := Aside0.mk H
  clear H
  go_enter Tryd.func14, Tryd.ntmps14
  go_wp2
  go_loopg [5] k (fun kq v5 w' => ∃ (x5_1 : Int), v5 = .int .i64 x5_1 ∧ Aside0 (laws_sameLog.l0 kq l0 l1 x5_1 = some r) ∧ Aside0 (kq ≤ k) ∧ Aside0 (Below w.heap.size w w'))
  case atStart => exact ⟨(0), tr, H', ⟨Nat.le_refl _⟩, ⟨zb⟩⟩
  case round =>
   clear H'
   try clear c1; try clear c3; try clear c3b0; try clear c3b1; try clear c3b2
   obtain ⟨x5_1, rfl, HA, HK1, HB⟩ := hrel
   cases gk with
   | zero => exact absurd HA.out (by simp [laws_sameLog.l0])
   | succ k1 =>
    have H := HA.out
    clear HA
    simp only [laws_sameLog.l0] at H
    by_cases c4 : x5_1 < (l0.length : Int)
    ·rw [if_pos c4] at H
     have c4b0 : decide (x5_1 < (l0.length : Int)) = true := decide_eq_true c4
     clear c4
     by_cases c5 : 0 ≤ x5_1
     ·rw [if_pos c5] at H
      have c5b0 : decide (0 ≤ x5_1) = true := decide_eq_true c5
      clear c5
      by_cases c6 : x5_1 < (l1.length : Int)
      ·rw [if_pos c6] at H
       have c6b0 : decide (x5_1 < (l1.length : Int)) = true := decide_eq_true c6
       clear c6
       replace H := tbe H
       obtain ⟨t564, A7, H⟩ := H
       by_cases c8 : t564 = true
       ·subst c8
        rw [if_pos rfl] at H
        have H' := Aside0.mk H
        clear H
        try go_wp2
        replace HB := Aside0.mk (below_drew1 HB.out)
        have p562 : 0 ≤ (x5_1 : Int) := td
        have q562 : x5_1 < (l0.length : Int) := td
        obtain ⟨ad562, A562_5, c562_5, e562, hx562_0, hx562_1, hx562_2, hx562_3, hx562_4, hx562_5, hl562_5, hi562_5⟩ := at_T47 HR0.out x5_1 p562 q562
        have hw562_5 := hx562_5
        have hw562_4 := hx562_4
        have hw562_3 := hx562_3
        have hw562_2 := hx562_2
        have hw562_1 := hx562_1
        have hw562_0 := hx562_0
        cases e562
        replace hx562_0 := tcl HB hx562_0
        replace hx562_1 := tcl HB hx562_1
        replace hx562_2 := tcl HB hx562_2
        replace hx562_3 := tcl HB hx562_3
        replace hx562_4 := tcl HB hx562_4
        replace hx562_5 := tcl HB hx562_5
        have HR562_5 := Aside0.mk hi562_5
        have HC562_5 := Aside0.mk hl562_5
        clear hi562_5 hl562_5
        replace p562 := eq_true p562
        replace q562 := eq_true q562
        have p563 : 0 ≤ (x5_1 : Int) := td
        have q563 : x5_1 < (l1.length : Int) := td
        obtain ⟨ad563, A563_5, c563_5, e563, hx563_0, hx563_1, hx563_2, hx563_3, hx563_4, hx563_5, hl563_5, hi563_5⟩ := at_T47 HR1.out x5_1 p563 q563
        have hw563_5 := hx563_5
        have hw563_4 := hx563_4
        have hw563_3 := hx563_3
        have hw563_2 := hx563_2
        have hw563_1 := hx563_1
        have hw563_0 := hx563_0
        cases e563
        replace hx563_0 := tcl HB hx563_0
        replace hx563_1 := tcl HB hx563_1
        replace hx563_2 := tcl HB hx563_2
        replace hx563_3 := tcl HB hx563_3
        replace hx563_4 := tcl HB hx563_4
        replace hx563_5 := tcl HB hx563_5
        have HR563_5 := Aside0.mk hi563_5
        have HC563_5 := Aside0.mk hl563_5
        clear hi563_5 hl563_5
        replace p563 := eq_true p563
        replace q563 := eq_true q563
        refine start_ (n := 10) (S := fun w' => w'.cell? (ad562.add ((x5_1).toNat * 6)) = some (.bool ((rd_T47 l0 x5_1).f0)) ∧ w'.cell? ⟨(ad562.add ((x5_1).toNat * 6)).block, (ad562.add ((x5_1).toNat * 6)).off + 1, none⟩ = some (.bool ((rd_T47 l0 x5_1).f1)) ∧ w'.cell? ⟨(ad562.add ((x5_1).toNat * 6)).block, (ad562.add ((x5_1).toNat * 6)).off + 2, none⟩ = some (.int .i64 ((rd_T47 l0 x5_1).f2)) ∧ w'.cell? ⟨(ad562.add ((x5_1).toNat * 6)).block, (ad562.add ((x5_1).toNat * 6)).off + 3, none⟩ = some (.int .i64 ((rd_T47 l0 x5_1).f3)) ∧ w'.cell? ⟨(ad562.add ((x5_1).toNat * 6)).block, (ad562.add ((x5_1).toNat * 6)).off + 4, none⟩ = some (.int .i64 ((rd_T47 l0 x5_1).f4)) ∧ w'.cell? ⟨(ad562.add ((x5_1).toNat * 6)).block, (ad562.add ((x5_1).toNat * 6)).off + 5, none⟩ = some (.slice A562_5 ((rd_T47 l0 x5_1).f5).length c562_5) ∧ w'.cell? (ad563.add ((x5_1).toNat * 6)) = some (.bool ((rd_T47 l1 x5_1).f0)) ∧ w'.cell? ⟨(ad563.add ((x5_1).toNat * 6)).block, (ad563.add ((x5_1).toNat * 6)).off + 1, none⟩ = some (.bool ((rd_T47 l1 x5_1).f1)) ∧ w'.cell? ⟨(ad563.add ((x5_1).toNat * 6)).block, (ad563.add ((x5_1).toNat * 6)).off + 2, none⟩ = some (.int .i64 ((rd_T47 l1 x5_1).f2)) ∧ w'.cell? ⟨(ad563.add ((x5_1).toNat * 6)).block, (ad563.add ((x5_1).toNat * 6)).off + 3, none⟩ = some (.int .i64 ((rd_T47 l1 x5_1).f3)) ∧ w'.cell? ⟨(ad563.add ((x5_1).toNat * 6)).block, (ad563.add ((x5_1).toNat * 6)).off + 4, none⟩ = some (.int .i64 ((rd_T47 l1 x5_1).f4)) ∧ w'.cell? ⟨(ad563.add ((x5_1).toNat * 6)).block, (ad563.add ((x5_1).toNat * 6)).off + 5, none⟩ = some (.slice A563_5 ((rd_T47 l1 x5_1).f5).length c563_5)) (ds := []) #[false, false, false, false, false, false, false, false, false, false] (by kernel_rfl) rfl rfl ⟨(tcl HB hw562_0), (tcl HB hw562_1), (tcl HB hw562_2), (tcl HB hw562_3), (tcl HB hw562_4), (tcl HB hw562_5), (tcl HB hw563_0), (tcl HB hw563_1), (tcl HB hw563_2), (tcl HB hw563_3), (tcl HB hw563_4), (tcl HB hw563_5)⟩ (fun hHeld => ?_); refine with_tabW laws_sameLog.tab6 laws_sameLog.bits6 (fun HT_ HW_ => ?_)
        generalize wr.drew = w9 at HB HR562_5 HR563_5 hx562_0 hx562_1 hx562_2 hx562_3 hx562_4 hx562_5 hx563_0 hx563_1 hx563_2 hx563_3 hx563_4 hx563_5 hHeld ⊢
        refine tpu 0 (some 17) #[true, false, false, false, false, false, false, false, false, false] ?_
        refine tpu 1 (some 18) #[true, true, false, false, false, false, false, false, false, false] ?_
        refine tpu 2 (some 19) #[true, true, true, false, false, false, false, false, false, false] ?_
        refine tpu 4 (some 21) #[true, true, true, false, true, false, false, false, false, false] ?_
        refine tpu 5 (some 22) #[true, true, true, false, true, true, false, false, false, false] ?_
        refine tpu 6 (some 23) #[true, true, true, false, true, true, true, false, false, false] ?_
        refine tta 3 (some 20) #[true, true, true, true, true, true, true, false, false, false] hHeld ?_ (hy := by rintro w' ⟨s0, s1, s2, s3, s4, s5, s6, s7, s8, s9, s10, s11⟩; go_simp; with_reducible rfl)
        refine tta 7 (some 24) #[true, true, true, true, true, true, true, true, false, false] hHeld ?_ (hy := by rintro w' ⟨s0, s1, s2, s3, s4, s5, s6, s7, s8, s9, s10, s11⟩; go_simp; with_reducible rfl)
        refine one_ (i := 8) (N := some 25) #[true, true, true, true, true, true, true, true, true, false] rfl rfl (one_of HT_.out (by kernel_rfl)) (by decide) (fun K hK => ?_)
        refine goes_ Tryd.func42 (by kernel_rfl) rfl #[.agg #[.bool ((rd_T47 l0 x5_1).f0), .bool ((rd_T47 l0 x5_1).f1), .int .i64 ((rd_T47 l0 x5_1).f2), .int .i64 ((rd_T47 l0 x5_1).f3), .int .i64 ((rd_T47 l0 x5_1).f4), .slice A562_5 ((rd_T47 l0 x5_1).f5).length c562_5], .agg #[.bool ((rd_T47 l1 x5_1).f0), .bool ((rd_T47 l1 x5_1).f1), .int .i64 ((rd_T47 l1 x5_1).f2), .int .i64 ((rd_T47 l1 x5_1).f3), .int .i64 ((rd_T47 l1 x5_1).f4), .slice A563_5 ((rd_T47 l1 x5_1).f5).length c563_5]] (by rfl) rfl rfl tq ?_
        with_reducible refine (laws_sameBatch.calls k1 ((rd_T47 l0 x5_1).f0) ((rd_T47 l0 x5_1).f1) ((rd_T47 l0 x5_1).f2) ((rd_T47 l0 x5_1).f3) ((rd_T47 l0 x5_1).f4) _ _ ((rd_T47 l0 x5_1).f5) ((rd_T47 l1 x5_1).f0) ((rd_T47 l1 x5_1).f1) ((rd_T47 l1 x5_1).f2) ((rd_T47 l1 x5_1).f3) ((rd_T47 l1 x5_1).f4) _ _ ((rd_T47 l1 x5_1).f5) true _ ?side1 ?side2 ?side3 ?side4 A7.out).mono ?_
        (case side1 => exact tC (Kd.C_below HR562_5.out HB.out))
        (case side2 => exact HC562_5.out)
        (case side3 => exact tC (Kd.C_below HR563_5.out HB.out))
        (case side4 => exact HC563_5.out)
        rintro e w10 ⟨rfl, hb⟩
        refine ⟨_, rfl, ?_⟩
        replace HB := tBs HB hb
        (try clear hb)
        (try clear hb2)
        (try clear hk)
        (try clear hi)
        refine hK.out _ _ ⟨(tcl HB hw562_0), (tcl HB hw562_1), (tcl HB hw562_2), (tcl HB hw562_3), (tcl HB hw562_4), (tcl HB hw562_5), (tcl HB hw563_0), (tcl HB hw563_1), (tcl HB hw563_2), (tcl HB hw563_3), (tcl HB hw563_4), (tcl HB hw563_5)⟩ (fun hHeld => ?_)
        clear hK K
        refine tnm (some 25) ?_
        refine tpu 9 (some 26) #[true, true, true, true, true, true, true, true, true, true] ?_
        refine done_ (done_of HT_.out (by kernel_rfl)) ?_
        try go_wp2
        go_roundg k1
        case measure => have := HK1.out; omega
        case rel => exact ⟨(wrap64 (x5_1 + 1)), tr, H', ⟨by have := HK1.out; omega⟩, ⟨zb⟩⟩
       ·replace c8 := Bool.eq_false_iff.mpr c8
        subst c8
        rw [if_neg (show ¬ (false = true) by decide)] at H
        obtain rfl := Option.some.inj H
        try go_wp2
        replace HB := Aside0.mk (below_drew1 HB.out)
        have p562 : 0 ≤ (x5_1 : Int) := td
        have q562 : x5_1 < (l0.length : Int) := td
        obtain ⟨ad562, A562_5, c562_5, e562, hx562_0, hx562_1, hx562_2, hx562_3, hx562_4, hx562_5, hl562_5, hi562_5⟩ := at_T47 HR0.out x5_1 p562 q562
        have hw562_5 := hx562_5
        have hw562_4 := hx562_4
        have hw562_3 := hx562_3
        have hw562_2 := hx562_2
        have hw562_1 := hx562_1
        have hw562_0 := hx562_0
        cases e562
        replace hx562_0 := tcl HB hx562_0
        replace hx562_1 := tcl HB hx562_1
        replace hx562_2 := tcl HB hx562_2
        replace hx562_3 := tcl HB hx562_3
        replace hx562_4 := tcl HB hx562_4
        replace hx562_5 := tcl HB hx562_5
        have HR562_5 := Aside0.mk hi562_5
        have HC562_5 := Aside0.mk hl562_5
        clear hi562_5 hl562_5
        replace p562 := eq_true p562
        replace q562 := eq_true q562
        have p563 : 0 ≤ (x5_1 : Int) := td
        have q563 : x5_1 < (l1.length : Int) := td
        obtain ⟨ad563, A563_5, c563_5, e563, hx563_0, hx563_1, hx563_2, hx563_3, hx563_4, hx563_5, hl563_5, hi563_5⟩ := at_T47 HR1.out x5_1 p563 q563
        have hw563_5 := hx563_5
        have hw563_4 := hx563_4
        have hw563_3 := hx563_3
        have hw563_2 := hx563_2
        have hw563_1 := hx563_1
        have hw563_0 := hx563_0
        cases e563
        replace hx563_0 := tcl HB hx563_0
        replace hx563_1 := tcl HB hx563_1
        replace hx563_2 := tcl HB hx563_2
        replace hx563_3 := tcl HB hx563_3
        replace hx563_4 := tcl HB hx563_4
        replace hx563_5 := tcl HB hx563_5
        have HR563_5 := Aside0.mk hi563_5
        have HC563_5 := Aside0.mk hl563_5
        clear hi563_5 hl563_5
        replace p563 := eq_true p563
        replace q563 := eq_true q563
        refine start_ (n := 10) (S := fun w' => w'.cell? (ad562.add ((x5_1).toNat * 6)) = some (.bool ((rd_T47 l0 x5_1).f0)) ∧ w'.cell? ⟨(ad562.add ((x5_1).toNat * 6)).block, (ad562.add ((x5_1).toNat * 6)).off + 1, none⟩ = some (.bool ((rd_T47 l0 x5_1).f1)) ∧ w'.cell? ⟨(ad562.add ((x5_1).toNat * 6)).block, (ad562.add ((x5_1).toNat * 6)).off + 2, none⟩ = some (.int .i64 ((rd_T47 l0 x5_1).f2)) ∧ w'.cell? ⟨(ad562.add ((x5_1).toNat * 6)).block, (ad562.add ((x5_1).toNat * 6)).off + 3, none⟩ = some (.int .i64 ((rd_T47 l0 x5_1).f3)) ∧ w'.cell? ⟨(ad562.add ((x5_1).toNat * 6)).block, (ad562.add ((x5_1).toNat * 6)).off + 4, none⟩ = some (.int .i64 ((rd_T47 l0 x5_1).f4)) ∧ w'.cell? ⟨(ad562.add ((x5_1).toNat * 6)).block, (ad562.add ((x5_1).toNat * 6)).off + 5, none⟩ = some (.slice A562_5 ((rd_T47 l0 x5_1).f5).length c562_5) ∧ w'.cell? (ad563.add ((x5_1).toNat * 6)) = some (.bool ((rd_T47 l1 x5_1).f0)) ∧ w'.cell? ⟨(ad563.add ((x5_1).toNat * 6)).block, (ad563.add ((x5_1).toNat * 6)).off + 1, none⟩ = some (.bool ((rd_T47 l1 x5_1).f1)) ∧ w'.cell? ⟨(ad563.add ((x5_1).toNat * 6)).block, (ad563.add ((x5_1).toNat * 6)).off + 2, none⟩ = some (.int .i64 ((rd_T47 l1 x5_1).f2)) ∧ w'.cell? ⟨(ad563.add ((x5_1).toNat * 6)).block, (ad563.add ((x5_1).toNat * 6)).off + 3, none⟩ = some (.int .i64 ((rd_T47 l1 x5_1).f3)) ∧ w'.cell? ⟨(ad563.add ((x5_1).toNat * 6)).block, (ad563.add ((x5_1).toNat * 6)).off + 4, none⟩ = some (.int .i64 ((rd_T47 l1 x5_1).f4)) ∧ w'.cell? ⟨(ad563.add ((x5_1).toNat * 6)).block, (ad563.add ((x5_1).toNat * 6)).off + 5, none⟩ = some (.slice A563_5 ((rd_T47 l1 x5_1).f5).length c563_5)) (ds := []) #[false, false, false, false, false, false, false, false, false, false] (by kernel_rfl) rfl rfl ⟨(tcl HB hw562_0), (tcl HB hw562_1), (tcl HB hw562_2), (tcl HB hw562_3), (tcl HB hw562_4), (tcl HB hw562_5), (tcl HB hw563_0), (tcl HB hw563_1), (tcl HB hw563_2), (tcl HB hw563_3), (tcl HB hw563_4), (tcl HB hw563_5)⟩ (fun hHeld => ?_); refine with_tabW laws_sameLog.tab6 laws_sameLog.bits6 (fun HT_ HW_ => ?_)
        generalize wr.drew = w11 at HB HR562_5 HR563_5 hx562_0 hx562_1 hx562_2 hx562_3 hx562_4 hx562_5 hx563_0 hx563_1 hx563_2 hx563_3 hx563_4 hx563_5 hHeld ⊢
        refine tpu 0 (some 17) #[true, false, false, false, false, false, false, false, false, false] ?_
        refine tpu 1 (some 18) #[true, true, false, false, false, false, false, false, false, false] ?_
        refine tpu 2 (some 19) #[true, true, true, false, false, false, false, false, false, false] ?_
        refine tpu 4 (some 21) #[true, true, true, false, true, false, false, false, false, false] ?_
        refine tpu 5 (some 22) #[true, true, true, false, true, true, false, false, false, false] ?_
        refine tpu 6 (some 23) #[true, true, true, false, true, true, true, false, false, false] ?_
        refine tta 3 (some 20) #[true, true, true, true, true, true, true, false, false, false] hHeld ?_ (hy := by rintro w' ⟨s0, s1, s2, s3, s4, s5, s6, s7, s8, s9, s10, s11⟩; go_simp; with_reducible rfl)
        refine tta 7 (some 24) #[true, true, true, true, true, true, true, true, false, false] hHeld ?_ (hy := by rintro w' ⟨s0, s1, s2, s3, s4, s5, s6, s7, s8, s9, s10, s11⟩; go_simp; with_reducible rfl)
        refine one_ (i := 8) (N := some 25) #[true, true, true, true, true, true, true, true, true, false] rfl rfl (one_of HT_.out (by kernel_rfl)) (by decide) (fun K hK => ?_)
        refine goes_ Tryd.func42 (by kernel_rfl) rfl #[.agg #[.bool ((rd_T47 l0 x5_1).f0), .bool ((rd_T47 l0 x5_1).f1), .int .i64 ((rd_T47 l0 x5_1).f2), .int .i64 ((rd_T47 l0 x5_1).f3), .int .i64 ((rd_T47 l0 x5_1).f4), .slice A562_5 ((rd_T47 l0 x5_1).f5).length c562_5], .agg #[.bool ((rd_T47 l1 x5_1).f0), .bool ((rd_T47 l1 x5_1).f1), .int .i64 ((rd_T47 l1 x5_1).f2), .int .i64 ((rd_T47 l1 x5_1).f3), .int .i64 ((rd_T47 l1 x5_1).f4), .slice A563_5 ((rd_T47 l1 x5_1).f5).length c563_5]] (by rfl) rfl rfl tq ?_
        with_reducible refine (laws_sameBatch.calls k1 ((rd_T47 l0 x5_1).f0) ((rd_T47 l0 x5_1).f1) ((rd_T47 l0 x5_1).f2) ((rd_T47 l0 x5_1).f3) ((rd_T47 l0 x5_1).f4) _ _ ((rd_T47 l0 x5_1).f5) ((rd_T47 l1 x5_1).f0) ((rd_T47 l1 x5_1).f1) ((rd_T47 l1 x5_1).f2) ((rd_T47 l1 x5_1).f3) ((rd_T47 l1 x5_1).f4) _ _ ((rd_T47 l1 x5_1).f5) false _ ?side1 ?side2 ?side3 ?side4 A7.out).mono ?_
        (case side1 => exact tC (Kd.C_below HR562_5.out HB.out))
        (case side2 => exact HC562_5.out)
        (case side3 => exact tC (Kd.C_below HR563_5.out HB.out))
        (case side4 => exact HC563_5.out)
        rintro e w12 ⟨rfl, hb⟩
        refine ⟨_, rfl, ?_⟩
        replace HB := tBs HB hb
        (try clear hb)
        (try clear hb2)
        (try clear hk)
        (try clear hi)
        refine hK.out _ _ ⟨(tcl HB hw562_0), (tcl HB hw562_1), (tcl HB hw562_2), (tcl HB hw562_3), (tcl HB hw562_4), (tcl HB hw562_5), (tcl HB hw563_0), (tcl HB hw563_1), (tcl HB hw563_2), (tcl HB hw563_3), (tcl HB hw563_4), (tcl HB hw563_5)⟩ (fun hHeld => ?_)
        clear hK K
        refine tnm (some 25) ?_
        refine tpu 9 (some 26) #[true, true, true, true, true, true, true, true, true, true] ?_
        refine done_ (done_of HT_.out (by kernel_rfl)) ?_
        try go_wp2
        go_ret
        exact ⟨by first | rfl | (simp [errW_none, errW_some] <;> rfl) | (simp [*, errW_none, errW_some] <;> rfl), zb⟩
      ·rw [if_neg c6] at H
       exact absurd H (by simp)
     ·rw [if_neg c5] at H
      exact absurd H (by simp)
    ·rw [if_neg c4] at H
     have c4b0 : decide (x5_1 < (l0.length : Int)) = false := decide_eq_false c4
     clear c4
     obtain rfl := Option.some.inj H
     go_wp2
     go_ret
     exact ⟨by first | rfl | (simp [errW_none, errW_some] <;> rfl) | (simp [*, errW_none, errW_some] <;> rfl), zb⟩
 ·rw [if_neg c3] at H
  have c3b0 : ((l0.length : Int) == (l1.length : Int)) = false := beq_eq_false_iff_ne.mpr c3
  have c3b1 : ((l0.length : Int) != (l1.length : Int)) = true := bne_iff_ne.mpr c3
  have c3b2 : (l0.length == l1.length) = false := by first | simpa using c3 | (simp at c3 ⊢; omega)
  obtain rfl := Option.some.inj H
  go_enter Tryd.func14, Tryd.ntmps14
  go_wp2
  go_ret
  exact ⟨by first | rfl | (simp [errW_none, errW_some] <;> rfl) | (simp [*, errW_none, errW_some] <;> rfl), zb⟩

end Go.Proofs.YtbbboachakkgiaaDoor.G

