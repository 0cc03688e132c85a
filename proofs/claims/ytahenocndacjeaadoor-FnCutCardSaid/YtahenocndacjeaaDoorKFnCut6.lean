/- A text of seat YtahenocndacjeaaDoor: what the law FnCut needs of this repo's texts (by pack.py). Not trusted: Lean checks it. -/
import Derived.Test.YtahenocndacjeaaDoorKFnCut5
import Derived.Test.YtahenocndacjeaaDoorProg
import Derived.WalkKit
import Derived.LaidEql
import Derived.Stop.Asserts
import Derived.RowKitTokens
import Derived.LoopN
import Derived.KernelRfl
namespace Go.Proofs.YtahenocndacjeaaDoor.G
open Go.RowKit Go.Proofs.YtahenocndacjeaaDoorW.PrintWords Go.Proofs.YtahenocndacjeaaDoorW.PrintLast Go.Proofs.YtahenocndacjeaaDoorW.PrintMore
attribute [local go_sem] max2_int min2_int max_two min_two max_three min_three max_four min_four   -- for this text's walks alone
set_option linter.unusedVariables false
set_option linter.unusedSimpArgs false

def spec_DrawBatchCut.f (k : Nat) (l0 : List Int) : Option (Bool × Bool × Int × Int × Int × (List (S41)) × Int) := (spec_l6Open.f l0).bind fun bt213 => ((spec_l6Rd_pick.f k bt213.1 bt213.2 40).bind fun bt216 => ((spec_l91Batch.f k bt213.1 bt216.2 bt216.1).bind fun bt218 => ((spec_l6Rd_pick.f k bt213.1 bt218.2.2.2.2.2.2 3).bind fun bt228 => (if bt228.1 > 0 then ((spec_l6Rd_pick.f k bt213.1 bt228.2 40).bind fun bt230 => ((spec_l91Records.f k bt213.1 bt230.2 bt230.1 6).bind fun bt232 => (if 0 < (bt232.1.length : Int) then ((spec_l6Rd_pick.f k bt213.1 bt232.2 (wrap64 ((bt232.1.length : Int) + 1))).bind fun bt237 => (some (bt218.1, false, 255, 0, 0, bt232.1, wrap64 (((rd_T41 bt232.1 0).f0) + bt237.1)))) else (none)))) else (if 0 < (bt218.2.2.2.2.2.1.length : Int) then ((spec_l6Rd_pick.f k bt213.1 bt228.2 (wrap64 ((bt218.2.2.2.2.2.1.length : Int) + 1))).bind fun bt240 => (some (bt218.1, bt218.2.1, bt218.2.2.1, bt218.2.2.2.1, bt218.2.2.2.2.1, bt218.2.2.2.2.2.1, wrap64 (((rd_T41 bt218.2.2.2.2.2.1 0).f0) + bt240.1)))) else (none))))))
def spec_DrawBatchCut.T4 : Bool × List (List Nat × List Nat) := (true, [([], []), ([0], [0]), ([], []), ([], []), ([3], [3]), ([2, 4, 4], [2, 4]), ([1, 5], [1, 5]), ([6, 5, 0, 1, 2, 3, 4, 5, 6], [6])])
def spec_DrawBatchCut.B4 : List Nat := [0, 1, 0, 0, 8, 28, 63, 127]
theorem spec_DrawBatchCut.tab4 : rtab .any (opsOf Tryd.f8 4) = spec_DrawBatchCut.T4 := by kernel_rfl
theorem spec_DrawBatchCut.bits4 : waitsOk spec_DrawBatchCut.T4.2 spec_DrawBatchCut.B4 = true := by kernel_rfl
def spec_DrawBatchCut.T5 : Bool × List (List Nat × List Nat) := (true, [([], []), ([], []), ([1], [1]), ([2], [2]), ([3], [3]), ([4], [4]), ([], []), ([], []), ([7], [7]), ([8], [8]), ([9], [9]), ([6, 10], [6, 10]), ([5, 11], [5, 11]), ([0, 11, 0], [0]), ([12, 13, 0, 1, 2, 3, 4, 5, 6, 7, 8, 9, 10, 11, 12, 13], [12])])
def spec_DrawBatchCut.B5 : List Nat := [0, 0, 2, 6, 14, 30, 0, 0, 128, 384, 896, 1984, 4094, 4033, 16383]
theorem spec_DrawBatchCut.tab5 : rtab .any (opsOf Tryd.f8 5) = spec_DrawBatchCut.T5 := by kernel_rfl
theorem spec_DrawBatchCut.bits5 : waitsOk spec_DrawBatchCut.T5.2 spec_DrawBatchCut.B5 = true := by kernel_rfl
set_option maxHeartbeats 8000000 in
set_option maxRecDepth 100000 in
theorem spec_DrawBatchCut.calls (k : Nat) (A0 : Option Addr) (c0 : Nat) (l0 : List Int) (r1 : Bool) (r2 : Bool) (r3 : Int) (r4 : Int) (r5 : Int) (r6 : List (S41)) (r7 : Int) (w : World) (hr0 : Kd.C (Kd.int .u8) w A0 l0.length l0) (hc0 : l0.length ≤ c0) (h : spec_DrawBatchCut.f k l0 = some (r1, r2, r3, r4, r5, r6, r7)) :
  Calls Tryd.prog 8 #[.slice A0 l0.length c0] w fun e w' => ∃ v5_ : Value, e = .returned (.tuple #[.agg #[.bool r1, .bool r2, .int .i64 r3, .int .i64 r4, .int .i64 r5, v5_], .int .i64 r7]) ∧ Kd.N k41 41 w' w.heap.size (fun k_ => (w.heap.size ≤ k_)) v5_ r6 ∧ Below w.heap.size w w' := by
 have hu25 := Tryd.underlying25
 have HR0 := Aside0.mk hr0
 have HC0 := Aside0.mk hc0
 clear hr0 hc0
 have HB := Aside0.mk (Below.refl w.heap.size w)
 have H : ((spec_l6Open.f l0).bind fun bt213 => ((spec_l6Rd_pick.f k bt213.1 bt213.2 40).bind fun bt216 => ((spec_l91Batch.f k bt213.1 bt216.2 bt216.1).bind fun bt218 => ((spec_l6Rd_pick.f k bt213.1 bt218.2.2.2.2.2.2 3).bind fun bt228 => (if bt228.1 > 0 then ((spec_l6Rd_pick.f k bt213.1 bt228.2 40).bind fun bt230 => ((spec_l91Records.f k bt213.1 bt230.2 bt230.1 6).bind fun bt232 => (if 0 < (bt232.1.length : Int) then ((spec_l6Rd_pick.f k bt213.1 bt232.2 (wrap64 ((bt232.1.length : Int) + 1))).bind fun bt237 => (some (bt218.1, false, 255, 0, 0, bt232.1, wrap64 (((rd_T41 bt232.1 0).f0) + bt237.1)))) else (none)))) else (if 0 < (bt218.2.2.2.2.2.1.length : Int) then ((spec_l6Rd_pick.f k bt213.1 bt228.2 (wrap64 ((bt218.2.2.2.2.2.1.length : Int) + 1))).bind fun bt240 => (some (bt218.1, bt218.2.1, bt218.2.2.1, bt218.2.2.2.1, bt218.2.2.2.2.1, bt218.2.2.2.2.2.1, wrap64 (((rd_T41 bt218.2.2.2.2.2.1 0).f0) + bt240.1)))) else (none))))))) = some (r1, r2, r3, r4, r5, r6, r7) := h
 clear h
 replace H := tbe H
 obtain ⟨⟨t213, t214⟩, A2, H⟩ := H
 dsimp only at H
 replace H := tbe H
 obtain ⟨⟨t216, t217⟩, A3, H⟩ := H
 dsimp only at H
 replace H := tbe H
 obtain ⟨⟨t218, t219, t220, t221, t222, t223, t226⟩, A4, H⟩ := H
 dsimp only at H
 replace H := tbe H
 obtain ⟨⟨t228, t229⟩, A5, H⟩ := H
 dsimp only at H
 by_cases c6 : t228 > 0
 ·rw [if_pos c6] at H
  have c6b0 : decide (0 < t228) = true := decide_eq_true c6
  clear c6
  replace H := tbe H
  obtain ⟨⟨t230, t231⟩, A7, H⟩ := H
  dsimp only at H
  replace H := tbe H
  obtain ⟨⟨t232, t235⟩, A8, H⟩ := H
  dsimp only at H
  by_cases c9 : 0 < (t232.length : Int)
  ·rw [if_pos c9] at H
   have c9b0 : decide (0 < (t232.length : Int)) = true := decide_eq_true c9
   have c9b1 : decide (0 < t232.length) = true := decide_eq_true (by omega)
   clear c9
   replace H := tbe H
   obtain ⟨⟨t237, t238⟩, A10, H⟩ := H
   dsimp only at H
   simp only [Option.some.injEq, Prod.mk.injEq] at H
   obtain ⟨rfl, rfl, rfl, rfl, rfl, rfl, rfl⟩ := H
   go_enter Tryd.func8, Tryd.ntmps8
   try go_wp2_with (first | ((with_reducible refine gate_dst (N := 2) rfl ?_); refine box_event ?hg (N := 2) ?hd (cs := #[.bool false, .bool false, .int .i64 0, .int .i64 0, .int .i64 0, .slice none 0 0]) (t := 25) ?hr ?_; (case hd => rfl); (case hg => rfl); (case hr => first | (go_simp; done) | (go_simp; rfl)); intro gb212 hg w11 hbox hb; have BK212 := Aside0.mk (hbox); have GW212 := tge HB hg; have GE212 := tge HB hg; replace HB := tBs HB hb; clear hb hbox hg) | ((with_reducible refine gate_callee (f := 22) rfl ?_); refine goesL_ (some 7) rfl rfl Tryd.func22 (by kernel_rfl) rfl #[.slice A0 l0.length c0] rfl tq ?_; (with_reducible refine (spec_l6Open.calls _ _ l0 t213 t214 w _ ?side1 ?side2 ?side3 A2.out).mono ?_); (case side1 => exact zb); (case side2 => exact HR0.out); (case side3 => exact HC0.out); rintro e w12 ⟨g215, rfl, hi, hb, hb2⟩; refine ⟨_, rfl, ?_⟩; replace HB := Aside0.mk (hb); have HI215 := Aside0.mk (hi); have NB215_212 := Aside0.mk (IsS72.ne_blk hi (blk_below (g := gb212) (o := .cells #[.bool false, .bool false, .int .i64 0, .int .i64 0, .int .i64 0, .slice none 0 0] 25 (0, 0)) (tH BK212.out) hb2) (by decide)); have NB212_215 := Aside0.mk (Ne.symm (IsS72.ne_blk hi (blk_below (g := gb212) (o := .cells #[.bool false, .bool false, .int .i64 0, .int .i64 0, .int .i64 0, .slice none 0 0] 25 (0, 0)) (tH BK212.out) hb2) (by decide))); replace BK212 := Aside0.mk (blk_below (g := gb212) (o := .cells #[.bool false, .bool false, .int .i64 0, .int .i64 0, .int .i64 0, .slice none 0 0] 25 (0, 0)) (tH BK212.out) hb2); (try clear hb); (try clear hb2); (try clear hk); (try clear hi)) | ((with_reducible refine gate_callee (f := 24) rfl ?_); refine goesL_ (some 10) rfl rfl Tryd.func24 (by kernel_rfl) rfl #[.pointer (some ⟨g215, 0, none⟩), .int .i64 40] rfl tq ?_; (with_reducible refine (spec_l6Rd_pick.calls k g215 t213 t214 40 t216 t217 w _ ?side1 ?side2 A3.out).mono ?_); (case side1 => repeat (first | (with_reducible first | exact HI215.out | apply IsS72.alloc | apply IsS72.drewN | apply IsS72.drew | apply IsS72.set_1 | refine IsS72.far ?_ NB215_212.out _) | exact HI215.out)); (case side2 => repeat (first | (with_reducible first | exact HB.out | apply below_alloc | apply pw_below_drewN | apply below_drew1 | refine below_set ?_ (IsS72.ge HI215.out) | refine below_set ?_ GE212.out) | exact HB.out)); rintro e w13 ⟨rfl, hi, hb, hk⟩; refine ⟨_, rfl, ?_⟩; replace BK212 := tBk BK212 hk NB212_215; replace HB := Aside0.mk (hb); replace HI215 := Aside0.mk (hi); (try clear hb); (try clear hb2); (try clear hk); (try clear hi)) | ((with_reducible refine gate_callee (f := 23) rfl ?_); refine goesL_ (some 11) rfl rfl Tryd.func23 (by kernel_rfl) rfl #[.pointer (some ⟨g215, 0, none⟩), .int .i64 t216] rfl tq ?_; (with_reducible refine (spec_l91Batch.calls k g215 t213 t217 t216 t218 t219 t220 t221 t222 t223 t226 w _ ?side1 ?side2 A4.out).mono ?_); (case side1 => repeat (first | (with_reducible first | exact HI215.out | apply IsS72.alloc | apply IsS72.drewN | apply IsS72.drew | apply IsS72.set_1 | refine IsS72.far ?_ NB215_212.out _) | exact HI215.out)); (case side2 => repeat (first | (with_reducible first | exact HB.out | apply below_alloc | apply pw_below_drewN | apply below_drew1 | refine below_set ?_ (IsS72.ge HI215.out) | refine below_set ?_ GE212.out) | exact HB.out)); rintro e w14 ⟨v224, rfl, ho0, hi, hb, hk⟩; have u_v224 := tsv Tryd.prog v224 ho0; refine ⟨_, rfl, ?_⟩; have HO225 := Aside0.mk (Kd.N_lower (Kd.N_mono (ok' := fun k_ => (w.heap.size ≤ k_) ∧ k_ ≠ gb212 ∧ k_ ≠ g215) ho0 (fun k_ hk_ => ⟨(Nat.le_trans (below_size (by repeat (first | (with_reducible first | exact HB.out | apply below_alloc | apply pw_below_drewN | apply below_drew1 | refine below_set ?_ (IsS72.ge HI215.out) | refine below_set ?_ GE212.out) | exact HB.out))) hk_), (tfB BK212 k_ hk_), (IsS72.fresh (by repeat (first | (with_reducible first | exact HI215.out | apply IsS72.alloc | apply IsS72.drewN | apply IsS72.drew | apply IsS72.set_1 | refine IsS72.far ?_ NB215_212.out _) | exact HI215.out)) k_ hk_)⟩)) (below_size (by repeat (first | (with_reducible first | exact HB.out | apply below_alloc | apply pw_below_drewN | apply below_drew1 | refine below_set ?_ (IsS72.ge HI215.out) | refine below_set ?_ GE212.out) | exact HB.out)))); replace BK212 := tBk BK212 hk NB212_215; replace HB := Aside0.mk (hb); replace HI215 := Aside0.mk (hi); (try clear hb); (try clear hb2); (try clear hk); (try clear hi); (try clear ho0)) | ((with_reducible refine gate_dst (N := 5) rfl ?_); refine box_event ?hg (N := 5) ?hd (cs := #[.bool false, .bool false, .int .i64 0, .int .i64 0, .int .i64 0, .slice none 0 0]) (t := 25) ?hr ?_; (case hd => rfl); (case hg => rfl); (case hr => first | (go_simp; done) | (go_simp; rfl)); intro gb227 hg w15 hbox hb; replace HO225 := tNB HO225 hg hb; have BK227 := Aside0.mk (hbox); have GW227 := Aside0.mk ((by rw [hg]; exact (below_size (by repeat (first | (with_reducible first | exact HB.out | apply below_alloc | apply pw_below_drewN | apply below_drew1 | refine below_set ?_ (IsS72.ge HI215.out) | refine below_set ?_ GE212.out) | exact HB.out))) : w.heap.size ≤ gb227)); have GE227 := Aside0.mk ((by rw [hg]; exact (below_size (by repeat (first | (with_reducible first | exact HB.out | apply below_alloc | apply pw_below_drewN | apply below_drew1 | refine below_set ?_ (IsS72.ge HI215.out) | refine below_set ?_ GE212.out) | exact HB.out))) : w.heap.size ≤ gb227)); replace HB := Aside0.mk (below_step (by repeat (first | (with_reducible first | exact HB.out | apply below_alloc | apply pw_below_drewN | apply below_drew1 | refine below_set ?_ (IsS72.ge HI215.out) | refine below_set ?_ GE212.out) | exact HB.out)) hb); have NB212_227 := tlt BK212 hg; have NB227_212 := tgt BK212 hg; replace BK212 := tBb BK212 hb; have NB215_227 := Aside0.mk ((by rw [hg]; exact Nat.ne_of_lt (IsS72.lt (show IsS72 w _ g215 t213 t226 from by repeat (first | (with_reducible first | exact HI215.out | apply IsS72.alloc | apply IsS72.drewN | apply IsS72.drew | apply IsS72.set_1 | refine IsS72.far ?_ NB215_212.out _) | exact HI215.out))) : g215 ≠ gb227)); have NB227_215 := Aside0.mk ((by rw [hg]; exact Nat.ne_of_gt (IsS72.lt (show IsS72 w _ g215 t213 t226 from by repeat (first | (with_reducible first | exact HI215.out | apply IsS72.alloc | apply IsS72.drewN | apply IsS72.drew | apply IsS72.set_1 | refine IsS72.far ?_ NB215_212.out _) | exact HI215.out))) : gb227 ≠ g215)); replace HI215 := Aside0.mk (IsS72.below (by repeat (first | (with_reducible first | exact HI215.out | apply IsS72.alloc | apply IsS72.drewN | apply IsS72.drew | apply IsS72.set_1 | refine IsS72.far ?_ NB215_212.out _) | exact HI215.out)) hb); clear hb hbox hg; have hnb16 := NB227_212.out; have hnc16 := NB212_227.out; have hnb17 := NB227_215.out; have hnc17 := NB215_227.out; obtain ⟨hcz18_0, hcz18_1, hcz18_2, hcz18_3, hcz18_4, hcz18_5, hfz18_0, hfz18_1, hfz18_2, hfz18_3, hfz18_4, hfz18_5⟩ := cells6 BK227.out; obtain ⟨Ao19, co19, eo19⟩ := Kd.N_slice HO225.out; subst eo19) | ((with_reducible refine gate_callee (f := 24) rfl ?_); refine goesL_ (some 13) rfl rfl Tryd.func24 (by kernel_rfl) rfl #[.pointer (some ⟨g215, 0, none⟩), .int .i64 3] rfl tq ?_; (with_reducible refine (spec_l6Rd_pick.calls k g215 t213 t226 3 t228 t229 w _ ?side1 ?side2 A5.out).mono ?_); (case side1 => repeat (first | (with_reducible first | exact HI215.out | apply IsS72.alloc | apply IsS72.drewN | apply IsS72.drew | apply IsS72.set_1 | refine IsS72.far ?_ NB215_212.out _ | refine IsS72.far ?_ NB215_227.out _) | exact HI215.out)); (case side2 => repeat (first | (with_reducible first | exact HB.out | apply below_alloc | apply pw_below_drewN | apply below_drew1 | refine below_set ?_ (IsS72.ge HI215.out) | refine below_set ?_ GE212.out | refine below_set ?_ GE227.out) | exact HB.out)); rintro e w20 ⟨rfl, hi, hb, hk⟩; refine ⟨_, rfl, ?_⟩; replace BK212 := tBk BK212 hk NB212_215; replace HO225 := tNk HO225 hk; replace BK227 := tBq (o' := .cells #[.bool t218, .bool t219, .int .i64 t220, .int .i64 t221, .int .i64 t222, .slice Ao19 t223.length co19] 25 (0, 0)) BK227 hk NB227_215; replace HB := Aside0.mk (hb); replace HI215 := Aside0.mk (hi); (try clear hb); (try clear hb2); (try clear hk); (try clear hi)))
   replace HO225 := Aside0.mk (Kd.N_drew HO225.out)
   replace BK212 := Aside0.mk (blk_drew BK212.out)
   replace BK227 := Aside0.mk (blk_drew BK227.out)
   replace HI215 := Aside0.mk (IsS72.drew HI215.out)
   replace HB := Aside0.mk (below_drew1 HB.out)
   refine start_ (n := 8) (S := fun w' => w'.cell? ⟨gb227, 0, none⟩ = some (.bool t218) ∧ w'.cell? ⟨gb227, 1, none⟩ = some (.bool t219) ∧ w'.cell? ⟨gb227, 2, none⟩ = some (.int .i64 t220) ∧ w'.cell? ⟨gb227, 3, none⟩ = some (.int .i64 t221) ∧ w'.cell? ⟨gb227, 4, none⟩ = some (.int .i64 t222) ∧ w'.cell? ⟨gb227, 5, none⟩ = some (.slice Ao19 t223.length co19)) (ds := [7]) #[false, false, false, false, false, false, false, false] (by kernel_rfl) rfl rfl ⟨(blk_cell BK227.out 0).trans rfl, (blk_cell BK227.out 1).trans rfl, (blk_cell BK227.out 2).trans rfl, (blk_cell BK227.out 3).trans rfl, (blk_cell BK227.out 4).trans rfl, (blk_cell BK227.out 5).trans rfl⟩ (fun hHeld => ?_); refine with_tabW spec_DrawBatchCut.tab4 spec_DrawBatchCut.bits4 (fun HT_ HW_ => ?_)
   generalize w20.drew = w21 at HO225 BK212 BK227 HI215 HB hHeld ⊢
   refine pure_ (i := 0) (N := some 15) (v := ?_) (a' := ?_) #[true, false, false, false, false, false, false, false] rfl rfl (any_of HT_.out (by kernel_rfl)) (fun _ _ _ h => h) (Or.inl ⟨by rfl, ?_⟩) ?_ ?_
   rotate_left
   ·intro w'
    go_simp
    with_reducible rfl
   rotate_left
   ·simp only [Act.put, List.setIfInBounds_toArray, List.set_cons_zero, List.set_cons_succ, i64_w, i32_w]
    rfl
   refine pure_ (i := 2) (N := some 17) (v := ?_) (a' := ?_) #[true, false, true, false, false, false, false, false] rfl rfl (any_of HT_.out (by kernel_rfl)) (fun _ _ _ h => h) (Or.inl ⟨by rfl, ?_⟩) ?_ ?_
   rotate_left
   ·intro w'
    go_simp
    with_reducible rfl
   rotate_left
   ·simp only [Act.put, List.setIfInBounds_toArray, List.set_cons_zero, List.set_cons_succ, i64_w, i32_w]
    rfl
   refine pure_ (i := 3) (N := some 18) (v := ?_) (a' := ?_) #[true, false, true, true, false, false, false, false] rfl rfl (any_of HT_.out (by kernel_rfl)) (fun _ _ _ h => h) (Or.inl ⟨by rfl, ?_⟩) ?_ ?_
   rotate_left
   ·intro w'
    go_simp
    with_reducible rfl
   rotate_left
   ·simp only [Act.put, List.setIfInBounds_toArray, List.set_cons_zero, List.set_cons_succ, i64_w, i32_w]
    rfl
   refine take_ (i := 1) (N := some 16) (v := ?_) (a' := ?_) #[true, true, true, true, false, false, false, false] rfl rfl (take_ofW HT_.out HW_.out (by kernel_rfl)) (fun _ _ _ h => h) (Or.inl ⟨by rfl, ?_⟩) hHeld ?_ ?_
   rotate_left
   ·rintro w' ⟨s0, s1, s2, s3, s4, s5⟩
    go_simp
    with_reducible rfl
   rotate_left
   ·simp only [Act.put, List.setIfInBounds_toArray, List.set_cons_zero, List.set_cons_succ, i64_w, i32_w]
    rfl
   refine one_ (i := 4) (N := some 19) #[true, true, true, true, true, false, false, false] rfl rfl (one_of HT_.out (by kernel_rfl)) (by decide) (fun K hK => ?_)
   refine goes_ Tryd.func24 (by kernel_rfl) rfl #[.pointer (some ⟨g215, 0, none⟩), .int .i64 40] (by rfl) rfl rfl tq ?_
   with_reducible refine (spec_l6Rd_pick.calls k g215 t213 t229 40 t230 t231 w _ ?side1 ?side2 A7.out).mono ?_
   (case side1 => repeat (first | (with_reducible first | exact HI215.out | apply IsS72.alloc | apply IsS72.drewN | apply IsS72.drew | apply IsS72.set_1 | refine IsS72.far ?_ NB215_212.out _ | refine IsS72.far ?_ NB215_227.out _) | exact HI215.out))
   (case side2 => repeat (first | (with_reducible first | exact HB.out | apply below_alloc | apply pw_below_drewN | apply below_drew1 | refine below_set ?_ (IsS72.ge HI215.out) | refine below_set ?_ GE212.out | refine below_set ?_ GE227.out) | exact HB.out))
   rintro e w22 ⟨rfl, hi, hb, hk⟩
   refine ⟨_, rfl, ?_⟩
   replace BK212 := tBk BK212 hk NB212_215
   replace HO225 := tNk HO225 hk
   replace BK227 := tBk BK227 hk NB227_215
   replace HB := Aside0.mk (hb)
   replace HI215 := Aside0.mk (hi)
   (try clear hb)
   (try clear hb2)
   (try clear hk)
   (try clear hi)
   refine hK.out _ _ ⟨(blk_cell BK227.out 0).trans rfl, (blk_cell BK227.out 1).trans rfl, (blk_cell BK227.out 2).trans rfl, (blk_cell BK227.out 3).trans rfl, (blk_cell BK227.out 4).trans rfl, (blk_cell BK227.out 5).trans rfl⟩ (fun hHeld => ?_)
   clear hK K
   refine norm_ (a' := ?_) ?_ ?_
   rotate_left
   ·show Act.put _ (some 19) _ = _
    simp only [Act.put, List.setIfInBounds_toArray, List.set_cons_zero, List.set_cons_succ, i64_w, i32_w]
    rfl
   refine one_ (i := 5) (N := some 20) #[true, true, true, true, true, true, false, false] rfl rfl (one_of HT_.out (by kernel_rfl)) (by decide) (fun K hK => ?_)
   refine goes_ Tryd.func25 (by kernel_rfl) rfl #[.pointer (some ⟨g215, 0, none⟩), .int .i64 t230, .int .i64 6] (by rfl) rfl rfl tq ?_
   with_reducible refine (spec_l91Records.calls k g215 t213 t231 t230 6 t232 t235 w _ ?side1 ?side2 A8.out).mono ?_
   (case side1 => repeat (first | (with_reducible first | exact HI215.out | apply IsS72.alloc | apply IsS72.drewN | apply IsS72.drew | apply IsS72.set_1 | refine IsS72.far ?_ NB215_212.out _ | refine IsS72.far ?_ NB215_227.out _) | exact HI215.out))
   (case side2 => repeat (first | (with_reducible first | exact HB.out | apply below_alloc | apply pw_below_drewN | apply below_drew1 | refine below_set ?_ (IsS72.ge HI215.out) | refine below_set ?_ GE212.out | refine below_set ?_ GE227.out) | exact HB.out))
   rintro e w23 ⟨v233, rfl, ho0, hi, hb, hk⟩
   refine ⟨_, rfl, ?_⟩
   have HO234 := Aside0.mk (Kd.N_lower (Kd.N_mono (ok' := fun k_ => (w.heap.size ≤ k_) ∧ some k_ ≠ (.slice Ao19 t223.length co19 : Value).ownBlock ∧ k_ ≠ gb212 ∧ k_ ≠ gb227 ∧ k_ ≠ g215) (Kd.S_N (Kd.S_bound ho0)) (fun k_ hk_ => ⟨(Nat.le_trans (below_size (by repeat (first | (with_reducible first | exact HB.out | apply below_alloc | apply pw_below_drewN | apply below_drew1 | refine below_set ?_ (IsS72.ge HI215.out) | refine below_set ?_ GE212.out | refine below_set ?_ GE227.out) | exact HB.out))) hk_.2.1), (tfr HO225 k_ hk_.2.1), (tfB BK212 k_ hk_.2.1), (tfB BK227 k_ hk_.2.1), (IsS72.fresh (by repeat (first | (with_reducible first | exact HI215.out | apply IsS72.alloc | apply IsS72.drewN | apply IsS72.drew | apply IsS72.set_1 | refine IsS72.far ?_ NB215_212.out _ | refine IsS72.far ?_ NB215_227.out _) | exact HI215.out)) k_ hk_.2.1)⟩)) (below_size (by repeat (first | (with_reducible first | exact HB.out | apply below_alloc | apply pw_below_drewN | apply below_drew1 | refine below_set ?_ (IsS72.ge HI215.out) | refine below_set ?_ GE212.out | refine below_set ?_ GE227.out) | exact HB.out))))
   replace BK212 := tBk BK212 hk NB212_215
   replace HO225 := Aside0.mk (Kd.N_mono (Kd.N_told (Kd.N_oldK (Kd.N_mono (ok := fun k_ => ((((w.heap.size ≤ k_)) ∧ (k_ ≠ gb212 ∧ k_ ≠ g215)) ∧ k_ ≠ gb227)) (tN HO225.out) (fun k_ hk_ => (⟨hk_, hk_.1.2.2⟩ : _ ∧ k_ ≠ g215))) hk) (tb ho0)) (fun _ h_ => h_.1))
   replace BK227 := tBk BK227 hk NB227_215
   replace HB := Aside0.mk (hb)
   replace HI215 := Aside0.mk (hi)
   (try clear hb)
   (try clear hb2)
   (try clear hk)
   (try clear hi)
   (try clear ho0)
   obtain ⟨Ao24, co24, eo24⟩ := Kd.N_slice HO234.out
   (first | subst eo24 | (injection eo24 with f1_ f2_ f3_; have f4_ := f1_.symm; have f5_ := f3_.symm; clear f1_ f2_ f3_; subst f4_; subst f5_))
   refine hK.out _ _ ⟨(blk_cell BK227.out 0).trans rfl, (blk_cell BK227.out 1).trans rfl, (blk_cell BK227.out 2).trans rfl, (blk_cell BK227.out 3).trans rfl, (blk_cell BK227.out 4).trans rfl, (blk_cell BK227.out 5).trans rfl⟩ (fun hHeld => ?_)
   clear hK K
   refine norm_ (a' := ?_) ?_ ?_
   rotate_left
   ·show Act.put _ (some 20) _ = _
    simp only [Act.put, List.setIfInBounds_toArray, List.set_cons_zero, List.set_cons_succ, i64_w, i32_w]
    rfl
   refine pure_ (i := 6) (N := some 21) (v := ?_) (a' := ?_) #[true, true, true, true, true, true, true, false] rfl rfl (any_of HT_.out (by kernel_rfl)) (fun _ _ _ h => h) (Or.inl ⟨by rfl, ?_⟩) ?_ ?_
   rotate_left
   ·intro w'
    go_simp
    with_reducible rfl
   rotate_left
   ·simp only [Act.put, List.setIfInBounds_toArray, List.set_cons_zero, List.set_cons_succ, i64_w, i32_w]
    rfl
   refine last_ (i := 7) (N := none) #[true, true, true, true, true, true, true, true] rfl rfl (one_of HT_.out (by kernel_rfl)) (by decide) (fun K hK => ?_)
   have hs25 : w23.cell? ⟨gb227, 0, none⟩ = some (.bool t218) := (blk_cell BK227.out 0).trans rfl
   have hfs25 := blk_frozen BK227.out 0
   have hns25_0 := NB212_227.out
   have hms25_0 := NB227_212.out
   have hs26 : w23.cell? ⟨gb227, 1, none⟩ = some (.bool t219) := (blk_cell BK227.out 1).trans rfl
   have hfs26 := blk_frozen BK227.out 1
   have hns26_0 := NB212_227.out
   have hms26_0 := NB227_212.out
   have hs27 : w23.cell? ⟨gb227, 2, none⟩ = some (.int .i64 t220) := (blk_cell BK227.out 2).trans rfl
   have hfs27 := blk_frozen BK227.out 2
   have hns27_0 := NB212_227.out
   have hms27_0 := NB227_212.out
   have hs28 : w23.cell? ⟨gb227, 3, none⟩ = some (.int .i64 t221) := (blk_cell BK227.out 3).trans rfl
   have hfs28 := blk_frozen BK227.out 3
   have hns28_0 := NB212_227.out
   have hms28_0 := NB227_212.out
   have hs29 : w23.cell? ⟨gb227, 4, none⟩ = some (.int .i64 t222) := (blk_cell BK227.out 4).trans rfl
   have hfs29 := blk_frozen BK227.out 4
   have hns29_0 := NB212_227.out
   have hms29_0 := NB227_212.out
   have hs30 : w23.cell? ⟨gb227, 5, none⟩ = some (.slice Ao19 t223.length co19) := (blk_cell BK227.out 5).trans rfl
   have hfs30 := blk_frozen BK227.out 5
   have hns30_0 := NB212_227.out
   have hms30_0 := NB227_212.out
   refine skip_ (w1 := ?_) (by rfl) rfl ?_ ?_
   rotate_left
   ·go_simp
    rfl
   refine hK.out _ _ ?_
   clear hK K
   refine done_ (done_of HT_.out (by kernel_rfl)) ?_
   try go_wp2
   have n0_ : Aside0 (Kd.N k41 41 ((((((w23.setCell ⟨gb227, 0, none⟩ (.bool t218)).setCell ⟨gb227, 1, none⟩ (.bool false)).setCell ⟨gb227, 2, none⟩ (.int .i64 255)).setCell ⟨gb227, 3, none⟩ (.int .i64 0)).setCell ⟨gb227, 4, none⟩ (.int .i64 0)).setCell ⟨gb227, 5, none⟩ (.slice Ao24 t232.length co24)) w.heap.size (fun k_ => (w.heap.size ≤ k_) ∧ some k_ ≠ (.slice Ao24 t232.length co24 : Value).ownBlock ∧ k_ ≠ gb212 ∧ k_ ≠ g215 ∧ k_ ≠ gb227) (.slice Ao19 t223.length co19) t223) := ⟨tNm HO225.out⟩
   have n1_ : Aside0 (Kd.N k41 41 ((((((w23.setCell ⟨gb227, 0, none⟩ (.bool t218)).setCell ⟨gb227, 1, none⟩ (.bool false)).setCell ⟨gb227, 2, none⟩ (.int .i64 255)).setCell ⟨gb227, 3, none⟩ (.int .i64 0)).setCell ⟨gb227, 4, none⟩ (.int .i64 0)).setCell ⟨gb227, 5, none⟩ (.slice Ao24 t232.length co24)) w.heap.size (fun k_ => (w.heap.size ≤ k_) ∧ some k_ ≠ (.slice Ao19 t223.length co19 : Value).ownBlock ∧ k_ ≠ gb212 ∧ k_ ≠ gb227 ∧ k_ ≠ g215) (.slice Ao24 t232.length co24) t232) := ⟨tNm HO234.out⟩
   have n2_ : Aside0 (((((((w23.setCell ⟨gb227, 0, none⟩ (.bool t218)).setCell ⟨gb227, 1, none⟩ (.bool false)).setCell ⟨gb227, 2, none⟩ (.int .i64 255)).setCell ⟨gb227, 3, none⟩ (.int .i64 0)).setCell ⟨gb227, 4, none⟩ (.int .i64 0)).setCell ⟨gb227, 5, none⟩ (.slice Ao24 t232.length co24)).heap[gb212]? = some (.cells #[.bool false, .bool false, .int .i64 0, .int .i64 0, .int .i64 0, .slice none 0 0] 25 (0, 0))) := ⟨tH BK212.out⟩
   have n3_ : Aside0 (((((((w23.setCell ⟨gb227, 0, none⟩ (.bool t218)).setCell ⟨gb227, 1, none⟩ (.bool false)).setCell ⟨gb227, 2, none⟩ (.int .i64 255)).setCell ⟨gb227, 3, none⟩ (.int .i64 0)).setCell ⟨gb227, 4, none⟩ (.int .i64 0)).setCell ⟨gb227, 5, none⟩ (.slice Ao24 t232.length co24)).heap[gb227]? = some (.cells #[.bool t218, .bool false, .int .i64 255, .int .i64 0, .int .i64 0, .slice Ao24 t232.length co24] 25 (0, 0))) := ⟨tP BK227.out⟩
   have n4_ : Aside0 (IsS72 w ((((((w23.setCell ⟨gb227, 0, none⟩ (.bool t218)).setCell ⟨gb227, 1, none⟩ (.bool false)).setCell ⟨gb227, 2, none⟩ (.int .i64 255)).setCell ⟨gb227, 3, none⟩ (.int .i64 0)).setCell ⟨gb227, 4, none⟩ (.int .i64 0)).setCell ⟨gb227, 5, none⟩ (.slice Ao24 t232.length co24)) g215 t213 t235) := ⟨by repeat (first | (with_reducible first | exact HI215.out | apply IsS72.alloc | apply IsS72.drewN | apply IsS72.drew | apply IsS72.set_1 | refine IsS72.far ?_ NB215_212.out _ | refine IsS72.far ?_ NB215_227.out _) | exact HI215.out)⟩
   have n5_ : Aside0 (Below w.heap.size w ((((((w23.setCell ⟨gb227, 0, none⟩ (.bool t218)).setCell ⟨gb227, 1, none⟩ (.bool false)).setCell ⟨gb227, 2, none⟩ (.int .i64 255)).setCell ⟨gb227, 3, none⟩ (.int .i64 0)).setCell ⟨gb227, 4, none⟩ (.int .i64 0)).setCell ⟨gb227, 5, none⟩ (.slice Ao24 t232.length co24))) := ⟨by repeat (first | (with_reducible first | exact HB.out | apply below_alloc | apply pw_below_drewN | apply below_drew1 | refine below_set ?_ (IsS72.ge HI215.out) | refine below_set ?_ GE212.out | refine below_set ?_ GE227.out) | exact HB.out)⟩
   (try clear HO225)
   (try clear HO234)
   (try clear BK212)
   (try clear BK227)
   (try clear HI215)
   (try clear HB)
   generalize ((((((w23.setCell ⟨gb227, 0, none⟩ (.bool t218)).setCell ⟨gb227, 1, none⟩ (.bool false)).setCell ⟨gb227, 2, none⟩ (.int .i64 255)).setCell ⟨gb227, 3, none⟩ (.int .i64 0)).setCell ⟨gb227, 4, none⟩ (.int .i64 0)).setCell ⟨gb227, 5, none⟩ (.slice Ao24 t232.length co24)) = w31 at n0_ n1_ n2_ n3_ n4_ n5_ ⊢
   have HO225 := n0_
   have HO234 := n1_
   have BK212 := n2_
   have BK227 := n3_
   have HI215 := n4_
   have HB := n5_
   clear n0_ n1_ n2_ n3_ n4_ n5_
   replace HO225 := Aside0.mk (Kd.N_drew HO225.out)
   replace HO234 := Aside0.mk (Kd.N_drew HO234.out)
   replace BK212 := Aside0.mk (blk_drew BK212.out)
   replace BK227 := Aside0.mk (blk_drew BK227.out)
   replace HI215 := Aside0.mk (IsS72.drew HI215.out)
   replace HB := Aside0.mk (below_drew1 HB.out)
   have p236 : 0 ≤ (0 : Int) := (by omega)
   have q236 : 0 < (t232.length : Int) := td
   obtain ⟨ad236, A236_3, c236_3, A236_5, c236_5, e236, hx236_0, hx236_1, hx236_2, hx236_3, hx236_4, hx236_5, hl236_3, hi236_3, hl236_5, hi236_5⟩ := at_T41 (Kd.N_reads' HO234.out).2.2 0 p236 q236
   cases e236
   obtain ⟨ce236, hce236, hMe236, hcc236⟩ := Kd.N_get HO234.out z41 0 p236 (by first | exact q236 | exact td | (have e_ := (Kd.N_reads' HO234.out).1; omega))
   obtain ⟨ua236_3, uc236_3, ua236_5, uc236_5, rfl, ul236_3, ge236_3, ul236_5, ge236_5⟩ := k41_openF hMe236
   have hv236_3 := hcc236 3 _ rfl
   rw [add_field _ _ 3 (by omega)] at hv236_3
   replace hv236_3 := Option.some.inj (hv236_3.symm.trans hx236_3)
   injection hv236_3 with hva_ hvn_ hvc_
   rw [hva_] at ge236_3
   rw [hvc_] at ul236_3
   have HL236_3 := Aside0.mk (show Kd.V (Kd.int .i64) 3 _ w.heap.size _ _ ((rd_T41 t232 0).f3) from Kd.V_mk ul236_3 ge236_3)
   clear hva_ hvn_ hvc_ ge236_3 ul236_3
   have hv236_5 := hcc236 5 _ rfl
   rw [add_field _ _ 5 (by omega)] at hv236_5
   replace hv236_5 := Option.some.inj (hv236_5.symm.trans hx236_5)
   injection hv236_5 with hva_ hvn_ hvc_
   rw [hva_] at ge236_5
   rw [hvc_] at ul236_5
   have HL236_5 := Aside0.mk (show Kd.V (Kd.int .i64) 3 _ w.heap.size _ _ ((rd_T41 t232 0).f5) from Kd.V_mk ul236_5 ge236_5)
   clear hva_ hvn_ hvc_ ge236_5 ul236_5
   clear hcc236 hce236
   have qi236 : (0 < t232.length) = True := eq_true (by omega)
   (try rw [show ((0 : Int)).toNat = 0 from rfl] at hx236_0)
   (try rw [show 0 * 6 = 0 from rfl] at hx236_0)
   (try rw [Addr.add_zero'] at hx236_0)
   (try rw [show ((0 : Int)).toNat = 0 from rfl] at hx236_1)
   (try rw [show 0 * 6 = 0 from rfl] at hx236_1)
   (try rw [Addr.add_zero'] at hx236_1)
   (try rw [show ((0 : Int)).toNat = 0 from rfl] at hx236_2)
   (try rw [show 0 * 6 = 0 from rfl] at hx236_2)
   (try rw [Addr.add_zero'] at hx236_2)
   (try rw [show ((0 : Int)).toNat = 0 from rfl] at hx236_3)
   (try rw [show 0 * 6 = 0 from rfl] at hx236_3)
   (try rw [Addr.add_zero'] at hx236_3)
   (try rw [show ((0 : Int)).toNat = 0 from rfl] at hx236_4)
   (try rw [show 0 * 6 = 0 from rfl] at hx236_4)
   (try rw [Addr.add_zero'] at hx236_4)
   (try rw [show ((0 : Int)).toNat = 0 from rfl] at hx236_5)
   (try rw [show 0 * 6 = 0 from rfl] at hx236_5)
   (try rw [Addr.add_zero'] at hx236_5)
   have HR236_3 := Aside0.mk hi236_3
   have HC236_3 := Aside0.mk hl236_3
   clear hi236_3 hl236_3
   have HR236_5 := Aside0.mk hi236_5
   have HC236_5 := Aside0.mk hl236_5
   clear hi236_5 hl236_5
   replace p236 := eq_true p236
   replace q236 := eq_true q236
   refine start_ (n := 15) (S := fun w' => w'.cell? ⟨gb227, 0, none⟩ = some (.bool t218) ∧ w'.cell? ⟨gb227, 1, none⟩ = some (.bool false) ∧ w'.cell? ⟨gb227, 2, none⟩ = some (.int .i64 255) ∧ w'.cell? ⟨gb227, 3, none⟩ = some (.int .i64 0) ∧ w'.cell? ⟨gb227, 4, none⟩ = some (.int .i64 0) ∧ w'.cell? ⟨gb227, 5, none⟩ = some (.slice (some ad236) t232.length co24) ∧ w'.cell? ad236 = some (.int .i64 ((rd_T41 t232 0).f0)) ∧ w'.cell? ⟨ad236.block, ad236.off + 1, none⟩ = some (.int .i64 ((rd_T41 t232 0).f1)) ∧ w'.cell? ⟨ad236.block, ad236.off + 2, none⟩ = some (.bool ((rd_T41 t232 0).f2)) ∧ w'.cell? ⟨ad236.block, ad236.off + 3, none⟩ = some (.slice A236_3 ((rd_T41 t232 0).f3).length c236_3) ∧ w'.cell? ⟨ad236.block, ad236.off + 4, none⟩ = some (.bool ((rd_T41 t232 0).f4)) ∧ w'.cell? ⟨ad236.block, ad236.off + 5, none⟩ = some (.slice A236_5 ((rd_T41 t232 0).f5).length c236_5)) (ds := []) #[false, false, false, false, false, false, false, false, false, false, false, false, false, false, false] (by kernel_rfl) rfl rfl ⟨(blk_cell BK227.out 0).trans rfl, (blk_cell BK227.out 1).trans rfl, (blk_cell BK227.out 2).trans rfl, (blk_cell BK227.out 3).trans rfl, (blk_cell BK227.out 4).trans rfl, (blk_cell BK227.out 5).trans rfl, hx236_0, hx236_1, hx236_2, hx236_3, hx236_4, hx236_5⟩ (fun hHeld => ?_); refine with_tabW spec_DrawBatchCut.tab5 spec_DrawBatchCut.bits5 (fun HT_ HW_ => ?_)
   generalize w31.drew = w32 at HO225 HO234 BK212 BK227 HI215 HB HL236_3 HL236_5 HR236_3 HR236_5 hx236_0 hx236_1 hx236_2 hx236_3 hx236_4 hx236_5 hHeld ⊢
   refine pure_ (i := 1) (N := some 23) (v := ?_) (a' := ?_) #[false, true, false, false, false, false, false, false, false, false, false, false, false, false, false] rfl rfl (any_of HT_.out (by kernel_rfl)) (fun _ _ _ h => h) (Or.inl ⟨by rfl, ?_⟩) ?_ ?_
   rotate_left
   ·intro w'
    go_simp
    with_reducible rfl
   rotate_left
   ·simp only [Act.put, List.setIfInBounds_toArray, List.set_cons_zero, List.set_cons_succ, i64_w, i32_w]
    rfl
   refine pure_ (i := 6) (N := some 28) (v := ?_) (a' := ?_) #[false, true, false, false, false, false, true, false, false, false, false, false, false, false, false] rfl rfl (any_of HT_.out (by kernel_rfl)) (fun _ _ _ h => h) (Or.inl ⟨by rfl, ?_⟩) ?_ ?_
   rotate_left
   ·intro w'
    go_simp
    with_reducible rfl
   rotate_left
   ·simp only [Act.put, List.setIfInBounds_toArray, List.set_cons_zero, List.set_cons_succ, i64_w, i32_w]
    rfl
   refine pure_ (i := 7) (N := some 29) (v := ?_) (a' := ?_) #[false, true, false, false, false, false, true, true, false, false, false, false, false, false, false] rfl rfl (any_of HT_.out (by kernel_rfl)) (fun _ _ _ h => h) (Or.inl ⟨by rfl, ?_⟩) ?_ ?_
   rotate_left
   ·intro w'
    go_simp
    with_reducible rfl
   rotate_left
   ·simp only [Act.put, List.setIfInBounds_toArray, List.set_cons_zero, List.set_cons_succ, i64_w, i32_w]
    rfl
   refine take_ (i := 0) (N := some 22) (v := ?_) (a' := ?_) #[true, true, false, false, false, false, true, true, false, false, false, false, false, false, false] rfl rfl (take_ofW HT_.out HW_.out (by kernel_rfl)) (fun _ _ _ h => h) (Or.inl ⟨by rfl, ?_⟩) hHeld ?_ ?_
   rotate_left
   ·rintro w' ⟨s0, s1, s2, s3, s4, s5, s6, s7, s8, s9, s10, s11⟩
    go_simp
    with_reducible rfl
   rotate_left
   ·simp only [Act.put, List.setIfInBounds_toArray, List.set_cons_zero, List.set_cons_succ, i64_w, i32_w]
    rfl
   refine take_ (i := 2) (N := some 24) (v := ?_) (a' := ?_) #[true, true, true, false, false, false, true, true, false, false, false, false, false, false, false] rfl rfl (take_ofW HT_.out HW_.out (by kernel_rfl)) (fun _ _ _ h => h) (Or.inl ⟨by rfl, ?_⟩) hHeld ?_ ?_
   rotate_left
   ·rintro w' ⟨s0, s1, s2, s3, s4, s5, s6, s7, s8, s9, s10, s11⟩
    go_simp
    with_reducible rfl
   rotate_left
   ·simp only [Act.put, List.setIfInBounds_toArray, List.set_cons_zero, List.set_cons_succ, i64_w, i32_w]
    rfl
   refine pure_ (i := 3) (N := some 25) (v := ?_) (a' := ?_) #[true, true, true, true, false, false, true, true, false, false, false, false, false, false, false] rfl rfl (any_of HT_.out (by kernel_rfl)) (fun _ _ _ h => h) (Or.inl ⟨by rfl, ?_⟩) ?_ ?_
   rotate_left
   ·intro w'
    go_simp
    with_reducible rfl
   rotate_left
   ·simp only [Act.put, List.setIfInBounds_toArray, List.set_cons_zero, List.set_cons_succ, i64_w, i32_w]
    rfl
   refine pure_ (i := 4) (N := some 26) (v := ?_) (a' := ?_) #[true, true, true, true, true, false, true, true, false, false, false, false, false, false, false] rfl rfl (any_of HT_.out (by kernel_rfl)) (fun _ _ _ h => h) (Or.inl ⟨by rfl, ?_⟩) ?_ ?_
   rotate_left
   ·intro w'
    go_simp
    with_reducible rfl
   rotate_left
   ·simp only [Act.put, List.setIfInBounds_toArray, List.set_cons_zero, List.set_cons_succ, i64_w, i32_w]
    rfl
   refine take_ (i := 5) (N := some 27) (v := ?_) (a' := ?_) #[true, true, true, true, true, true, true, true, false, false, false, false, false, false, false] rfl rfl (take_ofW HT_.out HW_.out (by kernel_rfl)) (fun _ _ _ h => h) (Or.inl ⟨by rfl, ?_⟩) hHeld ?_ ?_
   rotate_left
   ·rintro w' ⟨s0, s1, s2, s3, s4, s5, s6, s7, s8, s9, s10, s11⟩
    go_simp
    with_reducible rfl
   rotate_left
   ·simp only [Act.put, List.setIfInBounds_toArray, List.set_cons_zero, List.set_cons_succ, i64_w, i32_w]
    rfl
   refine take_ (i := 8) (N := some 30) (v := ?_) (a' := ?_) #[true, true, true, true, true, true, true, true, true, false, false, false, false, false, false] rfl rfl (take_ofW HT_.out HW_.out (by kernel_rfl)) (fun _ _ _ h => h) (Or.inl ⟨by rfl, ?_⟩) hHeld ?_ ?_
   rotate_left
   ·rintro w' ⟨s0, s1, s2, s3, s4, s5, s6, s7, s8, s9, s10, s11⟩
    go_simp
    with_reducible rfl
   rotate_left
   ·simp only [Act.put, List.setIfInBounds_toArray, List.set_cons_zero, List.set_cons_succ, i64_w, i32_w]
    rfl
   refine pure_ (i := 9) (N := some 31) (v := ?_) (a' := ?_) #[true, true, true, true, true, true, true, true, true, true, false, false, false, false, false] rfl rfl (any_of HT_.out (by kernel_rfl)) (fun _ _ _ h => h) (Or.inl ⟨by rfl, ?_⟩) ?_ ?_
   rotate_left
   ·intro w'
    go_simp
    with_reducible rfl
   rotate_left
   ·simp only [Act.put, List.setIfInBounds_toArray, List.set_cons_zero, List.set_cons_succ, i64_w, i32_w]
    rfl
   refine pure_ (i := 10) (N := some 32) (v := ?_) (a' := ?_) #[true, true, true, true, true, true, true, true, true, true, true, false, false, false, false] rfl rfl (any_of HT_.out (by kernel_rfl)) (fun _ _ _ h => h) (Or.inl ⟨by rfl, ?_⟩) ?_ ?_
   rotate_left
   ·intro w'
    go_simp
    with_reducible rfl
   rotate_left
   ·simp only [Act.put, List.setIfInBounds_toArray, List.set_cons_zero, List.set_cons_succ, i64_w, i32_w]
    rfl
   refine one_ (i := 11) (N := some 33) #[true, true, true, true, true, true, true, true, true, true, true, true, false, false, false] rfl rfl (one_of HT_.out (by kernel_rfl)) (by decide) (fun K hK => ?_)
   refine goes_ Tryd.func24 (by kernel_rfl) rfl #[.pointer (some ⟨g215, 0, none⟩), .int .i64 (wrap64 ((t232.length : Int) + 1))] (by rfl) rfl rfl tq ?_
   with_reducible refine (spec_l6Rd_pick.calls k g215 t213 t235 (wrap64 ((t232.length : Int) + 1)) t237 t238 w _ ?side1 ?side2 A10.out).mono ?_
   (case side1 => repeat (first | (with_reducible first | exact HI215.out | apply IsS72.alloc | apply IsS72.drewN | apply IsS72.drew | apply IsS72.set_1 | refine IsS72.far ?_ NB215_212.out _ | refine IsS72.far ?_ NB215_227.out _) | exact HI215.out))
   (case side2 => repeat (first | (with_reducible first | exact HB.out | apply below_alloc | apply pw_below_drewN | apply below_drew1 | refine below_set ?_ (IsS72.ge HI215.out) | refine below_set ?_ GE212.out | refine below_set ?_ GE227.out) | exact HB.out))
   rintro e w33 ⟨rfl, hi, hb, hk⟩
   have HS6_ := keep_cell hk (hHeld.2.2.2.2.2.2.1) (tow (Kd.own_blk (IsS72.own_neN HI215.out HO234.out (by decide))))
   have HS7_ := keep_cell hk (hHeld.2.2.2.2.2.2.2.1) (tow (Kd.own_blk (IsS72.own_neN HI215.out HO234.out (by decide))))
   have HS8_ := keep_cell hk (hHeld.2.2.2.2.2.2.2.2.1) (tow (Kd.own_blk (IsS72.own_neN HI215.out HO234.out (by decide))))
   have HS9_ := keep_cell hk (hHeld.2.2.2.2.2.2.2.2.2.1) (tow (Kd.own_blk (IsS72.own_neN HI215.out HO234.out (by decide))))
   have HS10_ := keep_cell hk (hHeld.2.2.2.2.2.2.2.2.2.2.1) (tow (Kd.own_blk (IsS72.own_neN HI215.out HO234.out (by decide))))
   have HS11_ := keep_cell hk (hHeld.2.2.2.2.2.2.2.2.2.2.2) (tow (Kd.own_blk (IsS72.own_neN HI215.out HO234.out (by decide))))
   refine ⟨_, rfl, ?_⟩
   replace BK212 := tBk BK212 hk NB212_215
   replace HO225 := tNk HO225 hk
   replace BK227 := tBk BK227 hk NB227_215
   replace HO234 := tNk HO234 hk
   replace HL236_3 := tVk HL236_3 hk
   replace HL236_5 := tVk HL236_5 hk
   replace HB := Aside0.mk (hb)
   replace HI215 := Aside0.mk (hi)
   (try clear hb)
   (try clear hb2)
   (try clear hk)
   (try clear hi)
   refine hK.out _ _ ⟨(blk_cell BK227.out 0).trans rfl, (blk_cell BK227.out 1).trans rfl, (blk_cell BK227.out 2).trans rfl, (blk_cell BK227.out 3).trans rfl, (blk_cell BK227.out 4).trans rfl, (blk_cell BK227.out 5).trans rfl, HS6_, HS7_, HS8_, HS9_, HS10_, HS11_⟩ (fun hHeld => ?_)
   clear hK K
   refine norm_ (a' := ?_) ?_ ?_
   rotate_left
   ·show Act.put _ (some 33) _ = _
    simp only [Act.put, List.setIfInBounds_toArray, List.set_cons_zero, List.set_cons_succ, i64_w, i32_w]
    rfl
   refine pure_ (i := 12) (N := some 34) (v := ?_) (a' := ?_) #[true, true, true, true, true, true, true, true, true, true, true, true, true, false, false] rfl rfl (any_of HT_.out (by kernel_rfl)) (fun _ _ _ h => h) (Or.inl ⟨by rfl, ?_⟩) ?_ ?_
   rotate_left
   ·intro w'
    go_simp
    with_reducible rfl
   rotate_left
   ·simp only [Act.put, List.setIfInBounds_toArray, List.set_cons_zero, List.set_cons_succ, i64_w, i32_w]
    rfl
   refine one_ (i := 13) (N := none) #[true, true, true, true, true, true, true, true, true, true, true, true, true, true, false] rfl rfl (one_of HT_.out (by kernel_rfl)) (by decide) (fun K hK => ?_)
   have hs34 : w33.cell? ⟨gb212, 0, none⟩ = some (.bool false) := (blk_cell BK212.out 0).trans rfl
   have hfs34 := blk_frozen BK212.out 0
   have hns34_1 := NB227_212.out
   have hms34_1 := NB212_227.out
   have hs35 : w33.cell? ⟨gb212, 1, none⟩ = some (.bool false) := (blk_cell BK212.out 1).trans rfl
   have hfs35 := blk_frozen BK212.out 1
   have hns35_1 := NB227_212.out
   have hms35_1 := NB212_227.out
   have hs36 : w33.cell? ⟨gb212, 2, none⟩ = some (.int .i64 0) := (blk_cell BK212.out 2).trans rfl
   have hfs36 := blk_frozen BK212.out 2
   have hns36_1 := NB227_212.out
   have hms36_1 := NB212_227.out
   have hs37 : w33.cell? ⟨gb212, 3, none⟩ = some (.int .i64 0) := (blk_cell BK212.out 3).trans rfl
   have hfs37 := blk_frozen BK212.out 3
   have hns37_1 := NB227_212.out
   have hms37_1 := NB212_227.out
   have hs38 : w33.cell? ⟨gb212, 4, none⟩ = some (.int .i64 0) := (blk_cell BK212.out 4).trans rfl
   have hfs38 := blk_frozen BK212.out 4
   have hns38_1 := NB227_212.out
   have hms38_1 := NB212_227.out
   have hs39 : w33.cell? ⟨gb212, 5, none⟩ = some (.slice none 0 0) := (blk_cell BK212.out 5).trans rfl
   have hfs39 := blk_frozen BK212.out 5
   have hns39_1 := NB227_212.out
   have hms39_1 := NB212_227.out
   refine skip_ (w1 := ?_) (by rfl) rfl ?_ ?_
   rotate_left
   ·go_simp
    rfl
   refine hK.out _ _ ⟨(tcg NB227_212.out hHeld.1), (tcg NB227_212.out hHeld.2.1), (tcg NB227_212.out hHeld.2.2.1), (tcg NB227_212.out hHeld.2.2.2.1), (tcg NB227_212.out hHeld.2.2.2.2.1), (tcg NB227_212.out hHeld.2.2.2.2.2.1), (tcg (Kd.own_blk (Kd.N_away HO234.out (fun _ hk => hk.2.2.1))) hHeld.2.2.2.2.2.2.1), (tcg (Kd.own_blk (Kd.N_away HO234.out (fun _ hk => hk.2.2.1))) hHeld.2.2.2.2.2.2.2.1), (tcg (Kd.own_blk (Kd.N_away HO234.out (fun _ hk => hk.2.2.1))) hHeld.2.2.2.2.2.2.2.2.1), (tcg (Kd.own_blk (Kd.N_away HO234.out (fun _ hk => hk.2.2.1))) hHeld.2.2.2.2.2.2.2.2.2.1), (tcg (Kd.own_blk (Kd.N_away HO234.out (fun _ hk => hk.2.2.1))) hHeld.2.2.2.2.2.2.2.2.2.2.1), (tcg (Kd.own_blk (Kd.N_away HO234.out (fun _ hk => hk.2.2.1))) hHeld.2.2.2.2.2.2.2.2.2.2.2)⟩ (fun hHeld => ?_)
   clear hK K
   refine pure_ (i := 14) (N := some 3) (v := ?_) (a' := ?_) #[true, true, true, true, true, true, true, true, true, true, true, true, true, true, true] rfl rfl (any_of HT_.out (by kernel_rfl)) (fun _ _ _ h => h) (Or.inl ⟨by rfl, ?_⟩) ?_ ?_
   rotate_left
   ·intro w'
    go_simp
    with_reducible rfl
   rotate_left
   ·simp only [Act.put, List.setIfInBounds_toArray, List.set_cons_zero, List.set_cons_succ, i64_w, i32_w]
    rfl
   refine done_ (done_of HT_.out (by kernel_rfl)) ?_
   try go_wp2
   refine bodyPost_ret (results_ct rfl _ _ gb212 25 #[.bool t218, .bool false, .int .i64 255, .int .i64 0, .int .i64 0, .slice (some ad236) t232.length co24] (0, 0) _ rfl (tP BK212.out) Tryd.underlying25 rfl (by kernel_rfl)) rfl ?_
   exact ⟨_, by first | rfl | (simp [errW_none, errW_some] <;> rfl) | (simp [*, errW_none, errW_some] <;> rfl), tNm HO234.out, by repeat (first | (with_reducible first | exact HB.out | apply below_alloc | apply pw_below_drewN | apply below_drew1 | refine below_set ?_ (IsS72.ge HI215.out) | refine below_set ?_ GE212.out | refine below_set ?_ GE227.out) | exact HB.out)⟩
  ·rw [if_neg c9] at H
   exact absurd H (by simp)
 ·rw [if_neg c6] at H
  have c6b0 : decide (0 < t228) = false := decide_eq_false c6
  clear c6
  by_cases c40 : 0 < (t223.length : Int)
  ·rw [if_pos c40] at H
   have c40b0 : decide (0 < (t223.length : Int)) = true := decide_eq_true c40
   have c40b1 : decide (0 < t223.length) = true := decide_eq_true (by omega)
   clear c40
   replace H := tbe H
   obtain ⟨⟨t240, t241⟩, A41, H⟩ := H
   dsimp only at H
   simp only [Option.some.injEq, Prod.mk.injEq] at H
   obtain ⟨rfl, rfl, rfl, rfl, rfl, rfl, rfl⟩ := H
   go_enter Tryd.func8, Tryd.ntmps8
   try go_wp2_with (first | ((with_reducible refine gate_dst (N := 2) rfl ?_); refine box_event ?hg (N := 2) ?hd (cs := #[.bool false, .bool false, .int .i64 0, .int .i64 0, .int .i64 0, .slice none 0 0]) (t := 25) ?hr ?_; (case hd => rfl); (case hg => rfl); (case hr => first | (go_simp; done) | (go_simp; rfl)); intro gb212 hg w42 hbox hb; have BK212 := Aside0.mk (hbox); have GW212 := tge HB hg; have GE212 := tge HB hg; replace HB := tBs HB hb; clear hb hbox hg) | ((with_reducible refine gate_callee (f := 22) rfl ?_); refine goesL_ (some 7) rfl rfl Tryd.func22 (by kernel_rfl) rfl #[.slice A0 l0.length c0] rfl tq ?_; (with_reducible refine (spec_l6Open.calls _ _ l0 t213 t214 w _ ?side1 ?side2 ?side3 A2.out).mono ?_); (case side1 => exact zb); (case side2 => exact HR0.out); (case side3 => exact HC0.out); rintro e w43 ⟨g215, rfl, hi, hb, hb2⟩; refine ⟨_, rfl, ?_⟩; replace HB := Aside0.mk (hb); have HI215 := Aside0.mk (hi); have NB215_212 := Aside0.mk (IsS72.ne_blk hi (blk_below (g := gb212) (o := .cells #[.bool false, .bool false, .int .i64 0, .int .i64 0, .int .i64 0, .slice none 0 0] 25 (0, 0)) (tH BK212.out) hb2) (by decide)); have NB212_215 := Aside0.mk (Ne.symm (IsS72.ne_blk hi (blk_below (g := gb212) (o := .cells #[.bool false, .bool false, .int .i64 0, .int .i64 0, .int .i64 0, .slice none 0 0] 25 (0, 0)) (tH BK212.out) hb2) (by decide))); replace BK212 := Aside0.mk (blk_below (g := gb212) (o := .cells #[.bool false, .bool false, .int .i64 0, .int .i64 0, .int .i64 0, .slice none 0 0] 25 (0, 0)) (tH BK212.out) hb2); (try clear hb); (try clear hb2); (try clear hk); (try clear hi)) | ((with_reducible refine gate_callee (f := 24) rfl ?_); refine goesL_ (some 10) rfl rfl Tryd.func24 (by kernel_rfl) rfl #[.pointer (some ⟨g215, 0, none⟩), .int .i64 40] rfl tq ?_; (with_reducible refine (spec_l6Rd_pick.calls k g215 t213 t214 40 t216 t217 w _ ?side1 ?side2 A3.out).mono ?_); (case side1 => repeat (first | (with_reducible first | exact HI215.out | apply IsS72.alloc | apply IsS72.drewN | apply IsS72.drew | apply IsS72.set_1 | refine IsS72.far ?_ NB215_212.out _) | exact HI215.out)); (case side2 => repeat (first | (with_reducible first | exact HB.out | apply below_alloc | apply pw_below_drewN | apply below_drew1 | refine below_set ?_ (IsS72.ge HI215.out) | refine below_set ?_ GE212.out) | exact HB.out)); rintro e w44 ⟨rfl, hi, hb, hk⟩; refine ⟨_, rfl, ?_⟩; replace BK212 := tBk BK212 hk NB212_215; replace HB := Aside0.mk (hb); replace HI215 := Aside0.mk (hi); (try clear hb); (try clear hb2); (try clear hk); (try clear hi)) | ((with_reducible refine gate_callee (f := 23) rfl ?_); refine goesL_ (some 11) rfl rfl Tryd.func23 (by kernel_rfl) rfl #[.pointer (some ⟨g215, 0, none⟩), .int .i64 t216] rfl tq ?_; (with_reducible refine (spec_l91Batch.calls k g215 t213 t217 t216 t218 t219 t220 t221 t222 t223 t226 w _ ?side1 ?side2 A4.out).mono ?_); (case side1 => repeat (first | (with_reducible first | exact HI215.out | apply IsS72.alloc | apply IsS72.drewN | apply IsS72.drew | apply IsS72.set_1 | refine IsS72.far ?_ NB215_212.out _) | exact HI215.out)); (case side2 => repeat (first | (with_reducible first | exact HB.out | apply below_alloc | apply pw_below_drewN | apply below_drew1 | refine below_set ?_ (IsS72.ge HI215.out) | refine below_set ?_ GE212.out) | exact HB.out)); rintro e w45 ⟨v224, rfl, ho0, hi, hb, hk⟩; have u_v224 := tsv Tryd.prog v224 ho0; refine ⟨_, rfl, ?_⟩; have HO225 := Aside0.mk (Kd.N_lower (Kd.N_mono (ok' := fun k_ => (w.heap.size ≤ k_) ∧ k_ ≠ gb212 ∧ k_ ≠ g215) ho0 (fun k_ hk_ => ⟨(Nat.le_trans (below_size (by repeat (first | (with_reducible first | exact HB.out | apply below_alloc | apply pw_below_drewN | apply below_drew1 | refine below_set ?_ (IsS72.ge HI215.out) | refine below_set ?_ GE212.out) | exact HB.out))) hk_), (tfB BK212 k_ hk_), (IsS72.fresh (by repeat (first | (with_reducible first | exact HI215.out | apply IsS72.alloc | apply IsS72.drewN | apply IsS72.drew | apply IsS72.set_1 | refine IsS72.far ?_ NB215_212.out _) | exact HI215.out)) k_ hk_)⟩)) (below_size (by repeat (first | (with_reducible first | exact HB.out | apply below_alloc | apply pw_below_drewN | apply below_drew1 | refine below_set ?_ (IsS72.ge HI215.out) | refine below_set ?_ GE212.out) | exact HB.out)))); replace BK212 := tBk BK212 hk NB212_215; replace HB := Aside0.mk (hb); replace HI215 := Aside0.mk (hi); (try clear hb); (try clear hb2); (try clear hk); (try clear hi); (try clear ho0)) | ((with_reducible refine gate_dst (N := 5) rfl ?_); refine box_event ?hg (N := 5) ?hd (cs := #[.bool false, .bool false, .int .i64 0, .int .i64 0, .int .i64 0, .slice none 0 0]) (t := 25) ?hr ?_; (case hd => rfl); (case hg => rfl); (case hr => first | (go_simp; done) | (go_simp; rfl)); intro gb227 hg w46 hbox hb; replace HO225 := tNB HO225 hg hb; have BK227 := Aside0.mk (hbox); have GW227 := Aside0.mk ((by rw [hg]; exact (below_size (by repeat (first | (with_reducible first | exact HB.out | apply below_alloc | apply pw_below_drewN | apply below_drew1 | refine below_set ?_ (IsS72.ge HI215.out) | refine below_set ?_ GE212.out) | exact HB.out))) : w.heap.size ≤ gb227)); have GE227 := Aside0.mk ((by rw [hg]; exact (below_size (by repeat (first | (with_reducible first | exact HB.out | apply below_alloc | apply pw_below_drewN | apply below_drew1 | refine below_set ?_ (IsS72.ge HI215.out) | refine below_set ?_ GE212.out) | exact HB.out))) : w.heap.size ≤ gb227)); replace HB := Aside0.mk (below_step (by repeat (first | (with_reducible first | exact HB.out | apply below_alloc | apply pw_below_drewN | apply below_drew1 | refine below_set ?_ (IsS72.ge HI215.out) | refine below_set ?_ GE212.out) | exact HB.out)) hb); have NB212_227 := tlt BK212 hg; have NB227_212 := tgt BK212 hg; replace BK212 := tBb BK212 hb; have NB215_227 := Aside0.mk ((by rw [hg]; exact Nat.ne_of_lt (IsS72.lt (show IsS72 w _ g215 t213 t226 from by repeat (first | (with_reducible first | exact HI215.out | apply IsS72.alloc | apply IsS72.drewN | apply IsS72.drew | apply IsS72.set_1 | refine IsS72.far ?_ NB215_212.out _) | exact HI215.out))) : g215 ≠ gb227)); have NB227_215 := Aside0.mk ((by rw [hg]; exact Nat.ne_of_gt (IsS72.lt (show IsS72 w _ g215 t213 t226 from by repeat (first | (with_reducible first | exact HI215.out | apply IsS72.alloc | apply IsS72.drewN | apply IsS72.drew | apply IsS72.set_1 | refine IsS72.far ?_ NB215_212.out _) | exact HI215.out))) : gb227 ≠ g215)); replace HI215 := Aside0.mk (IsS72.below (by repeat (first | (with_reducible first | exact HI215.out | apply IsS72.alloc | apply IsS72.drewN | apply IsS72.drew | apply IsS72.set_1 | refine IsS72.far ?_ NB215_212.out _) | exact HI215.out)) hb); clear hb hbox hg; have hnb47 := NB227_212.out; have hnc47 := NB212_227.out; have hnb48 := NB227_215.out; have hnc48 := NB215_227.out; obtain ⟨hcz49_0, hcz49_1, hcz49_2, hcz49_3, hcz49_4, hcz49_5, hfz49_0, hfz49_1, hfz49_2, hfz49_3, hfz49_4, hfz49_5⟩ := cells6 BK227.out; obtain ⟨Ao50, co50, eo50⟩ := Kd.N_slice HO225.out; subst eo50) | ((with_reducible refine gate_callee (f := 24) rfl ?_); refine goesL_ (some 13) rfl rfl Tryd.func24 (by kernel_rfl) rfl #[.pointer (some ⟨g215, 0, none⟩), .int .i64 3] rfl tq ?_; (with_reducible refine (spec_l6Rd_pick.calls k g215 t213 t226 3 t228 t229 w _ ?side1 ?side2 A5.out).mono ?_); (case side1 => repeat (first | (with_reducible first | exact HI215.out | apply IsS72.alloc | apply IsS72.drewN | apply IsS72.drew | apply IsS72.set_1 | refine IsS72.far ?_ NB215_212.out _ | refine IsS72.far ?_ NB215_227.out _) | exact HI215.out)); (case side2 => repeat (first | (with_reducible first | exact HB.out | apply below_alloc | apply pw_below_drewN | apply below_drew1 | refine below_set ?_ (IsS72.ge HI215.out) | refine below_set ?_ GE212.out | refine below_set ?_ GE227.out) | exact HB.out)); rintro e w51 ⟨rfl, hi, hb, hk⟩; refine ⟨_, rfl, ?_⟩; replace BK212 := tBk BK212 hk NB212_215; replace HO225 := tNk HO225 hk; replace BK227 := tBq (o' := .cells #[.bool t218, .bool t219, .int .i64 t220, .int .i64 t221, .int .i64 t222, .slice Ao50 t223.length co50] 25 (0, 0)) BK227 hk NB227_215; replace HB := Aside0.mk (hb); replace HI215 := Aside0.mk (hi); (try clear hb); (try clear hb2); (try clear hk); (try clear hi)))
   replace HO225 := Aside0.mk (Kd.N_drew HO225.out)
   replace BK212 := Aside0.mk (blk_drew BK212.out)
   replace BK227 := Aside0.mk (blk_drew BK227.out)
   replace HI215 := Aside0.mk (IsS72.drew HI215.out)
   replace HB := Aside0.mk (below_drew1 HB.out)
   have p239 : 0 ≤ (0 : Int) := (by omega)
   have q239 : 0 < (t223.length : Int) := td
   obtain ⟨ad239, A239_3, c239_3, A239_5, c239_5, e239, hx239_0, hx239_1, hx239_2, hx239_3, hx239_4, hx239_5, hl239_3, hi239_3, hl239_5, hi239_5⟩ := at_T41 (Kd.N_reads' HO225.out).2.2 0 p239 q239
   cases e239
   obtain ⟨ce239, hce239, hMe239, hcc239⟩ := Kd.N_get HO225.out z41 0 p239 (by first | exact q239 | exact td | (have e_ := (Kd.N_reads' HO225.out).1; omega))
   obtain ⟨ua239_3, uc239_3, ua239_5, uc239_5, rfl, ul239_3, ge239_3, ul239_5, ge239_5⟩ := k41_openF hMe239
   have hv239_3 := hcc239 3 _ rfl
   rw [add_field _ _ 3 (by omega)] at hv239_3
   replace hv239_3 := Option.some.inj (hv239_3.symm.trans hx239_3)
   injection hv239_3 with hva_ hvn_ hvc_
   rw [hva_] at ge239_3
   rw [hvc_] at ul239_3
   have HL239_3 := Aside0.mk (show Kd.V (Kd.int .i64) 3 _ w.heap.size _ _ ((rd_T41 t223 0).f3) from Kd.V_mk ul239_3 ge239_3)
   clear hva_ hvn_ hvc_ ge239_3 ul239_3
   have hv239_5 := hcc239 5 _ rfl
   rw [add_field _ _ 5 (by omega)] at hv239_5
   replace hv239_5 := Option.some.inj (hv239_5.symm.trans hx239_5)
   injection hv239_5 with hva_ hvn_ hvc_
   rw [hva_] at ge239_5
   rw [hvc_] at ul239_5
   have HL239_5 := Aside0.mk (show Kd.V (Kd.int .i64) 3 _ w.heap.size _ _ ((rd_T41 t223 0).f5) from Kd.V_mk ul239_5 ge239_5)
   clear hva_ hvn_ hvc_ ge239_5 ul239_5
   clear hcc239 hce239
   have qi239 : (0 < t223.length) = True := eq_true (by omega)
   (try rw [show ((0 : Int)).toNat = 0 from rfl] at hx239_0)
   (try rw [show 0 * 6 = 0 from rfl] at hx239_0)
   (try rw [Addr.add_zero'] at hx239_0)
   (try rw [show ((0 : Int)).toNat = 0 from rfl] at hx239_1)
   (try rw [show 0 * 6 = 0 from rfl] at hx239_1)
   (try rw [Addr.add_zero'] at hx239_1)
   (try rw [show ((0 : Int)).toNat = 0 from rfl] at hx239_2)
   (try rw [show 0 * 6 = 0 from rfl] at hx239_2)
   (try rw [Addr.add_zero'] at hx239_2)
   (try rw [show ((0 : Int)).toNat = 0 from rfl] at hx239_3)
   (try rw [show 0 * 6 = 0 from rfl] at hx239_3)
   (try rw [Addr.add_zero'] at hx239_3)
   (try rw [show ((0 : Int)).toNat = 0 from rfl] at hx239_4)
   (try rw [show 0 * 6 = 0 from rfl] at hx239_4)
   (try rw [Addr.add_zero'] at hx239_4)
   (try rw [show ((0 : Int)).toNat = 0 from rfl] at hx239_5)
   (try rw [show 0 * 6 = 0 from rfl] at hx239_5)
   (try rw [Addr.add_zero'] at hx239_5)
   have HR239_3 := Aside0.mk hi239_3
   have HC239_3 := Aside0.mk hl239_3
   clear hi239_3 hl239_3
   have HR239_5 := Aside0.mk hi239_5
   have HC239_5 := Aside0.mk hl239_5
   clear hi239_5 hl239_5
   replace p239 := eq_true p239
   replace q239 := eq_true q239
   refine start_ (n := 15) (S := fun w' => w'.cell? ⟨gb227, 0, none⟩ = some (.bool t218) ∧ w'.cell? ⟨gb227, 1, none⟩ = some (.bool t219) ∧ w'.cell? ⟨gb227, 2, none⟩ = some (.int .i64 t220) ∧ w'.cell? ⟨gb227, 3, none⟩ = some (.int .i64 t221) ∧ w'.cell? ⟨gb227, 4, none⟩ = some (.int .i64 t222) ∧ w'.cell? ⟨gb227, 5, none⟩ = some (.slice (some ad239) t223.length co50) ∧ w'.cell? ad239 = some (.int .i64 ((rd_T41 t223 0).f0)) ∧ w'.cell? ⟨ad239.block, ad239.off + 1, none⟩ = some (.int .i64 ((rd_T41 t223 0).f1)) ∧ w'.cell? ⟨ad239.block, ad239.off + 2, none⟩ = some (.bool ((rd_T41 t223 0).f2)) ∧ w'.cell? ⟨ad239.block, ad239.off + 3, none⟩ = some (.slice A239_3 ((rd_T41 t223 0).f3).length c239_3) ∧ w'.cell? ⟨ad239.block, ad239.off + 4, none⟩ = some (.bool ((rd_T41 t223 0).f4)) ∧ w'.cell? ⟨ad239.block, ad239.off + 5, none⟩ = some (.slice A239_5 ((rd_T41 t223 0).f5).length c239_5)) (ds := []) #[false, false, false, false, false, false, false, false, false, false, false, false, false, false, false] (by kernel_rfl) rfl rfl ⟨(blk_cell BK227.out 0).trans rfl, (blk_cell BK227.out 1).trans rfl, (blk_cell BK227.out 2).trans rfl, (blk_cell BK227.out 3).trans rfl, (blk_cell BK227.out 4).trans rfl, (blk_cell BK227.out 5).trans rfl, hx239_0, hx239_1, hx239_2, hx239_3, hx239_4, hx239_5⟩ (fun hHeld => ?_); refine with_tabW spec_DrawBatchCut.tab5 spec_DrawBatchCut.bits5 (fun HT_ HW_ => ?_)
   generalize w51.drew = w52 at HO225 BK212 BK227 HI215 HB HL239_3 HL239_5 HR239_3 HR239_5 hx239_0 hx239_1 hx239_2 hx239_3 hx239_4 hx239_5 hHeld ⊢
   refine pure_ (i := 1) (N := some 23) (v := ?_) (a' := ?_) #[false, true, false, false, false, false, false, false, false, false, false, false, false, false, false] rfl rfl (any_of HT_.out (by kernel_rfl)) (fun _ _ _ h => h) (Or.inl ⟨by rfl, ?_⟩) ?_ ?_
   rotate_left
   ·intro w'
    go_simp
    with_reducible rfl
   rotate_left
   ·simp only [Act.put, List.setIfInBounds_toArray, List.set_cons_zero, List.set_cons_succ, i64_w, i32_w]
    rfl
   refine pure_ (i := 6) (N := some 28) (v := ?_) (a' := ?_) #[false, true, false, false, false, false, true, false, false, false, false, false, false, false, false] rfl rfl (any_of HT_.out (by kernel_rfl)) (fun _ _ _ h => h) (Or.inl ⟨by rfl, ?_⟩) ?_ ?_
   rotate_left
   ·intro w'
    go_simp
    with_reducible rfl
   rotate_left
   ·simp only [Act.put, List.setIfInBounds_toArray, List.set_cons_zero, List.set_cons_succ, i64_w, i32_w]
    rfl
   refine pure_ (i := 7) (N := some 29) (v := ?_) (a' := ?_) #[false, true, false, false, false, false, true, true, false, false, false, false, false, false, false] rfl rfl (any_of HT_.out (by kernel_rfl)) (fun _ _ _ h => h) (Or.inl ⟨by rfl, ?_⟩) ?_ ?_
   rotate_left
   ·intro w'
    go_simp
    with_reducible rfl
   rotate_left
   ·simp only [Act.put, List.setIfInBounds_toArray, List.set_cons_zero, List.set_cons_succ, i64_w, i32_w]
    rfl
   refine take_ (i := 0) (N := some 22) (v := ?_) (a' := ?_) #[true, true, false, false, false, false, true, true, false, false, false, false, false, false, false] rfl rfl (take_ofW HT_.out HW_.out (by kernel_rfl)) (fun _ _ _ h => h) (Or.inl ⟨by rfl, ?_⟩) hHeld ?_ ?_
   rotate_left
   ·rintro w' ⟨s0, s1, s2, s3, s4, s5, s6, s7, s8, s9, s10, s11⟩
    go_simp
    with_reducible rfl
   rotate_left
   ·simp only [Act.put, List.setIfInBounds_toArray, List.set_cons_zero, List.set_cons_succ, i64_w, i32_w]
    rfl
   refine take_ (i := 2) (N := some 24) (v := ?_) (a' := ?_) #[true, true, true, false, false, false, true, true, false, false, false, false, false, false, false] rfl rfl (take_ofW HT_.out HW_.out (by kernel_rfl)) (fun _ _ _ h => h) (Or.inl ⟨by rfl, ?_⟩) hHeld ?_ ?_
   rotate_left
   ·rintro w' ⟨s0, s1, s2, s3, s4, s5, s6, s7, s8, s9, s10, s11⟩
    go_simp
    with_reducible rfl
   rotate_left
   ·simp only [Act.put, List.setIfInBounds_toArray, List.set_cons_zero, List.set_cons_succ, i64_w, i32_w]
    rfl
   refine pure_ (i := 3) (N := some 25) (v := ?_) (a' := ?_) #[true, true, true, true, false, false, true, true, false, false, false, false, false, false, false] rfl rfl (any_of HT_.out (by kernel_rfl)) (fun _ _ _ h => h) (Or.inl ⟨by rfl, ?_⟩) ?_ ?_
   rotate_left
   ·intro w'
    go_simp
    with_reducible rfl
   rotate_left
   ·simp only [Act.put, List.setIfInBounds_toArray, List.set_cons_zero, List.set_cons_succ, i64_w, i32_w]
    rfl
   refine pure_ (i := 4) (N := some 26) (v := ?_) (a' := ?_) #[true, true, true, true, true, false, true, true, false, false, false, false, false, false, false] rfl rfl (any_of HT_.out (by kernel_rfl)) (fun _ _ _ h => h) (Or.inl ⟨by rfl, ?_⟩) ?_ ?_
   rotate_left
   ·intro w'
    go_simp
    with_reducible rfl
   rotate_left
   ·simp only [Act.put, List.setIfInBounds_toArray, List.set_cons_zero, List.set_cons_succ, i64_w, i32_w]
    rfl
   refine take_ (i := 5) (N := some 27) (v := ?_) (a' := ?_) #[true, true, true, true, true, true, true, true, false, false, false, false, false, false, false] rfl rfl (take_ofW HT_.out HW_.out (by kernel_rfl)) (fun _ _ _ h => h) (Or.inl ⟨by rfl, ?_⟩) hHeld ?_ ?_
   rotate_left
   ·rintro w' ⟨s0, s1, s2, s3, s4, s5, s6, s7, s8, s9, s10, s11⟩
    go_simp
    with_reducible rfl
   rotate_left
   ·simp only [Act.put, List.setIfInBounds_toArray, List.set_cons_zero, List.set_cons_succ, i64_w, i32_w]
    rfl
   refine take_ (i := 8) (N := some 30) (v := ?_) (a' := ?_) #[true, true, true, true, true, true, true, true, true, false, false, false, false, false, false] rfl rfl (take_ofW HT_.out HW_.out (by kernel_rfl)) (fun _ _ _ h => h) (Or.inl ⟨by rfl, ?_⟩) hHeld ?_ ?_
   rotate_left
   ·rintro w' ⟨s0, s1, s2, s3, s4, s5, s6, s7, s8, s9, s10, s11⟩
    go_simp
    with_reducible rfl
   rotate_left
   ·simp only [Act.put, List.setIfInBounds_toArray, List.set_cons_zero, List.set_cons_succ, i64_w, i32_w]
    rfl
   refine pure_ (i := 9) (N := some 31) (v := ?_) (a' := ?_) #[true, true, true, true, true, true, true, true, true, true, false, false, false, false, false] rfl rfl (any_of HT_.out (by kernel_rfl)) (fun _ _ _ h => h) (Or.inl ⟨by rfl, ?_⟩) ?_ ?_
   rotate_left
   ·intro w'
    go_simp
    with_reducible rfl
   rotate_left
   ·simp only [Act.put, List.setIfInBounds_toArray, List.set_cons_zero, List.set_cons_succ, i64_w, i32_w]
    rfl
   refine pure_ (i := 10) (N := some 32) (v := ?_) (a' := ?_) #[true, true, true, true, true, true, true, true, true, true, true, false, false, false, false] rfl rfl (any_of HT_.out (by kernel_rfl)) (fun _ _ _ h => h) (Or.inl ⟨by rfl, ?_⟩) ?_ ?_
   rotate_left
   ·intro w'
    go_simp
    with_reducible rfl
   rotate_left
   ·simp only [Act.put, List.setIfInBounds_toArray, List.set_cons_zero, List.set_cons_succ, i64_w, i32_w]
    rfl
   refine one_ (i := 11) (N := some 33) #[true, true, true, true, true, true, true, true, true, true, true, true, false, false, false] rfl rfl (one_of HT_.out (by kernel_rfl)) (by decide) (fun K hK => ?_)
   refine goes_ Tryd.func24 (by kernel_rfl) rfl #[.pointer (some ⟨g215, 0, none⟩), .int .i64 (wrap64 ((t223.length : Int) + 1))] (by rfl) rfl rfl tq ?_
   with_reducible refine (spec_l6Rd_pick.calls k g215 t213 t229 (wrap64 ((t223.length : Int) + 1)) t240 t241 w _ ?side1 ?side2 A41.out).mono ?_
   (case side1 => repeat (first | (with_reducible first | exact HI215.out | apply IsS72.alloc | apply IsS72.drewN | apply IsS72.drew | apply IsS72.set_1 | refine IsS72.far ?_ NB215_212.out _ | refine IsS72.far ?_ NB215_227.out _) | exact HI215.out))
   (case side2 => repeat (first | (with_reducible first | exact HB.out | apply below_alloc | apply pw_below_drewN | apply below_drew1 | refine below_set ?_ (IsS72.ge HI215.out) | refine below_set ?_ GE212.out | refine below_set ?_ GE227.out) | exact HB.out))
   rintro e w53 ⟨rfl, hi, hb, hk⟩
   have HS6_ := keep_cell hk (hHeld.2.2.2.2.2.2.1) (tow (Kd.own_blk (IsS72.own_neN HI215.out HO225.out (by decide))))
   have HS7_ := keep_cell hk (hHeld.2.2.2.2.2.2.2.1) (tow (Kd.own_blk (IsS72.own_neN HI215.out HO225.out (by decide))))
   have HS8_ := keep_cell hk (hHeld.2.2.2.2.2.2.2.2.1) (tow (Kd.own_blk (IsS72.own_neN HI215.out HO225.out (by decide))))
   have HS9_ := keep_cell hk (hHeld.2.2.2.2.2.2.2.2.2.1) (tow (Kd.own_blk (IsS72.own_neN HI215.out HO225.out (by decide))))
   have HS10_ := keep_cell hk (hHeld.2.2.2.2.2.2.2.2.2.2.1) (tow (Kd.own_blk (IsS72.own_neN HI215.out HO225.out (by decide))))
   have HS11_ := keep_cell hk (hHeld.2.2.2.2.2.2.2.2.2.2.2) (tow (Kd.own_blk (IsS72.own_neN HI215.out HO225.out (by decide))))
   refine ⟨_, rfl, ?_⟩
   replace BK212 := tBk BK212 hk NB212_215
   replace HO225 := tNk HO225 hk
   replace BK227 := tBk BK227 hk NB227_215
   replace HL239_3 := tVk HL239_3 hk
   replace HL239_5 := tVk HL239_5 hk
   replace HB := Aside0.mk (hb)
   replace HI215 := Aside0.mk (hi)
   (try clear hb)
   (try clear hb2)
   (try clear hk)
   (try clear hi)
   refine hK.out _ _ ⟨(blk_cell BK227.out 0).trans rfl, (blk_cell BK227.out 1).trans rfl, (blk_cell BK227.out 2).trans rfl, (blk_cell BK227.out 3).trans rfl, (blk_cell BK227.out 4).trans rfl, (blk_cell BK227.out 5).trans rfl, HS6_, HS7_, HS8_, HS9_, HS10_, HS11_⟩ (fun hHeld => ?_)
   clear hK K
   refine norm_ (a' := ?_) ?_ ?_
   rotate_left
   ·show Act.put _ (some 33) _ = _
    simp only [Act.put, List.setIfInBounds_toArray, List.set_cons_zero, List.set_cons_succ, i64_w, i32_w]
    rfl
   refine pure_ (i := 12) (N := some 34) (v := ?_) (a' := ?_) #[true, true, true, true, true, true, true, true, true, true, true, true, true, false, false] rfl rfl (any_of HT_.out (by kernel_rfl)) (fun _ _ _ h => h) (Or.inl ⟨by rfl, ?_⟩) ?_ ?_
   rotate_left
   ·intro w'
    go_simp
    with_reducible rfl
   rotate_left
   ·simp only [Act.put, List.setIfInBounds_toArray, List.set_cons_zero, List.set_cons_succ, i64_w, i32_w]
    rfl
   refine one_ (i := 13) (N := none) #[true, true, true, true, true, true, true, true, true, true, true, true, true, true, false] rfl rfl (one_of HT_.out (by kernel_rfl)) (by decide) (fun K hK => ?_)
   have hs54 : w53.cell? ⟨gb212, 0, none⟩ = some (.bool false) := (blk_cell BK212.out 0).trans rfl
   have hfs54 := blk_frozen BK212.out 0
   have hns54_1 := NB227_212.out
   have hms54_1 := NB212_227.out
   have hs55 : w53.cell? ⟨gb212, 1, none⟩ = some (.bool false) := (blk_cell BK212.out 1).trans rfl
   have hfs55 := blk_frozen BK212.out 1
   have hns55_1 := NB227_212.out
   have hms55_1 := NB212_227.out
   have hs56 : w53.cell? ⟨gb212, 2, none⟩ = some (.int .i64 0) := (blk_cell BK212.out 2).trans rfl
   have hfs56 := blk_frozen BK212.out 2
   have hns56_1 := NB227_212.out
   have hms56_1 := NB212_227.out
   have hs57 : w53.cell? ⟨gb212, 3, none⟩ = some (.int .i64 0) := (blk_cell BK212.out 3).trans rfl
   have hfs57 := blk_frozen BK212.out 3
   have hns57_1 := NB227_212.out
   have hms57_1 := NB212_227.out
   have hs58 : w53.cell? ⟨gb212, 4, none⟩ = some (.int .i64 0) := (blk_cell BK212.out 4).trans rfl
   have hfs58 := blk_frozen BK212.out 4
   have hns58_1 := NB227_212.out
   have hms58_1 := NB212_227.out
   have hs59 : w53.cell? ⟨gb212, 5, none⟩ = some (.slice none 0 0) := (blk_cell BK212.out 5).trans rfl
   have hfs59 := blk_frozen BK212.out 5
   have hns59_1 := NB227_212.out
   have hms59_1 := NB212_227.out
   refine skip_ (w1 := ?_) (by rfl) rfl ?_ ?_
   rotate_left
   ·go_simp
    rfl
   refine hK.out _ _ ⟨(tcg NB227_212.out hHeld.1), (tcg NB227_212.out hHeld.2.1), (tcg NB227_212.out hHeld.2.2.1), (tcg NB227_212.out hHeld.2.2.2.1), (tcg NB227_212.out hHeld.2.2.2.2.1), (tcg NB227_212.out hHeld.2.2.2.2.2.1), (tcg (Kd.own_blk (Kd.N_away HO225.out (fun _ hk => hk.1.2.1))) hHeld.2.2.2.2.2.2.1), (tcg (Kd.own_blk (Kd.N_away HO225.out (fun _ hk => hk.1.2.1))) hHeld.2.2.2.2.2.2.2.1), (tcg (Kd.own_blk (Kd.N_away HO225.out (fun _ hk => hk.1.2.1))) hHeld.2.2.2.2.2.2.2.2.1), (tcg (Kd.own_blk (Kd.N_away HO225.out (fun _ hk => hk.1.2.1))) hHeld.2.2.2.2.2.2.2.2.2.1), (tcg (Kd.own_blk (Kd.N_away HO225.out (fun _ hk => hk.1.2.1))) hHeld.2.2.2.2.2.2.2.2.2.2.1), (tcg (Kd.own_blk (Kd.N_away HO225.out (fun _ hk => hk.1.2.1))) hHeld.2.2.2.2.2.2.2.2.2.2.2)⟩ (fun hHeld => ?_)
   clear hK K
   refine pure_ (i := 14) (N := some 3) (v := ?_) (a' := ?_) #[true, true, true, true, true, true, true, true, true, true, true, true, true, true, true] rfl rfl (any_of HT_.out (by kernel_rfl)) (fun _ _ _ h => h) (Or.inl ⟨by rfl, ?_⟩) ?_ ?_
   rotate_left
   ·intro w'
    go_simp
    with_reducible rfl
   rotate_left
   ·simp only [Act.put, List.setIfInBounds_toArray, List.set_cons_zero, List.set_cons_succ, i64_w, i32_w]
    rfl
   refine done_ (done_of HT_.out (by kernel_rfl)) ?_
   try go_wp2
   refine bodyPost_ret (results_ct rfl _ _ gb212 25 #[.bool t218, .bool t219, .int .i64 t220, .int .i64 t221, .int .i64 t222, .slice (some ad239) t223.length co50] (0, 0) _ rfl (tP BK212.out) Tryd.underlying25 rfl (by kernel_rfl)) rfl ?_
   exact ⟨_, by first | rfl | (simp [errW_none, errW_some] <;> rfl) | (simp [*, errW_none, errW_some] <;> rfl), tNm HO225.out, by repeat (first | (with_reducible first | exact HB.out | apply below_alloc | apply pw_below_drewN | apply below_drew1 | refine below_set ?_ (IsS72.ge HI215.out) | refine below_set ?_ GE212.out | refine below_set ?_ GE227.out) | exact HB.out)⟩
  ·rw [if_neg c40] at H
   exact absurd H (by simp)

end Go.Proofs.YtahenocndacjeaaDoor.G

namespace Go.Proofs.YtahenocndacjeaaDoor.G
open Go.RowKit Go.Extern.Stop Go.Stop Go.Extern
set_option linter.unusedVariables false
theorem isTypeOf (v : Value) (w : World) : (Extern.ReflectliteType.typeOf #[.iface 106 v]).run Tryd.prog w = .ok (.iface 94 (.agg #[.pointer (some ⟨2, 106, none⟩)])) w := by kernel_rfl
theorem isCallComparable (w : World) : (callFunc 87 #[.agg #[.pointer (some ⟨2, 106, none⟩)]]).run Tryd.prog w = .ok (.value (.bool true)) w := by kernel_rfl
theorem isMethodComparable (v : Value) (w : World) : (Go.method 243 94 v "Comparable").run Tryd.prog w = .ok (87, v) w := by kernel_rfl
theorem isComp : (Tryd.prog.info? 106).map (·.comparable) = some true := by kernel_rfl
set_option maxRecDepth 100000 in
set_option maxHeartbeats 400000 in
/-- errors.Is(x, x), x a pointer to an errors.errorString. -/
theorem is_same (a : Addr) (w : World) :
    Calls Tryd.prog 27 #[.iface 106 (.pointer (some a)), .iface 106 (.pointer (some a))] w fun e w' => e = .returned (.bool true) ∧ w' = w := by
  obtain ⟨i, hi, hcmp⟩ := Option.map_eq_some_iff.1 isComp
  have h8 := @run_callFunc_extern Tryd.prog 44 _ Extern.ReflectliteType.typeOf Tryd.func44 (by kernel_rfl) (by kernel_rfl) (by kernel_rfl) (by kernel_rfl)
  have tT := isTypeOf
  have cT := isCallComparable
  have mR := isMethodComparable
  have hz : ∃ j, Tryd.prog.info? 131 = some j := by
    have h : (Tryd.prog.info? 131).isSome = true := by kernel_rfl
    exact Option.isSome_iff_exists.1 h
  obtain ⟨j, hj⟩ := hz
  have heq := run_eql_iface_ptr_same (P := Tryd.prog) w a Tryd.underlying56 Tryd.underlying106 hi hcmp hj
  go_enter Tryd.func27, Tryd.ntmps27
  go_wp2
  refine wp_loop_rounds 1 ?_
  rw [rounds_succ]
  go_wp2
  go_ret
  exact ⟨rfl, rfl⟩
/-- errors.Is(nil, x). -/
theorem is_nil (b : Addr) (w : World) :
    Calls Tryd.prog 27 #[.nilIface, .iface 106 (.pointer (some b))] w fun e w' => e = .returned (.bool false) ∧ w' = w := by
  have hn := run_eql_iface_nil_left (P := Tryd.prog) w 106 (.pointer (some b)) Tryd.underlying56
  go_enter Tryd.func27, Tryd.ntmps27
  go_wp2
  go_ret
  exact ⟨rfl, rfl⟩
def errors_Is.f (a b : Option Int) : Option Bool := match b with
  | none => none
  | some y => match a with
    | none => some false
    | some x => if x = y then some true else none
theorem errors_Is.calls [ErrA] (a0 a1 : Option Int) (r : Bool) (w : World) (h : errors_Is.f a0 a1 = some r) :
    Calls Tryd.prog 27 #[errW a0, errW a1] w fun e w' => e = .returned (.bool r) ∧ Below w.heap.size w w' := by
  cases a1 with
  | none => exact absurd h (by simp [errors_Is.f])
  | some y =>
    cases a0 with
    | none =>
      obtain rfl : false = r := by simpa [errors_Is.f] using h
      exact (is_nil _ w).mono fun e w' ⟨he, hw⟩ => ⟨he, hw ▸ Below.refl _ _⟩
    | some x =>
      by_cases hxy : x = y
      · subst hxy
        obtain rfl : true = r := by simpa [errors_Is.f] using h
        exact (is_same _ w).mono fun e w' ⟨he, hw⟩ => ⟨he, hw ▸ Below.refl _ _⟩
      · exact absurd h (by simp [errors_Is.f, hxy])
end Go.Proofs.YtahenocndacjeaaDoor.G

namespace Go.Proofs.YtahenocndacjeaaDoor.G
open Go.RowKit Go.Proofs.YtahenocndacjeaaDoorW.PrintWords Go.Proofs.YtahenocndacjeaaDoorW.PrintLast Go.Proofs.YtahenocndacjeaaDoorW.PrintMore
set_option linter.unusedVariables false
set_option linter.unusedSimpArgs false
def slices_Clone_int_int.f (l0 : List Int) : Option (List Int) := if l0.length < 17592186044416 then some l0 else none
set_option maxRecDepth 100000 in
set_option maxHeartbeats 4000000 in
theorem slices_Clone_int_int.calls (A0 : Option Addr) (c0 : Nat) (l0 r : List Int) (w : World) (hr0 : Kd.C (Kd.int .i64) w A0 l0.length l0) (hc0 : l0.length ≤ c0) (h : slices_Clone_int_int.f l0 = some r) :
    Calls Tryd.prog 59 #[.slice A0 l0.length c0] w fun e w' => ∃ v0_ : Value, e = .returned v0_ ∧ Kd.R (Kd.int .i64) 3 w' w.heap.size (fun _ => True) v0_ r ∧ Below w.heap.size w w' := by
  unfold slices_Clone_int_int.f at h
  by_cases hl : l0.length < 17592186044416
  case neg => rw [if_neg hl] at h; exact absurd h (by simp)
  rw [if_pos hl] at h
  obtain rfl := Option.some.inj h
  have HR := Aside0.mk hr0
  clear h hr0
  cases A0 with
  | none =>
    have hl0 : l0 = [] := by
      cases l0 with
      | nil => rfl
      | cons x l => exact absurd (HR.out.2.2 (by simp)) (by simp)
    subst hl0
    have he : ∀ w : World, (binOp .eql 39 (.slice none 0 c0) (.slice none 0 0)).run Tryd.prog w = .ok (.bool true) w := fun _ => rfl
    go_enter Tryd.func59, Tryd.ntmps59
    go_wp2
    go_ret
    exact ⟨_, rfl, Kd.R_nil _ _ _ _ _, Below.refl _ _⟩
  | some ad =>
    have he : ∀ w : World, (binOp .eql 39 (.slice (some ad) l0.length c0) (.slice none 0 0)).run Tryd.prog w = .ok (.bool false) w := fun _ => rfl
    go_enter Tryd.func59, Tryd.ntmps59
    go_wp2_with (first | ((with_reducible refine gate_dst (N := 5) rfl ?_); refine Kd.R_lit (Kd.int .i64) _ 3 ?hg (N := 5) ?hd (xs := ([] : List Int)) (inner := []) (ok := fun _ => True) (okp := fun _ => True) ?hr ?hp (fun _ hk => hk) trivial (Below.refl _ _) (Nat.le_refl _) (by simp) ?_; (case hd => rfl); (case hg => rfl); (case hr => first | (go_simp; done) | (go_simp; rfl)); (case hp => exact (Reps.none _ _)); intro v1 w1 ho1 hb1 hg1 hnew1; have HO := Aside0.mk ho1; have HB := Aside0.mk hb1; clear ho1 hb1 hg1 hnew1) | ((with_reducible refine gate_builtin (b := .append) (xs := #[.tmp 5, .tmp 6]) rfl ?_); at_builtin; refine Kd.R_append_rows (Kd.int .i64) (w0 := w) w.heap.size rfl (.tmp 5) (.tmp 6) 39 3 (.int .i64 0) 8 rfl Tryd.underlying39 (by kernel_rfl) rfl (by decide) (by omega) v1 [] l0 _ _ _ (fun _ => True) (fun _ => False) rfl rfl (Kd.R_lower HO.out (Nat.le_refl _)) (Kd.C_below HR.out HB.out) (fun _ _ h => h) (fun _ h => h.elim) (fun _ _ => trivial) HB.out (below_size HB.out) (by simp; omega) ?_; intro v2 w2 ho2 hb2 hg2 hat2; rw [List.nil_append] at ho2; have HO2 := Aside0.mk ho2; have HB2 := Aside0.mk hb2; clear ho2 hb2 hg2 hat2))
    go_ret
    exact ⟨_, rfl, HO2.out, HB2.out⟩
end Go.Proofs.YtahenocndacjeaaDoor.G

namespace Go.Proofs.YtahenocndacjeaaDoor.G
open Go.RowKit Go.Proofs.YtahenocndacjeaaDoorW.PrintWords Go.Proofs.YtahenocndacjeaaDoorW.PrintLast Go.Proofs.YtahenocndacjeaaDoorW.PrintMore
attribute [local go_sem] max2_int min2_int max_two min_two max_three min_three max_four min_four   -- for this text's walks alone
set_option linter.unusedVariables false
set_option linter.unusedSimpArgs false

def impl_Record_copyOf.f (a0_0 : Int) (a0_1 : Int) (a0_2 : Bool) (l0_3 : List Int) (a0_4 : Bool) (l0_5 : List Int) : Option (Int × Int × Bool × List Int × Bool × List Int) := (slices_Clone_int_int.f l0_3).bind fun t254 => ((slices_Clone_int_int.f l0_5).bind fun t257 => (some (a0_0, a0_1, a0_2, t254, a0_4, t257)))
set_option maxHeartbeats 8000000 in
set_option maxRecDepth 100000 in
theorem impl_Record_copyOf.calls (a0_0 : Int) (a0_1 : Int) (a0_2 : Bool) (A0_3 : Option Addr) (c0_3 : Nat) (l0_3 : List Int) (a0_4 : Bool) (A0_5 : Option Addr) (c0_5 : Nat) (l0_5 : List Int) (r1 : Int) (r2 : Int) (r3 : Bool) (r4 : List Int) (r5 : Bool) (r6 : List Int) (w : World) (hr0_3 : Kd.C (Kd.int .i64) w A0_3 l0_3.length l0_3) (hc0_3 : l0_3.length ≤ c0_3) (hr0_5 : Kd.C (Kd.int .i64) w A0_5 l0_5.length l0_5) (hc0_5 : l0_5.length ≤ c0_5) (h : impl_Record_copyOf.f a0_0 a0_1 a0_2 l0_3 a0_4 l0_5 = some (r1, r2, r3, r4, r5, r6)) :
  Calls Tryd.prog 43 #[.agg #[.int .i64 a0_0, .int .i64 a0_1, .bool a0_2, .slice A0_3 l0_3.length c0_3, .bool a0_4, .slice A0_5 l0_5.length c0_5]] w fun e w' => ∃ v3_ v5_ : Value, e = .returned (.agg #[.int .i64 r1, .int .i64 r2, .bool r3, v3_, .bool r5, v5_]) ∧ Kd.R (Kd.int .i64) 3 w' w.heap.size (fun k_ => some k_ ≠ (v5_ : Value).ownBlock) v3_ r4 ∧ Kd.R (Kd.int .i64) 3 w' w.heap.size (fun k_ => some k_ ≠ (v3_ : Value).ownBlock) v5_ r6 ∧ Below w.heap.size w w' := by
 have hu41 := Tryd.underlying41
 have HR0_3 := Aside0.mk hr0_3
 have HC0_3 := Aside0.mk hc0_3
 clear hr0_3 hc0_3
 have HR0_5 := Aside0.mk hr0_5
 have HC0_5 := Aside0.mk hc0_5
 clear hr0_5 hc0_5
 have HB := Aside0.mk (Below.refl w.heap.size w)
 have H : ((slices_Clone_int_int.f l0_3).bind fun t254 => ((slices_Clone_int_int.f l0_5).bind fun t257 => (some (a0_0, a0_1, a0_2, t254, a0_4, t257)))) = some (r1, r2, r3, r4, r5, r6) := h
 clear h
 replace H := tbe H
 obtain ⟨t254, A2, H⟩ := H
 replace H := tbe H
 obtain ⟨t257, A3, H⟩ := H
 simp only [Option.some.injEq, Prod.mk.injEq] at H
 obtain ⟨rfl, rfl, rfl, rfl, rfl, rfl⟩ := H
 go_enter Tryd.func43, Tryd.ntmps43
 go_wp2_with (first | ((with_reducible refine gate_dst (N := 1) rfl ?_); refine box_event ?hg (N := 1) ?hd (cs := #[.int .i64 a0_0, .int .i64 a0_1, .bool a0_2, .slice A0_3 l0_3.length c0_3, .bool a0_4, .slice A0_5 l0_5.length c0_5]) (t := 41) ?hr ?_; (case hd => rfl); (case hg => rfl); (case hr => first | (go_simp; done) | (go_simp; rfl)); intro gb252 hg w4 hbox hb; have BK252 := Aside0.mk (hbox); have GW252 := tge HB hg; have GE252 := tge HB hg; replace HB := tBs HB hb; clear hb hbox hg) | ((with_reducible refine gate_dst (N := 2) rfl ?_); refine box_event ?hg (N := 2) ?hd (cs := #[.int .i64 0, .int .i64 0, .bool false, .slice none 0 0, .bool false, .slice none 0 0]) (t := 41) ?hr ?_; (case hd => rfl); (case hg => rfl); (case hr => first | (go_simp; done) | (go_simp; rfl)); intro gb253 hg w5 hbox hb; have BK253 := Aside0.mk (hbox); have GW253 := tge HB hg; have GE253 := tge HB hg; replace HB := tBs HB hb; have NB252_253 := tlt BK252 hg; have NB253_252 := tgt BK252 hg; replace BK252 := tBb BK252 hb; clear hb hbox hg; have hnb6 := NB252_253.out; have hnc6 := NB253_252.out; obtain ⟨hcz7_0, hcz7_1, hcz7_2, hcz7_3, hcz7_4, hcz7_5, hfz7_0, hfz7_1, hfz7_2, hfz7_3, hfz7_4, hfz7_5⟩ := cells6 BK252.out) | ((with_reducible refine gate_callee (f := 59) rfl ?_); refine goesL_ (some 5) rfl rfl Tryd.func59 (by kernel_rfl) rfl #[.slice A0_3 l0_3.length c0_3] rfl tq ?_; (with_reducible refine (slices_Clone_int_int.calls _ _ l0_3 t254 _ ?side1 ?side2 A2.out).mono ?_); (case side1 => exact tC (Kd.C_below HR0_3.out HB.out)); (case side2 => exact HC0_3.out); rintro e w8 ⟨v255, rfl, ho0, hb⟩; have u_v255 := tsv Tryd.prog v255 ho0; refine ⟨_, rfl, ?_⟩; have HO256 := tRl ho0 HB; replace BK252 := tBb BK252 hb; replace BK253 := tBb BK253 hb; replace HB := tBs HB hb; (try clear hb); (try clear hb2); (try clear hk); (try clear hi); (try clear ho0); obtain ⟨Ao9, co9, eo9⟩ := Kd.R_slice HO256.out; subst eo9; obtain ⟨hcz10_0, hcz10_1, hcz10_2, hcz10_3, hcz10_4, hcz10_5, hfz10_0, hfz10_1, hfz10_2, hfz10_3, hfz10_4, hfz10_5⟩ := cells6 BK252.out) | ((with_reducible refine gate_callee (f := 59) rfl ?_); refine goesL_ (some 9) rfl rfl Tryd.func59 (by kernel_rfl) rfl #[.slice A0_5 l0_5.length c0_5] rfl tq ?_; (with_reducible refine (slices_Clone_int_int.calls _ _ l0_5 t257 _ ?side1 ?side2 A3.out).mono ?_); (case side1 => exact Kd.C_below HR0_5.out zb); (case side2 => exact HC0_5.out); rintro e w11 ⟨v258, rfl, ho0, hb⟩; have u_v258 := tsv Tryd.prog v258 ho0; refine ⟨_, rfl, ?_⟩; have HO259 := Aside0.mk (Kd.R_lower (Kd.R_new' ho0 (Kd.R_lt (tRt HO256.out BK252.out))) (below_size zb)); replace HO256 := Aside0.mk (Kd.R_elder' (tRt HO256.out BK252.out) (Kd.R_base ho0) hb); replace BK252 := tBp (o' := .cells #[.int .i64 a0_0, .int .i64 a0_1, .bool a0_2, .slice Ao9 t254.length co9, .bool a0_4, .slice A0_5 l0_5.length c0_5] 41 (0, 0)) BK252 hb; replace BK253 := tBb BK253 hb; replace HB := tBs HB hb; (try clear hb); (try clear hb2); (try clear hk); (try clear hi); (try clear ho0); obtain ⟨Ao12, co12, eo12⟩ := Kd.R_slice HO259.out; subst eo12; obtain ⟨hcz13_0, hcz13_1, hcz13_2, hcz13_3, hcz13_4, hcz13_5, hfz13_0, hfz13_1, hfz13_2, hfz13_3, hfz13_4, hfz13_5⟩ := cells6 BK252.out; obtain ⟨hcz14_0, hcz14_1, hcz14_2, hcz14_3, hcz14_4, hcz14_5, hfz14_0, hfz14_1, hfz14_2, hfz14_3, hfz14_4, hfz14_5⟩ := cells6 BK253.out))
 refine bodyPost_ret (results_cell_row rfl _ _ gb253 41 #[.int .i64 a0_0, .int .i64 a0_1, .bool a0_2, .slice Ao9 t254.length co9, .bool a0_4, .slice Ao12 t257.length co12] (0, 0) _ rfl (tP BK253.out) Tryd.underlying41 rfl (by kernel_rfl)) rfl ?_
 exact ⟨_, _, by first | rfl | (simp [errW_none, errW_some] <;> rfl) | (simp [*, errW_none, errW_some] <;> rfl), tRm (Kd.R_types (Kd.R_types HO256.out BK252.out (by decide)) BK253.out (by decide)), tRm (Kd.R_types (Kd.R_types HO259.out BK252.out (by decide)) BK253.out (by decide)), zb⟩

end Go.Proofs.YtahenocndacjeaaDoor.G

