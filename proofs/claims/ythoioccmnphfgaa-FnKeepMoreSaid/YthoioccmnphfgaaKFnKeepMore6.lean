/- A text of seat Ythoioccmnphfgaa: what the law FnKeepMore needs of this repo's texts (by pack.py). Not trusted: Lean checks it. -/
import Derived.Test.YthoioccmnphfgaaKFnKeepMore5
import Derived.RangeFuncNested
import Derived.RangeFuncBound
import Derived.RangeFuncCalls
import Derived.RangeFuncLeaves
import Derived.Shelf.Abstract
import Derived.Shelf.RegionOpen
import Derived.WalkKit
import Derived.OwnWalkIn
import Derived.TacticsInMore
import Derived.LoopNIn
import Derived.LoopIn
import Derived.OrdersIn
import Derived.Deep.Quiet
import Derived.Deep.QuietTactic
import Derived.TacticsIn
import Derived.ControlIn
namespace Go.Proofs.Ythoioccmnphfgaa.G
open Go.RowKit Go.Proofs.YthoioccmnphfgaaW.PrintWords Go.Proofs.YthoioccmnphfgaaW.PrintLast Go.Proofs.YthoioccmnphfgaaW.PrintMore
attribute [local go_sem] max2_int min2_int max_two min_two max_three min_three max_four min_four   -- for this text's walks alone
set_option linter.unusedVariables false
set_option linter.unusedSimpArgs false

mutual
def spec_l92Log.j0 : Nat → List (S46) → Int → List Int → Int → Option ((List (S46)) × Int)
 | 0, _, _, _, _ => none
 | k + 1, x3, x4, x1000, x1001 => (spec_l6Rd_pick.f k x1000 x1001 10).bind fun bt231 => (spec_l92Log.l0 k x3 x4 bt231.1 0 x1000 bt231.2)
def spec_l92Log.l0 : Nat → List (S46) → Int → Int → Int → List Int → Int → Option ((List (S46)) × Int)
 | 0, _, _, _, _, _, _ => none
 | k + 1, x3, x4, x5, x6, x1000, x1001 => if x6 < x4 then ((spec_l91Batch.f k x1000 x1001 x5).bind fun bt237 => ((spec_l6Rd_pick.f k x1000 bt237.2.2.2.2.2.2 20).bind fun bt247 => (if bt247.1 > 0 then ((spec_BatchValid.f k bt237.1 bt237.2.1 bt237.2.2.1 bt237.2.2.2.1 bt237.2.2.2.2.1 bt237.2.2.2.2.2.1).bind fun t249 => (spec_l92Log.j2 k x3 x4 x5 x6 (!t249) x1000 bt247.2 bt237.1 bt237.2.1 bt237.2.2.1 bt237.2.2.2.1 bt237.2.2.2.2.1 bt237.2.2.2.2.2.1)) else (spec_l92Log.j2 k x3 x4 x5 x6 false x1000 bt247.2 bt237.1 bt237.2.1 bt237.2.2.1 bt237.2.2.2.1 bt237.2.2.2.2.1 bt237.2.2.2.2.2.1)))) else (if x4 > 1 then ((spec_l6Rd_pick.f k x1000 x1001 30).bind fun bt233 => (if bt233.1 = 0 then (if 0 < (x3.length : Int) then (if 1 < (x3.length : Int) then (some ((x3.set (1 : Int).toNat (⟨(rd_T46 x3 0).f0, (rd_T46 x3 0).f1, (rd_T46 x3 0).f2, (rd_T46 x3 0).f3, (rd_T46 x3 0).f4, (rd_T46 x3 0).f5⟩ : S46)), bt233.2)) else (none)) else (none)) else (some (x3, bt233.2)))) else (some (x3, x1001)))
def spec_l92Log.j2 : Nat → List (S46) → Int → Int → Int → Bool → List Int → Int → Bool → Bool → Int → Int → Int → List (S63) → Option ((List (S46)) × Int)
 | 0, _, _, _, _, _, _, _, _, _, _, _, _, _ => none
 | k + 1, x3, x4, x5, x6, x37, x1000, x1001, x247000, x247001, x247002, x247003, x247004, x247005 => if x37 = true then ((spec_l91Records.f k x1000 x1001 x5 2).bind fun bt250 => (if x3.length < 2513169434916 then (if 0 ≤ (wrap64 ((bt250.1.length : Int) - 1)) then (if (wrap64 ((bt250.1.length : Int) - 1)) < (bt250.1.length : Int) then ((spec_l6Rd_pick.f k x1000 bt250.2 4).bind fun bt258 => (spec_l92Log.l0 k (x3 ++ [(⟨false, false, 255, 0, 0, bt250.1⟩ : S46)]) x4 (wrap64 ((wrap64 (((rd_T63 bt250.1 (wrap64 ((bt250.1.length : Int) - 1))).f0) + 1)) + (wrap64 ((wrap64 (Int.tdiv bt258.1 3)) * 2)))) (wrap64 (x6 + 1)) x1000 bt258.2)) else (none)) else (none)) else (none))) else (if x3.length < 2513169434916 then (if 0 ≤ (wrap64 ((x247005.length : Int) - 1)) then (if (wrap64 ((x247005.length : Int) - 1)) < (x247005.length : Int) then ((spec_l6Rd_pick.f k x1000 x1001 4).bind fun bt264 => (spec_l92Log.l0 k (x3 ++ [(⟨x247000, x247001, x247002, x247003, x247004, x247005⟩ : S46)]) x4 (wrap64 ((wrap64 (((rd_T63 x247005 (wrap64 ((x247005.length : Int) - 1))).f0) + 1)) + (wrap64 ((wrap64 (Int.tdiv bt264.1 3)) * 2)))) (wrap64 (x6 + 1)) x1000 bt264.2)) else (none)) else (none)) else (none))
end
def spec_l92Log.f (k : Nat) (s0_0 : List Int) (s0_1 : Int) : Option ((List (S46)) × Int) := (some (([] : List (S46)) : List (S46))).bind fun y218 => ((spec_l6Rd_pick.f k s0_0 s0_1 5).bind fun bt221 => ((spec_l6Rd_pick.f k s0_0 bt221.2 16).bind fun bt223 => (if bt223.1 = 0 then ((some (([0, 8, 9] : List Int) : List Int)).bind fun y225 => ((spec_l6Rd_pick.f k s0_0 bt223.2 3).bind fun bt228 => (if 0 ≤ bt228.1 then (if bt228.1 < (y225.length : Int) then (spec_l92Log.j0 k y218 (rd y225 bt228.1) s0_0 bt228.2) else (none)) else (none)))) else (spec_l92Log.j0 k y218 (wrap64 (1 + bt221.1)) s0_0 bt223.2))))
def spec_l92Log.T13 : Bool × List (List Nat × List Nat) := (true, [([], []), ([0], [0]), ([], []), ([2], [2]), ([3], [3]), ([4], [4]), ([1, 5], [1, 5]), ([6], [6]), ([7], [7]), ([8], [8]), ([], []), ([10], [10]), ([11], [11]), ([12], [12]), ([9, 13], [9, 13]), ([14, 11, 0, 1, 2, 3, 4, 5, 6, 7, 8, 9, 10, 11, 12, 13, 14], [14])])
def spec_l92Log.B13 : List Nat := [0, 1, 0, 4, 12, 28, 63, 127, 255, 511, 0, 1024, 3072, 7168, 16383, 32767]
theorem spec_l92Log.tab13 : rtab .any (opsOf Try.f19 13) = spec_l92Log.T13 := by kernel_rfl
theorem spec_l92Log.bits13 : waitsOk spec_l92Log.T13.2 spec_l92Log.B13 = true := by kernel_rfl
set_option maxHeartbeats 8000000 in
set_option maxRecDepth 100000 in
theorem spec_l92Log.calls (k : Nat) (g : Nat) (s0_0 : List Int) (s0_1 : Int) (r1 : List (S46)) (r2 : Int) (w0 w : World) (hI : IsS65 w0 w g s0_0 s0_1) (hB : Below w0.heap.size w0 w) (h : spec_l92Log.f k s0_0 s0_1 = some (r1, r2)) :
  Calls Try.prog 19 #[.pointer (some ⟨g, 0, none⟩)] w fun e w' => ∃ v0_ : Value, e = .returned (v0_) ∧ Kd.N k46 46 w' w.heap.size (fun k_ => (w.heap.size ≤ k_)) v0_ r1 ∧ IsS65 w0 w' g s0_0 r2 ∧ Below w0.heap.size w0 w' ∧ KeepBut w w' g none := by
 have hu46 := Try.underlying46
 have HI0 := Aside0.mk hI
 have HK := Aside0.mk (KeepBut.refl w g none)
 have HL := Aside0.mk hB.size
 clear hI
 have HW0 := Aside0.mk hB.size
 have HB := Aside0.mk hB
 clear hB
 have H : ((some (([] : List (S46)) : List (S46))).bind fun y218 => ((spec_l6Rd_pick.f k s0_0 s0_1 5).bind fun bt221 => ((spec_l6Rd_pick.f k s0_0 bt221.2 16).bind fun bt223 => (if bt223.1 = 0 then ((some (([0, 8, 9] : List Int) : List Int)).bind fun y225 => ((spec_l6Rd_pick.f k s0_0 bt223.2 3).bind fun bt228 => (if 0 ≤ bt228.1 then (if bt228.1 < (y225.length : Int) then (spec_l92Log.j0 k y218 (rd y225 bt228.1) s0_0 bt228.2) else (none)) else (none)))) else (spec_l92Log.j0 k y218 (wrap64 (1 + bt221.1)) s0_0 bt223.2))))) = some (r1, r2) := h
 clear h
 obtain ⟨y218, hy218⟩ : ∃ y_ : List (S46), y_ = (([] : List (S46))) := ⟨_, rfl⟩
 replace H : ((spec_l6Rd_pick.f k s0_0 s0_1 5).bind fun bt221 => ((spec_l6Rd_pick.f k s0_0 bt221.2 16).bind fun bt223 => (if bt223.1 = 0 then ((some (([0, 8, 9] : List Int) : List Int)).bind fun y225 => ((spec_l6Rd_pick.f k s0_0 bt223.2 3).bind fun bt228 => (if 0 ≤ bt228.1 then (if bt228.1 < (y225.length : Int) then (spec_l92Log.j0 k y218 (rd y225 bt228.1) s0_0 bt228.2) else (none)) else (none)))) else (spec_l92Log.j0 k y218 (wrap64 (1 + bt221.1)) s0_0 bt223.2)))) = some (r1, r2) := by first | (rw [hy218]; with_reducible exact H) | (have H2_ := (Option.bind_some _ _).symm.trans H; rw [hy218]; with_reducible exact H2_) | (have H2_ := (Option.bind_some _ _).symm.trans H; with_reducible exact H2_) | with_reducible exact H | (rw [hy218]; exact H) | exact H
 have Ny218 := Aside0.mk hy218
 clear hy218
 replace H := tbe H
 obtain ⟨⟨t221, t222⟩, A2, H⟩ := H
 dsimp only at H
 replace H := tbe H
 obtain ⟨⟨t223, t224⟩, A3, H⟩ := H
 dsimp only at H
 have HC4 := Aside0.mk H
 clear H
 go_enter Try.func19, Try.ntmps19
 go_upto_if 14 with (first | ((with_reducible refine gate_dst (N := 8) rfl ?_); refine Kd.N_lit k46 _ 46 ?hg (N' := 8) ?hd (xs := ([] : List (S46))) (inner := []) (ok := (fun k_ => (w.heap.size ≤ k_) ∧ k_ ≠ g)) (okp := (fun k_ => (w.heap.size ≤ k_) ∧ k_ ≠ g)) ?hr ?hp (fun _ hk => hk) ((show ∀ k_, w.heap.size ≤ k_ → (fun k_ => (w.heap.size ≤ k_) ∧ k_ ≠ g) k_ from fun k_ hk => ⟨(Nat.le_trans (keep_size (w := w) (g := g) (row := none) zk) hk), IsS65.fresh zi65 k_ hk⟩) _ (Nat.le_refl _)) (Below.refl _ _) (Nat.le_refl _) (by simp) ?_; (case hd => rfl); (case hg => rfl); (case hr => first | (go_simp; done) | (go_simp; rfl)); (case hp => exact (Reps.none _ _)); intro v219 w5 ho6 hb hg_ hnew_; clear hg_ hnew_; (first | rw [← Ny218.out] at ho6 | (simp only [Int.reduceToNat] at ho6; rw [← Ny218.out] at ho6)); have HO220 := Aside0.mk (Kd.N_lower ho6 (keep_size (w := w) (g := g) (row := none) zk)); replace HI0 := tIb65 HI0 hb; replace HK := tKb HK hb; replace HB := tBs HB hb; clear hb ho6) | ((with_reducible refine gate_callee (f := 26) rfl ?_); refine goesL_ (some 10) rfl rfl Try.func26 (by kernel_rfl) rfl #[.pointer (some ⟨g, 0, none⟩), .int .i64 5] rfl tq ?_; (with_reducible refine (spec_l6Rd_pick.calls k g s0_0 s0_1 5 t221 t222 w0 _ ?side1 ?side2 A2.out).mono ?_); (case side1 => exact zi65); (case side2 => exact zb); rintro e w7 ⟨rfl, hi, hb, hk⟩; refine ⟨_, rfl, ?_⟩; replace HO220 := tNk HO220 hk; replace HK := tKt HK hk; replace HB := Aside0.mk (hb); replace HI0 := Aside0.mk (hi); (try clear hb); (try clear hb2); (try clear hk); (try clear hi)) | ((with_reducible refine gate_callee (f := 26) rfl ?_); refine goesL_ (some 13) rfl rfl Try.func26 (by kernel_rfl) rfl #[.pointer (some ⟨g, 0, none⟩), .int .i64 16] rfl tq ?_; (with_reducible refine (spec_l6Rd_pick.calls k g s0_0 t222 16 t223 t224 w0 _ ?side1 ?side2 A3.out).mono ?_); (case side1 => exact zi65); (case side2 => exact zb); rintro e w8 ⟨rfl, hi, hb, hk⟩; refine ⟨_, rfl, ?_⟩; replace HO220 := tNk HO220 hk; replace HK := tKt HK hk; replace HB := Aside0.mk (hb); replace HI0 := Aside0.mk (hi); (try clear hb); (try clear hb2); (try clear hk); (try clear hi)))
 (try simp only [Act.put, List.setIfInBounds_toArray, List.set_cons_zero, List.set_cons_succ])
 go_cut [4] (fun v4 wc => ∃ (kq : Nat) (x4_3 : Int) (x1001_3 : Int), v4 = .int .i64 x4_3 ∧ Aside0 (spec_l92Log.j0 kq y218 x4_3 s0_0 x1001_3 = some (r1, r2)) ∧ Aside0 (kq ≤ k) ∧ Aside0 (Kd.N k46 46 wc w.heap.size (fun k_ => (w.heap.size ≤ k_) ∧ k_ ≠ g) v219 y218) ∧ Aside0 (IsS65 w0 wc g s0_0 x1001_3) ∧ Aside0 (KeepBut w wc g none) ∧ Aside0 (Below w0.heap.size w0 wc))
 case first =>
  have H := HC4.out
  clear HC4
  by_cases c9 : t223 = 0
  ·rw [if_pos c9] at H
   have c9b0 : (t223 == 0) = true := beq_iff_eq.mpr c9
   have c9b1 : (t223 != 0) = false := bne_eq_false_iff_eq.mpr c9
   clear c9
   (first | rw [c9b0] | (simp only [i64_w, i32_w]; rw [c9b0]) | skip)
   obtain ⟨y225, hy225⟩ : ∃ y_ : List Int, y_ = (([0, 8, 9] : List Int)) := ⟨_, rfl⟩
   replace H : ((spec_l6Rd_pick.f k s0_0 t224 3).bind fun bt228 => (if 0 ≤ bt228.1 then (if bt228.1 < (y225.length : Int) then (spec_l92Log.j0 k y218 (rd y225 bt228.1) s0_0 bt228.2) else (none)) else (none))) = some (r1, r2) := by first | (rw [hy225]; with_reducible exact H) | (have H2_ := (Option.bind_some _ _).symm.trans H; rw [hy225]; with_reducible exact H2_) | (have H2_ := (Option.bind_some _ _).symm.trans H; with_reducible exact H2_) | with_reducible exact H | (rw [hy225]; exact H) | exact H
   have Ny225 := Aside0.mk hy225
   clear hy225
   replace H := tbe H
   obtain ⟨⟨t228, t229⟩, A10, H⟩ := H
   dsimp only at H
   by_cases c11 : 0 ≤ t228
   ·rw [if_pos c11] at H
    have c11b0 : decide (0 ≤ t228) = true := decide_eq_true c11
    clear c11
    by_cases c12 : t228 < (y225.length : Int)
    ·rw [if_pos c12] at H
     have c12b0 : decide (t228 < (y225.length : Int)) = true := decide_eq_true c12
     clear c12
     have H' := Aside0.mk H
     clear H
     go_wp2_with (first | ((with_reducible refine gate_dst (N := 15) rfl ?_); refine Kd.R_lit (Kd.int .i64) _ 3 ?hg (N := 15) ?hd (xs := ([0, 8, 9] : List Int)) (inner := [.int .i64 0, .int .i64 8, .int .i64 9]) (ok := fun _ => True) (okp := fun _ => True) ?hr ?hp (fun _ hk => hk) trivial (Below.refl _ _) (Nat.le_refl _) (by simp) ?_; (case hd => rfl); (case hg => rfl); (case hr => first | (go_simp; done) | (go_simp; rfl)); (case hp => exact (Reps.one (show Kd.M (Kd.int .i64) _ _ _ 0 [.int .i64 0] from rfl) (Reps.one (show Kd.M (Kd.int .i64) _ _ _ 8 [.int .i64 8] from rfl) (Reps.one (show Kd.M (Kd.int .i64) _ _ _ 9 [.int .i64 9] from rfl) (Reps.none _ _))))); intro v226 w13 ho14 hb hg_ hnew_; clear hg_ hnew_; (first | rw [← Ny225.out] at ho14 | (simp only [Int.reduceToNat] at ho14; rw [← Ny225.out] at ho14)); replace HO220 := Aside0.mk (Kd.N_elder' (tN HO220.out) (Kd.R_base ho14) hb); have HO227 := Aside0.mk (Kd.R_lower (Kd.R_newM (M := fun k_ => (w.heap.size ≤ k_)) ho14 (keep_size (w := w) (g := g) (row := none) zk) (fun k_ h_ => h_)) (keep_size (w := w) (g := g) (row := none) zk)); replace HI0 := tIb65 HI0 hb; replace HK := tKb HK hb; replace HB := tBs HB hb; clear hb ho14) | ((with_reducible refine gate_callee (f := 26) rfl ?_); refine goesL_ (some 17) rfl rfl Try.func26 (by kernel_rfl) rfl #[.pointer (some ⟨g, 0, none⟩), .int .i64 3] rfl tq ?_; (with_reducible refine (spec_l6Rd_pick.calls k g s0_0 t224 3 t228 t229 w0 _ ?side1 ?side2 A10.out).mono ?_); (case side1 => exact zi65); (case side2 => exact zb); rintro e w15 ⟨rfl, hi, hb, hk⟩; refine ⟨_, rfl, ?_⟩; replace HO220 := tNk HO220 hk; replace HO227 := tRp65 HO227 HI0 hk; replace HK := tKt HK hk; replace HB := Aside0.mk (hb); replace HI0 := Aside0.mk (hi); (try clear hb); (try clear hb2); (try clear hk); (try clear hi); obtain ⟨Ao16, co16, eo16⟩ := Kd.R_slice HO227.out; subst eo16; have p230 : 0 ≤ (t228 : Int) := td; have q230 : t228 < (y225.length : Int) := td; obtain ⟨ad230, e230, hx230_0⟩ := Kd.at_int (Kd.R_reads' HO227.out).2.2 t228 p230 q230; cases e230; replace p230 := eq_true p230; replace q230 := eq_true q230))
     go_meet
     case rel => exact ⟨_, (rd y225 t228), (t229), tr, H', ⟨by first | omega | exact Nat.le_refl _⟩, ⟨tNm HO220.out⟩, ⟨zi65⟩, ⟨zk⟩, ⟨zb⟩⟩
    ·rw [if_neg c12] at H
     exact absurd H (by simp)
   ·rw [if_neg c11] at H
    exact absurd H (by simp)
  ·rw [if_neg c9] at H
   have c9b0 : (t223 == 0) = false := beq_eq_false_iff_ne.mpr c9
   have c9b1 : (t223 != 0) = true := bne_iff_ne.mpr c9
   (first | rw [c9b0] | (simp only [i64_w, i32_w]; rw [c9b0]) | skip)
   have H' := Aside0.mk H
   clear H
   go_wp2
   go_meet
   case rel => exact ⟨_, (wrap64 (1 + t221)), (t224), tr, H', ⟨by first | omega | exact Nat.le_refl _⟩, ⟨tN HO220.out⟩, ⟨zi65⟩, ⟨zk⟩, ⟨zb⟩⟩
 case rest =>
  clear HC4
  obtain ⟨kq, x4_3, x1001_3, rfl, HA, HJ3, HO_3, HI0, HK, HB⟩ := hcut
  cases kq with
  | zero => exact absurd HA.out (by simp [spec_l92Log.j0])
  | succ kj3 =>
   have H := HA.out
   clear HA
   simp only [spec_l92Log.j0] at H
   replace H := tbe H
   obtain ⟨⟨t231, t232⟩, A17, H⟩ := H
   dsimp only at H
   have H' := Aside0.mk H
   clear H
   go_wp2_with (first | ((with_reducible refine gate_callee (f := 26) rfl ?_); refine goesL_ (some 21) rfl rfl Try.func26 (by kernel_rfl) rfl #[.pointer (some ⟨g, 0, none⟩), .int .i64 10] rfl tq ?_; (with_reducible refine (spec_l6Rd_pick.calls kj3 g s0_0 x1001_3 10 t231 t232 w0 _ ?side1 ?side2 A17.out).mono ?_); (case side1 => exact zi65); (case side2 => exact zb); rintro e w18 ⟨rfl, hi, hb, hk⟩; refine ⟨_, rfl, ?_⟩; replace HO_3 := tNk HO_3 hk; replace HK := tKt HK hk; replace HB := Aside0.mk (hb); replace HI0 := Aside0.mk (hi); (try clear hb); (try clear hb2); (try clear hk); (try clear hi)))
   go_loopg [3, 5, 6] kj3 (fun kq v3 v5 v6 w' => ∃ (x3_2 : List (S46)) (x5_2 : Int) (x6_2 : Int) (x1001_2 : Int), v5 = .int .i64 x5_2 ∧ v6 = .int .i64 x6_2 ∧ Aside0 (spec_l92Log.l0 kq x3_2 x4_3 x5_2 x6_2 s0_0 x1001_2 = some (r1, r2)) ∧ Aside0 (kq ≤ kj3) ∧ Aside0 (Kd.N k46 46 w' w.heap.size (fun k_ => (w.heap.size ≤ k_) ∧ k_ ≠ g) v3 x3_2) ∧ Aside0 (IsS65 w0 w' g s0_0 x1001_2) ∧ Aside0 (KeepBut w w' g none) ∧ Aside0 (Below w0.heap.size w0 w'))
   case atStart => exact ⟨(y218), (t231), (0), (t232), tr, tr, H', ⟨Nat.le_refl _⟩, ⟨tN HO_3.out⟩, ⟨zi65⟩, ⟨zk⟩, ⟨zb⟩⟩
   case round =>
    clear H'
    obtain ⟨x3_2, x5_2, x6_2, x1001_2, rfl, rfl, HA, HK2, HO_3, HI0, HK, HB⟩ := hrel
    cases gk with
    | zero => exact absurd HA.out (by simp [spec_l92Log.l0])
    | succ k2 =>
     have H := HA.out
     clear HA
     simp only [spec_l92Log.l0] at H
     by_cases c19 : x6_2 < x4_3
     ·rw [if_pos c19] at H
      have c19b0 : decide (x6_2 < x4_3) = true := decide_eq_true c19
      clear c19
      replace H := tbe H
      obtain ⟨⟨t237, t238, t239, t240, t241, t242, t245⟩, A20, H⟩ := H
      dsimp only at H
      have HC21 := Aside0.mk H
      clear H
      go_upto_region 10 with (first | ((with_reducible refine gate_callee (f := 34) rfl ?_); refine goesL_ (some 29) rfl rfl Try.func34 (by kernel_rfl) rfl #[.pointer (some ⟨g, 0, none⟩), .int .i64 x5_2] rfl tq ?_; (with_reducible refine (spec_l91Batch.calls k2 g s0_0 x1001_2 x5_2 t237 t238 t239 t240 t241 t242 t245 w0 _ ?side1 ?side2 A20.out).mono ?_); (case side1 => exact zi65); (case side2 => exact zb); rintro e w22 ⟨v243, rfl, ho0, hi, hb, hk⟩; have u_v243 := tsv Try.prog v243 ho0; refine ⟨_, rfl, ?_⟩; have HO244 := Aside0.mk (Kd.N_lower (Kd.N_mono (ok' := fun k_ => (w.heap.size ≤ k_) ∧ some k_ ≠ (u3 : Value).ownBlock ∧ k_ ≠ g) ho0 (fun k_ hk_ => ⟨(Nat.le_trans (keep_size (w := w) (g := g) (row := none) zk) hk_), (tfr HO_3 k_ hk_), (IsS65.fresh zi65 k_ hk_)⟩)) (keep_size (w := w) (g := g) (row := none) zk)); replace HO_3 := Aside0.mk (Kd.N_mono (Kd.N_told (Kd.N_oldK (Kd.N_mono (ok := fun k_ => (((w.heap.size ≤ k_)) ∧ k_ ≠ g)) (tN HO_3.out) (fun k_ hk_ => (⟨hk_, hk_.2⟩ : _ ∧ k_ ≠ g))) hk) (tb ho0)) (fun _ h_ => h_.1)); replace HK := tKt HK hk; replace HB := Aside0.mk (hb); replace HI0 := Aside0.mk (hi); (try clear hb); (try clear hb2); (try clear hk); (try clear hi); (try clear ho0)) | ((with_reducible refine gate_dst (N := 7) rfl ?_); refine box_event ?hg (N := 7) ?hd (cs := #[.bool false, .bool false, .int .i64 0, .int .i64 0, .int .i64 0, .slice none 0 0]) (t := 46) ?hr ?_; (case hd => rfl); (case hg => rfl); (case hr => first | (go_simp; done) | (go_simp; rfl)); intro gb246 hg w23 hbox hb; replace HO_3 := tNB HO_3 hg hb; replace HO244 := tNB HO244 hg hb; replace HB := tBs HB hb; have BK246 := Aside0.mk (hbox); have GW246 := Aside0.mk ((by rw [hg]; exact (keep_size (w := w) (g := g) (row := none) zk) : w.heap.size ≤ gb246)); have GE246 := Aside0.mk ((Nat.le_trans HW0.out (by rw [hg]; exact (keep_size (w := w) (g := g) (row := none) zk) : w.heap.size ≤ gb246) : w0.heap.size ≤ gb246)); replace HK := tKb HK hb; have NB0_246 := Aside0.mk ((by rw [hg]; exact Nat.ne_of_lt (IsS65.lt (show IsS65 w0 _ g s0_0 t245 from zi65)) : g ≠ gb246)); have NB246_0 := Aside0.mk ((by rw [hg]; exact Nat.ne_of_gt (IsS65.lt (show IsS65 w0 _ g s0_0 t245 from zi65)) : gb246 ≠ g)); replace HI0 := tIb65 HI0 hb; clear hb hbox hg; have hnb24 := NB246_0.out; have hnc24 := NB0_246.out; obtain ⟨hcz25_0, hcz25_1, hcz25_2, hcz25_3, hcz25_4, hcz25_5, hfz25_0, hfz25_1, hfz25_2, hfz25_3, hfz25_4, hfz25_5⟩ := cells6 BK246.out; obtain ⟨Ao26, co26, eo26⟩ := Kd.N_slice HO244.out; subst eo26))
      (try simp only [Act.put, List.setIfInBounds_toArray, List.set_cons_zero, List.set_cons_succ])
      go_cut [37] (fun v37 wc => ∃ (kq : Nat) (x37_20 : Bool) (x1001_20 : Int), v37 = .bool x37_20 ∧ Aside0 (spec_l92Log.j2 kq x3_2 x4_3 x5_2 x6_2 x37_20 s0_0 x1001_20 t237 t238 t239 t240 t241 t242 = some (r1, r2)) ∧ Aside0 (kq ≤ k2) ∧ Aside0 (Kd.N k46 46 wc w.heap.size (fun k_ => (w.heap.size ≤ k_) ∧ some k_ ≠ ((.slice Ao26 t242.length co26) : Value).ownBlock ∧ k_ ≠ gb246 ∧ k_ ≠ g) u3 x3_2) ∧ Aside0 (Kd.N k63 63 wc w.heap.size (fun k_ => (w.heap.size ≤ k_) ∧ some k_ ≠ (u3 : Value).ownBlock ∧ k_ ≠ gb246 ∧ k_ ≠ g) (.slice Ao26 t242.length co26) t242) ∧ Aside0 (wc.heap[gb246]? = some (.cells #[.bool t237, .bool t238, .int .i64 t239, .int .i64 t240, .int .i64 t241, (.slice Ao26 t242.length co26)] 46 (0, 0))) ∧ Aside0 (IsS65 w0 wc g s0_0 x1001_20) ∧ Aside0 (KeepBut w wc g none) ∧ Aside0 (Below w0.heap.size w0 wc))
      case first =>
       have H := HC21.out
       clear HC21
       replace H := tbe H
       obtain ⟨⟨t247, t248⟩, A27, H⟩ := H
       dsimp only at H
       by_cases c28 : t247 > 0
       ·rw [if_pos c28] at H
        have c28b0 : decide (0 < t247) = true := decide_eq_true c28
        clear c28
        (first | rw [c28b0] | (simp only [i64_w, i32_w]; rw [c28b0]) | skip)
        replace H := tbe H
        obtain ⟨t249, A29, H⟩ := H
        have H' := Aside0.mk H
        clear H
        go_wp2_with (first | ((with_reducible refine gate_callee (f := 26) rfl ?_); refine goesL_ (some 31) rfl rfl Try.func26 (by kernel_rfl) rfl #[.pointer (some ⟨g, 0, none⟩), .int .i64 20] rfl tq ?_; (with_reducible refine (spec_l6Rd_pick.calls k2 g s0_0 t245 20 t247 t248 w0 _ ?side1 ?side2 A27.out).mono ?_); (case side1 => exact zi65); (case side2 => exact zb); rintro e w30 ⟨rfl, hi, hb, hk⟩; refine ⟨_, rfl, ?_⟩; replace HO_3 := tNk HO_3 hk; replace HO244 := tNk HO244 hk; replace BK246 := tBq (o' := .cells #[.bool t237, .bool t238, .int .i64 t239, .int .i64 t240, .int .i64 t241, .slice Ao26 t242.length co26] 46 (0, 0)) BK246 hk NB246_0; replace HK := tKt HK hk; replace HB := Aside0.mk (hb); replace HI0 := Aside0.mk (hi); (try clear hb); (try clear hb2); (try clear hk); (try clear hi); have hnb31 := NB246_0.out; have hnc31 := NB0_246.out; obtain ⟨hcz32_0, hcz32_1, hcz32_2, hcz32_3, hcz32_4, hcz32_5, hfz32_0, hfz32_1, hfz32_2, hfz32_3, hfz32_4, hfz32_5⟩ := cells6 BK246.out) | (go_at_call 35; (with_reducible refine (spec_BatchValid.calls k2 t237 t238 t239 t240 t241 _ _ t242 t249 _ ?side1 ?side2 A29.out).mono ?_); (case side1 => repeat (first | exact (Kd.N_reads' HO244.out).2.2 | (with_reducible refine Kd.C_alloc ?_ _) | (with_reducible refine Kd.C_drewN ?_ _) | (with_reducible refine Kd.C_drew ?_))); (case side2 => exact (Kd.N_reads' HO244.out).2.1); rintro e w33 ⟨rfl, hb⟩; replace HO_3 := tNb HO_3 hb; replace HO244 := tNb HO244 hb; replace HI0 := tIb65 HI0 hb; replace BK246 := tBb BK246 hb; replace HK := tKb HK hb; replace HB := tBs HB hb; (try clear hb); (try clear hb2); (try clear hk); (try clear hi)))
        go_meet
        case rel => exact ⟨_, (!t249), (t248), tr, H', ⟨by have := HJ3.out; have := HK2.out; first | omega | exact Nat.le_refl _⟩, ⟨tNm HO_3.out⟩, ⟨tNm HO244.out⟩, ⟨tH BK246.out⟩, ⟨zi65⟩, ⟨zk⟩, ⟨zb⟩⟩
       ·rw [if_neg c28] at H
        have c28b0 : decide (0 < t247) = false := decide_eq_false c28
        clear c28
        (first | rw [c28b0] | (simp only [i64_w, i32_w]; rw [c28b0]) | skip)
        have H' := Aside0.mk H
        clear H
        go_wp2_with (first | ((with_reducible refine gate_callee (f := 26) rfl ?_); refine goesL_ (some 31) rfl rfl Try.func26 (by kernel_rfl) rfl #[.pointer (some ⟨g, 0, none⟩), .int .i64 20] rfl tq ?_; (with_reducible refine (spec_l6Rd_pick.calls k2 g s0_0 t245 20 t247 t248 w0 _ ?side1 ?side2 A27.out).mono ?_); (case side1 => exact zi65); (case side2 => exact zb); rintro e w34 ⟨rfl, hi, hb, hk⟩; refine ⟨_, rfl, ?_⟩; replace HO_3 := tNk HO_3 hk; replace HO244 := tNk HO244 hk; replace BK246 := tBq (o' := .cells #[.bool t237, .bool t238, .int .i64 t239, .int .i64 t240, .int .i64 t241, .slice Ao26 t242.length co26] 46 (0, 0)) BK246 hk NB246_0; replace HK := tKt HK hk; replace HB := Aside0.mk (hb); replace HI0 := Aside0.mk (hi); (try clear hb); (try clear hb2); (try clear hk); (try clear hi)))
        go_meet
        case rel => exact ⟨_, (false), (t248), tr, H', ⟨by have := HJ3.out; have := HK2.out; first | omega | exact Nat.le_refl _⟩, ⟨tNm HO_3.out⟩, ⟨tNm HO244.out⟩, ⟨tH BK246.out⟩, ⟨zi65⟩, ⟨zk⟩, ⟨zb⟩⟩
      case rest =>
       clear HC21
       try clear c19; try clear c19b0; try clear hcz25_0; try clear hcz25_1; try clear hcz25_2; try clear hcz25_3; try clear hcz25_4; try clear hcz25_5; try clear hfz25_0; try clear hfz25_1; try clear hfz25_2; try clear hfz25_3; try clear hfz25_4; try clear hfz25_5
       obtain ⟨kq, x37_20, x1001_20, rfl, HA, HJ20, HO_3, HO_247005, BK246, HI0, HK, HB⟩ := hcut
       cases kq with
       | zero => exact absurd HA.out (by simp [spec_l92Log.j2])
       | succ kj20 =>
        have H := HA.out
        clear HA
        simp only [spec_l92Log.j2] at H
        by_cases c35 : x37_20 = true
        ·subst c35
         rw [if_pos rfl] at H
         replace H := tbe H
         obtain ⟨⟨t250, t253⟩, A36, H⟩ := H
         dsimp only at H
         by_cases c37 : x3_2.length < 2513169434916
         ·rw [if_pos c37] at H
          have LMc37 := Aside0.mk c37
          clear c37
          obtain ⟨y254, hy254⟩ : ∃ y_ : List (S46), y_ = (x3_2 ++ [(⟨false, false, 255, 0, 0, t250⟩ : S46)]) := ⟨_, rfl⟩
          replace H : (if 0 ≤ (wrap64 ((t250.length : Int) - 1)) then (if (wrap64 ((t250.length : Int) - 1)) < (t250.length : Int) then ((spec_l6Rd_pick.f kj20 s0_0 t253 4).bind fun bt258 => (spec_l92Log.l0 kj20 y254 x4_3 (wrap64 ((wrap64 (((rd_T63 t250 (wrap64 ((t250.length : Int) - 1))).f0) + 1)) + (wrap64 ((wrap64 (Int.tdiv bt258.1 3)) * 2)))) (wrap64 (x6_2 + 1)) s0_0 bt258.2)) else (none)) else (none)) = some (r1, r2) := by first | (rw [hy254]; with_reducible exact H) | (have H2_ := (Option.bind_some _ _).symm.trans H; rw [hy254]; with_reducible exact H2_) | (have H2_ := (Option.bind_some _ _).symm.trans H; with_reducible exact H2_) | with_reducible exact H | (rw [hy254]; exact H) | exact H
          have Ny254 := Aside0.mk hy254
          clear hy254
          obtain ⟨ji38, hji38⟩ : ∃ j_ : Int, (wrap64 ((t250.length : Int) - 1)) = j_ := ⟨_, rfl⟩
          replace H : (if 0 ≤ (ji38) then (if (ji38) < (t250.length : Int) then ((spec_l6Rd_pick.f kj20 s0_0 t253 4).bind fun bt258 => (spec_l92Log.l0 kj20 y254 x4_3 (wrap64 ((wrap64 (((rd_T63 t250 (ji38)).f0) + 1)) + (wrap64 ((wrap64 (Int.tdiv bt258.1 3)) * 2)))) (wrap64 (x6_2 + 1)) s0_0 bt258.2)) else (none)) else (none)) = some (r1, r2) := by first | (rw [hji38] at H; exact H) | (simp only [hji38] at H ⊢; exact H)
          (try rw [hji38] at A36)
          have hji38w : (IntKind.i64.wrap ((t250.length : Int) - 1)) = ji38 := (i64_w _).trans hji38
          by_cases c39 : 0 ≤ (ji38)
          ·rw [if_pos c39] at H
           have c39b0 : decide (0 ≤ (ji38)) = true := decide_eq_true c39
           clear c39
           by_cases c40 : (ji38) < (t250.length : Int)
           ·rw [if_pos c40] at H
            have c40b0 : decide ((ji38) < (t250.length : Int)) = true := decide_eq_true c40
            clear c40
            replace H := tbe H
            obtain ⟨⟨t258, t259⟩, A41, H⟩ := H
            dsimp only at H
            have H' := Aside0.mk H
            clear H
            try go_wp2_with (first | ((with_reducible refine gate_callee (f := 36) rfl ?_); refine goesL_ (some 40) rfl rfl Try.func36 (by kernel_rfl) rfl #[.pointer (some ⟨g, 0, none⟩), .int .i64 x5_2, .int .i64 2] rfl tq ?_; (with_reducible refine (spec_l91Records.calls kj20 g s0_0 x1001_20 x5_2 2 t250 t253 w0 _ ?side1 ?side2 A36.out).mono ?_); (case side1 => exact zi65); (case side2 => exact zb); rintro e w42 ⟨v251, rfl, ho0, hi, hb, hk⟩; have u_v251 := tsv Try.prog v251 ho0; refine ⟨_, rfl, ?_⟩; have HO252 := Aside0.mk (Kd.N_lower (Kd.N_mono (ok' := fun k_ => (w.heap.size ≤ k_) ∧ some k_ ≠ (u3 : Value).ownBlock ∧ some k_ ≠ (.slice Ao26 t242.length co26 : Value).ownBlock ∧ k_ ≠ gb246 ∧ k_ ≠ g) (Kd.S_N (Kd.S_bound ho0)) (fun k_ hk_ => ⟨(Nat.le_trans (keep_size (w := w) (g := g) (row := none) zk) hk_.2.1), (tfr HO_3 k_ hk_.2.1), (tfr HO_247005 k_ hk_.2.1), (tfB BK246 k_ hk_.2.1), (IsS65.fresh zi65 k_ hk_.2.1)⟩)) (keep_size (w := w) (g := g) (row := none) zk)); replace HO_3 := Aside0.mk (Kd.N_mono (Kd.N_told (Kd.N_oldK (Kd.N_mono (ok := fun k_ => (((w.heap.size ≤ k_)) ∧ (some k_ ≠ (.slice Ao26 t242.length co26 : Value).ownBlock ∧ (k_ ≠ gb246 ∧ k_ ≠ g)))) (tN HO_3.out) (fun k_ hk_ => (⟨hk_, hk_.2.2.2⟩ : _ ∧ k_ ≠ g))) hk) (tb ho0)) (fun _ h_ => h_.1)); replace HO_247005 := Aside0.mk (Kd.N_mono (Kd.N_told (Kd.N_oldK (Kd.N_mono (ok := fun k_ => (((w.heap.size ≤ k_)) ∧ (some k_ ≠ (u3 : Value).ownBlock ∧ (k_ ≠ gb246 ∧ k_ ≠ g)))) (tN HO_247005.out) (fun k_ hk_ => (⟨hk_, hk_.2.2.2⟩ : _ ∧ k_ ≠ g))) hk) (tb ho0)) (fun _ h_ => h_.1)); replace BK246 := tBk BK246 hk NB246_0; replace HK := tKt HK hk; replace HB := Aside0.mk (hb); replace HI0 := Aside0.mk (hi); (try clear hb); (try clear hb2); (try clear hk); (try clear hi); (try clear ho0); obtain ⟨Ao43, co43, eo43⟩ := Kd.N_slice HO252.out; subst eo43; have hnb44 := NB246_0.out; have hnc44 := NB0_246.out; obtain ⟨hcz45_0, hcz45_1, hcz45_2, hcz45_3, hcz45_4, hcz45_5, hfz45_0, hfz45_1, hfz45_2, hfz45_3, hfz45_4, hfz45_5⟩ := cells6 BK246.out) | ((with_reducible refine gate_store (t := 46) (p := 7) rfl ?_); refine store_event (t := 46) (p := 7) (v := ?vo_w46) (w1 := ((((((w42.setCell ⟨gb246, 0, none⟩ (.bool false)).setCell ⟨gb246, 1, none⟩ (.bool false)).setCell ⟨gb246, 2, none⟩ (.int .i64 255)).setCell ⟨gb246, 3, none⟩ (.int .i64 0)).setCell ⟨gb246, 4, none⟩ (.int .i64 0)).setCell ⟨gb246, 5, none⟩ (.slice Ao43 t250.length co43))) ?hg ?ho ?hn ?hr ?_; (case ho => rfl); (case hg => rfl); (case hn => rfl); (case hr => first | (go_simp; done) | (go_simp; rfl)); intro w46 hw; have n0_ : Aside0 (Kd.N k46 46 w46 w.heap.size (fun k_ => (w.heap.size ≤ k_) ∧ some k_ ≠ (.slice Ao26 t242.length co26 : Value).ownBlock ∧ some k_ ≠ (.slice Ao43 t250.length co43 : Value).ownBlock ∧ k_ ≠ gb246 ∧ k_ ≠ g) u3 x3_2) := ⟨(by rw [hw]; exact (tNm HO_3.out))⟩; have n1_ : Aside0 (Kd.N k63 63 w46 w.heap.size (fun k_ => (w.heap.size ≤ k_) ∧ some k_ ≠ (u3 : Value).ownBlock ∧ some k_ ≠ (.slice Ao43 t250.length co43 : Value).ownBlock ∧ k_ ≠ gb246 ∧ k_ ≠ g) (.slice Ao26 t242.length co26) t242) := ⟨(by rw [hw]; exact (tNm HO_247005.out))⟩; have n2_ : Aside0 (Kd.N k63 63 w46 w.heap.size (fun k_ => (w.heap.size ≤ k_) ∧ some k_ ≠ (u3 : Value).ownBlock ∧ some k_ ≠ (.slice Ao26 t242.length co26 : Value).ownBlock ∧ k_ ≠ gb246 ∧ k_ ≠ g) (.slice Ao43 t250.length co43) t250) := ⟨(by rw [hw]; exact (tNm HO252.out))⟩; have n3_ : Aside0 (w46.heap[gb246]? = some (.cells #[.bool false, .bool false, .int .i64 255, .int .i64 0, .int .i64 0, .slice Ao43 t250.length co43] 46 (0, 0))) := ⟨(by rw [hw]; exact (tP BK246.out))⟩; have n4_ : Aside0 (IsS65 w0 w46 g s0_0 t253) := ⟨(by rw [hw]; exact zi65)⟩; have n5_ : Aside0 (KeepBut w w46 g none) := ⟨(by rw [hw]; exact zk)⟩; have n6_ : Aside0 (Below w0.heap.size w0 w46) := ⟨(by rw [hw]; exact zb)⟩; clear hw; clear HO_3; clear HO_247005; clear HO252; clear BK246; clear HI0; clear HK; clear HB; have HO_3 := n0_; have HO_247005 := n1_; have HO252 := n2_; have BK246 := n3_; have HI0 := n4_; have HK := n5_; have HB := n6_; clear n0_ n1_ n2_ n3_ n4_ n5_ n6_; obtain ⟨hcz47_0, hcz47_1, hcz47_2, hcz47_3, hcz47_4, hcz47_5, hfz47_0, hfz47_1, hfz47_2, hfz47_3, hfz47_4, hfz47_5⟩ := cells6 BK246.out) | ((with_reducible refine gate_builtin (b := .append) (xs := #[.tmp 42, .tmp 44]) rfl ?_); at_builtin; refine Kd.N_append k46 w.heap.size rfl (.tmp 42) (.tmp 44) 23 46 (.agg #[(.bool false), (.bool false), (.int .i64 0), (.int .i64 0), (.int .i64 0), (.slice none 0 0)]) 56 rfl Try.underlying23 info46 rfl (by decide) (by omega) u3 x3_2 (⟨false, false, 255, 0, 0, t250⟩ : S46) [.bool false, .bool false, .int .i64 255, .int .i64 0, .int .i64 0, .slice Ao43 t250.length co43] (fun k_ => (w.heap.size ≤ k_) ∧ some k_ ≠ (.slice Ao26 t242.length co26 : Value).ownBlock ∧ k_ ≠ gb246 ∧ k_ ≠ g) (fun k_ => ((fun k_ => (w.heap.size ≤ k_) ∧ some k_ ≠ (.slice Ao26 t242.length co26 : Value).ownBlock ∧ k_ ≠ gb246 ∧ k_ ≠ g)) k_ ∧ some k_ ≠ (u3 : Value).ownBlock) rfl rfl ?aP (fun _ hk => hk) ?aF ?aO (Below.refl _ _) ?aS ?aL ?_; (case aP => exact (k46_mkF _ _ (⟨false, false, 255, 0, 0, t250⟩ : S46) (Kd.N_reads' (Kd.N_mono (ok' := (fun k_ => ((fun k_ => (w.heap.size ≤ k_) ∧ some k_ ≠ (.slice Ao26 t242.length co26 : Value).ownBlock ∧ k_ ≠ gb246 ∧ k_ ≠ g)) k_ ∧ some k_ ≠ (u3 : Value).ownBlock)) (HO252.out) (fun k_ hk => ⟨⟨hk.1, ⟨hk.2.2.1, ⟨hk.2.2.2.1, hk.2.2.2.2⟩⟩⟩, hk.2.1⟩))).2.1 (Kd.N_F (Kd.N_mono (ok' := (fun k_ => ((fun k_ => (w.heap.size ≤ k_) ∧ some k_ ≠ (.slice Ao26 t242.length co26 : Value).ownBlock ∧ k_ ≠ gb246 ∧ k_ ≠ g)) k_ ∧ some k_ ≠ (u3 : Value).ownBlock)) (HO252.out) (fun k_ hk => ⟨⟨hk.1, ⟨hk.2.2.1, ⟨hk.2.2.2.1, hk.2.2.2.2⟩⟩⟩, hk.2.1⟩))))); (case aF => exact (fun k_ hk => ⟨(Nat.le_trans (keep_size (w := w) (g := g) (row := none) zk) hk), tfr HO_247005 k_ hk, tfB BK246 k_ hk, IsS65.fresh zi65 k_ hk⟩)); (case aO => exact (tNm HO_3.out)); (case aS => exact (keep_size (w := w) (g := g) (row := none) zk)); (case aL => have := LMc37.out; omega); intro v255 w48 ho hb hg hat; rw [← Ny254.out] at ho; have n0_ := Aside0.mk (Kd.N_afterv (ok := (fun k_ => (w.heap.size ≤ k_) ∧ some k_ ≠ (.slice Ao43 t250.length co43 : Value).ownBlock ∧ k_ ≠ gb246 ∧ k_ ≠ g)) (tNm HO_247005.out) hg hat); have n1_ := Aside0.mk (blk_grown (tH BK246.out) hg (Kd.N_away HO_3.out (fun _ hk => hk.2.2.2.1))); have n2_ := Aside0.mk (IsS65.grown zi65 hg (IsS65.own_neN HI0.out HO_3.out (by decide))); have n3_ := Aside0.mk (below_weaken zb HL.out hb); have n4_ := Aside0.mk (KeepBut.trans zk (KeepBut.of_grown hg g) (Kd.N_base2 HO_3.out)); have n5_ := Aside0.mk (ho); have nx_ := Aside0.mk (Kd.N_grown (tN HO252.out) hg (fun k_ hk => by first | exact hk.2.1 | exact hk.2.2.1 | exact hk.1.2.1 | exact hk.1.2.2.1)); clear HO_247005; clear BK246; clear HI0; clear HB; clear HK; clear HO_3; clear HO252; have HO_247005 := n0_; have BK246 := n1_; have HI0 := n2_; have HB := n3_; have HK := n4_; have HO256 := n5_; clear n0_ n1_ n2_ n3_ n4_ n5_; have HO252 := nx_; clear nx_; clear ho hb hg hat))
            replace HO_247005 := Aside0.mk (Kd.N_drew HO_247005.out)
            replace HO256 := Aside0.mk (Kd.N_drew HO256.out)
            replace BK246 := Aside0.mk (blk_drew BK246.out)
            replace HI0 := Aside0.mk (IsS65.drew HI0.out)
            replace HK := Aside0.mk (keep_drew HK.out)
            replace HB := Aside0.mk (below_drew1 HB.out)
            have p257 : 0 ≤ ((ji38) : Int) := td
            have q257 : (ji38) < (t250.length : Int) := td
            have HO252 := Aside0.mk (Kd.N_drew HO252.out)
            obtain ⟨ad257, A257_3, c257_3, A257_5, c257_5, e257, hx257_0, hx257_1, hx257_2, hx257_3, hx257_4, hx257_5, hl257_3, hi257_3, hl257_5, hi257_5⟩ := at_T63 (Kd.N_reads' HO252.out).2.2 (ji38) p257 q257
            cases e257
            have HR257_3 := Aside0.mk hi257_3
            have HC257_3 := Aside0.mk hl257_3
            clear hi257_3 hl257_3
            have HR257_5 := Aside0.mk hi257_5
            have HC257_5 := Aside0.mk hl257_5
            clear hi257_5 hl257_5
            replace p257 := eq_true p257
            replace q257 := eq_true q257
            refine start_ (n := 16) (S := fun w' => w'.cell? ⟨gb246, 0, none⟩ = some (.bool false) ∧ w'.cell? ⟨gb246, 1, none⟩ = some (.bool false) ∧ w'.cell? ⟨gb246, 2, none⟩ = some (.int .i64 255) ∧ w'.cell? ⟨gb246, 3, none⟩ = some (.int .i64 0) ∧ w'.cell? ⟨gb246, 4, none⟩ = some (.int .i64 0) ∧ w'.cell? ⟨gb246, 5, none⟩ = some (.slice (some ad257) t250.length co43) ∧ w'.cell? (ad257.add (((ji38)).toNat * 6)) = some (.int .i64 ((rd_T63 t250 (ji38)).f0)) ∧ w'.cell? ⟨(ad257.add (((ji38)).toNat * 6)).block, (ad257.add (((ji38)).toNat * 6)).off + 1, none⟩ = some (.int .i64 ((rd_T63 t250 (ji38)).f1)) ∧ w'.cell? ⟨(ad257.add (((ji38)).toNat * 6)).block, (ad257.add (((ji38)).toNat * 6)).off + 2, none⟩ = some (.bool ((rd_T63 t250 (ji38)).f2)) ∧ w'.cell? ⟨(ad257.add (((ji38)).toNat * 6)).block, (ad257.add (((ji38)).toNat * 6)).off + 3, none⟩ = some (.slice A257_3 ((rd_T63 t250 (ji38)).f3).length c257_3) ∧ w'.cell? ⟨(ad257.add (((ji38)).toNat * 6)).block, (ad257.add (((ji38)).toNat * 6)).off + 4, none⟩ = some (.bool ((rd_T63 t250 (ji38)).f4)) ∧ w'.cell? ⟨(ad257.add (((ji38)).toNat * 6)).block, (ad257.add (((ji38)).toNat * 6)).off + 5, none⟩ = some (.slice A257_5 ((rd_T63 t250 (ji38)).f5).length c257_5)) (ds := []) #[false, false, false, false, false, false, false, false, false, false, false, false, false, false, false, false] (by kernel_rfl) rfl rfl ⟨(blk_cell BK246.out 0).trans rfl, (blk_cell BK246.out 1).trans rfl, (blk_cell BK246.out 2).trans rfl, (blk_cell BK246.out 3).trans rfl, (blk_cell BK246.out 4).trans rfl, (blk_cell BK246.out 5).trans rfl, hx257_0, hx257_1, hx257_2, hx257_3, hx257_4, hx257_5⟩ (fun hHeld => ?_); refine with_tabW spec_l92Log.tab13 spec_l92Log.bits13 (fun HT_ HW_ => ?_)
            generalize w48.drew = w49 at HO252 HO_247005 HO256 BK246 HI0 HK HB HR257_3 HR257_5 hx257_0 hx257_1 hx257_2 hx257_3 hx257_4 hx257_5 hHeld ⊢
            refine tpu 0 (some 46) #[true, false, false, false, false, false, false, false, false, false, false, false, false, false, false, false] ?_
            refine tpu 2 (some 48) #[true, false, true, false, false, false, false, false, false, false, false, false, false, false, false, false] ?_
            refine tpu 10 (some 56) #[true, false, true, false, false, false, false, false, false, false, true, false, false, false, false, false] ?_
            refine tta 1 (some 47) #[true, true, true, false, false, false, false, false, false, false, true, false, false, false, false, false] hHeld ?_ (hy := by rintro w' ⟨s0, s1, s2, s3, s4, s5, s6, s7, s8, s9, s10, s11⟩; go_simp; with_reducible rfl)
            refine tta 3 (some 49) #[true, true, true, true, false, false, false, false, false, false, true, false, false, false, false, false] hHeld ?_ (hy := by rintro w' ⟨s0, s1, s2, s3, s4, s5, s6, s7, s8, s9, s10, s11⟩; go_simp; with_reducible rfl)
            refine tpu 4 (some 50) #[true, true, true, true, true, false, false, false, false, false, true, false, false, false, false, false] ?_
            refine tpu 5 (some 51) #[true, true, true, true, true, true, false, false, false, false, true, false, false, false, false, false] ?_
            refine tpu 6 (some 52) #[true, true, true, true, true, true, true, false, false, false, true, false, false, false, false, false] ?_
            refine tpu 7 (some 53) #[true, true, true, true, true, true, true, true, false, false, true, false, false, false, false, false] ?_
            refine tta 8 (some 54) #[true, true, true, true, true, true, true, true, true, false, true, false, false, false, false, false] hHeld ?_ (hy := by rintro w' ⟨s0, s1, s2, s3, s4, s5, s6, s7, s8, s9, s10, s11⟩; go_simp; with_reducible rfl)
            refine tpu 9 (some 55) #[true, true, true, true, true, true, true, true, true, true, true, false, false, false, false, false] ?_
            refine one_ (i := 11) (N := some 57) #[true, true, true, true, true, true, true, true, true, true, true, true, false, false, false, false] rfl rfl (one_of HT_.out (by kernel_rfl)) (by decide) (fun K hK => ?_)
            refine goes_ Try.func26 (by kernel_rfl) rfl #[.pointer (some ⟨g, 0, none⟩), .int .i64 4] (by rfl) rfl rfl tq ?_
            with_reducible refine (spec_l6Rd_pick.calls kj20 g s0_0 t253 4 t258 t259 w0 _ ?side1 ?side2 A41.out).mono ?_
            (case side1 => exact zi65)
            (case side2 => exact zb)
            rintro e w50 ⟨rfl, hi, hb, hk⟩
            have HS6_ := keep_cell hk (hHeld.2.2.2.2.2.2.1) (tow (Kd.own_blk (IsS65.own_neN HI0.out HO252.out (by decide))))
            have HS7_ := keep_cell hk (hHeld.2.2.2.2.2.2.2.1) (tow (Kd.own_blk (IsS65.own_neN HI0.out HO252.out (by decide))))
            have HS8_ := keep_cell hk (hHeld.2.2.2.2.2.2.2.2.1) (tow (Kd.own_blk (IsS65.own_neN HI0.out HO252.out (by decide))))
            have HS9_ := keep_cell hk (hHeld.2.2.2.2.2.2.2.2.2.1) (tow (Kd.own_blk (IsS65.own_neN HI0.out HO252.out (by decide))))
            have HS10_ := keep_cell hk (hHeld.2.2.2.2.2.2.2.2.2.2.1) (tow (Kd.own_blk (IsS65.own_neN HI0.out HO252.out (by decide))))
            have HS11_ := keep_cell hk (hHeld.2.2.2.2.2.2.2.2.2.2.2) (tow (Kd.own_blk (IsS65.own_neN HI0.out HO252.out (by decide))))
            refine ⟨_, rfl, ?_⟩
            replace HO_247005 := tNk HO_247005 hk
            replace BK246 := tBk BK246 hk NB246_0
            replace HO256 := tNk HO256 hk
            replace HK := tKt HK hk
            replace HB := Aside0.mk (hb)
            replace HI0 := Aside0.mk (hi)
            (try clear hb)
            (try clear hb2)
            (try clear hk)
            (try clear hi)
            refine hK.out _ _ ⟨(blk_cell BK246.out 0).trans rfl, (blk_cell BK246.out 1).trans rfl, (blk_cell BK246.out 2).trans rfl, (blk_cell BK246.out 3).trans rfl, (blk_cell BK246.out 4).trans rfl, (blk_cell BK246.out 5).trans rfl, HS6_, HS7_, HS8_, HS9_, HS10_, HS11_⟩ (fun hHeld => ?_)
            clear hK K
            refine tnm (some 57) ?_
            refine tpu 12 (some 58) #[true, true, true, true, true, true, true, true, true, true, true, true, true, false, false, false] ?_
            refine tpu 13 (some 59) #[true, true, true, true, true, true, true, true, true, true, true, true, true, true, false, false] ?_
            refine tpu 14 (some 60) #[true, true, true, true, true, true, true, true, true, true, true, true, true, true, true, false] ?_
            refine tpu 15 (some 5) #[true, true, true, true, true, true, true, true, true, true, true, true, true, true, true, true] ?_
            refine done_ (done_of HT_.out (by kernel_rfl)) ?_
            try go_wp2
            go_roundg kj20
            case measure => have := HJ3.out; have := HK2.out; have := HJ20.out; omega
            case rel => exact ⟨(y254), (wrap64 ((wrap64 (((rd_T63 t250 (ji38)).f0) + 1)) + (wrap64 ((wrap64 (Int.tdiv t258 3)) * 2)))), (wrap64 (x6_2 + 1)), (t259), (by first | rfl | (simp; done) | (simp only [← hji38] <;> (first | rfl | simp)) | (simp [*]; done)), tr, H', ⟨by have := HJ3.out; have := HK2.out; have := HJ20.out; omega⟩, ⟨tNm HO256.out⟩, ⟨zi65⟩, ⟨zk⟩, ⟨zb⟩⟩
           ·rw [if_neg c40] at H
            exact absurd H (by simp)
          ·rw [if_neg c39] at H
           exact absurd H (by simp)
         ·rw [if_neg c37] at H
          exact absurd H (by simp)
        ·replace c35 := Bool.eq_false_iff.mpr c35
         subst c35
         rw [if_neg (show ¬ (false = true) by decide)] at H
         by_cases c51 : x3_2.length < 2513169434916
         ·rw [if_pos c51] at H
          have LMc51 := Aside0.mk c51
          clear c51
          obtain ⟨y260, hy260⟩ : ∃ y_ : List (S46), y_ = (x3_2 ++ [(⟨t237, t238, t239, t240, t241, t242⟩ : S46)]) := ⟨_, rfl⟩
          replace H : (if 0 ≤ (wrap64 ((t242.length : Int) - 1)) then (if (wrap64 ((t242.length : Int) - 1)) < (t242.length : Int) then ((spec_l6Rd_pick.f kj20 s0_0 x1001_20 4).bind fun bt264 => (spec_l92Log.l0 kj20 y260 x4_3 (wrap64 ((wrap64 (((rd_T63 t242 (wrap64 ((t242.length : Int) - 1))).f0) + 1)) + (wrap64 ((wrap64 (Int.tdiv bt264.1 3)) * 2)))) (wrap64 (x6_2 + 1)) s0_0 bt264.2)) else (none)) else (none)) = some (r1, r2) := by first | (rw [hy260]; with_reducible exact H) | (have H2_ := (Option.bind_some _ _).symm.trans H; rw [hy260]; with_reducible exact H2_) | (have H2_ := (Option.bind_some _ _).symm.trans H; with_reducible exact H2_) | with_reducible exact H | (rw [hy260]; exact H) | exact H
          have Ny260 := Aside0.mk hy260
          clear hy260
          obtain ⟨ji52, hji52⟩ : ∃ j_ : Int, (wrap64 ((t242.length : Int) - 1)) = j_ := ⟨_, rfl⟩
          replace H : (if 0 ≤ (ji52) then (if (ji52) < (t242.length : Int) then ((spec_l6Rd_pick.f kj20 s0_0 x1001_20 4).bind fun bt264 => (spec_l92Log.l0 kj20 y260 x4_3 (wrap64 ((wrap64 (((rd_T63 t242 (ji52)).f0) + 1)) + (wrap64 ((wrap64 (Int.tdiv bt264.1 3)) * 2)))) (wrap64 (x6_2 + 1)) s0_0 bt264.2)) else (none)) else (none)) = some (r1, r2) := by first | (rw [hji52] at H; exact H) | (simp only [hji52] at H ⊢; exact H)
          have hji52w : (IntKind.i64.wrap ((t242.length : Int) - 1)) = ji52 := (i64_w _).trans hji52
          by_cases c53 : 0 ≤ (ji52)
          ·rw [if_pos c53] at H
           have c53b0 : decide (0 ≤ (ji52)) = true := decide_eq_true c53
           clear c53
           by_cases c54 : (ji52) < (t242.length : Int)
           ·rw [if_pos c54] at H
            have c54b0 : decide ((ji52) < (t242.length : Int)) = true := decide_eq_true c54
            clear c54
            replace H := tbe H
            obtain ⟨⟨t264, t265⟩, A55, H⟩ := H
            dsimp only at H
            have H' := Aside0.mk H
            clear H
            have hnb56 := NB246_0.out
            have hnc56 := NB0_246.out
            obtain ⟨hcz57_0, hcz57_1, hcz57_2, hcz57_3, hcz57_4, hcz57_5, hfz57_0, hfz57_1, hfz57_2, hfz57_3, hfz57_4, hfz57_5⟩ := cells6 BK246.out
            try go_wp2_with (first | ((with_reducible refine gate_builtin (b := .append) (xs := #[.tmp 42, .tmp 44]) rfl ?_); at_builtin; refine Kd.N_append k46 w.heap.size rfl (.tmp 42) (.tmp 44) 23 46 (.agg #[(.bool false), (.bool false), (.int .i64 0), (.int .i64 0), (.int .i64 0), (.slice none 0 0)]) 56 rfl Try.underlying23 info46 rfl (by decide) (by omega) u3 x3_2 (⟨t237, t238, t239, t240, t241, t242⟩ : S46) [.bool t237, .bool t238, .int .i64 t239, .int .i64 t240, .int .i64 t241, .slice Ao26 t242.length co26] (fun k_ => (w.heap.size ≤ k_) ∧ k_ ≠ gb246 ∧ k_ ≠ g) (fun k_ => ((fun k_ => (w.heap.size ≤ k_) ∧ k_ ≠ gb246 ∧ k_ ≠ g)) k_ ∧ some k_ ≠ (u3 : Value).ownBlock) rfl rfl ?aP (fun _ hk => hk) ?aF ?aO (Below.refl _ _) ?aS ?aL ?_; (case aP => exact (k46_mkF _ _ (⟨t237, t238, t239, t240, t241, t242⟩ : S46) (Kd.N_reads' (Kd.N_mono (ok' := (fun k_ => ((fun k_ => (w.heap.size ≤ k_) ∧ k_ ≠ gb246 ∧ k_ ≠ g)) k_ ∧ some k_ ≠ (u3 : Value).ownBlock)) (HO_247005.out) (fun k_ hk => ⟨⟨hk.1, ⟨hk.2.2.1, hk.2.2.2⟩⟩, hk.2.1⟩))).2.1 (Kd.N_F (Kd.N_mono (ok' := (fun k_ => ((fun k_ => (w.heap.size ≤ k_) ∧ k_ ≠ gb246 ∧ k_ ≠ g)) k_ ∧ some k_ ≠ (u3 : Value).ownBlock)) (HO_247005.out) (fun k_ hk => ⟨⟨hk.1, ⟨hk.2.2.1, hk.2.2.2⟩⟩, hk.2.1⟩))))); (case aF => exact (fun k_ hk => ⟨(Nat.le_trans (keep_size (w := w) (g := g) (row := none) zk) hk), tfB BK246 k_ hk, IsS65.fresh zi65 k_ hk⟩)); (case aO => exact (tNm HO_3.out)); (case aS => exact (keep_size (w := w) (g := g) (row := none) zk)); (case aL => have := LMc51.out; omega); intro v261 w58 ho hb hg hat; rw [← Ny260.out] at ho; have n0_ := Aside0.mk (blk_grown (tH BK246.out) hg (Kd.N_away HO_3.out (fun _ hk => hk.2.2.1))); have n1_ := Aside0.mk (IsS65.grown zi65 hg (IsS65.own_neN HI0.out HO_3.out (by decide))); have n2_ := Aside0.mk (below_weaken zb HL.out hb); have n3_ := Aside0.mk (KeepBut.trans zk (KeepBut.of_grown hg g) (Kd.N_base2 HO_3.out)); have n4_ := Aside0.mk (ho); have nx_ := Aside0.mk (Kd.N_grown (tN HO_247005.out) hg (fun k_ hk => by first | exact hk.2.1 | exact hk.2.2.1 | exact hk.1.2.1 | exact hk.1.2.2.1)); clear BK246; clear HI0; clear HB; clear HK; clear HO_3; clear HO_247005; have BK246 := n0_; have HI0 := n1_; have HB := n2_; have HK := n3_; have HO262 := n4_; clear n0_ n1_ n2_ n3_ n4_; have HO_247005 := nx_; clear nx_; clear ho hb hg hat))
            replace HO262 := Aside0.mk (Kd.N_drew HO262.out)
            replace BK246 := Aside0.mk (blk_drew BK246.out)
            replace HI0 := Aside0.mk (IsS65.drew HI0.out)
            replace HK := Aside0.mk (keep_drew HK.out)
            replace HB := Aside0.mk (below_drew1 HB.out)
            have p263 : 0 ≤ ((ji52) : Int) := td
            have q263 : (ji52) < (t242.length : Int) := td
            have HO_247005 := Aside0.mk (Kd.N_drew HO_247005.out)
            obtain ⟨ad263, A263_3, c263_3, A263_5, c263_5, e263, hx263_0, hx263_1, hx263_2, hx263_3, hx263_4, hx263_5, hl263_3, hi263_3, hl263_5, hi263_5⟩ := at_T63 (Kd.N_reads' HO_247005.out).2.2 (ji52) p263 q263
            cases e263
            have HR263_3 := Aside0.mk hi263_3
            have HC263_3 := Aside0.mk hl263_3
            clear hi263_3 hl263_3
            have HR263_5 := Aside0.mk hi263_5
            have HC263_5 := Aside0.mk hl263_5
            clear hi263_5 hl263_5
            replace p263 := eq_true p263
            replace q263 := eq_true q263
            refine start_ (n := 16) (S := fun w' => w'.cell? ⟨gb246, 0, none⟩ = some (.bool t237) ∧ w'.cell? ⟨gb246, 1, none⟩ = some (.bool t238) ∧ w'.cell? ⟨gb246, 2, none⟩ = some (.int .i64 t239) ∧ w'.cell? ⟨gb246, 3, none⟩ = some (.int .i64 t240) ∧ w'.cell? ⟨gb246, 4, none⟩ = some (.int .i64 t241) ∧ w'.cell? ⟨gb246, 5, none⟩ = some (.slice (some ad263) t242.length co26) ∧ w'.cell? (ad263.add (((ji52)).toNat * 6)) = some (.int .i64 ((rd_T63 t242 (ji52)).f0)) ∧ w'.cell? ⟨(ad263.add (((ji52)).toNat * 6)).block, (ad263.add (((ji52)).toNat * 6)).off + 1, none⟩ = some (.int .i64 ((rd_T63 t242 (ji52)).f1)) ∧ w'.cell? ⟨(ad263.add (((ji52)).toNat * 6)).block, (ad263.add (((ji52)).toNat * 6)).off + 2, none⟩ = some (.bool ((rd_T63 t242 (ji52)).f2)) ∧ w'.cell? ⟨(ad263.add (((ji52)).toNat * 6)).block, (ad263.add (((ji52)).toNat * 6)).off + 3, none⟩ = some (.slice A263_3 ((rd_T63 t242 (ji52)).f3).length c263_3) ∧ w'.cell? ⟨(ad263.add (((ji52)).toNat * 6)).block, (ad263.add (((ji52)).toNat * 6)).off + 4, none⟩ = some (.bool ((rd_T63 t242 (ji52)).f4)) ∧ w'.cell? ⟨(ad263.add (((ji52)).toNat * 6)).block, (ad263.add (((ji52)).toNat * 6)).off + 5, none⟩ = some (.slice A263_5 ((rd_T63 t242 (ji52)).f5).length c263_5)) (ds := []) #[false, false, false, false, false, false, false, false, false, false, false, false, false, false, false, false] (by kernel_rfl) rfl rfl ⟨(blk_cell BK246.out 0).trans rfl, (blk_cell BK246.out 1).trans rfl, (blk_cell BK246.out 2).trans rfl, (blk_cell BK246.out 3).trans rfl, (blk_cell BK246.out 4).trans rfl, (blk_cell BK246.out 5).trans rfl, hx263_0, hx263_1, hx263_2, hx263_3, hx263_4, hx263_5⟩ (fun hHeld => ?_); refine with_tabW spec_l92Log.tab13 spec_l92Log.bits13 (fun HT_ HW_ => ?_)
            generalize w58.drew = w59 at HO_247005 HO262 BK246 HI0 HK HB HR263_3 HR263_5 hx263_0 hx263_1 hx263_2 hx263_3 hx263_4 hx263_5 hHeld ⊢
            refine tpu 0 (some 46) #[true, false, false, false, false, false, false, false, false, false, false, false, false, false, false, false] ?_
            refine tpu 2 (some 48) #[true, false, true, false, false, false, false, false, false, false, false, false, false, false, false, false] ?_
            refine tpu 10 (some 56) #[true, false, true, false, false, false, false, false, false, false, true, false, false, false, false, false] ?_
            refine tta 1 (some 47) #[true, true, true, false, false, false, false, false, false, false, true, false, false, false, false, false] hHeld ?_ (hy := by rintro w' ⟨s0, s1, s2, s3, s4, s5, s6, s7, s8, s9, s10, s11⟩; go_simp; with_reducible rfl)
            refine tta 3 (some 49) #[true, true, true, true, false, false, false, false, false, false, true, false, false, false, false, false] hHeld ?_ (hy := by rintro w' ⟨s0, s1, s2, s3, s4, s5, s6, s7, s8, s9, s10, s11⟩; go_simp; with_reducible rfl)
            refine tpu 4 (some 50) #[true, true, true, true, true, false, false, false, false, false, true, false, false, false, false, false] ?_
            refine tpu 5 (some 51) #[true, true, true, true, true, true, false, false, false, false, true, false, false, false, false, false] ?_
            refine tpu 6 (some 52) #[true, true, true, true, true, true, true, false, false, false, true, false, false, false, false, false] ?_
            refine tpu 7 (some 53) #[true, true, true, true, true, true, true, true, false, false, true, false, false, false, false, false] ?_
            refine tta 8 (some 54) #[true, true, true, true, true, true, true, true, true, false, true, false, false, false, false, false] hHeld ?_ (hy := by rintro w' ⟨s0, s1, s2, s3, s4, s5, s6, s7, s8, s9, s10, s11⟩; go_simp; with_reducible rfl)
            refine tpu 9 (some 55) #[true, true, true, true, true, true, true, true, true, true, true, false, false, false, false, false] ?_
            refine one_ (i := 11) (N := some 57) #[true, true, true, true, true, true, true, true, true, true, true, true, false, false, false, false] rfl rfl (one_of HT_.out (by kernel_rfl)) (by decide) (fun K hK => ?_)
            refine goes_ Try.func26 (by kernel_rfl) rfl #[.pointer (some ⟨g, 0, none⟩), .int .i64 4] (by rfl) rfl rfl tq ?_
            with_reducible refine (spec_l6Rd_pick.calls kj20 g s0_0 x1001_20 4 t264 t265 w0 _ ?side1 ?side2 A55.out).mono ?_
            (case side1 => exact zi65)
            (case side2 => exact zb)
            rintro e w60 ⟨rfl, hi, hb, hk⟩
            have HS6_ := keep_cell hk (hHeld.2.2.2.2.2.2.1) (tow (Kd.own_blk (IsS65.own_neN HI0.out HO_247005.out (by decide))))
            have HS7_ := keep_cell hk (hHeld.2.2.2.2.2.2.2.1) (tow (Kd.own_blk (IsS65.own_neN HI0.out HO_247005.out (by decide))))
            have HS8_ := keep_cell hk (hHeld.2.2.2.2.2.2.2.2.1) (tow (Kd.own_blk (IsS65.own_neN HI0.out HO_247005.out (by decide))))
            have HS9_ := keep_cell hk (hHeld.2.2.2.2.2.2.2.2.2.1) (tow (Kd.own_blk (IsS65.own_neN HI0.out HO_247005.out (by decide))))
            have HS10_ := keep_cell hk (hHeld.2.2.2.2.2.2.2.2.2.2.1) (tow (Kd.own_blk (IsS65.own_neN HI0.out HO_247005.out (by decide))))
            have HS11_ := keep_cell hk (hHeld.2.2.2.2.2.2.2.2.2.2.2) (tow (Kd.own_blk (IsS65.own_neN HI0.out HO_247005.out (by decide))))
            refine ⟨_, rfl, ?_⟩
            replace BK246 := tBk BK246 hk NB246_0
            replace HO262 := tNk HO262 hk
            replace HK := tKt HK hk
            replace HB := Aside0.mk (hb)
            replace HI0 := Aside0.mk (hi)
            (try clear hb)
            (try clear hb2)
            (try clear hk)
            (try clear hi)
            refine hK.out _ _ ⟨(blk_cell BK246.out 0).trans rfl, (blk_cell BK246.out 1).trans rfl, (blk_cell BK246.out 2).trans rfl, (blk_cell BK246.out 3).trans rfl, (blk_cell BK246.out 4).trans rfl, (blk_cell BK246.out 5).trans rfl, HS6_, HS7_, HS8_, HS9_, HS10_, HS11_⟩ (fun hHeld => ?_)
            clear hK K
            refine tnm (some 57) ?_
            refine tpu 12 (some 58) #[true, true, true, true, true, true, true, true, true, true, true, true, true, false, false, false] ?_
            refine tpu 13 (some 59) #[true, true, true, true, true, true, true, true, true, true, true, true, true, true, false, false] ?_
            refine tpu 14 (some 60) #[true, true, true, true, true, true, true, true, true, true, true, true, true, true, true, false] ?_
            refine tpu 15 (some 5) #[true, true, true, true, true, true, true, true, true, true, true, true, true, true, true, true] ?_
            refine done_ (done_of HT_.out (by kernel_rfl)) ?_
            try go_wp2
            go_roundg kj20
            case measure => have := HJ3.out; have := HK2.out; have := HJ20.out; omega
            case rel => exact ⟨(y260), (wrap64 ((wrap64 (((rd_T63 t242 (ji52)).f0) + 1)) + (wrap64 ((wrap64 (Int.tdiv t264 3)) * 2)))), (wrap64 (x6_2 + 1)), (t265), (by first | rfl | (simp; done) | (simp only [← hji52] <;> (first | rfl | simp)) | (simp [*]; done)), tr, H', ⟨by have := HJ3.out; have := HK2.out; have := HJ20.out; omega⟩, ⟨tNm HO262.out⟩, ⟨zi65⟩, ⟨zk⟩, ⟨zb⟩⟩
           ·rw [if_neg c54] at H
            exact absurd H (by simp)
          ·rw [if_neg c53] at H
           exact absurd H (by simp)
         ·rw [if_neg c51] at H
          exact absurd H (by simp)
     ·rw [if_neg c19] at H
      have c19b0 : decide (x6_2 < x4_3) = false := decide_eq_false c19
      clear c19
      by_cases c61 : x4_3 > 1
      ·rw [if_pos c61] at H
       have c61b0 : decide (1 < x4_3) = true := decide_eq_true c61
       clear c61
       replace H := tbe H
       obtain ⟨⟨t233, t234⟩, A62, H⟩ := H
       dsimp only at H
       by_cases c63 : t233 = 0
       ·rw [if_pos c63] at H
        have c63b0 : (t233 == 0) = true := beq_iff_eq.mpr c63
        have c63b1 : (t233 != 0) = false := bne_eq_false_iff_eq.mpr c63
        clear c63
        by_cases c64 : 0 < (x3_2.length : Int)
        ·rw [if_pos c64] at H
         have c64b0 : decide (0 < (x3_2.length : Int)) = true := decide_eq_true c64
         have c64b1 : decide (0 < x3_2.length) = true := decide_eq_true (by omega)
         clear c64
         by_cases c65 : 1 < (x3_2.length : Int)
         ·rw [if_pos c65] at H
          have c65b0 : decide (1 < (x3_2.length : Int)) = true := decide_eq_true c65
          have c65b1 : decide (1 < x3_2.length) = true := decide_eq_true (by omega)
          clear c65
          obtain ⟨y236, hy236⟩ : ∃ y_ : List (S46), y_ = (x3_2.set (1 : Int).toNat (⟨(rd_T46 x3_2 0).f0, (rd_T46 x3_2 0).f1, (rd_T46 x3_2 0).f2, (rd_T46 x3_2 0).f3, (rd_T46 x3_2 0).f4, (rd_T46 x3_2 0).f5⟩ : S46)) := ⟨_, rfl⟩
          replace H : (some (y236, t234)) = some (r1, r2) := by first | (rw [hy236]; with_reducible exact H) | (have H2_ := (Option.bind_some _ _).symm.trans H; rw [hy236]; with_reducible exact H2_) | (have H2_ := (Option.bind_some _ _).symm.trans H; with_reducible exact H2_) | with_reducible exact H | (rw [hy236]; exact H) | exact H
          have Ny236 := Aside0.mk hy236
          clear hy236
          simp only [Option.some.injEq, Prod.mk.injEq] at H
          obtain ⟨rfl, rfl⟩ := H
          go_wp2_with (first | (go_at_call 26; (with_reducible refine (spec_l6Rd_pick.calls k2 g s0_0 x1001_2 30 t233 t234 w0 _ ?side1 ?side2 A62.out).mono ?_); (case side1 => exact zi65); (case side2 => exact zb); rintro e w67 ⟨rfl, hi, hb, hk⟩; replace HO_3 := tNk HO_3 hk; replace HK := tKt HK hk; replace HB := Aside0.mk (hb); replace HI0 := Aside0.mk (hi); (try clear hb); (try clear hb2); (try clear hk); (try clear hi); obtain ⟨Ao68, co68, eo68⟩ := Kd.N_slice HO_3.out; subst eo68; have p235 : 0 ≤ (0 : Int) := (by omega); have q235 : 0 < (x3_2.length : Int) := td; obtain ⟨ad235, A235_5, c235_5, e235, hx235_0, hx235_1, hx235_2, hx235_3, hx235_4, hx235_5, hl235_5, hi235_5⟩ := at_T46 (Kd.N_reads' HO_3.out).2.2 0 p235 q235; cases e235; obtain ⟨ce235, hce235, hMe235, hcc235⟩ := Kd.N_get HO_3.out z46 0 p235 (by first | exact q235 | exact td | (have e_ := (Kd.N_reads' HO_3.out).1; omega)); obtain ⟨ua235_5, uc235_5, rfl, ul235_5, ge235_5⟩ := k46_openF hMe235; have hv235_5 := hcc235 5 _ rfl; rw [add_field _ _ 5 (by omega)] at hv235_5; replace hv235_5 := Option.some.inj (hv235_5.symm.trans hx235_5); injection hv235_5 with hva_ hvn_ hvc_; rw [hva_] at ge235_5; rw [hvc_] at ul235_5; have HL235_5 := Aside0.mk (show Kd.V k63 63 _ w.heap.size _ _ ((rd_T46 x3_2 0).f5) from Kd.V_mk ul235_5 ge235_5); clear hva_ hvn_ hvc_ ge235_5 ul235_5; clear hcc235 hce235; have qi235 : (0 < x3_2.length) = True := eq_true (by omega); (try rw [show ((0 : Int)).toNat = 0 from rfl] at hx235_0); (try rw [show 0 * 6 = 0 from rfl] at hx235_0); (try rw [Addr.add_zero'] at hx235_0); (try rw [show ((0 : Int)).toNat = 0 from rfl] at hx235_1); (try rw [show 0 * 6 = 0 from rfl] at hx235_1); (try rw [Addr.add_zero'] at hx235_1); (try rw [show ((0 : Int)).toNat = 0 from rfl] at hx235_2); (try rw [show 0 * 6 = 0 from rfl] at hx235_2); (try rw [Addr.add_zero'] at hx235_2); (try rw [show ((0 : Int)).toNat = 0 from rfl] at hx235_3); (try rw [show 0 * 6 = 0 from rfl] at hx235_3); (try rw [Addr.add_zero'] at hx235_3); (try rw [show ((0 : Int)).toNat = 0 from rfl] at hx235_4); (try rw [show 0 * 6 = 0 from rfl] at hx235_4); (try rw [Addr.add_zero'] at hx235_4); (try rw [show ((0 : Int)).toNat = 0 from rfl] at hx235_5); (try rw [show 0 * 6 = 0 from rfl] at hx235_5); (try rw [Addr.add_zero'] at hx235_5); have HR235_5 := Aside0.mk hi235_5; have HC235_5 := Aside0.mk hl235_5; clear hi235_5 hl235_5; replace p235 := eq_true p235; replace q235 := eq_true q235; have p66 : 0 ≤ (1 : Int) := (by omega); have q66 : (1 : Int) < ((x3_2.length : Int) : Int) := td; have qi66 : (1 < x3_2.length) = True := eq_true (by omega); obtain ⟨go66, co66, eo66, gb66, gl66, cl66, HG66⟩ := Kd.N_form HO_3.out (by omega); (first | cases eo66 | (injection eo66 with ea_ en_ ec_; (first | subst ea_ | (injection ea_ with ea_; subst ea_)); subst ec_; clear en_)); have GB66 := Aside0.mk gb66; have GG66 := Aside0.mk HG66; clear gb66 gl66 HG66; (first | simp only [add_plain] at hx235_0 | skip); (first | simp only [add_plain] at hx235_1 | skip); (first | simp only [add_plain] at hx235_2 | skip); (first | simp only [add_plain] at hx235_3 | skip); (first | simp only [add_plain] at hx235_4 | skip); (first | simp only [add_plain] at hx235_5 | skip); obtain ⟨ce66, hcl66, hM66, hcc66, hfr66⟩ := Kd.N_elem HO_3.out z46 (1 : Int) p66 q66; obtain ⟨ua66_5, uc66_5, rfl, ul66_5, ge66_5⟩ := k46_openF hM66; have hx66_0 : w67.cell? ⟨go66, (1 : Int).toNat * 6, none⟩ = some (.bool ((rd_T46 x3_2 1).f0)) := hcc66 0 _ rfl; have hx66_1 : w67.cell? ⟨go66, (1 : Int).toNat * 6 + 1, none⟩ = some (.bool ((rd_T46 x3_2 1).f1)) := hcc66 1 _ rfl; have hx66_2 : w67.cell? ⟨go66, (1 : Int).toNat * 6 + 2, none⟩ = some (.int .i64 ((rd_T46 x3_2 1).f2)) := hcc66 2 _ rfl; have hx66_3 : w67.cell? ⟨go66, (1 : Int).toNat * 6 + 3, none⟩ = some (.int .i64 ((rd_T46 x3_2 1).f3)) := hcc66 3 _ rfl; have hx66_4 : w67.cell? ⟨go66, (1 : Int).toNat * 6 + 4, none⟩ = some (.int .i64 ((rd_T46 x3_2 1).f4)) := hcc66 4 _ rfl; have hx66_5 : w67.cell? ⟨go66, (1 : Int).toNat * 6 + 5, none⟩ = some (.slice ua66_5 ((rd_T46 x3_2 1).f5).length uc66_5) := hcc66 5 _ rfl; have hf66_0 : w67.frozen? ⟨go66, (1 : Int).toNat * 6, none⟩ = false := hfr66 0; have hf66_1 : w67.frozen? ⟨go66, (1 : Int).toNat * 6 + 1, none⟩ = false := hfr66 1; have hf66_2 : w67.frozen? ⟨go66, (1 : Int).toNat * 6 + 2, none⟩ = false := hfr66 2; have hf66_3 : w67.frozen? ⟨go66, (1 : Int).toNat * 6 + 3, none⟩ = false := hfr66 3; have hf66_4 : w67.frozen? ⟨go66, (1 : Int).toNat * 6 + 4, none⟩ = false := hfr66 4; have hf66_5 : w67.frozen? ⟨go66, (1 : Int).toNat * 6 + 5, none⟩ = false := hfr66 5; clear hcl66 hcc66 hfr66 hM66; (try rw [show ((1 : Int)).toNat = 1 from rfl] at hx66_0); (try simp only [Nat.reduceMul, Nat.zero_mul, Nat.zero_add, Nat.reduceAdd] at hx66_0); (try rw [show ((1 : Int)).toNat = 1 from rfl] at hf66_0); (try simp only [Nat.reduceMul, Nat.zero_mul, Nat.zero_add, Nat.reduceAdd] at hf66_0); (try rw [show ((1 : Int)).toNat = 1 from rfl] at hx66_1); (try simp only [Nat.reduceMul, Nat.zero_mul, Nat.zero_add, Nat.reduceAdd] at hx66_1); (try rw [show ((1 : Int)).toNat = 1 from rfl] at hf66_1); (try simp only [Nat.reduceMul, Nat.zero_mul, Nat.zero_add, Nat.reduceAdd] at hf66_1); (try rw [show ((1 : Int)).toNat = 1 from rfl] at hx66_2); (try simp only [Nat.reduceMul, Nat.zero_mul, Nat.zero_add, Nat.reduceAdd] at hx66_2); (try rw [show ((1 : Int)).toNat = 1 from rfl] at hf66_2); (try simp only [Nat.reduceMul, Nat.zero_mul, Nat.zero_add, Nat.reduceAdd] at hf66_2); (try rw [show ((1 : Int)).toNat = 1 from rfl] at hx66_3); (try simp only [Nat.reduceMul, Nat.zero_mul, Nat.zero_add, Nat.reduceAdd] at hx66_3); (try rw [show ((1 : Int)).toNat = 1 from rfl] at hf66_3); (try simp only [Nat.reduceMul, Nat.zero_mul, Nat.zero_add, Nat.reduceAdd] at hf66_3); (try rw [show ((1 : Int)).toNat = 1 from rfl] at hx66_4); (try simp only [Nat.reduceMul, Nat.zero_mul, Nat.zero_add, Nat.reduceAdd] at hx66_4); (try rw [show ((1 : Int)).toNat = 1 from rfl] at hf66_4); (try simp only [Nat.reduceMul, Nat.zero_mul, Nat.zero_add, Nat.reduceAdd] at hf66_4); (try rw [show ((1 : Int)).toNat = 1 from rfl] at hx66_5); (try simp only [Nat.reduceMul, Nat.zero_mul, Nat.zero_add, Nat.reduceAdd] at hx66_5); (try rw [show ((1 : Int)).toNat = 1 from rfl] at hf66_5); (try simp only [Nat.reduceMul, Nat.zero_mul, Nat.zero_add, Nat.reduceAdd] at hf66_5); replace p66 := eq_true p66; replace q66 := eq_true q66; have HX69 := Aside0.mk (show Kd.N k46 46 w67 w.heap.size (fun k_ => (w.heap.size ≤ k_) ∧ k_ ≠ g) (.slice (some ⟨go66, 0, none⟩) x3_2.length co68) x3_2 from (tN HO_3.out)); obtain ⟨ce69, hcl69, hM69, hcc69, hfr69⟩ := Kd.N_elem HX69.out z46 (1 : Int) (by omega) (by have h_ : (1 : Int) < ((x3_2.length : Int) : Int) := td; first | exact h_ | (have e_ := (Kd.N_reads' HO_3.out).1; omega) | simpa using h_); obtain ⟨ua69_5, uc69_5, rfl, ul69_5, ge69_5⟩ := k46_openF hM69; have HP69 := Kd.N_seg HX69.out (1 : Int) (by omega) (by have h_ : (1 : Int) < ((x3_2.length : Int) : Int) := td; first | exact h_ | (have e_ := (Kd.N_reads' HO_3.out).1; omega) | simpa using h_) (seg := [.bool ((rd_T46 x3_2 0).f0), .bool ((rd_T46 x3_2 0).f1), .int .i64 ((rd_T46 x3_2 0).f2), .int .i64 ((rd_T46 x3_2 0).f3), .int .i64 ((rd_T46 x3_2 0).f4), .slice A235_5 ((rd_T46 x3_2 0).f5).length c235_5]) (j := 0) hcl69 hcc69 (show 6 ≤ 6 from by decide) (x' := (⟨(rd_T46 x3_2 0).f0, (rd_T46 x3_2 0).f1, (rd_T46 x3_2 0).f2, (rd_T46 x3_2 0).f3, (rd_T46 x3_2 0).f4, (rd_T46 x3_2 0).f5⟩ : S46)) (k46_mkF _ _ (⟨(rd_T46 x3_2 0).f0, (rd_T46 x3_2 0).f1, (rd_T46 x3_2 0).f2, (rd_T46 x3_2 0).f3, (rd_T46 x3_2 0).f4, (rd_T46 x3_2 0).f5⟩ : S46) (Kd.V_reads' (Kd.V_mono (ok' := (fun k_ => ((fun k_ => (w.heap.size ≤ k_) ∧ k_ ≠ g)) k_ ∧ k_ ≠ go66)) (HL235_5.out) (fun k_ hk => ⟨⟨hk.1.1, hk.1.2⟩, fun e_ => (hk.2) (by rw [e_]; rfl)⟩))).2.1 (Kd.V_F (Kd.V_mono (ok' := (fun k_ => ((fun k_ => (w.heap.size ≤ k_) ∧ k_ ≠ g)) k_ ∧ k_ ≠ go66)) (HL235_5.out) (fun k_ hk => ⟨⟨hk.1.1, hk.1.2⟩, fun e_ => (hk.2) (by rw [e_]; rfl)⟩)))) (fun _ hk => hk); have hx69_0 := hcc69 0 _ rfl; (try simp only [show (k46).sz = 6 from rfl, Nat.mul_one, Nat.add_zero] at hx69_0); (try rw [show ((1 : Int)).toNat = 1 from rfl] at hx69_0); (try simp only [Nat.reduceMul, Nat.zero_mul, Nat.zero_add, Nat.reduceAdd] at hx69_0); have hf69_0 := hfr69 0; (try simp only [show (k46).sz = 6 from rfl, Nat.mul_one, Nat.add_zero] at hf69_0); (try rw [show ((1 : Int)).toNat = 1 from rfl] at hf69_0); (try simp only [Nat.reduceMul, Nat.zero_mul, Nat.zero_add, Nat.reduceAdd] at hf69_0); have hx69_1 := hcc69 1 _ rfl; (try simp only [show (k46).sz = 6 from rfl, Nat.mul_one, Nat.add_zero] at hx69_1); (try rw [show ((1 : Int)).toNat = 1 from rfl] at hx69_1); (try simp only [Nat.reduceMul, Nat.zero_mul, Nat.zero_add, Nat.reduceAdd] at hx69_1); have hf69_1 := hfr69 1; (try simp only [show (k46).sz = 6 from rfl, Nat.mul_one, Nat.add_zero] at hf69_1); (try rw [show ((1 : Int)).toNat = 1 from rfl] at hf69_1); (try simp only [Nat.reduceMul, Nat.zero_mul, Nat.zero_add, Nat.reduceAdd] at hf69_1); have hx69_2 := hcc69 2 _ rfl; (try simp only [show (k46).sz = 6 from rfl, Nat.mul_one, Nat.add_zero] at hx69_2); (try rw [show ((1 : Int)).toNat = 1 from rfl] at hx69_2); (try simp only [Nat.reduceMul, Nat.zero_mul, Nat.zero_add, Nat.reduceAdd] at hx69_2); have hf69_2 := hfr69 2; (try simp only [show (k46).sz = 6 from rfl, Nat.mul_one, Nat.add_zero] at hf69_2); (try rw [show ((1 : Int)).toNat = 1 from rfl] at hf69_2); (try simp only [Nat.reduceMul, Nat.zero_mul, Nat.zero_add, Nat.reduceAdd] at hf69_2); have hx69_3 := hcc69 3 _ rfl; (try simp only [show (k46).sz = 6 from rfl, Nat.mul_one, Nat.add_zero] at hx69_3); (try rw [show ((1 : Int)).toNat = 1 from rfl] at hx69_3); (try simp only [Nat.reduceMul, Nat.zero_mul, Nat.zero_add, Nat.reduceAdd] at hx69_3); have hf69_3 := hfr69 3; (try simp only [show (k46).sz = 6 from rfl, Nat.mul_one, Nat.add_zero] at hf69_3); (try rw [show ((1 : Int)).toNat = 1 from rfl] at hf69_3); (try simp only [Nat.reduceMul, Nat.zero_mul, Nat.zero_add, Nat.reduceAdd] at hf69_3); have hx69_4 := hcc69 4 _ rfl; (try simp only [show (k46).sz = 6 from rfl, Nat.mul_one, Nat.add_zero] at hx69_4); (try rw [show ((1 : Int)).toNat = 1 from rfl] at hx69_4); (try simp only [Nat.reduceMul, Nat.zero_mul, Nat.zero_add, Nat.reduceAdd] at hx69_4); have hf69_4 := hfr69 4; (try simp only [show (k46).sz = 6 from rfl, Nat.mul_one, Nat.add_zero] at hf69_4); (try rw [show ((1 : Int)).toNat = 1 from rfl] at hf69_4); (try simp only [Nat.reduceMul, Nat.zero_mul, Nat.zero_add, Nat.reduceAdd] at hf69_4); have hx69_5 := hcc69 5 _ rfl; (try simp only [show (k46).sz = 6 from rfl, Nat.mul_one, Nat.add_zero] at hx69_5); (try rw [show ((1 : Int)).toNat = 1 from rfl] at hx69_5); (try simp only [Nat.reduceMul, Nat.zero_mul, Nat.zero_add, Nat.reduceAdd] at hx69_5); have hf69_5 := hfr69 5; (try simp only [show (k46).sz = 6 from rfl, Nat.mul_one, Nat.add_zero] at hf69_5); (try rw [show ((1 : Int)).toNat = 1 from rfl] at hf69_5); (try simp only [Nat.reduceMul, Nat.zero_mul, Nat.zero_add, Nat.reduceAdd] at hf69_5); clear hcl69 hcc69 hfr69 hM69) | ((with_reducible refine gate_store (t := 46) (p := 72) rfl ?_); refine store_event (t := 46) (p := 72) (v := ?vo_w70) (w1 := ((((((w67.setCell ⟨go66, 6, none⟩ (.bool ((rd_T46 x3_2 0).f0))).setCell ⟨go66, 7, none⟩ (.bool ((rd_T46 x3_2 0).f1))).setCell ⟨go66, 8, none⟩ (.int .i64 ((rd_T46 x3_2 0).f2))).setCell ⟨go66, 9, none⟩ (.int .i64 ((rd_T46 x3_2 0).f3))).setCell ⟨go66, 10, none⟩ (.int .i64 ((rd_T46 x3_2 0).f4))).setCell ⟨go66, 11, none⟩ (.slice A235_5 ((rd_T46 x3_2 0).f5).length c235_5))) ?hg ?ho ?hn ?hr ?_; (case ho => rfl); (case hg => rfl); (case hn => rfl); (case hr => first | (go_simp; done) | (go_simp; rfl)); intro w70 hw; have hg : w67.grownBy w70 (some go66) := (by rw [hw]; exact HP69.2); have hp_ : Kd.N k46 46 w70 w.heap.size (fun k_ => (w.heap.size ≤ k_) ∧ k_ ≠ g) (.slice (some ⟨go66, 0, none⟩) x3_2.length co68) y236 := (by rw [hw, Ny236.out]; exact HP69.1); clear HP69; replace HI0 := Aside0.mk (IsS65.grown zi65 hg (IsS65.own_neN HI0.out HO_3.out (by decide))); replace HL235_5 := Aside0.mk (Kd.V_afterv (v := (.slice (some ⟨go66, 0, none⟩) x3_2.length co68)) (v1 := (.slice (some ⟨go66, 0, none⟩) x3_2.length co68)) (ok := (fun k_ => (w.heap.size ≤ k_) ∧ k_ ≠ g)) (tV HL235_5.out) hg (.inl rfl)); replace HB := Aside0.mk ((by rw [hw]; exact below_set (below_set (below_set (below_set (below_set (below_set (HB.out) (Nat.le_trans HL.out GB66.out)) (Nat.le_trans HL.out GB66.out)) (Nat.le_trans HL.out GB66.out)) (Nat.le_trans HL.out GB66.out)) (Nat.le_trans HL.out GB66.out)) (Nat.le_trans HL.out GB66.out) : Below w0.heap.size w0 w70)); replace HK := Aside0.mk (KeepBut.trans zk (KeepBut.of_grown hg g) (Kd.N_base2 HO_3.out)); replace HO_3 := Aside0.mk (hp_); clear hg hw hp_))
          go_ret
          exact ⟨_, by first | rfl | (simp [errW_none, errW_some] <;> rfl) | (simp [*, errW_none, errW_some] <;> rfl), tNm HO_3.out, zi65, zb, zk⟩
         ·rw [if_neg c65] at H
          exact absurd H (by simp)
        ·rw [if_neg c64] at H
         exact absurd H (by simp)
       ·rw [if_neg c63] at H
        have c63b0 : (t233 == 0) = false := beq_eq_false_iff_ne.mpr c63
        have c63b1 : (t233 != 0) = true := bne_iff_ne.mpr c63
        simp only [Option.some.injEq, Prod.mk.injEq] at H
        obtain ⟨rfl, rfl⟩ := H
        go_wp2_with (first | (go_at_call 26; (with_reducible refine (spec_l6Rd_pick.calls k2 g s0_0 x1001_2 30 t233 t234 w0 _ ?side1 ?side2 A62.out).mono ?_); (case side1 => exact zi65); (case side2 => exact zb); rintro e w71 ⟨rfl, hi, hb, hk⟩; replace HO_3 := tNk HO_3 hk; replace HK := tKt HK hk; replace HB := Aside0.mk (hb); replace HI0 := Aside0.mk (hi); (try clear hb); (try clear hb2); (try clear hk); (try clear hi)))
        go_ret
        exact ⟨_, by first | rfl | (simp [errW_none, errW_some] <;> rfl) | (simp [*, errW_none, errW_some] <;> rfl), tNm HO_3.out, zi65, zb, zk⟩
      ·rw [if_neg c61] at H
       have c61b0 : decide (1 < x4_3) = false := decide_eq_false c61
       clear c61
       simp only [Option.some.injEq, Prod.mk.injEq] at H
       obtain ⟨rfl, rfl⟩ := H
       go_wp2
       go_ret
       exact ⟨_, by first | rfl | (simp [errW_none, errW_some] <;> rfl) | (simp [*, errW_none, errW_some] <;> rfl), tNm HO_3.out, zi65, zb, zk⟩

end Go.Proofs.Ythoioccmnphfgaa.G

namespace Go.Proofs.Ythoioccmnphfgaa.G
open Go.RowKit Go.Proofs.YthoioccmnphfgaaW.PrintWords Go.Proofs.YthoioccmnphfgaaW.PrintLast Go.Proofs.YthoioccmnphfgaaW.PrintMore
attribute [local go_sem] max2_int min2_int max_two min_two max_three min_three max_four min_four   -- for this text's walks alone
set_option linter.unusedVariables false
set_option linter.unusedSimpArgs false

def spec_l6Open.f (l0 : List Int) : Option (List Int × Int) := if (l0.length : Int) > 2000 then (if 2000 ≤ (l0.length : Int) then (some (l0.take 2000, 0)) else (none)) else (some (l0, 0))
set_option maxHeartbeats 8000000 in
set_option maxRecDepth 100000 in
theorem spec_l6Open.calls (A0 : Option Addr) (c0 : Nat) (l0 : List Int) (r1 : List Int) (r2 : Int) (w0 w : World) (hB : Below w0.heap.size w0 w) (hr0 : Kd.C (Kd.int .u8) w0 A0 l0.length l0) (hc0 : l0.length ≤ c0) (h : spec_l6Open.f l0 = some (r1, r2)) :
  Calls Try.prog 20 #[.slice A0 l0.length c0] w fun e w' => ∃ g_ : Nat, e = .returned (.pointer (some ⟨g_, 0, none⟩)) ∧ IsS65 w0 w' g_ r1 r2 ∧ Below w0.heap.size w0 w' ∧ Below w.heap.size w w' := by
 have hu65 := Try.underlying65
 have HR0 := Aside0.mk hr0
 have HC0 := Aside0.mk hc0
 clear hr0 hc0
 have HBW := Aside0.mk (Below.refl w.heap.size w)
 have HW0 := Aside0.mk hB.size
 have HB := Aside0.mk hB
 clear hB
 have H : (if (l0.length : Int) > 2000 then (if 2000 ≤ (l0.length : Int) then (some (l0.take 2000, 0)) else (none)) else (some (l0, 0))) = some (r1, r2) := h
 clear h
 by_cases c2 : (l0.length : Int) > 2000
 ·rw [if_pos c2] at H
  have c2b0 : decide (2000 < (l0.length : Int)) = true := decide_eq_true c2
  have c2b1 : decide (2000 < l0.length) = true := decide_eq_true (by omega)
  clear c2
  by_cases c3 : 2000 ≤ (l0.length : Int)
  ·rw [if_pos c3] at H
   have c3b0 := eq_true c3
   have c3b1 : decide (2000 ≤ (l0.length : Int)) = true := decide_eq_true c3
   clear c3
   simp only [Option.some.injEq, Prod.mk.injEq] at H
   obtain ⟨rfl, rfl⟩ := H
   obtain ⟨i04, hi04, _, hsz4, _⟩ := info_parts info5
   obtain ⟨hcut4, hA4, hC4⟩ := print_take_of (P := Try.prog) (Value.int .u8) 0 22 5 .i64 Try.underlying22 hi04 hsz4 A0 c0 l0 2000 (by omega) (td) HC0.out
   have HR266 := Aside0.mk (Kd.C_of_reads (h1 := fun _ => rfl) (hA4 _ (Kd.reads_of_C HR0.out)))
   have HC266 := Aside0.mk hC4
   clear hA4 hC4 hi04 hsz4
   go_enter Try.func20, Try.ntmps20
   go_wp2_with (first | ((with_reducible refine gate_dst (N := 10) rfl ?_); refine box_event ?hg (N := 10) ?hd (cs := #[.slice A0 (l0.take 2000).length c0, .int .i64 0]) (t := 65) ?hr ?_; (case hd => rfl); (case hg => rfl); (case hr => first | (go_simp; done) | (go_simp; rfl)); intro gb267 hg w5 hbox hb; replace HB := tBs HB hb; have BK267 := Aside0.mk (hbox); have GW267 := Aside0.mk ((by rw [hg]; exact (below_size (by repeat (first | (with_reducible first | exact HBW.out | apply below_alloc | apply pw_below_drewN | apply below_drew1) | exact HBW.out))) : w.heap.size ≤ gb267)); have GE267 := Aside0.mk ((Nat.le_trans HW0.out (by rw [hg]; exact (below_size (by repeat (first | (with_reducible first | exact HBW.out | apply below_alloc | apply pw_below_drewN | apply below_drew1) | exact HBW.out))) : w.heap.size ≤ gb267) : w0.heap.size ≤ gb267)); replace HBW := Aside0.mk (below_step HBW.out hb); clear hb hbox hg))
   go_ret
   exact ⟨_, rfl, (show IsS65 w0 _ gb267 (l0.take 2000) 0 from ⟨_, _, tH BK267.out, GE267.out, HR266.out⟩), zb, by repeat (first | (with_reducible first | exact HBW.out | apply below_alloc | apply pw_below_drewN | apply below_drew1 | refine below_set ?_ GW267.out) | exact HBW.out)⟩
  ·rw [if_neg c3] at H
   exact absurd H (by simp)
 ·rw [if_neg c2] at H
  have c2b0 : decide (2000 < (l0.length : Int)) = false := decide_eq_false c2
  have c2b1 : decide (2000 < l0.length) = false := decide_eq_false (by omega)
  clear c2
  simp only [Option.some.injEq, Prod.mk.injEq] at H
  obtain ⟨rfl, rfl⟩ := H
  go_enter Try.func20, Try.ntmps20
  go_wp2_with (first | ((with_reducible refine gate_dst (N := 10) rfl ?_); refine box_event ?hg (N := 10) ?hd (cs := #[.slice A0 l0.length c0, .int .i64 0]) (t := 65) ?hr ?_; (case hd => rfl); (case hg => rfl); (case hr => first | (go_simp; done) | (go_simp; rfl)); intro gb268 hg w6 hbox hb; replace HB := tBs HB hb; have BK268 := Aside0.mk (hbox); have GW268 := Aside0.mk ((by rw [hg]; exact (below_size (by repeat (first | (with_reducible first | exact HBW.out | apply below_alloc | apply pw_below_drewN | apply below_drew1) | exact HBW.out))) : w.heap.size ≤ gb268)); have GE268 := Aside0.mk ((Nat.le_trans HW0.out (by rw [hg]; exact (below_size (by repeat (first | (with_reducible first | exact HBW.out | apply below_alloc | apply pw_below_drewN | apply below_drew1) | exact HBW.out))) : w.heap.size ≤ gb268) : w0.heap.size ≤ gb268)); replace HBW := Aside0.mk (below_step HBW.out hb); clear hb hbox hg))
  go_ret
  exact ⟨_, rfl, (show IsS65 w0 _ gb268 l0 0 from ⟨_, _, tH BK268.out, GE268.out, HR0.out⟩), zb, by repeat (first | (with_reducible first | exact HBW.out | apply below_alloc | apply pw_below_drewN | apply below_drew1 | refine below_set ?_ GW268.out) | exact HBW.out)⟩

end Go.Proofs.Ythoioccmnphfgaa.G

namespace Go.Proofs.Ythoioccmnphfgaa.Pu
/-- Of several places back the first one that has most. -/
def best (n : Nat → Nat) : List Nat → Nat × Nat → Nat × Nat
  | [], s => s
  | b :: l, s => best n l (if s.1 < n b then (n b, b) else s)
/-- As soon as1 one place has 3 or more, those with fewer do not count. -/
theorem best_filter (n : Nat → Nat) : ∀ (l : List Nat) (s t : Nat × Nat), (s.1 < 3 ∧ t = (0, 0)) ∨ (s = t ∧ 3 ≤ s.1) →
    ((best n l s).1 < 3 ∧ best n (l.filter fun b => decide (3 ≤ n b)) t = (0, 0)) ∨ (best n l s = best n (l.filter fun b => decide (3 ≤ n b)) t ∧ 3 ≤ (best n l s).1)
  | [], s, t, h => h
  | b :: l, s, t, h => by
    rw [List.filter_cons]
    by_cases hb : 3 ≤ n b
    · rw [if_pos (by simpa using hb)]
      simp only [best]
      refine best_filter n l _ _ (Or.inr ?_)
      rcases h with ⟨h1, rfl⟩ | ⟨rfl, h2⟩
      · rw [if_pos (show s.1 < n b by omega), if_pos (show (0, 0).1 < n b by show 0 < n b; omega)]
        exact ⟨rfl, hb⟩
      · refine ⟨rfl, ?_⟩
        split
        · exact hb
        · exact h2
    · rw [if_neg (by simpa using hb)]
      simp only [best]
      refine best_filter n l _ _ ?_
      rcases h with ⟨h1, rfl⟩ | ⟨rfl, h2⟩
      · refine Or.inl ⟨?_, rfl⟩
        split
        · show n b < 3; omega
        · exact h1
      · rw [if_neg (show ¬ s.1 < n b by omega)]
        exact Or.inr ⟨rfl, h2⟩
/-- Whoever has 3 and more is found by both; else the second finds nothing. -/
theorem best_both (n : Nat → Nat) (l : List Nat) : ((best n l (0, 0)).1 < 3 ∧ best n (l.filter fun b => decide (3 ≤ n b)) (0, 0) = (0, 0)) ∨ (best n l (0, 0) = best n (l.filter fun b => decide (3 ≤ n b)) (0, 0) ∧ 3 ≤ (best n l (0, 0)).1) :=
  best_filter n l _ _ (Or.inl ⟨by show 0 < 3; omega, rfl⟩)
/-- How many numbers two lists have in common at first, at most m. -/
def alike : Nat → List Int → List Int → Nat
  | m + 1, x :: a, y :: b => if x = y then alike m a b + 1 else 0
  | _, _, _ => 0
/-- Three and more are alike exactly if the first three are. -/
theorem alike3 (m : Nat) (hm : 3 ≤ m) (a b : List Int) (ha : 3 ≤ a.length) (hb : 3 ≤ b.length) : 3 ≤ alike m a b ↔ a.take 3 = b.take 3 := by
  match m, a, b, hm, ha, hb with
  | m + 3, x :: y :: z :: a, u :: v :: w :: b, _, _, _ =>
    simp only [alike, List.take_succ_cons, List.take_zero, List.cons.injEq, and_true]
    by_cases h1 : x = u
    · by_cases h2 : y = v
      · by_cases h3 : z = w
        · simp only [h1, h2, h3, and_self, iff_true, if_true]
          omega
        · simp only [h1, h2, h3, and_false, iff_false, if_true, if_false]
          omega
      · simp only [h1, h2, and_false, false_and, iff_false, if_true, if_false]
        omega
    · simp only [h1, false_and, iff_false, if_false]
      omega
/-- The places, nearest first, until one is too far back. -/
def near (n : Nat → Nat) (z : Nat) : List Nat → Nat × Nat → Nat × Nat
  | [], s => s
  | p :: l, s => if 200 < z - p then s else near n z l (if s.1 < n (z - p) then (n (z - p), z - p) else s)
theorem near_eq (n : Nat → Nat) (z : Nat) : ∀ (l : List Nat) (s : Nat × Nat), l.Pairwise (fun p q => q < p) → near n z l s = best n ((l.map fun p => z - p).filter fun b => decide (b ≤ 200)) s
  | [], s, _ => rfl
  | p :: l, s, h => by
    obtain ⟨h1, h2⟩ := List.pairwise_cons.1 h
    rw [List.map_cons, List.filter_cons]
    by_cases hp : 200 < z - p
    · rw [near, if_pos hp, if_neg (by simp; omega), List.filter_eq_nil_iff.2 (fun b hb => by
        obtain ⟨q, hq, rfl⟩ := List.mem_map.1 hb
        have := h1 q hq
        simp
        omega)]
      rfl
    · rw [near, if_neg hp, if_pos (decide_eq_true (by omega : z - p ≤ 200)), near_eq n z l _ h2]
      rfl
theorem backs (z : Nat) : ((List.range z).reverse.map fun p => z - p) = List.range' 1 z := by
  refine List.ext_getElem (by simp) fun i h1 h2 => ?_
  simp only [List.length_map, List.length_reverse, List.length_range] at h1
  simp only [List.getElem_map, List.getElem_reverse, List.getElem_range, List.length_range, List.getElem_range']
  omega
theorem range_desc (z : Nat) : (List.range z).reverse.Pairwise (fun p q => q < p) := by
  rw [List.pairwise_reverse]
  exact List.pairwise_lt_range
/-- The nearest of the longest among the places of P is that among all backs of P. -/
theorem near_backs (n : Nat → Nat) (z : Nat) (P : Nat → Bool) (s : Nat × Nat) :
    near n z ((List.range z).filter P).reverse s = best n ((List.range' 1 (min z 200)).filter fun b => P (z - b)) s := by
  rw [← List.filter_reverse, near_eq n z _ s (List.Pairwise.filter _ (range_desc z))]
  congr 1
  have e : (((List.range z).reverse.filter P).map fun p => z - p) = (List.range' 1 z).filter fun b => P (z - b) := by
    rw [← backs z, List.filter_map]
    congr 1
    refine List.filter_congr fun p hp => ?_
    have : p < z := by simpa using hp
    show P p = P (z - (z - p))
    rw [show z - (z - p) = p by omega]
  rw [e, List.filter_filter]
  have e2 : List.range' 1 z = List.range' 1 (min z 200) ++ List.range' (1 + min z 200) (z - min z 200) := by
    rw [List.range'_append_1, show min z 200 + (z - min z 200) = z by omega]
  rw [e2, List.filter_append]
  have e3 : (List.range' (1 + min z 200) (z - min z 200)).filter (fun b => decide (b ≤ 200) && P (z - b)) = [] := by
    refine List.filter_eq_nil_iff.2 fun b hb => ?_
    have := List.mem_range'_1.1 hb
    simp only [Bool.and_eq_true, decide_eq_true_eq, not_and]
    omega
  rw [e3, List.append_nil]
  refine List.filter_congr fun b hb => ?_
  have := List.mem_range'_1.1 hb
  rw [decide_eq_true (by omega), Bool.true_and]
end Go.Proofs.Ythoioccmnphfgaa.Pu

namespace Go.Proofs.Ythoioccmnphfgaa.Pu
/-- How many numbers at place z are as1 those b back. -/
def nAt (l : List Int) (z b : Nat) : Nat := alike 66 (l.drop (z - b)) (l.drop z)
def specM (l : List Int) (z : Nat) : Nat × Nat := best (nAt l z) (List.range' 1 (min z 200)) (0, 0)
def keyed (l : List Int) (z p : Nat) : Bool := decide (p + 3 ≤ l.length) && decide ((l.drop p).take 3 = (l.drop z).take 3)
def implM (l : List Int) (z : Nat) : Nat × Nat := if z + 3 ≤ l.length then near (nAt l z) z ((List.range z).filter (keyed l z)).reverse (0, 0) else (0, 0)
theorem alike_le : ∀ (m : Nat) (a b : List Int), alike m a b ≤ b.length
  | 0, _, _ => by simp [alike]
  | m + 1, [], _ => by simp [alike]
  | m + 1, _ :: _, [] => by simp [alike]
  | m + 1, x :: a, y :: b => by
    have := alike_le m a b
    unfold alike
    split <;> simp <;> omega
theorem best_small (n : Nat → Nat) (hn : ∀ b, n b < 3) : ∀ (l : List Nat) (s : Nat × Nat), s.1 < 3 → (best n l s).1 < 3
  | [], _, h => h
  | b :: l, s, h => by
    unfold best
    split
    · exact best_small n hn l _ (hn b)
    · exact best_small n hn l s h
theorem m_both (l : List Int) (z : Nat) : ((specM l z).1 < 3 ∧ (implM l z).1 < 3) ∨ (specM l z = implM l z ∧ 3 ≤ (specM l z).1) := by
  by_cases h : z + 3 ≤ l.length
  · have e : implM l z = best (nAt l z) ((List.range' 1 (min z 200)).filter fun b => decide (3 ≤ nAt l z b)) (0, 0) := by
      unfold implM
      rw [if_pos h, near_backs]
      congr 1
      refine List.filter_congr fun b hb => ?_
      have hb2 := List.mem_range'_1.1 hb
      unfold keyed nAt
      rw [decide_eq_true (show z - b + 3 ≤ l.length by omega), Bool.true_and, decide_eq_decide]
      exact (alike3 66 (by omega) _ _ (by rw [List.length_drop]; omega) (by rw [List.length_drop]; omega)).symm
    rcases best_both (nAt l z) (List.range' 1 (min z 200)) with ⟨h1, h2⟩ | ⟨h1, h2⟩
    · refine .inl ⟨h1, ?_⟩
      rw [e, h2]
      simp
    · exact .inr ⟨h1.trans e.symm, h2⟩
  · refine .inl ⟨best_small _ (fun b => ?_) _ _ (by simp), ?_⟩
    · have := alike_le 66 (l.drop (z - b)) (l.drop z)
      unfold nAt
      rw [List.length_drop] at this
      omega
    · unfold implM
      rw [if_neg h]
      simp
/-- Numbers that are told as1 they are: their number less 1, and they, at most 64 at once. -/
def plainF : Nat → List Int → List Int
  | 0, _ => []
  | k + 1, l => if l = [] then [] else (((l.take 64).length : Int) - 1) :: (l.take 64 ++ plainF k (l.drop 64))
def plainV (l : List Int) : List Int := plainF l.length l
def packW (M : Nat → Nat × Nat) (l : List Int) : Nat → Nat → List Int → List Int → List Int
  | 0, _, out, plain => out ++ plainV plain
  | k + 1, z, out, plain => if z < l.length then (if (M z).1 < 3 then packW M l k (z + 1) out (plain ++ [l.getD z 0]) else packW M l k (z + (M z).1) (out ++ plainV plain ++ [((M z).1 : Int) + 61, ((M z).2 : Int)]) []) else out ++ plainV plain
theorem pack_same (l : List Int) : ∀ (k z : Nat) (out plain : List Int), packW (specM l) l k z out plain = packW (implM l) l k z out plain
  | 0, _, _, _ => rfl
  | k + 1, z, out, plain => by
    unfold packW
    rcases m_both l z with ⟨h1, h2⟩ | ⟨h1, h2⟩
    · rw [if_pos h1, if_pos h2, pack_same l k]
    · have h3 : ¬ (specM l z).1 < 3 := by omega
      simp only [← h1, if_neg h3, pack_same l k]
end Go.Proofs.Ythoioccmnphfgaa.Pu

namespace Go.Proofs.Ythoioccmnphfgaa.G
open Go.RowKit Go.Proofs.YthoioccmnphfgaaW.PrintWords Go.Proofs.YthoioccmnphfgaaW.PrintLast Go.Proofs.YthoioccmnphfgaaW.PrintMore
attribute [local go_sem] max2_int min2_int max_two min_two max_three min_three max_four min_four   -- for this text's walks alone
set_option linter.unusedVariables false
set_option linter.unusedSimpArgs false

def impl_intOf.l0 : Nat → Int → Int → List Int → Int → Int → Option (List Int)
 | 0, _, _, _, _, _ => none
 | k + 1, x0, x1, x5, x10, x11 => if x11 < x10 then (if 0 ≤ (wrap64 (8 * x11)) then (if 0 ≤ (wrap64 ((wrap64 (x1 - 1)) - x11)) then (if (wrap64 ((wrap64 (x1 - 1)) - x11)) < (x5.length : Int) then (impl_intOf.l0 k x0 x1 (x5.set ((wrap64 ((wrap64 (x1 - 1)) - x11)) : Int).toNat (Go.bits .and .i64 (shr .i64 x0 (wrap64 (8 * x11))) 255)) x10 (wrap64 (x11 + 1))) else (none)) else (none)) else (none)) else (some x5)
def impl_intOf.f (k : Nat) (a0 : Int) (a1 : Int) : Option (List Int) := if 0 ≤ a1 then (if (a1 : Int).toNat ≤ 35184372088832 then ((some (List.replicate (a1 : Int).toNat 0 : List Int)).bind fun y337 => (impl_intOf.l0 k a0 a1 y337 (y337.length : Int) 0)) else (none)) else (none)
set_option maxHeartbeats 8000000 in
set_option maxRecDepth 100000 in
theorem impl_intOf.calls (k : Nat) (a0 : Int) (a1 : Int) (r : List Int) (w : World) (h : impl_intOf.f k a0 a1 = some r) :
  Calls Try.prog 44 #[.int .i64 a0, .int .i64 a1] w fun e w' => ∃ v0_ : Value, e = .returned (v0_) ∧ Kd.R (Kd.int .i64) 3 w' w.heap.size (fun _ => True) v0_ r ∧ Below w.heap.size w w' := by
 have HB := Aside0.mk (Below.refl w.heap.size w)
 have H : (if 0 ≤ a1 then (if (a1 : Int).toNat ≤ 35184372088832 then ((some (List.replicate (a1 : Int).toNat 0 : List Int)).bind fun y337 => (impl_intOf.l0 k a0 a1 y337 (y337.length : Int) 0)) else (none)) else (none)) = some r := h
 clear h
 by_cases c3 : 0 ≤ a1
 ·rw [if_pos c3] at H
  have c3b0 := eq_true c3
  have c3b1 : decide (0 ≤ a1) = true := decide_eq_true c3
  clear c3
  by_cases c4 : (a1 : Int).toNat ≤ 35184372088832
  ·rw [if_pos c4] at H
   have c4b0 := eq_true c4
   have c4b1 : decide ((a1 : Int).toNat ≤ 35184372088832) = true := decide_eq_true c4
   clear c4
   obtain ⟨y337, hy337⟩ : ∃ y_ : List Int, y_ = (List.replicate (a1 : Int).toNat 0) := ⟨_, rfl⟩
   replace H : (impl_intOf.l0 k a0 a1 y337 (y337.length : Int) 0) = some r := by first | (rw [hy337]; with_reducible exact H) | (have H2_ := (Option.bind_some _ _).symm.trans H; rw [hy337]; with_reducible exact H2_) | (have H2_ := (Option.bind_some _ _).symm.trans H; with_reducible exact H2_) | with_reducible exact H | (rw [hy337]; exact H) | exact H
   have Ny337 := Aside0.mk hy337
   clear hy337
   have H' := Aside0.mk H
   clear H
   go_enter Try.func44, Try.ntmps44
   go_wp2_with (first | ((with_reducible refine gate_dst (N := 8) rfl ?_); refine Kd.R_make (Kd.int .i64) _ 3 rfl (N := 8) rfl 26 _ _ rfl a1 rfl rfl Try.underlying26 (.int .i64 0) 8 info3 rfl (by decide) (by omega) 0 (ok := fun _ => True) (okp := fun _ => True) rfl (fun _ hk => hk) trivial (td) (Nat.le_trans (Nat.mul_le_mul_right _ (td : a1.toNat ≤ 35184372088832)) (by omega)) (Below.refl _ _) (Nat.le_refl _) ?_; intro v338 w5 ho6 hb hg_ hnew_; clear hg_ hnew_; (first | rw [← Ny337.out] at ho6 | (simp only [Int.reduceToNat] at ho6; rw [← Ny337.out] at ho6)); have HO339 := tRl ho6 HB; replace HB := tBs HB hb; clear hb ho6; obtain ⟨Ao7, co7, eo7⟩ := Kd.R_slice HO339.out; subst eo7))
   go_loopg [11] k (fun kq v11 w' => ∃ (x5_1 : List Int) (x11_1 : Int), v11 = .int .i64 x11_1 ∧ Aside0 (impl_intOf.l0 kq a0 a1 x5_1 (y337.length : Int) x11_1 = some r) ∧ Aside0 (kq ≤ k) ∧ Aside0 (Kd.R (Kd.int .i64) 3 w' w.heap.size (fun _ => True) (.slice Ao7 y337.length co7) x5_1) ∧ Aside0 (Below w.heap.size w w'))
   case atStart => exact ⟨(y337), (0), tr, H', ⟨Nat.le_refl _⟩, ⟨tR HO339.out⟩, ⟨zb⟩⟩
   case round =>
    clear H'
    try clear c3; try clear c3b0; try clear c3b1; try clear c4; try clear c4b0; try clear c4b1
    obtain ⟨x5_1, x11_1, rfl, HA, HK1, HO_5, HB⟩ := hrel
    have hl5_1 := (Kd.R_reads' HO_5.out).1
    rw [hl5_1] at HO_5
    (try simp only [hl5_1])
    cases gk with
    | zero => exact absurd HA.out (by simp [impl_intOf.l0])
    | succ k1 =>
     have H := HA.out
     clear HA
     simp only [impl_intOf.l0] at H
     by_cases c8 : x11_1 < (y337.length : Int)
     ·rw [if_pos c8] at H
      have c8b0 : decide (x11_1 < (y337.length : Int)) = true := decide_eq_true c8
      have c8b0_ : decide (x11_1 < (x5_1.length : Int)) = true := by rw [← hl5_1]; exact c8b0
      clear c8
      obtain ⟨ji9, hji9⟩ : ∃ j_ : Int, (wrap64 (8 * x11_1)) = j_ := ⟨_, rfl⟩
      replace H : (if 0 ≤ (ji9) then (if 0 ≤ (wrap64 ((wrap64 (a1 - 1)) - x11_1)) then (if (wrap64 ((wrap64 (a1 - 1)) - x11_1)) < (x5_1.length : Int) then (impl_intOf.l0 k1 a0 a1 (x5_1.set ((wrap64 ((wrap64 (a1 - 1)) - x11_1)) : Int).toNat (Go.bits .and .i64 (shr .i64 a0 (ji9)) 255)) (y337.length : Int) (wrap64 (x11_1 + 1))) else (none)) else (none)) else (none)) = some r := by first | (rw [hji9] at H; exact H) | (simp only [hji9] at H ⊢; exact H)
      have hji9w : (IntKind.i64.wrap (8 * x11_1)) = ji9 := (i64_w _).trans hji9
      by_cases c10 : 0 ≤ (ji9)
      ·rw [if_pos c10] at H
       have c10b0 := eq_true c10
       have c10b1 : decide (0 ≤ (ji9)) = true := decide_eq_true c10
       clear c10
       obtain ⟨ji11, hji11⟩ : ∃ j_ : Int, (shr .i64 a0 (ji9)) = j_ := ⟨_, rfl⟩
       replace H : (if 0 ≤ (wrap64 ((wrap64 (a1 - 1)) - x11_1)) then (if (wrap64 ((wrap64 (a1 - 1)) - x11_1)) < (x5_1.length : Int) then (impl_intOf.l0 k1 a0 a1 (x5_1.set ((wrap64 ((wrap64 (a1 - 1)) - x11_1)) : Int).toNat (Go.bits .and .i64 (ji11) 255)) (y337.length : Int) (wrap64 (x11_1 + 1))) else (none)) else (none)) = some r := by first | (rw [hji11] at H; exact H) | (simp only [hji11] at H ⊢; exact H)
       have hji11_ : (a0 / 2 ^ min (ji9).toNat 64) = ji11 := hji11
       have hji11z : (ji9) ≤ 64 → (a0 / 2 ^ (ji9).toNat) = ji11 := shr_small hji11
       obtain ⟨ji12, hji12⟩ : ∃ j_ : Int, (wrap64 ((wrap64 (a1 - 1)) - x11_1)) = j_ := ⟨_, rfl⟩
       replace H : (if 0 ≤ (ji12) then (if (ji12) < (x5_1.length : Int) then (impl_intOf.l0 k1 a0 a1 (x5_1.set ((ji12) : Int).toNat (Go.bits .and .i64 (ji11) 255)) (y337.length : Int) (wrap64 (x11_1 + 1))) else (none)) else (none)) = some r := by first | (rw [hji12] at H; exact H) | (simp only [hji12] at H ⊢; exact H)
       have hji12w : (IntKind.i64.wrap ((wrap64 (a1 - 1)) - x11_1)) = ji12 := (i64_w _).trans hji12
       by_cases c13 : 0 ≤ (ji12)
       ·rw [if_pos c13] at H
        have c13b0 : decide (0 ≤ (ji12)) = true := decide_eq_true c13
        clear c13
        by_cases c14 : (ji12) < (x5_1.length : Int)
        ·rw [if_pos c14] at H
         have c14b0 : decide ((ji12) < (x5_1.length : Int)) = true := decide_eq_true c14
         clear c14
         obtain ⟨y340, hy340⟩ : ∃ y_ : List Int, y_ = (x5_1.set ((ji12) : Int).toNat (Go.bits .and .i64 (ji11) 255)) := ⟨_, rfl⟩
         replace H : (impl_intOf.l0 k1 a0 a1 y340 (y337.length : Int) (wrap64 (x11_1 + 1))) = some r := by first | (rw [hy340]; with_reducible exact H) | (have H2_ := (Option.bind_some _ _).symm.trans H; rw [hy340]; with_reducible exact H2_) | (have H2_ := (Option.bind_some _ _).symm.trans H; with_reducible exact H2_) | with_reducible exact H | (rw [hy340]; exact H) | exact H
         have Ny340 := Aside0.mk hy340
         clear hy340
         have H' := Aside0.mk H
         clear H
         have p15 : 0 ≤ ((ji12) : Int) := td
         have q15 : ((ji12) : Int) < ((x5_1.length : Int) : Int) := td
         obtain ⟨go15, co15, eo15, gb15, gl15, cl15, HG15⟩ := Kd.R_form HO_5.out (by omega)
         (first | cases eo15 | (injection eo15 with ea_ en_ ec_; (first | subst ea_ | (injection ea_ with ea_; subst ea_)); subst ec_; clear en_))
         have GB15 := Aside0.mk gb15
         have GG15 := Aside0.mk HG15
         clear gb15 gl15 HG15
         obtain ⟨hx15_0, hf15_0⟩ := Kd.R_celln 0 HO_5.out ((ji12) : Int) p15 q15
         replace p15 := eq_true p15
         replace q15 := eq_true q15
         have HP16 := Kd.R_putg HO_5.out ((ji12) : Int) (Go.bits .and .i64 (ji11) 255)
         go_wp2_with (first | ((with_reducible refine gate_store (t := 3) (p := 24) rfl ?_); refine store_event (t := 3) (p := 24) (v := ?vo_w17) (w1 := (wr.setCell ⟨go15, ((ji12) : Int).toNat, none⟩ (.int .i64 (Go.bits .and .i64 (ji11) 255)))) ?hg ?ho ?hn ?hr ?_; (case ho => rfl); (case hg => rfl); (case hn => rfl); (case hr => first | (go_simp; done) | (go_simp; rfl)); intro w17 hw; have hg : wr.grownBy w17 (some go15) := (by rw [hw]; exact HP16.2); have hp_ : Kd.R (Kd.int .i64) 3 w17 w.heap.size (fun _ => True) (.slice (some ⟨go15, 0, none⟩) x5_1.length co7) y340 := (by rw [hw, Ny340.out]; exact HP16.1); clear HP16; replace HO_5 := Aside0.mk (hp_); replace HB := Aside0.mk ((by rw [hw]; exact below_set (HB.out) GB15.out : Below w.heap.size w w17)); clear hg hw hp_))
         (try simp only [← hl5_1])
         go_roundg k1
         case measure => have := HK1.out; omega
         case rel => exact ⟨(y340), (wrap64 (x11_1 + 1)), tr, H', ⟨by have := HK1.out; omega⟩, ⟨by (try simp only [hl5_1]); (with_reducible repeat (first | apply Kd.R_alloc | apply Kd.R_drewN | apply Kd.R_drew)); exact HO_5.out⟩, ⟨zb⟩⟩
        ·rw [if_neg c14] at H
         exact absurd H (by simp)
       ·rw [if_neg c13] at H
        exact absurd H (by simp)
      ·rw [if_neg c10] at H
       exact absurd H (by simp)
     ·rw [if_neg c8] at H
      have c8b0 : decide (x11_1 < (y337.length : Int)) = false := decide_eq_false c8
      have c8b0_ : decide (x11_1 < (x5_1.length : Int)) = false := by rw [← hl5_1]; exact c8b0
      clear c8
      obtain rfl := Option.some.inj H
      go_wp2
      go_ret
      exact ⟨_, by first | rfl | (simp [errW_none, errW_some] <;> rfl) | (simp [*, errW_none, errW_some] <;> rfl), tR HO_5.out, zb⟩
  ·rw [if_neg c4] at H
   exact absurd H (by simp)
 ·rw [if_neg c3] at H
  exact absurd H (by simp)

end Go.Proofs.Ythoioccmnphfgaa.G

namespace Go.Proofs.Ythoioccmnphfgaa.G
open Go.RowKit Go.Shelf Go.Proofs.YthoioccmnphfgaaW.PrintWords Go.Proofs.YthoioccmnphfgaaW.PrintLast Go.Proofs.YthoioccmnphfgaaW.PrintMore
attribute [local go_sem] Oper.semAt_some
set_option linter.unusedVariables false
set_option linter.unusedSimpArgs false
/-- What a round that goes on keeps: what lay ahead of the call, and the cells of some blocks. -/
def KpC (n₀ : Nat) (S : Nat → Prop) (W W' : World) : Prop := Below n₀ W W' ∧ ∀ k o, S k → W.heap[k]? = some o → o.isCells = true → W'.heap[k]? = some o
theorem kpC_t {n₀ : Nat} {S : Nat → Prop} {A B C : World} (h : KpC n₀ S A B) (k : KpC n₀ S B C) : KpC n₀ S A C := ⟨h.1.trans k.1, fun i o hi ho hc => k.2 i o hi (h.2 i o hi ho hc) hc⟩
theorem kpC_b {n₀ : Nat} {S : Nat → Prop} {w : World} (hn : n₀ ≤ w.heap.size) (W : World) (l : Nat) (o o' : Obj) (hl : w.heap.size ≤ l) (h : W.heap[l]? = some o) (hc : o.isCells = false) (hw : o.isWalk = false) : KpC n₀ S W (W.putObj l o') :=
  ⟨belowK_b hn W l o o' hl h hc hw, fun k x hk hx hxc => by
    have hne : k ≠ l := by
      rintro rfl
      rw [h] at hx
      cases hx
      rw [hxc] at hc
      exact Bool.noConfusion hc
    rw [World.putObj_heap_other hne]
    exact hx⟩
theorem kpC_box {n₀ : Nat} {S : Nat → Prop} {W W' : World} {B : Nat} {t : TypeId} {v : Value} (h : KpC n₀ S W W') (hB : S B) (hb : Boxed W B t v) : Boxed W' B t v := h.2 B _ hB hb rfl
def bEnc (l : List Int) (x : Fin l.length) : Array Value := #[.int .i64 (x.val : Int), .int .i64 l[x]]
def downTo (n : Nat) : List Nat := (List.range n).reverse
set_option maxRecDepth 100000 in
set_option maxHeartbeats 4000000 in
theorem back1_in (F : Fence) (n : Nat) (hf : F.fn 86) (hro : F.round = none) (hn : 1 ≤ n) (w : World) (A0 : Option Addr) (c0 : Nat) (l : List Int) (hr : Kd.C (Kd.int .i64) w A0 l.length l) (hlen : l.length ≤ 100000) (lp Bs : Nat) (J Jx : List (Fin l.length) → World → Prop)
    (hY : ∀ pre x W, J pre W → pre.length < l.length → YieldAt F (n - 1) Try.prog lp (bEnc l x) W fun e W' =>
      (e = .returned (.bool true) ∧ J (pre ++ [x]) W' ∧ KpC w.heap.size (· = Bs) W W') ∨ (e = .returned (.bool false) ∧ Jx (pre ++ [x]) W'))
    (W : World) (hB : Below w.heap.size w W) (hBs : Boxed W Bs 26 (.slice A0 l.length c0)) (h0 : J [] W) :
    CallsIn F n Try.prog 86 #[.func (.yield lp) #[] #[], .pointer (some ⟨Bs, 0, none⟩)] W fun e W' => (∃ v, e = .returned v) ∧
      ((∃ ys, ys.map Fin.val = downTo l.length ∧ J ys W') ∨ (∃ pre, pre.map Fin.val <+: downTo l.length ∧ Jx pre W')) := by
  refine callsIn_of_wp Try.func86 rfl hf ?_ hro
  simp only [Try.ntmps86, List.size_toArray, List.length_cons, List.length_nil, Nat.reduceAdd, Nat.reduceSub, Array.replicate_succ, Array.replicate_zero, List.push_toArray, List.append_toArray, List.nil_append, List.cons_append]
  have hBc := hBs.cell
  gi_wp2
  gi_loopw [3] (fun p wr => ∃ (m : Nat) (pre : List (Fin l.length)), p = .int .i64 ((m : Int) - 1) ∧ m ≤ l.length ∧ pre.map Fin.val ++ downTo m = downTo l.length ∧ J pre wr ∧ Below w.heap.size w wr ∧ Boxed wr Bs 26 (.slice A0 l.length c0)) (fun p _ => (intOf p + 1).toNat)
  case atStart => exact ⟨l.length, [], by simp, Nat.le_refl _, rfl, h0, hB, hBs⟩
  case round =>
    obtain ⟨m, pre, rfl, hm, hpre, hJs, hbw, hbox⟩ := hrel
    have hBc := hbox.cell
    cases m with
    | zero =>
      gi_wp2
      go_end0
      refine ⟨⟨_, rfl⟩, .inl ⟨pre, ?_, hJs⟩⟩
      simpa [downTo] using hpre
    | succ i =>
      have hlt : i < l.length := by omega
      have hC := Kd.C_below hr hbw
      obtain ⟨ad, hA, hx⟩ : ∃ ad, A0 = some ad ∧ wr.cell? (ad.add i) = some (.int .i64 l[i]) := by
        obtain ⟨ad, c, e, _, hK, hc0⟩ := Kd.C_get hC (0 : Int) (i : Int) (by omega) (by omega)
        obtain rfl : c = [Value.int .i64 (l.getD (i : Int).toNat 0)] := hK
        refine ⟨ad, e, ?_⟩
        have := hc0 0 _ rfl
        simpa [List.getElem?_eq_getElem hlt, show (Kd.int .i64).sz = 1 from rfl] using this
      subst hA
      have hJ3 := hY pre ⟨i, hlt⟩ wr hJs (by
        have := congrArg List.length hpre
        simp [downTo] at this
        omega)
      obtain ⟨fn, tmps, assign, body, hy, hR⟩ := hJ3
      simp only [bEnc, Fin.getElem_fin] at hy
      have hi1 : ((i + 1 : Nat) : Int) - 1 = (i : Int) := by omega
      rw [hi1]
      have hnext : downTo (i + 1) = i :: downTo i := by unfold downTo; rw [List.range_succ]; simp
      gi_wp2
      refine hR.mono ?_
      rintro e W3 (⟨rfl, hJ3', hk3⟩ | ⟨rfl, hJx3⟩)
      · gi_wp2
        go_roundw
        case rel =>
          refine ⟨i, pre ++ [⟨i, hlt⟩], rfl, by omega, ?_, hJ3', hbw.trans hk3.1, kpC_box hk3 rfl hbox⟩
          rw [List.map_append, List.append_assoc]
          show pre.map Fin.val ++ ([i] ++ downTo i) = _
          rw [← hpre, hnext]
          rfl
        case measure => simp [intOf]
      · gi_wp2
        refine bodyPost_ret (results_none rfl _ _ _) rfl ?_
        refine ⟨⟨_, rfl⟩, .inr ⟨_, ?_, hJx3⟩⟩
        rw [← hpre, hnext, List.map_append]
        exact List.prefix_append_right_inj _ |>.2 ⟨downTo i, rfl⟩
set_option maxHeartbeats 1000000 in
theorem back_in (F : Fence) (n : Nat) (hf : F.fn 77) (hro : F.round = none) (a : Option Addr) (len cap : Nat) (w : World) :
    CallsIn F n Try.prog 77 #[.slice a len cap] w fun e w' => e = .returned (.func (.func 86) #[] #[.pointer (some ⟨w.heap.size, 0, none⟩)]) ∧ w' = w.alloc (.cells #[.slice a len cap] 26) := by
  refine callsIn_of_wp Try.func77 rfl hf ?_ hro
  simp only [Try.ntmps77, List.size_toArray, List.length_cons, List.length_nil, Nat.reduceAdd, Nat.reduceSub, Array.replicate_succ, Array.replicate_zero, List.push_toArray, List.append_toArray, List.nil_append, List.cons_append]
  gi_wp2
  go_ret
  exact ⟨rfl, rfl⟩
theorem back_stops (F : Fence) (n : Nat) (hf : F.fn 86) (hro : F.round = none) (hn : 1 ≤ n) (w : World) (A0 : Option Addr) (c0 : Nat) (l : List Int) (hr : Kd.C (Kd.int .i64) w A0 l.length l) (hlen : l.length ≤ 100000) (Bs : Nat) (w0 : World) (hB : Below w.heap.size w w0) (hc : Boxed w0 Bs 26 (.slice A0 l.length c0)) :
    SeqStopsK F n Try.prog 86 #[.pointer (some ⟨Bs, 0, none⟩)] (bEnc l) (KpC w.heap.size (· = Bs)) (fun ys => ys.map Fin.val = downTo l.length) (fun pre => pre.map Fin.val <+: downTo l.length) l.length w0 := fun lp J Jx W hW hJ hJx hY h0 =>
  back1_in F n hf hro hn w A0 c0 l hr hlen lp Bs J Jx hY W (hB.trans (hW.mono hB.size)) (by
    have := hW.block Bs hc.lt
    exact this.trans hc) h0
theorem near_app (n : Nat → Nat) (z : Nat) : ∀ (ps qs : List Nat) (s : Nat × Nat), (∀ p ∈ ps, ¬ 200 < z - p) → Pu.near n z (ps ++ qs) s = Pu.near n z qs (Pu.near n z ps s)
  | [], _, _, _ => rfl
  | p :: ps, qs, s, h => by
    rw [List.cons_append, Pu.near, if_neg (h p (List.mem_cons_self ..)), Pu.near, if_neg (h p (List.mem_cons_self ..))]
    exact near_app n z ps qs _ fun q hq => h q (List.mem_cons_of_mem _ hq)
theorem near_stop (n : Nat → Nat) (z : Nat) (p : Nat) (qs : List Nat) (s : Nat × Nat) (h : 200 < z - p) : Pu.near n z (p :: qs) s = s := by rw [Pu.near, if_pos h]
theorem downTo_get (ps : List Nat) : (downTo ps.length).map (fun i => ps.getD i 0) = ps.reverse := by
  unfold downTo
  rw [List.map_reverse]
  congr 1
  refine List.ext_getElem (by simp) fun i h1 h2 => ?_
  simp [List.getElem?_eq_getElem h2]
end Go.Proofs.Ythoioccmnphfgaa.G

namespace Go.Proofs.Ythoioccmnphfgaa.G
open Go.RowKit
section
variable {P : Program} {ops : Array Oper} {md : Region.Mode} {C : World → Prop} {lp n : Nat}
def noDefer (ops : List Oper) : Bool := ops.all fun o => match o.op with | .defer _ => false | _ => true
theorem noDefer_at {ops : Array Oper} (h : noDefer ops.toList = true) {i : Nat} {o : Oper} (ho : ops[i]? = some o) : ∀ c, o.op ≠ .defer c := by
  intro c e
  unfold noDefer at h
  have h1 : o ∈ ops.toList := by
    have := Array.mem_of_getElem? ho
    exact Array.mem_toList_iff.2 this
  have := List.all_eq_true.1 h o h1
  rw [e] at this
  cases this
theorem wpOpInR_of_qOp {i : Nat} {a : Act} {K : Act → Prop} {K' : Act → World → Prop} {Q' : Exit → Act → World → Prop} {w : World} (hd : noDefer ops.toList = true) (hC : C w) (h : ∀ a w', C w' → K a → K' a w') (hh : qOp P ops C i K a) : wpOpIn (Fence.wide.inRound lp) n P ops Q' i K' a w := by
  unfold qOp at hh
  unfold wpOpIn
  split
  · rename_i hn
    simp only [hn] at hh
    exact h _ _ hC hh
  · rename_i o ho
    simp only [ho] at hh
    split
    · rename_i hw
      simp only [hw, if_true] at hh
      obtain ⟨v, h1, h2⟩ := hh
      refine ⟨fun _ _ => trivial, ?_⟩
      have h1 := h1 w hC
      unfold Oper.quietAt at h1
      rw [show (Fence.wide.inRound lp).round = some lp from rfl, Oper.semAt_some lp _ _ (noDefer_at hd ho)]
      generalize (execOp a.eval o).run P w = r at *
      cases r with
      | ok x w' =>
        cases x <;> simp only [Oper.quietUpon] at h1
        case value u =>
          obtain ⟨rfl, rfl⟩ := h1
          exact h _ _ hC h2
        case skip =>
          obtain ⟨rfl, rfl⟩ := h1
          exact h _ _ hC h2
        case enter f args =>
          obtain ⟨rfl, h1⟩ := h1
          refine ⟨fun h => (by cases h), CallsIn.inRound lp (callsIn_wide.2 (h1.mono ?_))⟩
          rintro e w2 ⟨rfl, hc2⟩
          exact h _ _ hc2 h2
      | halt x w' => exact h1.elim
    · rename_i hw
      simp only [hw] at hh
      exact ⟨fun _ _ => trivial, h _ _ hC hh⟩
theorem wpAnyInR_of_quiet {Q : Act → Prop} {Q' : Exit → Act → World → Prop} (hd : noDefer ops.toList = true) (hQ : ∀ a w, C w → Q a → Q' .normal a w) : ∀ (fuel : Nat) (listed : Array Bool) (a : Act) (w : World), C w → wpAnyQ P md ops C Q fuel listed a → wpAnyIn (Fence.wide.inRound lp) n P md ops Q' fuel listed a w
  | 0, _, _, _, hC, h => ⟨h.1, hQ _ _ hC h.2⟩
  | fuel + 1, _, _, _, hC, h => ⟨fun e => hQ _ _ hC (h.1 e), fun i hi => wpOpInR_of_qOp hd hC (fun a w' hC' h' => wpAnyInR_of_quiet hd hQ fuel _ a w' hC' h') (h.2 i hi)⟩
theorem wpInR_quiet {id : Nat} {Q : Exit → Act → World → Prop} {a : Act} {w : World} {l : List Oper} (hd : noDefer l = true) (hm : P.follows .mixedOrders = true) (hB : Region.lexB .any l.toArray = true)
    (h : wpQuiet P l.toArray (fun w' => ∃ n, w' = w.drewN n) (fun a' => ∀ w', (∃ n, w' = w.drewN n) → Q .normal a' w') l a) : (Code.region id l.toArray true).wpIn (Fence.wide.inRound lp) n P Q a w := by
  simp only [Region.lexB, Bool.and_eq_true] at hB
  refine wpIn_region_any hm (wpAnyInR_of_quiet (C := fun w' => ∃ n, w' = w.drewN n) (Q := fun a' => ∀ w', (∃ n, w' = w.drewN n) → Q .normal a' w') (by simpa using hd) (fun _ w' hw' h => h w' hw') _ _ _ _ ⟨1, rfl⟩ ?_)
  have := wpAnyQ_lex (P := P) (C := fun w' => ∃ n, w' = w.drewN n) (md := .any) hB.1 l 0 (Array.replicate l.toArray.size false) a (by simp) (by simpa using hB.2) h
  simpa using this
theorem rowsInR {row : String} {args : Array Value} {w : World} {R : Value → World → Prop} (h : Rows P row args w R) : RowsIn (Fence.wide.inRound lp) n P row args w R :=
  fun c cs _ => let ⟨v, w', r, s⟩ := h c cs; ⟨v, w', r, stepsIn_wide.2 s⟩
theorem uponInR {o : Oper} {a : Act} {next : Act → World → Prop} {Q : Exit → Act → World → Prop} : ∀ {r : Result Next}, o.upon P a next Q r → o.uponIn (Fence.wide.inRound lp) n P a next Q r
  | .ok (.value _) _, h => h
  | .ok .skip _, h => h
  | .ok (.defer _) _, h => h
  | .ok (.enter _ _) _, h => ⟨fun h => (by cases h), CallsIn.inRound lp (callsIn_wide.2 h)⟩
  | .ok (.row _ _) _, h => ⟨fun h => (by cases h), rowsInR h⟩
  | .halt (.panic _) _, h => h
theorem wpListInR {Q : Exit → Act → World → Prop} (hq : ¬ LetsOut Q) : ∀ (l : List Oper) (a : Act) (w : World), noDefer l = true → wpList P ops Q l a w → wpListIn (Fence.wide.inRound lp) n P ops Q l a w
  | [], _, _, _, h => h
  | o :: rest, a, w, hd, h => by
    have hd1 : ∀ c, o.op ≠ .defer c := noDefer_at (ops := (o :: rest).toArray) (by simpa using hd) (i := 0) (by simp)
    have hd2 : noDefer rest = true := by
      unfold noDefer at hd ⊢
      rw [List.all_cons, Bool.and_eq_true] at hd
      exact hd.2
    unfold wpList at h
    unfold wpListIn
    by_cases hw : Region.wanted o (yielded ops a.tmps) = true
    · rw [if_pos hw] at h ⊢
      rcases h with h | h
      · have h2 : o.wp P a w (wpListIn (Fence.wide.inRound lp) n P ops Q rest) Q := Oper.wp_mono (fun a w => wpListInR hq rest a w hd2) h
        refine ⟨fun _ _ => trivial, ?_⟩
        rw [show (Fence.wide.inRound lp).round = some lp from rfl, Oper.semAt_some lp _ _ hd1]
        exact uponInR h2
      · exact absurd h.2 hq
    · rw [if_neg hw] at h ⊢
      exact ⟨fun _ _ => trivial, wpListInR hq rest _ _ hd2 h⟩
theorem wpInR_list {id : Nat} {Q : Exit → Act → World → Prop} {a : Act} {w : World} {l : List Oper} (hd : noDefer l = true) (R : Act → World → Prop)
    (h : wpList P l.toArray (fun e a w => e = .normal ∧ R a w) l a w) (k : ∀ a w, R a w → Q .normal a w) : (Code.region id l.toArray false).wpIn (Fence.wide.inRound lp) n P Q a w :=
  wpIn_mono (wpIn_region_lit (wpListInR (by rintro ⟨a, w, h, _⟩; cases h) l a w hd h)) (by rintro e a w ⟨rfl, h⟩; exact k a w h)
end
end Go.Proofs.Ythoioccmnphfgaa.G

namespace Go.Proofs.Ythoioccmnphfgaa.G
open Go.RowKit Go.Shelf Go.Proofs.YthoioccmnphfgaaW.PrintWords Go.Proofs.YthoioccmnphfgaaW.PrintLast Go.Proofs.YthoioccmnphfgaaW.PrintMore
attribute [local go_sem] Oper.semAt_some
set_option linter.unusedVariables false
set_option linter.unusedSimpArgs false
def pI (ps : List Nat) : List Int := ps.map fun (p : Nat) => (p : Int)
theorem pI_len (ps : List Nat) : (pI ps).length = ps.length := by simp [pI]
def pv (ps : List Nat) (x : Fin (pI ps).length) : Nat := ps.getD x.val 0
theorem pI_get (ps : List Nat) (x : Fin (pI ps).length) : (pI ps)[x] = ((pv ps x : Nat) : Int) := by
  have h : x.val < ps.length := by have h1 := x.isLt; have h2 := pI_len ps; omega
  unfold pv
  rw [List.getD_eq_getElem?_getD, List.getElem?_eq_getElem h]
  have h2 : (pI ps)[x.val]'(x.isLt) = ((ps[x.val] : Nat) : Int) := by unfold pI; rw [List.getElem_map]
  exact h2
theorem pv_mem (ps : List Nat) (x : Fin (pI ps).length) : pv ps x ∈ ps := by
  have h : x.val < ps.length := by have h1 := x.isLt; have h2 := pI_len ps; omega
  unfold pv
  rw [List.getD_eq_getElem?_getD, List.getElem?_eq_getElem h]
  exact List.getElem_mem h
def mtS (l : List Int) (z : Nat) (ps : List Nat) (pre : List (Fin (pI ps).length)) : Nat × Nat := Pu.near (Pu.nAt l z) z (pre.map (pv ps)) (0, 0)
def mtOk (z : Nat) (ps : List Nat) (pre : List (Fin (pI ps).length)) : Prop := ∀ x ∈ pre, ¬ 200 < z - pv ps x
theorem downTo_pI (ps : List Nat) : (downTo (pI ps).length).map (fun i => ps.getD i 0) = ps.reverse := by
  rw [pI_len, downTo_get]
theorem mt_end {l : List Int} {z : Nat} {ps : List Nat} {ys : List (Fin (pI ps).length)} (h : ys.map Fin.val = downTo (pI ps).length) : mtS l z ps ys = Pu.near (Pu.nAt l z) z ps.reverse (0, 0) := by
  unfold mtS
  congr 1
  have := congrArg (List.map fun i => ps.getD i 0) h
  rw [List.map_map, downTo_pI] at this
  rw [← this]
  rfl
theorem mt_stop {l : List Int} {z : Nat} {ps : List Nat} {pre : List (Fin (pI ps).length)} {x : Fin (pI ps).length} (h : (pre ++ [x]).map Fin.val <+: downTo (pI ps).length) (hok : mtOk z ps pre) (hx : 200 < z - pv ps x) : mtS l z ps pre = Pu.near (Pu.nAt l z) z ps.reverse (0, 0) := by
  obtain ⟨t, ht⟩ := h
  have := congrArg (List.map fun i => ps.getD i 0) ht
  rw [downTo_pI, List.map_append, List.map_append, List.map_append] at this
  rw [← this, List.append_assoc]
  unfold mtS
  have e : pre.map (pv ps) = (pre.map Fin.val).map (fun i => ps.getD i 0) := by rw [List.map_map]; rfl
  rw [e, near_app _ _ _ _ _ (by
    rw [← e]
    intro p hp
    obtain ⟨y, hy, rfl⟩ := List.mem_map.1 hp
    exact hok y hy)]
  exact (near_stop _ _ (ps.getD x.val 0) _ _ hx).symm
theorem mt_snoc {l : List Int} {z : Nat} {ps : List Nat} {pre : List (Fin (pI ps).length)} {x : Fin (pI ps).length} (hok : mtOk z ps pre) (hx : ¬ 200 < z - pv ps x) : mtOk z ps (pre ++ [x]) ∧ mtS l z ps (pre ++ [x]) = if (mtS l z ps pre).1 < Pu.nAt l z (z - pv ps x) then (Pu.nAt l z (z - pv ps x), z - pv ps x) else mtS l z ps pre := by
  refine ⟨fun y hy => ?_, ?_⟩
  · rcases List.mem_append.1 hy with hy | hy
    · exact hok y hy
    · obtain rfl : y = x := by simpa using hy
      exact hx
  · unfold mtS
    rw [List.map_append, near_app _ _ _ _ _ (by
      intro p hp
      obtain ⟨y, hy, rfl⟩ := List.mem_map.1 hp
      exact hok y hy)]
    show Pu.near _ _ [pv ps x] _ = _
    rw [Pu.near, if_neg hx, Pu.near]
theorem alike_le_m : ∀ (m : Nat) (a b : List Int), Pu.alike m a b ≤ m
  | 0, _, _ => by simp [Pu.alike]
  | m + 1, [], _ => by simp [Pu.alike]
  | m + 1, _ :: _, [] => by simp [Pu.alike]
  | m + 1, x :: a, y :: b => by
    have := alike_le_m m a b
    unfold Pu.alike
    split <;> omega
theorem wr_add (a b : Nat) (h : a + b < 1000000) : IntKind.i64.wrap ((a : Int) + (b : Int)) = ((a + b : Nat) : Int) := by rw [IntKind.wrap_i64]; omega
theorem wr_sub (a b : Nat) (h : b ≤ a) (h2 : a < 1000000) : IntKind.i64.wrap ((a : Int) - (b : Int)) = ((a - b : Nat) : Int) := by rw [IntKind.wrap_i64]; omega
theorem getD_lt (l : List Int) (i : Nat) (h : i < l.length) : l.getD i 0 = l[i] := by rw [List.getD_eq_getElem?_getD, List.getElem?_eq_getElem h]; rfl
/-- One more number. -/
theorem alike_at (l : List Int) (p z n : Nat) (hn : n ≤ 66) : (n < 66 ∧ z + n < l.length ∧ l.getD (p + n) 0 = l.getD (z + n) 0 ∧ p ≤ z → Pu.alike (66 - n) (l.drop (p + n)) (l.drop (z + n)) = Pu.alike (66 - (n + 1)) (l.drop (p + (n + 1))) (l.drop (z + (n + 1))) + 1) ∧
    (¬ (n < 66 ∧ z + n < l.length ∧ l.getD (p + n) 0 = l.getD (z + n) 0) → p ≤ z → Pu.alike (66 - n) (l.drop (p + n)) (l.drop (z + n)) = 0) := by
  constructor
  · rintro ⟨h1, h2, h3, h4⟩
    obtain ⟨m, hm⟩ : ∃ m, 66 - n = m + 1 := ⟨66 - n - 1, by omega⟩
    rw [hm, show 66 - (n + 1) = m by omega]
    have hp : p + n < l.length := by omega
    rw [List.drop_eq_getElem_cons h2, List.drop_eq_getElem_cons hp]
    rw [getD_lt l _ h2, getD_lt l _ hp] at h3
    rw [Pu.alike, if_pos h3]
    rfl
  · intro h hp
    rcases Nat.lt_or_ge n 66 with h1 | h1
    · obtain ⟨m, hm⟩ : ∃ m, 66 - n = m + 1 := ⟨66 - n - 1, by omega⟩
      rw [hm]
      rcases Nat.lt_or_ge (z + n) l.length with h2 | h2
      · have hp' : p + n < l.length := by omega
        rw [List.drop_eq_getElem_cons h2, List.drop_eq_getElem_cons hp']
        rw [getD_lt l _ h2, getD_lt l _ hp'] at h
        rw [Pu.alike, if_neg (fun e => h ⟨h1, h2, e⟩)]
      · rw [List.drop_eq_nil_of_le h2]
        cases l.drop (p + n) <;> rfl
    · rw [show 66 - n = 0 by omega]
      cases l.drop (p + n) <;> rfl
theorem cell_int {w : World} {A : Option Addr} {l : List Int} (h : Kd.C (Kd.int .i64) w A l.length l) (i : Nat) (hi : i < l.length) : ∃ ad, A = some ad ∧ w.cell? (ad.add i) = some (.int .i64 (l.getD i 0)) := by
  obtain ⟨ad, c, e, _, hK, hc0⟩ := Kd.C_get h (0 : Int) (i : Int) (by omega) (by omega)
  obtain rfl : c = [Value.int .i64 (l.getD (i : Int).toNat 0)] := hK
  refine ⟨ad, e, ?_⟩
  have := hc0 0 _ rfl
  simpa [show (Kd.int .i64).sz = 1 from rfl] using this
def MtI (l : List Int) (z : Nat) (ps : List Nat) (A0 : Option Addr) (c0 b : Nat) (W2 : World) (pre : List (Fin (pI ps).length)) (W : World) : Prop :=
  mtOk z ps pre ∧ Boxed W b 26 (.slice A0 l.length c0) ∧ Boxed W (b + 1) 3 (.int .i64 z) ∧ Boxed W (b + 2) 3 (.int .i64 ((mtS l z ps pre).1 : Nat)) ∧ Boxed W (b + 3) 3 (.int .i64 ((mtS l z ps pre).2 : Nat)) ∧ Below b W2 W
theorem mtI_own (l : List Int) (z : Nat) (ps : List Nat) (A0 : Option Addr) (c0 b : Nat) (W2 : World) (hb : b ≤ W2.heap.size) : OwnFrom W2.heap.size (MtI l z ps A0 c0 b W2) :=
  OwnFrom.and (ownFrom_pure _ _) (OwnFrom.and ((boxed_own _ _ (fun _ => _)).from _) (OwnFrom.and ((boxed_own _ _ (fun _ => _)).from _) (OwnFrom.and ((boxed_own _ _ (fun pre => .int .i64 ((mtS l z ps pre).1 : Nat))).from _) (OwnFrom.and ((boxed_own _ _ (fun pre => .int .i64 ((mtS l z ps pre).2 : Nat))).from _) (ownFrom_below hb hb)))))
section
variable {l : List Int} {z : Nat} {ps : List Nat} {A0 : Option Addr} {c0 b : Nat} {W2 w : World} {pre : List (Fin (pI ps).length)} {x : Fin (pI ps).length} {W : World} {s1 n q : Nat}
theorem mt_put (hI : MtI l z ps A0 c0 b W2 pre W) (hb : b + 4 < W2.heap.size) (hw : w.heap.size = b) (hs : s1 = (mtS l z ps pre).1) (hn : Pu.nAt l z q = n) (hg : s1 < n)
    (h : mtOk z ps (pre ++ [x]) ∧ mtS l z ps (pre ++ [x]) = if (mtS l z ps pre).1 < Pu.nAt l z q then (Pu.nAt l z q, q) else mtS l z ps pre) (m : Nat) :
    KeepsFrom W2.heap.size W (((W.drewN m).setCell ⟨b + 2, 0, none⟩ (.int .i64 (n : Nat))).setCell ⟨b + 3, 0, none⟩ (.int .i64 (q : Nat))) ∧ KpC w.heap.size (fun k => k = b + 4) W (((W.drewN m).setCell ⟨b + 2, 0, none⟩ (.int .i64 (n : Nat))).setCell ⟨b + 3, 0, none⟩ (.int .i64 (q : Nat))) ∧ MtI l z ps A0 c0 b W2 (pre ++ [x]) (((W.drewN m).setCell ⟨b + 2, 0, none⟩ (.int .i64 (n : Nat))).setCell ⟨b + 3, 0, none⟩ (.int .i64 (q : Nat))) := by
  obtain ⟨h1, h2⟩ := h
  rw [← hs, hn, if_pos hg] at h2
  obtain ⟨hok, bB, bZ, bL, bK, hB6⟩ := hI
  have hz := hB6.size
  have hB : Below b W (((W.drewN m).setCell ⟨b + 2, 0, none⟩ (.int .i64 (n : Nat))).setCell ⟨b + 3, 0, none⟩ (.int .i64 (q : Nat))) := ((pw_below_drewN (Below.refl b W) m).setCell (p := ⟨b + 2, 0, none⟩) (by show b ≤ b + 2; omega) _).setCell (p := ⟨b + 3, 0, none⟩) (by show b ≤ b + 3; omega) _
  have hk : ∀ k, k ≠ b + 2 → k ≠ b + 3 → (((W.drewN m).setCell ⟨b + 2, 0, none⟩ (.int .i64 (n : Nat))).setCell ⟨b + 3, 0, none⟩ (.int .i64 (q : Nat))).heap[k]? = W.heap[k]? := fun k h1 h2 => (Below.heap_setCell _ ⟨b + 3, 0, none⟩ _ k h2).trans (Below.heap_setCell (W.drewN m) ⟨b + 2, 0, none⟩ _ k h1)
  refine ⟨⟨hB.size, fun k o hk1 ho _ => (hk k (by omega) (by omega)).trans ho⟩, ⟨by rw [hw]; exact hB, fun k o hk1 ho _ => (hk k (by omega) (by omega)).trans ho⟩, h1, (hk _ (by omega) (by omega)).trans bB, (hk _ (by omega) (by omega)).trans bZ, ?_, ?_, hB6.trans hB⟩
  · rw [h2]
    exact (Boxed.set _ (show Boxed (W.drewN m) (b + 2) _ _ from bL)).other (by omega) _
  · rw [h2]
    exact Boxed.set _ ((show Boxed (W.drewN m) (b + 3) _ _ from bK).other (by omega) _)
theorem mt_same (hI : MtI l z ps A0 c0 b W2 pre W) (hw : w.heap.size = b) (hs : s1 = (mtS l z ps pre).1) (hn : Pu.nAt l z q = n) (hg : ¬ s1 < n)
    (h : mtOk z ps (pre ++ [x]) ∧ mtS l z ps (pre ++ [x]) = if (mtS l z ps pre).1 < Pu.nAt l z q then (Pu.nAt l z q, q) else mtS l z ps pre) (m : Nat) :
    KeepsFrom W2.heap.size W (W.drewN m) ∧ KpC w.heap.size (fun k => k = b + 4) W (W.drewN m) ∧ MtI l z ps A0 c0 b W2 (pre ++ [x]) (W.drewN m) := by
  obtain ⟨h1, h2⟩ := h
  rw [← hs, hn, if_neg hg] at h2
  obtain ⟨hok, bB, bZ, bL, bK, hB6⟩ := hI
  refine ⟨⟨Nat.le_refl _, fun k o hk1 ho _ => ho⟩, ⟨pw_below_drewN (Below.refl _ W) m, fun k o hk1 ho _ => ho⟩, h1, bB, bZ, by rw [h2]; exact bL, by rw [h2]; exact bK, pw_below_drewN hB6 m⟩
end
set_option maxRecDepth 100000 in
set_option maxHeartbeats 4000000 in
theorem match_calls (A0 : Option Addr) (c0 : Nat) (l : List Int) (z : Nat) (A2 : Option Addr) (c2 : Nat) (ps : List Nat) (w : World) (hr0 : Kd.C (Kd.int .i64) w A0 l.length l) (hl : l.length ≤ 1000) (hz : z < l.length) (hr2 : Kd.C (Kd.int .i64) w A2 (pI ps).length (pI ps)) (hp : ∀ p ∈ ps, p < z) (hpl : ps.length ≤ 1000) :
    Calls Try.prog 63 #[.slice A0 l.length c0, .int .i64 z, .slice A2 (pI ps).length c2] w fun e w' =>
      e = .returned (.tuple #[.int .i64 ((Pu.near (Pu.nAt l z) z ps.reverse (0, 0)).1 : Nat), .int .i64 ((Pu.near (Pu.nAt l z) z ps.reverse (0, 0)).2 : Nat)]) ∧ Below w.heap.size w w' := by
  refine (callsIn_wide (n := 5)).1 ?_
  have hro : Fence.wide.round = none := rfl
  refine callsIn_of_wp_marks Try.func63 rfl trivial ?_ hro
  simp only [Try.ntmps63, List.size_toArray, List.length_cons, List.length_nil, Nat.reduceAdd, Nat.reduceSub, Array.replicate_succ, Array.replicate_zero, List.push_toArray, List.append_toArray, List.nil_append, List.cons_append]
  gi_wp2_with (refine ⟨trivial, ?_⟩; gi_at_call 77; refine (back_in Fence.wide 4 trivial hro A2 (pI ps).length c2 _).mono ?_; rintro e w3 ⟨rfl, rfl⟩)
  obtain ⟨b, hbk⟩ : ∃ b, w.heap.size = b := ⟨_, rfl⟩
  have bB := Boxed.new w 26 (.slice A0 l.length c0)
  have bZ := Boxed.new (w.alloc (.cells #[.slice A0 l.length c0] 26)) 3 (.int .i64 z)
  have bL := Boxed.new ((w.alloc (.cells #[.slice A0 l.length c0] 26)).alloc (.cells #[.int .i64 z] 3)) 3 (.int .i64 0)
  have bK := Boxed.new (((w.alloc (.cells #[.slice A0 l.length c0] 26)).alloc (.cells #[.int .i64 z] 3)).alloc (.cells #[.int .i64 0] 3)) 3 (.int .i64 0)
  have bS := Boxed.new ((((w.alloc (.cells #[.slice A0 l.length c0] 26)).alloc (.cells #[.int .i64 z] 3)).alloc (.cells #[.int .i64 0] 3)).alloc (.cells #[.int .i64 0] 3)) 26 (.slice A2 (pI ps).length c2)
  have hB2 : Below w.heap.size w (((((w.alloc (.cells #[.slice A0 l.length c0] 26)).alloc (.cells #[.int .i64 z] 3)).alloc (.cells #[.int .i64 0] 3)).alloc (.cells #[.int .i64 0] 3)).alloc (.cells #[.slice A2 (pI ps).length c2] 26)) := below_alloc (below_alloc (below_alloc (below_alloc (below_alloc (Below.refl _ _) _) _) _) _) _
  replace bB := (((bB.alloc (.cells #[.int .i64 z] 3)).alloc (.cells #[.int .i64 0] 3)).alloc (.cells #[.int .i64 0] 3)).alloc (.cells #[.slice A2 (pI ps).length c2] 26)
  replace bZ := ((bZ.alloc (.cells #[.int .i64 0] 3)).alloc (.cells #[.int .i64 0] 3)).alloc (.cells #[.slice A2 (pI ps).length c2] 26)
  replace bL := (bL.alloc (.cells #[.int .i64 0] 3)).alloc (.cells #[.slice A2 (pI ps).length c2] 26)
  replace bK := bK.alloc (.cells #[.slice A2 (pI ps).length c2] 26)
  simp only [World.size_alloc, hbk, Nat.add_assoc, Nat.reduceAdd] at bB bZ bL bK bS hB2 ⊢
  generalize ((((w.alloc (.cells #[.slice A0 l.length c0] 26)).alloc (.cells #[.int .i64 z] 3)).alloc (.cells #[.int .i64 0] 3)).alloc (.cells #[.int .i64 0] 3)).alloc (.cells #[.slice A2 (pI ps).length c2] 26) = W2 at bB bZ bL bK bS hB2 ⊢
  have hB2w : Below w.heap.size w W2 := by rw [hbk]; exact hB2
  have hbW := bS.lt
  refine wpIn_rangeFunc_ownH hro (by decide) (gf := 86) (lb := #[.pointer (some ⟨b + 4, 0, none⟩)]) rfl trivial (enters_of Try.func86 (by kernel_rfl) rfl)
    (back_stops Fence.wide 4 trivial hro (by decide) w A2 c2 (pI ps) hr2 (by rw [pI_len]; omega) (b + 4) W2 hB2w bS) kpC_t (kpC_b hB2w.size) (Below.refl _ _) (fun _ => rfl)
    (MtI l z ps A0 c0 b W2)
    (fun c pre W => c = .exit 0 ∧ ∃ pre' x, pre = pre' ++ [x] ∧ 200 < z - pv ps x ∧ MtI l z ps A0 c0 b W2 pre' W)
    (mtI_own l z ps A0 c0 b W2 (by omega))
    (fun c => by
      intro pre W W' row hs hg hr
      obtain ⟨h1, pre', x, h2, h3, h4⟩ := hs
      exact ⟨h1, pre', x, h2, h3, mtI_own l z ps A0 c0 b W2 (by omega) pre' W W' row h4 hg hr⟩)
    ⟨fun x hx => by simp at hx, bB, bZ, bL, bK, Below.refl _ _⟩
    (fun x a' W => a' = { tmps := #[.slice A0 l.length c0, .int .i64 z, .slice A2 (pI ps).length c2, .pointer (some ⟨b, 0, none⟩), .pointer (some ⟨b + 1, 0, none⟩), undef, .int .i64 0, .int .i64 0, .pointer (some ⟨b + 2, 0, none⟩), .pointer (some ⟨b + 3, 0, none⟩), undef, .int .i64 (pv ps x : Nat), undef, .slice A2 (pI ps).length c2, .func (.func 86) #[] #[.pointer (some ⟨b + 4, 0, none⟩)], .int .i64 x.val, .int .i64 (pv ps x : Nat), undef, undef, undef, undef, undef, undef, undef, undef, undef, undef, undef, undef, undef, undef, undef, undef, undef, undef, undef, undef, undef, undef, undef, undef, undef, undef, undef, undef, undef, undef, undef, undef, undef, undef, undef, undef, undef, undef, undef, undef], defers := [] })
    (fun x a' => fun _ _ _ _ hs _ _ => hs)
    ?assign ?body ?done ?stop
  case assign =>
    rintro lp pre x W K hI hK
    simp only [bEnc, pI_get] at hK ⊢
    gi_wp2
    exact hK _ _ (KeepsFrom.refl _ _) ⟨Below.refl _ _, fun _ _ _ h _ => h⟩ hI rfl
  case body =>
    rintro lp pre x a' W hl ⟨r, hr⟩ ⟨hok, bB, bZ, bL, bK, hB6⟩ rfl hlt2
    have hpx := hp _ (pv_mem ps x)
    have HI := Aside0.mk (show MtI l z ps A0 c0 b W2 pre W from ⟨hok, bB, bZ, bL, bK, hB6⟩)
    have HC := Aside0.mk (Kd.C_below hr0 (by rw [hbk]; exact (hB2.trans hB6)))
    have HU := Aside0.mk (And.intro hB2 hbW)
    have HW := Aside0.mk hbk
    clear hr hp
    obtain ⟨p, hpv⟩ : ∃ p, p = pv ps x := ⟨_, rfl⟩
    rw [← hpv] at hpx ⊢
    have cZ := bZ.cell
    have cB := bB.cell
    have cL := bL.cell
    have fL := bL.frozen
    have cK := bK.cell
    have fK := bK.frozen
    obtain ⟨s2, hs2⟩ : ∃ s2, s2 = (mtS l z ps pre).2 := ⟨_, rfl⟩
    rw [← hs2] at cK
    have hS2 := Aside0.mk hs2
    clear hs2
    obtain ⟨s1, hs1⟩ : ∃ s1, s1 = (mtS l z ps pre).1 := ⟨_, rfl⟩
    rw [← hs1] at cL
    have hS1 := Aside0.mk hs1
    clear hs1
    have hw1 := wr_sub z p (by omega) (by omega)
    have hsn0 := mt_snoc (l := l) (x := x) hok
    rw [← hpv] at hsn0
    clear hok bB bZ bL bK hB6 hB2 hB2w hbW hr0 hr2 bS hlt2
    obtain ⟨q, hq⟩ : ∃ q, q = z - p := ⟨_, rfl⟩
    rw [← hq] at hw1 hsn0
    have HP := Aside0.mk (And.intro hpv hq)
    have hqz : q ≤ z := by omega
    have hpq : z - q = p := by omega
    have hPQ := Aside0.mk (And.intro hqz hpq)
    clear hqz hpq
    by_cases hfar : 200 < q
    · have hf1 : (q : Int) > 200 := by omega
      have HF := Aside0.mk (show 200 < z - pv ps x by rw [← hpv, ← hq]; exact hfar)
      clear hsn0 hfar hpv hq
      gi_wp2
      exact ⟨KeepsFrom.refl _ _, rfl, pre, x, rfl, HF.out, HI.out⟩
    · have hf1 : ¬ ((q : Int) > 200) := by omega
      have hsn := Aside0.mk (hsn0 hfar)
      clear hpv hq hsn0 hfar
      gi_wp2
      gi_loopw [12] (fun v12 wr => ∃ n : Nat, v12 = .int .i64 n ∧ n ≤ 66 ∧ n ≤ l.length ∧ Aside0 (Pu.alike 66 (l.drop p) (l.drop z) = n + Pu.alike (66 - n) (l.drop (p + n)) (l.drop (z + n))) ∧ Drawn0 W wr) (fun v12 _ => 66 - (intOf v12).toNat)
      case atStart => exact ⟨0, rfl, Nat.zero_le _, Nat.zero_le _, ⟨by simp⟩, Drawn0.refl _⟩
      case round =>
        obtain ⟨n, rfl, hn, hnl, hal, ⟨m1, rfl⟩⟩ := hrel
        obtain ⟨hst, hno⟩ := alike_at l p z n hn
        have hz1 := wr_add z n (by omega)
        have hp1 := wr_add p n (by omega)
        have hno2 : ¬ (n < 66 ∧ z + n < l.length ∧ l.getD (p + n) 0 = l.getD (z + n) 0) → Pu.nAt l z q = n := fun h => by
          have h1 := hno h (by omega)
          have h2 := hal.out
          rw [h1] at h2
          unfold Pu.nAt
          rw [hPQ.out.2]
          exact h2
        obtain ⟨zn, hzn⟩ : ∃ zn, zn = z + n := ⟨_, rfl⟩
        obtain ⟨pn, hpn⟩ : ∃ pn, pn = p + n := ⟨_, rfl⟩
        rw [← hzn] at hz1 hno2 hst
        rw [← hpn] at hp1 hno2 hst
        have HP1 := Aside0.mk hp1
        have HST := Aside0.mk hst
        have HNO := Aside0.mk hno2
        have HZ := Aside0.mk (And.intro hzn hpn)
        have HN := Aside0.mk (And.intro hn hnl)
        have HL := Aside0.mk (And.intro hpx (And.intro hz hl))
        clear hst hno hno2 hzn hpn hn hnl hp1
        by_cases h66 : n < 66
        · by_cases hzl : zn < l.length
          · obtain ⟨ad, rfl, hx1⟩ := cell_int HC.out zn hzl
            obtain ⟨ad2, e2, hx2⟩ := cell_int HC.out pn (by have := HZ.out; omega)
            cases e2
            obtain ⟨x1, hx1e⟩ : ∃ x1, x1 = l.getD zn 0 := ⟨_, rfl⟩
            obtain ⟨x2, hx2e⟩ : ∃ x2, x2 = l.getD pn 0 := ⟨_, rfl⟩
            rw [← hx1e] at hx1
            rw [← hx2e] at hx2
            have HX := Aside0.mk (And.intro hx1e hx2e)
            clear hx1e hx2e
            have h66i : decide ((n : Int) < 66) = true := decide_eq_true (by omega)
            have hzli : (zn : Int) < (l.length : Int) := by omega
            have H66 := Aside0.mk (And.intro h66 hzl)
            have hp1 := HP1.out
            clear h66 hzl
            have hpli : (pn : Int) < (l.length : Int) := by have := HZ.out; omega
            by_cases hxe : x2 = x1
            · have hxb : (x2 == x1) = true := beq_iff_eq.2 hxe
              gi_wp2
              refine wpInR_quiet (by kernel_rfl) (by kernel_rfl) (by kernel_rfl) ?_
              repeat (first | go_big_quiet_step (fail) | quiet_step (fail))
              refine wpQuiet_nil ?_
              intro _ hw'
              obtain ⟨nq, hw''⟩ := hw'
              subst hw''
              have hnn := HN.out
              have h66 := H66.out.1
              have hzl := H66.out.2
              have hLL := HL.out
              have hZZ := HZ.out
              have hn1 : IntKind.i64.wrap ((n : Int) + 1) = (n : Int) + 1 := wr_add n 1 (by omega)
              gi_wp2
              refine ⟨⟨n + 1, by simp, by omega, by omega, ⟨?_⟩, ⟨_, rfl⟩⟩, by simp [intOf]; omega⟩
              have h3 := HX.out
              have h2 := hal.out
              obtain ⟨h4, h5⟩ := HZ.out
              have h1 := HST.out ⟨h66, hzl, by rw [← h3.1, ← h3.2]; exact hxe, by omega⟩
              rw [h4, h5] at h1
              rw [h2, h1]
              omega
            · have hxb : (x2 == x1) = false := beq_eq_false_iff_ne.2 hxe
              have HE := Aside0.mk (HNO.out (fun h => hxe (by have h3 := HX.out; rw [h3.1, h3.2]; exact h.2.2)))
              by_cases hgt : s1 < n
              · have hgti : (n : Int) > (s1 : Int) := by omega
                gi_wp2
                refine wpInR_quiet (by kernel_rfl) (by kernel_rfl) (by kernel_rfl) ?_
                repeat (first | go_big_quiet_step (fail) | quiet_step (fail))
                refine wpQuiet_nil ?_
                intro _ hw'
                obtain ⟨nq, hw''⟩ := hw'
                subst hw''
                gi_wp2
                gi_region
                all_goals exact mt_put HI.out HU.out.2 HW.out hS1.out HE.out hgt hsn.out _
              · have hgti : ¬ ((n : Int) > (s1 : Int)) := by omega
                gi_wp2
                refine wpInR_quiet (by kernel_rfl) (by kernel_rfl) (by kernel_rfl) ?_
                repeat (first | go_big_quiet_step (fail) | quiet_step (fail))
                refine wpQuiet_nil ?_
                intro _ hw'
                obtain ⟨nq, hw''⟩ := hw'
                subst hw''
                gi_wp2
                exact mt_same HI.out HW.out hS1.out HE.out hgt hsn.out _
          · have h66i : (n : Int) < 66 := by omega
            have hzli : decide ((zn : Int) < (l.length : Int)) = false := decide_eq_false (by omega)
            have hzln : decide (zn < l.length) = false := decide_eq_false hzl
            have HE := Aside0.mk (HNO.out (fun h => hzl h.2.1))
            clear hzl h66
            by_cases hgt : s1 < n
            · have hgti : (n : Int) > (s1 : Int) := by omega
              gi_wp2
              refine wpInR_quiet (by kernel_rfl) (by kernel_rfl) (by kernel_rfl) ?_
              repeat (first | go_big_quiet_step (fail) | quiet_step (fail))
              refine wpQuiet_nil ?_
              intro _ hw'
              obtain ⟨nq, hw''⟩ := hw'
              subst hw''
              gi_wp2
              gi_region
              all_goals exact mt_put HI.out HU.out.2 HW.out hS1.out HE.out hgt hsn.out _
            · have hgti : ¬ ((n : Int) > (s1 : Int)) := by omega
              gi_wp2
              refine wpInR_quiet (by kernel_rfl) (by kernel_rfl) (by kernel_rfl) ?_
              repeat (first | go_big_quiet_step (fail) | quiet_step (fail))
              refine wpQuiet_nil ?_
              intro _ hw'
              obtain ⟨nq, hw''⟩ := hw'
              subst hw''
              gi_wp2
              exact mt_same HI.out HW.out hS1.out HE.out hgt hsn.out _
        · have h66i : decide ((n : Int) < 66) = false := decide_eq_false (by omega)
          have HE := Aside0.mk (HNO.out (fun h => h66 h.1))
          clear h66
          by_cases hgt : s1 < n
          · have hgti : (n : Int) > (s1 : Int) := by omega
            gi_wp2
            refine wpInR_quiet (by kernel_rfl) (by kernel_rfl) (by kernel_rfl) ?_
            repeat (first | go_big_quiet_step (fail) | quiet_step (fail))
            refine wpQuiet_nil ?_
            intro _ hw'
            obtain ⟨nq, hw''⟩ := hw'
            subst hw''
            gi_wp2
            gi_region
            all_goals exact mt_put HI.out HU.out.2 HW.out hS1.out HE.out hgt hsn.out _
          · have hgti : ¬ ((n : Int) > (s1 : Int)) := by omega
            gi_wp2
            refine wpInR_quiet (by kernel_rfl) (by kernel_rfl) (by kernel_rfl) ?_
            repeat (first | go_big_quiet_step (fail) | quiet_step (fail))
            refine wpQuiet_nil ?_
            intro _ hw'
            obtain ⟨nq, hw''⟩ := hw'
            subst hw''
            gi_wp2
            exact mt_same HI.out HW.out hS1.out HE.out hgt hsn.out _
  case done =>
    rintro D ys W hD hys ⟨hok, bB, bZ, bL, bK, hB6⟩ hK
    rw [mt_end hys] at bL bK
    have cL := bL.cell
    have cK := bK.cell
    have HX := Aside0.mk (And.intro hB2 (And.intro hB6 (And.intro hK (And.intro hD hbk))))
    clear hr0 hr2 hp hok bB bZ bL bK hB6 hys hB2w bS hbW hB2 hK hD hbk
    gi_wp2
    refine wpIn_wide.2 ?_
    go_quiet (fail)
    gi_wp2
    obtain ⟨hB2, hB6, hK, hD, hbk⟩ := HX.out
    refine ⟨by simp, .inl ⟨_, _, rfl, run_takeDeferred (w := W.drewN nq) hK, ?_⟩⟩
    refine ⟨_, results_tmp2 rfl _ _ _, rfl, ?_⟩
    subst hbk
    exact (hB2.trans (pw_below_drewN hB6 nq)).trans (belowK_b (w := W2) hB2.size (W.drewN nq) D _ _ hD hK rfl rfl)
  case stop =>
    rintro D c pre W hD hpre ⟨rfl, pre', x, rfl, hx, hok, bB, bZ, bL, bK, hB6⟩ hK
    rw [mt_stop hpre hok hx] at bL bK
    have cL := bL.cell
    have cK := bK.cell
    have HX := Aside0.mk (And.intro hB2 (And.intro hB6 (And.intro hK (And.intro hD hbk))))
    clear hr0 hr2 hp hok bB bZ bL bK hB6 hpre hx hB2w bS hbW hB2 hK hD hbk
    gi_wp2
    refine wpIn_wide.2 ?_
    go_quiet (fail)
    gi_wp2
    obtain ⟨hB2, hB6, hK, hD, hbk⟩ := HX.out
    refine ⟨by simp, .inl ⟨_, _, rfl, run_takeDeferred (w := W.drewN nq) hK, ?_⟩⟩
    refine ⟨_, results_tmp2 rfl _ _ _, rfl, ?_⟩
    subst hbk
    exact (hB2.trans (pw_below_drewN hB6 nq)).trans (belowK_b (w := W2) hB2.size (W.drewN nq) D _ _ hD hK rfl rfl)
end Go.Proofs.Ythoioccmnphfgaa.G

namespace Go.Proofs.Ythoioccmnphfgaa.G
open Go.RowKit Go.Shelf Go.Proofs.YthoioccmnphfgaaW.PrintWords Go.Proofs.YthoioccmnphfgaaW.PrintLast Go.Proofs.YthoioccmnphfgaaW.PrintMore
attribute [local go_sem] Oper.semAt_some
set_option linter.unusedVariables false
set_option linter.unusedSimpArgs false
/-- How many pieces n numbers have. -/
def chN (n : Nat) : Nat := (n + 63) / 64
def cEnc (ad : Option Addr) (n : Nat) (x : Fin (chN n)) : Array Value := #[.slice (ad.map (·.add (64 * x.val))) (min 64 (n - 64 * x.val)) (min 64 (n - 64 * x.val))]
set_option maxRecDepth 100000 in
set_option maxHeartbeats 4000000 in
theorem chunk1_in (F : Fence) (n : Nat) (hf : F.fn 76) (hro : F.round = none) (hn : 1 ≤ n) (n₀ : Nat) (ad : Option Addr) (c0 len : Nat) (hnil : ad = none → len = 0) (hc : len ≤ c0) (hcm : c0 ≤ 9223372036854775807) (hlen : len ≤ 100000) (S : Nat → Prop) (lp Bs Bn : Nat) (hS1 : S Bs) (hS2 : S Bn) (J Jx : List (Fin (chN len)) → World → Prop)
    (hY : ∀ pre x W, J pre W → pre.length < chN len → YieldAt F (n - 1) Try.prog lp (cEnc ad len x) W fun e W' =>
      (e = .returned (.bool true) ∧ J (pre ++ [x]) W' ∧ KpC n₀ S W W') ∨ (e = .returned (.bool false) ∧ Jx (pre ++ [x]) W'))
    (W : World) (hJ' : AbidesFrom W.heap.size J) (hBs : Boxed W Bs 26 (.slice ad len c0)) (hBn : Boxed W Bn 3 (.int .i64 64)) (h0 : J [] W) :
    CallsIn F n Try.prog 76 #[.func (.yield lp) #[] #[], .pointer (some ⟨Bs, 0, none⟩), .pointer (some ⟨Bn, 0, none⟩)] W fun e W' => (∃ v, e = .returned v) ∧
      ((∃ ys, ys.map Fin.val = List.range (chN len) ∧ J ys W') ∨ (∃ pre, pre.map Fin.val <+: List.range (chN len) ∧ Jx pre W')) := by
  refine callsIn_of_wp Try.func76 rfl hf ?_ hro
  simp only [Try.ntmps76, List.size_toArray, List.length_cons, List.length_nil, Nat.reduceAdd, Nat.reduceSub, Array.replicate_succ, Array.replicate_zero, List.push_toArray, List.append_toArray, List.nil_append, List.cons_append]
  gi_wp2
  gi_loopw [4] (fun p wr => ∃ (m : Nat) (pre : List (Fin (chN len))), p = .int .i64 ((64 * m : Nat) : Int) ∧ m ≤ chN len ∧ pre.map Fin.val = List.range m ∧ Aside0 (J pre wr) ∧ Boxed wr Bs 26 (.slice ad len c0) ∧ Boxed wr Bn 3 (.int .i64 64)) (fun p _ => 200000 - (intOf p).toNat)
  case atStart => exact ⟨0, [], rfl, Nat.zero_le _, rfl, ⟨h0⟩, hBs, hBn⟩
  case round =>
    obtain ⟨m, pre, rfl, hm, hpre, hJs, bS, bN⟩ := hrel
    have cS := bS.cell
    have cN := bN.cell
    have HB := Aside0.mk (And.intro bS bN)
    clear hBs hBn bS bN
    obtain ⟨i, hi⟩ : ∃ i, i = 64 * m := ⟨_, rfl⟩
    rw [← hi]
    by_cases hlt : i < len
    · have hmN : m < chN len := by unfold chN; omega
      cases ad with
      | none => have := hnil rfl; omega
      | some ad =>
        obtain ⟨e, he⟩ : ∃ e, e = min 64 (len - i) := ⟨_, rfl⟩
        have hmn : (if ((len - i : Nat) : Int) < 64 then ((len - i : Nat) : Int) else 64) = (e : Int) := by
          split <;> omega
        have hJ4 := hY pre ⟨m, hmN⟩ wr.drew (hJ' pre wr wr.drew none hJs.out ⟨rfl, rfl, rfl, Nat.le_refl _, fun _ _ _ => rfl⟩ (fun r e => by cases e)) (by
          have := congrArg List.length hpre
          simp at this
          omega)
        obtain ⟨fn, tmps, assign, body, hy, hR⟩ := hJ4
        simp only [cEnc, Option.map_some, ← hi, ← he] at hy
        have HE := Aside0.mk (And.intro he hi)
        have hie : i + e ≤ len := by omega
        have he0 : 0 < e := by omega
        obtain ⟨ie, hie2⟩ : ∃ ie, ie = i + e := ⟨_, rfl⟩
        have hw1 : IntKind.i64.wrap ((i : Int) + (e : Int)) = (ie : Int) := by rw [hie2]; exact wr_add i e (by omega)
        have hsub : ie - i = e := by omega
        have h1 : (i : Int) < (len : Int) := by omega
        have h2 : (i : Int) ≤ (len : Int) := by omega
        have h3 : ¬ c0 = i := by omega
        have h4 : (len : Int) ≤ (c0 : Int) := by omega
        have h5 : (0 : Int) ≤ (i : Int) := by omega
        have h6 : (i : Int) ≤ (ie : Int) := by omega
        have h7 : (ie : Int) ≤ (c0 : Int) := by omega
        have h8 : ¬ ie = i := by omega
        have hw2 : IntKind.i64.wrap ((i : Int) + 64) = (i : Int) + 64 := wr_add i 64 (by omega)
        have hpre2 : (pre ++ [(⟨m, hmN⟩ : Fin (chN len))]).map Fin.val = List.range (m + 1) := by rw [List.map_append, hpre, List.range_succ]; rfl
        have hmeas : i + 64 < 200000 := by omega
        have H9 := Aside0.mk (And.intro hmN (And.intro hpre2 hmeas))
        have HR := Aside0.mk hR
        clear hY he hi hJ' h0 hm hlt hpre2 hmeas hie he0 hie2 hnil hc hcm hlen hR hpre
        gi_wp2
        gi_region
        all_goals
          gi_wp2
          refine HR.out.mono ?_
          rintro e' W3 (⟨rfl, hJ3', hk3⟩ | ⟨rfl, hJx3⟩)
          · have bS3 := kpC_box hk3 hS1 (show Boxed wr.drew Bs _ _ from HB.out.1)
            have bN3 := kpC_box hk3 hS2 (show Boxed wr.drew Bn _ _ from HB.out.2)
            have cN3 := bN3.cell
            have H10 := Aside0.mk hJ3'
            clear hJ3'
            gi_wp2
            go_roundw
            case rel =>
              refine ⟨m + 1, pre ++ [⟨m, hmN⟩], ?_, hmN, H9.out.2.1, H10, bS3, bN3⟩
              have := HE.out.2
              rw [this, Nat.mul_succ]
              simp
            case measure =>
              have := H9.out.2.2
              simp [intOf]
              omega
          · gi_wp2
            refine bodyPost_ret (results_none rfl _ _ _) rfl ?_
            refine ⟨⟨_, rfl⟩, .inr ⟨_, ?_, hJx3⟩⟩
            rw [H9.out.2.1]
            have : List.range (m + 1) = (List.range (chN len)).take (m + 1) := by
              rw [List.take_range, Nat.min_eq_left H9.out.1]
            rw [this]
            exact List.take_prefix _ _
    · obtain rfl : m = chN len := by unfold chN at hm ⊢; omega
      have hlti : ¬ ((i : Int) < (len : Int)) := by omega
      gi_wp2
      go_end0
      exact ⟨⟨_, rfl⟩, .inl ⟨pre, hpre, hJs.out⟩⟩
set_option maxHeartbeats 1000000 in
theorem chunk_in (F : Fence) (n : Nat) (hf : F.fn 61) (hro : F.round = none) (a : Option Addr) (len cap : Nat) (w : World) :
    CallsIn F n Try.prog 61 #[.slice a len cap, .int .i64 64] w fun e w' => e = .returned (.func (.func 76) #[] #[.pointer (some ⟨w.heap.size, 0, none⟩), .pointer (some ⟨w.heap.size + 1, 0, none⟩)]) ∧ w' = (w.alloc (.cells #[.slice a len cap] 26)).alloc (.cells #[.int .i64 64] 3) := by
  refine callsIn_of_wp Try.func61 rfl hf ?_ hro
  simp only [Try.ntmps61, List.size_toArray, List.length_cons, List.length_nil, Nat.reduceAdd, Nat.reduceSub, Array.replicate_succ, Array.replicate_zero, List.push_toArray, List.append_toArray, List.nil_append, List.cons_append]
  gi_wp2
  go_ret
  exact ⟨rfl, rfl⟩
theorem chunk_stops (F : Fence) (n : Nat) (hf : F.fn 76) (hro : F.round = none) (hn : 1 ≤ n) (n₀ : Nat) (ad : Option Addr) (c0 len : Nat) (hnil : ad = none → len = 0) (hc : len ≤ c0) (hcm : c0 ≤ 9223372036854775807) (hlen : len ≤ 100000) (S : Nat → Prop) (Bs Bn : Nat) (hS1 : S Bs) (hS2 : S Bn)
    (w0 : World) (hBs : Boxed w0 Bs 26 (.slice ad len c0)) (hBn : Boxed w0 Bn 3 (.int .i64 64)) :
    SeqStopsK F n Try.prog 76 #[.pointer (some ⟨Bs, 0, none⟩), .pointer (some ⟨Bn, 0, none⟩)] (cEnc ad len) (KpC n₀ S) (fun ys => ys.map Fin.val = List.range (chN len)) (fun pre => pre.map Fin.val <+: List.range (chN len)) (chN len) w0 := fun lp J Jx W hW hJ hJx hY h0 =>
  chunk1_in F n hf hro hn n₀ ad c0 len hnil hc hcm hlen S lp Bs Bn hS1 hS2 J Jx hY W hJ ((hW.block Bs hBs.lt).trans hBs) ((hW.block Bn hBn.lt).trans hBn) h0
end Go.Proofs.Ythoioccmnphfgaa.G

