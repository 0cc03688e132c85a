/- A text of seat YteoicjlhkaljbaaDoor: what the law FnLogText needs of this repo's texts (by pack.py). Not trusted: Lean checks it. -/
import Derived.Test.YteoicjlhkaljbaaDoorKFnLogText9
namespace Go.Proofs.YteoicjlhkaljbaaDoor.G
open Go.RowKit Go.Proofs.YteoicjlhkaljbaaDoorW.PrintWords Go.Proofs.YteoicjlhkaljbaaDoorW.PrintLast Go.Proofs.YteoicjlhkaljbaaDoorW.PrintMore
attribute [local go_sem] max2_int min2_int max_two min_two max_three min_three max_four min_four   -- for this text's walks alone
set_option linter.unusedVariables false
set_option linter.unusedSimpArgs false

mutual
def spec_l92Log.j0 : Nat → List (S84) → Int → List Int → Int → Option ((List (S84)) × Int)
 | 0, _, _, _, _ => none
 | k + 1, x3, x4, x1000, x1001 => (spec_l6Rd_pick.f k x1000 x1001 10).bind fun bt673 => (spec_l92Log.l0 k x3 x4 bt673.1 0 x1000 bt673.2)
def spec_l92Log.l0 : Nat → List (S84) → Int → Int → Int → List Int → Int → Option ((List (S84)) × Int)
 | 0, _, _, _, _, _, _ => none
 | k + 1, x3, x4, x5, x6, x1000, x1001 => if x6 < x4 then ((spec_l91Batch.f k x1000 x1001 x5).bind fun bt679 => ((spec_l6Rd_pick.f k x1000 bt679.2.2.2.2.2.2 20).bind fun bt689 => (if bt689.1 > 0 then ((spec_BatchValid.f k bt679.1 bt679.2.1 bt679.2.2.1 bt679.2.2.2.1 bt679.2.2.2.2.1 bt679.2.2.2.2.2.1).bind fun t691 => (spec_l92Log.j2 k x3 x4 x5 x6 (!t691) x1000 bt689.2 bt679.1 bt679.2.1 bt679.2.2.1 bt679.2.2.2.1 bt679.2.2.2.2.1 bt679.2.2.2.2.2.1)) else (spec_l92Log.j2 k x3 x4 x5 x6 false x1000 bt689.2 bt679.1 bt679.2.1 bt679.2.2.1 bt679.2.2.2.1 bt679.2.2.2.2.1 bt679.2.2.2.2.2.1)))) else (if x4 > 1 then ((spec_l6Rd_pick.f k x1000 x1001 30).bind fun bt675 => (if bt675.1 = 0 then (if 0 < (x3.length : Int) then (if 1 < (x3.length : Int) then (some ((x3.set (1 : Int).toNat (⟨(rd_T84 x3 0).f0, (rd_T84 x3 0).f1, (rd_T84 x3 0).f2, (rd_T84 x3 0).f3, (rd_T84 x3 0).f4, (rd_T84 x3 0).f5⟩ : S84)), bt675.2)) else (none)) else (none)) else (some (x3, bt675.2)))) else (some (x3, x1001)))
def spec_l92Log.j2 : Nat → List (S84) → Int → Int → Int → Bool → List Int → Int → Bool → Bool → Int → Int → Int → List (S25) → Option ((List (S84)) × Int)
 | 0, _, _, _, _, _, _, _, _, _, _, _, _, _ => none
 | k + 1, x3, x4, x5, x6, x37, x1000, x1001, x689000, x689001, x689002, x689003, x689004, x689005 => if x37 = true then ((spec_l91Records.f k x1000 x1001 x5 2).bind fun bt692 => (if x3.length < 2513169434916 then (if 0 ≤ (wrap64 ((bt692.1.length : Int) - 1)) then (if (wrap64 ((bt692.1.length : Int) - 1)) < (bt692.1.length : Int) then ((spec_l6Rd_pick.f k x1000 bt692.2 4).bind fun bt700 => (spec_l92Log.l0 k (x3 ++ [(⟨false, false, 255, 0, 0, bt692.1⟩ : S84)]) x4 (wrap64 ((wrap64 (((rd_T25 bt692.1 (wrap64 ((bt692.1.length : Int) - 1))).f0) + 1)) + (wrap64 ((wrap64 (Int.tdiv bt700.1 3)) * 2)))) (wrap64 (x6 + 1)) x1000 bt700.2)) else (none)) else (none)) else (none))) else (if x3.length < 2513169434916 then (if 0 ≤ (wrap64 ((x689005.length : Int) - 1)) then (if (wrap64 ((x689005.length : Int) - 1)) < (x689005.length : Int) then ((spec_l6Rd_pick.f k x1000 x1001 4).bind fun bt706 => (spec_l92Log.l0 k (x3 ++ [(⟨x689000, x689001, x689002, x689003, x689004, x689005⟩ : S84)]) x4 (wrap64 ((wrap64 (((rd_T25 x689005 (wrap64 ((x689005.length : Int) - 1))).f0) + 1)) + (wrap64 ((wrap64 (Int.tdiv bt706.1 3)) * 2)))) (wrap64 (x6 + 1)) x1000 bt706.2)) else (none)) else (none)) else (none))
end
def spec_l92Log.f (k : Nat) (s0_0 : List Int) (s0_1 : Int) : Option ((List (S84)) × Int) := (some (([] : List (S84)) : List (S84))).bind fun y660 => ((spec_l6Rd_pick.f k s0_0 s0_1 5).bind fun bt663 => ((spec_l6Rd_pick.f k s0_0 bt663.2 16).bind fun bt665 => (if bt665.1 = 0 then ((some (([0, 8, 9] : List Int) : List Int)).bind fun y667 => ((spec_l6Rd_pick.f k s0_0 bt665.2 3).bind fun bt670 => (if 0 ≤ bt670.1 then (if bt670.1 < (y667.length : Int) then (spec_l92Log.j0 k y660 (rd y667 bt670.1) s0_0 bt670.2) else (none)) else (none)))) else (spec_l92Log.j0 k y660 (wrap64 (1 + bt663.1)) s0_0 bt665.2))))
def spec_l92Log.T13 : Bool × List (List Nat × List Nat) := (true, [([], []), ([0], [0]), ([], []), ([2], [2]), ([3], [3]), ([4], [4]), ([1, 5], [1, 5]), ([6], [6]), ([7], [7]), ([8], [8]), ([], []), ([10], [10]), ([11], [11]), ([12], [12]), ([9, 13], [9, 13]), ([14, 11, 0, 1, 2, 3, 4, 5, 6, 7, 8, 9, 10, 11, 12, 13, 14], [14])])
def spec_l92Log.B13 : List Nat := [0, 1, 0, 4, 12, 28, 63, 127, 255, 511, 0, 1024, 3072, 7168, 16383, 32767]
theorem spec_l92Log.tab13 : rtab .any (opsOf Tryd.f55 13) = spec_l92Log.T13 := by kernel_rfl
theorem spec_l92Log.bits13 : waitsOk spec_l92Log.T13.2 spec_l92Log.B13 = true := by kernel_rfl
set_option maxHeartbeats 8000000 in
set_option maxRecDepth 100000 in
theorem spec_l92Log.calls (k : Nat) (g : Nat) (s0_0 : List Int) (s0_1 : Int) (r1 : List (S84)) (r2 : Int) (w0 w : World) (hI : IsS101 w0 w g s0_0 s0_1) (hB : Below w0.heap.size w0 w) (h : spec_l92Log.f k s0_0 s0_1 = some (r1, r2)) :
  Calls Tryd.prog 55 #[.pointer (some ⟨g, 0, none⟩)] w fun e w' => ∃ v0_ : Value, e = .returned (v0_) ∧ Kd.N k84 84 w' w.heap.size (fun k_ => (w.heap.size ≤ k_)) v0_ r1 ∧ IsS101 w0 w' g s0_0 r2 ∧ Below w0.heap.size w0 w' ∧ KeepBut w w' g none := by
 have hu84 := Tryd.underlying84
 have HI0 := Aside0.mk hI
 have HK := Aside0.mk (KeepBut.refl w g none)
 have HL := Aside0.mk hB.size
 clear hI
 have HW0 := Aside0.mk hB.size
 have HB := Aside0.mk hB
 clear hB
 have H : ((some (([] : List (S84)) : List (S84))).bind fun y660 => ((spec_l6Rd_pick.f k s0_0 s0_1 5).bind fun bt663 => ((spec_l6Rd_pick.f k s0_0 bt663.2 16).bind fun bt665 => (if bt665.1 = 0 then ((some (([0, 8, 9] : List Int) : List Int)).bind fun y667 => ((spec_l6Rd_pick.f k s0_0 bt665.2 3).bind fun bt670 => (if 0 ≤ bt670.1 then (if bt670.1 < (y667.length : Int) then (spec_l92Log.j0 k y660 (rd y667 bt670.1) s0_0 bt670.2) else (none)) else (none)))) else (spec_l92Log.j0 k y660 (wrap64 (1 + bt663.1)) s0_0 bt665.2))))) = some (r1, r2) := h
 clear h
 obtain ⟨y660, hy660⟩ : ∃ y_ : List (S84), y_ = (([] : List (S84))) := ⟨_, rfl⟩
 replace H : ((spec_l6Rd_pick.f k s0_0 s0_1 5).bind fun bt663 => ((spec_l6Rd_pick.f k s0_0 bt663.2 16).bind fun bt665 => (if bt665.1 = 0 then ((some (([0, 8, 9] : List Int) : List Int)).bind fun y667 => ((spec_l6Rd_pick.f k s0_0 bt665.2 3).bind fun bt670 => (if 0 ≤ bt670.1 then (if bt670.1 < (y667.length : Int) then (spec_l92Log.j0 k y660 (rd y667 bt670.1) s0_0 bt670.2) else (none)) else (none)))) else (spec_l92Log.j0 k y660 (wrap64 (1 + bt663.1)) s0_0 bt665.2)))) = some (r1, r2) := by first | (rw [hy660]; with_reducible exact H) | (have H2_ := (Option.bind_some _ _).symm.trans H; rw [hy660]; with_reducible exact H2_) | (have H2_ := (Option.bind_some _ _).symm.trans H; with_reducible exact H2_) | with_reducible exact H | (rw [hy660]; exact H) | exact H
 have Ny660 := Aside0.mk hy660
 clear hy660
 replace H := tbe H
 obtain ⟨⟨t663, t664⟩, A2, H⟩ := H
 dsimp only at H
 replace H := tbe H
 obtain ⟨⟨t665, t666⟩, A3, H⟩ := H
 dsimp only at H
 have HC4 := Aside0.mk H
 clear H
 go_enter Tryd.func55, Tryd.ntmps55
 go_upto_if 14 with (first | ((with_reducible refine gate_dst (N := 8) rfl ?_); refine Kd.N_lit k84 _ 84 ?hg (N' := 8) ?hd (xs := ([] : List (S84))) (inner := []) (ok := (fun k_ => (w.heap.size ≤ k_) ∧ k_ ≠ g)) (okp := (fun k_ => (w.heap.size ≤ k_) ∧ k_ ≠ g)) ?hr ?hp (fun _ hk => hk) ((show ∀ k_, w.heap.size ≤ k_ → (fun k_ => (w.heap.size ≤ k_) ∧ k_ ≠ g) k_ from fun k_ hk => ⟨(Nat.le_trans (keep_size (w := w) (g := g) (row := none) zk) hk), IsS101.fresh zi101 k_ hk⟩) _ (Nat.le_refl _)) (Below.refl _ _) (Nat.le_refl _) (by simp) ?_; (case hd => rfl); (case hg => rfl); (case hr => first | (go_simp; done) | (go_simp; rfl)); (case hp => exact (Reps.none _ _)); intro v661 w5 ho6 hb hg_ hnew_; clear hg_ hnew_; (first | rw [← Ny660.out] at ho6 | (simp only [Int.reduceToNat] at ho6; rw [← Ny660.out] at ho6)); have HO662 := Aside0.mk (Kd.N_lower ho6 (keep_size (w := w) (g := g) (row := none) zk)); replace HI0 := tIb101 HI0 hb; replace HK := tKb HK hb; replace HB := tBs HB hb; clear hb ho6) | ((with_reducible refine gate_callee (f := 51) rfl ?_); refine goesL_ (some 10) rfl rfl Tryd.func51 (by kernel_rfl) rfl #[.pointer (some ⟨g, 0, none⟩), .int .i64 5] rfl tq ?_; (with_reducible refine (spec_l6Rd_pick.calls k g s0_0 s0_1 5 t663 t664 w0 _ ?side1 ?side2 A2.out).mono ?_); (case side1 => exact zi101); (case side2 => exact zb); rintro e w7 ⟨rfl, hi, hb, hk⟩; refine ⟨_, rfl, ?_⟩; replace HO662 := tNk HO662 hk; replace HK := tKt HK hk; replace HB := Aside0.mk (hb); replace HI0 := Aside0.mk (hi); (try clear hb); (try clear hb2); (try clear hk); (try clear hi)) | ((with_reducible refine gate_callee (f := 51) rfl ?_); refine goesL_ (some 13) rfl rfl Tryd.func51 (by kernel_rfl) rfl #[.pointer (some ⟨g, 0, none⟩), .int .i64 16] rfl tq ?_; (with_reducible refine (spec_l6Rd_pick.calls k g s0_0 t664 16 t665 t666 w0 _ ?side1 ?side2 A3.out).mono ?_); (case side1 => exact zi101); (case side2 => exact zb); rintro e w8 ⟨rfl, hi, hb, hk⟩; refine ⟨_, rfl, ?_⟩; replace HO662 := tNk HO662 hk; replace HK := tKt HK hk; replace HB := Aside0.mk (hb); replace HI0 := Aside0.mk (hi); (try clear hb); (try clear hb2); (try clear hk); (try clear hi)))
 (try simp only [Act.put, List.setIfInBounds_toArray, List.set_cons_zero, List.set_cons_succ])
 go_cut [4] (fun v4 wc => ∃ (kq : Nat) (x4_3 : Int) (x1001_3 : Int), v4 = .int .i64 x4_3 ∧ Aside0 (spec_l92Log.j0 kq y660 x4_3 s0_0 x1001_3 = some (r1, r2)) ∧ Aside0 (kq ≤ k) ∧ Aside0 (Kd.N k84 84 wc w.heap.size (fun k_ => (w.heap.size ≤ k_) ∧ k_ ≠ g) v661 y660) ∧ Aside0 (IsS101 w0 wc g s0_0 x1001_3) ∧ Aside0 (KeepBut w wc g none) ∧ Aside0 (Below w0.heap.size w0 wc))
 case first =>
  have H := HC4.out
  clear HC4
  by_cases c9 : t665 = 0
  ·rw [if_pos c9] at H
   have c9b0 : (t665 == 0) = true := beq_iff_eq.mpr c9
   have c9b1 : (t665 != 0) = false := bne_eq_false_iff_eq.mpr c9
   clear c9
   (first | rw [c9b0] | (simp only [i64_w, i32_w]; rw [c9b0]) | skip)
   obtain ⟨y667, hy667⟩ : ∃ y_ : List Int, y_ = (([0, 8, 9] : List Int)) := ⟨_, rfl⟩
   replace H : ((spec_l6Rd_pick.f k s0_0 t666 3).bind fun bt670 => (if 0 ≤ bt670.1 then (if bt670.1 < (y667.length : Int) then (spec_l92Log.j0 k y660 (rd y667 bt670.1) s0_0 bt670.2) else (none)) else (none))) = some (r1, r2) := by first | (rw [hy667]; with_reducible exact H) | (have H2_ := (Option.bind_some _ _).symm.trans H; rw [hy667]; with_reducible exact H2_) | (have H2_ := (Option.bind_some _ _).symm.trans H; with_reducible exact H2_) | with_reducible exact H | (rw [hy667]; exact H) | exact H
   have Ny667 := Aside0.mk hy667
   clear hy667
   replace H := tbe H
   obtain ⟨⟨t670, t671⟩, A10, H⟩ := H
   dsimp only at H
   by_cases c11 : 0 ≤ t670
   ·rw [if_pos c11] at H
    have c11b0 : decide (0 ≤ t670) = true := decide_eq_true c11
    clear c11
    by_cases c12 : t670 < (y667.length : Int)
    ·rw [if_pos c12] at H
     have c12b0 : decide (t670 < (y667.length : Int)) = true := decide_eq_true c12
     clear c12
     have H' := Aside0.mk H
     clear H
     go_wp2_with (first | ((with_reducible refine gate_dst (N := 15) rfl ?_); refine Kd.R_lit (Kd.int .i64) _ 3 ?hg (N := 15) ?hd (xs := ([0, 8, 9] : List Int)) (inner := [.int .i64 0, .int .i64 8, .int .i64 9]) (ok := fun _ => True) (okp := fun _ => True) ?hr ?hp (fun _ hk => hk) trivial (Below.refl _ _) (Nat.le_refl _) (by simp) ?_; (case hd => rfl); (case hg => rfl); (case hr => first | (go_simp; done) | (go_simp; rfl)); (case hp => exact (Reps.one (show Kd.M (Kd.int .i64) _ _ _ 0 [.int .i64 0] from rfl) (Reps.one (show Kd.M (Kd.int .i64) _ _ _ 8 [.int .i64 8] from rfl) (Reps.one (show Kd.M (Kd.int .i64) _ _ _ 9 [.int .i64 9] from rfl) (Reps.none _ _))))); intro v668 w13 ho14 hb hg_ hnew_; clear hg_ hnew_; (first | rw [← Ny667.out] at ho14 | (simp only [Int.reduceToNat] at ho14; rw [← Ny667.out] at ho14)); replace HO662 := Aside0.mk (Kd.N_elder' (tN HO662.out) (Kd.R_base ho14) hb); have HO669 := Aside0.mk (Kd.R_lower (Kd.R_newM (M := fun k_ => (w.heap.size ≤ k_)) ho14 (keep_size (w := w) (g := g) (row := none) zk) (fun k_ h_ => h_)) (keep_size (w := w) (g := g) (row := none) zk)); replace HI0 := tIb101 HI0 hb; replace HK := tKb HK hb; replace HB := tBs HB hb; clear hb ho14) | ((with_reducible refine gate_callee (f := 51) rfl ?_); refine goesL_ (some 17) rfl rfl Tryd.func51 (by kernel_rfl) rfl #[.pointer (some ⟨g, 0, none⟩), .int .i64 3] rfl tq ?_; (with_reducible refine (spec_l6Rd_pick.calls k g s0_0 t666 3 t670 t671 w0 _ ?side1 ?side2 A10.out).mono ?_); (case side1 => exact zi101); (case side2 => exact zb); rintro e w15 ⟨rfl, hi, hb, hk⟩; refine ⟨_, rfl, ?_⟩; replace HO662 := tNk HO662 hk; replace HO669 := tRp101 HO669 HI0 hk; replace HK := tKt HK hk; replace HB := Aside0.mk (hb); replace HI0 := Aside0.mk (hi); (try clear hb); (try clear hb2); (try clear hk); (try clear hi); obtain ⟨Ao16, co16, eo16⟩ := Kd.R_slice HO669.out; subst eo16; have p672 : 0 ≤ (t670 : Int) := td; have q672 : t670 < (y667.length : Int) := td; obtain ⟨ad672, e672, hx672_0⟩ := Kd.at_int (Kd.R_reads' HO669.out).2.2 t670 p672 q672; cases e672; replace p672 := eq_true p672; replace q672 := eq_true q672))
     go_meet
     case rel => exact ⟨_, (rd y667 t670), (t671), tr, H', ⟨by first | omega | exact Nat.le_refl _⟩, ⟨tNm HO662.out⟩, ⟨zi101⟩, ⟨zk⟩, ⟨zb⟩⟩
    ·rw [if_neg c12] at H
     exact absurd H (by simp)
   ·rw [if_neg c11] at H
    exact absurd H (by simp)
  ·rw [if_neg c9] at H
   have c9b0 : (t665 == 0) = false := beq_eq_false_iff_ne.mpr c9
   have c9b1 : (t665 != 0) = true := bne_iff_ne.mpr c9
   (first | rw [c9b0] | (simp only [i64_w, i32_w]; rw [c9b0]) | skip)
   have H' := Aside0.mk H
   clear H
   go_wp2
   go_meet
   case rel => exact ⟨_, (wrap64 (1 + t663)), (t666), tr, H', ⟨by first | omega | exact Nat.le_refl _⟩, ⟨tN HO662.out⟩, ⟨zi101⟩, ⟨zk⟩, ⟨zb⟩⟩
 case rest =>
  clear HC4
  obtain ⟨kq, x4_3, x1001_3, rfl, HA, HJ3, HO_3, HI0, HK, HB⟩ := hcut
  cases kq with
  | zero => exact absurd HA.out (by simp [spec_l92Log.j0])
  | succ kj3 =>
   have H := HA.out
   clear HA
   simp only [spec_l92Log.j0] at H
   replace H := tbe H
   obtain ⟨⟨t673, t674⟩, A17, H⟩ := H
   dsimp only at H
   have H' := Aside0.mk H
   clear H
   go_wp2_with (first | ((with_reducible refine gate_callee (f := 51) rfl ?_); refine goesL_ (some 21) rfl rfl Tryd.func51 (by kernel_rfl) rfl #[.pointer (some ⟨g, 0, none⟩), .int .i64 10] rfl tq ?_; (with_reducible refine (spec_l6Rd_pick.calls kj3 g s0_0 x1001_3 10 t673 t674 w0 _ ?side1 ?side2 A17.out).mono ?_); (case side1 => exact zi101); (case side2 => exact zb); rintro e w18 ⟨rfl, hi, hb, hk⟩; refine ⟨_, rfl, ?_⟩; replace HO_3 := tNk HO_3 hk; replace HK := tKt HK hk; replace HB := Aside0.mk (hb); replace HI0 := Aside0.mk (hi); (try clear hb); (try clear hb2); (try clear hk); (try clear hi)))
   go_loopg [3, 5, 6] kj3 (fun kq v3 v5 v6 w' => ∃ (x3_2 : List (S84)) (x5_2 : Int) (x6_2 : Int) (x1001_2 : Int), v5 = .int .i64 x5_2 ∧ v6 = .int .i64 x6_2 ∧ Aside0 (spec_l92Log.l0 kq x3_2 x4_3 x5_2 x6_2 s0_0 x1001_2 = some (r1, r2)) ∧ Aside0 (kq ≤ kj3) ∧ Aside0 (Kd.N k84 84 w' w.heap.size (fun k_ => (w.heap.size ≤ k_) ∧ k_ ≠ g) v3 x3_2) ∧ Aside0 (IsS101 w0 w' g s0_0 x1001_2) ∧ Aside0 (KeepBut w w' g none) ∧ Aside0 (Below w0.heap.size w0 w'))
   case atStart => exact ⟨(y660), (t673), (0), (t674), tr, tr, H', ⟨Nat.le_refl _⟩, ⟨tN HO_3.out⟩, ⟨zi101⟩, ⟨zk⟩, ⟨zb⟩⟩
   case round =>
    clear H'
    obtain ⟨x3_2, x5_2, x6_2, x1001_2, rfl, rfl, HA, HK2, HO_3, HI0, HK, HB⟩ := hrel
    cases gk with
    | zero => exact absurd HA.out (by simp [spec_l92Log.l0])
    | succ k2 =>
     have H := HA.out
     clear HA
     simp only [spec_l92Log.l0] at H
     by_cases c19 : x6_2 < x4_3
     ·rw [if_pos c19] at H
      have c19b0 : decide (x6_2 < x4_3) = true := decide_eq_true c19
      clear c19
      replace H := tbe H
      obtain ⟨⟨t679, t680, t681, t682, t683, t684, t687⟩, A20, H⟩ := H
      dsimp only at H
      have HC21 := Aside0.mk H
      clear H
      go_upto_region 10 with (first | ((with_reducible refine gate_callee (f := 80) rfl ?_); refine goesL_ (some 29) rfl rfl Tryd.func80 (by kernel_rfl) rfl #[.pointer (some ⟨g, 0, none⟩), .int .i64 x5_2] rfl tq ?_; (with_reducible refine (spec_l91Batch.calls k2 g s0_0 x1001_2 x5_2 t679 t680 t681 t682 t683 t684 t687 w0 _ ?side1 ?side2 A20.out).mono ?_); (case side1 => exact zi101); (case side2 => exact zb); rintro e w22 ⟨v685, rfl, ho0, hi, hb, hk⟩; have u_v685 := tsv Tryd.prog v685 ho0; refine ⟨_, rfl, ?_⟩; have HO686 := Aside0.mk (Kd.N_lower (Kd.N_mono (ok' := fun k_ => (w.heap.size ≤ k_) ∧ some k_ ≠ (u3 : Value).ownBlock ∧ k_ ≠ g) ho0 (fun k_ hk_ => ⟨(Nat.le_trans (keep_size (w := w) (g := g) (row := none) zk) hk_), (tfr HO_3 k_ hk_), (IsS101.fresh zi101 k_ hk_)⟩)) (keep_size (w := w) (g := g) (row := none) zk)); replace HO_3 := Aside0.mk (Kd.N_mono (Kd.N_told (Kd.N_oldK (Kd.N_mono (ok := fun k_ => (((w.heap.size ≤ k_)) ∧ k_ ≠ g)) (tN HO_3.out) (fun k_ hk_ => (⟨hk_, hk_.2⟩ : _ ∧ k_ ≠ g))) hk) (tb ho0)) (fun _ h_ => h_.1)); replace HK := tKt HK hk; replace HB := Aside0.mk (hb); replace HI0 := Aside0.mk (hi); (try clear hb); (try clear hb2); (try clear hk); (try clear hi); (try clear ho0)) | ((with_reducible refine gate_dst (N := 7) rfl ?_); refine box_event ?hg (N := 7) ?hd (cs := #[.bool false, .bool false, .int .i64 0, .int .i64 0, .int .i64 0, .slice none 0 0]) (t := 84) ?hr ?_; (case hd => rfl); (case hg => rfl); (case hr => first | (go_simp; done) | (go_simp; rfl)); intro gb688 hg w23 hbox hb; replace HO_3 := tNB HO_3 hg hb; replace HO686 := tNB HO686 hg hb; replace HB := tBs HB hb; have BK688 := Aside0.mk (hbox); have GW688 := Aside0.mk ((by rw [hg]; exact (keep_size (w := w) (g := g) (row := none) zk) : w.heap.size ≤ gb688)); have GE688 := Aside0.mk ((Nat.le_trans HW0.out (by rw [hg]; exact (keep_size (w := w) (g := g) (row := none) zk) : w.heap.size ≤ gb688) : w0.heap.size ≤ gb688)); replace HK := tKb HK hb; have NB0_688 := Aside0.mk ((by rw [hg]; exact Nat.ne_of_lt (IsS101.lt (show IsS101 w0 _ g s0_0 t687 from zi101)) : g ≠ gb688)); have NB688_0 := Aside0.mk ((by rw [hg]; exact Nat.ne_of_gt (IsS101.lt (show IsS101 w0 _ g s0_0 t687 from zi101)) : gb688 ≠ g)); replace HI0 := tIb101 HI0 hb; clear hb hbox hg; have hnb24 := NB688_0.out; have hnc24 := NB0_688.out; obtain ⟨hcz25_0, hcz25_1, hcz25_2, hcz25_3, hcz25_4, hcz25_5, hfz25_0, hfz25_1, hfz25_2, hfz25_3, hfz25_4, hfz25_5⟩ := cells6 BK688.out; obtain ⟨Ao26, co26, eo26⟩ := Kd.N_slice HO686.out; subst eo26))
      (try simp only [Act.put, List.setIfInBounds_toArray, List.set_cons_zero, List.set_cons_succ])
      go_cut [37] (fun v37 wc => ∃ (kq : Nat) (x37_20 : Bool) (x1001_20 : Int), v37 = .bool x37_20 ∧ Aside0 (spec_l92Log.j2 kq x3_2 x4_3 x5_2 x6_2 x37_20 s0_0 x1001_20 t679 t680 t681 t682 t683 t684 = some (r1, r2)) ∧ Aside0 (kq ≤ k2) ∧ Aside0 (Kd.N k84 84 wc w.heap.size (fun k_ => (w.heap.size ≤ k_) ∧ some k_ ≠ ((.slice Ao26 t684.length co26) : Value).ownBlock ∧ k_ ≠ gb688 ∧ k_ ≠ g) u3 x3_2) ∧ Aside0 (Kd.N k25 25 wc w.heap.size (fun k_ => (w.heap.size ≤ k_) ∧ some k_ ≠ (u3 : Value).ownBlock ∧ k_ ≠ gb688 ∧ k_ ≠ g) (.slice Ao26 t684.length co26) t684) ∧ Aside0 (wc.heap[gb688]? = some (.cells #[.bool t679, .bool t680, .int .i64 t681, .int .i64 t682, .int .i64 t683, (.slice Ao26 t684.length co26)] 84 (0, 0))) ∧ Aside0 (IsS101 w0 wc g s0_0 x1001_20) ∧ Aside0 (KeepBut w wc g none) ∧ Aside0 (Below w0.heap.size w0 wc))
      case first =>
       have H := HC21.out
       clear HC21
       replace H := tbe H
       obtain ⟨⟨t689, t690⟩, A27, H⟩ := H
       dsimp only at H
       by_cases c28 : t689 > 0
       ·rw [if_pos c28] at H
        have c28b0 : decide (0 < t689) = true := decide_eq_true c28
        clear c28
        (first | rw [c28b0] | (simp only [i64_w, i32_w]; rw [c28b0]) | skip)
        replace H := tbe H
        obtain ⟨t691, A29, H⟩ := H
        have H' := Aside0.mk H
        clear H
        go_wp2_with (first | ((with_reducible refine gate_callee (f := 51) rfl ?_); refine goesL_ (some 31) rfl rfl Tryd.func51 (by kernel_rfl) rfl #[.pointer (some ⟨g, 0, none⟩), .int .i64 20] rfl tq ?_; (with_reducible refine (spec_l6Rd_pick.calls k2 g s0_0 t687 20 t689 t690 w0 _ ?side1 ?side2 A27.out).mono ?_); (case side1 => exact zi101); (case side2 => exact zb); rintro e w30 ⟨rfl, hi, hb, hk⟩; refine ⟨_, rfl, ?_⟩; replace HO_3 := tNk HO_3 hk; replace HO686 := tNk HO686 hk; replace BK688 := tBq (o' := .cells #[.bool t679, .bool t680, .int .i64 t681, .int .i64 t682, .int .i64 t683, .slice Ao26 t684.length co26] 84 (0, 0)) BK688 hk NB688_0; replace HK := tKt HK hk; replace HB := Aside0.mk (hb); replace HI0 := Aside0.mk (hi); (try clear hb); (try clear hb2); (try clear hk); (try clear hi); have hnb31 := NB688_0.out; have hnc31 := NB0_688.out; obtain ⟨hcz32_0, hcz32_1, hcz32_2, hcz32_3, hcz32_4, hcz32_5, hfz32_0, hfz32_1, hfz32_2, hfz32_3, hfz32_4, hfz32_5⟩ := cells6 BK688.out) | (go_at_call 61; (with_reducible refine (spec_BatchValid.calls k2 t679 t680 t681 t682 t683 _ _ t684 t691 _ ?side1 ?side2 A29.out).mono ?_); (case side1 => repeat (first | exact (Kd.N_reads' HO686.out).2.2 | (with_reducible refine Kd.C_alloc ?_ _) | (with_reducible refine Kd.C_drewN ?_ _) | (with_reducible refine Kd.C_drew ?_))); (case side2 => exact (Kd.N_reads' HO686.out).2.1); rintro e w33 ⟨rfl, hb⟩; replace HO_3 := tNb HO_3 hb; replace HO686 := tNb HO686 hb; replace HI0 := tIb101 HI0 hb; replace BK688 := tBb BK688 hb; replace HK := tKb HK hb; replace HB := tBs HB hb; (try clear hb); (try clear hb2); (try clear hk); (try clear hi)))
        go_meet
        case rel => exact ⟨_, (!t691), (t690), tr, H', ⟨by have := HJ3.out; have := HK2.out; first | omega | exact Nat.le_refl _⟩, ⟨tNm HO_3.out⟩, ⟨tNm HO686.out⟩, ⟨tH BK688.out⟩, ⟨zi101⟩, ⟨zk⟩, ⟨zb⟩⟩
       ·rw [if_neg c28] at H
        have c28b0 : decide (0 < t689) = false := decide_eq_false c28
        clear c28
        (first | rw [c28b0] | (simp only [i64_w, i32_w]; rw [c28b0]) | skip)
        have H' := Aside0.mk H
        clear H
        go_wp2_with (first | ((with_reducible refine gate_callee (f := 51) rfl ?_); refine goesL_ (some 31) rfl rfl Tryd.func51 (by kernel_rfl) rfl #[.pointer (some ⟨g, 0, none⟩), .int .i64 20] rfl tq ?_; (with_reducible refine (spec_l6Rd_pick.calls k2 g s0_0 t687 20 t689 t690 w0 _ ?side1 ?side2 A27.out).mono ?_); (case side1 => exact zi101); (case side2 => exact zb); rintro e w34 ⟨rfl, hi, hb, hk⟩; refine ⟨_, rfl, ?_⟩; replace HO_3 := tNk HO_3 hk; replace HO686 := tNk HO686 hk; replace BK688 := tBq (o' := .cells #[.bool t679, .bool t680, .int .i64 t681, .int .i64 t682, .int .i64 t683, .slice Ao26 t684.length co26] 84 (0, 0)) BK688 hk NB688_0; replace HK := tKt HK hk; replace HB := Aside0.mk (hb); replace HI0 := Aside0.mk (hi); (try clear hb); (try clear hb2); (try clear hk); (try clear hi)))
        go_meet
        case rel => exact ⟨_, (false), (t690), tr, H', ⟨by have := HJ3.out; have := HK2.out; first | omega | exact Nat.le_refl _⟩, ⟨tNm HO_3.out⟩, ⟨tNm HO686.out⟩, ⟨tH BK688.out⟩, ⟨zi101⟩, ⟨zk⟩, ⟨zb⟩⟩
      case rest =>
       clear HC21
       try clear c19; try clear c19b0; try clear hcz25_0; try clear hcz25_1; try clear hcz25_2; try clear hcz25_3; try clear hcz25_4; try clear hcz25_5; try clear hfz25_0; try clear hfz25_1; try clear hfz25_2; try clear hfz25_3; try clear hfz25_4; try clear hfz25_5
       obtain ⟨kq, x37_20, x1001_20, rfl, HA, HJ20, HO_3, HO_689005, BK688, HI0, HK, HB⟩ := hcut
       cases kq with
       | zero => exact absurd HA.out (by simp [spec_l92Log.j2])
       | succ kj20 =>
        have H := HA.out
        clear HA
        simp only [spec_l92Log.j2] at H
        by_cases c35 : x37_20 = true
        ·subst c35
         rw [if_pos rfl] at H
         replace H := tbe H
         obtain ⟨⟨t692, t695⟩, A36, H⟩ := H
         dsimp only at H
         by_cases c37 : x3_2.length < 2513169434916
         ·rw [if_pos c37] at H
          have LMc37 := Aside0.mk c37
          clear c37
          obtain ⟨y696, hy696⟩ : ∃ y_ : List (S84), y_ = (x3_2 ++ [(⟨false, false, 255, 0, 0, t692⟩ : S84)]) := ⟨_, rfl⟩
          replace H : (if 0 ≤ (wrap64 ((t692.length : Int) - 1)) then (if (wrap64 ((t692.length : Int) - 1)) < (t692.length : Int) then ((spec_l6Rd_pick.f kj20 s0_0 t695 4).bind fun bt700 => (spec_l92Log.l0 kj20 y696 x4_3 (wrap64 ((wrap64 (((rd_T25 t692 (wrap64 ((t692.length : Int) - 1))).f0) + 1)) + (wrap64 ((wrap64 (Int.tdiv bt700.1 3)) * 2)))) (wrap64 (x6_2 + 1)) s0_0 bt700.2)) else (none)) else (none)) = some (r1, r2) := by first | (rw [hy696]; with_reducible exact H) | (have H2_ := (Option.bind_some _ _).symm.trans H; rw [hy696]; with_reducible exact H2_) | (have H2_ := (Option.bind_some _ _).symm.trans H; with_reducible exact H2_) | with_reducible exact H | (rw [hy696]; exact H) | exact H
          have Ny696 := Aside0.mk hy696
          clear hy696
          obtain ⟨ji38, hji38⟩ : ∃ j_ : Int, (wrap64 ((t692.length : Int) - 1)) = j_ := ⟨_, rfl⟩
          replace H : (if 0 ≤ (ji38) then (if (ji38) < (t692.length : Int) then ((spec_l6Rd_pick.f kj20 s0_0 t695 4).bind fun bt700 => (spec_l92Log.l0 kj20 y696 x4_3 (wrap64 ((wrap64 (((rd_T25 t692 (ji38)).f0) + 1)) + (wrap64 ((wrap64 (Int.tdiv bt700.1 3)) * 2)))) (wrap64 (x6_2 + 1)) s0_0 bt700.2)) else (none)) else (none)) = some (r1, r2) := by first | (rw [hji38] at H; exact H) | (simp only [hji38] at H ⊢; exact H)
          (try rw [hji38] at A36)
          have hji38w : (IntKind.i64.wrap ((t692.length : Int) - 1)) = ji38 := (i64_w _).trans hji38
          by_cases c39 : 0 ≤ (ji38)
          ·rw [if_pos c39] at H
           have c39b0 : decide (0 ≤ (ji38)) = true := decide_eq_true c39
           clear c39
           by_cases c40 : (ji38) < (t692.length : Int)
           ·rw [if_pos c40] at H
            have c40b0 : decide ((ji38) < (t692.length : Int)) = true := decide_eq_true c40
            clear c40
            replace H := tbe H
            obtain ⟨⟨t700, t701⟩, A41, H⟩ := H
            dsimp only at H
            have H' := Aside0.mk H
            clear H
            try go_wp2_with (first | ((with_reducible refine gate_callee (f := 81) rfl ?_); refine goesL_ (some 40) rfl rfl Tryd.func81 (by kernel_rfl) rfl #[.pointer (some ⟨g, 0, none⟩), .int .i64 x5_2, .int .i64 2] rfl tq ?_; (with_reducible refine (spec_l91Records.calls kj20 g s0_0 x1001_20 x5_2 2 t692 t695 w0 _ ?side1 ?side2 A36.out).mono ?_); (case side1 => exact zi101); (case side2 => exact zb); rintro e w42 ⟨v693, rfl, ho0, hi, hb, hk⟩; have u_v693 := tsv Tryd.prog v693 ho0; refine ⟨_, rfl, ?_⟩; have HO694 := Aside0.mk (Kd.N_lower (Kd.N_mono (ok' := fun k_ => (w.heap.size ≤ k_) ∧ some k_ ≠ (u3 : Value).ownBlock ∧ some k_ ≠ (.slice Ao26 t684.length co26 : Value).ownBlock ∧ k_ ≠ gb688 ∧ k_ ≠ g) (Kd.S_N (Kd.S_bound ho0)) (fun k_ hk_ => ⟨(Nat.le_trans (keep_size (w := w) (g := g) (row := none) zk) hk_.2.1), (tfr HO_3 k_ hk_.2.1), (tfr HO_689005 k_ hk_.2.1), (tfB BK688 k_ hk_.2.1), (IsS101.fresh zi101 k_ hk_.2.1)⟩)) (keep_size (w := w) (g := g) (row := none) zk)); replace HO_3 := Aside0.mk (Kd.N_mono (Kd.N_told (Kd.N_oldK (Kd.N_mono (ok := fun k_ => (((w.heap.size ≤ k_)) ∧ (some k_ ≠ (.slice Ao26 t684.length co26 : Value).ownBlock ∧ (k_ ≠ gb688 ∧ k_ ≠ g)))) (tN HO_3.out) (fun k_ hk_ => (⟨hk_, hk_.2.2.2⟩ : _ ∧ k_ ≠ g))) hk) (tb ho0)) (fun _ h_ => h_.1)); replace HO_689005 := Aside0.mk (Kd.N_mono (Kd.N_told (Kd.N_oldK (Kd.N_mono (ok := fun k_ => (((w.heap.size ≤ k_)) ∧ (some k_ ≠ (u3 : Value).ownBlock ∧ (k_ ≠ gb688 ∧ k_ ≠ g)))) (tN HO_689005.out) (fun k_ hk_ => (⟨hk_, hk_.2.2.2⟩ : _ ∧ k_ ≠ g))) hk) (tb ho0)) (fun _ h_ => h_.1)); replace BK688 := tBk BK688 hk NB688_0; replace HK := tKt HK hk; replace HB := Aside0.mk (hb); replace HI0 := Aside0.mk (hi); (try clear hb); (try clear hb2); (try clear hk); (try clear hi); (try clear ho0); obtain ⟨Ao43, co43, eo43⟩ := Kd.N_slice HO694.out; subst eo43; have hnb44 := NB688_0.out; have hnc44 := NB0_688.out; obtain ⟨hcz45_0, hcz45_1, hcz45_2, hcz45_3, hcz45_4, hcz45_5, hfz45_0, hfz45_1, hfz45_2, hfz45_3, hfz45_4, hfz45_5⟩ := cells6 BK688.out) | ((with_reducible refine gate_store (t := 84) (p := 7) rfl ?_); refine store_event (t := 84) (p := 7) (v := ?vo_w46) (w1 := ((((((w42.setCell ⟨gb688, 0, none⟩ (.bool false)).setCell ⟨gb688, 1, none⟩ (.bool false)).setCell ⟨gb688, 2, none⟩ (.int .i64 255)).setCell ⟨gb688, 3, none⟩ (.int .i64 0)).setCell ⟨gb688, 4, none⟩ (.int .i64 0)).setCell ⟨gb688, 5, none⟩ (.slice Ao43 t692.length co43))) ?hg ?ho ?hn ?hr ?_; (case ho => rfl); (case hg => rfl); (case hn => rfl); (case hr => first | (go_simp; done) | (go_simp; rfl)); intro w46 hw; have n0_ : Aside0 (Kd.N k84 84 w46 w.heap.size (fun k_ => (w.heap.size ≤ k_) ∧ some k_ ≠ (.slice Ao26 t684.length co26 : Value).ownBlock ∧ some k_ ≠ (.slice Ao43 t692.length co43 : Value).ownBlock ∧ k_ ≠ gb688 ∧ k_ ≠ g) u3 x3_2) := ⟨(by rw [hw]; exact (tNm HO_3.out))⟩; have n1_ : Aside0 (Kd.N k25 25 w46 w.heap.size (fun k_ => (w.heap.size ≤ k_) ∧ some k_ ≠ (u3 : Value).ownBlock ∧ some k_ ≠ (.slice Ao43 t692.length co43 : Value).ownBlock ∧ k_ ≠ gb688 ∧ k_ ≠ g) (.slice Ao26 t684.length co26) t684) := ⟨(by rw [hw]; exact (tNm HO_689005.out))⟩; have n2_ : Aside0 (Kd.N k25 25 w46 w.heap.size (fun k_ => (w.heap.size ≤ k_) ∧ some k_ ≠ (u3 : Value).ownBlock ∧ some k_ ≠ (.slice Ao26 t684.length co26 : Value).ownBlock ∧ k_ ≠ gb688 ∧ k_ ≠ g) (.slice Ao43 t692.length co43) t692) := ⟨(by rw [hw]; exact (tNm HO694.out))⟩; have n3_ : Aside0 (w46.heap[gb688]? = some (.cells #[.bool false, .bool false, .int .i64 255, .int .i64 0, .int .i64 0, .slice Ao43 t692.length co43] 84 (0, 0))) := ⟨(by rw [hw]; exact (tP BK688.out))⟩; have n4_ : Aside0 (IsS101 w0 w46 g s0_0 t695) := ⟨(by rw [hw]; exact zi101)⟩; have n5_ : Aside0 (KeepBut w w46 g none) := ⟨(by rw [hw]; exact zk)⟩; have n6_ : Aside0 (Below w0.heap.size w0 w46) := ⟨(by rw [hw]; exact zb)⟩; clear hw; clear HO_3; clear HO_689005; clear HO694; clear BK688; clear HI0; clear HK; clear HB; have HO_3 := n0_; have HO_689005 := n1_; have HO694 := n2_; have BK688 := n3_; have HI0 := n4_; have HK := n5_; have HB := n6_; clear n0_ n1_ n2_ n3_ n4_ n5_ n6_; obtain ⟨hcz47_0, hcz47_1, hcz47_2, hcz47_3, hcz47_4, hcz47_5, hfz47_0, hfz47_1, hfz47_2, hfz47_3, hfz47_4, hfz47_5⟩ := cells6 BK688.out) | ((with_reducible refine gate_builtin (b := .append) (xs := #[.tmp 42, .tmp 44]) rfl ?_); at_builtin; refine Kd.N_append k84 w.heap.size rfl (.tmp 42) (.tmp 44) 40 84 (.agg #[(.bool false), (.bool false), (.int .i64 0), (.int .i64 0), (.int .i64 0), (.slice none 0 0)]) 56 rfl Tryd.underlying40 info84 rfl (by decide) (by omega) u3 x3_2 (⟨false, false, 255, 0, 0, t692⟩ : S84) [.bool false, .bool false, .int .i64 255, .int .i64 0, .int .i64 0, .slice Ao43 t692.length co43] (fun k_ => (w.heap.size ≤ k_) ∧ some k_ ≠ (.slice Ao26 t684.length co26 : Value).ownBlock ∧ k_ ≠ gb688 ∧ k_ ≠ g) (fun k_ => ((fun k_ => (w.heap.size ≤ k_) ∧ some k_ ≠ (.slice Ao26 t684.length co26 : Value).ownBlock ∧ k_ ≠ gb688 ∧ k_ ≠ g)) k_ ∧ some k_ ≠ (u3 : Value).ownBlock) rfl rfl ?aP (fun _ hk => hk) ?aF ?aO (Below.refl _ _) ?aS ?aL ?_; (case aP => exact (k84_mkF _ _ (⟨false, false, 255, 0, 0, t692⟩ : S84) (Kd.N_reads' (Kd.N_mono (ok' := (fun k_ => ((fun k_ => (w.heap.size ≤ k_) ∧ some k_ ≠ (.slice Ao26 t684.length co26 : Value).ownBlock ∧ k_ ≠ gb688 ∧ k_ ≠ g)) k_ ∧ some k_ ≠ (u3 : Value).ownBlock)) (HO694.out) (fun k_ hk => ⟨⟨hk.1, ⟨hk.2.2.1, ⟨hk.2.2.2.1, hk.2.2.2.2⟩⟩⟩, hk.2.1⟩))).2.1 (Kd.N_F (Kd.N_mono (ok' := (fun k_ => ((fun k_ => (w.heap.size ≤ k_) ∧ some k_ ≠ (.slice Ao26 t684.length co26 : Value).ownBlock ∧ k_ ≠ gb688 ∧ k_ ≠ g)) k_ ∧ some k_ ≠ (u3 : Value).ownBlock)) (HO694.out) (fun k_ hk => ⟨⟨hk.1, ⟨hk.2.2.1, ⟨hk.2.2.2.1, hk.2.2.2.2⟩⟩⟩, hk.2.1⟩))))); (case aF => exact (fun k_ hk => ⟨(Nat.le_trans (keep_size (w := w) (g := g) (row := none) zk) hk), tfr HO_689005 k_ hk, tfB BK688 k_ hk, IsS101.fresh zi101 k_ hk⟩)); (case aO => exact (tNm HO_3.out)); (case aS => exact (keep_size (w := w) (g := g) (row := none) zk)); (case aL => have := LMc37.out; omega); intro v697 w48 ho hb hg hat; rw [← Ny696.out] at ho; have n0_ := Aside0.mk (Kd.N_afterv (ok := (fun k_ => (w.heap.size ≤ k_) ∧ some k_ ≠ (.slice Ao43 t692.length co43 : Value).ownBlock ∧ k_ ≠ gb688 ∧ k_ ≠ g)) (tNm HO_689005.out) hg hat); have n1_ := Aside0.mk (blk_grown (tH BK688.out) hg (Kd.N_away HO_3.out (fun _ hk => hk.2.2.2.1))); have n2_ := Aside0.mk (IsS101.grown zi101 hg (IsS101.own_neN HI0.out HO_3.out (by decide))); have n3_ := Aside0.mk (below_weaken zb HL.out hb); have n4_ := Aside0.mk (KeepBut.trans zk (KeepBut.of_grown hg g) (Kd.N_base2 HO_3.out)); have n5_ := Aside0.mk (ho); have nx_ := Aside0.mk (Kd.N_grown (tN HO694.out) hg (fun k_ hk => by first | exact hk.2.1 | exact hk.2.2.1 | exact hk.1.2.1 | exact hk.1.2.2.1)); clear HO_689005; clear BK688; clear HI0; clear HB; clear HK; clear HO_3; clear HO694; have HO_689005 := n0_; have BK688 := n1_; have HI0 := n2_; have HB := n3_; have HK := n4_; have HO698 := n5_; clear n0_ n1_ n2_ n3_ n4_ n5_; have HO694 := nx_; clear nx_; clear ho hb hg hat))
            replace HO_689005 := Aside0.mk (Kd.N_drew HO_689005.out)
            replace HO698 := Aside0.mk (Kd.N_drew HO698.out)
            replace BK688 := Aside0.mk (blk_drew BK688.out)
            replace HI0 := Aside0.mk (IsS101.drew HI0.out)
            replace HK := Aside0.mk (keep_drew HK.out)
            replace HB := Aside0.mk (below_drew1 HB.out)
            have p699 : 0 ≤ ((ji38) : Int) := td
            have q699 : (ji38) < (t692.length : Int) := td
            have HO694 := Aside0.mk (Kd.N_drew HO694.out)
            obtain ⟨ad699, A699_3, c699_3, A699_5, c699_5, e699, hx699_0, hx699_1, hx699_2, hx699_3, hx699_4, hx699_5, hl699_3, hi699_3, hl699_5, hi699_5⟩ := at_T25 (Kd.N_reads' HO694.out).2.2 (ji38) p699 q699
            cases e699
            have HR699_3 := Aside0.mk hi699_3
            have HC699_3 := Aside0.mk hl699_3
            clear hi699_3 hl699_3
            have HR699_5 := Aside0.mk hi699_5
            have HC699_5 := Aside0.mk hl699_5
            clear hi699_5 hl699_5
            replace p699 := eq_true p699
            replace q699 := eq_true q699
            refine start_ (n := 16) (S := fun w' => w'.cell? ⟨gb688, 0, none⟩ = some (.bool false) ∧ w'.cell? ⟨gb688, 1, none⟩ = some (.bool false) ∧ w'.cell? ⟨gb688, 2, none⟩ = some (.int .i64 255) ∧ w'.cell? ⟨gb688, 3, none⟩ = some (.int .i64 0) ∧ w'.cell? ⟨gb688, 4, none⟩ = some (.int .i64 0) ∧ w'.cell? ⟨gb688, 5, none⟩ = some (.slice (some ad699) t692.length co43) ∧ w'.cell? (ad699.add (((ji38)).toNat * 6)) = some (.int .i64 ((rd_T25 t692 (ji38)).f0)) ∧ w'.cell? ⟨(ad699.add (((ji38)).toNat * 6)).block, (ad699.add (((ji38)).toNat * 6)).off + 1, none⟩ = some (.int .i64 ((rd_T25 t692 (ji38)).f1)) ∧ w'.cell? ⟨(ad699.add (((ji38)).toNat * 6)).block, (ad699.add (((ji38)).toNat * 6)).off + 2, none⟩ = some (.bool ((rd_T25 t692 (ji38)).f2)) ∧ w'.cell? ⟨(ad699.add (((ji38)).toNat * 6)).block, (ad699.add (((ji38)).toNat * 6)).off + 3, none⟩ = some (.slice A699_3 ((rd_T25 t692 (ji38)).f3).length c699_3) ∧ w'.cell? ⟨(ad699.add (((ji38)).toNat * 6)).block, (ad699.add (((ji38)).toNat * 6)).off + 4, none⟩ = some (.bool ((rd_T25 t692 (ji38)).f4)) ∧ w'.cell? ⟨(ad699.add (((ji38)).toNat * 6)).block, (ad699.add (((ji38)).toNat * 6)).off + 5, none⟩ = some (.slice A699_5 ((rd_T25 t692 (ji38)).f5).length c699_5)) (ds := []) #[false, false, false, false, false, false, false, false, false, false, false, false, false, false, false, false] (by kernel_rfl) rfl rfl ⟨(blk_cell BK688.out 0).trans rfl, (blk_cell BK688.out 1).trans rfl, (blk_cell BK688.out 2).trans rfl, (blk_cell BK688.out 3).trans rfl, (blk_cell BK688.out 4).trans rfl, (blk_cell BK688.out 5).trans rfl, hx699_0, hx699_1, hx699_2, hx699_3, hx699_4, hx699_5⟩ (fun hHeld => ?_); refine with_tabW spec_l92Log.tab13 spec_l92Log.bits13 (fun HT_ HW_ => ?_)
            generalize w48.drew = w49 at HO694 HO_689005 HO698 BK688 HI0 HK HB HR699_3 HR699_5 hx699_0 hx699_1 hx699_2 hx699_3 hx699_4 hx699_5 hHeld ⊢
            refine tpu 0 (some 46) #[true, false, false, false, false, false, false, false, false, false, false, false, false, false, false, false] ?_
            refine tpu 2 (some 48) #[true, false, true, false, false, false, false, false, false, false, false, false, false, false, false, false] ?_
            refine tpu 10 (some 56) #[true, false, true, false, false, false, false, false, false, false, true, false, false, false, false, false] ?_
            refine tta 1 (some 47) #[true, true, true, false, false, false, false, false, false, false, true, false, false, false, false, false] hHeld ?_ (hy := by rintro w' ⟨s0, s1, s2, s3, s4, s5, s6, s7, s8, s9, s10, s11⟩; go_simp; with_reducible rfl)
            refine tta 3 (some 49) #[true, true, true, true, false, false, false, false, false, false, true, false, false, false, false, false] hHeld ?_ (hy := by rintro w' ⟨s0, s1, s2, s3, s4, s5, s6, s7, s8, s9, s10, s11⟩; go_simp; with_reducible rfl)
            refine tpu 4 (some 50) #[true, true, true, true, true, false, false, false, false, false, true, false, false, false, false, false] ?_
            refine tpu 5 (some 51) #[true, true, true, true, true, true, false, false, false, false, true, false, false, false, false, false] ?_
            refine tpu 6 (some 52) #[true, true, true, true, true, true, true, false, false, false, true, false, false, false, false, false] ?_
            refine tpu 7 (some 53) #[true, true, true, true, true, true, true, true, false, false, true, false, false, false, false, false] ?_
            refine tta 8 (some 54) #[true, true, true, true, true, true, true, true, true, false, true, false, false, false, false, false] hHeld ?_ (hy := by rintro w' ⟨s0, s1, s2, s3, s4, s5, s6, s7, s8, s9, s10, s11⟩; go_simp; with_reducible rfl)
            refine tpu 9 (some 55) #[true, true, true, true, true, true, true, true, true, true, true, false, false, false, false, false] ?_
            refine one_ (i := 11) (N := some 57) #[true, true, true, true, true, true, true, true, true, true, true, true, false, false, false, false] rfl rfl (one_of HT_.out (by kernel_rfl)) (by decide) (fun K hK => ?_)
            refine goes_ Tryd.func51 (by kernel_rfl) rfl #[.pointer (some ⟨g, 0, none⟩), .int .i64 4] (by rfl) rfl rfl tq ?_
            with_reducible refine (spec_l6Rd_pick.calls kj20 g s0_0 t695 4 t700 t701 w0 _ ?side1 ?side2 A41.out).mono ?_
            (case side1 => exact zi101)
            (case side2 => exact zb)
            rintro e w50 ⟨rfl, hi, hb, hk⟩
            have HS6_ := keep_cell hk (hHeld.2.2.2.2.2.2.1) (tow (Kd.own_blk (IsS101.own_neN HI0.out HO694.out (by decide))))
            have HS7_ := keep_cell hk (hHeld.2.2.2.2.2.2.2.1) (tow (Kd.own_blk (IsS101.own_neN HI0.out HO694.out (by decide))))
            have HS8_ := keep_cell hk (hHeld.2.2.2.2.2.2.2.2.1) (tow (Kd.own_blk (IsS101.own_neN HI0.out HO694.out (by decide))))
            have HS9_ := keep_cell hk (hHeld.2.2.2.2.2.2.2.2.2.1) (tow (Kd.own_blk (IsS101.own_neN HI0.out HO694.out (by decide))))
            have HS10_ := keep_cell hk (hHeld.2.2.2.2.2.2.2.2.2.2.1) (tow (Kd.own_blk (IsS101.own_neN HI0.out HO694.out (by decide))))
            have HS11_ := keep_cell hk (hHeld.2.2.2.2.2.2.2.2.2.2.2) (tow (Kd.own_blk (IsS101.own_neN HI0.out HO694.out (by decide))))
            refine ⟨_, rfl, ?_⟩
            replace HO_689005 := tNk HO_689005 hk
            replace BK688 := tBk BK688 hk NB688_0
            replace HO698 := tNk HO698 hk
            replace HK := tKt HK hk
            replace HB := Aside0.mk (hb)
            replace HI0 := Aside0.mk (hi)
            (try clear hb)
            (try clear hb2)
            (try clear hk)
            (try clear hi)
            refine hK.out _ _ ⟨(blk_cell BK688.out 0).trans rfl, (blk_cell BK688.out 1).trans rfl, (blk_cell BK688.out 2).trans rfl, (blk_cell BK688.out 3).trans rfl, (blk_cell BK688.out 4).trans rfl, (blk_cell BK688.out 5).trans rfl, HS6_, HS7_, HS8_, HS9_, HS10_, HS11_⟩ (fun hHeld => ?_)
            clear hK K
            refine tnm (some 57) ?_
            refine tpu 12 (some 58) #[true, true, true, true, true, true, true, true, true, true, true, true, true, false, false, false] ?_
            refine tpu 13 (some 59) #[true, true, true, true, true, true, true, true, true, true, true, true, true, true, false, false] ?_
            refine tpu 14 (some 60) #[true, true, true, true, true, true, true, true, true, true, true, true, true, true, true, false] ?_
            refine tpu 15 (some 5) #[true, true, true, true, true, true, true, true, true, true, true, true, true, true, true, true] ?_
            refine done_ (done_of HT_.out (by kernel_rfl)) ?_
            try go_wp2
            go_roundg kj20
            case measure => have := HJ3.out; have := HK2.out; have := HJ20.out; omega
            case rel => exact ⟨(y696), (wrap64 ((wrap64 (((rd_T25 t692 (ji38)).f0) + 1)) + (wrap64 ((wrap64 (Int.tdiv t700 3)) * 2)))), (wrap64 (x6_2 + 1)), (t701), (by first | rfl | (simp; done) | (simp only [← hji38] <;> (first | rfl | simp)) | (simp [*]; done)), tr, H', ⟨by have := HJ3.out; have := HK2.out; have := HJ20.out; omega⟩, ⟨tNm HO698.out⟩, ⟨zi101⟩, ⟨zk⟩, ⟨zb⟩⟩
           ·rw [if_neg c40] at H
            exact absurd H (by simp)
          ·rw [if_neg c39] at H
           exact absurd H (by simp)
         ·rw [if_neg c37] at H
          exact absurd H (by simp)
        ·replace c35 := Bool.eq_false_iff.mpr c35
         subst c35
         rw [if_neg (show ¬ (false = true) by decide)] at H
         by_cases c51 : x3_2.length < 2513169434916
         ·rw [if_pos c51] at H
          have LMc51 := Aside0.mk c51
          clear c51
          obtain ⟨y702, hy702⟩ : ∃ y_ : List (S84), y_ = (x3_2 ++ [(⟨t679, t680, t681, t682, t683, t684⟩ : S84)]) := ⟨_, rfl⟩
          replace H : (if 0 ≤ (wrap64 ((t684.length : Int) - 1)) then (if (wrap64 ((t684.length : Int) - 1)) < (t684.length : Int) then ((spec_l6Rd_pick.f kj20 s0_0 x1001_20 4).bind fun bt706 => (spec_l92Log.l0 kj20 y702 x4_3 (wrap64 ((wrap64 (((rd_T25 t684 (wrap64 ((t684.length : Int) - 1))).f0) + 1)) + (wrap64 ((wrap64 (Int.tdiv bt706.1 3)) * 2)))) (wrap64 (x6_2 + 1)) s0_0 bt706.2)) else (none)) else (none)) = some (r1, r2) := by first | (rw [hy702]; with_reducible exact H) | (have H2_ := (Option.bind_some _ _).symm.trans H; rw [hy702]; with_reducible exact H2_) | (have H2_ := (Option.bind_some _ _).symm.trans H; with_reducible exact H2_) | with_reducible exact H | (rw [hy702]; exact H) | exact H
          have Ny702 := Aside0.mk hy702
          clear hy702
          obtain ⟨ji52, hji52⟩ : ∃ j_ : Int, (wrap64 ((t684.length : Int) - 1)) = j_ := ⟨_, rfl⟩
          replace H : (if 0 ≤ (ji52) then (if (ji52) < (t684.length : Int) then ((spec_l6Rd_pick.f kj20 s0_0 x1001_20 4).bind fun bt706 => (spec_l92Log.l0 kj20 y702 x4_3 (wrap64 ((wrap64 (((rd_T25 t684 (ji52)).f0) + 1)) + (wrap64 ((wrap64 (Int.tdiv bt706.1 3)) * 2)))) (wrap64 (x6_2 + 1)) s0_0 bt706.2)) else (none)) else (none)) = some (r1, r2) := by first | (rw [hji52] at H; exact H) | (simp only [hji52] at H ⊢; exact H)
          have hji52w : (IntKind.i64.wrap ((t684.length : Int) - 1)) = ji52 := (i64_w _).trans hji52
          by_cases c53 : 0 ≤ (ji52)
          ·rw [if_pos c53] at H
           have c53b0 : decide (0 ≤ (ji52)) = true := decide_eq_true c53
           clear c53
           by_cases c54 : (ji52) < (t684.length : Int)
           ·rw [if_pos c54] at H
            have c54b0 : decide ((ji52) < (t684.length : Int)) = true := decide_eq_true c54
            clear c54
            replace H := tbe H
            obtain ⟨⟨t706, t707⟩, A55, H⟩ := H
            dsimp only at H
            have H' := Aside0.mk H
            clear H
            have hnb56 := NB688_0.out
            have hnc56 := NB0_688.out
            obtain ⟨hcz57_0, hcz57_1, hcz57_2, hcz57_3, hcz57_4, hcz57_5, hfz57_0, hfz57_1, hfz57_2, hfz57_3, hfz57_4, hfz57_5⟩ := cells6 BK688.out
            try go_wp2_with (first | ((with_reducible refine gate_builtin (b := .append) (xs := #[.tmp 42, .tmp 44]) rfl ?_); at_builtin; refine Kd.N_append k84 w.heap.size rfl (.tmp 42) (.tmp 44) 40 84 (.agg #[(.bool false), (.bool false), (.int .i64 0), (.int .i64 0), (.int .i64 0), (.slice none 0 0)]) 56 rfl Tryd.underlying40 info84 rfl (by decide) (by omega) u3 x3_2 (⟨t679, t680, t681, t682, t683, t684⟩ : S84) [.bool t679, .bool t680, .int .i64 t681, .int .i64 t682, .int .i64 t683, .slice Ao26 t684.length co26] (fun k_ => (w.heap.size ≤ k_) ∧ k_ ≠ gb688 ∧ k_ ≠ g) (fun k_ => ((fun k_ => (w.heap.size ≤ k_) ∧ k_ ≠ gb688 ∧ k_ ≠ g)) k_ ∧ some k_ ≠ (u3 : Value).ownBlock) rfl rfl ?aP (fun _ hk => hk) ?aF ?aO (Below.refl _ _) ?aS ?aL ?_; (case aP => exact (k84_mkF _ _ (⟨t679, t680, t681, t682, t683, t684⟩ : S84) (Kd.N_reads' (Kd.N_mono (ok' := (fun k_ => ((fun k_ => (w.heap.size ≤ k_) ∧ k_ ≠ gb688 ∧ k_ ≠ g)) k_ ∧ some k_ ≠ (u3 : Value).ownBlock)) (HO_689005.out) (fun k_ hk => ⟨⟨hk.1, ⟨hk.2.2.1, hk.2.2.2⟩⟩, hk.2.1⟩))).2.1 (Kd.N_F (Kd.N_mono (ok' := (fun k_ => ((fun k_ => (w.heap.size ≤ k_) ∧ k_ ≠ gb688 ∧ k_ ≠ g)) k_ ∧ some k_ ≠ (u3 : Value).ownBlock)) (HO_689005.out) (fun k_ hk => ⟨⟨hk.1, ⟨hk.2.2.1, hk.2.2.2⟩⟩, hk.2.1⟩))))); (case aF => exact (fun k_ hk => ⟨(Nat.le_trans (keep_size (w := w) (g := g) (row := none) zk) hk), tfB BK688 k_ hk, IsS101.fresh zi101 k_ hk⟩)); (case aO => exact (tNm HO_3.out)); (case aS => exact (keep_size (w := w) (g := g) (row := none) zk)); (case aL => have := LMc51.out; omega); intro v703 w58 ho hb hg hat; rw [← Ny702.out] at ho; have n0_ := Aside0.mk (blk_grown (tH BK688.out) hg (Kd.N_away HO_3.out (fun _ hk => hk.2.2.1))); have n1_ := Aside0.mk (IsS101.grown zi101 hg (IsS101.own_neN HI0.out HO_3.out (by decide))); have n2_ := Aside0.mk (below_weaken zb HL.out hb); have n3_ := Aside0.mk (KeepBut.trans zk (KeepBut.of_grown hg g) (Kd.N_base2 HO_3.out)); have n4_ := Aside0.mk (ho); have nx_ := Aside0.mk (Kd.N_grown (tN HO_689005.out) hg (fun k_ hk => by first | exact hk.2.1 | exact hk.2.2.1 | exact hk.1.2.1 | exact hk.1.2.2.1)); clear BK688; clear HI0; clear HB; clear HK; clear HO_3; clear HO_689005; have BK688 := n0_; have HI0 := n1_; have HB := n2_; have HK := n3_; have HO704 := n4_; clear n0_ n1_ n2_ n3_ n4_; have HO_689005 := nx_; clear nx_; clear ho hb hg hat))
            replace HO704 := Aside0.mk (Kd.N_drew HO704.out)
            replace BK688 := Aside0.mk (blk_drew BK688.out)
            replace HI0 := Aside0.mk (IsS101.drew HI0.out)
            replace HK := Aside0.mk (keep_drew HK.out)
            replace HB := Aside0.mk (below_drew1 HB.out)
            have p705 : 0 ≤ ((ji52) : Int) := td
            have q705 : (ji52) < (t684.length : Int) := td
            have HO_689005 := Aside0.mk (Kd.N_drew HO_689005.out)
            obtain ⟨ad705, A705_3, c705_3, A705_5, c705_5, e705, hx705_0, hx705_1, hx705_2, hx705_3, hx705_4, hx705_5, hl705_3, hi705_3, hl705_5, hi705_5⟩ := at_T25 (Kd.N_reads' HO_689005.out).2.2 (ji52) p705 q705
            cases e705
            have HR705_3 := Aside0.mk hi705_3
            have HC705_3 := Aside0.mk hl705_3
            clear hi705_3 hl705_3
            have HR705_5 := Aside0.mk hi705_5
            have HC705_5 := Aside0.mk hl705_5
            clear hi705_5 hl705_5
            replace p705 := eq_true p705
            replace q705 := eq_true q705
            refine start_ (n := 16) (S := fun w' => w'.cell? ⟨gb688, 0, none⟩ = some (.bool t679) ∧ w'.cell? ⟨gb688, 1, none⟩ = some (.bool t680) ∧ w'.cell? ⟨gb688, 2, none⟩ = some (.int .i64 t681) ∧ w'.cell? ⟨gb688, 3, none⟩ = some (.int .i64 t682) ∧ w'.cell? ⟨gb688, 4, none⟩ = some (.int .i64 t683) ∧ w'.cell? ⟨gb688, 5, none⟩ = some (.slice (some ad705) t684.length co26) ∧ w'.cell? (ad705.add (((ji52)).toNat * 6)) = some (.int .i64 ((rd_T25 t684 (ji52)).f0)) ∧ w'.cell? ⟨(ad705.add (((ji52)).toNat * 6)).block, (ad705.add (((ji52)).toNat * 6)).off + 1, none⟩ = some (.int .i64 ((rd_T25 t684 (ji52)).f1)) ∧ w'.cell? ⟨(ad705.add (((ji52)).toNat * 6)).block, (ad705.add (((ji52)).toNat * 6)).off + 2, none⟩ = some (.bool ((rd_T25 t684 (ji52)).f2)) ∧ w'.cell? ⟨(ad705.add (((ji52)).toNat * 6)).block, (ad705.add (((ji52)).toNat * 6)).off + 3, none⟩ = some (.slice A705_3 ((rd_T25 t684 (ji52)).f3).length c705_3) ∧ w'.cell? ⟨(ad705.add (((ji52)).toNat * 6)).block, (ad705.add (((ji52)).toNat * 6)).off + 4, none⟩ = some (.bool ((rd_T25 t684 (ji52)).f4)) ∧ w'.cell? ⟨(ad705.add (((ji52)).toNat * 6)).block, (ad705.add (((ji52)).toNat * 6)).off + 5, none⟩ = some (.slice A705_5 ((rd_T25 t684 (ji52)).f5).length c705_5)) (ds := []) #[false, false, false, false, false, false, false, false, false, false, false, false, false, false, false, false] (by kernel_rfl) rfl rfl ⟨(blk_cell BK688.out 0).trans rfl, (blk_cell BK688.out 1).trans rfl, (blk_cell BK688.out 2).trans rfl, (blk_cell BK688.out 3).trans rfl, (blk_cell BK688.out 4).trans rfl, (blk_cell BK688.out 5).trans rfl, hx705_0, hx705_1, hx705_2, hx705_3, hx705_4, hx705_5⟩ (fun hHeld => ?_); refine with_tabW spec_l92Log.tab13 spec_l92Log.bits13 (fun HT_ HW_ => ?_)
            generalize w58.drew = w59 at HO_689005 HO704 BK688 HI0 HK HB HR705_3 HR705_5 hx705_0 hx705_1 hx705_2 hx705_3 hx705_4 hx705_5 hHeld ⊢
            refine tpu 0 (some 46) #[true, false, false, false, false, false, false, false, false, false, false, false, false, false, false, false] ?_
            refine tpu 2 (some 48) #[true, false, true, false, false, false, false, false, false, false, false, false, false, false, false, false] ?_
            refine tpu 10 (some 56) #[true, false, true, false, false, false, false, false, false, false, true, false, false, false, false, false] ?_
            refine tta 1 (some 47) #[true, true, true, false, false, false, false, false, false, false, true, false, false, false, false, false] hHeld ?_ (hy := by rintro w' ⟨s0, s1, s2, s3, s4, s5, s6, s7, s8, s9, s10, s11⟩; go_simp; with_reducible rfl)
            refine tta 3 (some 49) #[true, true, true, true, false, false, false, false, false, false, true, false, false, false, false, false] hHeld ?_ (hy := by rintro w' ⟨s0, s1, s2, s3, s4, s5, s6, s7, s8, s9, s10, s11⟩; go_simp; with_reducible rfl)
            refine tpu 4 (some 50) #[true, true, true, true, true, false, false, false, false, false, true, false, false, false, false, false] ?_
            refine tpu 5 (some 51) #[true, true, true, true, true, true, false, false, false, false, true, false, false, false, false, false] ?_
            refine tpu 6 (some 52) #[true, true, true, true, true, true, true, false, false, false, true, false, false, false, false, false] ?_
            refine tpu 7 (some 53) #[true, true, true, true, true, true, true, true, false, false, true, false, false, false, false, false] ?_
            refine tta 8 (some 54) #[true, true, true, true, true, true, true, true, true, false, true, false, false, false, false, false] hHeld ?_ (hy := by rintro w' ⟨s0, s1, s2, s3, s4, s5, s6, s7, s8, s9, s10, s11⟩; go_simp; with_reducible rfl)
            refine tpu 9 (some 55) #[true, true, true, true, true, true, true, true, true, true, true, false, false, false, false, false] ?_
            refine one_ (i := 11) (N := some 57) #[true, true, true, true, true, true, true, true, true, true, true, true, false, false, false, false] rfl rfl (one_of HT_.out (by kernel_rfl)) (by decide) (fun K hK => ?_)
            refine goes_ Tryd.func51 (by kernel_rfl) rfl #[.pointer (some ⟨g, 0, none⟩), .int .i64 4] (by rfl) rfl rfl tq ?_
            with_reducible refine (spec_l6Rd_pick.calls kj20 g s0_0 x1001_20 4 t706 t707 w0 _ ?side1 ?side2 A55.out).mono ?_
            (case side1 => exact zi101)
            (case side2 => exact zb)
            rintro e w60 ⟨rfl, hi, hb, hk⟩
            have HS6_ := keep_cell hk (hHeld.2.2.2.2.2.2.1) (tow (Kd.own_blk (IsS101.own_neN HI0.out HO_689005.out (by decide))))
            have HS7_ := keep_cell hk (hHeld.2.2.2.2.2.2.2.1) (tow (Kd.own_blk (IsS101.own_neN HI0.out HO_689005.out (by decide))))
            have HS8_ := keep_cell hk (hHeld.2.2.2.2.2.2.2.2.1) (tow (Kd.own_blk (IsS101.own_neN HI0.out HO_689005.out (by decide))))
            have HS9_ := keep_cell hk (hHeld.2.2.2.2.2.2.2.2.2.1) (tow (Kd.own_blk (IsS101.own_neN HI0.out HO_689005.out (by decide))))
            have HS10_ := keep_cell hk (hHeld.2.2.2.2.2.2.2.2.2.2.1) (tow (Kd.own_blk (IsS101.own_neN HI0.out HO_689005.out (by decide))))
            have HS11_ := keep_cell hk (hHeld.2.2.2.2.2.2.2.2.2.2.2) (tow (Kd.own_blk (IsS101.own_neN HI0.out HO_689005.out (by decide))))
            refine ⟨_, rfl, ?_⟩
            replace BK688 := tBk BK688 hk NB688_0
            replace HO704 := tNk HO704 hk
            replace HK := tKt HK hk
            replace HB := Aside0.mk (hb)
            replace HI0 := Aside0.mk (hi)
            (try clear hb)
            (try clear hb2)
            (try clear hk)
            (try clear hi)
            refine hK.out _ _ ⟨(blk_cell BK688.out 0).trans rfl, (blk_cell BK688.out 1).trans rfl, (blk_cell BK688.out 2).trans rfl, (blk_cell BK688.out 3).trans rfl, (blk_cell BK688.out 4).trans rfl, (blk_cell BK688.out 5).trans rfl, HS6_, HS7_, HS8_, HS9_, HS10_, HS11_⟩ (fun hHeld => ?_)
            clear hK K
            refine tnm (some 57) ?_
            refine tpu 12 (some 58) #[true, true, true, true, true, true, true, true, true, true, true, true, true, false, false, false] ?_
            refine tpu 13 (some 59) #[true, true, true, true, true, true, true, true, true, true, true, true, true, true, false, false] ?_
            refine tpu 14 (some 60) #[true, true, true, true, true, true, true, true, true, true, true, true, true, true, true, false] ?_
            refine tpu 15 (some 5) #[true, true, true, true, true, true, true, true, true, true, true, true, true, true, true, true] ?_
            refine done_ (done_of HT_.out (by kernel_rfl)) ?_
            try go_wp2
            go_roundg kj20
            case measure => have := HJ3.out; have := HK2.out; have := HJ20.out; omega
            case rel => exact ⟨(y702), (wrap64 ((wrap64 (((rd_T25 t684 (ji52)).f0) + 1)) + (wrap64 ((wrap64 (Int.tdiv t706 3)) * 2)))), (wrap64 (x6_2 + 1)), (t707), (by first | rfl | (simp; done) | (simp only [← hji52] <;> (first | rfl | simp)) | (simp [*]; done)), tr, H', ⟨by have := HJ3.out; have := HK2.out; have := HJ20.out; omega⟩, ⟨tNm HO704.out⟩, ⟨zi101⟩, ⟨zk⟩, ⟨zb⟩⟩
           ·rw [if_neg c54] at H
            exact absurd H (by simp)
          ·rw [if_neg c53] at H
           exact absurd H (by simp)
         ·rw [if_neg c51] at H
          exact absurd H (by simp)
     ·rw [if_neg c19] at H
      have c19b0 : decide (x6_2 < x4_3) = false := decide_eq_false c19
      clear c19
      by_cases c61 : x4_3 > 1
      ·rw [if_pos c61] at H
       have c61b0 : decide (1 < x4_3) = true := decide_eq_true c61
       clear c61
       replace H := tbe H
       obtain ⟨⟨t675, t676⟩, A62, H⟩ := H
       dsimp only at H
       by_cases c63 : t675 = 0
       ·rw [if_pos c63] at H
        have c63b0 : (t675 == 0) = true := beq_iff_eq.mpr c63
        have c63b1 : (t675 != 0) = false := bne_eq_false_iff_eq.mpr c63
        clear c63
        by_cases c64 : 0 < (x3_2.length : Int)
        ·rw [if_pos c64] at H
         have c64b0 : decide (0 < (x3_2.length : Int)) = true := decide_eq_true c64
         have c64b1 : decide (0 < x3_2.length) = true := decide_eq_true (by omega)
         clear c64
         by_cases c65 : 1 < (x3_2.length : Int)
         ·rw [if_pos c65] at H
          have c65b0 : decide (1 < (x3_2.length : Int)) = true := decide_eq_true c65
          have c65b1 : decide (1 < x3_2.length) = true := decide_eq_true (by omega)
          clear c65
          obtain ⟨y678, hy678⟩ : ∃ y_ : List (S84), y_ = (x3_2.set (1 : Int).toNat (⟨(rd_T84 x3_2 0).f0, (rd_T84 x3_2 0).f1, (rd_T84 x3_2 0).f2, (rd_T84 x3_2 0).f3, (rd_T84 x3_2 0).f4, (rd_T84 x3_2 0).f5⟩ : S84)) := ⟨_, rfl⟩
          replace H : (some (y678, t676)) = some (r1, r2) := by first | (rw [hy678]; with_reducible exact H) | (have H2_ := (Option.bind_some _ _).symm.trans H; rw [hy678]; with_reducible exact H2_) | (have H2_ := (Option.bind_some _ _).symm.trans H; with_reducible exact H2_) | with_reducible exact H | (rw [hy678]; exact H) | exact H
          have Ny678 := Aside0.mk hy678
          clear hy678
          simp only [Option.some.injEq, Prod.mk.injEq] at H
          obtain ⟨rfl, rfl⟩ := H
          go_wp2_with (first | (go_at_call 51; (with_reducible refine (spec_l6Rd_pick.calls k2 g s0_0 x1001_2 30 t675 t676 w0 _ ?side1 ?side2 A62.out).mono ?_); (case side1 => exact zi101); (case side2 => exact zb); rintro e w67 ⟨rfl, hi, hb, hk⟩; replace HO_3 := tNk HO_3 hk; replace HK := tKt HK hk; replace HB := Aside0.mk (hb); replace HI0 := Aside0.mk (hi); (try clear hb); (try clear hb2); (try clear hk); (try clear hi); obtain ⟨Ao68, co68, eo68⟩ := Kd.N_slice HO_3.out; subst eo68; have p677 : 0 ≤ (0 : Int) := (by omega); have q677 : 0 < (x3_2.length : Int) := td; obtain ⟨ad677, A677_5, c677_5, e677, hx677_0, hx677_1, hx677_2, hx677_3, hx677_4, hx677_5, hl677_5, hi677_5⟩ := at_T84 (Kd.N_reads' HO_3.out).2.2 0 p677 q677; cases e677; obtain ⟨ce677, hce677, hMe677, hcc677⟩ := Kd.N_get HO_3.out z84 0 p677 (by first | exact q677 | exact td | (have e_ := (Kd.N_reads' HO_3.out).1; omega)); obtain ⟨ua677_5, uc677_5, rfl, ul677_5, ge677_5⟩ := k84_openF hMe677; have hv677_5 := hcc677 5 _ rfl; rw [add_field _ _ 5 (by omega)] at hv677_5; replace hv677_5 := Option.some.inj (hv677_5.symm.trans hx677_5); injection hv677_5 with hva_ hvn_ hvc_; rw [hva_] at ge677_5; rw [hvc_] at ul677_5; have HL677_5 := Aside0.mk (show Kd.V k25 25 _ w.heap.size _ _ ((rd_T84 x3_2 0).f5) from Kd.V_mk ul677_5 ge677_5); clear hva_ hvn_ hvc_ ge677_5 ul677_5; clear hcc677 hce677; have qi677 : (0 < x3_2.length) = True := eq_true (by omega); (try rw [show ((0 : Int)).toNat = 0 from rfl] at hx677_0); (try rw [show 0 * 6 = 0 from rfl] at hx677_0); (try rw [Addr.add_zero'] at hx677_0); (try rw [show ((0 : Int)).toNat = 0 from rfl] at hx677_1); (try rw [show 0 * 6 = 0 from rfl] at hx677_1); (try rw [Addr.add_zero'] at hx677_1); (try rw [show ((0 : Int)).toNat = 0 from rfl] at hx677_2); (try rw [show 0 * 6 = 0 from rfl] at hx677_2); (try rw [Addr.add_zero'] at hx677_2); (try rw [show ((0 : Int)).toNat = 0 from rfl] at hx677_3); (try rw [show 0 * 6 = 0 from rfl] at hx677_3); (try rw [Addr.add_zero'] at hx677_3); (try rw [show ((0 : Int)).toNat = 0 from rfl] at hx677_4); (try rw [show 0 * 6 = 0 from rfl] at hx677_4); (try rw [Addr.add_zero'] at hx677_4); (try rw [show ((0 : Int)).toNat = 0 from rfl] at hx677_5); (try rw [show 0 * 6 = 0 from rfl] at hx677_5); (try rw [Addr.add_zero'] at hx677_5); have HR677_5 := Aside0.mk hi677_5; have HC677_5 := Aside0.mk hl677_5; clear hi677_5 hl677_5; replace p677 := eq_true p677; replace q677 := eq_true q677; have p66 : 0 ≤ (1 : Int) := (by omega); have q66 : (1 : Int) < ((x3_2.length : Int) : Int) := td; have qi66 : (1 < x3_2.length) = True := eq_true (by omega); obtain ⟨go66, co66, eo66, gb66, gl66, cl66, HG66⟩ := Kd.N_form HO_3.out (by omega); (first | cases eo66 | (injection eo66 with ea_ en_ ec_; (first | subst ea_ | (injection ea_ with ea_; subst ea_)); subst ec_; clear en_)); have GB66 := Aside0.mk gb66; have GG66 := Aside0.mk HG66; clear gb66 gl66 HG66; (first | simp only [add_plain] at hx677_0 | skip); (first | simp only [add_plain] at hx677_1 | skip); (first | simp only [add_plain] at hx677_2 | skip); (first | simp only [add_plain] at hx677_3 | skip); (first | simp only [add_plain] at hx677_4 | skip); (first | simp only [add_plain] at hx677_5 | skip); obtain ⟨ce66, hcl66, hM66, hcc66, hfr66⟩ := Kd.N_elem HO_3.out z84 (1 : Int) p66 q66; obtain ⟨ua66_5, uc66_5, rfl, ul66_5, ge66_5⟩ := k84_openF hM66; have hx66_0 : w67.cell? ⟨go66, (1 : Int).toNat * 6, none⟩ = some (.bool ((rd_T84 x3_2 1).f0)) := hcc66 0 _ rfl; have hx66_1 : w67.cell? ⟨go66, (1 : Int).toNat * 6 + 1, none⟩ = some (.bool ((rd_T84 x3_2 1).f1)) := hcc66 1 _ rfl; have hx66_2 : w67.cell? ⟨go66, (1 : Int).toNat * 6 + 2, none⟩ = some (.int .i64 ((rd_T84 x3_2 1).f2)) := hcc66 2 _ rfl; have hx66_3 : w67.cell? ⟨go66, (1 : Int).toNat * 6 + 3, none⟩ = some (.int .i64 ((rd_T84 x3_2 1).f3)) := hcc66 3 _ rfl; have hx66_4 : w67.cell? ⟨go66, (1 : Int).toNat * 6 + 4, none⟩ = some (.int .i64 ((rd_T84 x3_2 1).f4)) := hcc66 4 _ rfl; have hx66_5 : w67.cell? ⟨go66, (1 : Int).toNat * 6 + 5, none⟩ = some (.slice ua66_5 ((rd_T84 x3_2 1).f5).length uc66_5) := hcc66 5 _ rfl; have hf66_0 : w67.frozen? ⟨go66, (1 : Int).toNat * 6, none⟩ = false := hfr66 0; have hf66_1 : w67.frozen? ⟨go66, (1 : Int).toNat * 6 + 1, none⟩ = false := hfr66 1; have hf66_2 : w67.frozen? ⟨go66, (1 : Int).toNat * 6 + 2, none⟩ = false := hfr66 2; have hf66_3 : w67.frozen? ⟨go66, (1 : Int).toNat * 6 + 3, none⟩ = false := hfr66 3; have hf66_4 : w67.frozen? ⟨go66, (1 : Int).toNat * 6 + 4, none⟩ = false := hfr66 4; have hf66_5 : w67.frozen? ⟨go66, (1 : Int).toNat * 6 + 5, none⟩ = false := hfr66 5; clear hcl66 hcc66 hfr66 hM66; (try rw [show ((1 : Int)).toNat = 1 from rfl] at hx66_0); (try simp only [Nat.reduceMul, Nat.zero_mul, Nat.zero_add, Nat.reduceAdd] at hx66_0); (try rw [show ((1 : Int)).toNat = 1 from rfl] at hf66_0); (try simp only [Nat.reduceMul, Nat.zero_mul, Nat.zero_add, Nat.reduceAdd] at hf66_0); (try rw [show ((1 : Int)).toNat = 1 from rfl] at hx66_1); (try simp only [Nat.reduceMul, Nat.zero_mul, Nat.zero_add, Nat.reduceAdd] at hx66_1); (try rw [show ((1 : Int)).toNat = 1 from rfl] at hf66_1); (try simp only [Nat.reduceMul, Nat.zero_mul, Nat.zero_add, Nat.reduceAdd] at hf66_1); (try rw [show ((1 : Int)).toNat = 1 from rfl] at hx66_2); (try simp only [Nat.reduceMul, Nat.zero_mul, Nat.zero_add, Nat.reduceAdd] at hx66_2); (try rw [show ((1 : Int)).toNat = 1 from rfl] at hf66_2); (try simp only [Nat.reduceMul, Nat.zero_mul, Nat.zero_add, Nat.reduceAdd] at hf66_2); (try rw [show ((1 : Int)).toNat = 1 from rfl] at hx66_3); (try simp only [Nat.reduceMul, Nat.zero_mul, Nat.zero_add, Nat.reduceAdd] at hx66_3); (try rw [show ((1 : Int)).toNat = 1 from rfl] at hf66_3); (try simp only [Nat.reduceMul, Nat.zero_mul, Nat.zero_add, Nat.reduceAdd] at hf66_3); (try rw [show ((1 : Int)).toNat = 1 from rfl] at hx66_4); (try simp only [Nat.reduceMul, Nat.zero_mul, Nat.zero_add, Nat.reduceAdd] at hx66_4); (try rw [show ((1 : Int)).toNat = 1 from rfl] at hf66_4); (try simp only [Nat.reduceMul, Nat.zero_mul, Nat.zero_add, Nat.reduceAdd] at hf66_4); (try rw [show ((1 : Int)).toNat = 1 from rfl] at hx66_5); (try simp only [Nat.reduceMul, Nat.zero_mul, Nat.zero_add, Nat.reduceAdd] at hx66_5); (try rw [show ((1 : Int)).toNat = 1 from rfl] at hf66_5); (try simp only [Nat.reduceMul, Nat.zero_mul, Nat.zero_add, Nat.reduceAdd] at hf66_5); replace p66 := eq_true p66; replace q66 := eq_true q66; have HX69 := Aside0.mk (show Kd.N k84 84 w67 w.heap.size (fun k_ => (w.heap.size ≤ k_) ∧ k_ ≠ g) (.slice (some ⟨go66, 0, none⟩) x3_2.length co68) x3_2 from (tN HO_3.out)); obtain ⟨ce69, hcl69, hM69, hcc69, hfr69⟩ := Kd.N_elem HX69.out z84 (1 : Int) (by omega) (by have h_ : (1 : Int) < ((x3_2.length : Int) : Int) := td; first | exact h_ | (have e_ := (Kd.N_reads' HO_3.out).1; omega) | simpa using h_); obtain ⟨ua69_5, uc69_5, rfl, ul69_5, ge69_5⟩ := k84_openF hM69; have HP69 := Kd.N_seg HX69.out (1 : Int) (by omega) (by have h_ : (1 : Int) < ((x3_2.length : Int) : Int) := td; first | exact h_ | (have e_ := (Kd.N_reads' HO_3.out).1; omega) | simpa using h_) (seg := [.bool ((rd_T84 x3_2 0).f0), .bool ((rd_T84 x3_2 0).f1), .int .i64 ((rd_T84 x3_2 0).f2), .int .i64 ((rd_T84 x3_2 0).f3), .int .i64 ((rd_T84 x3_2 0).f4), .slice A677_5 ((rd_T84 x3_2 0).f5).length c677_5]) (j := 0) hcl69 hcc69 (show 6 ≤ 6 from by decide) (x' := (⟨(rd_T84 x3_2 0).f0, (rd_T84 x3_2 0).f1, (rd_T84 x3_2 0).f2, (rd_T84 x3_2 0).f3, (rd_T84 x3_2 0).f4, (rd_T84 x3_2 0).f5⟩ : S84)) (k84_mkF _ _ (⟨(rd_T84 x3_2 0).f0, (rd_T84 x3_2 0).f1, (rd_T84 x3_2 0).f2, (rd_T84 x3_2 0).f3, (rd_T84 x3_2 0).f4, (rd_T84 x3_2 0).f5⟩ : S84) (Kd.V_reads' (Kd.V_mono (ok' := (fun k_ => ((fun k_ => (w.heap.size ≤ k_) ∧ k_ ≠ g)) k_ ∧ k_ ≠ go66)) (HL677_5.out) (fun k_ hk => ⟨⟨hk.1.1, hk.1.2⟩, fun e_ => (hk.2) (by rw [e_]; rfl)⟩))).2.1 (Kd.V_F (Kd.V_mono (ok' := (fun k_ => ((fun k_ => (w.heap.size ≤ k_) ∧ k_ ≠ g)) k_ ∧ k_ ≠ go66)) (HL677_5.out) (fun k_ hk => ⟨⟨hk.1.1, hk.1.2⟩, fun e_ => (hk.2) (by rw [e_]; rfl)⟩)))) (fun _ hk => hk); have hx69_0 := hcc69 0 _ rfl; (try simp only [show (k84).sz = 6 from rfl, Nat.mul_one, Nat.add_zero] at hx69_0); (try rw [show ((1 : Int)).toNat = 1 from rfl] at hx69_0); (try simp only [Nat.reduceMul, Nat.zero_mul, Nat.zero_add, Nat.reduceAdd] at hx69_0); have hf69_0 := hfr69 0; (try simp only [show (k84).sz = 6 from rfl, Nat.mul_one, Nat.add_zero] at hf69_0); (try rw [show ((1 : Int)).toNat = 1 from rfl] at hf69_0); (try simp only [Nat.reduceMul, Nat.zero_mul, Nat.zero_add, Nat.reduceAdd] at hf69_0); have hx69_1 := hcc69 1 _ rfl; (try simp only [show (k84).sz = 6 from rfl, Nat.mul_one, Nat.add_zero] at hx69_1); (try rw [show ((1 : Int)).toNat = 1 from rfl] at hx69_1); (try simp only [Nat.reduceMul, Nat.zero_mul, Nat.zero_add, Nat.reduceAdd] at hx69_1); have hf69_1 := hfr69 1; (try simp only [show (k84).sz = 6 from rfl, Nat.mul_one, Nat.add_zero] at hf69_1); (try rw [show ((1 : Int)).toNat = 1 from rfl] at hf69_1); (try simp only [Nat.reduceMul, Nat.zero_mul, Nat.zero_add, Nat.reduceAdd] at hf69_1); have hx69_2 := hcc69 2 _ rfl; (try simp only [show (k84).sz = 6 from rfl, Nat.mul_one, Nat.add_zero] at hx69_2); (try rw [show ((1 : Int)).toNat = 1 from rfl] at hx69_2); (try simp only [Nat.reduceMul, Nat.zero_mul, Nat.zero_add, Nat.reduceAdd] at hx69_2); have hf69_2 := hfr69 2; (try simp only [show (k84).sz = 6 from rfl, Nat.mul_one, Nat.add_zero] at hf69_2); (try rw [show ((1 : Int)).toNat = 1 from rfl] at hf69_2); (try simp only [Nat.reduceMul, Nat.zero_mul, Nat.zero_add, Nat.reduceAdd] at hf69_2); have hx69_3 := hcc69 3 _ rfl; (try simp only [show (k84).sz = 6 from rfl, Nat.mul_one, Nat.add_zero] at hx69_3); (try rw [show ((1 : Int)).toNat = 1 from rfl] at hx69_3); (try simp only [Nat.reduceMul, Nat.zero_mul, Nat.zero_add, Nat.reduceAdd] at hx69_3); have hf69_3 := hfr69 3; (try simp only [show (k84).sz = 6 from rfl, Nat.mul_one, Nat.add_zero] at hf69_3); (try rw [show ((1 : Int)).toNat = 1 from rfl] at hf69_3); (try simp only [Nat.reduceMul, Nat.zero_mul, Nat.zero_add, Nat.reduceAdd] at hf69_3); have hx69_4 := hcc69 4 _ rfl; (try simp only [show (k84).sz = 6 from rfl, Nat.mul_one, Nat.add_zero] at hx69_4); (try rw [show ((1 : Int)).toNat = 1 from rfl] at hx69_4); (try simp only [Nat.reduceMul, Nat.zero_mul, Nat.zero_add, Nat.reduceAdd] at hx69_4); have hf69_4 := hfr69 4; (try simp only [show (k84).sz = 6 from rfl, Nat.mul_one, Nat.add_zero] at hf69_4); (try rw [show ((1 : Int)).toNat = 1 from rfl] at hf69_4); (try simp only [Nat.reduceMul, Nat.zero_mul, Nat.zero_add, Nat.reduceAdd] at hf69_4); have hx69_5 := hcc69 5 _ rfl; (try simp only [show (k84).sz = 6 from rfl, Nat.mul_one, Nat.add_zero] at hx69_5); (try rw [show ((1 : Int)).toNat = 1 from rfl] at hx69_5); (try simp only [Nat.reduceMul, Nat.zero_mul, Nat.zero_add, Nat.reduceAdd] at hx69_5); have hf69_5 := hfr69 5; (try simp only [show (k84).sz = 6 from rfl, Nat.mul_one, Nat.add_zero] at hf69_5); (try rw [show ((1 : Int)).toNat = 1 from rfl] at hf69_5); (try simp only [Nat.reduceMul, Nat.zero_mul, Nat.zero_add, Nat.reduceAdd] at hf69_5); clear hcl69 hcc69 hfr69 hM69) | ((with_reducible refine gate_store (t := 84) (p := 72) rfl ?_); refine store_event (t := 84) (p := 72) (v := ?vo_w70) (w1 := ((((((w67.setCell ⟨go66, 6, none⟩ (.bool ((rd_T84 x3_2 0).f0))).setCell ⟨go66, 7, none⟩ (.bool ((rd_T84 x3_2 0).f1))).setCell ⟨go66, 8, none⟩ (.int .i64 ((rd_T84 x3_2 0).f2))).setCell ⟨go66, 9, none⟩ (.int .i64 ((rd_T84 x3_2 0).f3))).setCell ⟨go66, 10, none⟩ (.int .i64 ((rd_T84 x3_2 0).f4))).setCell ⟨go66, 11, none⟩ (.slice A677_5 ((rd_T84 x3_2 0).f5).length c677_5))) ?hg ?ho ?hn ?hr ?_; (case ho => rfl); (case hg => rfl); (case hn => rfl); (case hr => first | (go_simp; done) | (go_simp; rfl)); intro w70 hw; have hg : w67.grownBy w70 (some go66) := (by rw [hw]; exact HP69.2); have hp_ : Kd.N k84 84 w70 w.heap.size (fun k_ => (w.heap.size ≤ k_) ∧ k_ ≠ g) (.slice (some ⟨go66, 0, none⟩) x3_2.length co68) y678 := (by rw [hw, Ny678.out]; exact HP69.1); clear HP69; replace HI0 := Aside0.mk (IsS101.grown zi101 hg (IsS101.own_neN HI0.out HO_3.out (by decide))); replace HL677_5 := Aside0.mk (Kd.V_afterv (v := (.slice (some ⟨go66, 0, none⟩) x3_2.length co68)) (v1 := (.slice (some ⟨go66, 0, none⟩) x3_2.length co68)) (ok := (fun k_ => (w.heap.size ≤ k_) ∧ k_ ≠ g)) (tV HL677_5.out) hg (.inl rfl)); replace HB := Aside0.mk ((by rw [hw]; exact below_set (below_set (below_set (below_set (below_set (below_set (HB.out) (Nat.le_trans HL.out GB66.out)) (Nat.le_trans HL.out GB66.out)) (Nat.le_trans HL.out GB66.out)) (Nat.le_trans HL.out GB66.out)) (Nat.le_trans HL.out GB66.out)) (Nat.le_trans HL.out GB66.out) : Below w0.heap.size w0 w70)); replace HK := Aside0.mk (KeepBut.trans zk (KeepBut.of_grown hg g) (Kd.N_base2 HO_3.out)); replace HO_3 := Aside0.mk (hp_); clear hg hw hp_))
          go_ret
          exact ⟨_, by first | rfl | (simp [errW_none, errW_some] <;> rfl) | (simp [*, errW_none, errW_some] <;> rfl), tNm HO_3.out, zi101, zb, zk⟩
         ·rw [if_neg c65] at H
          exact absurd H (by simp)
        ·rw [if_neg c64] at H
         exact absurd H (by simp)
       ·rw [if_neg c63] at H
        have c63b0 : (t675 == 0) = false := beq_eq_false_iff_ne.mpr c63
        have c63b1 : (t675 != 0) = true := bne_iff_ne.mpr c63
        simp only [Option.some.injEq, Prod.mk.injEq] at H
        obtain ⟨rfl, rfl⟩ := H
        go_wp2_with (first | (go_at_call 51; (with_reducible refine (spec_l6Rd_pick.calls k2 g s0_0 x1001_2 30 t675 t676 w0 _ ?side1 ?side2 A62.out).mono ?_); (case side1 => exact zi101); (case side2 => exact zb); rintro e w71 ⟨rfl, hi, hb, hk⟩; replace HO_3 := tNk HO_3 hk; replace HK := tKt HK hk; replace HB := Aside0.mk (hb); replace HI0 := Aside0.mk (hi); (try clear hb); (try clear hb2); (try clear hk); (try clear hi)))
        go_ret
        exact ⟨_, by first | rfl | (simp [errW_none, errW_some] <;> rfl) | (simp [*, errW_none, errW_some] <;> rfl), tNm HO_3.out, zi101, zb, zk⟩
      ·rw [if_neg c61] at H
       have c61b0 : decide (1 < x4_3) = false := decide_eq_false c61
       clear c61
       simp only [Option.some.injEq, Prod.mk.injEq] at H
       obtain ⟨rfl, rfl⟩ := H
       go_wp2
       go_ret
       exact ⟨_, by first | rfl | (simp [errW_none, errW_some] <;> rfl) | (simp [*, errW_none, errW_some] <;> rfl), tNm HO_3.out, zi101, zb, zk⟩

end Go.Proofs.YteoicjlhkaljbaaDoor.G

namespace Go.Proofs.YteoicjlhkaljbaaDoor.G
open Go.RowKit Go.Proofs.YteoicjlhkaljbaaDoorW.PrintWords Go.Proofs.YteoicjlhkaljbaaDoorW.PrintLast Go.Proofs.YteoicjlhkaljbaaDoorW.PrintMore
attribute [local go_sem] max2_int min2_int max_two min_two max_three min_three max_four min_four   -- for this text's walks alone
set_option linter.unusedVariables false
set_option linter.unusedSimpArgs false

def spec_DrawLogText.f (k : Nat) (l0 : List Int) : Option ((List (S84))) := (spec_l6Open.f l0).bind fun bt708 => ((spec_l92Log.f k bt708.1 bt708.2).bind fun bt711 => (some bt711.1))
set_option maxHeartbeats 8000000 in
set_option maxRecDepth 100000 in
theorem spec_DrawLogText.calls (k : Nat) (A0 : Option Addr) (c0 : Nat) (l0 : List Int) (r : List (S84)) (w : World) (hr0 : Kd.C (Kd.int .u8) w A0 l0.length l0) (hc0 : l0.length ≤ c0) (h : spec_DrawLogText.f k l0 = some r) :
  Calls Tryd.prog 25 #[.slice A0 l0.length c0] w fun e w' => ∃ v0_ : Value, e = .returned (v0_) ∧ Kd.N k84 84 w' w.heap.size (fun k_ => (w.heap.size ≤ k_)) v0_ r ∧ Below w.heap.size w w' := by
 have HR0 := Aside0.mk hr0
 have HC0 := Aside0.mk hc0
 clear hr0 hc0
 have HB := Aside0.mk (Below.refl w.heap.size w)
 have H : ((spec_l6Open.f l0).bind fun bt708 => ((spec_l92Log.f k bt708.1 bt708.2).bind fun bt711 => (some bt711.1))) = some r := h
 clear h
 replace H := tbe H
 obtain ⟨⟨t708, t709⟩, A2, H⟩ := H
 dsimp only at H
 replace H := tbe H
 obtain ⟨⟨t711, t714⟩, A3, H⟩ := H
 dsimp only at H
 obtain rfl := Option.some.inj H
 go_enter Tryd.func25, Tryd.ntmps25
 go_wp2_with (first | ((with_reducible refine gate_callee (f := 34) rfl ?_); refine goesL_ (some 4) rfl rfl Tryd.func34 (by kernel_rfl) rfl #[.slice A0 l0.length c0] rfl tq ?_; (with_reducible refine (spec_l6Open.calls _ _ l0 t708 t709 w _ ?side1 ?side2 ?side3 A2.out).mono ?_); (case side1 => exact zb); (case side2 => exact HR0.out); (case side3 => exact HC0.out); rintro e w4 ⟨g710, rfl, hi, hb, hb2⟩; refine ⟨_, rfl, ?_⟩; replace HB := Aside0.mk (hb); have HI710 := Aside0.mk (hi); (try clear hb); (try clear hb2); (try clear hk); (try clear hi)) | ((with_reducible refine gate_callee (f := 55) rfl ?_); refine goesL_ (some 5) rfl rfl Tryd.func55 (by kernel_rfl) rfl #[.pointer (some ⟨g710, 0, none⟩)] rfl tq ?_; (with_reducible refine (spec_l92Log.calls k g710 t708 t709 t711 t714 w _ ?side1 ?side2 A3.out).mono ?_); (case side1 => repeat (first | (with_reducible first | exact HI710.out | apply IsS101.alloc | apply IsS101.drewN | apply IsS101.drew | apply IsS101.set_1) | exact HI710.out)); (case side2 => repeat (first | (with_reducible first | exact HB.out | apply below_alloc | apply pw_below_drewN | apply below_drew1 | refine below_set ?_ (IsS101.ge HI710.out)) | exact HB.out)); rintro e w5 ⟨v712, rfl, ho0, hi, hb, hk⟩; have u_v712 := tsv Tryd.prog v712 ho0; refine ⟨_, rfl, ?_⟩; have HO713 := Aside0.mk (Kd.N_lower (Kd.N_mono (ok' := fun k_ => (w.heap.size ≤ k_) ∧ k_ ≠ g710) ho0 (fun k_ hk_ => ⟨(Nat.le_trans (below_size (by repeat (first | (with_reducible first | exact HB.out | apply below_alloc | apply pw_below_drewN | apply below_drew1 | refine below_set ?_ (IsS101.ge HI710.out)) | exact HB.out))) hk_), (IsS101.fresh (by repeat (first | (with_reducible first | exact HI710.out | apply IsS101.alloc | apply IsS101.drewN | apply IsS101.drew | apply IsS101.set_1) | exact HI710.out)) k_ hk_)⟩)) (below_size (by repeat (first | (with_reducible first | exact HB.out | apply below_alloc | apply pw_below_drewN | apply below_drew1 | refine below_set ?_ (IsS101.ge HI710.out)) | exact HB.out)))); replace HB := Aside0.mk (hb); replace HI710 := Aside0.mk (hi); (try clear hb); (try clear hb2); (try clear hk); (try clear hi); (try clear ho0)))
 go_ret
 exact ⟨_, by first | rfl | (simp [errW_none, errW_some] <;> rfl) | (simp [*, errW_none, errW_some] <;> rfl), tNm HO713.out, by repeat (first | (with_reducible first | exact HB.out | apply below_alloc | apply pw_below_drewN | apply below_drew1 | refine below_set ?_ (IsS101.ge HI710.out)) | exact HB.out)⟩

end Go.Proofs.YteoicjlhkaljbaaDoor.G

namespace Go.Proofs.YteoicjlhkaljbaaDoor.G
open Go.RowKit Go.Proofs.YteoicjlhkaljbaaDoorW.PrintWords Go.Proofs.YteoicjlhkaljbaaDoorW.PrintLast Go.Proofs.YteoicjlhkaljbaaDoorW.PrintMore
attribute [local go_sem] max2_int min2_int max_two min_two max_three min_three max_four min_four   -- for this text's walks alone
set_option linter.unusedVariables false
set_option linter.unusedSimpArgs false

def spec_l6Dec.f : Nat → Int → Option (ByteArray)
 | 0, _ => none
 | k + 1, a0 => if a0 < (-9223372036854775807) then (some (⟨#[45, 57, 50, 50, 51, 51, 55, 50, 48, 51, 54, 56, 53, 52, 55, 55, 53, 56, 48, 56]⟩ : ByteArray)) else (if a0 < 0 then ((spec_l6Dec.f k (wrap64 (-a0))).bind fun t222 => (if 1 + t222.size ≤ 9223372036854775807 then (some ((⟨#[45]⟩ : ByteArray) ++ t222)) else (none))) else (if a0 < 10 then (some (strOfNums (([(wrap64 (48 + a0)) % 256] : List Int)))) else ((spec_l6Dec.f k (wrap64 (Int.tdiv a0 10))).bind fun t226 => ((some (([(wrap64 (48 + (Int.tmod a0 10))) % 256] : List Int) : List Int)).bind fun y227 => (if t226.size + (strOfNums y227).size ≤ 9223372036854775807 then (some (t226 ++ (strOfNums y227))) else (none))))))
def spec_l6Dec.T7 : Bool × List (List Nat × List Nat) := (true, [([], []), ([0], [0]), ([1], [1]), ([], []), ([3], [3]), ([4], [4]), ([5], [5]), ([6], [6]), ([7], [7]), ([2, 8], [2, 8]), ([9, 2, 0, 1, 2, 3, 4, 5, 6, 7, 8, 9], [9])])
def spec_l6Dec.B7 : List Nat := [0, 1, 3, 0, 8, 24, 56, 120, 248, 511, 1023]
theorem spec_l6Dec.tab7 : rtab .any (opsOf Tryd.f72 7) = spec_l6Dec.T7 := by kernel_rfl
theorem spec_l6Dec.bits7 : waitsOk spec_l6Dec.T7.2 spec_l6Dec.B7 = true := by kernel_rfl
set_option maxHeartbeats 8000000 in
set_option maxRecDepth 100000 in
theorem spec_l6Dec.calls (k : Nat) : ∀ (a0 : Int) (r : ByteArray) (w : World) (h : spec_l6Dec.f k a0 = some r),
  Calls Tryd.prog 72 #[.int .i64 a0] w fun e w' => e = .returned (.string r) ∧ Below w.heap.size w w' := by
 induction k using Nat.strongRecOn with
 | _ k ih =>
 intro a0 r w h
 cases k with
 | zero => exact absurd h (by simp [spec_l6Dec.f])
 | succ k =>
 simp only [spec_l6Dec.f] at h
 have HB := Aside0.mk (Below.refl w.heap.size w)
 have H : (if a0 < (-9223372036854775807) then (some (⟨#[45, 57, 50, 50, 51, 51, 55, 50, 48, 51, 54, 56, 53, 52, 55, 55, 53, 56, 48, 56]⟩ : ByteArray)) else (if a0 < 0 then ((spec_l6Dec.f k (wrap64 (-a0))).bind fun t222 => (if 1 + t222.size ≤ 9223372036854775807 then (some ((⟨#[45]⟩ : ByteArray) ++ t222)) else (none))) else (if a0 < 10 then (some (strOfNums (([(wrap64 (48 + a0)) % 256] : List Int)))) else ((spec_l6Dec.f k (wrap64 (Int.tdiv a0 10))).bind fun t226 => ((some (([(wrap64 (48 + (Int.tmod a0 10))) % 256] : List Int) : List Int)).bind fun y227 => (if t226.size + (strOfNums y227).size ≤ 9223372036854775807 then (some (t226 ++ (strOfNums y227))) else (none))))))) = some r := h
 clear h
 by_cases c2 : a0 < (-9223372036854775807)
 ·rw [if_pos c2] at H
  have c2b0 : decide (a0 < (-9223372036854775807)) = true := decide_eq_true c2
  clear c2
  obtain rfl := Option.some.inj H
  go_enter Tryd.func72, Tryd.ntmps72
  go_wp2
  go_ret
  exact ⟨by first | rfl | (simp [errW_none, errW_some] <;> rfl) | (simp [*, errW_none, errW_some] <;> rfl), zb⟩
 ·rw [if_neg c2] at H
  have c2b0 : decide (a0 < (-9223372036854775807)) = false := decide_eq_false c2
  clear c2
  by_cases c3 : a0 < 0
  ·rw [if_pos c3] at H
   have c3b0 : decide (a0 < 0) = true := decide_eq_true c3
   clear c3
   replace H := tbe H
   obtain ⟨t222, A4, H⟩ := H
   by_cases c5 : 1 + t222.size ≤ 9223372036854775807
   ·rw [if_pos c5] at H
    have c5b0 := eq_true c5
    have c5b1 : decide (1 + t222.size ≤ 9223372036854775807) = true := decide_eq_true c5
    try have c5b2 : (9223372036854775807 < 1 + t222.size) = False := eq_false (Nat.not_lt.2 c5)
    obtain rfl := Option.some.inj H
    go_enter Tryd.func72, Tryd.ntmps72
    go_wp2_with (first | ((with_reducible refine gate_callee (f := 72) rfl ?_); refine goesL_ (some 9) rfl rfl Tryd.func72 (by kernel_rfl) rfl #[.int .i64 (wrap64 (-a0))] rfl tq ?_; (with_reducible refine (ih k (by omega) (wrap64 (-a0)) t222 _ A4.out).mono ?_); rintro e w6 ⟨rfl, hb⟩; refine ⟨_, rfl, ?_⟩; replace HB := tBs HB hb; (try clear hb); (try clear hb2); (try clear hk); (try clear hi)))
    go_ret
    exact ⟨by first | rfl | (simp [errW_none, errW_some] <;> rfl) | (simp [*, errW_none, errW_some] <;> rfl), zb⟩
   ·rw [if_neg c5] at H
    exact absurd H (by simp)
  ·rw [if_neg c3] at H
   have c3b0 : decide (a0 < 0) = false := decide_eq_false c3
   clear c3
   by_cases c7 : a0 < 10
   ·rw [if_pos c7] at H
    have c7b0 : decide (a0 < 10) = true := decide_eq_true c7
    clear c7
    obtain ⟨y223, hy223⟩ : ∃ y_ : List Int, y_ = (([(wrap64 (48 + a0)) % 256] : List Int)) := ⟨_, rfl⟩
    replace H : (some (strOfNums y223)) = some r := by first | (rw [hy223]; with_reducible exact H) | (have H2_ := (Option.bind_some _ _).symm.trans H; rw [hy223]; with_reducible exact H2_) | (have H2_ := (Option.bind_some _ _).symm.trans H; with_reducible exact H2_) | with_reducible exact H | (rw [hy223]; exact H) | exact H
    have Ny223 := Aside0.mk hy223
    clear hy223
    obtain rfl := Option.some.inj H
    go_enter Tryd.func72, Tryd.ntmps72
    go_wp2_with (first | ((with_reducible refine gate_dst (N := 16) rfl ?_); refine Kd.R_lit (Kd.int .u8) _ 5 ?hg (N := 16) ?hd (xs := ([(wrap64 (48 + a0)) % 256] : List Int)) (inner := [.int .u8 ((wrap64 (48 + a0)) % 256)]) (ok := fun _ => True) (okp := fun _ => True) ?hr ?hp (fun _ hk => hk) trivial (Below.refl _ _) (Nat.le_refl _) (by simp) ?_; (case hd => rfl); (case hg => rfl); (case hr => first | (go_simp; done) | (go_simp; rfl)); (case hp => exact (Reps.one (show Kd.M (Kd.int .u8) _ _ _ ((wrap64 (48 + a0)) % 256) [.int .u8 ((wrap64 (48 + a0)) % 256)] from rfl) (Reps.none _ _))); intro v224 w8 ho9 hb hg_ hnew_; clear hg_ hnew_; (first | rw [← Ny223.out] at ho9 | (simp only [Int.reduceToNat] at ho9; rw [← Ny223.out] at ho9)); have HO225 := tRl ho9 HB; replace HB := tBs HB hb; clear hb ho9; have hcv10 := own_string (P := Tryd.prog) Tryd.underlying22 Tryd.underlying5 Tryd.underlying9 (Kd.own_of_R HO225.out)))
    go_ret
    exact ⟨by first | rfl | (simp [errW_none, errW_some] <;> rfl) | (simp [*, errW_none, errW_some] <;> rfl), zb⟩
   ·rw [if_neg c7] at H
    have c7b0 : decide (a0 < 10) = false := decide_eq_false c7
    clear c7
    replace H := tbe H
    obtain ⟨t226, A11, H⟩ := H
    obtain ⟨y227, hy227⟩ : ∃ y_ : List Int, y_ = (([(wrap64 (48 + (Int.tmod a0 10))) % 256] : List Int)) := ⟨_, rfl⟩
    replace H : (if t226.size + (strOfNums y227).size ≤ 9223372036854775807 then (some (t226 ++ (strOfNums y227))) else (none)) = some r := by first | (rw [hy227]; with_reducible exact H) | (have H2_ := (Option.bind_some _ _).symm.trans H; rw [hy227]; with_reducible exact H2_) | (have H2_ := (Option.bind_some _ _).symm.trans H; with_reducible exact H2_) | with_reducible exact H | (rw [hy227]; exact H) | exact H
    have Ny227 := Aside0.mk hy227
    clear hy227
    by_cases c12 : t226.size + (strOfNums y227).size ≤ 9223372036854775807
    ·rw [if_pos c12] at H
     have c12b0 := eq_true c12
     have c12b1 : decide (t226.size + (strOfNums y227).size ≤ 9223372036854775807) = true := decide_eq_true c12
     try have c12b2 : (9223372036854775807 < t226.size + (strOfNums y227).size) = False := eq_false (Nat.not_lt.2 c12)
     obtain rfl := Option.some.inj H
     go_enter Tryd.func72, Tryd.ntmps72
     try go_wp2
     replace HB := Aside0.mk (below_drew1 HB.out)
     refine start_ (n := 11) (S := fun w' => True) (ds := []) #[false, false, false, false, false, false, false, false, false, false, false] (by kernel_rfl) rfl rfl trivial (fun hHeld => ?_); refine with_tabW spec_l6Dec.tab7 spec_l6Dec.bits7 (fun HT_ HW_ => ?_)
     generalize w.drew = w13 at HB hHeld ⊢
     refine tpu 0 (some 18) #[true, false, false, false, false, false, false, false, false, false, false] ?_
     refine tpu 1 (some 19) #[true, true, false, false, false, false, false, false, false, false, false] ?_
     refine tpu 3 (some 21) #[true, true, false, true, false, false, false, false, false, false, false] ?_
     refine tpu 4 (some 22) #[true, true, false, true, true, false, false, false, false, false, false] ?_
     refine tpu 5 (some 23) #[true, true, false, true, true, true, false, false, false, false, false] ?_
     refine tpu 6 (some 24) #[true, true, false, true, true, true, true, false, false, false, false] ?_
     refine join_ (σ := Value) 2 #[true, true, true, true, true, true, true, true, true, false, false] (fun s_ => [(20, .string t226), (25, s_), (26, .string (strOfNums y227))]) (fun s_ w' => (Kd.R (Kd.int .u8) 5 w' w.heap.size (fun _ => True) s_ y227) ∧ (Below w.heap.size w w')) ?_ ?_
     rotate_left
     ·intro hCont
      refine two_ (i := 2) (j := 7) (Ni := some 20) (Nj := some 25) #[true, true, true, true, true, true, true, false, false, false, false] #[true, true, false, true, true, true, true, true, false, false, false] rfl rfl rfl rfl (two_of HT_.out (by kernel_rfl)) (by decide) (by decide) (fun K hK => ?_) (fun K hK => ?_)
      ·skip
       refine goes_ Tryd.func72 (by kernel_rfl) rfl #[.int .i64 (wrap64 (Int.tdiv a0 10))] (by rfl) rfl rfl tq ?_
       with_reducible refine (ih k (by omega) (wrap64 (Int.tdiv a0 10)) t226 _ A11.out).mono ?_
       rintro e w14 ⟨rfl, hb⟩
       refine ⟨_, rfl, ?_⟩
       replace HB := tBs HB hb
       (try clear hb)
       (try clear hb2)
       (try clear hk)
       (try clear hi)
       refine hK.out _ _ trivial (fun hHeld => ?_)
       clear hK K
       refine tnm (some 20) ?_
       refine one_ (i := 7) (N := some 25) #[true, true, true, true, true, true, true, true, false, false, false] rfl rfl (one_of HT_.out (by kernel_rfl)) (by decide) (fun K hK => ?_)
       refine Kd.R_lit_step (Kd.int .u8) _ 5 ?hg (N := 25) ?hd (xs := ([(wrap64 (48 + (Int.tmod a0 10))) % 256] : List Int)) (inner := [.int .u8 ((wrap64 (48 + (Int.tmod a0 10))) % 256)]) (ok := fun _ => True) (okp := fun _ => True) ?hr ?hp (fun _ hk => hk) trivial (Below.refl _ _) (Nat.le_refl _) (by simp) ?_; (case hd => rfl); (case hg => rfl); (case hr => first | (go_simp; done) | (go_simp; rfl)); (case hp => exact (Reps.one (show Kd.M (Kd.int .u8) _ _ _ ((wrap64 (48 + (Int.tmod a0 10))) % 256) [.int .u8 ((wrap64 (48 + (Int.tmod a0 10))) % 256)] from rfl) (Reps.none _ _)))
       intro v228 w15 ho16 hb hg_ hnew_
       clear hg_ hnew_
       (first | rw [← Ny227.out] at ho16 | (simp only [Int.reduceToNat] at ho16; rw [← Ny227.out] at ho16))
       have HO229 := tRl ho16 HB
       replace HB := tBs HB hb
       clear hb ho16
       refine hK.out _ _ trivial (fun hHeld => ?_)
       clear hK K
       refine tnm (some 25) ?_
       refine one_ (i := 8) (N := some 26) #[true, true, true, true, true, true, true, true, true, false, false] rfl rfl (one_of HT_.out (by kernel_rfl)) (by decide) (fun K hK => ?_)
       have hcv17 := own_string (P := Tryd.prog) Tryd.underlying22 Tryd.underlying5 Tryd.underlying9 (Kd.own_of_R HO229.out)
       refine value_ (w1 := ?_) (v := ?_) (by rfl) rfl ?_ ?_
       rotate_left 2
       ·go_simp
        constructor
        ·rfl
        ·rfl
       clear hcv17
       refine hK.out _ _ trivial (fun hHeld => ?_)
       clear hK K
       refine tnm (some 26) ?_
       exact tnx (hCont (v228) _ ⟨(tR HO229.out), zb⟩)
      ·skip
       refine Kd.R_lit_step (Kd.int .u8) _ 5 ?hg (N := 25) ?hd (xs := ([(wrap64 (48 + (Int.tmod a0 10))) % 256] : List Int)) (inner := [.int .u8 ((wrap64 (48 + (Int.tmod a0 10))) % 256)]) (ok := fun _ => True) (okp := fun _ => True) ?hr ?hp (fun _ hk => hk) trivial (Below.refl _ _) (Nat.le_refl _) (by simp) ?_; (case hd => rfl); (case hg => rfl); (case hr => first | (go_simp; done) | (go_simp; rfl)); (case hp => exact (Reps.one (show Kd.M (Kd.int .u8) _ _ _ ((wrap64 (48 + (Int.tmod a0 10))) % 256) [.int .u8 ((wrap64 (48 + (Int.tmod a0 10))) % 256)] from rfl) (Reps.none _ _)))
       intro v228 w14 ho15 hb hg_ hnew_
       clear hg_ hnew_
       (first | rw [← Ny227.out] at ho15 | (simp only [Int.reduceToNat] at ho15; rw [← Ny227.out] at ho15))
       have HO229 := tRl ho15 HB
       replace HB := tBs HB hb
       clear hb ho15
       refine hK.out _ _ trivial (fun hHeld => ?_)
       clear hK K
       refine tnm (some 25) ?_
       refine two_ (i := 2) (j := 8) (Ni := some 20) (Nj := some 26) #[true, true, true, true, true, true, true, true, false, false, false] #[true, true, false, true, true, true, true, true, true, false, false] rfl rfl rfl rfl (two_of HT_.out (by kernel_rfl)) (by decide) (by decide) (fun K hK => ?_) (fun K hK => ?_)
       ·skip
        refine goes_ Tryd.func72 (by kernel_rfl) rfl #[.int .i64 (wrap64 (Int.tdiv a0 10))] (by rfl) rfl rfl tq ?_
        with_reducible refine (ih k (by omega) (wrap64 (Int.tdiv a0 10)) t226 _ A11.out).mono ?_
        rintro e w16 ⟨rfl, hb⟩
        refine ⟨_, rfl, ?_⟩
        replace HO229 := tRb HO229 hb
        replace HB := tBs HB hb
        (try clear hb)
        (try clear hb2)
        (try clear hk)
        (try clear hi)
        refine hK.out _ _ trivial (fun hHeld => ?_)
        clear hK K
        refine tnm (some 20) ?_
        refine one_ (i := 8) (N := some 26) #[true, true, true, true, true, true, true, true, true, false, false] rfl rfl (one_of HT_.out (by kernel_rfl)) (by decide) (fun K hK => ?_)
        have hcv17 := own_string (P := Tryd.prog) Tryd.underlying22 Tryd.underlying5 Tryd.underlying9 (Kd.own_of_R HO229.out)
        refine value_ (w1 := ?_) (v := ?_) (by rfl) rfl ?_ ?_
        rotate_left 2
        ·go_simp
         constructor
         ·rfl
         ·rfl
        clear hcv17
        refine hK.out _ _ trivial (fun hHeld => ?_)
        clear hK K
        refine tnm (some 26) ?_
        exact tnx (hCont (v228) _ ⟨(tR HO229.out), zb⟩)
       ·skip
        have hcv16 := own_string (P := Tryd.prog) Tryd.underlying22 Tryd.underlying5 Tryd.underlying9 (Kd.own_of_R HO229.out)
        refine value_ (w1 := ?_) (v := ?_) (by rfl) rfl ?_ ?_
        rotate_left 2
        ·go_simp
         constructor
         ·rfl
         ·rfl
        clear hcv16
        refine hK.out _ _ trivial (fun hHeld => ?_)
        clear hK K
        refine tnm (some 26) ?_
        refine one_ (i := 2) (N := some 20) #[true, true, true, true, true, true, true, true, true, false, false] rfl rfl (one_of HT_.out (by kernel_rfl)) (by decide) (fun K hK => ?_)
        refine goes_ Tryd.func72 (by kernel_rfl) rfl #[.int .i64 (wrap64 (Int.tdiv a0 10))] (by rfl) rfl rfl tq ?_
        with_reducible refine (ih k (by omega) (wrap64 (Int.tdiv a0 10)) t226 _ A11.out).mono ?_
        rintro e w17 ⟨rfl, hb⟩
        refine ⟨_, rfl, ?_⟩
        replace HO229 := tRb HO229 hb
        replace HB := tBs HB hb
        (try clear hb)
        (try clear hb2)
        (try clear hk)
        (try clear hi)
        refine hK.out _ _ trivial (fun hHeld => ?_)
        clear hK K
        refine tnm (some 20) ?_
        exact tnx (hCont (v228) _ ⟨(tR HO229.out), zb⟩)
     rintro v228 w18 ⟨h0_, h1_⟩
     have n0_ : Aside0 (Kd.R (Kd.int .u8) 5 w18 w.heap.size (fun _ => True) v228 y227) := ⟨h0_⟩
     have n1_ : Aside0 (Below w.heap.size w w18) := ⟨h1_⟩
     clear HB
     clear h0_ h1_
     have HO229 := n0_
     have HB := n1_
     clear n0_ n1_
     have hHeld := trivial
     refine tnp ?_
     refine tpu 9 (some 27) #[true, true, true, true, true, true, true, true, true, true, false] ?_
     refine tpu 10 (some 2) #[true, true, true, true, true, true, true, true, true, true, true] ?_
     refine done_ (done_of HT_.out (by kernel_rfl)) ?_
     try go_wp2
     go_ret
     exact ⟨by first | rfl | (simp [errW_none, errW_some] <;> rfl) | (simp [*, errW_none, errW_some] <;> rfl), zb⟩
    ·rw [if_neg c12] at H
     exact absurd H (by simp)

def spec_BytesText.l0 : Nat → List Int → ByteArray → ByteArray → Int → Option (ByteArray)
 | 0, _, _, _, _ => none
 | k + 1, x0, x3, x4, x5 => if x5 < (x0.length : Int) then ((spec_l1Ok.f k x0).bind fun t230 => (if t230 = true then (if 0 ≤ x5 then (if 0 ≤ (wrap64 (Int.tdiv (rd x0 x5) 16)) then (if (wrap64 (Int.tdiv (rd x0 x5) 16)) ≤ (wrap64 ((wrap64 (Int.tdiv (rd x0 x5) 16)) + 1)) then (if (wrap64 ((wrap64 (Int.tdiv (rd x0 x5) 16)) + 1)) ≤ (x3.size : Int) then (if x4.size + (x3.extract ((wrap64 (Int.tdiv (rd x0 x5) 16)) : Int).toNat ((wrap64 ((wrap64 (Int.tdiv (rd x0 x5) 16)) + 1)) : Int).toNat).size ≤ 9223372036854775807 then (if 0 ≤ (Int.tmod (rd x0 x5) 16) then (if (Int.tmod (rd x0 x5) 16) ≤ (wrap64 ((Int.tmod (rd x0 x5) 16) + 1)) then (if (wrap64 ((Int.tmod (rd x0 x5) 16) + 1)) ≤ (x3.size : Int) then (if (x4 ++ (x3.extract ((wrap64 (Int.tdiv (rd x0 x5) 16)) : Int).toNat ((wrap64 ((wrap64 (Int.tdiv (rd x0 x5) 16)) + 1)) : Int).toNat)).size + (x3.extract ((Int.tmod (rd x0 x5) 16) : Int).toNat ((wrap64 ((Int.tmod (rd x0 x5) 16) + 1)) : Int).toNat).size ≤ 9223372036854775807 then (spec_BytesText.l0 k x0 x3 ((x4 ++ (x3.extract ((wrap64 (Int.tdiv (rd x0 x5) 16)) : Int).toNat ((wrap64 ((wrap64 (Int.tdiv (rd x0 x5) 16)) + 1)) : Int).toNat)) ++ (x3.extract ((Int.tmod (rd x0 x5) 16) : Int).toNat ((wrap64 ((Int.tmod (rd x0 x5) 16) + 1)) : Int).toNat)) (wrap64 (x5 + 1))) else (none)) else (none)) else (none)) else (none)) else (none)) else (none)) else (none)) else (none)) else (none)) else (some x4))) else (some x4)
def spec_BytesText.f (k : Nat) (l0 : List Int) : Option (ByteArray) := spec_BytesText.l0 k l0 (⟨#[48, 49, 50, 51, 52, 53, 54, 55, 56, 57, 97, 98, 99, 100, 101, 102]⟩ : ByteArray) (⟨#[]⟩ : ByteArray) 0
set_option maxHeartbeats 8000000 in
set_option maxRecDepth 100000 in
theorem spec_BytesText.calls (k : Nat) (A0 : Option Addr) (c0 : Nat) (l0 : List Int) (r : ByteArray) (w : World) (hr0 : Kd.C (Kd.int .i64) w A0 l0.length l0) (hc0 : l0.length ≤ c0) (h : spec_BytesText.f k l0 = some r) :
  Calls Tryd.prog 95 #[.slice A0 l0.length c0] w fun e w' => e = .returned (.string r) ∧ Drawn0 w w' := by
 have HR0 := Aside0.mk hr0
 have HC0 := Aside0.mk hc0
 clear hr0 hc0
 have H : (spec_BytesText.l0 k l0 (⟨#[48, 49, 50, 51, 52, 53, 54, 55, 56, 57, 97, 98, 99, 100, 101, 102]⟩ : ByteArray) (⟨#[]⟩ : ByteArray) 0) = some r := h
 clear h
 have H' := Aside0.mk H
 clear H
 go_enter Tryd.func95, Tryd.ntmps95
 go_wp2
 repeat (go_quiet (fail); try go_wp2)
 obtain ⟨dg, hdg⟩ : ∃ d : ByteArray, d = (⟨#[48, 49, 50, 51, 52, 53, 54, 55, 56, 57, 97, 98, 99, 100, 101, 102]⟩ : ByteArray) := ⟨_, rfl⟩
 rw [← hdg] at H' ⊢
 have HDG := Aside0.mk hdg
 clear hdg
 go_loopg [4, 5] k (fun kq v4 v5 w' => ∃ (x4_1 : ByteArray) (x5_1 : Int), v4 = .string x4_1 ∧ v5 = .int .i64 x5_1 ∧ Aside0 (spec_BytesText.l0 kq l0 dg x4_1 x5_1 = some r) ∧ Aside0 (kq ≤ k) ∧ Drawn0 w w')
 case atStart => exact ⟨((⟨#[]⟩ : ByteArray)), (0), tr, tr, H', ⟨Nat.le_refl _⟩, by repeat (first | exact Drawn0.refl _ | apply Drawn0.step)⟩
 case round =>
  clear H'
  obtain ⟨x4_1, x5_1, rfl, rfl, HA, HK1, ⟨m1, rfl⟩⟩ := hrel
  cases gk with
  | zero => exact absurd HA.out (by simp [spec_BytesText.l0])
  | succ k1 =>
   have H := HA.out
   clear HA
   simp only [spec_BytesText.l0] at H
   by_cases c2 : x5_1 < (l0.length : Int)
   ·rw [if_pos c2] at H
    have c2b0 : decide (x5_1 < (l0.length : Int)) = true := decide_eq_true c2
    clear c2
    replace H := tbe H
    obtain ⟨t230, A3, H⟩ := H
    by_cases c4 : t230 = true
    ·subst c4
     rw [if_pos rfl] at H
     by_cases c5 : 0 ≤ x5_1
     ·rw [if_pos c5] at H
      have c5b0 : decide (0 ≤ x5_1) = true := decide_eq_true c5
      clear c5
      obtain ⟨ji6, hji6⟩ : ∃ j_ : Int, (wrap64 (Int.tdiv (rd l0 x5_1) 16)) = j_ := ⟨_, rfl⟩
      replace H : (if 0 ≤ (ji6) then (if (ji6) ≤ (wrap64 ((ji6) + 1)) then (if (wrap64 ((ji6) + 1)) ≤ (dg.size : Int) then (if x4_1.size + (dg.extract ((ji6) : Int).toNat ((wrap64 ((ji6) + 1)) : Int).toNat).size ≤ 9223372036854775807 then (if 0 ≤ (Int.tmod (rd l0 x5_1) 16) then (if (Int.tmod (rd l0 x5_1) 16) ≤ (wrap64 ((Int.tmod (rd l0 x5_1) 16) + 1)) then (if (wrap64 ((Int.tmod (rd l0 x5_1) 16) + 1)) ≤ (dg.size : Int) then (if (x4_1 ++ (dg.extract ((ji6) : Int).toNat ((wrap64 ((ji6) + 1)) : Int).toNat)).size + (dg.extract ((Int.tmod (rd l0 x5_1) 16) : Int).toNat ((wrap64 ((Int.tmod (rd l0 x5_1) 16) + 1)) : Int).toNat).size ≤ 9223372036854775807 then (spec_BytesText.l0 k1 l0 dg ((x4_1 ++ (dg.extract ((ji6) : Int).toNat ((wrap64 ((ji6) + 1)) : Int).toNat)) ++ (dg.extract ((Int.tmod (rd l0 x5_1) 16) : Int).toNat ((wrap64 ((Int.tmod (rd l0 x5_1) 16) + 1)) : Int).toNat)) (wrap64 (x5_1 + 1))) else (none)) else (none)) else (none)) else (none)) else (none)) else (none)) else (none)) else (none)) = some r := by first | (rw [hji6] at H; exact H) | (simp only [hji6] at H ⊢; exact H)
      (try rw [hji6] at A3)
      have hji6w : (IntKind.i64.wrap (Int.tdiv (rd l0 x5_1) 16)) = ji6 := (i64_w _).trans hji6
      by_cases c7 : 0 ≤ (ji6)
      ·rw [if_pos c7] at H
       have c7b0 := eq_true c7
       have c7b1 : decide (0 ≤ (ji6)) = true := decide_eq_true c7
       clear c7
       by_cases c8 : (ji6) ≤ (wrap64 ((ji6) + 1))
       ·rw [if_pos c8] at H
        have c8b0 := eq_true c8
        have c8b1 : decide ((ji6) ≤ (wrap64 ((ji6) + 1))) = true := decide_eq_true c8
        by_cases c9 : (wrap64 ((ji6) + 1)) ≤ (dg.size : Int)
        ·rw [if_pos c9] at H
         have c9b0 := eq_true c9
         have c9b1 : decide ((wrap64 ((ji6) + 1)) ≤ (dg.size : Int)) = true := decide_eq_true c9
         by_cases c10 : x4_1.size + (dg.extract ((ji6) : Int).toNat ((wrap64 ((ji6) + 1)) : Int).toNat).size ≤ 9223372036854775807
         ·rw [if_pos c10] at H
          have c10b0 := eq_true c10
          have c10b1 : decide (x4_1.size + (dg.extract ((ji6) : Int).toNat ((wrap64 ((ji6) + 1)) : Int).toNat).size ≤ 9223372036854775807) = true := decide_eq_true c10
          try have c10b2 : (9223372036854775807 < x4_1.size + (dg.extract ((ji6) : Int).toNat ((wrap64 ((ji6) + 1)) : Int).toNat).size) = False := eq_false (Nat.not_lt.2 c10)
          obtain ⟨ji11, hji11⟩ : ∃ j_ : Int, (Int.tmod (rd l0 x5_1) 16) = j_ := ⟨_, rfl⟩
          replace H : (if 0 ≤ (ji11) then (if (ji11) ≤ (wrap64 ((ji11) + 1)) then (if (wrap64 ((ji11) + 1)) ≤ (dg.size : Int) then (if (x4_1 ++ (dg.extract ((ji6) : Int).toNat ((wrap64 ((ji6) + 1)) : Int).toNat)).size + (dg.extract ((ji11) : Int).toNat ((wrap64 ((ji11) + 1)) : Int).toNat).size ≤ 9223372036854775807 then (spec_BytesText.l0 k1 l0 dg ((x4_1 ++ (dg.extract ((ji6) : Int).toNat ((wrap64 ((ji6) + 1)) : Int).toNat)) ++ (dg.extract ((ji11) : Int).toNat ((wrap64 ((ji11) + 1)) : Int).toNat)) (wrap64 (x5_1 + 1))) else (none)) else (none)) else (none)) else (none)) = some r := by first | (rw [hji11] at H; exact H) | (simp only [hji11] at H ⊢; exact H)
          (try rw [hji11] at A3)
          by_cases c12 : 0 ≤ (ji11)
          ·rw [if_pos c12] at H
           have c12b0 := eq_true c12
           have c12b1 : decide (0 ≤ (ji11)) = true := decide_eq_true c12
           clear c12
           by_cases c13 : (ji11) ≤ (wrap64 ((ji11) + 1))
           ·rw [if_pos c13] at H
            have c13b0 := eq_true c13
            have c13b1 : decide ((ji11) ≤ (wrap64 ((ji11) + 1))) = true := decide_eq_true c13
            by_cases c14 : (wrap64 ((ji11) + 1)) ≤ (dg.size : Int)
            ·rw [if_pos c14] at H
             have c14b0 := eq_true c14
             have c14b1 : decide ((wrap64 ((ji11) + 1)) ≤ (dg.size : Int)) = true := decide_eq_true c14
             by_cases c15 : (x4_1 ++ (dg.extract ((ji6) : Int).toNat ((wrap64 ((ji6) + 1)) : Int).toNat)).size + (dg.extract ((ji11) : Int).toNat ((wrap64 ((ji11) + 1)) : Int).toNat).size ≤ 9223372036854775807
             ·rw [if_pos c15] at H
              have c15b0 := eq_true c15
              have c15b1 : decide ((x4_1 ++ (dg.extract ((ji6) : Int).toNat ((wrap64 ((ji6) + 1)) : Int).toNat)).size + (dg.extract ((ji11) : Int).toNat ((wrap64 ((ji11) + 1)) : Int).toNat).size ≤ 9223372036854775807) = true := decide_eq_true c15
              try have c15b2 : (9223372036854775807 < (x4_1 ++ (dg.extract ((ji6) : Int).toNat ((wrap64 ((ji6) + 1)) : Int).toNat)).size + (dg.extract ((ji11) : Int).toNat ((wrap64 ((ji11) + 1)) : Int).toNat).size) = False := eq_false (Nat.not_lt.2 c15)
              (try (have c15y : (9223372036854775807 < x4_1.size + (dg.extract ((ji6) : Int).toNat ((wrap64 ((ji6) + 1)) : Int).toNat).size + ((dg.extract ((ji11) : Int).toNat ((wrap64 ((ji11) + 1)) : Int).toNat).size)) = False := eq_false (by have h_ := c15; simp only [ByteArray.size_append] at h_; omega)))
              have H' := Aside0.mk H
              clear H
              go_wp2_with (first | (go_at_call 94; (with_reducible refine (spec_l1Ok.calls k1 _ _ l0 true _ ?side1 ?side2 A3.out).mono ?_); (case side1 => exact tC HR0.out); (case side2 => exact HC0.out); rintro e w' ⟨rfl, ⟨nd, rfl⟩⟩; (try first | exact ⟨rfl, _, World.drewN_drewN _ _ _⟩ | exact ⟨rfl, _, Eq.trans (World.drewN_drewN _ _ _) (congrArg (World.drewN _) (Nat.add_assoc _ _ _))⟩); have p231 : 0 ≤ (x5_1 : Int) := td; have q231 : x5_1 < (l0.length : Int) := td; obtain ⟨ad231, e231, hx231_0⟩ := Kd.at_int HR0.out x5_1 p231 q231; cases e231; replace p231 := eq_true p231; replace q231 := eq_true q231; have p232 : 0 ≤ (x5_1 : Int) := td; have q232 : x5_1 < (l0.length : Int) := td; obtain ⟨ad232, e232, hx232_0⟩ := Kd.at_int HR0.out x5_1 p232 q232; obtain rfl : ad231 = ad232 := (by injection e232); replace p232 := eq_true p232; replace q232 := eq_true q232; have p233 : 0 ≤ (x5_1 : Int) := td; have q233 : x5_1 < (l0.length : Int) := td; obtain ⟨ad233, e233, hx233_0⟩ := Kd.at_int HR0.out x5_1 p233 q233; obtain rfl : ad231 = ad233 := (by injection e233); replace p233 := eq_true p233; replace q233 := eq_true q233; have p234 : 0 ≤ (x5_1 : Int) := td; have q234 : x5_1 < (l0.length : Int) := td; obtain ⟨ad234, e234, hx234_0⟩ := Kd.at_int HR0.out x5_1 p234 q234; obtain rfl : ad231 = ad234 := (by injection e234); replace p234 := eq_true p234; replace q234 := eq_true q234))
              repeat (go_quiet (first | (go_at_call 94; (with_reducible refine (spec_l1Ok.calls k1 _ _ l0 true _ ?side1 ?side2 A3.out).mono ?_); (case side1 => exact tC HR0.out); (case side2 => exact HC0.out); rintro e w' ⟨rfl, ⟨nd, rfl⟩⟩; (try first | exact ⟨rfl, _, World.drewN_drewN _ _ _⟩ | exact ⟨rfl, _, Eq.trans (World.drewN_drewN _ _ _) (congrArg (World.drewN _) (Nat.add_assoc _ _ _))⟩); have p231 : 0 ≤ (x5_1 : Int) := td; have q231 : x5_1 < (l0.length : Int) := td; obtain ⟨ad231, e231, hx231_0⟩ := Kd.at_int HR0.out x5_1 p231 q231; cases e231; replace p231 := eq_true p231; replace q231 := eq_true q231; have p232 : 0 ≤ (x5_1 : Int) := td; have q232 : x5_1 < (l0.length : Int) := td; obtain ⟨ad232, e232, hx232_0⟩ := Kd.at_int HR0.out x5_1 p232 q232; obtain rfl : ad231 = ad232 := (by injection e232); replace p232 := eq_true p232; replace q232 := eq_true q232; have p233 : 0 ≤ (x5_1 : Int) := td; have q233 : x5_1 < (l0.length : Int) := td; obtain ⟨ad233, e233, hx233_0⟩ := Kd.at_int HR0.out x5_1 p233 q233; obtain rfl : ad231 = ad233 := (by injection e233); replace p233 := eq_true p233; replace q233 := eq_true q233; have p234 : 0 ≤ (x5_1 : Int) := td; have q234 : x5_1 < (l0.length : Int) := td; obtain ⟨ad234, e234, hx234_0⟩ := Kd.at_int HR0.out x5_1 p234 q234; obtain rfl : ad231 = ad234 := (by injection e234); replace p234 := eq_true p234; replace q234 := eq_true q234)); try go_wp2_with (first | (go_at_call 94; (with_reducible refine (spec_l1Ok.calls k1 _ _ l0 true _ ?side1 ?side2 A3.out).mono ?_); (case side1 => exact tC HR0.out); (case side2 => exact HC0.out); rintro e w' ⟨rfl, ⟨nd, rfl⟩⟩; (try first | exact ⟨rfl, _, World.drewN_drewN _ _ _⟩ | exact ⟨rfl, _, Eq.trans (World.drewN_drewN _ _ _) (congrArg (World.drewN _) (Nat.add_assoc _ _ _))⟩); have p231 : 0 ≤ (x5_1 : Int) := td; have q231 : x5_1 < (l0.length : Int) := td; obtain ⟨ad231, e231, hx231_0⟩ := Kd.at_int HR0.out x5_1 p231 q231; cases e231; replace p231 := eq_true p231; replace q231 := eq_true q231; have p232 : 0 ≤ (x5_1 : Int) := td; have q232 : x5_1 < (l0.length : Int) := td; obtain ⟨ad232, e232, hx232_0⟩ := Kd.at_int HR0.out x5_1 p232 q232; obtain rfl : ad231 = ad232 := (by injection e232); replace p232 := eq_true p232; replace q232 := eq_true q232; have p233 : 0 ≤ (x5_1 : Int) := td; have q233 : x5_1 < (l0.length : Int) := td; obtain ⟨ad233, e233, hx233_0⟩ := Kd.at_int HR0.out x5_1 p233 q233; obtain rfl : ad231 = ad233 := (by injection e233); replace p233 := eq_true p233; replace q233 := eq_true q233; have p234 : 0 ≤ (x5_1 : Int) := td; have q234 : x5_1 < (l0.length : Int) := td; obtain ⟨ad234, e234, hx234_0⟩ := Kd.at_int HR0.out x5_1 p234 q234; obtain rfl : ad231 = ad234 := (by injection e234); replace p234 := eq_true p234; replace q234 := eq_true q234)))
              go_roundg k1
              case measure => have := HK1.out; omega
              case rel => exact ⟨((x4_1 ++ (dg.extract ((ji6) : Int).toNat ((wrap64 ((ji6) + 1)) : Int).toNat)) ++ (dg.extract ((ji11) : Int).toNat ((wrap64 ((ji11) + 1)) : Int).toNat)), (wrap64 (x5_1 + 1)), (by first | rfl | (simp; done) | (simp only [← hji6, ← hji11] <;> (first | rfl | simp)) | (simp [*]; done)), tr, H', ⟨by have := HK1.out; omega⟩, by repeat (first | exact Drawn0.refl _ | apply Drawn0.step)⟩
             ·rw [if_neg c15] at H
              exact absurd H (by simp)
            ·rw [if_neg c14] at H
             exact absurd H (by simp)
           ·rw [if_neg c13] at H
            exact absurd H (by simp)
          ·rw [if_neg c12] at H
           exact absurd H (by simp)
         ·rw [if_neg c10] at H
          exact absurd H (by simp)
        ·rw [if_neg c9] at H
         exact absurd H (by simp)
       ·rw [if_neg c8] at H
        exact absurd H (by simp)
      ·rw [if_neg c7] at H
       exact absurd H (by simp)
     ·rw [if_neg c5] at H
      exact absurd H (by simp)
    ·replace c4 := Bool.eq_false_iff.mpr c4
     subst c4
     rw [if_neg (show ¬ (false = true) by decide)] at H
     obtain rfl := Option.some.inj H
     go_wp2_with (first | (go_at_call 94; (with_reducible refine (spec_l1Ok.calls k1 _ _ l0 false _ ?side1 ?side2 A3.out).mono ?_); (case side1 => exact tC HR0.out); (case side2 => exact HC0.out); rintro e w' ⟨rfl, ⟨nd, rfl⟩⟩; (try first | exact ⟨rfl, _, World.drewN_drewN _ _ _⟩ | exact ⟨rfl, _, Eq.trans (World.drewN_drewN _ _ _) (congrArg (World.drewN _) (Nat.add_assoc _ _ _))⟩)))
     repeat (go_quiet (first | (go_at_call 94; (with_reducible refine (spec_l1Ok.calls k1 _ _ l0 false _ ?side1 ?side2 A3.out).mono ?_); (case side1 => exact tC HR0.out); (case side2 => exact HC0.out); rintro e w' ⟨rfl, ⟨nd, rfl⟩⟩; (try first | exact ⟨rfl, _, World.drewN_drewN _ _ _⟩ | exact ⟨rfl, _, Eq.trans (World.drewN_drewN _ _ _) (congrArg (World.drewN _) (Nat.add_assoc _ _ _))⟩))); try go_wp2_with (first | (go_at_call 94; (with_reducible refine (spec_l1Ok.calls k1 _ _ l0 false _ ?side1 ?side2 A3.out).mono ?_); (case side1 => exact tC HR0.out); (case side2 => exact HC0.out); rintro e w' ⟨rfl, ⟨nd, rfl⟩⟩; (try first | exact ⟨rfl, _, World.drewN_drewN _ _ _⟩ | exact ⟨rfl, _, Eq.trans (World.drewN_drewN _ _ _) (congrArg (World.drewN _) (Nat.add_assoc _ _ _))⟩))))
     go_ret
     exact ⟨by first | rfl | (simp; done) | (simp [*]; done), by repeat (first | exact Drawn0.refl _ | apply Drawn0.step)⟩
   ·rw [if_neg c2] at H
    have c2b0 : decide (x5_1 < (l0.length : Int)) = false := decide_eq_false c2
    clear c2
    obtain rfl := Option.some.inj H
    go_wp2
    repeat (go_quiet (fail); try go_wp2)
    go_ret
    exact ⟨by first | rfl | (simp; done) | (simp [*]; done), by repeat (first | exact Drawn0.refl _ | apply Drawn0.step)⟩

def spec_l41Part.f (k : Nat) (a0 : Bool) (l1 : List Int) : Option (ByteArray) := if a0 = true then ((spec_BytesText.f k l1).bind fun t235 => (if 1 + t235.size ≤ 9223372036854775807 then (some ((⟨#[120]⟩ : ByteArray) ++ t235)) else (none))) else (some (⟨#[45]⟩ : ByteArray))
set_option maxHeartbeats 8000000 in
set_option maxRecDepth 100000 in
theorem spec_l41Part.calls (k : Nat) (a0 : Bool) (A1 : Option Addr) (c1 : Nat) (l1 : List Int) (r : ByteArray) (w : World) (hr1 : Kd.C (Kd.int .i64) w A1 l1.length l1) (hc1 : l1.length ≤ c1) (h : spec_l41Part.f k a0 l1 = some r) :
  Calls Tryd.prog 73 #[.bool a0, .slice A1 l1.length c1] w fun e w' => e = .returned (.string r) ∧ Drawn0 w w' := by
 have HR1 := Aside0.mk hr1
 have HC1 := Aside0.mk hc1
 clear hr1 hc1
 have H : (if a0 = true then ((spec_BytesText.f k l1).bind fun t235 => (if 1 + t235.size ≤ 9223372036854775807 then (some ((⟨#[120]⟩ : ByteArray) ++ t235)) else (none))) else (some (⟨#[45]⟩ : ByteArray))) = some r := h
 clear h
 by_cases c3 : a0 = true
 ·subst c3
  rw [if_pos rfl] at H
  replace H := tbe H
  obtain ⟨t235, A4, H⟩ := H
  by_cases c5 : 1 + t235.size ≤ 9223372036854775807
  ·rw [if_pos c5] at H
   have c5b0 := eq_true c5
   have c5b1 : decide (1 + t235.size ≤ 9223372036854775807) = true := decide_eq_true c5
   try have c5b2 : (9223372036854775807 < 1 + t235.size) = False := eq_false (Nat.not_lt.2 c5)
   obtain rfl := Option.some.inj H
   go_enter Tryd.func73, Tryd.ntmps73
   go_wp2_with (first | ((with_reducible refine gate_callee (f := 95) rfl ?_); refine goesL_ (some 8) rfl rfl Tryd.func95 (by kernel_rfl) rfl #[.slice A1 l1.length c1] rfl tq ?_; (with_reducible refine (spec_BytesText.calls k _ _ l1 t235 _ ?side1 ?side2 A4.out).mono ?_); (case side1 => exact tC HR1.out); (case side2 => exact HC1.out); rintro e w' ⟨rfl, ⟨nd, rfl⟩⟩; refine ⟨_, rfl, ?_⟩))
   go_ret
   exact ⟨by first | rfl | (simp; done) | (simp [*]; done), by repeat (first | exact Drawn0.refl _ | apply Drawn0.step)⟩
  ·rw [if_neg c5] at H
   exact absurd H (by simp)
 ·replace c3 := Bool.eq_false_iff.mpr c3
  subst c3
  rw [if_neg (show ¬ (false = true) by decide)] at H
  obtain rfl := Option.some.inj H
  go_enter Tryd.func73, Tryd.ntmps73
  go_wp2
  go_ret
  exact ⟨by first | rfl | (simp; done) | (simp [*]; done), by repeat (first | exact Drawn0.refl _ | apply Drawn0.step)⟩

end Go.Proofs.YteoicjlhkaljbaaDoor.G

namespace Go.Proofs.YteoicjlhkaljbaaDoor.G
open Go.RowKit Go.Proofs.YteoicjlhkaljbaaDoorW.PrintWords Go.Proofs.YteoicjlhkaljbaaDoorW.PrintLast Go.Proofs.YteoicjlhkaljbaaDoorW.PrintMore
attribute [local go_sem] max2_int min2_int max_two min_two max_three min_three max_four min_four   -- for this text's walks alone
set_option linter.unusedVariables false
set_option linter.unusedSimpArgs false

def spec_l41Text.f (k : Nat) (a0_0 : Int) (a0_1 : Int) (a0_2 : Bool) (l0_3 : List Int) (a0_4 : Bool) (l0_5 : List Int) : Option (ByteArray) := (spec_l6Dec.f k a0_0).bind fun t237 => (if t237.size + 1 ≤ 9223372036854775807 then ((spec_l6Dec.f k a0_1).bind fun t238 => (if (t237 ++ (⟨#[32]⟩ : ByteArray)).size + t238.size ≤ 9223372036854775807 then (if ((t237 ++ (⟨#[32]⟩ : ByteArray)) ++ t238).size + 1 ≤ 9223372036854775807 then ((spec_l41Part.f k a0_2 l0_3).bind fun t239 => (if (((t237 ++ (⟨#[32]⟩ : ByteArray)) ++ t238) ++ (⟨#[32]⟩ : ByteArray)).size + t239.size ≤ 9223372036854775807 then (if ((((t237 ++ (⟨#[32]⟩ : ByteArray)) ++ t238) ++ (⟨#[32]⟩ : ByteArray)) ++ t239).size + 1 ≤ 9223372036854775807 then ((spec_l41Part.f k a0_4 l0_5).bind fun t240 => (if (((((t237 ++ (⟨#[32]⟩ : ByteArray)) ++ t238) ++ (⟨#[32]⟩ : ByteArray)) ++ t239) ++ (⟨#[32]⟩ : ByteArray)).size + t240.size ≤ 9223372036854775807 then (some ((((((t237 ++ (⟨#[32]⟩ : ByteArray)) ++ t238) ++ (⟨#[32]⟩ : ByteArray)) ++ t239) ++ (⟨#[32]⟩ : ByteArray)) ++ t240)) else (none))) else (none)) else (none))) else (none)) else (none))) else (none))
def spec_l41Text.T1 : Bool × List (List Nat × List Nat) := (true, [([], []), ([0], [0]), ([1], [1]), ([2], [2]), ([], []), ([4], [4]), ([5, 2], [5]), ([3, 6], [3, 6]), ([7], [7]), ([], []), ([9], [9]), ([], []), ([11], [11]), ([10, 12, 6], [10, 12]), ([8, 13], [8, 13]), ([14], [14]), ([], []), ([16], [16]), ([], []), ([18], [18]), ([17, 19, 13], [17, 19]), ([15, 20], [15, 20]), ([21, 20, 0, 1, 2, 3, 4, 5, 6, 7, 8, 9, 10, 11, 12, 13, 14, 15, 16, 17, 18, 19, 20, 21], [21])])
def spec_l41Text.B1 : List Nat := [0, 1, 3, 7, 0, 16, 55, 127, 255, 0, 512, 0, 2048, 7799, 16383, 32767, 0, 65536, 0, 262144, 999031, 2097151, 4194303]
theorem spec_l41Text.tab1 : rtab .any (opsOf Tryd.f38 1) = spec_l41Text.T1 := by kernel_rfl
theorem spec_l41Text.bits1 : waitsOk spec_l41Text.T1.2 spec_l41Text.B1 = true := by kernel_rfl
set_option maxHeartbeats 8000000 in
set_option maxRecDepth 100000 in
theorem spec_l41Text.calls (k : Nat) (a0_0 : Int) (a0_1 : Int) (a0_2 : Bool) (A0_3 : Option Addr) (c0_3 : Nat) (l0_3 : List Int) (a0_4 : Bool) (A0_5 : Option Addr) (c0_5 : Nat) (l0_5 : List Int) (r : ByteArray) (w : World) (hr0_3 : Kd.C (Kd.int .i64) w A0_3 l0_3.length l0_3) (hc0_3 : l0_3.length ≤ c0_3) (hr0_5 : Kd.C (Kd.int .i64) w A0_5 l0_5.length l0_5) (hc0_5 : l0_5.length ≤ c0_5) (h : spec_l41Text.f k a0_0 a0_1 a0_2 l0_3 a0_4 l0_5 = some r) :
  Calls Tryd.prog 38 #[.agg #[.int .i64 a0_0, .int .i64 a0_1, .bool a0_2, .slice A0_3 l0_3.length c0_3, .bool a0_4, .slice A0_5 l0_5.length c0_5]] w fun e w' => e = .returned (.string r) ∧ Below w.heap.size w w' := by
 have hu25 := Tryd.underlying25
 have HR0_3 := Aside0.mk hr0_3
 have HC0_3 := Aside0.mk hc0_3
 clear hr0_3 hc0_3
 have HR0_5 := Aside0.mk hr0_5
 have HC0_5 := Aside0.mk hc0_5
 clear hr0_5 hc0_5
 have HB := Aside0.mk (Below.refl w.heap.size w)
 have H : ((spec_l6Dec.f k a0_0).bind fun t237 => (if t237.size + 1 ≤ 9223372036854775807 then ((spec_l6Dec.f k a0_1).bind fun t238 => (if (t237 ++ (⟨#[32]⟩ : ByteArray)).size + t238.size ≤ 9223372036854775807 then (if ((t237 ++ (⟨#[32]⟩ : ByteArray)) ++ t238).size + 1 ≤ 9223372036854775807 then ((spec_l41Part.f k a0_2 l0_3).bind fun t239 => (if (((t237 ++ (⟨#[32]⟩ : ByteArray)) ++ t238) ++ (⟨#[32]⟩ : ByteArray)).size + t239.size ≤ 9223372036854775807 then (if ((((t237 ++ (⟨#[32]⟩ : ByteArray)) ++ t238) ++ (⟨#[32]⟩ : ByteArray)) ++ t239).size + 1 ≤ 9223372036854775807 then ((spec_l41Part.f k a0_4 l0_5).bind fun t240 => (if (((((t237 ++ (⟨#[32]⟩ : ByteArray)) ++ t238) ++ (⟨#[32]⟩ : ByteArray)) ++ t239) ++ (⟨#[32]⟩ : ByteArray)).size + t240.size ≤ 9223372036854775807 then (some ((((((t237 ++ (⟨#[32]⟩ : ByteArray)) ++ t238) ++ (⟨#[32]⟩ : ByteArray)) ++ t239) ++ (⟨#[32]⟩ : ByteArray)) ++ t240)) else (none))) else (none)) else (none))) else (none)) else (none))) else (none))) = some r := h
 clear h
 replace H := tbe H
 obtain ⟨t237, A2, H⟩ := H
 by_cases c3 : t237.size + 1 ≤ 9223372036854775807
 ·rw [if_pos c3] at H
  have c3b0 := eq_true c3
  have c3b1 : decide (t237.size + 1 ≤ 9223372036854775807) = true := decide_eq_true c3
  try have c3b2 : (9223372036854775807 < t237.size + 1) = False := eq_false (Nat.not_lt.2 c3)
  replace H := tbe H
  obtain ⟨t238, A4, H⟩ := H
  by_cases c5 : (t237 ++ (⟨#[32]⟩ : ByteArray)).size + t238.size ≤ 9223372036854775807
  ·rw [if_pos c5] at H
   have c5b0 := eq_true c5
   have c5b1 : decide ((t237 ++ (⟨#[32]⟩ : ByteArray)).size + t238.size ≤ 9223372036854775807) = true := decide_eq_true c5
   try have c5b2 : (9223372036854775807 < (t237 ++ (⟨#[32]⟩ : ByteArray)).size + t238.size) = False := eq_false (Nat.not_lt.2 c5)
   (try (have c5y : (9223372036854775807 < t237.size + 1 + t238.size) = False := eq_false (by have h_ := c5; simp only [ByteArray.size_append, show (⟨#[32]⟩ : ByteArray).size = 1 from rfl] at h_; omega)))
   by_cases c6 : ((t237 ++ (⟨#[32]⟩ : ByteArray)) ++ t238).size + 1 ≤ 9223372036854775807
   ·rw [if_pos c6] at H
    have c6b0 := eq_true c6
    have c6b1 : decide (((t237 ++ (⟨#[32]⟩ : ByteArray)) ++ t238).size + 1 ≤ 9223372036854775807) = true := decide_eq_true c6
    try have c6b2 : (9223372036854775807 < ((t237 ++ (⟨#[32]⟩ : ByteArray)) ++ t238).size + 1) = False := eq_false (Nat.not_lt.2 c6)
    (try (have c6y : (9223372036854775807 < t237.size + 1 + t238.size + 1) = False := eq_false (by have h_ := c6; simp only [ByteArray.size_append, show (⟨#[32]⟩ : ByteArray).size = 1 from rfl] at h_; omega)))
    replace H := tbe H
    obtain ⟨t239, A7, H⟩ := H
    by_cases c8 : (((t237 ++ (⟨#[32]⟩ : ByteArray)) ++ t238) ++ (⟨#[32]⟩ : ByteArray)).size + t239.size ≤ 9223372036854775807
    ·rw [if_pos c8] at H
     have c8b0 := eq_true c8
     have c8b1 : decide ((((t237 ++ (⟨#[32]⟩ : ByteArray)) ++ t238) ++ (⟨#[32]⟩ : ByteArray)).size + t239.size ≤ 9223372036854775807) = true := decide_eq_true c8
     try have c8b2 : (9223372036854775807 < (((t237 ++ (⟨#[32]⟩ : ByteArray)) ++ t238) ++ (⟨#[32]⟩ : ByteArray)).size + t239.size) = False := eq_false (Nat.not_lt.2 c8)
     (try (have c8y : (9223372036854775807 < t237.size + 1 + t238.size + 1 + t239.size) = False := eq_false (by have h_ := c8; simp only [ByteArray.size_append, show (⟨#[32]⟩ : ByteArray).size = 1 from rfl] at h_; omega)))
     by_cases c9 : ((((t237 ++ (⟨#[32]⟩ : ByteArray)) ++ t238) ++ (⟨#[32]⟩ : ByteArray)) ++ t239).size + 1 ≤ 9223372036854775807
     ·rw [if_pos c9] at H
      have c9b0 := eq_true c9
      have c9b1 : decide (((((t237 ++ (⟨#[32]⟩ : ByteArray)) ++ t238) ++ (⟨#[32]⟩ : ByteArray)) ++ t239).size + 1 ≤ 9223372036854775807) = true := decide_eq_true c9
      try have c9b2 : (9223372036854775807 < ((((t237 ++ (⟨#[32]⟩ : ByteArray)) ++ t238) ++ (⟨#[32]⟩ : ByteArray)) ++ t239).size + 1) = False := eq_false (Nat.not_lt.2 c9)
      (try (have c9y : (9223372036854775807 < t237.size + 1 + t238.size + 1 + t239.size + 1) = False := eq_false (by have h_ := c9; simp only [ByteArray.size_append, show (⟨#[32]⟩ : ByteArray).size = 1 from rfl] at h_; omega)))
      replace H := tbe H
      obtain ⟨t240, A10, H⟩ := H
      by_cases c11 : (((((t237 ++ (⟨#[32]⟩ : ByteArray)) ++ t238) ++ (⟨#[32]⟩ : ByteArray)) ++ t239) ++ (⟨#[32]⟩ : ByteArray)).size + t240.size ≤ 9223372036854775807
      ·rw [if_pos c11] at H
       have c11b0 := eq_true c11
       have c11b1 : decide ((((((t237 ++ (⟨#[32]⟩ : ByteArray)) ++ t238) ++ (⟨#[32]⟩ : ByteArray)) ++ t239) ++ (⟨#[32]⟩ : ByteArray)).size + t240.size ≤ 9223372036854775807) = true := decide_eq_true c11
       try have c11b2 : (9223372036854775807 < (((((t237 ++ (⟨#[32]⟩ : ByteArray)) ++ t238) ++ (⟨#[32]⟩ : ByteArray)) ++ t239) ++ (⟨#[32]⟩ : ByteArray)).size + t240.size) = False := eq_false (Nat.not_lt.2 c11)
       (try (have c11y : (9223372036854775807 < t237.size + 1 + t238.size + 1 + t239.size + 1 + t240.size) = False := eq_false (by have h_ := c11; simp only [ByteArray.size_append, show (⟨#[32]⟩ : ByteArray).size = 1 from rfl] at h_; omega)))
       obtain rfl := Option.some.inj H
       go_enter Tryd.func38, Tryd.ntmps38
       try go_wp2_with (first | ((with_reducible refine gate_dst (N := 1) rfl ?_); refine box_event ?hg (N := 1) ?hd (cs := #[.int .i64 a0_0, .int .i64 a0_1, .bool a0_2, .slice A0_3 l0_3.length c0_3, .bool a0_4, .slice A0_5 l0_5.length c0_5]) (t := 25) ?hr ?_; (case hd => rfl); (case hg => rfl); (case hr => first | (go_simp; done) | (go_simp; rfl)); intro gb236 hg w12 hbox hb; have BK236 := Aside0.mk (hbox); have GW236 := tge HB hg; have GE236 := tge HB hg; replace HB := tBs HB hb; clear hb hbox hg))
       replace BK236 := Aside0.mk (blk_drew BK236.out)
       replace HB := Aside0.mk (below_drew1 HB.out)
       refine start_ (n := 23) (S := fun w' => w'.cell? ⟨gb236, 0, none⟩ = some (.int .i64 a0_0) ∧ w'.cell? ⟨gb236, 1, none⟩ = some (.int .i64 a0_1) ∧ w'.cell? ⟨gb236, 2, none⟩ = some (.bool a0_2) ∧ w'.cell? ⟨gb236, 3, none⟩ = some (.slice A0_3 l0_3.length c0_3) ∧ w'.cell? ⟨gb236, 4, none⟩ = some (.bool a0_4) ∧ w'.cell? ⟨gb236, 5, none⟩ = some (.slice A0_5 l0_5.length c0_5)) (ds := []) #[false, false, false, false, false, false, false, false, false, false, false, false, false, false, false, false, false, false, false, false, false, false, false] (by kernel_rfl) rfl rfl ⟨(blk_cell BK236.out 0).trans rfl, (blk_cell BK236.out 1).trans rfl, (blk_cell BK236.out 2).trans rfl, (blk_cell BK236.out 3).trans rfl, (blk_cell BK236.out 4).trans rfl, (blk_cell BK236.out 5).trans rfl⟩ (fun hHeld => ?_); refine with_tabW spec_l41Text.tab1 spec_l41Text.bits1 (fun HT_ HW_ => ?_)
       generalize w12.drew = w13 at BK236 HB hHeld ⊢
       refine tpu 0 (some 3) #[true, false, false, false, false, false, false, false, false, false, false, false, false, false, false, false, false, false, false, false, false, false, false] ?_
       refine tpu 4 (some 7) #[true, false, false, false, true, false, false, false, false, false, false, false, false, false, false, false, false, false, false, false, false, false, false] ?_
       refine tpu 9 (some 12) #[true, false, false, false, true, false, false, false, false, true, false, false, false, false, false, false, false, false, false, false, false, false, false] ?_
       refine tpu 11 (some 14) #[true, false, false, false, true, false, false, false, false, true, false, true, false, false, false, false, false, false, false, false, false, false, false] ?_
       refine tpu 16 (some 19) #[true, false, false, false, true, false, false, false, false, true, false, true, false, false, false, false, true, false, false, false, false, false, false] ?_
       refine tpu 18 (some 21) #[true, false, false, false, true, false, false, false, false, true, false, true, false, false, false, false, true, false, true, false, false, false, false] ?_
       refine tta 1 (some 4) #[true, true, false, false, true, false, false, false, false, true, false, true, false, false, false, false, true, false, true, false, false, false, false] hHeld ?_ (hy := by rintro w' ⟨s0, s1, s2, s3, s4, s5⟩; go_simp; with_reducible rfl)
       refine tta 5 (some 8) #[true, true, false, false, true, true, false, false, false, true, false, true, false, false, false, false, true, false, true, false, false, false, false] hHeld ?_ (hy := by rintro w' ⟨s0, s1, s2, s3, s4, s5⟩; go_simp; with_reducible rfl)
       refine tta 10 (some 13) #[true, true, false, false, true, true, false, false, false, true, true, true, false, false, false, false, true, false, true, false, false, false, false] hHeld ?_ (hy := by rintro w' ⟨s0, s1, s2, s3, s4, s5⟩; go_simp; with_reducible rfl)
       refine tta 12 (some 15) #[true, true, false, false, true, true, false, false, false, true, true, true, true, false, false, false, true, false, true, false, false, false, false] hHeld ?_ (hy := by rintro w' ⟨s0, s1, s2, s3, s4, s5⟩; go_simp; with_reducible rfl)
       refine tta 17 (some 20) #[true, true, false, false, true, true, false, false, false, true, true, true, true, false, false, false, true, true, true, false, false, false, false] hHeld ?_ (hy := by rintro w' ⟨s0, s1, s2, s3, s4, s5⟩; go_simp; with_reducible rfl)
       refine tta 19 (some 22) #[true, true, false, false, true, true, false, false, false, true, true, true, true, false, false, false, true, true, true, true, false, false, false] hHeld ?_ (hy := by rintro w' ⟨s0, s1, s2, s3, s4, s5⟩; go_simp; with_reducible rfl)
       refine one_ (i := 2) (N := some 5) #[true, true, true, false, true, true, false, false, false, true, true, true, true, false, false, false, true, true, true, true, false, false, false] rfl rfl (one_of HT_.out (by kernel_rfl)) (by decide) (fun K hK => ?_)
       refine goes_ Tryd.func72 (by kernel_rfl) rfl #[.int .i64 a0_0] (by rfl) rfl rfl tq ?_
       with_reducible refine (spec_l6Dec.calls k a0_0 t237 _ A2.out).mono ?_
       rintro e w14 ⟨rfl, hb⟩
       refine ⟨_, rfl, ?_⟩
       replace BK236 := tBb BK236 hb
       replace HB := tBs HB hb
       (try clear hb)
       (try clear hb2)
       (try clear hk)
       (try clear hi)
       refine hK.out _ _ ⟨(blk_cell BK236.out 0).trans rfl, (blk_cell BK236.out 1).trans rfl, (blk_cell BK236.out 2).trans rfl, (blk_cell BK236.out 3).trans rfl, (blk_cell BK236.out 4).trans rfl, (blk_cell BK236.out 5).trans rfl⟩ (fun hHeld => ?_)
       clear hK K
       refine tnm (some 5) ?_
       refine tpu 3 (some 6) #[true, true, true, true, true, true, false, false, false, true, true, true, true, false, false, false, true, true, true, true, false, false, false] ?_
       refine one_ (i := 6) (N := some 9) #[true, true, true, true, true, true, true, false, false, true, true, true, true, false, false, false, true, true, true, true, false, false, false] rfl rfl (one_of HT_.out (by kernel_rfl)) (by decide) (fun K hK => ?_)
       refine goes_ Tryd.func72 (by kernel_rfl) rfl #[.int .i64 a0_1] (by rfl) rfl rfl tq ?_
       with_reducible refine (spec_l6Dec.calls k a0_1 t238 _ A4.out).mono ?_
       rintro e w15 ⟨rfl, hb⟩
       refine ⟨_, rfl, ?_⟩
       replace BK236 := tBb BK236 hb
       replace HB := tBs HB hb
       (try clear hb)
       (try clear hb2)
       (try clear hk)
       (try clear hi)
       refine hK.out _ _ ⟨(blk_cell BK236.out 0).trans rfl, (blk_cell BK236.out 1).trans rfl, (blk_cell BK236.out 2).trans rfl, (blk_cell BK236.out 3).trans rfl, (blk_cell BK236.out 4).trans rfl, (blk_cell BK236.out 5).trans rfl⟩ (fun hHeld => ?_)
       clear hK K
       refine tnm (some 9) ?_
       refine tpu 7 (some 10) #[true, true, true, true, true, true, true, true, false, true, true, true, true, false, false, false, true, true, true, true, false, false, false] ?_
       refine tpu 8 (some 11) #[true, true, true, true, true, true, true, true, true, true, true, true, true, false, false, false, true, true, true, true, false, false, false] ?_
       refine one_ (i := 13) (N := some 16) #[true, true, true, true, true, true, true, true, true, true, true, true, true, true, false, false, true, true, true, true, false, false, false] rfl rfl (one_of HT_.out (by kernel_rfl)) (by decide) (fun K hK => ?_)
       refine goes_ Tryd.func73 (by kernel_rfl) rfl #[.bool a0_2, .slice A0_3 l0_3.length c0_3] (by rfl) rfl rfl tq ?_
       with_reducible refine (spec_l41Part.calls k a0_2 _ _ l0_3 t239 _ ?side1 ?side2 A7.out).mono ?_
       (case side1 => exact tC (Kd.C_below HR0_3.out HB.out))
       (case side2 => exact HC0_3.out)
       rintro e w' ⟨rfl, ⟨nd, rfl⟩⟩
       refine ⟨_, rfl, ?_⟩
       refine hK.out _ _ ⟨(blk_cell BK236.out 0).trans rfl, (blk_cell BK236.out 1).trans rfl, (blk_cell BK236.out 2).trans rfl, (blk_cell BK236.out 3).trans rfl, (blk_cell BK236.out 4).trans rfl, (blk_cell BK236.out 5).trans rfl⟩ (fun hHeld => ?_)
       clear hK K
       refine tnm (some 16) ?_
       refine tpu 14 (some 17) #[true, true, true, true, true, true, true, true, true, true, true, true, true, true, true, false, true, true, true, true, false, false, false] ?_
       refine tpu 15 (some 18) #[true, true, true, true, true, true, true, true, true, true, true, true, true, true, true, true, true, true, true, true, false, false, false] ?_
       refine one_ (i := 20) (N := some 23) #[true, true, true, true, true, true, true, true, true, true, true, true, true, true, true, true, true, true, true, true, true, false, false] rfl rfl (one_of HT_.out (by kernel_rfl)) (by decide) (fun K hK => ?_)
       refine goes_ Tryd.func73 (by kernel_rfl) rfl #[.bool a0_4, .slice A0_5 l0_5.length c0_5] (by rfl) rfl rfl tq ?_
       with_reducible refine (spec_l41Part.calls k a0_4 _ _ l0_5 t240 _ ?side1 ?side2 A10.out).mono ?_
       (case side1 => exact tC (Kd.C_below HR0_5.out zb))
       (case side2 => exact HC0_5.out)
       rintro e w' ⟨rfl, ⟨nd, rfl⟩⟩
       refine ⟨_, rfl, ?_⟩
       refine hK.out _ _ ⟨(blk_cell BK236.out 0).trans rfl, (blk_cell BK236.out 1).trans rfl, (blk_cell BK236.out 2).trans rfl, (blk_cell BK236.out 3).trans rfl, (blk_cell BK236.out 4).trans rfl, (blk_cell BK236.out 5).trans rfl⟩ (fun hHeld => ?_)
       clear hK K
       refine tnm (some 23) ?_
       refine tpu 21 (some 24) #[true, true, true, true, true, true, true, true, true, true, true, true, true, true, true, true, true, true, true, true, true, true, false] ?_
       refine tpu 22 (some 2) #[true, true, true, true, true, true, true, true, true, true, true, true, true, true, true, true, true, true, true, true, true, true, true] ?_
       refine done_ (done_of HT_.out (by kernel_rfl)) ?_
       try go_wp2
       go_ret
       exact ⟨by first | rfl | (simp [errW_none, errW_some] <;> rfl) | (simp [*, errW_none, errW_some] <;> rfl), zb⟩
      ·rw [if_neg c11] at H
       exact absurd H (by simp)
     ·rw [if_neg c9] at H
      exact absurd H (by simp)
    ·rw [if_neg c8] at H
     exact absurd H (by simp)
   ·rw [if_neg c6] at H
    exact absurd H (by simp)
  ·rw [if_neg c5] at H
   exact absurd H (by simp)
 ·rw [if_neg c3] at H
  exact absurd H (by simp)

end Go.Proofs.YteoicjlhkaljbaaDoor.G

