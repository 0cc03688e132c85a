/- A text of seat Ytkihdohphddjaaa: what the law FnGroupsLeftEnd needs of this repo's texts (by pack.py). Not trusted: Lean checks it. -/
import Derived.Test.YtkihdohphddjaaaKFnGroupsLeftEnd8
namespace Go.Proofs.Ytkihdohphddjaaa.G
open Go.RowKit Go.Proofs.YtkihdohphddjaaaW.PrintWords Go.Proofs.YtkihdohphddjaaaW.PrintLast Go.Proofs.YtkihdohphddjaaaW.PrintMore
attribute [local go_sem] max2_int min2_int max_two min_two max_three min_three max_four min_four   -- for this text's walks alone
set_option linter.unusedVariables false
set_option linter.unusedSimpArgs false

mutual
def spec_l92Log.j0 : Nat → List (S75) → Int → List Int → Int → Option ((List (S75)) × Int)
 | 0, _, _, _, _ => none
 | k + 1, x3, x4, x1000, x1001 => (spec_l6Rd_pick.f k x1000 x1001 10).bind fun bt475 => (spec_l92Log.l0 k x3 x4 bt475.1 0 x1000 bt475.2)
def spec_l92Log.l0 : Nat → List (S75) → Int → Int → Int → List Int → Int → Option ((List (S75)) × Int)
 | 0, _, _, _, _, _, _ => none
 | k + 1, x3, x4, x5, x6, x1000, x1001 => if x6 < x4 then ((spec_l91Batch.f k x1000 x1001 x5).bind fun bt481 => ((spec_l6Rd_pick.f k x1000 bt481.2.2.2.2.2.2 20).bind fun bt491 => (if bt491.1 > 0 then ((spec_BatchValid.f k bt481.1 bt481.2.1 bt481.2.2.1 bt481.2.2.2.1 bt481.2.2.2.2.1 bt481.2.2.2.2.2.1).bind fun t493 => (spec_l92Log.j2 k x3 x4 x5 x6 (!t493) x1000 bt491.2 bt481.1 bt481.2.1 bt481.2.2.1 bt481.2.2.2.1 bt481.2.2.2.2.1 bt481.2.2.2.2.2.1)) else (spec_l92Log.j2 k x3 x4 x5 x6 false x1000 bt491.2 bt481.1 bt481.2.1 bt481.2.2.1 bt481.2.2.2.1 bt481.2.2.2.2.1 bt481.2.2.2.2.2.1)))) else (if x4 > 1 then ((spec_l6Rd_pick.f k x1000 x1001 30).bind fun bt477 => (if bt477.1 = 0 then (if 0 < (x3.length : Int) then (if 1 < (x3.length : Int) then (some ((x3.set (1 : Int).toNat (⟨(rd_T75 x3 0).f0, (rd_T75 x3 0).f1, (rd_T75 x3 0).f2, (rd_T75 x3 0).f3, (rd_T75 x3 0).f4, (rd_T75 x3 0).f5⟩ : S75)), bt477.2)) else (none)) else (none)) else (some (x3, bt477.2)))) else (some (x3, x1001)))
def spec_l92Log.j2 : Nat → List (S75) → Int → Int → Int → Bool → List Int → Int → Bool → Bool → Int → Int → Int → List (S78) → Option ((List (S75)) × Int)
 | 0, _, _, _, _, _, _, _, _, _, _, _, _, _ => none
 | k + 1, x3, x4, x5, x6, x37, x1000, x1001, x491000, x491001, x491002, x491003, x491004, x491005 => if x37 = true then ((spec_l91Records.f k x1000 x1001 x5 2).bind fun bt494 => (if x3.length < 2513169434916 then (if 0 ≤ (wrap64 ((bt494.1.length : Int) - 1)) then (if (wrap64 ((bt494.1.length : Int) - 1)) < (bt494.1.length : Int) then ((spec_l6Rd_pick.f k x1000 bt494.2 4).bind fun bt502 => (spec_l92Log.l0 k (x3 ++ [(⟨false, false, 255, 0, 0, bt494.1⟩ : S75)]) x4 (wrap64 ((wrap64 (((rd_T78 bt494.1 (wrap64 ((bt494.1.length : Int) - 1))).f0) + 1)) + (wrap64 ((wrap64 (Int.tdiv bt502.1 3)) * 2)))) (wrap64 (x6 + 1)) x1000 bt502.2)) else (none)) else (none)) else (none))) else (if x3.length < 2513169434916 then (if 0 ≤ (wrap64 ((x491005.length : Int) - 1)) then (if (wrap64 ((x491005.length : Int) - 1)) < (x491005.length : Int) then ((spec_l6Rd_pick.f k x1000 x1001 4).bind fun bt508 => (spec_l92Log.l0 k (x3 ++ [(⟨x491000, x491001, x491002, x491003, x491004, x491005⟩ : S75)]) x4 (wrap64 ((wrap64 (((rd_T78 x491005 (wrap64 ((x491005.length : Int) - 1))).f0) + 1)) + (wrap64 ((wrap64 (Int.tdiv bt508.1 3)) * 2)))) (wrap64 (x6 + 1)) x1000 bt508.2)) else (none)) else (none)) else (none))
end
def spec_l92Log.f (k : Nat) (s0_0 : List Int) (s0_1 : Int) : Option ((List (S75)) × Int) := (some (([] : List (S75)) : List (S75))).bind fun y462 => ((spec_l6Rd_pick.f k s0_0 s0_1 5).bind fun bt465 => ((spec_l6Rd_pick.f k s0_0 bt465.2 16).bind fun bt467 => (if bt467.1 = 0 then ((some (([0, 8, 9] : List Int) : List Int)).bind fun y469 => ((spec_l6Rd_pick.f k s0_0 bt467.2 3).bind fun bt472 => (if 0 ≤ bt472.1 then (if bt472.1 < (y469.length : Int) then (spec_l92Log.j0 k y462 (rd y469 bt472.1) s0_0 bt472.2) else (none)) else (none)))) else (spec_l92Log.j0 k y462 (wrap64 (1 + bt465.1)) s0_0 bt467.2))))
def spec_l92Log.T13 : Bool × List (List Nat × List Nat) := (true, [([], []), ([0], [0]), ([], []), ([2], [2]), ([3], [3]), ([4], [4]), ([1, 5], [1, 5]), ([6], [6]), ([7], [7]), ([8], [8]), ([], []), ([10], [10]), ([11], [11]), ([12], [12]), ([9, 13], [9, 13]), ([14, 11, 0, 1, 2, 3, 4, 5, 6, 7, 8, 9, 10, 11, 12, 13, 14], [14])])
def spec_l92Log.B13 : List Nat := [0, 1, 0, 4, 12, 28, 63, 127, 255, 511, 0, 1024, 3072, 7168, 16383, 32767]
theorem spec_l92Log.tab13 : rtab .any (opsOf Try.f36 13) = spec_l92Log.T13 := by kernel_rfl
theorem spec_l92Log.bits13 : waitsOk spec_l92Log.T13.2 spec_l92Log.B13 = true := by kernel_rfl
set_option maxHeartbeats 8000000 in
set_option maxRecDepth 100000 in
theorem spec_l92Log.calls (k : Nat) (g : Nat) (s0_0 : List Int) (s0_1 : Int) (r1 : List (S75)) (r2 : Int) (w0 w : World) (hI : IsS81 w0 w g s0_0 s0_1) (hB : Below w0.heap.size w0 w) (h : spec_l92Log.f k s0_0 s0_1 = some (r1, r2)) :
  Calls Try.prog 36 #[.pointer (some ⟨g, 0, none⟩)] w fun e w' => ∃ v0_ : Value, e = .returned (v0_) ∧ Kd.N k75 75 w' w.heap.size (fun k_ => (w.heap.size ≤ k_)) v0_ r1 ∧ IsS81 w0 w' g s0_0 r2 ∧ Below w0.heap.size w0 w' ∧ KeepBut w w' g none := by
 have hu75 := Try.underlying75
 have HI0 := Aside0.mk hI
 have HK := Aside0.mk (KeepBut.refl w g none)
 have HL := Aside0.mk hB.size
 clear hI
 have HW0 := Aside0.mk hB.size
 have HB := Aside0.mk hB
 clear hB
 have H : ((some (([] : List (S75)) : List (S75))).bind fun y462 => ((spec_l6Rd_pick.f k s0_0 s0_1 5).bind fun bt465 => ((spec_l6Rd_pick.f k s0_0 bt465.2 16).bind fun bt467 => (if bt467.1 = 0 then ((some (([0, 8, 9] : List Int) : List Int)).bind fun y469 => ((spec_l6Rd_pick.f k s0_0 bt467.2 3).bind fun bt472 => (if 0 ≤ bt472.1 then (if bt472.1 < (y469.length : Int) then (spec_l92Log.j0 k y462 (rd y469 bt472.1) s0_0 bt472.2) else (none)) else (none)))) else (spec_l92Log.j0 k y462 (wrap64 (1 + bt465.1)) s0_0 bt467.2))))) = some (r1, r2) := h
 clear h
 obtain ⟨y462, hy462⟩ : ∃ y_ : List (S75), y_ = (([] : List (S75))) := ⟨_, rfl⟩
 replace H : ((spec_l6Rd_pick.f k s0_0 s0_1 5).bind fun bt465 => ((spec_l6Rd_pick.f k s0_0 bt465.2 16).bind fun bt467 => (if bt467.1 = 0 then ((some (([0, 8, 9] : List Int) : List Int)).bind fun y469 => ((spec_l6Rd_pick.f k s0_0 bt467.2 3).bind fun bt472 => (if 0 ≤ bt472.1 then (if bt472.1 < (y469.length : Int) then (spec_l92Log.j0 k y462 (rd y469 bt472.1) s0_0 bt472.2) else (none)) else (none)))) else (spec_l92Log.j0 k y462 (wrap64 (1 + bt465.1)) s0_0 bt467.2)))) = some (r1, r2) := by first | (rw [hy462]; with_reducible exact H) | (have H2_ := (Option.bind_some _ _).symm.trans H; rw [hy462]; with_reducible exact H2_) | (have H2_ := (Option.bind_some _ _).symm.trans H; with_reducible exact H2_) | with_reducible exact H | (rw [hy462]; exact H) | exact H
 have Ny462 := Aside0.mk hy462
 clear hy462
 replace H := tbe H
 obtain ⟨⟨t465, t466⟩, A2, H⟩ := H
 dsimp only at H
 replace H := tbe H
 obtain ⟨⟨t467, t468⟩, A3, H⟩ := H
 dsimp only at H
 have HC4 := Aside0.mk H
 clear H
 go_enter Try.func36, Try.ntmps36
 go_upto_if 14 with (first | ((with_reducible refine gate_dst (N := 8) rfl ?_); refine Kd.N_lit k75 _ 75 ?hg (N' := 8) ?hd (xs := ([] : List (S75))) (inner := []) (ok := (fun k_ => (w.heap.size ≤ k_) ∧ k_ ≠ g)) (okp := (fun k_ => (w.heap.size ≤ k_) ∧ k_ ≠ g)) ?hr ?hp (fun _ hk => hk) ((show ∀ k_, w.heap.size ≤ k_ → (fun k_ => (w.heap.size ≤ k_) ∧ k_ ≠ g) k_ from fun k_ hk => ⟨(Nat.le_trans (keep_size (w := w) (g := g) (row := none) zk) hk), IsS81.fresh zi81 k_ hk⟩) _ (Nat.le_refl _)) (Below.refl _ _) (Nat.le_refl _) (by simp) ?_; (case hd => rfl); (case hg => rfl); (case hr => first | (go_simp; done) | (go_simp; rfl)); (case hp => exact (Reps.none _ _)); intro v463 w5 ho6 hb hg_ hnew_; clear hg_ hnew_; (first | rw [← Ny462.out] at ho6 | (simp only [Int.reduceToNat] at ho6; rw [← Ny462.out] at ho6)); have HO464 := Aside0.mk (Kd.N_lower ho6 (keep_size (w := w) (g := g) (row := none) zk)); replace HI0 := tIb81 HI0 hb; replace HK := tKb HK hb; replace HB := tBs HB hb; clear hb ho6) | ((with_reducible refine gate_callee (f := 27) rfl ?_); refine goesL_ (some 10) rfl rfl Try.func27 (by kernel_rfl) rfl #[.pointer (some ⟨g, 0, none⟩), .int .i64 5] rfl tq ?_; (with_reducible refine (spec_l6Rd_pick.calls k g s0_0 s0_1 5 t465 t466 w0 _ ?side1 ?side2 A2.out).mono ?_); (case side1 => exact zi81); (case side2 => exact zb); rintro e w7 ⟨rfl, hi, hb, hk⟩; refine ⟨_, rfl, ?_⟩; replace HO464 := tNk HO464 hk; replace HK := tKt HK hk; replace HB := Aside0.mk (hb); replace HI0 := Aside0.mk (hi); (try clear hb); (try clear hb2); (try clear hk); (try clear hi)) | ((with_reducible refine gate_callee (f := 27) rfl ?_); refine goesL_ (some 13) rfl rfl Try.func27 (by kernel_rfl) rfl #[.pointer (some ⟨g, 0, none⟩), .int .i64 16] rfl tq ?_; (with_reducible refine (spec_l6Rd_pick.calls k g s0_0 t466 16 t467 t468 w0 _ ?side1 ?side2 A3.out).mono ?_); (case side1 => exact zi81); (case side2 => exact zb); rintro e w8 ⟨rfl, hi, hb, hk⟩; refine ⟨_, rfl, ?_⟩; replace HO464 := tNk HO464 hk; replace HK := tKt HK hk; replace HB := Aside0.mk (hb); replace HI0 := Aside0.mk (hi); (try clear hb); (try clear hb2); (try clear hk); (try clear hi)))
 (try simp only [Act.put, List.setIfInBounds_toArray, List.set_cons_zero, List.set_cons_succ])
 go_cut [4] (fun v4 wc => ∃ (kq : Nat) (x4_3 : Int) (x1001_3 : Int), v4 = .int .i64 x4_3 ∧ Aside0 (spec_l92Log.j0 kq y462 x4_3 s0_0 x1001_3 = some (r1, r2)) ∧ Aside0 (kq ≤ k) ∧ Aside0 (Kd.N k75 75 wc w.heap.size (fun k_ => (w.heap.size ≤ k_) ∧ k_ ≠ g) v463 y462) ∧ Aside0 (IsS81 w0 wc g s0_0 x1001_3) ∧ Aside0 (KeepBut w wc g none) ∧ Aside0 (Below w0.heap.size w0 wc))
 case first =>
  have H := HC4.out
  clear HC4
  by_cases c9 : t467 = 0
  ·rw [if_pos c9] at H
   have c9b0 : (t467 == 0) = true := beq_iff_eq.mpr c9
   have c9b1 : (t467 != 0) = false := bne_eq_false_iff_eq.mpr c9
   clear c9
   (first | rw [c9b0] | (simp only [i64_w, i32_w]; rw [c9b0]) | skip)
   obtain ⟨y469, hy469⟩ : ∃ y_ : List Int, y_ = (([0, 8, 9] : List Int)) := ⟨_, rfl⟩
   replace H : ((spec_l6Rd_pick.f k s0_0 t468 3).bind fun bt472 => (if 0 ≤ bt472.1 then (if bt472.1 < (y469.length : Int) then (spec_l92Log.j0 k y462 (rd y469 bt472.1) s0_0 bt472.2) else (none)) else (none))) = some (r1, r2) := by first | (rw [hy469]; with_reducible exact H) | (have H2_ := (Option.bind_some _ _).symm.trans H; rw [hy469]; with_reducible exact H2_) | (have H2_ := (Option.bind_some _ _).symm.trans H; with_reducible exact H2_) | with_reducible exact H | (rw [hy469]; exact H) | exact H
   have Ny469 := Aside0.mk hy469
   clear hy469
   replace H := tbe H
   obtain ⟨⟨t472, t473⟩, A10, H⟩ := H
   dsimp only at H
   by_cases c11 : 0 ≤ t472
   ·rw [if_pos c11] at H
    have c11b0 : decide (0 ≤ t472) = true := decide_eq_true c11
    clear c11
    by_cases c12 : t472 < (y469.length : Int)
    ·rw [if_pos c12] at H
     have c12b0 : decide (t472 < (y469.length : Int)) = true := decide_eq_true c12
     clear c12
     have H' := Aside0.mk H
     clear H
     go_wp2_with (first | ((with_reducible refine gate_dst (N := 15) rfl ?_); refine Kd.R_lit (Kd.int .i64) _ 3 ?hg (N := 15) ?hd (xs := ([0, 8, 9] : List Int)) (inner := [.int .i64 0, .int .i64 8, .int .i64 9]) (ok := fun _ => True) (okp := fun _ => True) ?hr ?hp (fun _ hk => hk) trivial (Below.refl _ _) (Nat.le_refl _) (by simp) ?_; (case hd => rfl); (case hg => rfl); (case hr => first | (go_simp; done) | (go_simp; rfl)); (case hp => exact (Reps.one (show Kd.M (Kd.int .i64) _ _ _ 0 [.int .i64 0] from rfl) (Reps.one (show Kd.M (Kd.int .i64) _ _ _ 8 [.int .i64 8] from rfl) (Reps.one (show Kd.M (Kd.int .i64) _ _ _ 9 [.int .i64 9] from rfl) (Reps.none _ _))))); intro v470 w13 ho14 hb hg_ hnew_; clear hg_ hnew_; (first | rw [← Ny469.out] at ho14 | (simp only [Int.reduceToNat] at ho14; rw [← Ny469.out] at ho14)); replace HO464 := Aside0.mk (Kd.N_elder' (tN HO464.out) (Kd.R_base ho14) hb); have HO471 := Aside0.mk (Kd.R_lower (Kd.R_newM (M := fun k_ => (w.heap.size ≤ k_)) ho14 (keep_size (w := w) (g := g) (row := none) zk) (fun k_ h_ => h_)) (keep_size (w := w) (g := g) (row := none) zk)); replace HI0 := tIb81 HI0 hb; replace HK := tKb HK hb; replace HB := tBs HB hb; clear hb ho14) | ((with_reducible refine gate_callee (f := 27) rfl ?_); refine goesL_ (some 17) rfl rfl Try.func27 (by kernel_rfl) rfl #[.pointer (some ⟨g, 0, none⟩), .int .i64 3] rfl tq ?_; (with_reducible refine (spec_l6Rd_pick.calls k g s0_0 t468 3 t472 t473 w0 _ ?side1 ?side2 A10.out).mono ?_); (case side1 => exact zi81); (case side2 => exact zb); rintro e w15 ⟨rfl, hi, hb, hk⟩; refine ⟨_, rfl, ?_⟩; replace HO464 := tNk HO464 hk; replace HO471 := tRp81 HO471 HI0 hk; replace HK := tKt HK hk; replace HB := Aside0.mk (hb); replace HI0 := Aside0.mk (hi); (try clear hb); (try clear hb2); (try clear hk); (try clear hi); obtain ⟨Ao16, co16, eo16⟩ := Kd.R_slice HO471.out; subst eo16; have p474 : 0 ≤ (t472 : Int) := td; have q474 : t472 < (y469.length : Int) := td; obtain ⟨ad474, e474, hx474_0⟩ := Kd.at_int (Kd.R_reads' HO471.out).2.2 t472 p474 q474; cases e474; replace p474 := eq_true p474; replace q474 := eq_true q474))
     go_meet
     case rel => exact ⟨_, (rd y469 t472), (t473), tr, H', ⟨by first | omega | exact Nat.le_refl _⟩, ⟨tNm HO464.out⟩, ⟨zi81⟩, ⟨zk⟩, ⟨zb⟩⟩
    ·rw [if_neg c12] at H
     exact absurd H (by simp)
   ·rw [if_neg c11] at H
    exact absurd H (by simp)
  ·rw [if_neg c9] at H
   have c9b0 : (t467 == 0) = false := beq_eq_false_iff_ne.mpr c9
   have c9b1 : (t467 != 0) = true := bne_iff_ne.mpr c9
   (first | rw [c9b0] | (simp only [i64_w, i32_w]; rw [c9b0]) | skip)
   have H' := Aside0.mk H
   clear H
   go_wp2
   go_meet
   case rel => exact ⟨_, (wrap64 (1 + t465)), (t468), tr, H', ⟨by first | omega | exact Nat.le_refl _⟩, ⟨tN HO464.out⟩, ⟨zi81⟩, ⟨zk⟩, ⟨zb⟩⟩
 case rest =>
  clear HC4
  obtain ⟨kq, x4_3, x1001_3, rfl, HA, HJ3, HO_3, HI0, HK, HB⟩ := hcut
  cases kq with
  | zero => exact absurd HA.out (by simp [spec_l92Log.j0])
  | succ kj3 =>
   have H := HA.out
   clear HA
   simp only [spec_l92Log.j0] at H
   replace H := tbe H
   obtain ⟨⟨t475, t476⟩, A17, H⟩ := H
   dsimp only at H
   have H' := Aside0.mk H
   clear H
   go_wp2_with (first | ((with_reducible refine gate_callee (f := 27) rfl ?_); refine goesL_ (some 21) rfl rfl Try.func27 (by kernel_rfl) rfl #[.pointer (some ⟨g, 0, none⟩), .int .i64 10] rfl tq ?_; (with_reducible refine (spec_l6Rd_pick.calls kj3 g s0_0 x1001_3 10 t475 t476 w0 _ ?side1 ?side2 A17.out).mono ?_); (case side1 => exact zi81); (case side2 => exact zb); rintro e w18 ⟨rfl, hi, hb, hk⟩; refine ⟨_, rfl, ?_⟩; replace HO_3 := tNk HO_3 hk; replace HK := tKt HK hk; replace HB := Aside0.mk (hb); replace HI0 := Aside0.mk (hi); (try clear hb); (try clear hb2); (try clear hk); (try clear hi)))
   go_loopg [3, 5, 6] kj3 (fun kq v3 v5 v6 w' => ∃ (x3_2 : List (S75)) (x5_2 : Int) (x6_2 : Int) (x1001_2 : Int), v5 = .int .i64 x5_2 ∧ v6 = .int .i64 x6_2 ∧ Aside0 (spec_l92Log.l0 kq x3_2 x4_3 x5_2 x6_2 s0_0 x1001_2 = some (r1, r2)) ∧ Aside0 (kq ≤ kj3) ∧ Aside0 (Kd.N k75 75 w' w.heap.size (fun k_ => (w.heap.size ≤ k_) ∧ k_ ≠ g) v3 x3_2) ∧ Aside0 (IsS81 w0 w' g s0_0 x1001_2) ∧ Aside0 (KeepBut w w' g none) ∧ Aside0 (Below w0.heap.size w0 w'))
   case atStart => exact ⟨(y462), (t475), (0), (t476), tr, tr, H', ⟨Nat.le_refl _⟩, ⟨tN HO_3.out⟩, ⟨zi81⟩, ⟨zk⟩, ⟨zb⟩⟩
   case round =>
    clear H'
    obtain ⟨x3_2, x5_2, x6_2, x1001_2, rfl, rfl, HA, HK2, HO_3, HI0, HK, HB⟩ := hrel
    cases gk with
    | zero => exact absurd HA.out (by simp [spec_l92Log.l0])
    | succ k2 =>
     have H := HA.out
     clear HA
     simp only [spec_l92Log.l0] at H
     by_cases c19 : x6_2 < x4_3
     ·rw [if_pos c19] at H
      have c19b0 : decide (x6_2 < x4_3) = true := decide_eq_true c19
      clear c19
      replace H := tbe H
      obtain ⟨⟨t481, t482, t483, t484, t485, t486, t489⟩, A20, H⟩ := H
      dsimp only at H
      have HC21 := Aside0.mk H
      clear H
      go_upto_region 10 with (first | ((with_reducible refine gate_callee (f := 51) rfl ?_); refine goesL_ (some 29) rfl rfl Try.func51 (by kernel_rfl) rfl #[.pointer (some ⟨g, 0, none⟩), .int .i64 x5_2] rfl tq ?_; (with_reducible refine (spec_l91Batch.calls k2 g s0_0 x1001_2 x5_2 t481 t482 t483 t484 t485 t486 t489 w0 _ ?side1 ?side2 A20.out).mono ?_); (case side1 => exact zi81); (case side2 => exact zb); rintro e w22 ⟨v487, rfl, ho0, hi, hb, hk⟩; have u_v487 := tsv Try.prog v487 ho0; refine ⟨_, rfl, ?_⟩; have HO488 := Aside0.mk (Kd.N_lower (Kd.N_mono (ok' := fun k_ => (w.heap.size ≤ k_) ∧ some k_ ≠ (u3 : Value).ownBlock ∧ k_ ≠ g) ho0 (fun k_ hk_ => ⟨(Nat.le_trans (keep_size (w := w) (g := g) (row := none) zk) hk_), (tfr HO_3 k_ hk_), (IsS81.fresh zi81 k_ hk_)⟩)) (keep_size (w := w) (g := g) (row := none) zk)); replace HO_3 := Aside0.mk (Kd.N_mono (Kd.N_told (Kd.N_oldK (Kd.N_mono (ok := fun k_ => (((w.heap.size ≤ k_)) ∧ k_ ≠ g)) (tN HO_3.out) (fun k_ hk_ => (⟨hk_, hk_.2⟩ : _ ∧ k_ ≠ g))) hk) (tb ho0)) (fun _ h_ => h_.1)); replace HK := tKt HK hk; replace HB := Aside0.mk (hb); replace HI0 := Aside0.mk (hi); (try clear hb); (try clear hb2); (try clear hk); (try clear hi); (try clear ho0)) | ((with_reducible refine gate_dst (N := 7) rfl ?_); refine box_event ?hg (N := 7) ?hd (cs := #[.bool false, .bool false, .int .i64 0, .int .i64 0, .int .i64 0, .slice none 0 0]) (t := 75) ?hr ?_; (case hd => rfl); (case hg => rfl); (case hr => first | (go_simp; done) | (go_simp; rfl)); intro gb490 hg w23 hbox hb; replace HO_3 := tNB HO_3 hg hb; replace HO488 := tNB HO488 hg hb; replace HB := tBs HB hb; have BK490 := Aside0.mk (hbox); have GW490 := Aside0.mk ((by rw [hg]; exact (keep_size (w := w) (g := g) (row := none) zk) : w.heap.size ≤ gb490)); have GE490 := Aside0.mk ((Nat.le_trans HW0.out (by rw [hg]; exact (keep_size (w := w) (g := g) (row := none) zk) : w.heap.size ≤ gb490) : w0.heap.size ≤ gb490)); replace HK := tKb HK hb; have NB0_490 := Aside0.mk ((by rw [hg]; exact Nat.ne_of_lt (IsS81.lt (show IsS81 w0 _ g s0_0 t489 from zi81)) : g ≠ gb490)); have NB490_0 := Aside0.mk ((by rw [hg]; exact Nat.ne_of_gt (IsS81.lt (show IsS81 w0 _ g s0_0 t489 from zi81)) : gb490 ≠ g)); replace HI0 := tIb81 HI0 hb; clear hb hbox hg; have hnb24 := NB490_0.out; have hnc24 := NB0_490.out; obtain ⟨hcz25_0, hcz25_1, hcz25_2, hcz25_3, hcz25_4, hcz25_5, hfz25_0, hfz25_1, hfz25_2, hfz25_3, hfz25_4, hfz25_5⟩ := cells6 BK490.out; obtain ⟨Ao26, co26, eo26⟩ := Kd.N_slice HO488.out; subst eo26))
      (try simp only [Act.put, List.setIfInBounds_toArray, List.set_cons_zero, List.set_cons_succ])
      go_cut [37] (fun v37 wc => ∃ (kq : Nat) (x37_20 : Bool) (x1001_20 : Int), v37 = .bool x37_20 ∧ Aside0 (spec_l92Log.j2 kq x3_2 x4_3 x5_2 x6_2 x37_20 s0_0 x1001_20 t481 t482 t483 t484 t485 t486 = some (r1, r2)) ∧ Aside0 (kq ≤ k2) ∧ Aside0 (Kd.N k75 75 wc w.heap.size (fun k_ => (w.heap.size ≤ k_) ∧ some k_ ≠ ((.slice Ao26 t486.length co26) : Value).ownBlock ∧ k_ ≠ gb490 ∧ k_ ≠ g) u3 x3_2) ∧ Aside0 (Kd.N k78 78 wc w.heap.size (fun k_ => (w.heap.size ≤ k_) ∧ some k_ ≠ (u3 : Value).ownBlock ∧ k_ ≠ gb490 ∧ k_ ≠ g) (.slice Ao26 t486.length co26) t486) ∧ Aside0 (wc.heap[gb490]? = some (.cells #[.bool t481, .bool t482, .int .i64 t483, .int .i64 t484, .int .i64 t485, (.slice Ao26 t486.length co26)] 75 (0, 0))) ∧ Aside0 (IsS81 w0 wc g s0_0 x1001_20) ∧ Aside0 (KeepBut w wc g none) ∧ Aside0 (Below w0.heap.size w0 wc))
      case first =>
       have H := HC21.out
       clear HC21
       replace H := tbe H
       obtain ⟨⟨t491, t492⟩, A27, H⟩ := H
       dsimp only at H
       by_cases c28 : t491 > 0
       ·rw [if_pos c28] at H
        have c28b0 : decide (0 < t491) = true := decide_eq_true c28
        clear c28
        (first | rw [c28b0] | (simp only [i64_w, i32_w]; rw [c28b0]) | skip)
        replace H := tbe H
        obtain ⟨t493, A29, H⟩ := H
        have H' := Aside0.mk H
        clear H
        go_wp2_with (first | ((with_reducible refine gate_callee (f := 27) rfl ?_); refine goesL_ (some 31) rfl rfl Try.func27 (by kernel_rfl) rfl #[.pointer (some ⟨g, 0, none⟩), .int .i64 20] rfl tq ?_; (with_reducible refine (spec_l6Rd_pick.calls k2 g s0_0 t489 20 t491 t492 w0 _ ?side1 ?side2 A27.out).mono ?_); (case side1 => exact zi81); (case side2 => exact zb); rintro e w30 ⟨rfl, hi, hb, hk⟩; refine ⟨_, rfl, ?_⟩; replace HO_3 := tNk HO_3 hk; replace HO488 := tNk HO488 hk; replace BK490 := tBq (o' := .cells #[.bool t481, .bool t482, .int .i64 t483, .int .i64 t484, .int .i64 t485, .slice Ao26 t486.length co26] 75 (0, 0)) BK490 hk NB490_0; replace HK := tKt HK hk; replace HB := Aside0.mk (hb); replace HI0 := Aside0.mk (hi); (try clear hb); (try clear hb2); (try clear hk); (try clear hi); have hnb31 := NB490_0.out; have hnc31 := NB0_490.out; obtain ⟨hcz32_0, hcz32_1, hcz32_2, hcz32_3, hcz32_4, hcz32_5, hfz32_0, hfz32_1, hfz32_2, hfz32_3, hfz32_4, hfz32_5⟩ := cells6 BK490.out) | (go_at_call 52; (with_reducible refine (spec_BatchValid.calls k2 t481 t482 t483 t484 t485 _ _ t486 t493 _ ?side1 ?side2 A29.out).mono ?_); (case side1 => repeat (first | exact (Kd.N_reads' HO488.out).2.2 | (with_reducible refine Kd.C_alloc ?_ _) | (with_reducible refine Kd.C_drewN ?_ _) | (with_reducible refine Kd.C_drew ?_))); (case side2 => exact (Kd.N_reads' HO488.out).2.1); rintro e w33 ⟨rfl, hb⟩; replace HO_3 := tNb HO_3 hb; replace HO488 := tNb HO488 hb; replace HI0 := tIb81 HI0 hb; replace BK490 := tBb BK490 hb; replace HK := tKb HK hb; replace HB := tBs HB hb; (try clear hb); (try clear hb2); (try clear hk); (try clear hi)))
        go_meet
        case rel => exact ⟨_, (!t493), (t492), tr, H', ⟨by have := HJ3.out; have := HK2.out; first | omega | exact Nat.le_refl _⟩, ⟨tNm HO_3.out⟩, ⟨tNm HO488.out⟩, ⟨tH BK490.out⟩, ⟨zi81⟩, ⟨zk⟩, ⟨zb⟩⟩
       ·rw [if_neg c28] at H
        have c28b0 : decide (0 < t491) = false := decide_eq_false c28
        clear c28
        (first | rw [c28b0] | (simp only [i64_w, i32_w]; rw [c28b0]) | skip)
        have H' := Aside0.mk H
        clear H
        go_wp2_with (first | ((with_reducible refine gate_callee (f := 27) rfl ?_); refine goesL_ (some 31) rfl rfl Try.func27 (by kernel_rfl) rfl #[.pointer (some ⟨g, 0, none⟩), .int .i64 20] rfl tq ?_; (with_reducible refine (spec_l6Rd_pick.calls k2 g s0_0 t489 20 t491 t492 w0 _ ?side1 ?side2 A27.out).mono ?_); (case side1 => exact zi81); (case side2 => exact zb); rintro e w34 ⟨rfl, hi, hb, hk⟩; refine ⟨_, rfl, ?_⟩; replace HO_3 := tNk HO_3 hk; replace HO488 := tNk HO488 hk; replace BK490 := tBq (o' := .cells #[.bool t481, .bool t482, .int .i64 t483, .int .i64 t484, .int .i64 t485, .slice Ao26 t486.length co26] 75 (0, 0)) BK490 hk NB490_0; replace HK := tKt HK hk; replace HB := Aside0.mk (hb); replace HI0 := Aside0.mk (hi); (try clear hb); (try clear hb2); (try clear hk); (try clear hi)))
        go_meet
        case rel => exact ⟨_, (false), (t492), tr, H', ⟨by have := HJ3.out; have := HK2.out; first | omega | exact Nat.le_refl _⟩, ⟨tNm HO_3.out⟩, ⟨tNm HO488.out⟩, ⟨tH BK490.out⟩, ⟨zi81⟩, ⟨zk⟩, ⟨zb⟩⟩
      case rest =>
       clear HC21
       try clear c19; try clear c19b0; try clear hcz25_0; try clear hcz25_1; try clear hcz25_2; try clear hcz25_3; try clear hcz25_4; try clear hcz25_5; try clear hfz25_0; try clear hfz25_1; try clear hfz25_2; try clear hfz25_3; try clear hfz25_4; try clear hfz25_5
       obtain ⟨kq, x37_20, x1001_20, rfl, HA, HJ20, HO_3, HO_491005, BK490, HI0, HK, HB⟩ := hcut
       cases kq with
       | zero => exact absurd HA.out (by simp [spec_l92Log.j2])
       | succ kj20 =>
        have H := HA.out
        clear HA
        simp only [spec_l92Log.j2] at H
        by_cases c35 : x37_20 = true
        ·subst c35
         rw [if_pos rfl] at H
         replace H := tbe H
         obtain ⟨⟨t494, t497⟩, A36, H⟩ := H
         dsimp only at H
         by_cases c37 : x3_2.length < 2513169434916
         ·rw [if_pos c37] at H
          have LMc37 := Aside0.mk c37
          clear c37
          obtain ⟨y498, hy498⟩ : ∃ y_ : List (S75), y_ = (x3_2 ++ [(⟨false, false, 255, 0, 0, t494⟩ : S75)]) := ⟨_, rfl⟩
          replace H : (if 0 ≤ (wrap64 ((t494.length : Int) - 1)) then (if (wrap64 ((t494.length : Int) - 1)) < (t494.length : Int) then ((spec_l6Rd_pick.f kj20 s0_0 t497 4).bind fun bt502 => (spec_l92Log.l0 kj20 y498 x4_3 (wrap64 ((wrap64 (((rd_T78 t494 (wrap64 ((t494.length : Int) - 1))).f0) + 1)) + (wrap64 ((wrap64 (Int.tdiv bt502.1 3)) * 2)))) (wrap64 (x6_2 + 1)) s0_0 bt502.2)) else (none)) else (none)) = some (r1, r2) := by first | (rw [hy498]; with_reducible exact H) | (have H2_ := (Option.bind_some _ _).symm.trans H; rw [hy498]; with_reducible exact H2_) | (have H2_ := (Option.bind_some _ _).symm.trans H; with_reducible exact H2_) | with_reducible exact H | (rw [hy498]; exact H) | exact H
          have Ny498 := Aside0.mk hy498
          clear hy498
          obtain ⟨ji38, hji38⟩ : ∃ j_ : Int, (wrap64 ((t494.length : Int) - 1)) = j_ := ⟨_, rfl⟩
          replace H : (if 0 ≤ (ji38) then (if (ji38) < (t494.length : Int) then ((spec_l6Rd_pick.f kj20 s0_0 t497 4).bind fun bt502 => (spec_l92Log.l0 kj20 y498 x4_3 (wrap64 ((wrap64 (((rd_T78 t494 (ji38)).f0) + 1)) + (wrap64 ((wrap64 (Int.tdiv bt502.1 3)) * 2)))) (wrap64 (x6_2 + 1)) s0_0 bt502.2)) else (none)) else (none)) = some (r1, r2) := by first | (rw [hji38] at H; exact H) | (simp only [hji38] at H ⊢; exact H)
          (try rw [hji38] at A36)
          have hji38w : (IntKind.i64.wrap ((t494.length : Int) - 1)) = ji38 := (i64_w _).trans hji38
          by_cases c39 : 0 ≤ (ji38)
          ·rw [if_pos c39] at H
           have c39b0 : decide (0 ≤ (ji38)) = true := decide_eq_true c39
           clear c39
           by_cases c40 : (ji38) < (t494.length : Int)
           ·rw [if_pos c40] at H
            have c40b0 : decide ((ji38) < (t494.length : Int)) = true := decide_eq_true c40
            clear c40
            replace H := tbe H
            obtain ⟨⟨t502, t503⟩, A41, H⟩ := H
            dsimp only at H
            have H' := Aside0.mk H
            clear H
            try go_wp2_with (first | ((with_reducible refine gate_callee (f := 53) rfl ?_); refine goesL_ (some 40) rfl rfl Try.func53 (by kernel_rfl) rfl #[.pointer (some ⟨g, 0, none⟩), .int .i64 x5_2, .int .i64 2] rfl tq ?_; (with_reducible refine (spec_l91Records.calls kj20 g s0_0 x1001_20 x5_2 2 t494 t497 w0 _ ?side1 ?side2 A36.out).mono ?_); (case side1 => exact zi81); (case side2 => exact zb); rintro e w42 ⟨v495, rfl, ho0, hi, hb, hk⟩; have u_v495 := tsv Try.prog v495 ho0; refine ⟨_, rfl, ?_⟩; have HO496 := Aside0.mk (Kd.N_lower (Kd.N_mono (ok' := fun k_ => (w.heap.size ≤ k_) ∧ some k_ ≠ (u3 : Value).ownBlock ∧ some k_ ≠ (.slice Ao26 t486.length co26 : Value).ownBlock ∧ k_ ≠ gb490 ∧ k_ ≠ g) (Kd.S_N (Kd.S_bound ho0)) (fun k_ hk_ => ⟨(Nat.le_trans (keep_size (w := w) (g := g) (row := none) zk) hk_.2.1), (tfr HO_3 k_ hk_.2.1), (tfr HO_491005 k_ hk_.2.1), (tfB BK490 k_ hk_.2.1), (IsS81.fresh zi81 k_ hk_.2.1)⟩)) (keep_size (w := w) (g := g) (row := none) zk)); replace HO_3 := Aside0.mk (Kd.N_mono (Kd.N_told (Kd.N_oldK (Kd.N_mono (ok := fun k_ => (((w.heap.size ≤ k_)) ∧ (some k_ ≠ (.slice Ao26 t486.length co26 : Value).ownBlock ∧ (k_ ≠ gb490 ∧ k_ ≠ g)))) (tN HO_3.out) (fun k_ hk_ => (⟨hk_, hk_.2.2.2⟩ : _ ∧ k_ ≠ g))) hk) (tb ho0)) (fun _ h_ => h_.1)); replace HO_491005 := Aside0.mk (Kd.N_mono (Kd.N_told (Kd.N_oldK (Kd.N_mono (ok := fun k_ => (((w.heap.size ≤ k_)) ∧ (some k_ ≠ (u3 : Value).ownBlock ∧ (k_ ≠ gb490 ∧ k_ ≠ g)))) (tN HO_491005.out) (fun k_ hk_ => (⟨hk_, hk_.2.2.2⟩ : _ ∧ k_ ≠ g))) hk) (tb ho0)) (fun _ h_ => h_.1)); replace BK490 := tBk BK490 hk NB490_0; replace HK := tKt HK hk; replace HB := Aside0.mk (hb); replace HI0 := Aside0.mk (hi); (try clear hb); (try clear hb2); (try clear hk); (try clear hi); (try clear ho0); obtain ⟨Ao43, co43, eo43⟩ := Kd.N_slice HO496.out; subst eo43; have hnb44 := NB490_0.out; have hnc44 := NB0_490.out; obtain ⟨hcz45_0, hcz45_1, hcz45_2, hcz45_3, hcz45_4, hcz45_5, hfz45_0, hfz45_1, hfz45_2, hfz45_3, hfz45_4, hfz45_5⟩ := cells6 BK490.out) | ((with_reducible refine gate_store (t := 75) (p := 7) rfl ?_); refine store_event (t := 75) (p := 7) (v := ?vo_w46) (w1 := ((((((w42.setCell ⟨gb490, 0, none⟩ (.bool false)).setCell ⟨gb490, 1, none⟩ (.bool false)).setCell ⟨gb490, 2, none⟩ (.int .i64 255)).setCell ⟨gb490, 3, none⟩ (.int .i64 0)).setCell ⟨gb490, 4, none⟩ (.int .i64 0)).setCell ⟨gb490, 5, none⟩ (.slice Ao43 t494.length co43))) ?hg ?ho ?hn ?hr ?_; (case ho => rfl); (case hg => rfl); (case hn => rfl); (case hr => first | (go_simp; done) | (go_simp; rfl)); intro w46 hw; have n0_ : Aside0 (Kd.N k75 75 w46 w.heap.size (fun k_ => (w.heap.size ≤ k_) ∧ some k_ ≠ (.slice Ao26 t486.length co26 : Value).ownBlock ∧ some k_ ≠ (.slice Ao43 t494.length co43 : Value).ownBlock ∧ k_ ≠ gb490 ∧ k_ ≠ g) u3 x3_2) := ⟨(by rw [hw]; exact (tNm HO_3.out))⟩; have n1_ : Aside0 (Kd.N k78 78 w46 w.heap.size (fun k_ => (w.heap.size ≤ k_) ∧ some k_ ≠ (u3 : Value).ownBlock ∧ some k_ ≠ (.slice Ao43 t494.length co43 : Value).ownBlock ∧ k_ ≠ gb490 ∧ k_ ≠ g) (.slice Ao26 t486.length co26) t486) := ⟨(by rw [hw]; exact (tNm HO_491005.out))⟩; have n2_ : Aside0 (Kd.N k78 78 w46 w.heap.size (fun k_ => (w.heap.size ≤ k_) ∧ some k_ ≠ (u3 : Value).ownBlock ∧ some k_ ≠ (.slice Ao26 t486.length co26 : Value).ownBlock ∧ k_ ≠ gb490 ∧ k_ ≠ g) (.slice Ao43 t494.length co43) t494) := ⟨(by rw [hw]; exact (tNm HO496.out))⟩; have n3_ : Aside0 (w46.heap[gb490]? = some (.cells #[.bool false, .bool false, .int .i64 255, .int .i64 0, .int .i64 0, .slice Ao43 t494.length co43] 75 (0, 0))) := ⟨(by rw [hw]; exact (tP BK490.out))⟩; have n4_ : Aside0 (IsS81 w0 w46 g s0_0 t497) := ⟨(by rw [hw]; exact zi81)⟩; have n5_ : Aside0 (KeepBut w w46 g none) := ⟨(by rw [hw]; exact zk)⟩; have n6_ : Aside0 (Below w0.heap.size w0 w46) := ⟨(by rw [hw]; exact zb)⟩; clear hw; clear HO_3; clear HO_491005; clear HO496; clear BK490; clear HI0; clear HK; clear HB; have HO_3 := n0_; have HO_491005 := n1_; have HO496 := n2_; have BK490 := n3_; have HI0 := n4_; have HK := n5_; have HB := n6_; clear n0_ n1_ n2_ n3_ n4_ n5_ n6_; obtain ⟨hcz47_0, hcz47_1, hcz47_2, hcz47_3, hcz47_4, hcz47_5, hfz47_0, hfz47_1, hfz47_2, hfz47_3, hfz47_4, hfz47_5⟩ := cells6 BK490.out) | ((with_reducible refine gate_builtin (b := .append) (xs := #[.tmp 42, .tmp 44]) rfl ?_); at_builtin; refine Kd.N_append k75 w.heap.size rfl (.tmp 42) (.tmp 44) 41 75 (.agg #[(.bool false), (.bool false), (.int .i64 0), (.int .i64 0), (.int .i64 0), (.slice none 0 0)]) 56 rfl Try.underlying41 info75 rfl (by decide) (by omega) u3 x3_2 (⟨false, false, 255, 0, 0, t494⟩ : S75) [.bool false, .bool false, .int .i64 255, .int .i64 0, .int .i64 0, .slice Ao43 t494.length co43] (fun k_ => (w.heap.size ≤ k_) ∧ some k_ ≠ (.slice Ao26 t486.length co26 : Value).ownBlock ∧ k_ ≠ gb490 ∧ k_ ≠ g) (fun k_ => ((fun k_ => (w.heap.size ≤ k_) ∧ some k_ ≠ (.slice Ao26 t486.length co26 : Value).ownBlock ∧ k_ ≠ gb490 ∧ k_ ≠ g)) k_ ∧ some k_ ≠ (u3 : Value).ownBlock) rfl rfl ?aP (fun _ hk => hk) ?aF ?aO (Below.refl _ _) ?aS ?aL ?_; (case aP => exact (k75_mkF _ _ (⟨false, false, 255, 0, 0, t494⟩ : S75) (Kd.N_reads' (Kd.N_mono (ok' := (fun k_ => ((fun k_ => (w.heap.size ≤ k_) ∧ some k_ ≠ (.slice Ao26 t486.length co26 : Value).ownBlock ∧ k_ ≠ gb490 ∧ k_ ≠ g)) k_ ∧ some k_ ≠ (u3 : Value).ownBlock)) (HO496.out) (fun k_ hk => ⟨⟨hk.1, ⟨hk.2.2.1, ⟨hk.2.2.2.1, hk.2.2.2.2⟩⟩⟩, hk.2.1⟩))).2.1 (Kd.N_F (Kd.N_mono (ok' := (fun k_ => ((fun k_ => (w.heap.size ≤ k_) ∧ some k_ ≠ (.slice Ao26 t486.length co26 : Value).ownBlock ∧ k_ ≠ gb490 ∧ k_ ≠ g)) k_ ∧ some k_ ≠ (u3 : Value).ownBlock)) (HO496.out) (fun k_ hk => ⟨⟨hk.1, ⟨hk.2.2.1, ⟨hk.2.2.2.1, hk.2.2.2.2⟩⟩⟩, hk.2.1⟩))))); (case aF => exact (fun k_ hk => ⟨(Nat.le_trans (keep_size (w := w) (g := g) (row := none) zk) hk), tfr HO_491005 k_ hk, tfB BK490 k_ hk, IsS81.fresh zi81 k_ hk⟩)); (case aO => exact (tNm HO_3.out)); (case aS => exact (keep_size (w := w) (g := g) (row := none) zk)); (case aL => have := LMc37.out; omega); intro v499 w48 ho hb hg hat; rw [← Ny498.out] at ho; have n0_ := Aside0.mk (Kd.N_afterv (ok := (fun k_ => (w.heap.size ≤ k_) ∧ some k_ ≠ (.slice Ao43 t494.length co43 : Value).ownBlock ∧ k_ ≠ gb490 ∧ k_ ≠ g)) (tNm HO_491005.out) hg hat); have n1_ := Aside0.mk (blk_grown (tH BK490.out) hg (Kd.N_away HO_3.out (fun _ hk => hk.2.2.2.1))); have n2_ := Aside0.mk (IsS81.grown zi81 hg (IsS81.own_neN HI0.out HO_3.out (by decide))); have n3_ := Aside0.mk (below_weaken zb HL.out hb); have n4_ := Aside0.mk (KeepBut.trans zk (KeepBut.of_grown hg g) (Kd.N_base2 HO_3.out)); have n5_ := Aside0.mk (ho); have nx_ := Aside0.mk (Kd.N_grown (tN HO496.out) hg (fun k_ hk => by first | exact hk.2.1 | exact hk.2.2.1 | exact hk.1.2.1 | exact hk.1.2.2.1)); clear HO_491005; clear BK490; clear HI0; clear HB; clear HK; clear HO_3; clear HO496; have HO_491005 := n0_; have BK490 := n1_; have HI0 := n2_; have HB := n3_; have HK := n4_; have HO500 := n5_; clear n0_ n1_ n2_ n3_ n4_ n5_; have HO496 := nx_; clear nx_; clear ho hb hg hat))
            replace HO_491005 := Aside0.mk (Kd.N_drew HO_491005.out)
            replace HO500 := Aside0.mk (Kd.N_drew HO500.out)
            replace BK490 := Aside0.mk (blk_drew BK490.out)
            replace HI0 := Aside0.mk (IsS81.drew HI0.out)
            replace HK := Aside0.mk (keep_drew HK.out)
            replace HB := Aside0.mk (below_drew1 HB.out)
            have p501 : 0 ≤ ((ji38) : Int) := td
            have q501 : (ji38) < (t494.length : Int) := td
            have HO496 := Aside0.mk (Kd.N_drew HO496.out)
            obtain ⟨ad501, A501_3, c501_3, A501_5, c501_5, e501, hx501_0, hx501_1, hx501_2, hx501_3, hx501_4, hx501_5, hl501_3, hi501_3, hl501_5, hi501_5⟩ := at_T78 (Kd.N_reads' HO496.out).2.2 (ji38) p501 q501
            cases e501
            have HR501_3 := Aside0.mk hi501_3
            have HC501_3 := Aside0.mk hl501_3
            clear hi501_3 hl501_3
            have HR501_5 := Aside0.mk hi501_5
            have HC501_5 := Aside0.mk hl501_5
            clear hi501_5 hl501_5
            replace p501 := eq_true p501
            replace q501 := eq_true q501
            refine start_ (n := 16) (S := fun w' => w'.cell? ⟨gb490, 0, none⟩ = some (.bool false) ∧ w'.cell? ⟨gb490, 1, none⟩ = some (.bool false) ∧ w'.cell? ⟨gb490, 2, none⟩ = some (.int .i64 255) ∧ w'.cell? ⟨gb490, 3, none⟩ = some (.int .i64 0) ∧ w'.cell? ⟨gb490, 4, none⟩ = some (.int .i64 0) ∧ w'.cell? ⟨gb490, 5, none⟩ = some (.slice (some ad501) t494.length co43) ∧ w'.cell? (ad501.add (((ji38)).toNat * 6)) = some (.int .i64 ((rd_T78 t494 (ji38)).f0)) ∧ w'.cell? ⟨(ad501.add (((ji38)).toNat * 6)).block, (ad501.add (((ji38)).toNat * 6)).off + 1, none⟩ = some (.int .i64 ((rd_T78 t494 (ji38)).f1)) ∧ w'.cell? ⟨(ad501.add (((ji38)).toNat * 6)).block, (ad501.add (((ji38)).toNat * 6)).off + 2, none⟩ = some (.bool ((rd_T78 t494 (ji38)).f2)) ∧ w'.cell? ⟨(ad501.add (((ji38)).toNat * 6)).block, (ad501.add (((ji38)).toNat * 6)).off + 3, none⟩ = some (.slice A501_3 ((rd_T78 t494 (ji38)).f3).length c501_3) ∧ w'.cell? ⟨(ad501.add (((ji38)).toNat * 6)).block, (ad501.add (((ji38)).toNat * 6)).off + 4, none⟩ = some (.bool ((rd_T78 t494 (ji38)).f4)) ∧ w'.cell? ⟨(ad501.add (((ji38)).toNat * 6)).block, (ad501.add (((ji38)).toNat * 6)).off + 5, none⟩ = some (.slice A501_5 ((rd_T78 t494 (ji38)).f5).length c501_5)) (ds := []) #[false, false, false, false, false, false, false, false, false, false, false, false, false, false, false, false] (by kernel_rfl) rfl rfl ⟨(blk_cell BK490.out 0).trans rfl, (blk_cell BK490.out 1).trans rfl, (blk_cell BK490.out 2).trans rfl, (blk_cell BK490.out 3).trans rfl, (blk_cell BK490.out 4).trans rfl, (blk_cell BK490.out 5).trans rfl, hx501_0, hx501_1, hx501_2, hx501_3, hx501_4, hx501_5⟩ (fun hHeld => ?_); refine with_tabW spec_l92Log.tab13 spec_l92Log.bits13 (fun HT_ HW_ => ?_)
            generalize w48.drew = w49 at HO496 HO_491005 HO500 BK490 HI0 HK HB HR501_3 HR501_5 hx501_0 hx501_1 hx501_2 hx501_3 hx501_4 hx501_5 hHeld ⊢
            refine tpu 0 (some 46) #[true, false, false, false, false, false, false, false, false, false, false, false, false, false, false, false] ?_
            refine tpu 2 (some 48) #[true, false, true, false, false, false, false, false, false, false, false, false, false, false, false, false] ?_
            refine tpu 10 (some 56) #[true, false, true, false, false, false, false, false, false, false, true, false, false, false, false, false] ?_
            refine tta 1 (some 47) #[true, true, true, false, false, false, false, false, false, false, true, false, false, false, false, false] hHeld ?_ (hy := by rintro w' ⟨s0, s1, s2, s3, s4, s5, s6, s7, s8, s9, s10, s11⟩; go_simp; with_reducible rfl)
            refine tta 3 (some 49) #[true, true, true, true, false, false, false, false, false, false, true, false, false, false, false, false] hHeld ?_ (hy := by rintro w' ⟨s0, s1, s2, s3, s4, s5, s6, s7, s8, s9, s10, s11⟩; go_simp; with_reducible rfl)
            refine tpu 4 (some 50) #[true, true, true, true, true, false, false, false, false, false, true, false, false, false, false, false] ?_
            refine tpu 5 (some 51) #[true, true, true, true, true, true, false, false, false, false, true, false, false, false, false, false] ?_
            refine tpu 6 (some 52) #[true, true, true, true, true, true, true, false, false, false, true, false, false, false, false, false] ?_
            refine tpu 7 (some 53) #[true, true, true, true, true, true, true, true, false, false, true, false, false, false, false, false] ?_
            refine tta 8 (some 54) #[true, true, true, true, true, true, true, true, true, false, true, false, false, false, false, false] hHeld ?_ (hy := by rintro w' ⟨s0, s1, s2, s3, s4, s5, s6, s7, s8, s9, s10, s11⟩; go_simp; with_reducible rfl)
            refine tpu 9 (some 55) #[true, true, true, true, true, true, true, true, true, true, true, false, false, false, false, false] ?_
            refine one_ (i := 11) (N := some 57) #[true, true, true, true, true, true, true, true, true, true, true, true, false, false, false, false] rfl rfl (one_of HT_.out (by kernel_rfl)) (by decide) (fun K hK => ?_)
            refine goes_ Try.func27 (by kernel_rfl) rfl #[.pointer (some ⟨g, 0, none⟩), .int .i64 4] (by rfl) rfl rfl tq ?_
            with_reducible refine (spec_l6Rd_pick.calls kj20 g s0_0 t497 4 t502 t503 w0 _ ?side1 ?side2 A41.out).mono ?_
            (case side1 => exact zi81)
            (case side2 => exact zb)
            rintro e w50 ⟨rfl, hi, hb, hk⟩
            have HS6_ := keep_cell hk (hHeld.2.2.2.2.2.2.1) (tow (Kd.own_blk (IsS81.own_neN HI0.out HO496.out (by decide))))
            have HS7_ := keep_cell hk (hHeld.2.2.2.2.2.2.2.1) (tow (Kd.own_blk (IsS81.own_neN HI0.out HO496.out (by decide))))
            have HS8_ := keep_cell hk (hHeld.2.2.2.2.2.2.2.2.1) (tow (Kd.own_blk (IsS81.own_neN HI0.out HO496.out (by decide))))
            have HS9_ := keep_cell hk (hHeld.2.2.2.2.2.2.2.2.2.1) (tow (Kd.own_blk (IsS81.own_neN HI0.out HO496.out (by decide))))
            have HS10_ := keep_cell hk (hHeld.2.2.2.2.2.2.2.2.2.2.1) (tow (Kd.own_blk (IsS81.own_neN HI0.out HO496.out (by decide))))
            have HS11_ := keep_cell hk (hHeld.2.2.2.2.2.2.2.2.2.2.2) (tow (Kd.own_blk (IsS81.own_neN HI0.out HO496.out (by decide))))
            refine ⟨_, rfl, ?_⟩
            replace HO_491005 := tNk HO_491005 hk
            replace BK490 := tBk BK490 hk NB490_0
            replace HO500 := tNk HO500 hk
            replace HK := tKt HK hk
            replace HB := Aside0.mk (hb)
            replace HI0 := Aside0.mk (hi)
            (try clear hb)
            (try clear hb2)
            (try clear hk)
            (try clear hi)
            refine hK.out _ _ ⟨(blk_cell BK490.out 0).trans rfl, (blk_cell BK490.out 1).trans rfl, (blk_cell BK490.out 2).trans rfl, (blk_cell BK490.out 3).trans rfl, (blk_cell BK490.out 4).trans rfl, (blk_cell BK490.out 5).trans rfl, HS6_, HS7_, HS8_, HS9_, HS10_, HS11_⟩ (fun hHeld => ?_)
            clear hK K
            refine tnm (some 57) ?_
            refine tpu 12 (some 58) #[true, true, true, true, true, true, true, true, true, true, true, true, true, false, false, false] ?_
            refine tpu 13 (some 59) #[true, true, true, true, true, true, true, true, true, true, true, true, true, true, false, false] ?_
            refine tpu 14 (some 60) #[true, true, true, true, true, true, true, true, true, true, true, true, true, true, true, false] ?_
            refine tpu 15 (some 5) #[true, true, true, true, true, true, true, true, true, true, true, true, true, true, true, true] ?_
            refine done_ (done_of HT_.out (by kernel_rfl)) ?_
            try go_wp2
            go_roundg kj20
            case measure => have := HJ3.out; have := HK2.out; have := HJ20.out; omega
            case rel => exact ⟨(y498), (wrap64 ((wrap64 (((rd_T78 t494 (ji38)).f0) + 1)) + (wrap64 ((wrap64 (Int.tdiv t502 3)) * 2)))), (wrap64 (x6_2 + 1)), (t503), (by first | rfl | (simp; done) | (simp only [← hji38] <;> (first | rfl | simp)) | (simp [*]; done)), tr, H', ⟨by have := HJ3.out; have := HK2.out; have := HJ20.out; omega⟩, ⟨tNm HO500.out⟩, ⟨zi81⟩, ⟨zk⟩, ⟨zb⟩⟩
           ·rw [if_neg c40] at H
            exact absurd H (by simp)
          ·rw [if_neg c39] at H
           exact absurd H (by simp)
         ·rw [if_neg c37] at H
          exact absurd H (by simp)
        ·replace c35 := Bool.eq_false_iff.mpr c35
         subst c35
         rw [if_neg (show ¬ (false = true) by decide)] at H
         by_cases c51 : x3_2.length < 2513169434916
         ·rw [if_pos c51] at H
          have LMc51 := Aside0.mk c51
          clear c51
          obtain ⟨y504, hy504⟩ : ∃ y_ : List (S75), y_ = (x3_2 ++ [(⟨t481, t482, t483, t484, t485, t486⟩ : S75)]) := ⟨_, rfl⟩
          replace H : (if 0 ≤ (wrap64 ((t486.length : Int) - 1)) then (if (wrap64 ((t486.length : Int) - 1)) < (t486.length : Int) then ((spec_l6Rd_pick.f kj20 s0_0 x1001_20 4).bind fun bt508 => (spec_l92Log.l0 kj20 y504 x4_3 (wrap64 ((wrap64 (((rd_T78 t486 (wrap64 ((t486.length : Int) - 1))).f0) + 1)) + (wrap64 ((wrap64 (Int.tdiv bt508.1 3)) * 2)))) (wrap64 (x6_2 + 1)) s0_0 bt508.2)) else (none)) else (none)) = some (r1, r2) := by first | (rw [hy504]; with_reducible exact H) | (have H2_ := (Option.bind_some _ _).symm.trans H; rw [hy504]; with_reducible exact H2_) | (have H2_ := (Option.bind_some _ _).symm.trans H; with_reducible exact H2_) | with_reducible exact H | (rw [hy504]; exact H) | exact H
          have Ny504 := Aside0.mk hy504
          clear hy504
          obtain ⟨ji52, hji52⟩ : ∃ j_ : Int, (wrap64 ((t486.length : Int) - 1)) = j_ := ⟨_, rfl⟩
          replace H : (if 0 ≤ (ji52) then (if (ji52) < (t486.length : Int) then ((spec_l6Rd_pick.f kj20 s0_0 x1001_20 4).bind fun bt508 => (spec_l92Log.l0 kj20 y504 x4_3 (wrap64 ((wrap64 (((rd_T78 t486 (ji52)).f0) + 1)) + (wrap64 ((wrap64 (Int.tdiv bt508.1 3)) * 2)))) (wrap64 (x6_2 + 1)) s0_0 bt508.2)) else (none)) else (none)) = some (r1, r2) := by first | (rw [hji52] at H; exact H) | (simp only [hji52] at H ⊢; exact H)
          have hji52w : (IntKind.i64.wrap ((t486.length : Int) - 1)) = ji52 := (i64_w _).trans hji52
          by_cases c53 : 0 ≤ (ji52)
          ·rw [if_pos c53] at H
           have c53b0 : decide (0 ≤ (ji52)) = true := decide_eq_true c53
           clear c53
           by_cases c54 : (ji52) < (t486.length : Int)
           ·rw [if_pos c54] at H
            have c54b0 : decide ((ji52) < (t486.length : Int)) = true := decide_eq_true c54
            clear c54
            replace H := tbe H
            obtain ⟨⟨t508, t509⟩, A55, H⟩ := H
            dsimp only at H
            have H' := Aside0.mk H
            clear H
            have hnb56 := NB490_0.out
            have hnc56 := NB0_490.out
            obtain ⟨hcz57_0, hcz57_1, hcz57_2, hcz57_3, hcz57_4, hcz57_5, hfz57_0, hfz57_1, hfz57_2, hfz57_3, hfz57_4, hfz57_5⟩ := cells6 BK490.out
            try go_wp2_with (first | ((with_reducible refine gate_builtin (b := .append) (xs := #[.tmp 42, .tmp 44]) rfl ?_); at_builtin; refine Kd.N_append k75 w.heap.size rfl (.tmp 42) (.tmp 44) 41 75 (.agg #[(.bool false), (.bool false), (.int .i64 0), (.int .i64 0), (.int .i64 0), (.slice none 0 0)]) 56 rfl Try.underlying41 info75 rfl (by decide) (by omega) u3 x3_2 (⟨t481, t482, t483, t484, t485, t486⟩ : S75) [.bool t481, .bool t482, .int .i64 t483, .int .i64 t484, .int .i64 t485, .slice Ao26 t486.length co26] (fun k_ => (w.heap.size ≤ k_) ∧ k_ ≠ gb490 ∧ k_ ≠ g) (fun k_ => ((fun k_ => (w.heap.size ≤ k_) ∧ k_ ≠ gb490 ∧ k_ ≠ g)) k_ ∧ some k_ ≠ (u3 : Value).ownBlock) rfl rfl ?aP (fun _ hk => hk) ?aF ?aO (Below.refl _ _) ?aS ?aL ?_; (case aP => exact (k75_mkF _ _ (⟨t481, t482, t483, t484, t485, t486⟩ : S75) (Kd.N_reads' (Kd.N_mono (ok' := (fun k_ => ((fun k_ => (w.heap.size ≤ k_) ∧ k_ ≠ gb490 ∧ k_ ≠ g)) k_ ∧ some k_ ≠ (u3 : Value).ownBlock)) (HO_491005.out) (fun k_ hk => ⟨⟨hk.1, ⟨hk.2.2.1, hk.2.2.2⟩⟩, hk.2.1⟩))).2.1 (Kd.N_F (Kd.N_mono (ok' := (fun k_ => ((fun k_ => (w.heap.size ≤ k_) ∧ k_ ≠ gb490 ∧ k_ ≠ g)) k_ ∧ some k_ ≠ (u3 : Value).ownBlock)) (HO_491005.out) (fun k_ hk => ⟨⟨hk.1, ⟨hk.2.2.1, hk.2.2.2⟩⟩, hk.2.1⟩))))); (case aF => exact (fun k_ hk => ⟨(Nat.le_trans (keep_size (w := w) (g := g) (row := none) zk) hk), tfB BK490 k_ hk, IsS81.fresh zi81 k_ hk⟩)); (case aO => exact (tNm HO_3.out)); (case aS => exact (keep_size (w := w) (g := g) (row := none) zk)); (case aL => have := LMc51.out; omega); intro v505 w58 ho hb hg hat; rw [← Ny504.out] at ho; have n0_ := Aside0.mk (blk_grown (tH BK490.out) hg (Kd.N_away HO_3.out (fun _ hk => hk.2.2.1))); have n1_ := Aside0.mk (IsS81.grown zi81 hg (IsS81.own_neN HI0.out HO_3.out (by decide))); have n2_ := Aside0.mk (below_weaken zb HL.out hb); have n3_ := Aside0.mk (KeepBut.trans zk (KeepBut.of_grown hg g) (Kd.N_base2 HO_3.out)); have n4_ := Aside0.mk (ho); have nx_ := Aside0.mk (Kd.N_grown (tN HO_491005.out) hg (fun k_ hk => by first | exact hk.2.1 | exact hk.2.2.1 | exact hk.1.2.1 | exact hk.1.2.2.1)); clear BK490; clear HI0; clear HB; clear HK; clear HO_3; clear HO_491005; have BK490 := n0_; have HI0 := n1_; have HB := n2_; have HK := n3_; have HO506 := n4_; clear n0_ n1_ n2_ n3_ n4_; have HO_491005 := nx_; clear nx_; clear ho hb hg hat))
            replace HO506 := Aside0.mk (Kd.N_drew HO506.out)
            replace BK490 := Aside0.mk (blk_drew BK490.out)
            replace HI0 := Aside0.mk (IsS81.drew HI0.out)
            replace HK := Aside0.mk (keep_drew HK.out)
            replace HB := Aside0.mk (below_drew1 HB.out)
            have p507 : 0 ≤ ((ji52) : Int) := td
            have q507 : (ji52) < (t486.length : Int) := td
            have HO_491005 := Aside0.mk (Kd.N_drew HO_491005.out)
            obtain ⟨ad507, A507_3, c507_3, A507_5, c507_5, e507, hx507_0, hx507_1, hx507_2, hx507_3, hx507_4, hx507_5, hl507_3, hi507_3, hl507_5, hi507_5⟩ := at_T78 (Kd.N_reads' HO_491005.out).2.2 (ji52) p507 q507
            cases e507
            have HR507_3 := Aside0.mk hi507_3
            have HC507_3 := Aside0.mk hl507_3
            clear hi507_3 hl507_3
            have HR507_5 := Aside0.mk hi507_5
            have HC507_5 := Aside0.mk hl507_5
            clear hi507_5 hl507_5
            replace p507 := eq_true p507
            replace q507 := eq_true q507
            refine start_ (n := 16) (S := fun w' => w'.cell? ⟨gb490, 0, none⟩ = some (.bool t481) ∧ w'.cell? ⟨gb490, 1, none⟩ = some (.bool t482) ∧ w'.cell? ⟨gb490, 2, none⟩ = some (.int .i64 t483) ∧ w'.cell? ⟨gb490, 3, none⟩ = some (.int .i64 t484) ∧ w'.cell? ⟨gb490, 4, none⟩ = some (.int .i64 t485) ∧ w'.cell? ⟨gb490, 5, none⟩ = some (.slice (some ad507) t486.length co26) ∧ w'.cell? (ad507.add (((ji52)).toNat * 6)) = some (.int .i64 ((rd_T78 t486 (ji52)).f0)) ∧ w'.cell? ⟨(ad507.add (((ji52)).toNat * 6)).block, (ad507.add (((ji52)).toNat * 6)).off + 1, none⟩ = some (.int .i64 ((rd_T78 t486 (ji52)).f1)) ∧ w'.cell? ⟨(ad507.add (((ji52)).toNat * 6)).block, (ad507.add (((ji52)).toNat * 6)).off + 2, none⟩ = some (.bool ((rd_T78 t486 (ji52)).f2)) ∧ w'.cell? ⟨(ad507.add (((ji52)).toNat * 6)).block, (ad507.add (((ji52)).toNat * 6)).off + 3, none⟩ = some (.slice A507_3 ((rd_T78 t486 (ji52)).f3).length c507_3) ∧ w'.cell? ⟨(ad507.add (((ji52)).toNat * 6)).block, (ad507.add (((ji52)).toNat * 6)).off + 4, none⟩ = some (.bool ((rd_T78 t486 (ji52)).f4)) ∧ w'.cell? ⟨(ad507.add (((ji52)).toNat * 6)).block, (ad507.add (((ji52)).toNat * 6)).off + 5, none⟩ = some (.slice A507_5 ((rd_T78 t486 (ji52)).f5).length c507_5)) (ds := []) #[false, false, false, false, false, false, false, false, false, false, false, false, false, false, false, false] (by kernel_rfl) rfl rfl ⟨(blk_cell BK490.out 0).trans rfl, (blk_cell BK490.out 1).trans rfl, (blk_cell BK490.out 2).trans rfl, (blk_cell BK490.out 3).trans rfl, (blk_cell BK490.out 4).trans rfl, (blk_cell BK490.out 5).trans rfl, hx507_0, hx507_1, hx507_2, hx507_3, hx507_4, hx507_5⟩ (fun hHeld => ?_); refine with_tabW spec_l92Log.tab13 spec_l92Log.bits13 (fun HT_ HW_ => ?_)
            generalize w58.drew = w59 at HO_491005 HO506 BK490 HI0 HK HB HR507_3 HR507_5 hx507_0 hx507_1 hx507_2 hx507_3 hx507_4 hx507_5 hHeld ⊢
            refine tpu 0 (some 46) #[true, false, false, false, false, false, false, false, false, false, false, false, false, false, false, false] ?_
            refine tpu 2 (some 48) #[true, false, true, false, false, false, false, false, false, false, false, false, false, false, false, false] ?_
            refine tpu 10 (some 56) #[true, false, true, false, false, false, false, false, false, false, true, false, false, false, false, false] ?_
            refine tta 1 (some 47) #[true, true, true, false, false, false, false, false, false, false, true, false, false, false, false, false] hHeld ?_ (hy := by rintro w' ⟨s0, s1, s2, s3, s4, s5, s6, s7, s8, s9, s10, s11⟩; go_simp; with_reducible rfl)
            refine tta 3 (some 49) #[true, true, true, true, false, false, false, false, false, false, true, false, false, false, false, false] hHeld ?_ (hy := by rintro w' ⟨s0, s1, s2, s3, s4, s5, s6, s7, s8, s9, s10, s11⟩; go_simp; with_reducible rfl)
            refine tpu 4 (some 50) #[true, true, true, true, true, false, false, false, false, false, true, false, false, false, false, false] ?_
            refine tpu 5 (some 51) #[true, true, true, true, true, true, false, false, false, false, true, false, false, false, false, false] ?_
            refine tpu 6 (some 52) #[true, true, true, true, true, true, true, false, false, false, true, false, false, false, false, false] ?_
            refine tpu 7 (some 53) #[true, true, true, true, true, true, true, true, false, false, true, false, false, false, false, false] ?_
            refine tta 8 (some 54) #[true, true, true, true, true, true, true, true, true, false, true, false, false, false, false, false] hHeld ?_ (hy := by rintro w' ⟨s0, s1, s2, s3, s4, s5, s6, s7, s8, s9, s10, s11⟩; go_simp; with_reducible rfl)
            refine tpu 9 (some 55) #[true, true, true, true, true, true, true, true, true, true, true, false, false, false, false, false] ?_
            refine one_ (i := 11) (N := some 57) #[true, true, true, true, true, true, true, true, true, true, true, true, false, false, false, false] rfl rfl (one_of HT_.out (by kernel_rfl)) (by decide) (fun K hK => ?_)
            refine goes_ Try.func27 (by kernel_rfl) rfl #[.pointer (some ⟨g, 0, none⟩), .int .i64 4] (by rfl) rfl rfl tq ?_
            with_reducible refine (spec_l6Rd_pick.calls kj20 g s0_0 x1001_20 4 t508 t509 w0 _ ?side1 ?side2 A55.out).mono ?_
            (case side1 => exact zi81)
            (case side2 => exact zb)
            rintro e w60 ⟨rfl, hi, hb, hk⟩
            have HS6_ := keep_cell hk (hHeld.2.2.2.2.2.2.1) (tow (Kd.own_blk (IsS81.own_neN HI0.out HO_491005.out (by decide))))
            have HS7_ := keep_cell hk (hHeld.2.2.2.2.2.2.2.1) (tow (Kd.own_blk (IsS81.own_neN HI0.out HO_491005.out (by decide))))
            have HS8_ := keep_cell hk (hHeld.2.2.2.2.2.2.2.2.1) (tow (Kd.own_blk (IsS81.own_neN HI0.out HO_491005.out (by decide))))
            have HS9_ := keep_cell hk (hHeld.2.2.2.2.2.2.2.2.2.1) (tow (Kd.own_blk (IsS81.own_neN HI0.out HO_491005.out (by decide))))
            have HS10_ := keep_cell hk (hHeld.2.2.2.2.2.2.2.2.2.2.1) (tow (Kd.own_blk (IsS81.own_neN HI0.out HO_491005.out (by decide))))
            have HS11_ := keep_cell hk (hHeld.2.2.2.2.2.2.2.2.2.2.2) (tow (Kd.own_blk (IsS81.own_neN HI0.out HO_491005.out (by decide))))
            refine ⟨_, rfl, ?_⟩
            replace BK490 := tBk BK490 hk NB490_0
            replace HO506 := tNk HO506 hk
            replace HK := tKt HK hk
            replace HB := Aside0.mk (hb)
            replace HI0 := Aside0.mk (hi)
            (try clear hb)
            (try clear hb2)
            (try clear hk)
            (try clear hi)
            refine hK.out _ _ ⟨(blk_cell BK490.out 0).trans rfl, (blk_cell BK490.out 1).trans rfl, (blk_cell BK490.out 2).trans rfl, (blk_cell BK490.out 3).trans rfl, (blk_cell BK490.out 4).trans rfl, (blk_cell BK490.out 5).trans rfl, HS6_, HS7_, HS8_, HS9_, HS10_, HS11_⟩ (fun hHeld => ?_)
            clear hK K
            refine tnm (some 57) ?_
            refine tpu 12 (some 58) #[true, true, true, true, true, true, true, true, true, true, true, true, true, false, false, false] ?_
            refine tpu 13 (some 59) #[true, true, true, true, true, true, true, true, true, true, true, true, true, true, false, false] ?_
            refine tpu 14 (some 60) #[true, true, true, true, true, true, true, true, true, true, true, true, true, true, true, false] ?_
            refine tpu 15 (some 5) #[true, true, true, true, true, true, true, true, true, true, true, true, true, true, true, true] ?_
            refine done_ (done_of HT_.out (by kernel_rfl)) ?_
            try go_wp2
            go_roundg kj20
            case measure => have := HJ3.out; have := HK2.out; have := HJ20.out; omega
            case rel => exact ⟨(y504), (wrap64 ((wrap64 (((rd_T78 t486 (ji52)).f0) + 1)) + (wrap64 ((wrap64 (Int.tdiv t508 3)) * 2)))), (wrap64 (x6_2 + 1)), (t509), (by first | rfl | (simp; done) | (simp only [← hji52] <;> (first | rfl | simp)) | (simp [*]; done)), tr, H', ⟨by have := HJ3.out; have := HK2.out; have := HJ20.out; omega⟩, ⟨tNm HO506.out⟩, ⟨zi81⟩, ⟨zk⟩, ⟨zb⟩⟩
           ·rw [if_neg c54] at H
            exact absurd H (by simp)
          ·rw [if_neg c53] at H
           exact absurd H (by simp)
         ·rw [if_neg c51] at H
          exact absurd H (by simp)
     ·rw [if_neg c19] at H
      have c19b0 : decide (x6_2 < x4_3) = false := decide_eq_false c19
      clear c19
      by_cases c61 : x4_3 > 1
      ·rw [if_pos c61] at H
       have c61b0 : decide (1 < x4_3) = true := decide_eq_true c61
       clear c61
       replace H := tbe H
       obtain ⟨⟨t477, t478⟩, A62, H⟩ := H
       dsimp only at H
       by_cases c63 : t477 = 0
       ·rw [if_pos c63] at H
        have c63b0 : (t477 == 0) = true := beq_iff_eq.mpr c63
        have c63b1 : (t477 != 0) = false := bne_eq_false_iff_eq.mpr c63
        clear c63
        by_cases c64 : 0 < (x3_2.length : Int)
        ·rw [if_pos c64] at H
         have c64b0 : decide (0 < (x3_2.length : Int)) = true := decide_eq_true c64
         have c64b1 : decide (0 < x3_2.length) = true := decide_eq_true (by omega)
         clear c64
         by_cases c65 : 1 < (x3_2.length : Int)
         ·rw [if_pos c65] at H
          have c65b0 : decide (1 < (x3_2.length : Int)) = true := decide_eq_true c65
          have c65b1 : decide (1 < x3_2.length) = true := decide_eq_true (by omega)
          clear c65
          obtain ⟨y480, hy480⟩ : ∃ y_ : List (S75), y_ = (x3_2.set (1 : Int).toNat (⟨(rd_T75 x3_2 0).f0, (rd_T75 x3_2 0).f1, (rd_T75 x3_2 0).f2, (rd_T75 x3_2 0).f3, (rd_T75 x3_2 0).f4, (rd_T75 x3_2 0).f5⟩ : S75)) := ⟨_, rfl⟩
          replace H : (some (y480, t478)) = some (r1, r2) := by first | (rw [hy480]; with_reducible exact H) | (have H2_ := (Option.bind_some _ _).symm.trans H; rw [hy480]; with_reducible exact H2_) | (have H2_ := (Option.bind_some _ _).symm.trans H; with_reducible exact H2_) | with_reducible exact H | (rw [hy480]; exact H) | exact H
          have Ny480 := Aside0.mk hy480
          clear hy480
          simp only [Option.some.injEq, Prod.mk.injEq] at H
          obtain ⟨rfl, rfl⟩ := H
          go_wp2_with (first | (go_at_call 27; (with_reducible refine (spec_l6Rd_pick.calls k2 g s0_0 x1001_2 30 t477 t478 w0 _ ?side1 ?side2 A62.out).mono ?_); (case side1 => exact zi81); (case side2 => exact zb); rintro e w67 ⟨rfl, hi, hb, hk⟩; replace HO_3 := tNk HO_3 hk; replace HK := tKt HK hk; replace HB := Aside0.mk (hb); replace HI0 := Aside0.mk (hi); (try clear hb); (try clear hb2); (try clear hk); (try clear hi); obtain ⟨Ao68, co68, eo68⟩ := Kd.N_slice HO_3.out; subst eo68; have p479 : 0 ≤ (0 : Int) := (by omega); have q479 : 0 < (x3_2.length : Int) := td; obtain ⟨ad479, A479_5, c479_5, e479, hx479_0, hx479_1, hx479_2, hx479_3, hx479_4, hx479_5, hl479_5, hi479_5⟩ := at_T75 (Kd.N_reads' HO_3.out).2.2 0 p479 q479; cases e479; obtain ⟨ce479, hce479, hMe479, hcc479⟩ := Kd.N_get HO_3.out z75 0 p479 (by first | exact q479 | exact td | (have e_ := (Kd.N_reads' HO_3.out).1; omega)); obtain ⟨ua479_5, uc479_5, rfl, ul479_5, ge479_5⟩ := k75_openF hMe479; have hv479_5 := hcc479 5 _ rfl; rw [add_field _ _ 5 (by omega)] at hv479_5; replace hv479_5 := Option.some.inj (hv479_5.symm.trans hx479_5); injection hv479_5 with hva_ hvn_ hvc_; rw [hva_] at ge479_5; rw [hvc_] at ul479_5; have HL479_5 := Aside0.mk (show Kd.V k78 78 _ w.heap.size _ _ ((rd_T75 x3_2 0).f5) from Kd.V_mk ul479_5 ge479_5); clear hva_ hvn_ hvc_ ge479_5 ul479_5; clear hcc479 hce479; have qi479 : (0 < x3_2.length) = True := eq_true (by omega); (try rw [show ((0 : Int)).toNat = 0 from rfl] at hx479_0); (try rw [show 0 * 6 = 0 from rfl] at hx479_0); (try rw [Addr.add_zero'] at hx479_0); (try rw [show ((0 : Int)).toNat = 0 from rfl] at hx479_1); (try rw [show 0 * 6 = 0 from rfl] at hx479_1); (try rw [Addr.add_zero'] at hx479_1); (try rw [show ((0 : Int)).toNat = 0 from rfl] at hx479_2); (try rw [show 0 * 6 = 0 from rfl] at hx479_2); (try rw [Addr.add_zero'] at hx479_2); (try rw [show ((0 : Int)).toNat = 0 from rfl] at hx479_3); (try rw [show 0 * 6 = 0 from rfl] at hx479_3); (try rw [Addr.add_zero'] at hx479_3); (try rw [show ((0 : Int)).toNat = 0 from rfl] at hx479_4); (try rw [show 0 * 6 = 0 from rfl] at hx479_4); (try rw [Addr.add_zero'] at hx479_4); (try rw [show ((0 : Int)).toNat = 0 from rfl] at hx479_5); (try rw [show 0 * 6 = 0 from rfl] at hx479_5); (try rw [Addr.add_zero'] at hx479_5); have HR479_5 := Aside0.mk hi479_5; have HC479_5 := Aside0.mk hl479_5; clear hi479_5 hl479_5; replace p479 := eq_true p479; replace q479 := eq_true q479; have p66 : 0 ≤ (1 : Int) := (by omega); have q66 : (1 : Int) < ((x3_2.length : Int) : Int) := td; have qi66 : (1 < x3_2.length) = True := eq_true (by omega); obtain ⟨go66, co66, eo66, gb66, gl66, cl66, HG66⟩ := Kd.N_form HO_3.out (by omega); (first | cases eo66 | (injection eo66 with ea_ en_ ec_; (first | subst ea_ | (injection ea_ with ea_; subst ea_)); subst ec_; clear en_)); have GB66 := Aside0.mk gb66; have GG66 := Aside0.mk HG66; clear gb66 gl66 HG66; (first | simp only [add_plain] at hx479_0 | skip); (first | simp only [add_plain] at hx479_1 | skip); (first | simp only [add_plain] at hx479_2 | skip); (first | simp only [add_plain] at hx479_3 | skip); (first | simp only [add_plain] at hx479_4 | skip); (first | simp only [add_plain] at hx479_5 | skip); obtain ⟨ce66, hcl66, hM66, hcc66, hfr66⟩ := Kd.N_elem HO_3.out z75 (1 : Int) p66 q66; obtain ⟨ua66_5, uc66_5, rfl, ul66_5, ge66_5⟩ := k75_openF hM66; have hx66_0 : w67.cell? ⟨go66, (1 : Int).toNat * 6, none⟩ = some (.bool ((rd_T75 x3_2 1).f0)) := hcc66 0 _ rfl; have hx66_1 : w67.cell? ⟨go66, (1 : Int).toNat * 6 + 1, none⟩ = some (.bool ((rd_T75 x3_2 1).f1)) := hcc66 1 _ rfl; have hx66_2 : w67.cell? ⟨go66, (1 : Int).toNat * 6 + 2, none⟩ = some (.int .i64 ((rd_T75 x3_2 1).f2)) := hcc66 2 _ rfl; have hx66_3 : w67.cell? ⟨go66, (1 : Int).toNat * 6 + 3, none⟩ = some (.int .i64 ((rd_T75 x3_2 1).f3)) := hcc66 3 _ rfl; have hx66_4 : w67.cell? ⟨go66, (1 : Int).toNat * 6 + 4, none⟩ = some (.int .i64 ((rd_T75 x3_2 1).f4)) := hcc66 4 _ rfl; have hx66_5 : w67.cell? ⟨go66, (1 : Int).toNat * 6 + 5, none⟩ = some (.slice ua66_5 ((rd_T75 x3_2 1).f5).length uc66_5) := hcc66 5 _ rfl; have hf66_0 : w67.frozen? ⟨go66, (1 : Int).toNat * 6, none⟩ = false := hfr66 0; have hf66_1 : w67.frozen? ⟨go66, (1 : Int).toNat * 6 + 1, none⟩ = false := hfr66 1; have hf66_2 : w67.frozen? ⟨go66, (1 : Int).toNat * 6 + 2, none⟩ = false := hfr66 2; have hf66_3 : w67.frozen? ⟨go66, (1 : Int).toNat * 6 + 3, none⟩ = false := hfr66 3; have hf66_4 : w67.frozen? ⟨go66, (1 : Int).toNat * 6 + 4, none⟩ = false := hfr66 4; have hf66_5 : w67.frozen? ⟨go66, (1 : Int).toNat * 6 + 5, none⟩ = false := hfr66 5; clear hcl66 hcc66 hfr66 hM66; (try rw [show ((1 : Int)).toNat = 1 from rfl] at hx66_0); (try simp only [Nat.reduceMul, Nat.zero_mul, Nat.zero_add, Nat.reduceAdd] at hx66_0); (try rw [show ((1 : Int)).toNat = 1 from rfl] at hf66_0); (try simp only [Nat.reduceMul, Nat.zero_mul, Nat.zero_add, Nat.reduceAdd] at hf66_0); (try rw [show ((1 : Int)).toNat = 1 from rfl] at hx66_1); (try simp only [Nat.reduceMul, Nat.zero_mul, Nat.zero_add, Nat.reduceAdd] at hx66_1); (try rw [show ((1 : Int)).toNat = 1 from rfl] at hf66_1); (try simp only [Nat.reduceMul, Nat.zero_mul, Nat.zero_add, Nat.reduceAdd] at hf66_1); (try rw [show ((1 : Int)).toNat = 1 from rfl] at hx66_2); (try simp only [Nat.reduceMul, Nat.zero_mul, Nat.zero_add, Nat.reduceAdd] at hx66_2); (try rw [show ((1 : Int)).toNat = 1 from rfl] at hf66_2); (try simp only [Nat.reduceMul, Nat.zero_mul, Nat.zero_add, Nat.reduceAdd] at hf66_2); (try rw [show ((1 : Int)).toNat = 1 from rfl] at hx66_3); (try simp only [Nat.reduceMul, Nat.zero_mul, Nat.zero_add, Nat.reduceAdd] at hx66_3); (try rw [show ((1 : Int)).toNat = 1 from rfl] at hf66_3); (try simp only [Nat.reduceMul, Nat.zero_mul, Nat.zero_add, Nat.reduceAdd] at hf66_3); (try rw [show ((1 : Int)).toNat = 1 from rfl] at hx66_4); (try simp only [Nat.reduceMul, Nat.zero_mul, Nat.zero_add, Nat.reduceAdd] at hx66_4); (try rw [show ((1 : Int)).toNat = 1 from rfl] at hf66_4); (try simp only [Nat.reduceMul, Nat.zero_mul, Nat.zero_add, Nat.reduceAdd] at hf66_4); (try rw [show ((1 : Int)).toNat = 1 from rfl] at hx66_5); (try simp only [Nat.reduceMul, Nat.zero_mul, Nat.zero_add, Nat.reduceAdd] at hx66_5); (try rw [show ((1 : Int)).toNat = 1 from rfl] at hf66_5); (try simp only [Nat.reduceMul, Nat.zero_mul, Nat.zero_add, Nat.reduceAdd] at hf66_5); replace p66 := eq_true p66; replace q66 := eq_true q66; have HX69 := Aside0.mk (show Kd.N k75 75 w67 w.heap.size (fun k_ => (w.heap.size ≤ k_) ∧ k_ ≠ g) (.slice (some ⟨go66, 0, none⟩) x3_2.length co68) x3_2 from (tN HO_3.out)); obtain ⟨ce69, hcl69, hM69, hcc69, hfr69⟩ := Kd.N_elem HX69.out z75 (1 : Int) (by omega) (by have h_ : (1 : Int) < ((x3_2.length : Int) : Int) := td; first | exact h_ | (have e_ := (Kd.N_reads' HO_3.out).1; omega) | simpa using h_); obtain ⟨ua69_5, uc69_5, rfl, ul69_5, ge69_5⟩ := k75_openF hM69; have HP69 := Kd.N_seg HX69.out (1 : Int) (by omega) (by have h_ : (1 : Int) < ((x3_2.length : Int) : Int) := td; first | exact h_ | (have e_ := (Kd.N_reads' HO_3.out).1; omega) | simpa using h_) (seg := [.bool ((rd_T75 x3_2 0).f0), .bool ((rd_T75 x3_2 0).f1), .int .i64 ((rd_T75 x3_2 0).f2), .int .i64 ((rd_T75 x3_2 0).f3), .int .i64 ((rd_T75 x3_2 0).f4), .slice A479_5 ((rd_T75 x3_2 0).f5).length c479_5]) (j := 0) hcl69 hcc69 (show 6 ≤ 6 from by decide) (x' := (⟨(rd_T75 x3_2 0).f0, (rd_T75 x3_2 0).f1, (rd_T75 x3_2 0).f2, (rd_T75 x3_2 0).f3, (rd_T75 x3_2 0).f4, (rd_T75 x3_2 0).f5⟩ : S75)) (k75_mkF _ _ (⟨(rd_T75 x3_2 0).f0, (rd_T75 x3_2 0).f1, (rd_T75 x3_2 0).f2, (rd_T75 x3_2 0).f3, (rd_T75 x3_2 0).f4, (rd_T75 x3_2 0).f5⟩ : S75) (Kd.V_reads' (Kd.V_mono (ok' := (fun k_ => ((fun k_ => (w.heap.size ≤ k_) ∧ k_ ≠ g)) k_ ∧ k_ ≠ go66)) (HL479_5.out) (fun k_ hk => ⟨⟨hk.1.1, hk.1.2⟩, fun e_ => (hk.2) (by rw [e_]; rfl)⟩))).2.1 (Kd.V_F (Kd.V_mono (ok' := (fun k_ => ((fun k_ => (w.heap.size ≤ k_) ∧ k_ ≠ g)) k_ ∧ k_ ≠ go66)) (HL479_5.out) (fun k_ hk => ⟨⟨hk.1.1, hk.1.2⟩, fun e_ => (hk.2) (by rw [e_]; rfl)⟩)))) (fun _ hk => hk); have hx69_0 := hcc69 0 _ rfl; (try simp only [show (k75).sz = 6 from rfl, Nat.mul_one, Nat.add_zero] at hx69_0); (try rw [show ((1 : Int)).toNat = 1 from rfl] at hx69_0); (try simp only [Nat.reduceMul, Nat.zero_mul, Nat.zero_add, Nat.reduceAdd] at hx69_0); have hf69_0 := hfr69 0; (try simp only [show (k75).sz = 6 from rfl, Nat.mul_one, Nat.add_zero] at hf69_0); (try rw [show ((1 : Int)).toNat = 1 from rfl] at hf69_0); (try simp only [Nat.reduceMul, Nat.zero_mul, Nat.zero_add, Nat.reduceAdd] at hf69_0); have hx69_1 := hcc69 1 _ rfl; (try simp only [show (k75).sz = 6 from rfl, Nat.mul_one, Nat.add_zero] at hx69_1); (try rw [show ((1 : Int)).toNat = 1 from rfl] at hx69_1); (try simp only [Nat.reduceMul, Nat.zero_mul, Nat.zero_add, Nat.reduceAdd] at hx69_1); have hf69_1 := hfr69 1; (try simp only [show (k75).sz = 6 from rfl, Nat.mul_one, Nat.add_zero] at hf69_1); (try rw [show ((1 : Int)).toNat = 1 from rfl] at hf69_1); (try simp only [Nat.reduceMul, Nat.zero_mul, Nat.zero_add, Nat.reduceAdd] at hf69_1); have hx69_2 := hcc69 2 _ rfl; (try simp only [show (k75).sz = 6 from rfl, Nat.mul_one, Nat.add_zero] at hx69_2); (try rw [show ((1 : Int)).toNat = 1 from rfl] at hx69_2); (try simp only [Nat.reduceMul, Nat.zero_mul, Nat.zero_add, Nat.reduceAdd] at hx69_2); have hf69_2 := hfr69 2; (try simp only [show (k75).sz = 6 from rfl, Nat.mul_one, Nat.add_zero] at hf69_2); (try rw [show ((1 : Int)).toNat = 1 from rfl] at hf69_2); (try simp only [Nat.reduceMul, Nat.zero_mul, Nat.zero_add, Nat.reduceAdd] at hf69_2); have hx69_3 := hcc69 3 _ rfl; (try simp only [show (k75).sz = 6 from rfl, Nat.mul_one, Nat.add_zero] at hx69_3); (try rw [show ((1 : Int)).toNat = 1 from rfl] at hx69_3); (try simp only [Nat.reduceMul, Nat.zero_mul, Nat.zero_add, Nat.reduceAdd] at hx69_3); have hf69_3 := hfr69 3; (try simp only [show (k75).sz = 6 from rfl, Nat.mul_one, Nat.add_zero] at hf69_3); (try rw [show ((1 : Int)).toNat = 1 from rfl] at hf69_3); (try simp only [Nat.reduceMul, Nat.zero_mul, Nat.zero_add, Nat.reduceAdd] at hf69_3); have hx69_4 := hcc69 4 _ rfl; (try simp only [show (k75).sz = 6 from rfl, Nat.mul_one, Nat.add_zero] at hx69_4); (try rw [show ((1 : Int)).toNat = 1 from rfl] at hx69_4); (try simp only [Nat.reduceMul, Nat.zero_mul, Nat.zero_add, Nat.reduceAdd] at hx69_4); have hf69_4 := hfr69 4; (try simp only [show (k75).sz = 6 from rfl, Nat.mul_one, Nat.add_zero] at hf69_4); (try rw [show ((1 : Int)).toNat = 1 from rfl] at hf69_4); (try simp only [Nat.reduceMul, Nat.zero_mul, Nat.zero_add, Nat.reduceAdd] at hf69_4); have hx69_5 := hcc69 5 _ rfl; (try simp only [show (k75).sz = 6 from rfl, Nat.mul_one, Nat.add_zero] at hx69_5); (try rw [show ((1 : Int)).toNat = 1 from rfl] at hx69_5); (try simp only [Nat.reduceMul, Nat.zero_mul, Nat.zero_add, Nat.reduceAdd] at hx69_5); have hf69_5 := hfr69 5; (try simp only [show (k75).sz = 6 from rfl, Nat.mul_one, Nat.add_zero] at hf69_5); (try rw [show ((1 : Int)).toNat = 1 from rfl] at hf69_5); (try simp only [Nat.reduceMul, Nat.zero_mul, Nat.zero_add, Nat.reduceAdd] at hf69_5); clear hcl69 hcc69 hfr69 hM69) | ((with_reducible refine gate_store (t := 75) (p := 72) rfl ?_); refine store_event (t := 75) (p := 72) (v := ?vo_w70) (w1 := ((((((w67.setCell ⟨go66, 6, none⟩ (.bool ((rd_T75 x3_2 0).f0))).setCell ⟨go66, 7, none⟩ (.bool ((rd_T75 x3_2 0).f1))).setCell ⟨go66, 8, none⟩ (.int .i64 ((rd_T75 x3_2 0).f2))).setCell ⟨go66, 9, none⟩ (.int .i64 ((rd_T75 x3_2 0).f3))).setCell ⟨go66, 10, none⟩ (.int .i64 ((rd_T75 x3_2 0).f4))).setCell ⟨go66, 11, none⟩ (.slice A479_5 ((rd_T75 x3_2 0).f5).length c479_5))) ?hg ?ho ?hn ?hr ?_; (case ho => rfl); (case hg => rfl); (case hn => rfl); (case hr => first | (go_simp; done) | (go_simp; rfl)); intro w70 hw; have hg : w67.grownBy w70 (some go66) := (by rw [hw]; exact HP69.2); have hp_ : Kd.N k75 75 w70 w.heap.size (fun k_ => (w.heap.size ≤ k_) ∧ k_ ≠ g) (.slice (some ⟨go66, 0, none⟩) x3_2.length co68) y480 := (by rw [hw, Ny480.out]; exact HP69.1); clear HP69; replace HI0 := Aside0.mk (IsS81.grown zi81 hg (IsS81.own_neN HI0.out HO_3.out (by decide))); replace HL479_5 := Aside0.mk (Kd.V_afterv (v := (.slice (some ⟨go66, 0, none⟩) x3_2.length co68)) (v1 := (.slice (some ⟨go66, 0, none⟩) x3_2.length co68)) (ok := (fun k_ => (w.heap.size ≤ k_) ∧ k_ ≠ g)) (tV HL479_5.out) hg (.inl rfl)); replace HB := Aside0.mk ((by rw [hw]; exact below_set (below_set (below_set (below_set (below_set (below_set (HB.out) (Nat.le_trans HL.out GB66.out)) (Nat.le_trans HL.out GB66.out)) (Nat.le_trans HL.out GB66.out)) (Nat.le_trans HL.out GB66.out)) (Nat.le_trans HL.out GB66.out)) (Nat.le_trans HL.out GB66.out) : Below w0.heap.size w0 w70)); replace HK := Aside0.mk (KeepBut.trans zk (KeepBut.of_grown hg g) (Kd.N_base2 HO_3.out)); replace HO_3 := Aside0.mk (hp_); clear hg hw hp_))
          go_ret
          exact ⟨_, by first | rfl | (simp [errW_none, errW_some] <;> rfl) | (simp [*, errW_none, errW_some] <;> rfl), tNm HO_3.out, zi81, zb, zk⟩
         ·rw [if_neg c65] at H
          exact absurd H (by simp)
        ·rw [if_neg c64] at H
         exact absurd H (by simp)
       ·rw [if_neg c63] at H
        have c63b0 : (t477 == 0) = false := beq_eq_false_iff_ne.mpr c63
        have c63b1 : (t477 != 0) = true := bne_iff_ne.mpr c63
        simp only [Option.some.injEq, Prod.mk.injEq] at H
        obtain ⟨rfl, rfl⟩ := H
        go_wp2_with (first | (go_at_call 27; (with_reducible refine (spec_l6Rd_pick.calls k2 g s0_0 x1001_2 30 t477 t478 w0 _ ?side1 ?side2 A62.out).mono ?_); (case side1 => exact zi81); (case side2 => exact zb); rintro e w71 ⟨rfl, hi, hb, hk⟩; replace HO_3 := tNk HO_3 hk; replace HK := tKt HK hk; replace HB := Aside0.mk (hb); replace HI0 := Aside0.mk (hi); (try clear hb); (try clear hb2); (try clear hk); (try clear hi)))
        go_ret
        exact ⟨_, by first | rfl | (simp [errW_none, errW_some] <;> rfl) | (simp [*, errW_none, errW_some] <;> rfl), tNm HO_3.out, zi81, zb, zk⟩
      ·rw [if_neg c61] at H
       have c61b0 : decide (1 < x4_3) = false := decide_eq_false c61
       clear c61
       simp only [Option.some.injEq, Prod.mk.injEq] at H
       obtain ⟨rfl, rfl⟩ := H
       go_wp2
       go_ret
       exact ⟨_, by first | rfl | (simp [errW_none, errW_some] <;> rfl) | (simp [*, errW_none, errW_some] <;> rfl), tNm HO_3.out, zi81, zb, zk⟩

end Go.Proofs.Ytkihdohphddjaaa.G

namespace Go.Proofs.Ytkihdohphddjaaa.G
open Go.RowKit Go.Proofs.YtkihdohphddjaaaW.PrintWords Go.Proofs.YtkihdohphddjaaaW.PrintLast Go.Proofs.YtkihdohphddjaaaW.PrintMore
attribute [local go_sem] max2_int min2_int max_two min_two max_three min_three max_four min_four   -- for this text's walks alone
set_option linter.unusedVariables false
set_option linter.unusedSimpArgs false

def spec_DrawGroupsLeft.f (k : Nat) (l0 : List Int) : Option ((List (S25)) × ByteArray × (List (S75))) := (spec_l6Open.f l0).bind fun bt510 => ((spec_l92Groups.f k bt510.1 bt510.2).bind fun bt513 => ((spec_l92Log.f k bt510.1 bt513.2).bind fun bt517 => (if (bt513.1.length : Int) > 0 then ((spec_l6Rd_pick.f k bt510.1 bt517.2 6).bind fun bt521 => (if bt521.1 > 0 then ((spec_l6Rd_pick.f k bt510.1 bt521.2 (bt513.1.length : Int)).bind fun bt523 => (if 0 ≤ bt523.1 then (if bt523.1 < (bt513.1.length : Int) then (some (bt513.1, (rd_T25 bt513.1 bt523.1).f0, bt517.1)) else (none)) else (none))) else (some (bt513.1, (⟨#[98, 101, 101]⟩ : ByteArray), bt517.1)))) else (some (bt513.1, (⟨#[98, 101, 101]⟩ : ByteArray), bt517.1)))))
def spec_DrawGroupsLeft.T5 : Bool × List (List Nat × List Nat) := (true, [([], []), ([], []), ([], []), ([], []), ([3], [3]), ([2, 4], [2, 4]), ([1, 5], [1, 5]), ([6], [6]), ([7], [7]), ([], []), ([0, 5, 0], [0]), ([8, 10, 0, 1, 2, 3, 4, 5, 6, 7, 8, 10], [8]), ([9, 11, 0, 1, 2, 3, 4, 5, 6, 7, 8, 9, 10, 11], [9])])
def spec_DrawGroupsLeft.B5 : List Nat := [0, 0, 0, 0, 8, 28, 62, 126, 254, 0, 61, 1535, 4095]
theorem spec_DrawGroupsLeft.tab5 : rtab .any (opsOf Try.f19 5) = spec_DrawGroupsLeft.T5 := by kernel_rfl
theorem spec_DrawGroupsLeft.bits5 : waitsOk spec_DrawGroupsLeft.T5.2 spec_DrawGroupsLeft.B5 = true := by kernel_rfl
set_option maxHeartbeats 8000000 in
set_option maxRecDepth 100000 in
theorem spec_DrawGroupsLeft.calls (k : Nat) (A0 : Option Addr) (c0 : Nat) (l0 : List Int) (r1 : List (S25)) (r2 : ByteArray) (r3 : List (S75)) (w : World) (hr0 : Kd.C (Kd.int .u8) w A0 l0.length l0) (hc0 : l0.length ≤ c0) (h : spec_DrawGroupsLeft.f k l0 = some (r1, r2, r3)) :
  Calls Try.prog 19 #[.slice A0 l0.length c0] w fun e w' => ∃ v0_ v2_ : Value, e = .returned (.tuple #[v0_, .string r2, v2_]) ∧ Kd.R k25 25 w' w.heap.size (fun k_ => (w.heap.size ≤ k_)) v0_ r1 ∧ Kd.N k75 75 w' w.heap.size (fun k_ => (w.heap.size ≤ k_) ∧ some k_ ≠ (v0_ : Value).ownBlock) v2_ r3 ∧ Below w.heap.size w w' := by
 have HR0 := Aside0.mk hr0
 have HC0 := Aside0.mk hc0
 clear hr0 hc0
 have HB := Aside0.mk (Below.refl w.heap.size w)
 have H : ((spec_l6Open.f l0).bind fun bt510 => ((spec_l92Groups.f k bt510.1 bt510.2).bind fun bt513 => ((spec_l92Log.f k bt510.1 bt513.2).bind fun bt517 => (if (bt513.1.length : Int) > 0 then ((spec_l6Rd_pick.f k bt510.1 bt517.2 6).bind fun bt521 => (if bt521.1 > 0 then ((spec_l6Rd_pick.f k bt510.1 bt521.2 (bt513.1.length : Int)).bind fun bt523 => (if 0 ≤ bt523.1 then (if bt523.1 < (bt513.1.length : Int) then (some (bt513.1, (rd_T25 bt513.1 bt523.1).f0, bt517.1)) else (none)) else (none))) else (some (bt513.1, (⟨#[98, 101, 101]⟩ : ByteArray), bt517.1)))) else (some (bt513.1, (⟨#[98, 101, 101]⟩ : ByteArray), bt517.1)))))) = some (r1, r2, r3) := h
 clear h
 replace H := tbe H
 obtain ⟨⟨t510, t511⟩, A2, H⟩ := H
 dsimp only at H
 replace H := tbe H
 obtain ⟨⟨t513, t516⟩, A3, H⟩ := H
 dsimp only at H
 replace H := tbe H
 obtain ⟨⟨t517, t520⟩, A4, H⟩ := H
 dsimp only at H
 by_cases c5 : (t513.length : Int) > 0
 ·rw [if_pos c5] at H
  have c5b0 : decide (0 < (t513.length : Int)) = true := decide_eq_true c5
  have c5b1 : decide (0 < t513.length) = true := decide_eq_true (by omega)
  clear c5
  replace H := tbe H
  obtain ⟨⟨t521, t522⟩, A6, H⟩ := H
  dsimp only at H
  by_cases c7 : t521 > 0
  ·rw [if_pos c7] at H
   have c7b0 : decide (0 < t521) = true := decide_eq_true c7
   clear c7
   replace H := tbe H
   obtain ⟨⟨t523, t524⟩, A8, H⟩ := H
   dsimp only at H
   by_cases c9 : 0 ≤ t523
   ·rw [if_pos c9] at H
    have c9b0 : decide (0 ≤ t523) = true := decide_eq_true c9
    clear c9
    by_cases c10 : t523 < (t513.length : Int)
    ·rw [if_pos c10] at H
     have c10b0 : decide (t523 < (t513.length : Int)) = true := decide_eq_true c10
     clear c10
     simp only [Option.some.injEq, Prod.mk.injEq] at H
     obtain ⟨rfl, rfl, rfl⟩ := H
     go_enter Try.func19, Try.ntmps19
     try go_wp2_with (first | ((with_reducible refine gate_callee (f := 24) rfl ?_); refine goesL_ (some 9) rfl rfl Try.func24 (by kernel_rfl) rfl #[.slice A0 l0.length c0] rfl tq ?_; (with_reducible refine (spec_l6Open.calls _ _ l0 t510 t511 w _ ?side1 ?side2 ?side3 A2.out).mono ?_); (case side1 => exact zb); (case side2 => exact HR0.out); (case side3 => exact HC0.out); rintro e w11 ⟨g512, rfl, hi, hb, hb2⟩; refine ⟨_, rfl, ?_⟩; replace HB := Aside0.mk (hb); have HI512 := Aside0.mk (hi); (try clear hb); (try clear hb2); (try clear hk); (try clear hi)) | ((with_reducible refine gate_callee (f := 25) rfl ?_); refine goesL_ (some 11) rfl rfl Try.func25 (by kernel_rfl) rfl #[.pointer (some ⟨g512, 0, none⟩)] rfl tq ?_; (with_reducible refine (spec_l92Groups.calls k g512 t510 t511 t513 t516 w _ ?side1 ?side2 A3.out).mono ?_); (case side1 => repeat (first | (with_reducible first | exact HI512.out | apply IsS81.alloc | apply IsS81.drewN | apply IsS81.drew | apply IsS81.set_1) | exact HI512.out)); (case side2 => repeat (first | (with_reducible first | exact HB.out | apply below_alloc | apply pw_below_drewN | apply below_drew1 | refine below_set ?_ (IsS81.ge HI512.out)) | exact HB.out)); rintro e w12 ⟨v514, rfl, ho0, hi, hb, hk⟩; have u_v514 := tsv Try.prog v514 ho0; refine ⟨_, rfl, ?_⟩; have HO515 := Aside0.mk (Kd.R_lower (Kd.R_newM (M := fun k_ => (w.heap.size ≤ k_)) ho0 (below_size (by repeat (first | (with_reducible first | exact HB.out | apply below_alloc | apply pw_below_drewN | apply below_drew1 | refine below_set ?_ (IsS81.ge HI512.out)) | exact HB.out))) (fun k_ h_ => h_)) (below_size (by repeat (first | (with_reducible first | exact HB.out | apply below_alloc | apply pw_below_drewN | apply below_drew1 | refine below_set ?_ (IsS81.ge HI512.out)) | exact HB.out)))); replace HB := Aside0.mk (hb); replace HI512 := Aside0.mk (hi); (try clear hb); (try clear hb2); (try clear hk); (try clear hi); (try clear ho0)) | ((with_reducible refine gate_callee (f := 36) rfl ?_); refine goesL_ (some 13) rfl rfl Try.func36 (by kernel_rfl) rfl #[.pointer (some ⟨g512, 0, none⟩)] rfl tq ?_; (with_reducible refine (spec_l92Log.calls k g512 t510 t516 t517 t520 w _ ?side1 ?side2 A4.out).mono ?_); (case side1 => repeat (first | (with_reducible first | exact HI512.out | apply IsS81.alloc | apply IsS81.drewN | apply IsS81.drew | apply IsS81.set_1) | exact HI512.out)); (case side2 => repeat (first | (with_reducible first | exact HB.out | apply below_alloc | apply pw_below_drewN | apply below_drew1 | refine below_set ?_ (IsS81.ge HI512.out)) | exact HB.out)); rintro e w13 ⟨v518, rfl, ho0, hi, hb, hk⟩; have u_v518 := tsv Try.prog v518 ho0; refine ⟨_, rfl, ?_⟩; have HO519 := Aside0.mk (Kd.N_lower (Kd.N_mono (ok' := fun k_ => (w.heap.size ≤ k_) ∧ some k_ ≠ (v514 : Value).ownBlock ∧ k_ ≠ g512) ho0 (fun k_ hk_ => ⟨(Nat.le_trans (below_size (by repeat (first | (with_reducible first | exact HB.out | apply below_alloc | apply pw_below_drewN | apply below_drew1 | refine below_set ?_ (IsS81.ge HI512.out)) | exact HB.out))) hk_), (Kd.fresh' (Kd.R_lt (tR HO515.out)) k_ hk_), (IsS81.fresh (by repeat (first | (with_reducible first | exact HI512.out | apply IsS81.alloc | apply IsS81.drewN | apply IsS81.drew | apply IsS81.set_1) | exact HI512.out)) k_ hk_)⟩)) (below_size (by repeat (first | (with_reducible first | exact HB.out | apply below_alloc | apply pw_below_drewN | apply below_drew1 | refine below_set ?_ (IsS81.ge HI512.out)) | exact HB.out)))); replace HO515 := Aside0.mk (Kd.R_mono (Kd.R_keep (IsS81.apart (show IsS81 w _ g512 t510 t516 from by repeat (first | (with_reducible first | exact HI512.out | apply IsS81.alloc | apply IsS81.drewN | apply IsS81.drew | apply IsS81.set_1) | exact HI512.out)) (tR HO515.out) (by decide)) hk (fun _ h => h.2)) (fun _ h => h.1)); replace HB := Aside0.mk (hb); replace HI512 := Aside0.mk (hi); (try clear hb); (try clear hb2); (try clear hk); (try clear hi); (try clear ho0); obtain ⟨Ao14, co14, eo14⟩ := Kd.R_slice HO515.out; subst eo14) | (go_at_call 27; (with_reducible refine (spec_l6Rd_pick.calls k g512 t510 t520 6 t521 t522 w _ ?side1 ?side2 A6.out).mono ?_); (case side1 => repeat (first | (with_reducible first | exact HI512.out | apply IsS81.alloc | apply IsS81.drewN | apply IsS81.drew | apply IsS81.set_1) | exact HI512.out)); (case side2 => repeat (first | (with_reducible first | exact HB.out | apply below_alloc | apply pw_below_drewN | apply below_drew1 | refine below_set ?_ (IsS81.ge HI512.out)) | exact HB.out)); rintro e w15 ⟨rfl, hi, hb, hk⟩; replace HO515 := Aside0.mk (Kd.R_mono (Kd.R_keep (IsS81.apart (show IsS81 w _ g512 t510 t520 from by repeat (first | (with_reducible first | exact HI512.out | apply IsS81.alloc | apply IsS81.drewN | apply IsS81.drew | apply IsS81.set_1) | exact HI512.out)) (tR HO515.out) (by decide)) hk (fun _ h => h.2)) (fun _ h => h.1)); replace HO519 := tNk HO519 hk; replace HB := Aside0.mk (hb); replace HI512 := Aside0.mk (hi); (try clear hb); (try clear hb2); (try clear hk); (try clear hi)))
     replace HO515 := Aside0.mk (Kd.R_drew HO515.out)
     replace HO519 := Aside0.mk (Kd.N_drew HO519.out)
     replace HI512 := Aside0.mk (IsS81.drew HI512.out)
     replace HB := Aside0.mk (below_drew1 HB.out)
     have p525 : 0 ≤ (t523 : Int) := td
     have q525 : t523 < (t513.length : Int) := td
     obtain ⟨ad525, e525, hx525_0, hx525_1⟩ := at_T25 (Kd.R_reads' HO515.out).2.2 t523 p525 q525
     cases e525
     replace p525 := eq_true p525
     replace q525 := eq_true q525
     refine start_ (n := 13) (S := fun w' => w'.cell? (ad525.add ((t523).toNat * 2)) = some (.string ((rd_T25 t513 t523).f0)) ∧ w'.cell? ⟨(ad525.add ((t523).toNat * 2)).block, (ad525.add ((t523).toNat * 2)).off + 1, none⟩ = some (.int .i64 ((rd_T25 t513 t523).f1))) (ds := []) #[false, false, false, false, false, false, false, false, false, false, false, false, false] (by kernel_rfl) rfl rfl ⟨hx525_0, hx525_1⟩ (fun hHeld => ?_); refine with_tabW spec_DrawGroupsLeft.tab5 spec_DrawGroupsLeft.bits5 (fun HT_ HW_ => ?_)
     generalize w15.drew = w16 at HO515 HO519 HI512 HB hx525_0 hx525_1 hHeld ⊢
     refine tpu 0 (some 22) #[true, false, false, false, false, false, false, false, false, false, false, false, false] ?_
     refine tpu 1 (some 23) #[true, true, false, false, false, false, false, false, false, false, false, false, false] ?_
     refine tpu 2 (some 24) #[true, true, true, false, false, false, false, false, false, false, false, false, false] ?_
     refine tpu 3 (some 25) #[true, true, true, true, false, false, false, false, false, false, false, false, false] ?_
     refine tpu 4 (some 26) #[true, true, true, true, true, false, false, false, false, false, false, false, false] ?_
     refine tpu 9 (some 31) #[true, true, true, true, true, false, false, false, false, true, false, false, false] ?_
     refine one_ (i := 5) (N := some 27) #[true, true, true, true, true, true, false, false, false, true, false, false, false] rfl rfl (one_of HT_.out (by kernel_rfl)) (by decide) (fun K hK => ?_)
     refine goes_ Try.func27 (by kernel_rfl) rfl #[.pointer (some ⟨g512, 0, none⟩), .int .i64 (t513.length : Int)] (by rfl) rfl rfl tq ?_
     with_reducible refine (spec_l6Rd_pick.calls k g512 t510 t522 (t513.length : Int) t523 t524 w _ ?side1 ?side2 A8.out).mono ?_
     (case side1 => repeat (first | (with_reducible first | exact HI512.out | apply IsS81.alloc | apply IsS81.drewN | apply IsS81.drew | apply IsS81.set_1) | exact HI512.out))
     (case side2 => repeat (first | (with_reducible first | exact HB.out | apply below_alloc | apply pw_below_drewN | apply below_drew1 | refine below_set ?_ (IsS81.ge HI512.out)) | exact HB.out))
     rintro e w17 ⟨rfl, hi, hb, hk⟩
     have HS0_ := keep_cell hk (hHeld.1) (tow (Kd.own_blk (IsS81.own_ne HI512.out HO515.out (by decide))))
     have HS1_ := keep_cell hk (hHeld.2) (tow (Kd.own_blk (IsS81.own_ne HI512.out HO515.out (by decide))))
     refine ⟨_, rfl, ?_⟩
     replace HO515 := Aside0.mk (Kd.R_mono (Kd.R_keep (IsS81.apart (show IsS81 w _ g512 t510 t522 from by repeat (first | (with_reducible first | exact HI512.out | apply IsS81.alloc | apply IsS81.drewN | apply IsS81.drew | apply IsS81.set_1) | exact HI512.out)) (tR HO515.out) (by decide)) hk (fun _ h => h.2)) (fun _ h => h.1))
     replace HO519 := tNk HO519 hk
     replace HB := Aside0.mk (hb)
     replace HI512 := Aside0.mk (hi)
     (try clear hb)
     (try clear hb2)
     (try clear hk)
     (try clear hi)
     refine hK.out _ _ ⟨HS0_, HS1_⟩ (fun hHeld => ?_)
     clear hK K
     refine tnm (some 27) ?_
     refine tpu 6 (some 28) #[true, true, true, true, true, true, true, false, false, true, false, false, false] ?_
     refine tpu 7 (some 29) #[true, true, true, true, true, true, true, true, false, true, false, false, false] ?_
     refine tpu 10 (some 2) #[true, true, true, true, true, true, true, true, false, true, true, false, false] ?_
     refine tta 8 (some 30) #[true, true, true, true, true, true, true, true, true, true, true, false, false] hHeld ?_ (hy := by rintro w' ⟨s0, s1⟩; go_simp; with_reducible rfl)
     refine tpu 11 (some 3) #[true, true, true, true, true, true, true, true, true, true, true, true, false] ?_
     refine tpu 12 (some 4) #[true, true, true, true, true, true, true, true, true, true, true, true, true] ?_
     refine done_ (done_of HT_.out (by kernel_rfl)) ?_
     try go_wp2
     go_ret3
     exact ⟨_, _, by first | rfl | (simp [errW_none, errW_some] <;> rfl) | (simp [*, errW_none, errW_some] <;> rfl), tRm HO515.out, tNm HO519.out, by repeat (first | (with_reducible first | exact HB.out | apply below_alloc | apply pw_below_drewN | apply below_drew1 | refine below_set ?_ (IsS81.ge HI512.out)) | exact HB.out)⟩
    ·rw [if_neg c10] at H
     exact absurd H (by simp)
   ·rw [if_neg c9] at H
    exact absurd H (by simp)
  ·rw [if_neg c7] at H
   have c7b0 : decide (0 < t521) = false := decide_eq_false c7
   clear c7
   simp only [Option.some.injEq, Prod.mk.injEq] at H
   obtain ⟨rfl, rfl, rfl⟩ := H
   go_enter Try.func19, Try.ntmps19
   go_wp2_with (first | ((with_reducible refine gate_callee (f := 24) rfl ?_); refine goesL_ (some 9) rfl rfl Try.func24 (by kernel_rfl) rfl #[.slice A0 l0.length c0] rfl tq ?_; (with_reducible refine (spec_l6Open.calls _ _ l0 t510 t511 w _ ?side1 ?side2 ?side3 A2.out).mono ?_); (case side1 => exact zb); (case side2 => exact HR0.out); (case side3 => exact HC0.out); rintro e w18 ⟨g512, rfl, hi, hb, hb2⟩; refine ⟨_, rfl, ?_⟩; replace HB := Aside0.mk (hb); have HI512 := Aside0.mk (hi); (try clear hb); (try clear hb2); (try clear hk); (try clear hi)) | ((with_reducible refine gate_callee (f := 25) rfl ?_); refine goesL_ (some 11) rfl rfl Try.func25 (by kernel_rfl) rfl #[.pointer (some ⟨g512, 0, none⟩)] rfl tq ?_; (with_reducible refine (spec_l92Groups.calls k g512 t510 t511 t513 t516 w _ ?side1 ?side2 A3.out).mono ?_); (case side1 => repeat (first | (with_reducible first | exact HI512.out | apply IsS81.alloc | apply IsS81.drewN | apply IsS81.drew | apply IsS81.set_1) | exact HI512.out)); (case side2 => repeat (first | (with_reducible first | exact HB.out | apply below_alloc | apply pw_below_drewN | apply below_drew1 | refine below_set ?_ (IsS81.ge HI512.out)) | exact HB.out)); rintro e w19 ⟨v514, rfl, ho0, hi, hb, hk⟩; have u_v514 := tsv Try.prog v514 ho0; refine ⟨_, rfl, ?_⟩; have HO515 := Aside0.mk (Kd.R_lower (Kd.R_newM (M := fun k_ => (w.heap.size ≤ k_)) ho0 (below_size (by repeat (first | (with_reducible first | exact HB.out | apply below_alloc | apply pw_below_drewN | apply below_drew1 | refine below_set ?_ (IsS81.ge HI512.out)) | exact HB.out))) (fun k_ h_ => h_)) (below_size (by repeat (first | (with_reducible first | exact HB.out | apply below_alloc | apply pw_below_drewN | apply below_drew1 | refine below_set ?_ (IsS81.ge HI512.out)) | exact HB.out)))); replace HB := Aside0.mk (hb); replace HI512 := Aside0.mk (hi); (try clear hb); (try clear hb2); (try clear hk); (try clear hi); (try clear ho0)) | ((with_reducible refine gate_callee (f := 36) rfl ?_); refine goesL_ (some 13) rfl rfl Try.func36 (by kernel_rfl) rfl #[.pointer (some ⟨g512, 0, none⟩)] rfl tq ?_; (with_reducible refine (spec_l92Log.calls k g512 t510 t516 t517 t520 w _ ?side1 ?side2 A4.out).mono ?_); (case side1 => repeat (first | (with_reducible first | exact HI512.out | apply IsS81.alloc | apply IsS81.drewN | apply IsS81.drew | apply IsS81.set_1) | exact HI512.out)); (case side2 => repeat (first | (with_reducible first | exact HB.out | apply below_alloc | apply pw_below_drewN | apply below_drew1 | refine below_set ?_ (IsS81.ge HI512.out)) | exact HB.out)); rintro e w20 ⟨v518, rfl, ho0, hi, hb, hk⟩; have u_v518 := tsv Try.prog v518 ho0; refine ⟨_, rfl, ?_⟩; have HO519 := Aside0.mk (Kd.N_lower (Kd.N_mono (ok' := fun k_ => (w.heap.size ≤ k_) ∧ some k_ ≠ (v514 : Value).ownBlock ∧ k_ ≠ g512) ho0 (fun k_ hk_ => ⟨(Nat.le_trans (below_size (by repeat (first | (with_reducible first | exact HB.out | apply below_alloc | apply pw_below_drewN | apply below_drew1 | refine below_set ?_ (IsS81.ge HI512.out)) | exact HB.out))) hk_), (Kd.fresh' (Kd.R_lt (tR HO515.out)) k_ hk_), (IsS81.fresh (by repeat (first | (with_reducible first | exact HI512.out | apply IsS81.alloc | apply IsS81.drewN | apply IsS81.drew | apply IsS81.set_1) | exact HI512.out)) k_ hk_)⟩)) (below_size (by repeat (first | (with_reducible first | exact HB.out | apply below_alloc | apply pw_below_drewN | apply below_drew1 | refine below_set ?_ (IsS81.ge HI512.out)) | exact HB.out)))); replace HO515 := Aside0.mk (Kd.R_mono (Kd.R_keep (IsS81.apart (show IsS81 w _ g512 t510 t516 from by repeat (first | (with_reducible first | exact HI512.out | apply IsS81.alloc | apply IsS81.drewN | apply IsS81.drew | apply IsS81.set_1) | exact HI512.out)) (tR HO515.out) (by decide)) hk (fun _ h => h.2)) (fun _ h => h.1)); replace HB := Aside0.mk (hb); replace HI512 := Aside0.mk (hi); (try clear hb); (try clear hb2); (try clear hk); (try clear hi); (try clear ho0); obtain ⟨Ao21, co21, eo21⟩ := Kd.R_slice HO515.out; subst eo21) | (go_at_call 27; (with_reducible refine (spec_l6Rd_pick.calls k g512 t510 t520 6 t521 t522 w _ ?side1 ?side2 A6.out).mono ?_); (case side1 => repeat (first | (with_reducible first | exact HI512.out | apply IsS81.alloc | apply IsS81.drewN | apply IsS81.drew | apply IsS81.set_1) | exact HI512.out)); (case side2 => repeat (first | (with_reducible first | exact HB.out | apply below_alloc | apply pw_below_drewN | apply below_drew1 | refine below_set ?_ (IsS81.ge HI512.out)) | exact HB.out)); rintro e w22 ⟨rfl, hi, hb, hk⟩; replace HO515 := Aside0.mk (Kd.R_mono (Kd.R_keep (IsS81.apart (show IsS81 w _ g512 t510 t520 from by repeat (first | (with_reducible first | exact HI512.out | apply IsS81.alloc | apply IsS81.drewN | apply IsS81.drew | apply IsS81.set_1) | exact HI512.out)) (tR HO515.out) (by decide)) hk (fun _ h => h.2)) (fun _ h => h.1)); replace HO519 := tNk HO519 hk; replace HB := Aside0.mk (hb); replace HI512 := Aside0.mk (hi); (try clear hb); (try clear hb2); (try clear hk); (try clear hi)))
   go_ret3
   exact ⟨_, _, by first | rfl | (simp [errW_none, errW_some] <;> rfl) | (simp [*, errW_none, errW_some] <;> rfl), tRm HO515.out, tNm HO519.out, by repeat (first | (with_reducible first | exact HB.out | apply below_alloc | apply pw_below_drewN | apply below_drew1 | refine below_set ?_ (IsS81.ge HI512.out)) | exact HB.out)⟩
 ·rw [if_neg c5] at H
  have c5b0 : decide (0 < (t513.length : Int)) = false := decide_eq_false c5
  have c5b1 : decide (0 < t513.length) = false := decide_eq_false (by omega)
  clear c5
  simp only [Option.some.injEq, Prod.mk.injEq] at H
  obtain ⟨rfl, rfl, rfl⟩ := H
  go_enter Try.func19, Try.ntmps19
  go_wp2_with (first | ((with_reducible refine gate_callee (f := 24) rfl ?_); refine goesL_ (some 9) rfl rfl Try.func24 (by kernel_rfl) rfl #[.slice A0 l0.length c0] rfl tq ?_; (with_reducible refine (spec_l6Open.calls _ _ l0 t510 t511 w _ ?side1 ?side2 ?side3 A2.out).mono ?_); (case side1 => exact zb); (case side2 => exact HR0.out); (case side3 => exact HC0.out); rintro e w23 ⟨g512, rfl, hi, hb, hb2⟩; refine ⟨_, rfl, ?_⟩; replace HB := Aside0.mk (hb); have HI512 := Aside0.mk (hi); (try clear hb); (try clear hb2); (try clear hk); (try clear hi)) | ((with_reducible refine gate_callee (f := 25) rfl ?_); refine goesL_ (some 11) rfl rfl Try.func25 (by kernel_rfl) rfl #[.pointer (some ⟨g512, 0, none⟩)] rfl tq ?_; (with_reducible refine (spec_l92Groups.calls k g512 t510 t511 t513 t516 w _ ?side1 ?side2 A3.out).mono ?_); (case side1 => repeat (first | (with_reducible first | exact HI512.out | apply IsS81.alloc | apply IsS81.drewN | apply IsS81.drew | apply IsS81.set_1) | exact HI512.out)); (case side2 => repeat (first | (with_reducible first | exact HB.out | apply below_alloc | apply pw_below_drewN | apply below_drew1 | refine below_set ?_ (IsS81.ge HI512.out)) | exact HB.out)); rintro e w24 ⟨v514, rfl, ho0, hi, hb, hk⟩; have u_v514 := tsv Try.prog v514 ho0; refine ⟨_, rfl, ?_⟩; have HO515 := Aside0.mk (Kd.R_lower (Kd.R_newM (M := fun k_ => (w.heap.size ≤ k_)) ho0 (below_size (by repeat (first | (with_reducible first | exact HB.out | apply below_alloc | apply pw_below_drewN | apply below_drew1 | refine below_set ?_ (IsS81.ge HI512.out)) | exact HB.out))) (fun k_ h_ => h_)) (below_size (by repeat (first | (with_reducible first | exact HB.out | apply below_alloc | apply pw_below_drewN | apply below_drew1 | refine below_set ?_ (IsS81.ge HI512.out)) | exact HB.out)))); replace HB := Aside0.mk (hb); replace HI512 := Aside0.mk (hi); (try clear hb); (try clear hb2); (try clear hk); (try clear hi); (try clear ho0)) | ((with_reducible refine gate_callee (f := 36) rfl ?_); refine goesL_ (some 13) rfl rfl Try.func36 (by kernel_rfl) rfl #[.pointer (some ⟨g512, 0, none⟩)] rfl tq ?_; (with_reducible refine (spec_l92Log.calls k g512 t510 t516 t517 t520 w _ ?side1 ?side2 A4.out).mono ?_); (case side1 => repeat (first | (with_reducible first | exact HI512.out | apply IsS81.alloc | apply IsS81.drewN | apply IsS81.drew | apply IsS81.set_1) | exact HI512.out)); (case side2 => repeat (first | (with_reducible first | exact HB.out | apply below_alloc | apply pw_below_drewN | apply below_drew1 | refine below_set ?_ (IsS81.ge HI512.out)) | exact HB.out)); rintro e w25 ⟨v518, rfl, ho0, hi, hb, hk⟩; have u_v518 := tsv Try.prog v518 ho0; refine ⟨_, rfl, ?_⟩; have HO519 := Aside0.mk (Kd.N_lower (Kd.N_mono (ok' := fun k_ => (w.heap.size ≤ k_) ∧ some k_ ≠ (v514 : Value).ownBlock ∧ k_ ≠ g512) ho0 (fun k_ hk_ => ⟨(Nat.le_trans (below_size (by repeat (first | (with_reducible first | exact HB.out | apply below_alloc | apply pw_below_drewN | apply below_drew1 | refine below_set ?_ (IsS81.ge HI512.out)) | exact HB.out))) hk_), (Kd.fresh' (Kd.R_lt (tR HO515.out)) k_ hk_), (IsS81.fresh (by repeat (first | (with_reducible first | exact HI512.out | apply IsS81.alloc | apply IsS81.drewN | apply IsS81.drew | apply IsS81.set_1) | exact HI512.out)) k_ hk_)⟩)) (below_size (by repeat (first | (with_reducible first | exact HB.out | apply below_alloc | apply pw_below_drewN | apply below_drew1 | refine below_set ?_ (IsS81.ge HI512.out)) | exact HB.out)))); replace HO515 := Aside0.mk (Kd.R_mono (Kd.R_keep (IsS81.apart (show IsS81 w _ g512 t510 t516 from by repeat (first | (with_reducible first | exact HI512.out | apply IsS81.alloc | apply IsS81.drewN | apply IsS81.drew | apply IsS81.set_1) | exact HI512.out)) (tR HO515.out) (by decide)) hk (fun _ h => h.2)) (fun _ h => h.1)); replace HB := Aside0.mk (hb); replace HI512 := Aside0.mk (hi); (try clear hb); (try clear hb2); (try clear hk); (try clear hi); (try clear ho0); obtain ⟨Ao26, co26, eo26⟩ := Kd.R_slice HO515.out; subst eo26))
  go_ret3
  exact ⟨_, _, by first | rfl | (simp [errW_none, errW_some] <;> rfl) | (simp [*, errW_none, errW_some] <;> rfl), tRm HO515.out, tNm HO519.out, by repeat (first | (with_reducible first | exact HB.out | apply below_alloc | apply pw_below_drewN | apply below_drew1 | refine below_set ?_ (IsS81.ge HI512.out)) | exact HB.out)⟩

end Go.Proofs.Ytkihdohphddjaaa.G

namespace Go.Proofs.Ytkihdohphddjaaa.G
open Go.RowKit Go.Proofs.YtkihdohphddjaaaW.PrintWords Go.Proofs.YtkihdohphddjaaaW.PrintLast Go.Proofs.YtkihdohphddjaaaW.PrintMore
attribute [local go_sem] max2_int min2_int max_two min_two max_three min_three max_four min_four   -- for this text's walks alone
set_option linter.unusedVariables false
set_option linter.unusedSimpArgs false

def spec_l12Last.f (a0_0 : Bool) (a0_1 : Bool) (a0_2 : Int) (a0_3 : Int) (a0_4 : Int) (l0_5 : List (S78)) : Option (Int) := if 0 ≤ (wrap64 ((l0_5.length : Int) - 1)) then (if (wrap64 ((l0_5.length : Int) - 1)) < (l0_5.length : Int) then (some ((rd_T78 l0_5 (wrap64 ((l0_5.length : Int) - 1))).f0)) else (none)) else (none)
set_option maxHeartbeats 8000000 in
set_option maxRecDepth 100000 in
theorem spec_l12Last.calls (a0_0 : Bool) (a0_1 : Bool) (a0_2 : Int) (a0_3 : Int) (a0_4 : Int) (A0_5 : Option Addr) (c0_5 : Nat) (l0_5 : List (S78)) (r : Int) (w : World) (hr0_5 : Kd.C k78 w A0_5 l0_5.length l0_5) (hc0_5 : l0_5.length ≤ c0_5) (h : spec_l12Last.f a0_0 a0_1 a0_2 a0_3 a0_4 l0_5 = some r) :
  Calls Try.prog 57 #[.agg #[.bool a0_0, .bool a0_1, .int .i64 a0_2, .int .i64 a0_3, .int .i64 a0_4, .slice A0_5 l0_5.length c0_5]] w fun e w' => e = .returned (.int .i64 r) ∧ Below w.heap.size w w' := by
 have hu75 := Try.underlying75
 have HR0_5 := Aside0.mk hr0_5
 have HC0_5 := Aside0.mk hc0_5
 clear hr0_5 hc0_5
 have HB := Aside0.mk (Below.refl w.heap.size w)
 have H : (if 0 ≤ (wrap64 ((l0_5.length : Int) - 1)) then (if (wrap64 ((l0_5.length : Int) - 1)) < (l0_5.length : Int) then (some ((rd_T78 l0_5 (wrap64 ((l0_5.length : Int) - 1))).f0)) else (none)) else (none)) = some r := h
 clear h
 obtain ⟨ji2, hji2⟩ : ∃ j_ : Int, (wrap64 ((l0_5.length : Int) - 1)) = j_ := ⟨_, rfl⟩
 replace H : (if 0 ≤ (ji2) then (if (ji2) < (l0_5.length : Int) then (some ((rd_T78 l0_5 (ji2)).f0)) else (none)) else (none)) = some r := by first | (rw [hji2] at H; exact H) | (simp only [hji2] at H ⊢; exact H)
 have hji2w : (IntKind.i64.wrap ((l0_5.length : Int) - 1)) = ji2 := (i64_w _).trans hji2
 by_cases c3 : 0 ≤ (ji2)
 ·rw [if_pos c3] at H
  have c3b0 : decide (0 ≤ (ji2)) = true := decide_eq_true c3
  clear c3
  by_cases c4 : (ji2) < (l0_5.length : Int)
  ·rw [if_pos c4] at H
   have c4b0 : decide ((ji2) < (l0_5.length : Int)) = true := decide_eq_true c4
   clear c4
   obtain rfl := Option.some.inj H
   go_enter Try.func57, Try.ntmps57
   go_wp2_with (first | ((with_reducible refine gate_dst (N := 1) rfl ?_); refine box_event ?hg (N := 1) ?hd (cs := #[.bool a0_0, .bool a0_1, .int .i64 a0_2, .int .i64 a0_3, .int .i64 a0_4, .slice A0_5 l0_5.length c0_5]) (t := 75) ?hr ?_; (case hd => rfl); (case hg => rfl); (case hr => first | (go_simp; done) | (go_simp; rfl)); intro gb540 hg w5 hbox hb; have BK540 := Aside0.mk (hbox); have GW540 := tge HB hg; have GE540 := tge HB hg; replace HB := tBs HB hb; clear hb hbox hg; obtain ⟨hcz6_0, hcz6_1, hcz6_2, hcz6_3, hcz6_4, hcz6_5, hfz6_0, hfz6_1, hfz6_2, hfz6_3, hfz6_4, hfz6_5⟩ := cells6 BK540.out; have p541 : 0 ≤ ((ji2) : Int) := td; have q541 : (ji2) < (l0_5.length : Int) := td; obtain ⟨ad541, A541_3, c541_3, A541_5, c541_5, e541, hx541_0, hx541_1, hx541_2, hx541_3, hx541_4, hx541_5, hl541_3, hi541_3, hl541_5, hi541_5⟩ := at_T78 HR0_5.out (ji2) p541 q541; cases e541; replace hx541_0 := tcl HB hx541_0; replace hx541_1 := tcl HB hx541_1; replace hx541_2 := tcl HB hx541_2; replace hx541_3 := tcl HB hx541_3; replace hx541_4 := tcl HB hx541_4; replace hx541_5 := tcl HB hx541_5; have HR541_3 := Aside0.mk hi541_3; have HC541_3 := Aside0.mk hl541_3; clear hi541_3 hl541_3; have HR541_5 := Aside0.mk hi541_5; have HC541_5 := Aside0.mk hl541_5; clear hi541_5 hl541_5; replace p541 := eq_true p541; replace q541 := eq_true q541))
   go_ret
   exact ⟨by first | rfl | (simp [errW_none, errW_some] <;> rfl) | (simp only [← hji2]; first | rfl | (simp [errW_none, errW_some] <;> rfl)) | (simp [*, errW_none, errW_some] <;> rfl), zb⟩
  ·rw [if_neg c4] at H
   exact absurd H (by simp)
 ·rw [if_neg c3] at H
  exact absurd H (by simp)

end Go.Proofs.Ytkihdohphddjaaa.G

namespace Go.Proofs.Ytkihdohphddjaaa.G
open Go.RowKit Go.Proofs.YtkihdohphddjaaaW.PrintWords Go.Proofs.YtkihdohphddjaaaW.PrintLast Go.Proofs.YtkihdohphddjaaaW.PrintMore Go.Proofs.Ytkihdohphddjaaa.Pu
set_option linter.unusedVariables false
set_option linter.unusedSimpArgs false
theorem slast_q (b : S75) (A : Option Addr) (c : Nat) (w : World) (hr : Kd.C k78 w A b.f5.length b.f5) (hc : b.f5.length ≤ c) (hn : 1 ≤ b.f5.length ∧ b.f5.length ≤ 6) : Calls Try.prog 57 #[.agg #[.bool b.f0, .bool b.f1, .int .i64 b.f2, .int .i64 b.f3, .int .i64 b.f4, .slice A b.f5.length c]] w fun e w' => e = .returned (.int .i64 (lastOf b)) ∧ Below w.heap.size w w' :=
  spec_l12Last.calls _ _ _ _ _ A c b.f5 _ w hr hc (by
    unfold spec_l12Last.f lastOf
    simp only [w64 (a := (b.f5.length : Int) - 1) (by omega) (by omega), if_pos (show (0 : Int) ≤ (b.f5.length : Int) - 1 by omega), if_pos (show (b.f5.length : Int) - 1 < (b.f5.length : Int) by omega), if_pos (show (0 : Int) < (b.f5.length : Int) by omega)])
set_option maxRecDepth 100000 in
set_option maxHeartbeats 4000000 in
theorem speclog_q (l : List S75) (A : Option Addr) (c : Nat) (w : World) (hr : Kd.C k75 w A l.length l) (hc : l.length ≤ c) :
    Calls Try.prog 39 #[.slice A l.length c] w fun e w' => e = .returned (.bool (logOk l)) ∧ Below w.heap.size w w' := by
  have hl := hr.2.1
  unfold logOk
  have HR := Aside0.mk hr
  clear hr
  go_enter Try.func39, Try.ntmps39
  go_wp2
  go_loopw [3] (fun v3 wr => ∃ i : Nat, v3 = .int .i64 i ∧ i ≤ l.length ∧ (∀ j, j < i → batStep l j = true) ∧ Below w.heap.size w wr) (fun v3 _ => l.length - (intOf v3).toNat)
  case atStart => exact ⟨0, rfl, Nat.zero_le _, fun j hj => absurd hj (Nat.not_lt_zero j), Below.refl _ _⟩
  case round =>
    obtain ⟨i, rfl, hi, hall, hB1⟩ := hrel
    by_cases hlt : i < l.length
    · obtain ⟨ad, A5, c5, rfl, e0, e1, e2, e3, e4, e5, l5, g5⟩ := at_T75 (Kd.C_below HR.out hB1) (i : Int) (by omega) (by omega)
      rw [show ((i : Int)).toNat = i from rfl] at e0 e1 e2 e3 e4 e5
      have hrec : batStep l i = (batOk (rd_T75 l (i : Int)) && (decide (i = 0) || decide (lastOf (rd_T75 l ((i : Int) - 1)) < firstOf (rd_T75 l (i : Int))))) := rfl
      generalize rd_T75 l (i : Int) = bi at *
      have ci : CellsB wr (ad.add (i * 6)) bi A5 c5 := ⟨e0, e1, e2, e3, e4, e5⟩
      clear e0 e1 e2 e3 e4 e5
      go_wp2
      have HRC := Aside0.mk (fun (W2 : World) (hb : Below wr.heap.size wr W2) => specbat_q bi A5 c5 W2 (Kd.C_below g5 hb) l5)
      have kS : ∀ w' : World, Below wr.drew.heap.size wr.drew w' → CellsB w' (ad.add (i * 6)) bi A5 c5 ∧ Below wr.heap.size wr w' := fun w' h => ⟨ci.below (below_step (below_drew (Below.refl _ wr)) h), below_step (below_drew (Below.refl _ wr)) h⟩
      have hil : (i : Int) < (l.length : Int) := by omega
      rcases hok : batOk bi with _ | _ <;> rw [hok] at HRC
      · have hno := Aside0.mk (logs_no hlt (hrec.trans (by rw [hok]; rfl)))
        refine r_begin (fun w' => CellsB w' (ad.add (i * 6)) bi A5 c5 ∧ Below wr.heap.size wr w') 27 (by kernel_rfl) rfl (kS _ (Below.refl _ _)) (fun hH => ?_)
        repeat (first | (refine r_skip (by kernel_rfl) (by rfl) (fun _ _ _ h => h) hH ?_; simp only [Act.put, List.setIfInBounds_toArray, List.set_cons_zero, List.set_cons_succ, Nat.reduceAdd]) | (refine r_go (v := ?_) (by kernel_rfl) (by rfl) (fun _ _ _ h => h) hH ?_ ?_; rotate_left; (focus (intro w hS; obtain ⟨⟨e0, e1, e2, e3, e4, e5⟩, e6⟩ := hS; go_simp; first | done | with_reducible rfl)); simp only [Act.put, List.setIfInBounds_toArray, List.set_cons_zero, List.set_cons_succ, Nat.reduceAdd]) | (fail "x"))
        refine r_one (by kernel_rfl) (by rfl) (fun K hK => ?_)
        go_simp
        go_at_call 52
        refine (HRC.out _ hH.2).mono ?_
        rintro e w2 ⟨rfl, hb⟩
        go_wp2_with fail
        refine hK.out _ _ (kS _ hb) (fun hH => ?_)
        clear hK K
        simp only [Act.put, List.setIfInBounds_toArray, List.set_cons_zero, List.set_cons_succ, Nat.reduceAdd]
        repeat (first | (refine r_skip (by kernel_rfl) (by rfl) (fun _ _ _ h => h) hH ?_; simp only [Act.put, List.setIfInBounds_toArray, List.set_cons_zero, List.set_cons_succ, Nat.reduceAdd]) | (refine r_go (v := ?_) (by kernel_rfl) (by rfl) (fun _ _ _ h => h) hH ?_ ?_; rotate_left; (focus (intro w hS; obtain ⟨⟨e0, e1, e2, e3, e4, e5⟩, e6⟩ := hS; go_simp; first | done | with_reducible rfl)); simp only [Act.put, List.setIfInBounds_toArray, List.set_cons_zero, List.set_cons_succ, Nat.reduceAdd]) | (fail "x"))
        refine r_done (by kernel_rfl) ?_
        go_wp2
        go_ret
        exact ⟨by rw [hno.out]; rfl, below_step hB1 hH.2⟩
      · rcases i with _ | j
        · have ez : ad.add (0 * 6) = ad := by go_simp
          rw [ez] at ci
          simp only [ez] at kS
          refine r_begin (fun w' => CellsB w' ad bi A5 c5 ∧ Below wr.heap.size wr w') 27 (by kernel_rfl) rfl (kS _ (Below.refl _ _)) (fun hH => ?_)
          repeat (first | (refine r_skip (by kernel_rfl) (by rfl) (fun _ _ _ h => h) hH ?_; simp only [Act.put, List.setIfInBounds_toArray, List.set_cons_zero, List.set_cons_succ, Nat.reduceAdd]) | (refine r_go (v := ?_) (by kernel_rfl) (by rfl) (fun _ _ _ h => h) hH ?_ ?_; rotate_left; (focus (intro w hS; obtain ⟨⟨e0, e1, e2, e3, e4, e5⟩, e6⟩ := hS; go_simp; first | done | with_reducible rfl)); simp only [Act.put, List.setIfInBounds_toArray, List.set_cons_zero, List.set_cons_succ, Nat.reduceAdd]) | (fail "x"))
          refine r_one (by kernel_rfl) (by rfl) (fun K hK => ?_)
          go_simp
          go_at_call 52
          refine (HRC.out _ hH.2).mono ?_
          rintro e w2 ⟨rfl, hb⟩
          go_wp2_with fail
          refine hK.out _ _ (kS _ hb) (fun hH => ?_)
          clear hK K
          simp only [Act.put, List.setIfInBounds_toArray, List.set_cons_zero, List.set_cons_succ, Nat.reduceAdd]
          repeat (first | (refine r_skip (by kernel_rfl) (by rfl) (fun _ _ _ h => h) hH ?_; simp only [Act.put, List.setIfInBounds_toArray, List.set_cons_zero, List.set_cons_succ, Nat.reduceAdd]) | (refine r_go (v := ?_) (by kernel_rfl) (by rfl) (fun _ _ _ h => h) hH ?_ ?_; rotate_left; (focus (intro w hS; obtain ⟨⟨e0, e1, e2, e3, e4, e5⟩, e6⟩ := hS; go_simp; first | done | with_reducible rfl)); simp only [Act.put, List.setIfInBounds_toArray, List.set_cons_zero, List.set_cons_succ, Nat.reduceAdd]) | (fail "x"))
          refine r_done (by kernel_rfl) ?_
          go_wp2
          go_roundw
          case rel =>
            have hst : ∀ j, j < 0 + 1 → batStep l j = true := by
              intro j hj
              obtain rfl : j = 0 := by omega
              exact hrec.trans (by rw [hok]; rfl)
            first | exact ⟨0 + 1, by simp, hlt, hst, below_step hB1 hH.2⟩ | ((repeat apply Exists.intro); refine ⟨⟨0 + 1, ?_, hlt, hst, below_step hB1 hH.2⟩, by first | rfl | (repeat' apply And.intro) <;> rfl⟩; simp)
          case measure => simp [intOf]; omega
        · obtain ⟨ad2, A4, c4, hq, f0, f1, f2, f3, f4, f5, l4, g4⟩ := at_T75 (Kd.C_below HR.out hB1) (j : Int) (by omega) (by omega)
          cases hq
          rw [show ((j : Int)).toNat = j from rfl] at f0 f1 f2 f3 f4 f5
          have hjs := hall j (by omega)
          have hrec2 : batStep l (j + 1) = (batOk bi && (decide (j + 1 = 0) || decide (lastOf (rd_T75 l (j : Int)) < firstOf bi))) := by
            rw [hrec, show ((j + 1 : Nat) : Int) - 1 = (j : Int) by omega]
          unfold batStep at hjs
          have hbj := (Bool.and_eq_true_iff.1 hjs).1
          clear hjs
          generalize rd_T75 l (j : Int) = bj at *
          have hnj := batOk_len hbj
          have hni := batOk_len hok
          have cj : CellsB wr (ad.add (j * 6)) bj A4 c4 := ⟨f0, f1, f2, f3, f4, f5⟩
          obtain ⟨ad5, _, _, _, _, rfl, k0, _⟩ := at_T78 g5 0 (by omega) (by omega)
          change wr.cell? (ad5.add (0 * 6)) = some (.int .i64 (firstOf bi)) at k0
          have ez : ad5.add (0 * 6) = ad5 := by go_simp
          rw [ez] at k0
          have hwj : IntKind.i64.wrap (j : Int) = (j : Int) := by rw [i64_w]; unfold wrap64; omega
          have hjl : (j : Int) < (l.length : Int) := by omega
          have hjl1 : (j : Int) + 1 < (l.length : Int) := by omega
          have hj0 : (0 : Int) ≤ (j : Int) + 1 := by omega
          have htn : ((j : Int) + 1).toNat = j + 1 := by omega
          have hn0 : 0 < bi.f5.length := by omega
          have HL := Aside0.mk (fun (W2 : World) (hb : Below wr.heap.size wr W2) => slast_q bj A4 c4 W2 (Kd.C_below g4 hb) l4 hnj)
          have kS2 : ∀ w' : World, Below wr.heap.size wr w' → CellsB w' (ad.add ((j + 1) * 6)) bi (some ad5) c5 ∧ CellsB w' (ad.add (j * 6)) bj A4 c4 ∧ w'.cell? ad5 = some (.int .i64 (firstOf bi)) ∧ Below wr.heap.size wr w' := fun w' h => ⟨ci.below h, cj.below h, pw_cell_below h k0, h⟩
          have hno := Aside0.mk hrec2
          clear hrec hrec2
          clear f0 f1 f2 f3 f4 f5 kS
          go_region_held3 (fun w' => (w'.cell? (ad.add ((j + 1) * 6)) = some (.bool bi.f0) ∧ w'.cell? ⟨(ad.add ((j + 1) * 6)).block, (ad.add ((j + 1) * 6)).off + 1, none⟩ = some (.bool bi.f1) ∧ w'.cell? ⟨(ad.add ((j + 1) * 6)).block, (ad.add ((j + 1) * 6)).off + 2, none⟩ = some (.int .i64 bi.f2) ∧ w'.cell? ⟨(ad.add ((j + 1) * 6)).block, (ad.add ((j + 1) * 6)).off + 3, none⟩ = some (.int .i64 bi.f3) ∧ w'.cell? ⟨(ad.add ((j + 1) * 6)).block, (ad.add ((j + 1) * 6)).off + 4, none⟩ = some (.int .i64 bi.f4) ∧ w'.cell? ⟨(ad.add ((j + 1) * 6)).block, (ad.add ((j + 1) * 6)).off + 5, none⟩ = some (.slice (some ad5) bi.f5.length c5)) ∧ (w'.cell? (ad.add (j * 6)) = some (.bool bj.f0) ∧ w'.cell? ⟨(ad.add (j * 6)).block, (ad.add (j * 6)).off + 1, none⟩ = some (.bool bj.f1) ∧ w'.cell? ⟨(ad.add (j * 6)).block, (ad.add (j * 6)).off + 2, none⟩ = some (.int .i64 bj.f2) ∧ w'.cell? ⟨(ad.add (j * 6)).block, (ad.add (j * 6)).off + 3, none⟩ = some (.int .i64 bj.f3) ∧ w'.cell? ⟨(ad.add (j * 6)).block, (ad.add (j * 6)).off + 4, none⟩ = some (.int .i64 bj.f4) ∧ w'.cell? ⟨(ad.add (j * 6)).block, (ad.add (j * 6)).off + 5, none⟩ = some (.slice A4 bj.f5.length c4)) ∧ w'.cell? ad5 = some (.int .i64 (firstOf bi)) ∧ Below wr.heap.size wr w') (first | exact kS2 _ (below_drew (Below.refl _ _)) | assumption | exact kS2 _ (below_step (below_drew (Below.refl _ _)) ‹_›) | exact kS2 _ (below_step (by have hq := ‹_ ∧ _ ∧ _ ∧ Below wr.heap.size wr _›; exact hq.2.2.2) ‹_›))
            (first | (go_at_call 52; refine (HRC.out _ (by first | exact below_drew (Below.refl _ _) | exact (‹_ ∧ _ ∧ _ ∧ Below wr.heap.size wr _›).2.2.2)).mono ?_; rintro e w' ⟨rfl, hb⟩) | (go_at_call 57; refine (HL.out _ (by first | exact below_drew (Below.refl _ _) | exact (‹_ ∧ _ ∧ _ ∧ Below wr.heap.size wr _›).2.2.2)).mono ?_; rintro e w' ⟨rfl, hb⟩))
          all_goals
            have hBw := below_step hB1 (‹_ ∧ _ ∧ _ ∧ Below wr.heap.size wr _›).2.2.2
            by_cases hc : lastOf bj < firstOf bi
            · have hst : ∀ j', j' < j + 1 + 1 → batStep l j' = true := by
                intro j' hj
                by_cases h' : j' < j + 1
                · exact hall j' h'
                · obtain rfl : j' = j + 1 := by omega
                  rw [hno.out, hok, decide_eq_true hc, Bool.or_true]; rfl
              have hng : ¬ firstOf bi ≤ lastOf bj := by omega
              go_wp2
              go_roundw
              case rel => first | exact ⟨j + 1 + 1, by simp, hlt, hst, hBw⟩ | ((repeat apply Exists.intro); refine ⟨⟨j + 1 + 1, ?_, hlt, hst, hBw⟩, by first | rfl | (repeat' apply And.intro) <;> rfl⟩; simp)
              case measure => simp [intOf]; omega
            · have hn2 := Aside0.mk (logs_no hlt (hno.out.trans (by rw [hok, decide_eq_false hc, decide_eq_false (show ¬ j + 1 = 0 by omega)]; rfl)))
              have hng : firstOf bi ≤ lastOf bj := by omega
              go_wp2
              go_ret
              exact ⟨by rw [hn2.out]; rfl, hBw⟩
    · obtain rfl : i = l.length := by omega
      go_wp2
      go_ret
      exact ⟨by rw [logs_of hall]; rfl, hB1⟩
def spec_LogValid.f (k : Nat) (a0 : List S75) : Option Bool := some (logOk a0)
theorem spec_LogValid.calls (k : Nat) (A0 : Option Addr) (c0 : Nat) (l0 : List (S75)) (r : Bool) (w : World) (hr0 : Kd.C k75 w A0 l0.length l0) (hc0 : l0.length ≤ c0) (h : spec_LogValid.f k l0 = some r) :
    Calls Try.prog 39 #[.slice A0 l0.length c0] w fun e w' => e = .returned (.bool r) ∧ Below w.heap.size w w' := by
  obtain rfl := Option.some.inj h
  exact speclog_q l0 A0 c0 w hr0 hc0
end Go.Proofs.Ytkihdohphddjaaa.G

