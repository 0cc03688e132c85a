/- A text of seat Ytkihdohphddjaaa: what the law FnGroupsLeftEnd needs of this repo's texts (by pack.py). Not trusted: Lean checks it. -/
import Derived.Test.YtkihdohphddjaaaKFnGroupsLeftEnd7
namespace Go.Proofs.Ytkihdohphddjaaa.G
open Go.RowKit Go.Proofs.YtkihdohphddjaaaW.PrintWords Go.Proofs.YtkihdohphddjaaaW.PrintLast Go.Proofs.YtkihdohphddjaaaW.PrintMore
attribute [local go_sem] max2_int min2_int max_two min_two max_three min_three max_four min_four   -- for this text's walks alone
set_option linter.unusedVariables false
set_option linter.unusedSimpArgs false

mutual
def spec_l91Part.j0 : Nat → List Int → Int → List Int → Int → Option (Bool × List Int × Int)
 | 0, _, _, _, _ => none
 | k + 1, x4, x5, x1000, x1001 => spec_l91Part.l0 k x4 x5 0 x1000 x1001
def spec_l91Part.l0 : Nat → List Int → Int → Int → List Int → Int → Option (Bool × List Int × Int)
 | 0, _, _, _, _, _ => none
 | k + 1, x4, x5, x6, x1000, x1001 => if x6 < x5 then ((spec_l6Rd_pick.f k x1000 x1001 256).bind fun bt360 => ((some (([1, 2, 3, bt360.1] : List Int) : List Int)).bind fun y362 => ((spec_l6Rd_pick.f k x1000 bt360.2 4).bind fun bt365 => (if 0 ≤ bt365.1 then (if bt365.1 < (y362.length : Int) then (if x4.length < 17592186044416 then (spec_l91Part.l0 k (x4 ++ [rd y362 bt365.1]) x5 (wrap64 (x6 + 1)) x1000 bt365.2) else (none)) else (none)) else (none))))) else (some (true, x4, x1001))
end
def spec_l91Part.f (k : Nat) (s0_0 : List Int) (s0_1 : Int) : Option (Bool × List Int × Int) := (spec_l6Rd_pick.f k s0_0 s0_1 4).bind fun bt348 => (if bt348.1 = 0 then (some (false, (([] : List Int)), bt348.2)) else ((some (([] : List Int) : List Int)).bind fun y353 => ((spec_l6Rd_pick.f k s0_0 bt348.2 5).bind fun bt356 => ((spec_l6Rd_pick.f k s0_0 bt356.2 12).bind fun bt358 => (if bt358.1 = 0 then (spec_l91Part.j0 k y353 12 s0_0 bt358.2) else (spec_l91Part.j0 k y353 bt356.1 s0_0 bt358.2))))))
set_option maxHeartbeats 8000000 in
set_option maxRecDepth 100000 in
theorem spec_l91Part.calls (k : Nat) (g : Nat) (s0_0 : List Int) (s0_1 : Int) (r1 : Bool) (r2 : List Int) (r3 : Int) (w0 w : World) (hI : IsS81 w0 w g s0_0 s0_1) (hB : Below w0.heap.size w0 w) (h : spec_l91Part.f k s0_0 s0_1 = some (r1, r2, r3)) :
  Calls Try.prog 64 #[.pointer (some ⟨g, 0, none⟩)] w fun e w' => ∃ v1_ : Value, e = .returned (.tuple #[.bool r1, v1_]) ∧ Kd.R (Kd.int .i64) 3 w' w.heap.size (fun _ => True) v1_ r2 ∧ IsS81 w0 w' g s0_0 r3 ∧ Below w0.heap.size w0 w' ∧ KeepBut w w' g none := by
 have HI0 := Aside0.mk hI
 have HK := Aside0.mk (KeepBut.refl w g none)
 have HL := Aside0.mk hB.size
 clear hI
 have HW0 := Aside0.mk hB.size
 have HB := Aside0.mk hB
 clear hB
 have H : ((spec_l6Rd_pick.f k s0_0 s0_1 4).bind fun bt348 => (if bt348.1 = 0 then (some (false, (([] : List Int)), bt348.2)) else ((some (([] : List Int) : List Int)).bind fun y353 => ((spec_l6Rd_pick.f k s0_0 bt348.2 5).bind fun bt356 => ((spec_l6Rd_pick.f k s0_0 bt356.2 12).bind fun bt358 => (if bt358.1 = 0 then (spec_l91Part.j0 k y353 12 s0_0 bt358.2) else (spec_l91Part.j0 k y353 bt356.1 s0_0 bt358.2))))))) = some (r1, r2, r3) := h
 clear h
 replace H := tbe H
 obtain ⟨⟨t348, t349⟩, A2, H⟩ := H
 dsimp only at H
 by_cases c3 : t348 = 0
 ·rw [if_pos c3] at H
  have c3b0 : (t348 == 0) = true := beq_iff_eq.mpr c3
  have c3b1 : (t348 != 0) = false := bne_eq_false_iff_eq.mpr c3
  clear c3
  obtain ⟨y350, hy350⟩ : ∃ y_ : List Int, y_ = (([] : List Int)) := ⟨_, rfl⟩
  replace H : (some (false, y350, t349)) = some (r1, r2, r3) := by first | (rw [hy350]; with_reducible exact H) | (have H2_ := (Option.bind_some _ _).symm.trans H; rw [hy350]; with_reducible exact H2_) | (have H2_ := (Option.bind_some _ _).symm.trans H; with_reducible exact H2_) | with_reducible exact H | (rw [hy350]; exact H) | exact H
  have Ny350 := Aside0.mk hy350
  clear hy350
  simp only [Option.some.injEq, Prod.mk.injEq] at H
  obtain ⟨rfl, rfl, rfl⟩ := H
  go_enter Try.func64, Try.ntmps64
  go_wp2_with (first | ((with_reducible refine gate_callee (f := 27) rfl ?_); refine goesL_ (some 8) rfl rfl Try.func27 (by kernel_rfl) rfl #[.pointer (some ⟨g, 0, none⟩), .int .i64 4] rfl tq ?_; (with_reducible refine (spec_l6Rd_pick.calls k g s0_0 s0_1 4 t348 t349 w0 _ ?side1 ?side2 A2.out).mono ?_); (case side1 => exact zi81); (case side2 => exact zb); rintro e w4 ⟨rfl, hi, hb, hk⟩; refine ⟨_, rfl, ?_⟩; replace HK := tKt HK hk; replace HB := Aside0.mk (hb); replace HI0 := Aside0.mk (hi); (try clear hb); (try clear hb2); (try clear hk); (try clear hi)) | ((with_reducible refine gate_dst (N := 10) rfl ?_); refine Kd.R_lit (Kd.int .i64) _ 3 ?hg (N := 10) ?hd (xs := ([] : List Int)) (inner := []) (ok := fun _ => True) (okp := fun _ => True) ?hr ?hp (fun _ hk => hk) trivial (Below.refl _ _) (Nat.le_refl _) (by simp) ?_; (case hd => rfl); (case hg => rfl); (case hr => first | (go_simp; done) | (go_simp; rfl)); (case hp => exact (Reps.none _ _)); intro v351 w5 ho6 hb hg_ hnew_; clear hg_ hnew_; (first | rw [← Ny350.out] at ho6 | (simp only [Int.reduceToNat] at ho6; rw [← Ny350.out] at ho6)); have HO352 := Aside0.mk (Kd.R_lower ho6 (keep_size (w := w) (g := g) (row := none) zk)); replace HI0 := tIb81 HI0 hb; replace HK := tKb HK hb; replace HB := tBs HB hb; clear hb ho6))
  go_ret2
  exact ⟨_, by first | rfl | (simp [errW_none, errW_some] <;> rfl) | (simp [*, errW_none, errW_some] <;> rfl), tR HO352.out, zi81, zb, zk⟩
 ·rw [if_neg c3] at H
  have c3b0 : (t348 == 0) = false := beq_eq_false_iff_ne.mpr c3
  have c3b1 : (t348 != 0) = true := bne_iff_ne.mpr c3
  obtain ⟨y353, hy353⟩ : ∃ y_ : List Int, y_ = (([] : List Int)) := ⟨_, rfl⟩
  replace H : ((spec_l6Rd_pick.f k s0_0 t349 5).bind fun bt356 => ((spec_l6Rd_pick.f k s0_0 bt356.2 12).bind fun bt358 => (if bt358.1 = 0 then (spec_l91Part.j0 k y353 12 s0_0 bt358.2) else (spec_l91Part.j0 k y353 bt356.1 s0_0 bt358.2)))) = some (r1, r2, r3) := by first | (rw [hy353]; with_reducible exact H) | (have H2_ := (Option.bind_some _ _).symm.trans H; rw [hy353]; with_reducible exact H2_) | (have H2_ := (Option.bind_some _ _).symm.trans H; with_reducible exact H2_) | with_reducible exact H | (rw [hy353]; exact H) | exact H
  have Ny353 := Aside0.mk hy353
  clear hy353
  replace H := tbe H
  obtain ⟨⟨t356, t357⟩, A7, H⟩ := H
  dsimp only at H
  replace H := tbe H
  obtain ⟨⟨t358, t359⟩, A8, H⟩ := H
  dsimp only at H
  have HC9 := Aside0.mk H
  clear H
  go_enter Try.func64, Try.ntmps64
  go_upto_if 16 with (first | ((with_reducible refine gate_callee (f := 27) rfl ?_); refine goesL_ (some 8) rfl rfl Try.func27 (by kernel_rfl) rfl #[.pointer (some ⟨g, 0, none⟩), .int .i64 4] rfl tq ?_; (with_reducible refine (spec_l6Rd_pick.calls k g s0_0 s0_1 4 t348 t349 w0 _ ?side1 ?side2 A2.out).mono ?_); (case side1 => exact zi81); (case side2 => exact zb); rintro e w10 ⟨rfl, hi, hb, hk⟩; refine ⟨_, rfl, ?_⟩; replace HK := tKt HK hk; replace HB := Aside0.mk (hb); replace HI0 := Aside0.mk (hi); (try clear hb); (try clear hb2); (try clear hk); (try clear hi)) | ((with_reducible refine gate_dst (N := 11) rfl ?_); refine Kd.R_lit (Kd.int .i64) _ 3 ?hg (N := 11) ?hd (xs := ([] : List Int)) (inner := []) (ok := fun _ => True) (okp := fun _ => True) ?hr ?hp (fun _ hk => hk) trivial (Below.refl _ _) (Nat.le_refl _) (by simp) ?_; (case hd => rfl); (case hg => rfl); (case hr => first | (go_simp; done) | (go_simp; rfl)); (case hp => exact (Reps.none _ _)); intro v354 w11 ho12 hb hg_ hnew_; clear hg_ hnew_; (first | rw [← Ny353.out] at ho12 | (simp only [Int.reduceToNat] at ho12; rw [← Ny353.out] at ho12)); have HO355 := Aside0.mk (Kd.R_lower ho12 (keep_size (w := w) (g := g) (row := none) zk)); replace HI0 := tIb81 HI0 hb; replace HK := tKb HK hb; replace HB := tBs HB hb; clear hb ho12) | ((with_reducible refine gate_callee (f := 27) rfl ?_); refine goesL_ (some 13) rfl rfl Try.func27 (by kernel_rfl) rfl #[.pointer (some ⟨g, 0, none⟩), .int .i64 5] rfl tq ?_; (with_reducible refine (spec_l6Rd_pick.calls k g s0_0 t349 5 t356 t357 w0 _ ?side1 ?side2 A7.out).mono ?_); (case side1 => exact zi81); (case side2 => exact zb); rintro e w13 ⟨rfl, hi, hb, hk⟩; refine ⟨_, rfl, ?_⟩; replace HO355 := tRp81 HO355 HI0 hk; replace HK := tKt HK hk; replace HB := Aside0.mk (hb); replace HI0 := Aside0.mk (hi); (try clear hb); (try clear hb2); (try clear hk); (try clear hi)) | ((with_reducible refine gate_callee (f := 27) rfl ?_); refine goesL_ (some 15) rfl rfl Try.func27 (by kernel_rfl) rfl #[.pointer (some ⟨g, 0, none⟩), .int .i64 12] rfl tq ?_; (with_reducible refine (spec_l6Rd_pick.calls k g s0_0 t357 12 t358 t359 w0 _ ?side1 ?side2 A8.out).mono ?_); (case side1 => exact zi81); (case side2 => exact zb); rintro e w14 ⟨rfl, hi, hb, hk⟩; refine ⟨_, rfl, ?_⟩; replace HO355 := tRp81 HO355 HI0 hk; replace HK := tKt HK hk; replace HB := Aside0.mk (hb); replace HI0 := Aside0.mk (hi); (try clear hb); (try clear hb2); (try clear hk); (try clear hi)))
  (try simp only [Act.put, List.setIfInBounds_toArray, List.set_cons_zero, List.set_cons_succ])
  go_cut [5] (fun v5 wc => ∃ (kq : Nat) (x5_8 : Int), v5 = .int .i64 x5_8 ∧ Aside0 (spec_l91Part.j0 kq y353 x5_8 s0_0 t359 = some (r1, r2, r3)) ∧ Aside0 (kq ≤ k) ∧ Aside0 (Kd.R (Kd.int .i64) 3 wc w.heap.size (fun _ => True) v354 y353) ∧ Aside0 (IsS81 w0 wc g s0_0 t359) ∧ Aside0 (KeepBut w wc g none) ∧ Aside0 (Below w0.heap.size w0 wc))
  case first =>
   have H := HC9.out
   clear HC9
   by_cases c15 : t358 = 0
   ·rw [if_pos c15] at H
    have c15b0 : (t358 == 0) = true := beq_iff_eq.mpr c15
    have c15b1 : (t358 != 0) = false := bne_eq_false_iff_eq.mpr c15
    clear c15
    (first | rw [c15b0] | (simp only [i64_w, i32_w]; rw [c15b0]) | skip)
    have H' := Aside0.mk H
    clear H
    go_wp2
    go_meet
    case rel => exact ⟨_, (12), tr, H', ⟨by first | omega | exact Nat.le_refl _⟩, ⟨tR HO355.out⟩, ⟨zi81⟩, ⟨zk⟩, ⟨zb⟩⟩
   ·rw [if_neg c15] at H
    have c15b0 : (t358 == 0) = false := beq_eq_false_iff_ne.mpr c15
    have c15b1 : (t358 != 0) = true := bne_iff_ne.mpr c15
    (first | rw [c15b0] | (simp only [i64_w, i32_w]; rw [c15b0]) | skip)
    have H' := Aside0.mk H
    clear H
    go_wp2
    go_meet
    case rel => exact ⟨_, (t356), tr, H', ⟨by first | omega | exact Nat.le_refl _⟩, ⟨tR HO355.out⟩, ⟨zi81⟩, ⟨zk⟩, ⟨zb⟩⟩
  case rest =>
   clear HC9
   try clear c3; try clear c3b0; try clear c3b1
   obtain ⟨kq, x5_8, rfl, HA, HJ8, HO_4, HI0, HK, HB⟩ := hcut
   cases kq with
   | zero => exact absurd HA.out (by simp [spec_l91Part.j0])
   | succ kj8 =>
    have H := HA.out
    clear HA
    simp only [spec_l91Part.j0] at H
    have H' := Aside0.mk H
    clear H
    go_wp2
    go_loopg [4, 6] kj8 (fun kq v4 v6 w' => ∃ (x4_2 : List Int) (x6_2 : Int) (x1001_2 : Int), v6 = .int .i64 x6_2 ∧ Aside0 (spec_l91Part.l0 kq x4_2 x5_8 x6_2 s0_0 x1001_2 = some (r1, r2, r3)) ∧ Aside0 (kq ≤ kj8) ∧ Aside0 (Kd.R (Kd.int .i64) 3 w' w.heap.size (fun _ => True) v4 x4_2) ∧ Aside0 (IsS81 w0 w' g s0_0 x1001_2) ∧ Aside0 (KeepBut w w' g none) ∧ Aside0 (Below w0.heap.size w0 w'))
    case atStart => exact ⟨(y353), (0), (t359), tr, H', ⟨Nat.le_refl _⟩, ⟨tR HO_4.out⟩, ⟨zi81⟩, ⟨zk⟩, ⟨zb⟩⟩
    case round =>
     clear H'
     try clear c3; try clear c3b0; try clear c3b1
     obtain ⟨x4_2, x6_2, x1001_2, rfl, HA, HK2, HO_4, HI0, HK, HB⟩ := hrel
     cases gk with
     | zero => exact absurd HA.out (by simp [spec_l91Part.l0])
     | succ k2 =>
      have H := HA.out
      clear HA
      simp only [spec_l91Part.l0] at H
      by_cases c16 : x6_2 < x5_8
      ·rw [if_pos c16] at H
       have c16b0 : decide (x6_2 < x5_8) = true := decide_eq_true c16
       clear c16
       replace H := tbe H
       obtain ⟨⟨t360, t361⟩, A17, H⟩ := H
       dsimp only at H
       obtain ⟨y362, hy362⟩ : ∃ y_ : List Int, y_ = (([1, 2, 3, t360] : List Int)) := ⟨_, rfl⟩
       replace H : ((spec_l6Rd_pick.f k2 s0_0 t361 4).bind fun bt365 => (if 0 ≤ bt365.1 then (if bt365.1 < (y362.length : Int) then (if x4_2.length < 17592186044416 then (spec_l91Part.l0 k2 (x4_2 ++ [rd y362 bt365.1]) x5_8 (wrap64 (x6_2 + 1)) s0_0 bt365.2) else (none)) else (none)) else (none))) = some (r1, r2, r3) := by first | (rw [hy362]; with_reducible exact H) | (have H2_ := (Option.bind_some _ _).symm.trans H; rw [hy362]; with_reducible exact H2_) | (have H2_ := (Option.bind_some _ _).symm.trans H; with_reducible exact H2_) | with_reducible exact H | (rw [hy362]; exact H) | exact H
       have Ny362 := Aside0.mk hy362
       clear hy362
       replace H := tbe H
       obtain ⟨⟨t365, t366⟩, A18, H⟩ := H
       dsimp only at H
       by_cases c19 : 0 ≤ t365
       ·rw [if_pos c19] at H
        have c19b0 : decide (0 ≤ t365) = true := decide_eq_true c19
        clear c19
        by_cases c20 : t365 < (y362.length : Int)
        ·rw [if_pos c20] at H
         have c20b0 : decide (t365 < (y362.length : Int)) = true := decide_eq_true c20
         clear c20
         by_cases c21 : x4_2.length < 17592186044416
         ·rw [if_pos c21] at H
          have LMc21 := Aside0.mk c21
          clear c21
          obtain ⟨y368, hy368⟩ : ∃ y_ : List Int, y_ = (x4_2 ++ [rd y362 t365]) := ⟨_, rfl⟩
          replace H : (spec_l91Part.l0 k2 y368 x5_8 (wrap64 (x6_2 + 1)) s0_0 t366) = some (r1, r2, r3) := by first | (rw [hy368]; with_reducible exact H) | (have H2_ := (Option.bind_some _ _).symm.trans H; rw [hy368]; with_reducible exact H2_) | (have H2_ := (Option.bind_some _ _).symm.trans H; with_reducible exact H2_) | with_reducible exact H | (rw [hy368]; exact H) | exact H
          have Ny368 := Aside0.mk hy368
          clear hy368
          have H' := Aside0.mk H
          clear H
          go_wp2_with (first | ((with_reducible refine gate_callee (f := 27) rfl ?_); refine goesL_ (some 24) rfl rfl Try.func27 (by kernel_rfl) rfl #[.pointer (some ⟨g, 0, none⟩), .int .i64 256] rfl tq ?_; (with_reducible refine (spec_l6Rd_pick.calls k2 g s0_0 x1001_2 256 t360 t361 w0 _ ?side1 ?side2 A17.out).mono ?_); (case side1 => exact zi81); (case side2 => exact zb); rintro e w22 ⟨rfl, hi, hb, hk⟩; refine ⟨_, rfl, ?_⟩; replace HO_4 := tRp81 HO_4 HI0 hk; replace HK := tKt HK hk; replace HB := Aside0.mk (hb); replace HI0 := Aside0.mk (hi); (try clear hb); (try clear hb2); (try clear hk); (try clear hi)) | ((with_reducible refine gate_dst (N := 25) rfl ?_); refine Kd.R_lit (Kd.int .i64) _ 3 ?hg (N := 25) ?hd (xs := ([1, 2, 3, t360] : List Int)) (inner := [.int .i64 1, .int .i64 2, .int .i64 3, .int .i64 t360]) (ok := fun _ => True) (okp := fun _ => True) ?hr ?hp (fun _ hk => hk) trivial (Below.refl _ _) (Nat.le_refl _) (by simp) ?_; (case hd => rfl); (case hg => rfl); (case hr => first | (go_simp; done) | (go_simp; rfl)); (case hp => exact (Reps.one (show Kd.M (Kd.int .i64) _ _ _ 1 [.int .i64 1] from rfl) (Reps.one (show Kd.M (Kd.int .i64) _ _ _ 2 [.int .i64 2] from rfl) (Reps.one (show Kd.M (Kd.int .i64) _ _ _ 3 [.int .i64 3] from rfl) (Reps.one (show Kd.M (Kd.int .i64) _ _ _ t360 [.int .i64 t360] from rfl) (Reps.none _ _)))))); intro v363 w23 ho24 hb hg_ hnew_; clear hg_ hnew_; (first | rw [← Ny362.out] at ho24 | (simp only [Int.reduceToNat] at ho24; rw [← Ny362.out] at ho24)); have HO364 := Aside0.mk (Kd.R_lower (Kd.R_new' ho24 (Kd.R_lt (tR HO_4.out))) (keep_size (w := w) (g := g) (row := none) zk)); replace HO_4 := Aside0.mk (Kd.R_elder' (tR HO_4.out) (Kd.R_base ho24) hb); replace HI0 := tIb81 HI0 hb; replace HK := tKb HK hb; replace HB := tBs HB hb; clear hb ho24) | ((with_reducible refine gate_callee (f := 27) rfl ?_); refine goesL_ (some 27) rfl rfl Try.func27 (by kernel_rfl) rfl #[.pointer (some ⟨g, 0, none⟩), .int .i64 4] rfl tq ?_; (with_reducible refine (spec_l6Rd_pick.calls k2 g s0_0 t361 4 t365 t366 w0 _ ?side1 ?side2 A18.out).mono ?_); (case side1 => exact zi81); (case side2 => exact zb); rintro e w25 ⟨rfl, hi, hb, hk⟩; refine ⟨_, rfl, ?_⟩; replace HO_4 := tRp81 HO_4 HI0 hk; replace HO364 := tRp81 HO364 HI0 hk; replace HK := tKt HK hk; replace HB := Aside0.mk (hb); replace HI0 := Aside0.mk (hi); (try clear hb); (try clear hb2); (try clear hk); (try clear hi); obtain ⟨Ao26, co26, eo26⟩ := Kd.R_slice HO364.out; subst eo26; have p367 : 0 ≤ (t365 : Int) := td; have q367 : t365 < (y362.length : Int) := td; obtain ⟨ad367, e367, hx367_0⟩ := Kd.at_int (Kd.R_reads' HO364.out).2.2 t365 p367 q367; cases e367; replace p367 := eq_true p367; replace q367 := eq_true q367) | ((with_reducible refine gate_builtin (b := .append) (xs := #[.tmp 22, .tmp 30]) rfl ?_); at_builtin; refine Kd.R_append (Kd.int .i64) w.heap.size rfl (.tmp 22) (.tmp 30) 76 3 (.int .i64 0) 8 rfl Try.underlying76 info3 rfl (by decide) (by omega) u4 x4_2 (rd y362 t365) [.int .i64 (rd y362 t365)] (fun k_ => some k_ ≠ (.slice (some ad367) y362.length co26 : Value).ownBlock) (fun _ => False) rfl rfl ?aP (fun _ hk => hk.elim) ?aF ?aO (Below.refl _ _) ?aS ?aL ?_; (case aP => exact rfl); (case aF => exact (fun k_ hk => Kd.fresh' (Kd.R_lt (tR HO364.out)) k_ hk)); (case aO => exact (tRm HO_4.out)); (case aS => exact (keep_size (w := w) (g := g) (row := none) zk)); (case aL => have := LMc21.out; omega); intro v369 w27 ho hb hg hat; rw [← Ny368.out] at ho; replace HO364 := Aside0.mk (Kd.R_after (ok := (fun _ => True)) (tR HO364.out) hg hat); replace HB := Aside0.mk (below_weaken zb HL.out hb); replace HI0 := Aside0.mk (IsS81.grown zi81 hg (IsS81.own_ne HI0.out HO_4.out (by decide))); replace HK := Aside0.mk (KeepBut.trans zk (KeepBut.of_grown hg g) (Kd.R_base2 HO_4.out)); have HO370 := Aside0.mk (ho); clear HO_4; clear ho hb hg hat))
          go_roundg k2
          case measure => have := HJ8.out; have := HK2.out; omega
          case rel => exact ⟨(y368), (wrap64 (x6_2 + 1)), (t366), tr, H', ⟨by have := HJ8.out; have := HK2.out; omega⟩, ⟨tRm HO370.out⟩, ⟨zi81⟩, ⟨zk⟩, ⟨zb⟩⟩
         ·rw [if_neg c21] at H
          exact absurd H (by simp)
        ·rw [if_neg c20] at H
         exact absurd H (by simp)
       ·rw [if_neg c19] at H
        exact absurd H (by simp)
      ·rw [if_neg c16] at H
       have c16b0 : decide (x6_2 < x5_8) = false := decide_eq_false c16
       clear c16
       simp only [Option.some.injEq, Prod.mk.injEq] at H
       obtain ⟨rfl, rfl, rfl⟩ := H
       go_wp2
       go_ret2
       exact ⟨_, by first | rfl | (simp [errW_none, errW_some] <;> rfl) | (simp [*, errW_none, errW_some] <;> rfl), tR HO_4.out, zi81, zb, zk⟩

mutual
def spec_l91Records.l0 : Nat → Int → List (S78) → Int → Int → Int → List Int → Int → Option ((List (S78)) × Int)
 | 0, _, _, _, _, _, _, _ => none
 | k + 1, x1, x7, x8, x9, x10, x1000, x1001 => if x10 < x8 then ((spec_l91Part.f k x1000 x1001).bind fun bt379 => ((spec_l91Part.f k x1000 bt379.2.2).bind fun bt384 => (if bt379.1 = true then ((spec_l6Rd_pick.f k x1000 bt384.2.2 2).bind fun bt389 => (spec_l91Records.j1 k x1 x7 x8 x9 x10 bt384.1 bt384.2.1 (bt389.1 == 0) x1000 bt389.2 x1 x9 bt379.1 bt379.2.1 false)) else (spec_l91Records.j1 k x1 x7 x8 x9 x10 bt384.1 bt384.2.1 false x1000 bt384.2.2 x1 x9 bt379.1 bt379.2.1 false)))) else (some (x7, x1001))
def spec_l91Records.j1 : Nat → Int → List (S78) → Int → Int → Int → Bool → List Int → Bool → List Int → Int → Int → Int → Bool → List Int → Bool → Option ((List (S78)) × Int)
 | 0, _, _, _, _, _, _, _, _, _, _, _, _, _, _, _ => none
 | k + 1, x1, x7, x8, x9, x10, x14, x15, x50, x1000, x1001, x379000, x379001, x379002, x379003, x379004 => if x50 = true then ((spec_l6Rd_pick.f k x1000 x1001 3).bind fun bt391 => (if x7.length < 1759218604441 then ((spec_l6Rd_pick.f k x1000 bt391.2 5).bind fun bt399 => ((spec_l6Rd_pick.f k x1000 bt399.2 30).bind fun bt401 => (spec_l91Records.l0 k (wrap64 ((wrap64 (x1 + 1)) + (wrap64 (Int.tdiv bt399.1 4)))) (x7 ++ [(⟨x379000, x379001, x379002, (([bt391.1] : List Int)), x14, x15⟩ : S78)]) x8 (mx (wrap64 ((wrap64 (x9 + bt401.1)) - 6)) 0) (wrap64 (x10 + 1)) x1000 bt401.2))) else (none))) else (if x7.length < 1759218604441 then ((spec_l6Rd_pick.f k x1000 x1001 5).bind fun bt406 => ((spec_l6Rd_pick.f k x1000 bt406.2 30).bind fun bt408 => (spec_l91Records.l0 k (wrap64 ((wrap64 (x1 + 1)) + (wrap64 (Int.tdiv bt406.1 4)))) (x7 ++ [(⟨x379000, x379001, x379002, x379003, x14, x15⟩ : S78)]) x8 (mx (wrap64 ((wrap64 (x9 + bt408.1)) - 6)) 0) (wrap64 (x10 + 1)) x1000 bt408.2))) else (none))
end
def spec_l91Records.f (k : Nat) (s0_0 : List Int) (s0_1 : Int) (a1 : Int) (a2 : Int) : Option ((List (S78)) × Int) := (spec_l6Rd_pick.f k s0_0 s0_1 a2).bind fun bt374 => ((spec_l6Rd_pick.f k s0_0 bt374.2 200).bind fun bt376 => (spec_l91Records.l0 k a1 (([] : List (S78))) (wrap64 (1 + bt374.1)) bt376.1 0 s0_0 bt376.2))
set_option maxHeartbeats 8000000 in
set_option maxRecDepth 100000 in
theorem spec_l91Records.calls (k : Nat) (g : Nat) (s0_0 : List Int) (s0_1 : Int) (a1 : Int) (a2 : Int) (r1 : List (S78)) (r2 : Int) (w0 w : World) (hI : IsS81 w0 w g s0_0 s0_1) (hB : Below w0.heap.size w0 w) (h : spec_l91Records.f k s0_0 s0_1 a1 a2 = some (r1, r2)) :
  Calls Try.prog 53 #[.pointer (some ⟨g, 0, none⟩), .int .i64 a1, .int .i64 a2] w fun e w' => ∃ v0_ : Value, e = .returned (v0_) ∧ Kd.S k78 78 w' w.heap.size (fun _ => True) v0_ r1 ∧ IsS81 w0 w' g s0_0 r2 ∧ Below w0.heap.size w0 w' ∧ KeepBut w w' g none := by
 have hu78 := Try.underlying78
 have HI0 := Aside0.mk hI
 have HK := Aside0.mk (KeepBut.refl w g none)
 have HL := Aside0.mk hB.size
 clear hI
 have HW0 := Aside0.mk hB.size
 have HB := Aside0.mk hB
 clear hB
 have H : ((spec_l6Rd_pick.f k s0_0 s0_1 a2).bind fun bt374 => ((spec_l6Rd_pick.f k s0_0 bt374.2 200).bind fun bt376 => (spec_l91Records.l0 k a1 (([] : List (S78))) (wrap64 (1 + bt374.1)) bt376.1 0 s0_0 bt376.2))) = some (r1, r2) := h
 clear h
 obtain ⟨y371, hy371⟩ : ∃ y_ : List (S78), y_ = (([] : List (S78))) := ⟨_, rfl⟩
 replace H : ((spec_l6Rd_pick.f k s0_0 s0_1 a2).bind fun bt374 => ((spec_l6Rd_pick.f k s0_0 bt374.2 200).bind fun bt376 => (spec_l91Records.l0 k a1 y371 (wrap64 (1 + bt374.1)) bt376.1 0 s0_0 bt376.2))) = some (r1, r2) := by first | (rw [hy371]; with_reducible exact H) | (have H2_ := (Option.bind_some _ _).symm.trans H; rw [hy371]; with_reducible exact H2_) | (have H2_ := (Option.bind_some _ _).symm.trans H; with_reducible exact H2_) | with_reducible exact H | (rw [hy371]; exact H) | exact H
 have Ny371 := Aside0.mk hy371
 clear hy371
 replace H := tbe H
 obtain ⟨⟨t374, t375⟩, A4, H⟩ := H
 dsimp only at H
 replace H := tbe H
 obtain ⟨⟨t376, t377⟩, A5, H⟩ := H
 dsimp only at H
 have H' := Aside0.mk H
 clear H
 go_enter Try.func53, Try.ntmps53
 go_wp2_with (first | ((with_reducible refine gate_dst (N := 16) rfl ?_); refine Kd.S_lit k78 _ 78 ?hg (N := 16) ?hd (xs := ([] : List (S78))) (inner := []) (ok := fun _ => True) (okp := fun _ => True) ?hr ?hp (fun _ hk => hk) trivial (Below.refl _ _) (Nat.le_refl _) (by simp) ?_; (case hd => rfl); (case hg => rfl); (case hr => first | (go_simp; done) | (go_simp; rfl)); (case hp => exact (Reps.none _ _)); intro v372 w6 ho7 hb hg_ hnew_; clear hg_ hnew_; (first | rw [← Ny371.out] at ho7 | (simp only [Int.reduceToNat] at ho7; rw [← Ny371.out] at ho7)); have HO373 := Aside0.mk (Kd.S_lower ho7 (keep_size (w := w) (g := g) (row := none) zk)); replace HI0 := tIb81 HI0 hb; replace HK := tKb HK hb; replace HB := tBs HB hb; clear hb ho7) | ((with_reducible refine gate_callee (f := 27) rfl ?_); refine goesL_ (some 19) rfl rfl Try.func27 (by kernel_rfl) rfl #[.pointer (some ⟨g, 0, none⟩), .int .i64 a2] rfl tq ?_; (with_reducible refine (spec_l6Rd_pick.calls k g s0_0 s0_1 a2 t374 t375 w0 _ ?side1 ?side2 A4.out).mono ?_); (case side1 => exact zi81); (case side2 => exact zb); rintro e w8 ⟨rfl, hi, hb, hk⟩; refine ⟨_, rfl, ?_⟩; replace HO373 := tSp81 HO373 HI0 hk; replace HK := tKt HK hk; replace HB := Aside0.mk (hb); replace HI0 := Aside0.mk (hi); (try clear hb); (try clear hb2); (try clear hk); (try clear hi)) | ((with_reducible refine gate_callee (f := 27) rfl ?_); refine goesL_ (some 22) rfl rfl Try.func27 (by kernel_rfl) rfl #[.pointer (some ⟨g, 0, none⟩), .int .i64 200] rfl tq ?_; (with_reducible refine (spec_l6Rd_pick.calls k g s0_0 t375 200 t376 t377 w0 _ ?side1 ?side2 A5.out).mono ?_); (case side1 => exact zi81); (case side2 => exact zb); rintro e w9 ⟨rfl, hi, hb, hk⟩; refine ⟨_, rfl, ?_⟩; replace HO373 := tSp81 HO373 HI0 hk; replace HK := tKt HK hk; replace HB := Aside0.mk (hb); replace HI0 := Aside0.mk (hi); (try clear hb); (try clear hb2); (try clear hk); (try clear hi)))
 go_loopg [1, 7, 9, 10] k (fun kq v1 v7 v9 v10 w' => ∃ (x1_1 : Int) (x7_1 : List (S78)) (x9_1 : Int) (x10_1 : Int) (x1001_1 : Int), v1 = .int .i64 x1_1 ∧ v9 = .int .i64 x9_1 ∧ v10 = .int .i64 x10_1 ∧ Aside0 (spec_l91Records.l0 kq x1_1 x7_1 (wrap64 (1 + t374)) x9_1 x10_1 s0_0 x1001_1 = some (r1, r2)) ∧ Aside0 (kq ≤ k) ∧ Aside0 (Kd.S k78 78 w' w.heap.size (fun _ => True) v7 x7_1) ∧ Aside0 (IsS81 w0 w' g s0_0 x1001_1) ∧ Aside0 (KeepBut w w' g none) ∧ Aside0 (Below w0.heap.size w0 w'))
 case atStart => exact ⟨(a1), (y371), (t376), (0), (t377), tr, tr, tr, H', ⟨Nat.le_refl _⟩, ⟨tS HO373.out⟩, ⟨zi81⟩, ⟨zk⟩, ⟨zb⟩⟩
 case round =>
  clear H'
  obtain ⟨x1_1, x7_1, x9_1, x10_1, x1001_1, rfl, rfl, rfl, HA, HK1, HO_7, HI0, HK, HB⟩ := hrel
  cases gk with
  | zero => exact absurd HA.out (by simp [spec_l91Records.l0])
  | succ k1 =>
   have H := HA.out
   clear HA
   simp only [spec_l91Records.l0] at H
   by_cases c10 : x10_1 < (wrap64 (1 + t374))
   ·rw [if_pos c10] at H
    have c10b0 : decide (x10_1 < (wrap64 (1 + t374))) = true := decide_eq_true c10
    clear c10
    replace H := tbe H
    obtain ⟨⟨t379, t380, t383⟩, A11, H⟩ := H
    dsimp only at H
    replace H := tbe H
    obtain ⟨⟨t384, t385, t388⟩, A12, H⟩ := H
    dsimp only at H
    have HC13 := Aside0.mk H
    clear H
    go_upto_region 12 with (first | ((with_reducible refine gate_dst (N := 11) rfl ?_); refine box_event ?hg (N := 11) ?hd (cs := #[.int .i64 0, .int .i64 0, .bool false, .slice none 0 0, .bool false, .slice none 0 0]) (t := 78) ?hr ?_; (case hd => rfl); (case hg => rfl); (case hr => first | (go_simp; done) | (go_simp; rfl)); intro gb378 hg w14 hbox hb; replace HO_7 := tSB HO_7 hg hb; replace HB := tBs HB hb; have BK378 := Aside0.mk (hbox); have GW378 := Aside0.mk ((by rw [hg]; exact (keep_size (w := w) (g := g) (row := none) zk) : w.heap.size ≤ gb378)); have GE378 := Aside0.mk ((Nat.le_trans HW0.out (by rw [hg]; exact (keep_size (w := w) (g := g) (row := none) zk) : w.heap.size ≤ gb378) : w0.heap.size ≤ gb378)); replace HK := tKb HK hb; have NB0_378 := Aside0.mk ((by rw [hg]; exact Nat.ne_of_lt (IsS81.lt (show IsS81 w0 _ g s0_0 x1001_1 from zi81)) : g ≠ gb378)); have NB378_0 := Aside0.mk ((by rw [hg]; exact Nat.ne_of_gt (IsS81.lt (show IsS81 w0 _ g s0_0 x1001_1 from zi81)) : gb378 ≠ g)); replace HI0 := tIb81 HI0 hb; clear hb hbox hg; have hnb15 := NB378_0.out; have hnc15 := NB0_378.out; obtain ⟨hcz16_0, hcz16_1, hcz16_2, hcz16_3, hcz16_4, hcz16_5, hfz16_0, hfz16_1, hfz16_2, hfz16_3, hfz16_4, hfz16_5⟩ := cells6 BK378.out) | ((with_reducible refine gate_callee (f := 64) rfl ?_); refine goesL_ (some 33) rfl rfl Try.func64 (by kernel_rfl) rfl #[.pointer (some ⟨g, 0, none⟩)] rfl tq ?_; (with_reducible refine (spec_l91Part.calls k1 g s0_0 x1001_1 t379 t380 t383 w0 _ ?side1 ?side2 A11.out).mono ?_); (case side1 => exact zi81); (case side2 => exact zb); rintro e w17 ⟨v381, rfl, ho0, hi, hb, hk⟩; have u_v381 := tsv Try.prog v381 ho0; refine ⟨_, rfl, ?_⟩; replace HO_7 := Aside0.mk (Kd.S_mono (Kd.S_told (Kd.S_oldK (IsS81.apartS (show IsS81 w0 _ g s0_0 x1001_1 from zi81) (tS HO_7.out) (by decide)) hk) (Kd.R_base ho0)) (fun _ h_ => h_.1)); replace BK378 := tBq (o' := .cells #[.int .i64 x1_1, .int .i64 x9_1, .bool false, .slice none 0 0, .bool false, .slice none 0 0] 78 (0, 0)) BK378 hk NB378_0; have HO382 := Aside0.mk (Kd.R_lower ho0 (keep_size (w := w) (g := g) (row := none) zk)); replace HK := tKt HK hk; replace HB := Aside0.mk (hb); replace HI0 := Aside0.mk (hi); (try clear hb); (try clear hb2); (try clear hk); (try clear hi); (try clear ho0)) | ((with_reducible refine gate_callee (f := 64) rfl ?_); refine goesL_ (some 38) rfl rfl Try.func64 (by kernel_rfl) rfl #[.pointer (some ⟨g, 0, none⟩)] rfl tq ?_; (with_reducible refine (spec_l91Part.calls k1 g s0_0 t383 t384 t385 t388 w0 _ ?side1 ?side2 A12.out).mono ?_); (case side1 => exact zi81); (case side2 => exact zb); rintro e w18 ⟨v386, rfl, ho0, hi, hb, hk⟩; have u_v386 := tsv Try.prog v386 ho0; refine ⟨_, rfl, ?_⟩; replace HO_7 := Aside0.mk (Kd.S_mono (Kd.S_told (Kd.S_oldK (IsS81.apartS (show IsS81 w0 _ g s0_0 t383 from zi81) (tS HO_7.out) (by decide)) hk) (Kd.R_base ho0)) (fun _ h_ => h_.1)); replace BK378 := tBk BK378 hk NB378_0; have HO387 := Aside0.mk (Kd.R_lower (Kd.R_new' ho0 (Kd.R_lt (tR HO382.out))) (keep_size (w := w) (g := g) (row := none) zk)); replace HO382 := Aside0.mk (Kd.R_mono (Kd.R_told (Kd.R_oldK (IsS81.apart (show IsS81 w0 _ g s0_0 t383 from zi81) (tR HO382.out) (by decide)) hk) (Kd.R_base ho0)) (fun _ h_ => h_.1)); replace HK := tKt HK hk; replace HB := Aside0.mk (hb); replace HI0 := Aside0.mk (hi); (try clear hb); (try clear hb2); (try clear hk); (try clear hi); (try clear ho0); obtain ⟨hcz19_0, hcz19_1, hcz19_2, hcz19_3, hcz19_4, hcz19_5, hfz19_0, hfz19_1, hfz19_2, hfz19_3, hfz19_4, hfz19_5⟩ := cells6 BK378.out; obtain ⟨Ao20, co20, eo20⟩ := Kd.R_slice HO382.out; subst eo20))
    (try simp only [Act.put, List.setIfInBounds_toArray, List.set_cons_zero, List.set_cons_succ])
    go_cut [50] (fun v50 wc => ∃ (kq : Nat) (x50_12 : Bool) (x1001_12 : Int), v50 = .bool x50_12 ∧ Aside0 (spec_l91Records.j1 kq x1_1 x7_1 (wrap64 (1 + t374)) x9_1 x10_1 t384 t385 x50_12 s0_0 x1001_12 x1_1 x9_1 t379 t380 false = some (r1, r2)) ∧ Aside0 (kq ≤ k1) ∧ Aside0 (Kd.S k78 78 wc w.heap.size (fun k_ => some k_ ≠ (v386 : Value).ownBlock ∧ some k_ ≠ ((.slice Ao20 t380.length co20) : Value).ownBlock ∧ k_ ≠ gb378) u7 x7_1) ∧ Aside0 (Kd.R (Kd.int .i64) 3 wc w.heap.size (fun k_ => some k_ ≠ ((.slice Ao20 t380.length co20) : Value).ownBlock) v386 t385) ∧ Aside0 (Kd.R (Kd.int .i64) 3 wc w.heap.size (fun k_ => some k_ ≠ (v386 : Value).ownBlock) (.slice Ao20 t380.length co20) t380) ∧ Aside0 (wc.heap[gb378]? = some (.cells #[.int .i64 x1_1, .int .i64 x9_1, .bool t379, (.slice Ao20 t380.length co20), .bool false, (.slice none 0 0)] 78 (0, 0))) ∧ Aside0 (IsS81 w0 wc g s0_0 x1001_12) ∧ Aside0 (KeepBut w wc g none) ∧ Aside0 (Below w0.heap.size w0 wc))
    case first =>
     have H := HC13.out
     clear HC13
     by_cases c21 : t379 = true
     ·subst c21
      rw [if_pos rfl] at H
      replace H := tbe H
      obtain ⟨⟨t389, t390⟩, A22, H⟩ := H
      dsimp only at H
      have H' := Aside0.mk H
      clear H
      go_wp2_with (first | (go_at_call 27; (with_reducible refine (spec_l6Rd_pick.calls k1 g s0_0 t388 2 t389 t390 w0 _ ?side1 ?side2 A22.out).mono ?_); (case side1 => exact zi81); (case side2 => exact zb); rintro e w23 ⟨rfl, hi, hb, hk⟩; replace HO_7 := tSp81 HO_7 HI0 hk; replace HO382 := Aside0.mk (Kd.R_mono (Kd.R_keep (IsS81.apart (show IsS81 w0 _ g s0_0 t388 from zi81) (tRt HO382.out BK378.out) (by decide)) hk (fun _ h => h.2)) (fun _ h => h.1)); replace HO387 := Aside0.mk (Kd.R_mono (Kd.R_keep (IsS81.apart (show IsS81 w0 _ g s0_0 t388 from zi81) (tRt HO387.out BK378.out) (by decide)) hk (fun _ h => h.2)) (fun _ h => h.1)); replace BK378 := tBq (o' := .cells #[.int .i64 x1_1, .int .i64 x9_1, .bool true, .slice Ao20 t380.length co20, .bool false, .slice none 0 0] 78 (0, 0)) BK378 hk NB378_0; replace HK := tKt HK hk; replace HB := Aside0.mk (hb); replace HI0 := Aside0.mk (hi); (try clear hb); (try clear hb2); (try clear hk); (try clear hi)))
      go_meet
      case rel => exact ⟨_, ((t389 == 0)), (t390), tr, H', ⟨by have := HK1.out; first | omega | exact Nat.le_refl _⟩, ⟨tSm HO_7.out⟩, ⟨tRm HO387.out⟩, ⟨tRm HO382.out⟩, ⟨tH BK378.out⟩, ⟨zi81⟩, ⟨zk⟩, ⟨zb⟩⟩
     ·replace c21 := Bool.eq_false_iff.mpr c21
      subst c21
      rw [if_neg (show ¬ (false = true) by decide)] at H
      have H' := Aside0.mk H
      clear H
      go_wp2
      go_meet
      case rel => exact ⟨_, (false), (t388), tr, H', ⟨by have := HK1.out; first | omega | exact Nat.le_refl _⟩, ⟨tSm HO_7.out⟩, ⟨tRm (Kd.R_types HO387.out BK378.out (by decide))⟩, ⟨tRm (Kd.R_types HO382.out BK378.out (by decide))⟩, ⟨tP BK378.out⟩, ⟨zi81⟩, ⟨zk⟩, ⟨zb⟩⟩
    case rest =>
     clear HC13
     try clear c10; try clear c10b0; try clear hcz16_0; try clear hcz16_1; try clear hcz16_2; try clear hcz16_3; try clear hcz16_4; try clear hcz16_5; try clear hcz19_0; try clear hcz19_1; try clear hcz19_2; try clear hcz19_3; try clear hcz19_4; try clear hcz19_5; try clear hfz16_0; try clear hfz16_1; try clear hfz16_2; try clear hfz16_3; try clear hfz16_4; try clear hfz16_5; try clear hfz19_0; try clear hfz19_1; try clear hfz19_2; try clear hfz19_3; try clear hfz19_4; try clear hfz19_5
     obtain ⟨kq, x50_12, x1001_12, rfl, HA, HJ12, HO_7, HO_15, HO_379003, BK378, HI0, HK, HB⟩ := hcut
     cases kq with
     | zero => exact absurd HA.out (by simp [spec_l91Records.j1])
     | succ kj12 =>
      have H := HA.out
      clear HA
      simp only [spec_l91Records.j1] at H
      by_cases c24 : x50_12 = true
      ·subst c24
       rw [if_pos rfl] at H
       replace H := tbe H
       obtain ⟨⟨t391, t392⟩, A25, H⟩ := H
       dsimp only at H
       obtain ⟨y393, hy393⟩ : ∃ y_ : List Int, y_ = (([t391] : List Int)) := ⟨_, rfl⟩
       replace H : (if x7_1.length < 1759218604441 then ((spec_l6Rd_pick.f kj12 s0_0 t392 5).bind fun bt399 => ((spec_l6Rd_pick.f kj12 s0_0 bt399.2 30).bind fun bt401 => (spec_l91Records.l0 kj12 (wrap64 ((wrap64 (x1_1 + 1)) + (wrap64 (Int.tdiv bt399.1 4)))) (x7_1 ++ [(⟨x1_1, x9_1, t379, y393, t384, t385⟩ : S78)]) (wrap64 (1 + t374)) (mx (wrap64 ((wrap64 (x9_1 + bt401.1)) - 6)) 0) (wrap64 (x10_1 + 1)) s0_0 bt401.2))) else (none)) = some (r1, r2) := by first | (rw [hy393]; with_reducible exact H) | (have H2_ := (Option.bind_some _ _).symm.trans H; rw [hy393]; with_reducible exact H2_) | (have H2_ := (Option.bind_some _ _).symm.trans H; with_reducible exact H2_) | with_reducible exact H | (rw [hy393]; exact H) | exact H
       have Ny393 := Aside0.mk hy393
       clear hy393
       by_cases c26 : x7_1.length < 1759218604441
       ·rw [if_pos c26] at H
        have LMc26 := Aside0.mk c26
        clear c26
        obtain ⟨y396, hy396⟩ : ∃ y_ : List (S78), y_ = (x7_1 ++ [(⟨x1_1, x9_1, t379, y393, t384, t385⟩ : S78)]) := ⟨_, rfl⟩
        replace H : ((spec_l6Rd_pick.f kj12 s0_0 t392 5).bind fun bt399 => ((spec_l6Rd_pick.f kj12 s0_0 bt399.2 30).bind fun bt401 => (spec_l91Records.l0 kj12 (wrap64 ((wrap64 (x1_1 + 1)) + (wrap64 (Int.tdiv bt399.1 4)))) y396 (wrap64 (1 + t374)) (mx (wrap64 ((wrap64 (x9_1 + bt401.1)) - 6)) 0) (wrap64 (x10_1 + 1)) s0_0 bt401.2))) = some (r1, r2) := by first | (rw [hy396]; with_reducible exact H) | (have H2_ := (Option.bind_some _ _).symm.trans H; rw [hy396]; with_reducible exact H2_) | (have H2_ := (Option.bind_some _ _).symm.trans H; with_reducible exact H2_) | with_reducible exact H | (rw [hy396]; exact H) | exact H
        have Ny396 := Aside0.mk hy396
        clear hy396
        replace H := tbe H
        obtain ⟨⟨t399, t400⟩, A27, H⟩ := H
        dsimp only at H
        replace H := tbe H
        obtain ⟨⟨t401, t402⟩, A28, H⟩ := H
        dsimp only at H
        obtain ⟨ji29, hji29⟩ : ∃ j_ : Int, (mx (wrap64 ((wrap64 (x9_1 + t401)) - 6)) 0) = j_ := ⟨_, rfl⟩
        replace H : (spec_l91Records.l0 kj12 (wrap64 ((wrap64 (x1_1 + 1)) + (wrap64 (Int.tdiv t399 4)))) y396 (wrap64 (1 + t374)) ji29 (wrap64 (x10_1 + 1)) s0_0 t402) = some (r1, r2) := by first | (rw [hji29] at H; exact H) | (simp only [hji29] at H ⊢; exact H)
        (try rw [hji29] at A25)
        (try rw [hji29] at A27)
        (try rw [hji29] at A28)
        have hji29_ : (if (wrap64 ((wrap64 (x9_1 + t401)) - 6)) < 0 then 0 else (wrap64 ((wrap64 (x9_1 + t401)) - 6))) = ji29 := hji29
        have H' := Aside0.mk H
        clear H
        go_wp2_with (first | ((with_reducible refine gate_callee (f := 27) rfl ?_); refine goesL_ (some 52) rfl rfl Try.func27 (by kernel_rfl) rfl #[.pointer (some ⟨g, 0, none⟩), .int .i64 3] rfl tq ?_; (with_reducible refine (spec_l6Rd_pick.calls kj12 g s0_0 x1001_12 3 t391 t392 w0 _ ?side1 ?side2 A25.out).mono ?_); (case side1 => exact zi81); (case side2 => exact zb); rintro e w30 ⟨rfl, hi, hb, hk⟩; refine ⟨_, rfl, ?_⟩; replace HO_7 := tSp81 HO_7 HI0 hk; replace HO_15 := tRp81 HO_15 HI0 hk; replace HO_379003 := tRp81 HO_379003 HI0 hk; replace BK378 := tBk BK378 hk NB378_0; replace HK := tKt HK hk; replace HB := Aside0.mk (hb); replace HI0 := Aside0.mk (hi); (try clear hb); (try clear hb2); (try clear hk); (try clear hi)) | ((with_reducible refine gate_dst (N := 53) rfl ?_); refine Kd.R_lit (Kd.int .i64) _ 3 ?hg (N := 53) ?hd (xs := ([t391] : List Int)) (inner := [.int .i64 t391]) (ok := fun _ => True) (okp := fun _ => True) ?hr ?hp (fun _ hk => hk) trivial (Below.refl _ _) (Nat.le_refl _) (by simp) ?_; (case hd => rfl); (case hg => rfl); (case hr => first | (go_simp; done) | (go_simp; rfl)); (case hp => exact (Reps.one (show Kd.M (Kd.int .i64) _ _ _ t391 [.int .i64 t391] from rfl) (Reps.none _ _))); intro v394 w31 ho32 hb hg_ hnew_; clear hg_ hnew_; (first | rw [← Ny393.out] at ho32 | (simp only [Int.reduceToNat] at ho32; rw [← Ny393.out] at ho32)); replace HO_7 := Aside0.mk (Kd.S_elder' (tS HO_7.out) (Kd.R_base ho32) hb); have HO395 := Aside0.mk (Kd.R_lower (Kd.R_new' (Kd.R_new' ho32 (Kd.R_lt (tR HO_15.out))) (Kd.R_lt (tR HO_379003.out))) (keep_size (w := w) (g := g) (row := none) zk)); replace HO_15 := Aside0.mk (Kd.R_elder' (tR HO_15.out) (Kd.R_base ho32) hb); replace HO_379003 := Aside0.mk (Kd.R_elder' (tR HO_379003.out) (Kd.R_base ho32) hb); replace BK378 := tBb BK378 hb; replace HI0 := tIb81 HI0 hb; replace HK := tKb HK hb; replace HB := tBs HB hb; clear hb ho32; obtain ⟨Ao33, co33, eo33⟩ := Kd.R_slice HO395.out; subst eo33; have hnb34 := NB378_0.out; have hnc34 := NB0_378.out; obtain ⟨hcz35_0, hcz35_1, hcz35_2, hcz35_3, hcz35_4, hcz35_5, hfz35_0, hfz35_1, hfz35_2, hfz35_3, hfz35_4, hfz35_5⟩ := cells6 BK378.out) | ((with_reducible refine gate_store (t := 76) (p := 54) rfl ?_); refine store_event (t := 76) (p := 54) (v := ?vo_w36) (w1 := (w31.setCell ⟨gb378, 3, none⟩ (.slice Ao33 y393.length co33))) ?hg ?ho ?hn ?hr ?_; (case ho => rfl); (case hg => rfl); (case hn => rfl); (case hr => first | (go_simp; done) | (go_simp; rfl)); intro w36 hw; have n0_ : Aside0 (Kd.S k78 78 w36 w.heap.size (fun k_ => some k_ ≠ (v386 : Value).ownBlock ∧ some k_ ≠ (.slice Ao20 t380.length co20 : Value).ownBlock ∧ some k_ ≠ (.slice Ao33 y393.length co33 : Value).ownBlock ∧ k_ ≠ gb378) u7 x7_1) := ⟨(by rw [hw]; exact (tSm HO_7.out))⟩; have n1_ : Aside0 (Kd.R (Kd.int .i64) 3 w36 w.heap.size (fun k_ => some k_ ≠ (.slice Ao20 t380.length co20 : Value).ownBlock ∧ some k_ ≠ (.slice Ao33 y393.length co33 : Value).ownBlock) v386 t385) := ⟨(by rw [hw]; exact (tRm (Kd.R_types HO_15.out BK378.out (by decide))))⟩; have n2_ : Aside0 (Kd.R (Kd.int .i64) 3 w36 w.heap.size (fun k_ => some k_ ≠ (v386 : Value).ownBlock ∧ some k_ ≠ (.slice Ao33 y393.length co33 : Value).ownBlock) (.slice Ao20 t380.length co20) t380) := ⟨(by rw [hw]; exact (tRm (Kd.R_types HO_379003.out BK378.out (by decide))))⟩; have n3_ : Aside0 (Kd.R (Kd.int .i64) 3 w36 w.heap.size (fun k_ => some k_ ≠ (v386 : Value).ownBlock ∧ some k_ ≠ (.slice Ao20 t380.length co20 : Value).ownBlock) (.slice Ao33 y393.length co33) y393) := ⟨(by rw [hw]; exact (tRm (Kd.R_types HO395.out BK378.out (by decide))))⟩; have n4_ : Aside0 (w36.heap[gb378]? = some (.cells #[.int .i64 x1_1, .int .i64 x9_1, .bool t379, .slice Ao33 y393.length co33, .bool false, .slice none 0 0] 78 (0, 0))) := ⟨(by rw [hw]; exact (tP BK378.out))⟩; have n5_ : Aside0 (IsS81 w0 w36 g s0_0 t392) := ⟨(by rw [hw]; exact zi81)⟩; have n6_ : Aside0 (KeepBut w w36 g none) := ⟨(by rw [hw]; exact zk)⟩; have n7_ : Aside0 (Below w0.heap.size w0 w36) := ⟨(by rw [hw]; exact zb)⟩; clear hw; clear HO_7; clear HO_15; clear HO_379003; clear HO395; clear BK378; clear HI0; clear HK; clear HB; have HO_7 := n0_; have HO_15 := n1_; have HO_379003 := n2_; have HO395 := n3_; have BK378 := n4_; have HI0 := n5_; have HK := n6_; have HB := n7_; clear n0_ n1_ n2_ n3_ n4_ n5_ n6_ n7_; obtain ⟨hcz37_0, hcz37_1, hcz37_2, hcz37_3, hcz37_4, hcz37_5, hfz37_0, hfz37_1, hfz37_2, hfz37_3, hfz37_4, hfz37_5⟩ := cells6 BK378.out) | ((with_reducible refine gate_store (t := 4) (p := 56) rfl ?_); refine store_event (t := 4) (p := 56) (v := ?vo_w38) (w1 := (w36.setCell ⟨gb378, 4, none⟩ (.bool t384))) ?hg ?ho ?hn ?hr ?_; (case ho => rfl); (case hg => rfl); (case hn => rfl); (case hr => first | (go_simp; done) | (go_simp; rfl)); intro w38 hw; have n0_ : Aside0 (Kd.S k78 78 w38 w.heap.size (fun k_ => some k_ ≠ (v386 : Value).ownBlock ∧ some k_ ≠ (.slice Ao20 t380.length co20 : Value).ownBlock ∧ some k_ ≠ (.slice Ao33 y393.length co33 : Value).ownBlock ∧ k_ ≠ gb378) u7 x7_1) := ⟨(by rw [hw]; exact (tSm HO_7.out))⟩; have n1_ : Aside0 (Kd.R (Kd.int .i64) 3 w38 w.heap.size (fun k_ => some k_ ≠ (.slice Ao20 t380.length co20 : Value).ownBlock ∧ some k_ ≠ (.slice Ao33 y393.length co33 : Value).ownBlock) v386 t385) := ⟨(by rw [hw]; exact (tRm (Kd.R_types HO_15.out BK378.out (by decide))))⟩; have n2_ : Aside0 (Kd.R (Kd.int .i64) 3 w38 w.heap.size (fun k_ => some k_ ≠ (v386 : Value).ownBlock ∧ some k_ ≠ (.slice Ao33 y393.length co33 : Value).ownBlock) (.slice Ao20 t380.length co20) t380) := ⟨(by rw [hw]; exact (tRm (Kd.R_types HO_379003.out BK378.out (by decide))))⟩; have n3_ : Aside0 (Kd.R (Kd.int .i64) 3 w38 w.heap.size (fun k_ => some k_ ≠ (v386 : Value).ownBlock ∧ some k_ ≠ (.slice Ao20 t380.length co20 : Value).ownBlock) (.slice Ao33 y393.length co33) y393) := ⟨(by rw [hw]; exact (tRm (Kd.R_types HO395.out BK378.out (by decide))))⟩; have n4_ : Aside0 (w38.heap[gb378]? = some (.cells #[.int .i64 x1_1, .int .i64 x9_1, .bool t379, .slice Ao33 y393.length co33, .bool t384, .slice none 0 0] 78 (0, 0))) := ⟨(by rw [hw]; exact (tP BK378.out))⟩; have n5_ : Aside0 (IsS81 w0 w38 g s0_0 t392) := ⟨(by rw [hw]; exact zi81)⟩; have n6_ : Aside0 (KeepBut w w38 g none) := ⟨(by rw [hw]; exact zk)⟩; have n7_ : Aside0 (Below w0.heap.size w0 w38) := ⟨(by rw [hw]; exact zb)⟩; clear hw; clear HO_7; clear HO_15; clear HO_379003; clear HO395; clear BK378; clear HI0; clear HK; clear HB; have HO_7 := n0_; have HO_15 := n1_; have HO_379003 := n2_; have HO395 := n3_; have BK378 := n4_; have HI0 := n5_; have HK := n6_; have HB := n7_; clear n0_ n1_ n2_ n3_ n4_ n5_ n6_ n7_; obtain ⟨Ao39, co39, eo39⟩ := Kd.R_slice HO_15.out; subst eo39; obtain ⟨hcz40_0, hcz40_1, hcz40_2, hcz40_3, hcz40_4, hcz40_5, hfz40_0, hfz40_1, hfz40_2, hfz40_3, hfz40_4, hfz40_5⟩ := cells6 BK378.out) | ((with_reducible refine gate_store (t := 76) (p := 58) rfl ?_); refine store_event (t := 76) (p := 58) (v := ?vo_w41) (w1 := (w38.setCell ⟨gb378, 5, none⟩ (.slice Ao39 t385.length co39))) ?hg ?ho ?hn ?hr ?_; (case ho => rfl); (case hg => rfl); (case hn => rfl); (case hr => first | (go_simp; done) | (go_simp; rfl)); intro w41 hw; have n0_ : Aside0 (Kd.S k78 78 w41 w.heap.size (fun k_ => some k_ ≠ (.slice Ao39 t385.length co39 : Value).ownBlock ∧ some k_ ≠ (.slice Ao20 t380.length co20 : Value).ownBlock ∧ some k_ ≠ (.slice Ao33 y393.length co33 : Value).ownBlock ∧ k_ ≠ gb378) u7 x7_1) := ⟨(by rw [hw]; exact (tSm HO_7.out))⟩; have n1_ : Aside0 (Kd.R (Kd.int .i64) 3 w41 w.heap.size (fun k_ => some k_ ≠ (.slice Ao20 t380.length co20 : Value).ownBlock ∧ some k_ ≠ (.slice Ao33 y393.length co33 : Value).ownBlock) (.slice Ao39 t385.length co39) t385) := ⟨(by rw [hw]; exact (tRm (Kd.R_types HO_15.out BK378.out (by decide))))⟩; have n2_ : Aside0 (Kd.R (Kd.int .i64) 3 w41 w.heap.size (fun k_ => some k_ ≠ (.slice Ao39 t385.length co39 : Value).ownBlock ∧ some k_ ≠ (.slice Ao33 y393.length co33 : Value).ownBlock) (.slice Ao20 t380.length co20) t380) := ⟨(by rw [hw]; exact (tRm (Kd.R_types HO_379003.out BK378.out (by decide))))⟩; have n3_ : Aside0 (Kd.R (Kd.int .i64) 3 w41 w.heap.size (fun k_ => some k_ ≠ (.slice Ao39 t385.length co39 : Value).ownBlock ∧ some k_ ≠ (.slice Ao20 t380.length co20 : Value).ownBlock) (.slice Ao33 y393.length co33) y393) := ⟨(by rw [hw]; exact (tRm (Kd.R_types HO395.out BK378.out (by decide))))⟩; have n4_ : Aside0 (w41.heap[gb378]? = some (.cells #[.int .i64 x1_1, .int .i64 x9_1, .bool t379, .slice Ao33 y393.length co33, .bool t384, .slice Ao39 t385.length co39] 78 (0, 0))) := ⟨(by rw [hw]; exact (tP BK378.out))⟩; have n5_ : Aside0 (IsS81 w0 w41 g s0_0 t392) := ⟨(by rw [hw]; exact zi81)⟩; have n6_ : Aside0 (KeepBut w w41 g none) := ⟨(by rw [hw]; exact zk)⟩; have n7_ : Aside0 (Below w0.heap.size w0 w41) := ⟨(by rw [hw]; exact zb)⟩; clear hw; clear HO_7; clear HO_15; clear HO_379003; clear HO395; clear BK378; clear HI0; clear HK; clear HB; have HO_7 := n0_; have HO_15 := n1_; have HO_379003 := n2_; have HO395 := n3_; have BK378 := n4_; have HI0 := n5_; have HK := n6_; have HB := n7_; clear n0_ n1_ n2_ n3_ n4_ n5_ n6_ n7_; obtain ⟨hcz42_0, hcz42_1, hcz42_2, hcz42_3, hcz42_4, hcz42_5, hfz42_0, hfz42_1, hfz42_2, hfz42_3, hfz42_4, hfz42_5⟩ := cells6 BK378.out) | ((with_reducible refine gate_builtin (b := .append) (xs := #[.tmp 59, .tmp 61]) rfl ?_); at_builtin; refine Kd.S_append k78 w.heap.size rfl (.tmp 59) (.tmp 61) 46 78 (.agg #[(.int .i64 0), (.int .i64 0), (.bool false), (.slice none 0 0), (.bool false), (.slice none 0 0)]) 80 rfl Try.underlying46 info78 rfl (by decide) (by omega) u7 x7_1 (⟨x1_1, x9_1, t379, y393, t384, t385⟩ : S78) [.int .i64 x1_1, .int .i64 x9_1, .bool t379, .slice Ao33 y393.length co33, .bool t384, .slice Ao39 t385.length co39] (fun k_ => some k_ ≠ (.slice Ao20 t380.length co20 : Value).ownBlock ∧ k_ ≠ gb378) (fun k_ => some k_ = (.slice Ao33 y393.length co33 : Value).ownBlock ∨ some k_ = (.slice Ao39 t385.length co39 : Value).ownBlock) rfl rfl ?aP (fun k_ hk_ => hk_.elim (fun h_ => ((Kd.R_mono (ok' := fun k_ => ((fun k_ => some k_ ≠ (.slice Ao20 t380.length co20 : Value).ownBlock ∧ k_ ≠ gb378)) k_ ∧ some k_ ≠ (u7 : Value).ownBlock) (Kd.R_types (Kd.R_apart' (HO395.out) (Kd.S_typed HO_7.out) (by decide)) BK378.out (by decide)) (fun k_ hk => ⟨⟨hk.1.1.2, hk.2⟩, hk.1.2⟩))).1 k_ h_.symm) (fun h_ => ((Kd.R_mono (ok' := fun k_ => ((fun k_ => some k_ ≠ (.slice Ao20 t380.length co20 : Value).ownBlock ∧ k_ ≠ gb378)) k_ ∧ some k_ ≠ (u7 : Value).ownBlock) (Kd.R_types (Kd.R_apart' (HO_15.out) (Kd.S_typed HO_7.out) (by decide)) BK378.out (by decide)) (fun k_ hk => ⟨⟨hk.1.1.1, hk.2⟩, hk.1.2⟩))).1 k_ h_.symm)) ?aF ?aO (Below.refl _ _) ?aS ?aL ?_; (case aP => exact k78_mkM _ _ _ (⟨x1_1, x9_1, t379, y393, t384, t385⟩ : S78) (Kd.R_mono (Kd.R_tight rfl (Kd.R_mono (ok' := fun k_ => ((fun k_ => some k_ ≠ (.slice Ao20 t380.length co20 : Value).ownBlock ∧ k_ ≠ gb378)) k_ ∧ some k_ ≠ (u7 : Value).ownBlock) (Kd.R_types (Kd.R_apart' (HO395.out) (Kd.S_typed HO_7.out) (by decide)) BK378.out (by decide)) (fun k_ hk => ⟨⟨hk.1.1.2, hk.2⟩, hk.1.2⟩))) (fun _ h_ => Or.inl h_)) (Kd.R_mono (Kd.R_tight rfl (Kd.R_mono (ok' := fun k_ => ((fun k_ => some k_ ≠ (.slice Ao20 t380.length co20 : Value).ownBlock ∧ k_ ≠ gb378)) k_ ∧ some k_ ≠ (u7 : Value).ownBlock) (Kd.R_types (Kd.R_apart' (HO_15.out) (Kd.S_typed HO_7.out) (by decide)) BK378.out (by decide)) (fun k_ hk => ⟨⟨hk.1.1.1, hk.2⟩, hk.1.2⟩))) (fun _ h_ => Or.inr (h_)))); (case aF => exact (fun k_ hk => ⟨Kd.fresh' (Kd.R_lt (tR HO_379003.out)) k_ hk, tfB BK378 k_ hk⟩)); (case aO => exact (tSm HO_7.out)); (case aS => exact (keep_size (w := w) (g := g) (row := none) zk)); (case aL => have := LMc26.out; omega); intro v397 w43 ho hb hg hat; rw [← Ny396.out] at ho; replace HO_379003 := Aside0.mk (Kd.R_over' (tR HO_379003.out) (Kd.S_typed (tS HO_7.out)) (by decide) hg); replace BK378 := Aside0.mk (blk_grown (tH BK378.out) hg (Kd.S_away HO_7.out (fun _ hk => hk.2.2.2))); replace HB := Aside0.mk (below_weaken zb HL.out hb); replace HI0 := Aside0.mk (IsS81.grown zi81 hg (IsS81.own_neS HI0.out HO_7.out (by decide))); replace HK := Aside0.mk (KeepBut.trans zk (KeepBut.of_grown hg g) (Kd.S_base2 HO_7.out)); have HO398 := Aside0.mk (ho); clear HO_7 HO395 HO_15; clear ho hb hg hat) | ((with_reducible refine gate_callee (f := 27) rfl ?_); refine goesL_ (some 66) rfl rfl Try.func27 (by kernel_rfl) rfl #[.pointer (some ⟨g, 0, none⟩), .int .i64 5] rfl tq ?_; (with_reducible refine (spec_l6Rd_pick.calls kj12 g s0_0 t392 5 t399 t400 w0 _ ?side1 ?side2 A27.out).mono ?_); (case side1 => exact zi81); (case side2 => exact zb); rintro e w44 ⟨rfl, hi, hb, hk⟩; refine ⟨_, rfl, ?_⟩; replace HO_379003 := tRp81 HO_379003 HI0 hk; replace BK378 := tBk BK378 hk NB378_0; replace HO398 := tSp81 HO398 HI0 hk; replace HK := tKt HK hk; replace HB := Aside0.mk (hb); replace HI0 := Aside0.mk (hi); (try clear hb); (try clear hb2); (try clear hk); (try clear hi)) | ((with_reducible refine gate_callee (f := 27) rfl ?_); refine goesL_ (some 71) rfl rfl Try.func27 (by kernel_rfl) rfl #[.pointer (some ⟨g, 0, none⟩), .int .i64 30] rfl tq ?_; (with_reducible refine (spec_l6Rd_pick.calls kj12 g s0_0 t400 30 t401 t402 w0 _ ?side1 ?side2 A28.out).mono ?_); (case side1 => exact zi81); (case side2 => exact zb); rintro e w45 ⟨rfl, hi, hb, hk⟩; refine ⟨_, rfl, ?_⟩; replace HO_379003 := tRp81 HO_379003 HI0 hk; replace BK378 := tBk BK378 hk NB378_0; replace HO398 := tSp81 HO398 HI0 hk; replace HK := tKt HK hk; replace HB := Aside0.mk (hb); replace HI0 := Aside0.mk (hi); (try clear hb); (try clear hb2); (try clear hk); (try clear hi)))
        go_roundg kj12
        case measure => have := HK1.out; have := HJ12.out; omega
        case rel => exact ⟨(wrap64 ((wrap64 (x1_1 + 1)) + (wrap64 (Int.tdiv t399 4)))), (y396), (ji29), (wrap64 (x10_1 + 1)), (t402), tr, (by first | rfl | (simp; done) | (simp only [← hji29] <;> (first | rfl | simp)) | (simp [*]; done)), tr, H', ⟨by have := HK1.out; have := HJ12.out; omega⟩, ⟨tSm HO398.out⟩, ⟨zi81⟩, ⟨zk⟩, ⟨zb⟩⟩
       ·rw [if_neg c26] at H
        exact absurd H (by simp)
      ·replace c24 := Bool.eq_false_iff.mpr c24
       subst c24
       rw [if_neg (show ¬ (false = true) by decide)] at H
       by_cases c46 : x7_1.length < 1759218604441
       ·rw [if_pos c46] at H
        have LMc46 := Aside0.mk c46
        clear c46
        obtain ⟨y403, hy403⟩ : ∃ y_ : List (S78), y_ = (x7_1 ++ [(⟨x1_1, x9_1, t379, t380, t384, t385⟩ : S78)]) := ⟨_, rfl⟩
        replace H : ((spec_l6Rd_pick.f kj12 s0_0 x1001_12 5).bind fun bt406 => ((spec_l6Rd_pick.f kj12 s0_0 bt406.2 30).bind fun bt408 => (spec_l91Records.l0 kj12 (wrap64 ((wrap64 (x1_1 + 1)) + (wrap64 (Int.tdiv bt406.1 4)))) y403 (wrap64 (1 + t374)) (mx (wrap64 ((wrap64 (x9_1 + bt408.1)) - 6)) 0) (wrap64 (x10_1 + 1)) s0_0 bt408.2))) = some (r1, r2) := by first | (rw [hy403]; with_reducible exact H) | (have H2_ := (Option.bind_some _ _).symm.trans H; rw [hy403]; with_reducible exact H2_) | (have H2_ := (Option.bind_some _ _).symm.trans H; with_reducible exact H2_) | with_reducible exact H | (rw [hy403]; exact H) | exact H
        have Ny403 := Aside0.mk hy403
        clear hy403
        replace H := tbe H
        obtain ⟨⟨t406, t407⟩, A47, H⟩ := H
        dsimp only at H
        replace H := tbe H
        obtain ⟨⟨t408, t409⟩, A48, H⟩ := H
        dsimp only at H
        obtain ⟨ji49, hji49⟩ : ∃ j_ : Int, (mx (wrap64 ((wrap64 (x9_1 + t408)) - 6)) 0) = j_ := ⟨_, rfl⟩
        replace H : (spec_l91Records.l0 kj12 (wrap64 ((wrap64 (x1_1 + 1)) + (wrap64 (Int.tdiv t406 4)))) y403 (wrap64 (1 + t374)) ji49 (wrap64 (x10_1 + 1)) s0_0 t409) = some (r1, r2) := by first | (rw [hji49] at H; exact H) | (simp only [hji49] at H ⊢; exact H)
        (try rw [hji49] at A47)
        (try rw [hji49] at A48)
        have hji49_ : (if (wrap64 ((wrap64 (x9_1 + t408)) - 6)) < 0 then 0 else (wrap64 ((wrap64 (x9_1 + t408)) - 6))) = ji49 := hji49
        have H' := Aside0.mk H
        clear H
        have hnb50 := NB378_0.out
        have hnc50 := NB0_378.out
        obtain ⟨hcz51_0, hcz51_1, hcz51_2, hcz51_3, hcz51_4, hcz51_5, hfz51_0, hfz51_1, hfz51_2, hfz51_3, hfz51_4, hfz51_5⟩ := cells6 BK378.out
        go_wp2_with (first | ((with_reducible refine gate_store (t := 4) (p := 56) rfl ?_); refine store_event (t := 4) (p := 56) (v := ?vo_w52) (w1 := (wc.setCell ⟨gb378, 4, none⟩ (.bool t384))) ?hg ?ho ?hn ?hr ?_; (case ho => rfl); (case hg => rfl); (case hn => rfl); (case hr => first | (go_simp; done) | (go_simp; rfl)); intro w52 hw; have n0_ : Aside0 (Kd.S k78 78 w52 w.heap.size (fun k_ => some k_ ≠ (v386 : Value).ownBlock ∧ some k_ ≠ (.slice Ao20 t380.length co20 : Value).ownBlock ∧ k_ ≠ gb378) u7 x7_1) := ⟨(by rw [hw]; exact (tSm HO_7.out))⟩; have n1_ : Aside0 (Kd.R (Kd.int .i64) 3 w52 w.heap.size (fun k_ => some k_ ≠ (.slice Ao20 t380.length co20 : Value).ownBlock) v386 t385) := ⟨(by rw [hw]; exact (tRm (Kd.R_types HO_15.out BK378.out (by decide))))⟩; have n2_ : Aside0 (Kd.R (Kd.int .i64) 3 w52 w.heap.size (fun k_ => some k_ ≠ (v386 : Value).ownBlock) (.slice Ao20 t380.length co20) t380) := ⟨(by rw [hw]; exact (tRm (Kd.R_types HO_379003.out BK378.out (by decide))))⟩; have n3_ : Aside0 (w52.heap[gb378]? = some (.cells #[.int .i64 x1_1, .int .i64 x9_1, .bool t379, .slice Ao20 t380.length co20, .bool t384, .slice none 0 0] 78 (0, 0))) := ⟨(by rw [hw]; exact (tP BK378.out))⟩; have n4_ : Aside0 (IsS81 w0 w52 g s0_0 x1001_12) := ⟨(by rw [hw]; exact zi81)⟩; have n5_ : Aside0 (KeepBut w w52 g none) := ⟨(by rw [hw]; exact zk)⟩; have n6_ : Aside0 (Below w0.heap.size w0 w52) := ⟨(by rw [hw]; exact zb)⟩; clear hw; clear HO_7; clear HO_15; clear HO_379003; clear BK378; clear HI0; clear HK; clear HB; have HO_7 := n0_; have HO_15 := n1_; have HO_379003 := n2_; have BK378 := n3_; have HI0 := n4_; have HK := n5_; have HB := n6_; clear n0_ n1_ n2_ n3_ n4_ n5_ n6_; obtain ⟨Ao53, co53, eo53⟩ := Kd.R_slice HO_15.out; subst eo53; obtain ⟨hcz54_0, hcz54_1, hcz54_2, hcz54_3, hcz54_4, hcz54_5, hfz54_0, hfz54_1, hfz54_2, hfz54_3, hfz54_4, hfz54_5⟩ := cells6 BK378.out) | ((with_reducible refine gate_store (t := 76) (p := 58) rfl ?_); refine store_event (t := 76) (p := 58) (v := ?vo_w55) (w1 := (w52.setCell ⟨gb378, 5, none⟩ (.slice Ao53 t385.length co53))) ?hg ?ho ?hn ?hr ?_; (case ho => rfl); (case hg => rfl); (case hn => rfl); (case hr => first | (go_simp; done) | (go_simp; rfl)); intro w55 hw; have n0_ : Aside0 (Kd.S k78 78 w55 w.heap.size (fun k_ => some k_ ≠ (.slice Ao53 t385.length co53 : Value).ownBlock ∧ some k_ ≠ (.slice Ao20 t380.length co20 : Value).ownBlock ∧ k_ ≠ gb378) u7 x7_1) := ⟨(by rw [hw]; exact (tSm HO_7.out))⟩; have n1_ : Aside0 (Kd.R (Kd.int .i64) 3 w55 w.heap.size (fun k_ => some k_ ≠ (.slice Ao20 t380.length co20 : Value).ownBlock) (.slice Ao53 t385.length co53) t385) := ⟨(by rw [hw]; exact (tRm (Kd.R_types HO_15.out BK378.out (by decide))))⟩; have n2_ : Aside0 (Kd.R (Kd.int .i64) 3 w55 w.heap.size (fun k_ => some k_ ≠ (.slice Ao53 t385.length co53 : Value).ownBlock) (.slice Ao20 t380.length co20) t380) := ⟨(by rw [hw]; exact (tRm (Kd.R_types HO_379003.out BK378.out (by decide))))⟩; have n3_ : Aside0 (w55.heap[gb378]? = some (.cells #[.int .i64 x1_1, .int .i64 x9_1, .bool t379, .slice Ao20 t380.length co20, .bool t384, .slice Ao53 t385.length co53] 78 (0, 0))) := ⟨(by rw [hw]; exact (tP BK378.out))⟩; have n4_ : Aside0 (IsS81 w0 w55 g s0_0 x1001_12) := ⟨(by rw [hw]; exact zi81)⟩; have n5_ : Aside0 (KeepBut w w55 g none) := ⟨(by rw [hw]; exact zk)⟩; have n6_ : Aside0 (Below w0.heap.size w0 w55) := ⟨(by rw [hw]; exact zb)⟩; clear hw; clear HO_7; clear HO_15; clear HO_379003; clear BK378; clear HI0; clear HK; clear HB; have HO_7 := n0_; have HO_15 := n1_; have HO_379003 := n2_; have BK378 := n3_; have HI0 := n4_; have HK := n5_; have HB := n6_; clear n0_ n1_ n2_ n3_ n4_ n5_ n6_; obtain ⟨hcz56_0, hcz56_1, hcz56_2, hcz56_3, hcz56_4, hcz56_5, hfz56_0, hfz56_1, hfz56_2, hfz56_3, hfz56_4, hfz56_5⟩ := cells6 BK378.out) | ((with_reducible refine gate_builtin (b := .append) (xs := #[.tmp 59, .tmp 61]) rfl ?_); at_builtin; refine Kd.S_append k78 w.heap.size rfl (.tmp 59) (.tmp 61) 46 78 (.agg #[(.int .i64 0), (.int .i64 0), (.bool false), (.slice none 0 0), (.bool false), (.slice none 0 0)]) 80 rfl Try.underlying46 info78 rfl (by decide) (by omega) u7 x7_1 (⟨x1_1, x9_1, t379, t380, t384, t385⟩ : S78) [.int .i64 x1_1, .int .i64 x9_1, .bool t379, .slice Ao20 t380.length co20, .bool t384, .slice Ao53 t385.length co53] (fun k_ => k_ ≠ gb378) (fun k_ => some k_ = (.slice Ao20 t380.length co20 : Value).ownBlock ∨ some k_ = (.slice Ao53 t385.length co53 : Value).ownBlock) rfl rfl ?aP (fun k_ hk_ => hk_.elim (fun h_ => ((Kd.R_mono (ok' := fun k_ => ((fun k_ => k_ ≠ gb378)) k_ ∧ some k_ ≠ (u7 : Value).ownBlock) (Kd.R_types (Kd.R_apart' (HO_379003.out) (Kd.S_typed HO_7.out) (by decide)) BK378.out (by decide)) (fun k_ hk => ⟨hk.2, hk.1.2⟩))).1 k_ h_.symm) (fun h_ => ((Kd.R_mono (ok' := fun k_ => ((fun k_ => k_ ≠ gb378)) k_ ∧ some k_ ≠ (u7 : Value).ownBlock) (Kd.R_types (Kd.R_apart' (HO_15.out) (Kd.S_typed HO_7.out) (by decide)) BK378.out (by decide)) (fun k_ hk => ⟨hk.2, hk.1.2⟩))).1 k_ h_.symm)) ?aF ?aO (Below.refl _ _) ?aS ?aL ?_; (case aP => exact k78_mkM _ _ _ (⟨x1_1, x9_1, t379, t380, t384, t385⟩ : S78) (Kd.R_mono (Kd.R_tight rfl (Kd.R_mono (ok' := fun k_ => ((fun k_ => k_ ≠ gb378)) k_ ∧ some k_ ≠ (u7 : Value).ownBlock) (Kd.R_types (Kd.R_apart' (HO_379003.out) (Kd.S_typed HO_7.out) (by decide)) BK378.out (by decide)) (fun k_ hk => ⟨hk.2, hk.1.2⟩))) (fun _ h_ => Or.inl h_)) (Kd.R_mono (Kd.R_tight rfl (Kd.R_mono (ok' := fun k_ => ((fun k_ => k_ ≠ gb378)) k_ ∧ some k_ ≠ (u7 : Value).ownBlock) (Kd.R_types (Kd.R_apart' (HO_15.out) (Kd.S_typed HO_7.out) (by decide)) BK378.out (by decide)) (fun k_ hk => ⟨hk.2, hk.1.2⟩))) (fun _ h_ => Or.inr (h_)))); (case aF => exact (fun k_ hk => tfB BK378 k_ hk)); (case aO => exact (tSm HO_7.out)); (case aS => exact (keep_size (w := w) (g := g) (row := none) zk)); (case aL => have := LMc46.out; omega); intro v404 w57 ho hb hg hat; rw [← Ny403.out] at ho; replace BK378 := Aside0.mk (blk_grown (tH BK378.out) hg (Kd.S_away HO_7.out (fun _ hk => hk.2.2))); replace HB := Aside0.mk (below_weaken zb HL.out hb); replace HI0 := Aside0.mk (IsS81.grown zi81 hg (IsS81.own_neS HI0.out HO_7.out (by decide))); replace HK := Aside0.mk (KeepBut.trans zk (KeepBut.of_grown hg g) (Kd.S_base2 HO_7.out)); have HO405 := Aside0.mk (ho); clear HO_7 HO_15 HO_379003; clear ho hb hg hat) | ((with_reducible refine gate_callee (f := 27) rfl ?_); refine goesL_ (some 66) rfl rfl Try.func27 (by kernel_rfl) rfl #[.pointer (some ⟨g, 0, none⟩), .int .i64 5] rfl tq ?_; (with_reducible refine (spec_l6Rd_pick.calls kj12 g s0_0 x1001_12 5 t406 t407 w0 _ ?side1 ?side2 A47.out).mono ?_); (case side1 => exact zi81); (case side2 => exact zb); rintro e w58 ⟨rfl, hi, hb, hk⟩; refine ⟨_, rfl, ?_⟩; replace BK378 := tBk BK378 hk NB378_0; replace HO405 := tSp81 HO405 HI0 hk; replace HK := tKt HK hk; replace HB := Aside0.mk (hb); replace HI0 := Aside0.mk (hi); (try clear hb); (try clear hb2); (try clear hk); (try clear hi)) | ((with_reducible refine gate_callee (f := 27) rfl ?_); refine goesL_ (some 71) rfl rfl Try.func27 (by kernel_rfl) rfl #[.pointer (some ⟨g, 0, none⟩), .int .i64 30] rfl tq ?_; (with_reducible refine (spec_l6Rd_pick.calls kj12 g s0_0 t407 30 t408 t409 w0 _ ?side1 ?side2 A48.out).mono ?_); (case side1 => exact zi81); (case side2 => exact zb); rintro e w59 ⟨rfl, hi, hb, hk⟩; refine ⟨_, rfl, ?_⟩; replace BK378 := tBk BK378 hk NB378_0; replace HO405 := tSp81 HO405 HI0 hk; replace HK := tKt HK hk; replace HB := Aside0.mk (hb); replace HI0 := Aside0.mk (hi); (try clear hb); (try clear hb2); (try clear hk); (try clear hi)))
        go_roundg kj12
        case measure => have := HK1.out; have := HJ12.out; omega
        case rel => exact ⟨(wrap64 ((wrap64 (x1_1 + 1)) + (wrap64 (Int.tdiv t406 4)))), (y403), (ji49), (wrap64 (x10_1 + 1)), (t409), tr, (by first | rfl | (simp; done) | (simp only [← hji49] <;> (first | rfl | simp)) | (simp [*]; done)), tr, H', ⟨by have := HK1.out; have := HJ12.out; omega⟩, ⟨tSm HO405.out⟩, ⟨zi81⟩, ⟨zk⟩, ⟨zb⟩⟩
       ·rw [if_neg c46] at H
        exact absurd H (by simp)
   ·rw [if_neg c10] at H
    have c10b0 : decide (x10_1 < (wrap64 (1 + t374))) = false := decide_eq_false c10
    clear c10
    simp only [Option.some.injEq, Prod.mk.injEq] at H
    obtain ⟨rfl, rfl⟩ := H
    go_wp2
    go_ret
    exact ⟨_, by first | rfl | (simp [errW_none, errW_some] <;> rfl) | (simp [*, errW_none, errW_some] <;> rfl), tS HO_7.out, zi81, zb, zk⟩

end Go.Proofs.Ytkihdohphddjaaa.G

namespace Go.Proofs.Ytkihdohphddjaaa.G
open Go.RowKit Go.Proofs.YtkihdohphddjaaaW.PrintWords Go.Proofs.YtkihdohphddjaaaW.PrintLast Go.Proofs.YtkihdohphddjaaaW.PrintMore
attribute [local go_sem] max2_int min2_int max_two min_two max_three min_three max_four min_four   -- for this text's walks alone
set_option linter.unusedVariables false
set_option linter.unusedSimpArgs false

def spec_l91Batch.j0 : Nat → List Int → Int → Bool → Bool → Int → Int → Int → List (S78) → Option (Bool × Bool × Int × Int × Int × (List (S78)) × Int)
 | 0, _, _, _, _, _, _, _, _ => none
 | k + 1, x1000, x1001, x418000, x418001, x418002, x418003, x418004, x418005 => (spec_l6Rd_pick.f k x1000 x1001 40).bind fun bt441 => (if bt441.1 = 0 then ((some (([(-1), 1, 100] : List Int) : List Int)).bind fun y443 => ((spec_l6Rd_pick.f k x1000 bt441.2 3).bind fun bt446 => (if 0 ≤ bt446.1 then (if bt446.1 < (y443.length : Int) then (some (x418000, x418001, x418002, rd y443 bt446.1, x418004, x418005, bt446.2)) else (none)) else (none)))) else (if bt441.1 = 1 then (if 0 < (x418005.length : Int) then (if x418005.length < 1759218604441 then (some (x418000, x418001, x418002, x418003, x418004, (x418005 ++ [(⟨(rd_T78 x418005 0).f0, (rd_T78 x418005 0).f1, (rd_T78 x418005 0).f2, (rd_T78 x418005 0).f3, (rd_T78 x418005 0).f4, (rd_T78 x418005 0).f5⟩ : S78)]), bt441.2)) else (none)) else (none)) else (if bt441.1 = 2 then (some (x418000, !x418001, x418002, x418003, x418004, x418005, bt441.2)) else (some (x418000, x418001, x418002, x418003, x418004, x418005, bt441.2)))))
def spec_l91Batch.f (k : Nat) (s0_0 : List Int) (s0_1 : Int) (a1 : Int) : Option (Bool × Bool × Int × Int × Int × (List (S78)) × Int) := (spec_l6Rd_pick.f k s0_0 s0_1 2).bind fun bt411 => ((spec_l91Records.f k s0_0 bt411.2 a1 4).bind fun bt413 => ((spec_l6Rd_pick.f k s0_0 bt413.2 3).bind fun bt418 => (if bt418.1 = 0 then ((spec_l6Rd_pick.f k s0_0 bt418.2 3).bind fun bt420 => ((spec_l6Rd_pick.f k s0_0 bt420.2 3).bind fun bt422 => ((spec_l6Rd_pick.f k s0_0 bt422.2 5).bind fun bt424 => ((spec_l6Rd_pick.f k s0_0 bt424.2 3).bind fun bt426 => (if bt426.1 = 0 then ((spec_l6Rd_pick.f k s0_0 bt426.2 200).bind fun bt428 => ((spec_l6Rd_pick.f k s0_0 bt428.2 2).bind fun bt433 => (spec_l91Batch.j0 k s0_0 bt433.2 (bt411.1 == 0) true bt420.1 bt422.1 bt424.1 (([(⟨a1, bt428.1, false, (([] : List Int)), true, (([bt433.1] : List Int))⟩ : S78)] : List (S78)))))) else (spec_l91Batch.j0 k s0_0 bt426.2 (bt411.1 == 0) false bt420.1 bt422.1 bt424.1 bt413.1)))))) else (spec_l91Batch.j0 k s0_0 bt418.2 (bt411.1 == 0) false 255 0 0 bt413.1))))
def spec_l91Batch.T13 : Bool × List (List Nat × List Nat) := (true, [([], []), ([0], [0]), ([], []), ([2], [2]), ([3], [3]), ([4], [4]), ([5], [5]), ([1, 6], [1, 6]), ([0, 1, 2, 3, 4, 5, 6, 7], []), ([8, 7, 7, 0, 1, 2, 3, 4, 5, 6, 7], [7, 8])])
def spec_l91Batch.B13 : List Nat := [0, 1, 0, 4, 12, 28, 60, 127, 255, 511]
theorem spec_l91Batch.tab13 : rtab .any (opsOf Try.f51 13) = spec_l91Batch.T13 := by kernel_rfl
theorem spec_l91Batch.bits13 : waitsOk spec_l91Batch.T13.2 spec_l91Batch.B13 = true := by kernel_rfl
set_option maxHeartbeats 8000000 in
set_option maxRecDepth 100000 in
theorem spec_l91Batch.calls (k : Nat) (g : Nat) (s0_0 : List Int) (s0_1 : Int) (a1 : Int) (r1 : Bool) (r2 : Bool) (r3 : Int) (r4 : Int) (r5 : Int) (r6 : List (S78)) (r7 : Int) (w0 w : World) (hI : IsS81 w0 w g s0_0 s0_1) (hB : Below w0.heap.size w0 w) (h : spec_l91Batch.f k s0_0 s0_1 a1 = some (r1, r2, r3, r4, r5, r6, r7)) :
  Calls Try.prog 51 #[.pointer (some ⟨g, 0, none⟩), .int .i64 a1] w fun e w' => ∃ v5_ : Value, e = .returned (.agg #[.bool r1, .bool r2, .int .i64 r3, .int .i64 r4, .int .i64 r5, v5_]) ∧ Kd.N k78 78 w' w.heap.size (fun k_ => (w.heap.size ≤ k_)) v5_ r6 ∧ IsS81 w0 w' g s0_0 r7 ∧ Below w0.heap.size w0 w' ∧ KeepBut w w' g none := by
 have hu75 := Try.underlying75
 have hu78 := Try.underlying78
 have HI0 := Aside0.mk hI
 have HK := Aside0.mk (KeepBut.refl w g none)
 have HL := Aside0.mk hB.size
 clear hI
 have HW0 := Aside0.mk hB.size
 have HB := Aside0.mk hB
 clear hB
 have H : ((spec_l6Rd_pick.f k s0_0 s0_1 2).bind fun bt411 => ((spec_l91Records.f k s0_0 bt411.2 a1 4).bind fun bt413 => ((spec_l6Rd_pick.f k s0_0 bt413.2 3).bind fun bt418 => (if bt418.1 = 0 then ((spec_l6Rd_pick.f k s0_0 bt418.2 3).bind fun bt420 => ((spec_l6Rd_pick.f k s0_0 bt420.2 3).bind fun bt422 => ((spec_l6Rd_pick.f k s0_0 bt422.2 5).bind fun bt424 => ((spec_l6Rd_pick.f k s0_0 bt424.2 3).bind fun bt426 => (if bt426.1 = 0 then ((spec_l6Rd_pick.f k s0_0 bt426.2 200).bind fun bt428 => ((spec_l6Rd_pick.f k s0_0 bt428.2 2).bind fun bt433 => (spec_l91Batch.j0 k s0_0 bt433.2 (bt411.1 == 0) true bt420.1 bt422.1 bt424.1 (([(⟨a1, bt428.1, false, (([] : List Int)), true, (([bt433.1] : List Int))⟩ : S78)] : List (S78)))))) else (spec_l91Batch.j0 k s0_0 bt426.2 (bt411.1 == 0) false bt420.1 bt422.1 bt424.1 bt413.1)))))) else (spec_l91Batch.j0 k s0_0 bt418.2 (bt411.1 == 0) false 255 0 0 bt413.1))))) = some (r1, r2, r3, r4, r5, r6, r7) := h
 clear h
 replace H := tbe H
 obtain ⟨⟨t411, t412⟩, A3, H⟩ := H
 dsimp only at H
 replace H := tbe H
 obtain ⟨⟨t413, t416⟩, A4, H⟩ := H
 dsimp only at H
 replace H := tbe H
 obtain ⟨⟨t418, t419⟩, A5, H⟩ := H
 dsimp only at H
 have HC6 := Aside0.mk H
 clear H
 go_enter Try.func51, Try.ntmps51
 go_upto_if 15 with (first | ((with_reducible refine gate_dst (N := 4) rfl ?_); refine box_event ?hg (N := 4) ?hd (cs := #[.bool false, .bool false, .int .i64 0, .int .i64 0, .int .i64 0, .slice none 0 0]) (t := 75) ?hr ?_; (case hd => rfl); (case hg => rfl); (case hr => first | (go_simp; done) | (go_simp; rfl)); intro gb410 hg w7 hbox hb; replace HB := tBs HB hb; have BK410 := Aside0.mk (hbox); have GW410 := Aside0.mk ((by rw [hg]; exact (keep_size (w := w) (g := g) (row := none) zk) : w.heap.size ≤ gb410)); have GE410 := Aside0.mk ((Nat.le_trans HW0.out (by rw [hg]; exact (keep_size (w := w) (g := g) (row := none) zk) : w.heap.size ≤ gb410) : w0.heap.size ≤ gb410)); replace HK := tKb HK hb; have NB0_410 := Aside0.mk ((by rw [hg]; exact Nat.ne_of_lt (IsS81.lt (show IsS81 w0 _ g s0_0 s0_1 from zi81)) : g ≠ gb410)); have NB410_0 := Aside0.mk ((by rw [hg]; exact Nat.ne_of_gt (IsS81.lt (show IsS81 w0 _ g s0_0 s0_1 from zi81)) : gb410 ≠ g)); replace HI0 := tIb81 HI0 hb; clear hb hbox hg) | ((with_reducible refine gate_callee (f := 27) rfl ?_); refine goesL_ (some 7) rfl rfl Try.func27 (by kernel_rfl) rfl #[.pointer (some ⟨g, 0, none⟩), .int .i64 2] rfl tq ?_; (with_reducible refine (spec_l6Rd_pick.calls k g s0_0 s0_1 2 t411 t412 w0 _ ?side1 ?side2 A3.out).mono ?_); (case side1 => exact zi81); (case side2 => exact zb); rintro e w8 ⟨rfl, hi, hb, hk⟩; refine ⟨_, rfl, ?_⟩; replace BK410 := tBk BK410 hk NB410_0; replace HK := tKt HK hk; replace HB := Aside0.mk (hb); replace HI0 := Aside0.mk (hi); (try clear hb); (try clear hb2); (try clear hk); (try clear hi)) | ((with_reducible refine gate_callee (f := 53) rfl ?_); refine goesL_ (some 11) rfl rfl Try.func53 (by kernel_rfl) rfl #[.pointer (some ⟨g, 0, none⟩), .int .i64 a1, .int .i64 4] rfl tq ?_; (with_reducible refine (spec_l91Records.calls k g s0_0 t412 a1 4 t413 t416 w0 _ ?side1 ?side2 A4.out).mono ?_); (case side1 => exact zi81); (case side2 => exact zb); rintro e w9 ⟨v414, rfl, ho0, hi, hb, hk⟩; have u_v414 := tsv Try.prog v414 ho0; refine ⟨_, rfl, ?_⟩; have HO415 := Aside0.mk (Kd.N_lower (Kd.N_mono (ok' := fun k_ => (w.heap.size ≤ k_) ∧ k_ ≠ gb410 ∧ k_ ≠ g) (Kd.S_N (Kd.S_bound ho0)) (fun k_ hk_ => ⟨(Nat.le_trans (keep_size (w := w) (g := g) (row := none) zk) hk_.2.1), (tfB BK410 k_ hk_.2.1), (IsS81.fresh zi81 k_ hk_.2.1)⟩)) (keep_size (w := w) (g := g) (row := none) zk)); replace BK410 := tBk BK410 hk NB410_0; replace HK := tKt HK hk; replace HB := Aside0.mk (hb); replace HI0 := Aside0.mk (hi); (try clear hb); (try clear hb2); (try clear hk); (try clear hi); (try clear ho0); obtain ⟨Ao10, co10, eo10⟩ := Kd.N_slice HO415.out; subst eo10) | ((with_reducible refine gate_dst (N := 5) rfl ?_); refine box_event ?hg (N := 5) ?hd (cs := #[.bool false, .bool false, .int .i64 0, .int .i64 0, .int .i64 0, .slice none 0 0]) (t := 75) ?hr ?_; (case hd => rfl); (case hg => rfl); (case hr => first | (go_simp; done) | (go_simp; rfl)); intro gb417 hg w11 hbox hb; replace HO415 := tNB HO415 hg hb; replace HB := tBs HB hb; have BK417 := Aside0.mk (hbox); have GW417 := Aside0.mk ((by rw [hg]; exact (keep_size (w := w) (g := g) (row := none) zk) : w.heap.size ≤ gb417)); have GE417 := Aside0.mk ((Nat.le_trans HW0.out (by rw [hg]; exact (keep_size (w := w) (g := g) (row := none) zk) : w.heap.size ≤ gb417) : w0.heap.size ≤ gb417)); replace HK := tKb HK hb; have NB410_417 := tlt BK410 hg; have NB417_410 := tgt BK410 hg; replace BK410 := tBb BK410 hb; have NB0_417 := Aside0.mk ((by rw [hg]; exact Nat.ne_of_lt (IsS81.lt (show IsS81 w0 _ g s0_0 t416 from zi81)) : g ≠ gb417)); have NB417_0 := Aside0.mk ((by rw [hg]; exact Nat.ne_of_gt (IsS81.lt (show IsS81 w0 _ g s0_0 t416 from zi81)) : gb417 ≠ g)); replace HI0 := tIb81 HI0 hb; clear hb hbox hg; have hnb12 := NB417_410.out; have hnc12 := NB410_417.out; have hnb13 := NB417_0.out; have hnc13 := NB0_417.out; obtain ⟨hcz14_0, hcz14_1, hcz14_2, hcz14_3, hcz14_4, hcz14_5, hfz14_0, hfz14_1, hfz14_2, hfz14_3, hfz14_4, hfz14_5⟩ := cells6 BK417.out) | ((with_reducible refine gate_callee (f := 27) rfl ?_); refine goesL_ (some 14) rfl rfl Try.func27 (by kernel_rfl) rfl #[.pointer (some ⟨g, 0, none⟩), .int .i64 3] rfl tq ?_; (with_reducible refine (spec_l6Rd_pick.calls k g s0_0 t416 3 t418 t419 w0 _ ?side1 ?side2 A5.out).mono ?_); (case side1 => exact zi81); (case side2 => exact zb); rintro e w15 ⟨rfl, hi, hb, hk⟩; refine ⟨_, rfl, ?_⟩; replace BK410 := tBk BK410 hk NB410_0; replace HO415 := tNk HO415 hk; replace BK417 := tBq (o' := .cells #[.bool (t411 == 0), .bool false, .int .i64 255, .int .i64 0, .int .i64 0, .slice Ao10 t413.length co10] 75 (0, 0)) BK417 hk NB417_0; replace HK := tKt HK hk; replace HB := Aside0.mk (hb); replace HI0 := Aside0.mk (hi); (try clear hb); (try clear hb2); (try clear hk); (try clear hi)))
 (try simp only [Act.put, List.setIfInBounds_toArray, List.set_cons_zero, List.set_cons_succ])
 go_cut [] (fun wc => ∃ (kq : Nat) (x1001_5 : Int) (x418001_5 : Bool) (x418002_5 : Int) (x418003_5 : Int) (x418004_5 : Int) (x418005_5 : List (S78)) (u418005 : Value), Aside0 (spec_l91Batch.j0 kq s0_0 x1001_5 (t411 == 0) x418001_5 x418002_5 x418003_5 x418004_5 x418005_5 = some (r1, r2, r3, r4, r5, r6, r7)) ∧ Aside0 (kq ≤ k) ∧ Aside0 (Kd.N k78 78 wc w.heap.size (fun k_ => (w.heap.size ≤ k_) ∧ k_ ≠ gb410 ∧ k_ ≠ gb417 ∧ k_ ≠ g) u418005 x418005_5) ∧ Aside0 (wc.heap[gb410]? = some (.cells #[.bool false, .bool false, .int .i64 0, .int .i64 0, .int .i64 0, (.slice none 0 0)] 75 (0, 0))) ∧ Aside0 (wc.heap[gb417]? = some (.cells #[.bool (t411 == 0), .bool x418001_5, .int .i64 x418002_5, .int .i64 x418003_5, .int .i64 x418004_5, u418005] 75 (0, 0))) ∧ Aside0 (IsS81 w0 wc g s0_0 x1001_5) ∧ Aside0 (KeepBut w wc g none) ∧ Aside0 (Below w0.heap.size w0 wc))
 case first =>
  have H := HC6.out
  clear HC6
  by_cases c16 : t418 = 0
  ·rw [if_pos c16] at H
   have c16b0 : (t418 == 0) = true := beq_iff_eq.mpr c16
   have c16b1 : (t418 != 0) = false := bne_eq_false_iff_eq.mpr c16
   clear c16
   (first | rw [c16b0] | (simp only [i64_w, i32_w]; rw [c16b0]) | skip)
   replace H := tbe H
   obtain ⟨⟨t420, t421⟩, A17, H⟩ := H
   dsimp only at H
   replace H := tbe H
   obtain ⟨⟨t422, t423⟩, A18, H⟩ := H
   dsimp only at H
   replace H := tbe H
   obtain ⟨⟨t424, t425⟩, A19, H⟩ := H
   dsimp only at H
   replace H := tbe H
   obtain ⟨⟨t426, t427⟩, A20, H⟩ := H
   dsimp only at H
   by_cases c21 : t426 = 0
   ·rw [if_pos c21] at H
    have c21b0 : (t426 == 0) = true := beq_iff_eq.mpr c21
    have c21b1 : (t426 != 0) = false := bne_eq_false_iff_eq.mpr c21
    clear c21
    replace H := tbe H
    obtain ⟨⟨t428, t429⟩, A22, H⟩ := H
    dsimp only at H
    obtain ⟨y430, hy430⟩ : ∃ y_ : List Int, y_ = (([] : List Int)) := ⟨_, rfl⟩
    replace H : ((spec_l6Rd_pick.f k s0_0 t429 2).bind fun bt433 => (spec_l91Batch.j0 k s0_0 bt433.2 (t411 == 0) true t420 t422 t424 (([(⟨a1, t428, false, y430, true, (([bt433.1] : List Int))⟩ : S78)] : List (S78))))) = some (r1, r2, r3, r4, r5, r6, r7) := by first | (rw [hy430]; with_reducible exact H) | (have H2_ := (Option.bind_some _ _).symm.trans H; rw [hy430]; with_reducible exact H2_) | (have H2_ := (Option.bind_some _ _).symm.trans H; with_reducible exact H2_) | with_reducible exact H | (rw [hy430]; exact H) | exact H
    have Ny430 := Aside0.mk hy430
    clear hy430
    replace H := tbe H
    obtain ⟨⟨t433, t434⟩, A23, H⟩ := H
    dsimp only at H
    obtain ⟨y435, hy435⟩ : ∃ y_ : List Int, y_ = (([t433] : List Int)) := ⟨_, rfl⟩
    replace H : (spec_l91Batch.j0 k s0_0 t434 (t411 == 0) true t420 t422 t424 (([(⟨a1, t428, false, y430, true, y435⟩ : S78)] : List (S78)))) = some (r1, r2, r3, r4, r5, r6, r7) := by first | (rw [hy435]; with_reducible exact H) | (have H2_ := (Option.bind_some _ _).symm.trans H; rw [hy435]; with_reducible exact H2_) | (have H2_ := (Option.bind_some _ _).symm.trans H; with_reducible exact H2_) | with_reducible exact H | (rw [hy435]; exact H) | exact H
    have Ny435 := Aside0.mk hy435
    clear hy435
    obtain ⟨y438, hy438⟩ : ∃ y_ : List (S78), y_ = (([(⟨a1, t428, false, y430, true, y435⟩ : S78)] : List (S78))) := ⟨_, rfl⟩
    replace H : (spec_l91Batch.j0 k s0_0 t434 (t411 == 0) true t420 t422 t424 y438) = some (r1, r2, r3, r4, r5, r6, r7) := by first | (rw [hy438]; with_reducible exact H) | (have H2_ := (Option.bind_some _ _).symm.trans H; rw [hy438]; with_reducible exact H2_) | (have H2_ := (Option.bind_some _ _).symm.trans H; with_reducible exact H2_) | with_reducible exact H | (rw [hy438]; exact H) | exact H
    have Ny438 := Aside0.mk hy438
    clear hy438
    have H' := Aside0.mk H
    clear H
    go_wp2_with (first | ((with_reducible refine gate_callee (f := 27) rfl ?_); refine goesL_ (some 17) rfl rfl Try.func27 (by kernel_rfl) rfl #[.pointer (some ⟨g, 0, none⟩), .int .i64 3] rfl tq ?_; (with_reducible refine (spec_l6Rd_pick.calls k g s0_0 t419 3 t420 t421 w0 _ ?side1 ?side2 A17.out).mono ?_); (case side1 => exact zi81); (case side2 => exact zb); rintro e w24 ⟨rfl, hi, hb, hk⟩; refine ⟨_, rfl, ?_⟩; replace BK410 := tBk BK410 hk NB410_0; replace HO415 := tNk HO415 hk; replace BK417 := tBk BK417 hk NB417_0; replace HK := tKt HK hk; replace HB := Aside0.mk (hb); replace HI0 := Aside0.mk (hi); (try clear hb); (try clear hb2); (try clear hk); (try clear hi); have hnb25 := NB417_410.out; have hnc25 := NB410_417.out; have hnb26 := NB417_0.out; have hnc26 := NB0_417.out; obtain ⟨hcz27_0, hcz27_1, hcz27_2, hcz27_3, hcz27_4, hcz27_5, hfz27_0, hfz27_1, hfz27_2, hfz27_3, hfz27_4, hfz27_5⟩ := cells6 BK417.out) | ((with_reducible refine gate_callee (f := 27) rfl ?_); refine goesL_ (some 20) rfl rfl Try.func27 (by kernel_rfl) rfl #[.pointer (some ⟨g, 0, none⟩), .int .i64 3] rfl tq ?_; (with_reducible refine (spec_l6Rd_pick.calls k g s0_0 t421 3 t422 t423 w0 _ ?side1 ?side2 A18.out).mono ?_); (case side1 => exact zi81); (case side2 => exact zb); rintro e w28 ⟨rfl, hi, hb, hk⟩; refine ⟨_, rfl, ?_⟩; replace BK410 := tBk BK410 hk NB410_0; replace HO415 := tNk HO415 hk; replace BK417 := tBq (o' := .cells #[.bool (t411 == 0), .bool false, .int .i64 t420, .int .i64 0, .int .i64 0, .slice Ao10 t413.length co10] 75 (0, 0)) BK417 hk NB417_0; replace HK := tKt HK hk; replace HB := Aside0.mk (hb); replace HI0 := Aside0.mk (hi); (try clear hb); (try clear hb2); (try clear hk); (try clear hi); obtain ⟨hcz29_0, hcz29_1, hcz29_2, hcz29_3, hcz29_4, hcz29_5, hfz29_0, hfz29_1, hfz29_2, hfz29_3, hfz29_4, hfz29_5⟩ := cells6 BK417.out) | ((with_reducible refine gate_callee (f := 27) rfl ?_); refine goesL_ (some 23) rfl rfl Try.func27 (by kernel_rfl) rfl #[.pointer (some ⟨g, 0, none⟩), .int .i64 5] rfl tq ?_; (with_reducible refine (spec_l6Rd_pick.calls k g s0_0 t423 5 t424 t425 w0 _ ?side1 ?side2 A19.out).mono ?_); (case side1 => exact zi81); (case side2 => exact zb); rintro e w30 ⟨rfl, hi, hb, hk⟩; refine ⟨_, rfl, ?_⟩; replace BK410 := tBk BK410 hk NB410_0; replace HO415 := tNk HO415 hk; replace BK417 := tBq (o' := .cells #[.bool (t411 == 0), .bool false, .int .i64 t420, .int .i64 t422, .int .i64 0, .slice Ao10 t413.length co10] 75 (0, 0)) BK417 hk NB417_0; replace HK := tKt HK hk; replace HB := Aside0.mk (hb); replace HI0 := Aside0.mk (hi); (try clear hb); (try clear hb2); (try clear hk); (try clear hi); obtain ⟨hcz31_0, hcz31_1, hcz31_2, hcz31_3, hcz31_4, hcz31_5, hfz31_0, hfz31_1, hfz31_2, hfz31_3, hfz31_4, hfz31_5⟩ := cells6 BK417.out) | ((with_reducible refine gate_callee (f := 27) rfl ?_); refine goesL_ (some 26) rfl rfl Try.func27 (by kernel_rfl) rfl #[.pointer (some ⟨g, 0, none⟩), .int .i64 3] rfl tq ?_; (with_reducible refine (spec_l6Rd_pick.calls k g s0_0 t425 3 t426 t427 w0 _ ?side1 ?side2 A20.out).mono ?_); (case side1 => exact zi81); (case side2 => exact zb); rintro e w32 ⟨rfl, hi, hb, hk⟩; refine ⟨_, rfl, ?_⟩; replace BK410 := tBk BK410 hk NB410_0; replace HO415 := tNk HO415 hk; replace BK417 := tBq (o' := .cells #[.bool (t411 == 0), .bool false, .int .i64 t420, .int .i64 t422, .int .i64 t424, .slice Ao10 t413.length co10] 75 (0, 0)) BK417 hk NB417_0; replace HK := tKt HK hk; replace HB := Aside0.mk (hb); replace HI0 := Aside0.mk (hi); (try clear hb); (try clear hb2); (try clear hk); (try clear hi); obtain ⟨hcz33_0, hcz33_1, hcz33_2, hcz33_3, hcz33_4, hcz33_5, hfz33_0, hfz33_1, hfz33_2, hfz33_3, hfz33_4, hfz33_5⟩ := cells6 BK417.out) | ((with_reducible refine gate_callee (f := 27) rfl ?_); refine goesL_ (some 31) rfl rfl Try.func27 (by kernel_rfl) rfl #[.pointer (some ⟨g, 0, none⟩), .int .i64 200] rfl tq ?_; (with_reducible refine (spec_l6Rd_pick.calls k g s0_0 t427 200 t428 t429 w0 _ ?side1 ?side2 A22.out).mono ?_); (case side1 => exact zi81); (case side2 => exact zb); rintro e w34 ⟨rfl, hi, hb, hk⟩; refine ⟨_, rfl, ?_⟩; replace BK410 := tBk BK410 hk NB410_0; replace HO415 := tNk HO415 hk; replace BK417 := tBq (o' := .cells #[.bool (t411 == 0), .bool true, .int .i64 t420, .int .i64 t422, .int .i64 t424, .slice Ao10 t413.length co10] 75 (0, 0)) BK417 hk NB417_0; replace HK := tKt HK hk; replace HB := Aside0.mk (hb); replace HI0 := Aside0.mk (hi); (try clear hb); (try clear hb2); (try clear hk); (try clear hi)) | ((with_reducible refine gate_dst (N := 32) rfl ?_); refine Kd.R_lit (Kd.int .i64) _ 3 ?hg (N := 32) ?hd (xs := ([] : List Int)) (inner := []) (ok := fun _ => True) (okp := fun _ => True) ?hr ?hp (fun _ hk => hk) trivial (Below.refl _ _) (Nat.le_refl _) (by simp) ?_; (case hd => rfl); (case hg => rfl); (case hr => first | (go_simp; done) | (go_simp; rfl)); (case hp => exact (Reps.none _ _)); intro v431 w35 ho36 hb hg_ hnew_; clear hg_ hnew_; (first | rw [← Ny430.out] at ho36 | (simp only [Int.reduceToNat] at ho36; rw [← Ny430.out] at ho36)); replace HO415 := Aside0.mk (Kd.N_elder' (tN HO415.out) (Kd.R_base ho36) hb); have HO432 := Aside0.mk (Kd.R_lower (Kd.R_newM (M := fun k_ => (w.heap.size ≤ k_)) ho36 (keep_size (w := w) (g := g) (row := none) zk) (fun k_ h_ => h_)) (keep_size (w := w) (g := g) (row := none) zk)); replace HI0 := tIb81 HI0 hb; replace BK410 := tBb BK410 hb; replace BK417 := tBb BK417 hb; replace HK := tKb HK hb; replace HB := tBs HB hb; clear hb ho36) | ((with_reducible refine gate_callee (f := 27) rfl ?_); refine goesL_ (some 34) rfl rfl Try.func27 (by kernel_rfl) rfl #[.pointer (some ⟨g, 0, none⟩), .int .i64 2] rfl tq ?_; (with_reducible refine (spec_l6Rd_pick.calls k g s0_0 t429 2 t433 t434 w0 _ ?side1 ?side2 A23.out).mono ?_); (case side1 => exact zi81); (case side2 => exact zb); rintro e w37 ⟨rfl, hi, hb, hk⟩; refine ⟨_, rfl, ?_⟩; replace BK410 := tBk BK410 hk NB410_0; replace HO415 := tNk HO415 hk; replace BK417 := tBk BK417 hk NB417_0; replace HO432 := tRp81 HO432 HI0 hk; replace HK := tKt HK hk; replace HB := Aside0.mk (hb); replace HI0 := Aside0.mk (hi); (try clear hb); (try clear hb2); (try clear hk); (try clear hi)) | ((with_reducible refine gate_dst (N := 35) rfl ?_); refine Kd.R_lit (Kd.int .i64) _ 3 ?hg (N := 35) ?hd (xs := ([t433] : List Int)) (inner := [.int .i64 t433]) (ok := fun _ => True) (okp := fun _ => True) ?hr ?hp (fun _ hk => hk) trivial (Below.refl _ _) (Nat.le_refl _) (by simp) ?_; (case hd => rfl); (case hg => rfl); (case hr => first | (go_simp; done) | (go_simp; rfl)); (case hp => exact (Reps.one (show Kd.M (Kd.int .i64) _ _ _ t433 [.int .i64 t433] from rfl) (Reps.none _ _))); intro v436 w38 ho39 hb hg_ hnew_; clear hg_ hnew_; (first | rw [← Ny435.out] at ho39 | (simp only [Int.reduceToNat] at ho39; rw [← Ny435.out] at ho39)); replace HO415 := Aside0.mk (Kd.N_elder' (tN HO415.out) (Kd.R_base ho39) hb); have HO437 := Aside0.mk (Kd.R_lower (Kd.R_new' (Kd.R_newM (M := fun k_ => (w.heap.size ≤ k_)) ho39 (keep_size (w := w) (g := g) (row := none) zk) (fun k_ h_ => h_)) (Kd.R_lt (tR HO432.out))) (keep_size (w := w) (g := g) (row := none) zk)); replace HO432 := Aside0.mk (Kd.R_elder' (tR HO432.out) (Kd.R_base ho39) hb); replace HI0 := tIb81 HI0 hb; replace BK410 := tBb BK410 hb; replace BK417 := tBb BK417 hb; replace HK := tKb HK hb; replace HB := tBs HB hb; clear hb ho39; obtain ⟨Ao40, co40, eo40⟩ := Kd.R_slice HO437.out; subst eo40; obtain ⟨Ao41, co41, eo41⟩ := Kd.R_slice HO432.out; subst eo41) | ((with_reducible refine gate_dst (N := 37) rfl ?_); refine Kd.N_lit k78 _ 78 ?hg (N' := 37) ?hd (xs := ([(⟨a1, t428, false, y430, true, y435⟩ : S78)] : List (S78))) (inner := [.int .i64 a1, .int .i64 t428, .bool false, .slice Ao41 y430.length co41, .bool true, .slice Ao40 y435.length co40]) (ok := (fun k_ => (w.heap.size ≤ k_) ∧ some k_ ≠ (.slice Ao10 t413.length co10 : Value).ownBlock ∧ k_ ≠ gb410 ∧ k_ ≠ gb417 ∧ k_ ≠ g)) (okp := (fun k_ => (w.heap.size ≤ k_) ∧ some k_ ≠ (.slice Ao10 t413.length co10 : Value).ownBlock ∧ k_ ≠ gb410 ∧ k_ ≠ gb417 ∧ k_ ≠ g)) ?hr ?hp (fun _ hk => hk) ((show ∀ k_, w38.heap.size ≤ k_ → (fun k_ => (w.heap.size ≤ k_) ∧ some k_ ≠ (.slice Ao10 t413.length co10 : Value).ownBlock ∧ k_ ≠ gb410 ∧ k_ ≠ gb417 ∧ k_ ≠ g) k_ from fun k_ hk => ⟨(Nat.le_trans (keep_size (w := w) (g := g) (row := none) zk) hk), tfr HO415 k_ hk, tfB BK410 k_ hk, tfB BK417 k_ hk, IsS81.fresh zi81 k_ hk⟩) _ (Nat.le_refl _)) (Below.refl _ _) (Nat.le_refl _) (by simp) ?_; (case hd => rfl); (case hg => rfl); (case hr => first | (go_simp; done) | (go_simp; rfl)); (case hp => exact (Reps.c6 (show Kd.FK k78 _ _ (⟨a1, t428, false, y430, true, y435⟩ : S78) [.int .i64 a1, .int .i64 t428, .bool false, .slice Ao41 y430.length co41, .bool true, .slice Ao40 y435.length co40] from (k78_mkF _ _ (⟨a1, t428, false, y430, true, y435⟩ : S78) (Kd.R_reads' (Kd.R_mono (ok' := (fun k_ => (w.heap.size ≤ k_) ∧ some k_ ≠ (.slice Ao10 t413.length co10 : Value).ownBlock ∧ k_ ≠ gb410 ∧ k_ ≠ gb417 ∧ k_ ≠ g)) (IsS81.apart HI0.out (Kd.R_types (Kd.R_types (Kd.R_apart' (HO432.out) (Kd.N_typed HO415.out) (by decide)) BK410.out (by decide)) BK417.out (by decide)) (by decide)) (fun k_ hk => ⟨hk.1.1.1.1.1.1, ⟨hk.1.1.1.2, ⟨hk.1.1.2, ⟨hk.1.2, hk.2⟩⟩⟩⟩))).2.1 (Kd.R_F (Kd.R_mono (ok' := (fun k_ => (w.heap.size ≤ k_) ∧ some k_ ≠ (.slice Ao10 t413.length co10 : Value).ownBlock ∧ k_ ≠ gb410 ∧ k_ ≠ gb417 ∧ k_ ≠ g)) (IsS81.apart HI0.out (Kd.R_types (Kd.R_types (Kd.R_apart' (HO432.out) (Kd.N_typed HO415.out) (by decide)) BK410.out (by decide)) BK417.out (by decide)) (by decide)) (fun k_ hk => ⟨hk.1.1.1.1.1.1, ⟨hk.1.1.1.2, ⟨hk.1.1.2, ⟨hk.1.2, hk.2⟩⟩⟩⟩))) (Kd.R_reads' (Kd.R_mono (ok' := (fun k_ => (w.heap.size ≤ k_) ∧ some k_ ≠ (.slice Ao10 t413.length co10 : Value).ownBlock ∧ k_ ≠ gb410 ∧ k_ ≠ gb417 ∧ k_ ≠ g)) (IsS81.apart HI0.out (Kd.R_types (Kd.R_types (Kd.R_apart' (HO437.out) (Kd.N_typed HO415.out) (by decide)) BK410.out (by decide)) BK417.out (by decide)) (by decide)) (fun k_ hk => ⟨hk.1.1.1.1.1.1, ⟨hk.1.1.1.2, ⟨hk.1.1.2, ⟨hk.1.2, hk.2⟩⟩⟩⟩))).2.1 (Kd.R_F (Kd.R_mono (ok' := (fun k_ => (w.heap.size ≤ k_) ∧ some k_ ≠ (.slice Ao10 t413.length co10 : Value).ownBlock ∧ k_ ≠ gb410 ∧ k_ ≠ gb417 ∧ k_ ≠ g)) (IsS81.apart HI0.out (Kd.R_types (Kd.R_types (Kd.R_apart' (HO437.out) (Kd.N_typed HO415.out) (by decide)) BK410.out (by decide)) BK417.out (by decide)) (by decide)) (fun k_ hk => ⟨hk.1.1.1.1.1.1, ⟨hk.1.1.1.2, ⟨hk.1.1.2, ⟨hk.1.2, hk.2⟩⟩⟩⟩))))) (Reps.none _ _))); intro v439 w42 ho43 hb hg_ hnew_; clear hg_ hnew_; (first | rw [← Ny438.out] at ho43 | (simp only [Int.reduceToNat] at ho43; rw [← Ny438.out] at ho43)); replace HO415 := tNe HO415 ho43 hb; have HO440 := Aside0.mk (Kd.N_lower ho43 (keep_size (w := w) (g := g) (row := none) zk)); replace HI0 := tIb81 HI0 hb; replace BK410 := tBb BK410 hb; replace BK417 := tBb BK417 hb; replace HK := tKb HK hb; replace HB := tBs HB hb; clear HO432 HO437; clear hb ho43; obtain ⟨Ao44, co44, eo44⟩ := Kd.N_slice HO440.out; subst eo44; obtain ⟨hcz45_0, hcz45_1, hcz45_2, hcz45_3, hcz45_4, hcz45_5, hfz45_0, hfz45_1, hfz45_2, hfz45_3, hfz45_4, hfz45_5⟩ := cells6 BK417.out))
    go_meet
    case rel => exact ⟨_, (t434), (true), (t420), (t422), (t424), (y438), (.slice Ao44 y438.length co44), H', ⟨by first | omega | exact Nat.le_refl _⟩, ⟨tNm HO440.out⟩, ⟨tH BK410.out⟩, ⟨tP BK417.out⟩, ⟨zi81⟩, ⟨zk⟩, ⟨zb⟩⟩
   ·rw [if_neg c21] at H
    have c21b0 : (t426 == 0) = false := beq_eq_false_iff_ne.mpr c21
    have c21b1 : (t426 != 0) = true := bne_iff_ne.mpr c21
    have H' := Aside0.mk H
    clear H
    go_wp2_with (first | ((with_reducible refine gate_callee (f := 27) rfl ?_); refine goesL_ (some 17) rfl rfl Try.func27 (by kernel_rfl) rfl #[.pointer (some ⟨g, 0, none⟩), .int .i64 3] rfl tq ?_; (with_reducible refine (spec_l6Rd_pick.calls k g s0_0 t419 3 t420 t421 w0 _ ?side1 ?side2 A17.out).mono ?_); (case side1 => exact zi81); (case side2 => exact zb); rintro e w46 ⟨rfl, hi, hb, hk⟩; refine ⟨_, rfl, ?_⟩; replace BK410 := tBk BK410 hk NB410_0; replace HO415 := tNk HO415 hk; replace BK417 := tBk BK417 hk NB417_0; replace HK := tKt HK hk; replace HB := Aside0.mk (hb); replace HI0 := Aside0.mk (hi); (try clear hb); (try clear hb2); (try clear hk); (try clear hi); have hnb47 := NB417_410.out; have hnc47 := NB410_417.out; have hnb48 := NB417_0.out; have hnc48 := NB0_417.out; obtain ⟨hcz49_0, hcz49_1, hcz49_2, hcz49_3, hcz49_4, hcz49_5, hfz49_0, hfz49_1, hfz49_2, hfz49_3, hfz49_4, hfz49_5⟩ := cells6 BK417.out) | ((with_reducible refine gate_callee (f := 27) rfl ?_); refine goesL_ (some 20) rfl rfl Try.func27 (by kernel_rfl) rfl #[.pointer (some ⟨g, 0, none⟩), .int .i64 3] rfl tq ?_; (with_reducible refine (spec_l6Rd_pick.calls k g s0_0 t421 3 t422 t423 w0 _ ?side1 ?side2 A18.out).mono ?_); (case side1 => exact zi81); (case side2 => exact zb); rintro e w50 ⟨rfl, hi, hb, hk⟩; refine ⟨_, rfl, ?_⟩; replace BK410 := tBk BK410 hk NB410_0; replace HO415 := tNk HO415 hk; replace BK417 := tBq (o' := .cells #[.bool (t411 == 0), .bool false, .int .i64 t420, .int .i64 0, .int .i64 0, .slice Ao10 t413.length co10] 75 (0, 0)) BK417 hk NB417_0; replace HK := tKt HK hk; replace HB := Aside0.mk (hb); replace HI0 := Aside0.mk (hi); (try clear hb); (try clear hb2); (try clear hk); (try clear hi); obtain ⟨hcz51_0, hcz51_1, hcz51_2, hcz51_3, hcz51_4, hcz51_5, hfz51_0, hfz51_1, hfz51_2, hfz51_3, hfz51_4, hfz51_5⟩ := cells6 BK417.out) | ((with_reducible refine gate_callee (f := 27) rfl ?_); refine goesL_ (some 23) rfl rfl Try.func27 (by kernel_rfl) rfl #[.pointer (some ⟨g, 0, none⟩), .int .i64 5] rfl tq ?_; (with_reducible refine (spec_l6Rd_pick.calls k g s0_0 t423 5 t424 t425 w0 _ ?side1 ?side2 A19.out).mono ?_); (case side1 => exact zi81); (case side2 => exact zb); rintro e w52 ⟨rfl, hi, hb, hk⟩; refine ⟨_, rfl, ?_⟩; replace BK410 := tBk BK410 hk NB410_0; replace HO415 := tNk HO415 hk; replace BK417 := tBq (o' := .cells #[.bool (t411 == 0), .bool false, .int .i64 t420, .int .i64 t422, .int .i64 0, .slice Ao10 t413.length co10] 75 (0, 0)) BK417 hk NB417_0; replace HK := tKt HK hk; replace HB := Aside0.mk (hb); replace HI0 := Aside0.mk (hi); (try clear hb); (try clear hb2); (try clear hk); (try clear hi); obtain ⟨hcz53_0, hcz53_1, hcz53_2, hcz53_3, hcz53_4, hcz53_5, hfz53_0, hfz53_1, hfz53_2, hfz53_3, hfz53_4, hfz53_5⟩ := cells6 BK417.out) | ((with_reducible refine gate_callee (f := 27) rfl ?_); refine goesL_ (some 26) rfl rfl Try.func27 (by kernel_rfl) rfl #[.pointer (some ⟨g, 0, none⟩), .int .i64 3] rfl tq ?_; (with_reducible refine (spec_l6Rd_pick.calls k g s0_0 t425 3 t426 t427 w0 _ ?side1 ?side2 A20.out).mono ?_); (case side1 => exact zi81); (case side2 => exact zb); rintro e w54 ⟨rfl, hi, hb, hk⟩; refine ⟨_, rfl, ?_⟩; replace BK410 := tBk BK410 hk NB410_0; replace HO415 := tNk HO415 hk; replace BK417 := tBq (o' := .cells #[.bool (t411 == 0), .bool false, .int .i64 t420, .int .i64 t422, .int .i64 t424, .slice Ao10 t413.length co10] 75 (0, 0)) BK417 hk NB417_0; replace HK := tKt HK hk; replace HB := Aside0.mk (hb); replace HI0 := Aside0.mk (hi); (try clear hb); (try clear hb2); (try clear hk); (try clear hi)))
    go_meet
    case rel => exact ⟨_, (t427), (false), (t420), (t422), (t424), (t413), (.slice Ao10 t413.length co10), H', ⟨by first | omega | exact Nat.le_refl _⟩, ⟨tNm HO415.out⟩, ⟨tH BK410.out⟩, ⟨tH BK417.out⟩, ⟨zi81⟩, ⟨zk⟩, ⟨zb⟩⟩
  ·rw [if_neg c16] at H
   have c16b0 : (t418 == 0) = false := beq_eq_false_iff_ne.mpr c16
   have c16b1 : (t418 != 0) = true := bne_iff_ne.mpr c16
   (first | rw [c16b0] | (simp only [i64_w, i32_w]; rw [c16b0]) | skip)
   have H' := Aside0.mk H
   clear H
   go_wp2
   go_meet
   case rel => exact ⟨_, (t419), (false), (255), (0), (0), (t413), (.slice Ao10 t413.length co10), H', ⟨by first | omega | exact Nat.le_refl _⟩, ⟨tNm HO415.out⟩, ⟨tH BK410.out⟩, ⟨tH BK417.out⟩, ⟨zi81⟩, ⟨zk⟩, ⟨zb⟩⟩
 case rest =>
  clear HC6
  try clear hcz14_0; try clear hcz14_1; try clear hcz14_2; try clear hcz14_3; try clear hcz14_4; try clear hcz14_5; try clear hfz14_0; try clear hfz14_1; try clear hfz14_2; try clear hfz14_3; try clear hfz14_4; try clear hfz14_5
  obtain ⟨kq, x1001_5, x418001_5, x418002_5, x418003_5, x418004_5, x418005_5, u418005, HA, HJ5, HO_418005, BK410, BK417, HI0, HK, HB⟩ := hcut
  cases kq with
  | zero => exact absurd HA.out (by simp [spec_l91Batch.j0])
  | succ kj5 =>
   have H := HA.out
   clear HA
   simp only [spec_l91Batch.j0] at H
   replace H := tbe H
   obtain ⟨⟨t441, t442⟩, A55, H⟩ := H
   dsimp only at H
   by_cases c56 : t441 = 0
   ·rw [if_pos c56] at H
    have c56b0 : (t441 == 0) = true := beq_iff_eq.mpr c56
    have c56b1 : (t441 != 0) = false := bne_eq_false_iff_eq.mpr c56
    clear c56
    obtain ⟨y443, hy443⟩ : ∃ y_ : List Int, y_ = (([(-1), 1, 100] : List Int)) := ⟨_, rfl⟩
    replace H : ((spec_l6Rd_pick.f kj5 s0_0 t442 3).bind fun bt446 => (if 0 ≤ bt446.1 then (if bt446.1 < (y443.length : Int) then (some ((t411 == 0), x418001_5, x418002_5, rd y443 bt446.1, x418004_5, x418005_5, bt446.2)) else (none)) else (none))) = some (r1, r2, r3, r4, r5, r6, r7) := by first | (rw [hy443]; with_reducible exact H) | (have H2_ := (Option.bind_some _ _).symm.trans H; rw [hy443]; with_reducible exact H2_) | (have H2_ := (Option.bind_some _ _).symm.trans H; with_reducible exact H2_) | with_reducible exact H | (rw [hy443]; exact H) | exact H
    have Ny443 := Aside0.mk hy443
    clear hy443
    replace H := tbe H
    obtain ⟨⟨t446, t447⟩, A57, H⟩ := H
    dsimp only at H
    by_cases c58 : 0 ≤ t446
    ·rw [if_pos c58] at H
     have c58b0 : decide (0 ≤ t446) = true := decide_eq_true c58
     clear c58
     by_cases c59 : t446 < (y443.length : Int)
     ·rw [if_pos c59] at H
      have c59b0 : decide (t446 < (y443.length : Int)) = true := decide_eq_true c59
      clear c59
      simp only [Option.some.injEq, Prod.mk.injEq] at H
      obtain ⟨rfl, rfl, rfl, rfl, rfl, rfl, rfl⟩ := H
      go_wp2_with (first | ((with_reducible refine gate_callee (f := 27) rfl ?_); refine goesL_ (some 40) rfl rfl Try.func27 (by kernel_rfl) rfl #[.pointer (some ⟨g, 0, none⟩), .int .i64 40] rfl tq ?_; (with_reducible refine (spec_l6Rd_pick.calls kj5 g s0_0 x1001_5 40 t441 t442 w0 _ ?side1 ?side2 A55.out).mono ?_); (case side1 => exact zi81); (case side2 => exact zb); rintro e w60 ⟨rfl, hi, hb, hk⟩; refine ⟨_, rfl, ?_⟩; replace HO_418005 := tNk HO_418005 hk; replace BK410 := tBk BK410 hk NB410_0; replace BK417 := tBk BK417 hk NB417_0; replace HK := tKt HK hk; replace HB := Aside0.mk (hb); replace HI0 := Aside0.mk (hi); (try clear hb); (try clear hb2); (try clear hk); (try clear hi)) | ((with_reducible refine gate_dst (N := 43) rfl ?_); refine Kd.R_lit (Kd.int .i64) _ 3 ?hg (N := 43) ?hd (xs := ([(-1), 1, 100] : List Int)) (inner := [.int .i64 (-1), .int .i64 1, .int .i64 100]) (ok := fun _ => True) (okp := fun _ => True) ?hr ?hp (fun _ hk => hk) trivial (Below.refl _ _) (Nat.le_refl _) (by simp) ?_; (case hd => rfl); (case hg => rfl); (case hr => first | (go_simp; done) | (go_simp; rfl)); (case hp => exact (Reps.one (show Kd.M (Kd.int .i64) _ _ _ (-1) [.int .i64 (-1)] from rfl) (Reps.one (show Kd.M (Kd.int .i64) _ _ _ 1 [.int .i64 1] from rfl) (Reps.one (show Kd.M (Kd.int .i64) _ _ _ 100 [.int .i64 100] from rfl) (Reps.none _ _))))); intro v444 w61 ho62 hb hg_ hnew_; clear hg_ hnew_; (first | rw [← Ny443.out] at ho62 | (simp only [Int.reduceToNat] at ho62; rw [← Ny443.out] at ho62)); replace HO_418005 := Aside0.mk (Kd.N_elder' (tN HO_418005.out) (Kd.R_base ho62) hb); have HO445 := Aside0.mk (Kd.R_lower (Kd.R_newM (M := fun k_ => (w.heap.size ≤ k_)) ho62 (keep_size (w := w) (g := g) (row := none) zk) (fun k_ h_ => h_)) (keep_size (w := w) (g := g) (row := none) zk)); replace BK410 := tBb BK410 hb; replace BK417 := tBb BK417 hb; replace HI0 := tIb81 HI0 hb; replace HK := tKb HK hb; replace HB := tBs HB hb; clear hb ho62) | ((with_reducible refine gate_callee (f := 27) rfl ?_); refine goesL_ (some 45) rfl rfl Try.func27 (by kernel_rfl) rfl #[.pointer (some ⟨g, 0, none⟩), .int .i64 3] rfl tq ?_; (with_reducible refine (spec_l6Rd_pick.calls kj5 g s0_0 t442 3 t446 t447 w0 _ ?side1 ?side2 A57.out).mono ?_); (case side1 => exact zi81); (case side2 => exact zb); rintro e w63 ⟨rfl, hi, hb, hk⟩; refine ⟨_, rfl, ?_⟩; replace HO_418005 := tNk HO_418005 hk; replace BK410 := tBk BK410 hk NB410_0; replace BK417 := tBk BK417 hk NB417_0; replace HO445 := tRp81 HO445 HI0 hk; replace HK := tKt HK hk; replace HB := Aside0.mk (hb); replace HI0 := Aside0.mk (hi); (try clear hb); (try clear hb2); (try clear hk); (try clear hi); obtain ⟨Ao64, co64, eo64⟩ := Kd.R_slice HO445.out; subst eo64; have p448 : 0 ≤ (t446 : Int) := td; have q448 : t446 < (y443.length : Int) := td; obtain ⟨ad448, e448, hx448_0⟩ := Kd.at_int (Kd.R_reads' HO445.out).2.2 t446 p448 q448; cases e448; replace p448 := eq_true p448; replace q448 := eq_true q448; have hnb65 := NB417_410.out; have hnc65 := NB410_417.out; have hnb66 := NB417_0.out; have hnc66 := NB0_417.out; obtain ⟨hcz67_0, hcz67_1, hcz67_2, hcz67_3, hcz67_4, hcz67_5, hfz67_0, hfz67_1, hfz67_2, hfz67_3, hfz67_4, hfz67_5⟩ := cells6 BK417.out; have hnb68 := NB410_0.out; have hnc68 := NB0_410.out; obtain ⟨hcz69_0, hcz69_1, hcz69_2, hcz69_3, hcz69_4, hcz69_5, hfz69_0, hfz69_1, hfz69_2, hfz69_3, hfz69_4, hfz69_5⟩ := cells6 BK410.out; obtain ⟨Ao70, co70, eo70⟩ := Kd.N_slice HO_418005.out; subst eo70))
      refine bodyPost_ret (results_cell_row rfl _ _ gb410 75 #[.bool (t411 == 0), .bool x418001_5, .int .i64 x418002_5, .int .i64 (rd y443 t446), .int .i64 x418004_5, .slice Ao70 x418005_5.length co70] (0, 0) _ rfl (tP BK410.out) Try.underlying75 rfl (by kernel_rfl)) rfl ?_
      exact ⟨_, by first | rfl | (simp [errW_none, errW_some] <;> rfl) | (simp [*, errW_none, errW_some] <;> rfl), by (with_reducible repeat (first | apply Kd.N_alloc | apply Kd.N_drewN | apply Kd.N_drew)); exact Kd.N_mono (Kd.N_far (p := ⟨gb410, 5, none⟩) (Kd.N_far (p := ⟨gb410, 4, none⟩) (Kd.N_far (p := ⟨gb410, 3, none⟩) (Kd.N_far (p := ⟨gb410, 2, none⟩) (Kd.N_far (p := ⟨gb410, 1, none⟩) (Kd.N_far (p := ⟨gb410, 0, none⟩) (Kd.N_far (p := ⟨gb417, 3, none⟩) (Kd.N_mono (Kd.N_mono HO_418005.out (fun k_ hk => (⟨hk, hk.1.2.2.1⟩ : _ ∧ k_ ≠ gb417))) (fun k_ hk => (⟨hk, hk.1.1.2.1⟩ : _ ∧ k_ ≠ gb410))) (fun _ hk => hk.1.2) (.int .i64 (rd y443 t446))) (fun _ hk => hk.2) (.bool (t411 == 0))) (fun _ hk => hk.2) (.bool x418001_5)) (fun _ hk => hk.2) (.int .i64 x418002_5)) (fun _ hk => hk.2) (.int .i64 (rd y443 t446))) (fun _ hk => hk.2) (.int .i64 x418004_5)) (fun _ hk => hk.2) (.slice Ao70 x418005_5.length co70)) (fun _ hk => hk.1.1.1.1), zi81, zb, zk⟩
     ·rw [if_neg c59] at H
      exact absurd H (by simp)
    ·rw [if_neg c58] at H
     exact absurd H (by simp)
   ·rw [if_neg c56] at H
    have c56b0 : (t441 == 0) = false := beq_eq_false_iff_ne.mpr c56
    have c56b1 : (t441 != 0) = true := bne_iff_ne.mpr c56
    by_cases c71 : t441 = 1
    ·rw [if_pos c71] at H
     have c71b0 : (t441 == 1) = true := beq_iff_eq.mpr c71
     have c71b1 : (t441 != 1) = false := bne_eq_false_iff_eq.mpr c71
     clear c71
     by_cases c72 : 0 < (x418005_5.length : Int)
     ·rw [if_pos c72] at H
      have c72b0 : decide (0 < (x418005_5.length : Int)) = true := decide_eq_true c72
      have c72b1 : decide (0 < x418005_5.length) = true := decide_eq_true (by omega)
      clear c72
      by_cases c73 : x418005_5.length < 1759218604441
      ·rw [if_pos c73] at H
       have LMc73 := Aside0.mk c73
       clear c73
       obtain ⟨y450, hy450⟩ : ∃ y_ : List (S78), y_ = (x418005_5 ++ [(⟨(rd_T78 x418005_5 0).f0, (rd_T78 x418005_5 0).f1, (rd_T78 x418005_5 0).f2, (rd_T78 x418005_5 0).f3, (rd_T78 x418005_5 0).f4, (rd_T78 x418005_5 0).f5⟩ : S78)]) := ⟨_, rfl⟩
       replace H : (some ((t411 == 0), x418001_5, x418002_5, x418003_5, x418004_5, y450, t442)) = some (r1, r2, r3, r4, r5, r6, r7) := by first | (rw [hy450]; with_reducible exact H) | (have H2_ := (Option.bind_some _ _).symm.trans H; rw [hy450]; with_reducible exact H2_) | (have H2_ := (Option.bind_some _ _).symm.trans H; with_reducible exact H2_) | with_reducible exact H | (rw [hy450]; exact H) | exact H
       have Ny450 := Aside0.mk hy450
       clear hy450
       simp only [Option.some.injEq, Prod.mk.injEq] at H
       obtain ⟨rfl, rfl, rfl, rfl, rfl, rfl, rfl⟩ := H
       try go_wp2_with (first | ((with_reducible refine gate_callee (f := 27) rfl ?_); refine goesL_ (some 40) rfl rfl Try.func27 (by kernel_rfl) rfl #[.pointer (some ⟨g, 0, none⟩), .int .i64 40] rfl tq ?_; (with_reducible refine (spec_l6Rd_pick.calls kj5 g s0_0 x1001_5 40 t441 t442 w0 _ ?side1 ?side2 A55.out).mono ?_); (case side1 => exact zi81); (case side2 => exact zb); rintro e w74 ⟨rfl, hi, hb, hk⟩; refine ⟨_, rfl, ?_⟩; replace HO_418005 := tNk HO_418005 hk; replace BK410 := tBk BK410 hk NB410_0; replace BK417 := tBk BK417 hk NB417_0; replace HK := tKt HK hk; replace HB := Aside0.mk (hb); replace HI0 := Aside0.mk (hi); (try clear hb); (try clear hb2); (try clear hk); (try clear hi)))
       replace HO_418005 := Aside0.mk (Kd.N_drew HO_418005.out)
       replace BK410 := Aside0.mk (blk_drew BK410.out)
       replace BK417 := Aside0.mk (blk_drew BK417.out)
       replace HI0 := Aside0.mk (IsS81.drew HI0.out)
       replace HK := Aside0.mk (keep_drew HK.out)
       replace HB := Aside0.mk (below_drew1 HB.out)
       obtain ⟨Ao76, co76, eo76⟩ := Kd.N_slice HO_418005.out
       (first | subst eo76 | (injection eo76 with f1_ f2_ f3_; have f4_ := f1_.symm; have f5_ := f3_.symm; clear f1_ f2_ f3_; subst f4_; subst f5_))
       have p449 : 0 ≤ (0 : Int) := (by omega)
       have q449 : 0 < (x418005_5.length : Int) := td
       obtain ⟨ad449, A449_3, c449_3, A449_5, c449_5, e449, hx449_0, hx449_1, hx449_2, hx449_3, hx449_4, hx449_5, hl449_3, hi449_3, hl449_5, hi449_5⟩ := at_T78 (Kd.N_reads' HO_418005.out).2.2 0 p449 q449
       cases e449
       obtain ⟨ce449, hce449, hMe449, hcc449⟩ := Kd.N_get HO_418005.out z78 0 p449 (by first | exact q449 | exact td | (have e_ := (Kd.N_reads' HO_418005.out).1; omega))
       obtain ⟨ua449_3, uc449_3, ua449_5, uc449_5, rfl, ul449_3, ge449_3, ul449_5, ge449_5⟩ := k78_openF hMe449
       have hv449_3 := hcc449 3 _ rfl
       rw [add_field _ _ 3 (by omega)] at hv449_3
       replace hv449_3 := Option.some.inj (hv449_3.symm.trans hx449_3)
       injection hv449_3 with hva_ hvn_ hvc_
       rw [hva_] at ge449_3
       rw [hvc_] at ul449_3
       have HL449_3 := Aside0.mk (show Kd.V (Kd.int .i64) 3 _ w.heap.size _ _ ((rd_T78 x418005_5 0).f3) from Kd.V_mk ul449_3 ge449_3)
       clear hva_ hvn_ hvc_ ge449_3 ul449_3
       have hv449_5 := hcc449 5 _ rfl
       rw [add_field _ _ 5 (by omega)] at hv449_5
       replace hv449_5 := Option.some.inj (hv449_5.symm.trans hx449_5)
       injection hv449_5 with hva_ hvn_ hvc_
       rw [hva_] at ge449_5
       rw [hvc_] at ul449_5
       have HL449_5 := Aside0.mk (show Kd.V (Kd.int .i64) 3 _ w.heap.size _ _ ((rd_T78 x418005_5 0).f5) from Kd.V_mk ul449_5 ge449_5)
       clear hva_ hvn_ hvc_ ge449_5 ul449_5
       clear hcc449 hce449
       have qi449 : (0 < x418005_5.length) = True := eq_true (by omega)
       (try rw [show ((0 : Int)).toNat = 0 from rfl] at hx449_0)
       (try rw [show 0 * 6 = 0 from rfl] at hx449_0)
       (try rw [Addr.add_zero'] at hx449_0)
       (try rw [show ((0 : Int)).toNat = 0 from rfl] at hx449_1)
       (try rw [show 0 * 6 = 0 from rfl] at hx449_1)
       (try rw [Addr.add_zero'] at hx449_1)
       (try rw [show ((0 : Int)).toNat = 0 from rfl] at hx449_2)
       (try rw [show 0 * 6 = 0 from rfl] at hx449_2)
       (try rw [Addr.add_zero'] at hx449_2)
       (try rw [show ((0 : Int)).toNat = 0 from rfl] at hx449_3)
       (try rw [show 0 * 6 = 0 from rfl] at hx449_3)
       (try rw [Addr.add_zero'] at hx449_3)
       (try rw [show ((0 : Int)).toNat = 0 from rfl] at hx449_4)
       (try rw [show 0 * 6 = 0 from rfl] at hx449_4)
       (try rw [Addr.add_zero'] at hx449_4)
       (try rw [show ((0 : Int)).toNat = 0 from rfl] at hx449_5)
       (try rw [show 0 * 6 = 0 from rfl] at hx449_5)
       (try rw [Addr.add_zero'] at hx449_5)
       have HR449_3 := Aside0.mk hi449_3
       have HC449_3 := Aside0.mk hl449_3
       clear hi449_3 hl449_3
       have HR449_5 := Aside0.mk hi449_5
       have HC449_5 := Aside0.mk hl449_5
       clear hi449_5 hl449_5
       replace p449 := eq_true p449
       replace q449 := eq_true q449
       refine start_ (n := 10) (S := fun w' => w'.cell? ⟨gb417, 0, none⟩ = some (.bool (t411 == 0)) ∧ w'.cell? ⟨gb417, 1, none⟩ = some (.bool x418001_5) ∧ w'.cell? ⟨gb417, 2, none⟩ = some (.int .i64 x418002_5) ∧ w'.cell? ⟨gb417, 3, none⟩ = some (.int .i64 x418003_5) ∧ w'.cell? ⟨gb417, 4, none⟩ = some (.int .i64 x418004_5) ∧ w'.cell? ⟨gb417, 5, none⟩ = some (.slice (some ad449) x418005_5.length co76) ∧ w'.cell? ad449 = some (.int .i64 ((rd_T78 x418005_5 0).f0)) ∧ w'.cell? ⟨ad449.block, ad449.off + 1, none⟩ = some (.int .i64 ((rd_T78 x418005_5 0).f1)) ∧ w'.cell? ⟨ad449.block, ad449.off + 2, none⟩ = some (.bool ((rd_T78 x418005_5 0).f2)) ∧ w'.cell? ⟨ad449.block, ad449.off + 3, none⟩ = some (.slice A449_3 ((rd_T78 x418005_5 0).f3).length c449_3) ∧ w'.cell? ⟨ad449.block, ad449.off + 4, none⟩ = some (.bool ((rd_T78 x418005_5 0).f4)) ∧ w'.cell? ⟨ad449.block, ad449.off + 5, none⟩ = some (.slice A449_5 ((rd_T78 x418005_5 0).f5).length c449_5)) (ds := [7, 9]) #[false, false, false, false, false, false, false, false, false, false] (by kernel_rfl) rfl rfl ⟨(blk_cell BK417.out 0).trans rfl, (blk_cell BK417.out 1).trans rfl, (blk_cell BK417.out 2).trans rfl, (blk_cell BK417.out 3).trans rfl, (blk_cell BK417.out 4).trans rfl, (blk_cell BK417.out 5).trans rfl, hx449_0, hx449_1, hx449_2, hx449_3, hx449_4, hx449_5⟩ (fun hHeld => ?_); refine with_tabW spec_l91Batch.tab13 spec_l91Batch.bits13 (fun HT_ HW_ => ?_)
       generalize w74.drew = w75 at HO_418005 BK410 BK417 HI0 HK HB HL449_3 HL449_5 HR449_3 HR449_5 hx449_0 hx449_1 hx449_2 hx449_3 hx449_4 hx449_5 hHeld ⊢
       refine tpu 0 (some 51) #[true, false, false, false, false, false, false, false, false, false] ?_
       refine tpu 2 (some 53) #[true, false, true, false, false, false, false, false, false, false] ?_
       refine tta 1 (some 52) #[true, true, true, false, false, false, false, false, false, false] hHeld ?_ (hy := by rintro w' ⟨s0, s1, s2, s3, s4, s5, s6, s7, s8, s9, s10, s11⟩; go_simp; with_reducible rfl)
       refine tta 3 (some 54) #[true, true, true, true, false, false, false, false, false, false] hHeld ?_ (hy := by rintro w' ⟨s0, s1, s2, s3, s4, s5, s6, s7, s8, s9, s10, s11⟩; go_simp; with_reducible rfl)
       refine tpu 4 (some 55) #[true, true, true, true, true, false, false, false, false, false] ?_
       refine tta 5 (some 56) #[true, true, true, true, true, true, false, false, false, false] hHeld ?_ (hy := by rintro w' ⟨s0, s1, s2, s3, s4, s5, s6, s7, s8, s9, s10, s11⟩; go_simp; with_reducible rfl)
       refine one_ (i := 6) (N := some 57) #[true, true, true, true, true, true, true, false, false, false] rfl rfl (one_of HT_.out (by kernel_rfl)) (by decide) (fun K hK => ?_)
       refine value_ (w1 := ?_) (v := ?_) (by rfl) rfl ?_ ?_
       rotate_left 2
       ·go_simp
        constructor
        ·rfl
        ·rfl
       refine hK.out _ _ ⟨(blk_cell (blk_alloc BK417.out _) 0).trans rfl, (blk_cell (blk_alloc BK417.out _) 1).trans rfl, (blk_cell (blk_alloc BK417.out _) 2).trans rfl, (blk_cell (blk_alloc BK417.out _) 3).trans rfl, (blk_cell (blk_alloc BK417.out _) 4).trans rfl, (blk_cell (blk_alloc BK417.out _) 5).trans rfl, (World.cell?_alloc_lt _ _ _ (World.block_lt_of_cell? _ _ (hHeld.2.2.2.2.2.2.1))).trans (hHeld.2.2.2.2.2.2.1), (World.cell?_alloc_lt _ _ _ (World.block_lt_of_cell? _ _ (hHeld.2.2.2.2.2.2.2.1))).trans (hHeld.2.2.2.2.2.2.2.1), (World.cell?_alloc_lt _ _ _ (World.block_lt_of_cell? _ _ (hHeld.2.2.2.2.2.2.2.2.1))).trans (hHeld.2.2.2.2.2.2.2.2.1), (World.cell?_alloc_lt _ _ _ (World.block_lt_of_cell? _ _ (hHeld.2.2.2.2.2.2.2.2.2.1))).trans (hHeld.2.2.2.2.2.2.2.2.2.1), (World.cell?_alloc_lt _ _ _ (World.block_lt_of_cell? _ _ (hHeld.2.2.2.2.2.2.2.2.2.2.1))).trans (hHeld.2.2.2.2.2.2.2.2.2.2.1), (World.cell?_alloc_lt _ _ _ (World.block_lt_of_cell? _ _ (hHeld.2.2.2.2.2.2.2.2.2.2.2))).trans (hHeld.2.2.2.2.2.2.2.2.2.2.2)⟩ (fun hHeld => ?_)
       clear hK K
       refine tnm (some 57) ?_
       refine last_ (i := 7) (N := some 58) #[true, true, true, true, true, true, true, true, false, false] rfl rfl (one_of HT_.out (by kernel_rfl)) (by decide) (fun K hK => ?_)
       refine Kd.N_append_step k78 w.heap.size (by rfl) (.tmp 52) (.tmp 57) 46 78 (.agg #[(.int .i64 0), (.int .i64 0), (.bool false), (.slice none 0 0), (.bool false), (.slice none 0 0)]) 80 rfl Try.underlying46 info78 rfl (by decide) (by omega) (.slice (some ad449) x418005_5.length co76) x418005_5 (⟨(rd_T78 x418005_5 0).f0, (rd_T78 x418005_5 0).f1, (rd_T78 x418005_5 0).f2, (rd_T78 x418005_5 0).f3, (rd_T78 x418005_5 0).f4, (rd_T78 x418005_5 0).f5⟩ : S78) [.int .i64 ((rd_T78 x418005_5 0).f0), .int .i64 ((rd_T78 x418005_5 0).f1), .bool ((rd_T78 x418005_5 0).f2), .slice A449_3 ((rd_T78 x418005_5 0).f3).length c449_3, .bool ((rd_T78 x418005_5 0).f4), .slice A449_5 ((rd_T78 x418005_5 0).f5).length c449_5] (fun k_ => (w.heap.size ≤ k_) ∧ k_ ≠ gb410 ∧ k_ ≠ gb417 ∧ k_ ≠ g) (fun k_ => ((fun k_ => (w.heap.size ≤ k_) ∧ k_ ≠ gb410 ∧ k_ ≠ gb417 ∧ k_ ≠ g)) k_ ∧ some k_ ≠ (.slice (some ad449) x418005_5.length co76 : Value).ownBlock) rfl rfl ?aP (fun _ hk => hk) ?aF ?aO (Below.refl _ _) ?aS ?aL ?_
       (case aP => exact (k78_mkF _ _ (⟨(rd_T78 x418005_5 0).f0, (rd_T78 x418005_5 0).f1, (rd_T78 x418005_5 0).f2, (rd_T78 x418005_5 0).f3, (rd_T78 x418005_5 0).f4, (rd_T78 x418005_5 0).f5⟩ : S78) (Kd.V_reads' (Kd.V_mono (ok' := (fun k_ => ((fun k_ => (w.heap.size ≤ k_) ∧ k_ ≠ gb410 ∧ k_ ≠ gb417 ∧ k_ ≠ g)) k_ ∧ some k_ ≠ (.slice (some ad449) x418005_5.length co76 : Value).ownBlock)) (HL449_3.out) (fun k_ hk => ⟨⟨hk.1.1, ⟨hk.1.2.1, ⟨hk.1.2.2.1, hk.1.2.2.2⟩⟩⟩, hk.2⟩))).2.1 (Kd.V_F (Kd.V_mono (ok' := (fun k_ => ((fun k_ => (w.heap.size ≤ k_) ∧ k_ ≠ gb410 ∧ k_ ≠ gb417 ∧ k_ ≠ g)) k_ ∧ some k_ ≠ (.slice (some ad449) x418005_5.length co76 : Value).ownBlock)) (HL449_3.out) (fun k_ hk => ⟨⟨hk.1.1, ⟨hk.1.2.1, ⟨hk.1.2.2.1, hk.1.2.2.2⟩⟩⟩, hk.2⟩))) (Kd.V_reads' (Kd.V_mono (ok' := (fun k_ => ((fun k_ => (w.heap.size ≤ k_) ∧ k_ ≠ gb410 ∧ k_ ≠ gb417 ∧ k_ ≠ g)) k_ ∧ some k_ ≠ (.slice (some ad449) x418005_5.length co76 : Value).ownBlock)) (HL449_5.out) (fun k_ hk => ⟨⟨hk.1.1, ⟨hk.1.2.1, ⟨hk.1.2.2.1, hk.1.2.2.2⟩⟩⟩, hk.2⟩))).2.1 (Kd.V_F (Kd.V_mono (ok' := (fun k_ => ((fun k_ => (w.heap.size ≤ k_) ∧ k_ ≠ gb410 ∧ k_ ≠ gb417 ∧ k_ ≠ g)) k_ ∧ some k_ ≠ (.slice (some ad449) x418005_5.length co76 : Value).ownBlock)) (HL449_5.out) (fun k_ hk => ⟨⟨hk.1.1, ⟨hk.1.2.1, ⟨hk.1.2.2.1, hk.1.2.2.2⟩⟩⟩, hk.2⟩)))))
       (case aF => exact (fun k_ hk => ⟨(Nat.le_trans (keep_size (w := w) (g := g) (row := none) zk) hk), tfB BK410 k_ hk, tfB BK417 k_ hk, IsS81.fresh zi81 k_ hk⟩))
       (case aO => exact (tN HO_418005.out))
       (case aS => exact (keep_size (w := w) (g := g) (row := none) zk))
       (case aL => have := LMc73.out; omega)
       intro v451 w77 ho hb hg hat
       rw [← Ny450.out] at ho
       replace BK410 := Aside0.mk (blk_grown (tH BK410.out) hg (Kd.N_ne HO_418005.out BK410.out (by decide)))
       replace BK417 := Aside0.mk (blk_grown (tH BK417.out) hg (Kd.N_ne HO_418005.out BK417.out (by decide)))
       replace HL449_3 := Aside0.mk (Kd.V_afterv (ok := (fun k_ => (w.heap.size ≤ k_) ∧ k_ ≠ gb410 ∧ k_ ≠ gb417 ∧ k_ ≠ g)) (tV HL449_3.out) hg hat)
       replace HL449_5 := Aside0.mk (Kd.V_afterv (ok := (fun k_ => (w.heap.size ≤ k_) ∧ k_ ≠ gb410 ∧ k_ ≠ gb417 ∧ k_ ≠ g)) (tV HL449_5.out) hg hat)
       replace HB := Aside0.mk (below_weaken zb HL.out hb)
       replace HI0 := Aside0.mk (IsS81.grown zi81 hg (IsS81.own_neN HI0.out HO_418005.out (by decide)))
       replace HK := Aside0.mk (KeepBut.trans zk (KeepBut.of_grown hg g) (Kd.N_base2 HO_418005.out))
       have HO452 := Aside0.mk (ho)
       clear HO_418005
       clear ho hb hg hat
       obtain ⟨Ao78, co78, eo78⟩ := Kd.N_slice HO452.out
       (first | subst eo78 | (injection eo78 with f1_ f2_ f3_; have f4_ := f1_.symm; have f5_ := f3_.symm; clear f1_ f2_ f3_; subst f4_; subst f5_))
       refine hK.out _ _ ?_
       clear hK K
       refine tnm (some 58) ?_
       refine tpu 8 (some 59) #[true, true, true, true, true, true, true, true, true, false] ?_
       refine last_ (i := 9) (N := none) #[true, true, true, true, true, true, true, true, true, true] rfl rfl (one_of HT_.out (by kernel_rfl)) (by decide) (fun K hK => ?_)
       have hs79 : w77.cell? ⟨gb417, 5, none⟩ = some (.slice (some ad449) x418005_5.length co76) := (blk_cell BK417.out 5).trans rfl
       have hfs79 := blk_frozen BK417.out 5
       have hns79_0 := NB410_417.out
       have hms79_0 := NB417_410.out
       refine tsk ?_
       refine hK.out _ _ ?_
       clear hK K
       refine done_ (done_of HT_.out (by kernel_rfl)) ?_
       have hnb80 := NB417_410.out
       have hnc80 := NB410_417.out
       have hnb81 := NB417_0.out
       have hnc81 := NB0_417.out
       obtain ⟨hcz82_0, hcz82_1, hcz82_2, hcz82_3, hcz82_4, hcz82_5, hfz82_0, hfz82_1, hfz82_2, hfz82_3, hfz82_4, hfz82_5⟩ := cells6 BK417.out
       have hnb83 := NB410_0.out
       have hnc83 := NB0_410.out
       obtain ⟨hcz84_0, hcz84_1, hcz84_2, hcz84_3, hcz84_4, hcz84_5, hfz84_0, hfz84_1, hfz84_2, hfz84_3, hfz84_4, hfz84_5⟩ := cells6 BK410.out
       try go_wp2
       refine bodyPost_ret (results_cell_row rfl _ _ gb410 75 #[.bool (t411 == 0), .bool x418001_5, .int .i64 x418002_5, .int .i64 x418003_5, .int .i64 x418004_5, .slice Ao78 y450.length co78] (0, 0) _ rfl (tP BK410.out) Try.underlying75 rfl (by kernel_rfl)) rfl ?_
       exact ⟨_, by first | rfl | (simp [errW_none, errW_some] <;> rfl) | (simp [*, errW_none, errW_some] <;> rfl), by (with_reducible repeat (first | apply Kd.N_alloc | apply Kd.N_drewN | apply Kd.N_drew)); exact Kd.N_mono (Kd.N_far (p := ⟨gb410, 5, none⟩) (Kd.N_far (p := ⟨gb410, 4, none⟩) (Kd.N_far (p := ⟨gb410, 3, none⟩) (Kd.N_far (p := ⟨gb410, 2, none⟩) (Kd.N_far (p := ⟨gb410, 1, none⟩) (Kd.N_far (p := ⟨gb410, 0, none⟩) (Kd.N_far (p := ⟨gb417, 5, none⟩) (Kd.N_mono (Kd.N_mono HO452.out (fun k_ hk => (⟨hk, hk.2.2.1⟩ : _ ∧ k_ ≠ gb417))) (fun k_ hk => (⟨hk, hk.1.2.1⟩ : _ ∧ k_ ≠ gb410))) (fun _ hk => hk.1.2) (.slice Ao78 y450.length co78)) (fun _ hk => hk.2) (.bool (t411 == 0))) (fun _ hk => hk.2) (.bool x418001_5)) (fun _ hk => hk.2) (.int .i64 x418002_5)) (fun _ hk => hk.2) (.int .i64 x418003_5)) (fun _ hk => hk.2) (.int .i64 x418004_5)) (fun _ hk => hk.2) (.slice Ao78 y450.length co78)) (fun _ hk => hk.1.1.1), zi81, zb, zk⟩
      ·rw [if_neg c73] at H
       exact absurd H (by simp)
     ·rw [if_neg c72] at H
      exact absurd H (by simp)
    ·rw [if_neg c71] at H
     have c71b0 : (t441 == 1) = false := beq_eq_false_iff_ne.mpr c71
     have c71b1 : (t441 != 1) = true := bne_iff_ne.mpr c71
     by_cases c85 : t441 = 2
     ·rw [if_pos c85] at H
      have c85b0 : (t441 == 2) = true := beq_iff_eq.mpr c85
      have c85b1 : (t441 != 2) = false := bne_eq_false_iff_eq.mpr c85
      clear c85
      simp only [Option.some.injEq, Prod.mk.injEq] at H
      obtain ⟨rfl, rfl, rfl, rfl, rfl, rfl, rfl⟩ := H
      go_wp2_with (first | ((with_reducible refine gate_callee (f := 27) rfl ?_); refine goesL_ (some 40) rfl rfl Try.func27 (by kernel_rfl) rfl #[.pointer (some ⟨g, 0, none⟩), .int .i64 40] rfl tq ?_; (with_reducible refine (spec_l6Rd_pick.calls kj5 g s0_0 x1001_5 40 t441 t442 w0 _ ?side1 ?side2 A55.out).mono ?_); (case side1 => exact zi81); (case side2 => exact zb); rintro e w86 ⟨rfl, hi, hb, hk⟩; refine ⟨_, rfl, ?_⟩; replace HO_418005 := tNk HO_418005 hk; replace BK410 := tBk BK410 hk NB410_0; replace BK417 := tBk BK417 hk NB417_0; replace HK := tKt HK hk; replace HB := Aside0.mk (hb); replace HI0 := Aside0.mk (hi); (try clear hb); (try clear hb2); (try clear hk); (try clear hi); have hnb87 := NB417_410.out; have hnc87 := NB410_417.out; have hnb88 := NB417_0.out; have hnc88 := NB0_417.out; obtain ⟨hcz89_0, hcz89_1, hcz89_2, hcz89_3, hcz89_4, hcz89_5, hfz89_0, hfz89_1, hfz89_2, hfz89_3, hfz89_4, hfz89_5⟩ := cells6 BK417.out; have hnb90 := NB410_0.out; have hnc90 := NB0_410.out; obtain ⟨hcz91_0, hcz91_1, hcz91_2, hcz91_3, hcz91_4, hcz91_5, hfz91_0, hfz91_1, hfz91_2, hfz91_3, hfz91_4, hfz91_5⟩ := cells6 BK410.out; obtain ⟨Ao92, co92, eo92⟩ := Kd.N_slice HO_418005.out; subst eo92))
      refine bodyPost_ret (results_cell_row rfl _ _ gb410 75 #[.bool (t411 == 0), .bool (!x418001_5), .int .i64 x418002_5, .int .i64 x418003_5, .int .i64 x418004_5, .slice Ao92 x418005_5.length co92] (0, 0) _ rfl (tP BK410.out) Try.underlying75 rfl (by kernel_rfl)) rfl ?_
      exact ⟨_, by first | rfl | (simp [errW_none, errW_some] <;> rfl) | (simp [*, errW_none, errW_some] <;> rfl), by (with_reducible repeat (first | apply Kd.N_alloc | apply Kd.N_drewN | apply Kd.N_drew)); exact Kd.N_mono (Kd.N_far (p := ⟨gb410, 5, none⟩) (Kd.N_far (p := ⟨gb410, 4, none⟩) (Kd.N_far (p := ⟨gb410, 3, none⟩) (Kd.N_far (p := ⟨gb410, 2, none⟩) (Kd.N_far (p := ⟨gb410, 1, none⟩) (Kd.N_far (p := ⟨gb410, 0, none⟩) (Kd.N_far (p := ⟨gb417, 1, none⟩) (Kd.N_mono (Kd.N_mono HO_418005.out (fun k_ hk => (⟨hk, hk.2.2.1⟩ : _ ∧ k_ ≠ gb417))) (fun k_ hk => (⟨hk, hk.1.2.1⟩ : _ ∧ k_ ≠ gb410))) (fun _ hk => hk.1.2) (.bool (!x418001_5))) (fun _ hk => hk.2) (.bool (t411 == 0))) (fun _ hk => hk.2) (.bool (!x418001_5))) (fun _ hk => hk.2) (.int .i64 x418002_5)) (fun _ hk => hk.2) (.int .i64 x418003_5)) (fun _ hk => hk.2) (.int .i64 x418004_5)) (fun _ hk => hk.2) (.slice Ao92 x418005_5.length co92)) (fun _ hk => hk.1.1.1), zi81, zb, zk⟩
     ·rw [if_neg c85] at H
      have c85b0 : (t441 == 2) = false := beq_eq_false_iff_ne.mpr c85
      have c85b1 : (t441 != 2) = true := bne_iff_ne.mpr c85
      simp only [Option.some.injEq, Prod.mk.injEq] at H
      obtain ⟨rfl, rfl, rfl, rfl, rfl, rfl, rfl⟩ := H
      go_wp2_with (first | ((with_reducible refine gate_callee (f := 27) rfl ?_); refine goesL_ (some 40) rfl rfl Try.func27 (by kernel_rfl) rfl #[.pointer (some ⟨g, 0, none⟩), .int .i64 40] rfl tq ?_; (with_reducible refine (spec_l6Rd_pick.calls kj5 g s0_0 x1001_5 40 t441 t442 w0 _ ?side1 ?side2 A55.out).mono ?_); (case side1 => exact zi81); (case side2 => exact zb); rintro e w93 ⟨rfl, hi, hb, hk⟩; refine ⟨_, rfl, ?_⟩; replace HO_418005 := tNk HO_418005 hk; replace BK410 := tBk BK410 hk NB410_0; replace BK417 := tBk BK417 hk NB417_0; replace HK := tKt HK hk; replace HB := Aside0.mk (hb); replace HI0 := Aside0.mk (hi); (try clear hb); (try clear hb2); (try clear hk); (try clear hi); have hnb94 := NB417_410.out; have hnc94 := NB410_417.out; have hnb95 := NB417_0.out; have hnc95 := NB0_417.out; obtain ⟨hcz96_0, hcz96_1, hcz96_2, hcz96_3, hcz96_4, hcz96_5, hfz96_0, hfz96_1, hfz96_2, hfz96_3, hfz96_4, hfz96_5⟩ := cells6 BK417.out; have hnb97 := NB410_0.out; have hnc97 := NB0_410.out; obtain ⟨hcz98_0, hcz98_1, hcz98_2, hcz98_3, hcz98_4, hcz98_5, hfz98_0, hfz98_1, hfz98_2, hfz98_3, hfz98_4, hfz98_5⟩ := cells6 BK410.out; obtain ⟨Ao99, co99, eo99⟩ := Kd.N_slice HO_418005.out; subst eo99))
      refine bodyPost_ret (results_cell_row rfl _ _ gb410 75 #[.bool (t411 == 0), .bool x418001_5, .int .i64 x418002_5, .int .i64 x418003_5, .int .i64 x418004_5, .slice Ao99 x418005_5.length co99] (0, 0) _ rfl (tP BK410.out) Try.underlying75 rfl (by kernel_rfl)) rfl ?_
      exact ⟨_, by first | rfl | (simp [errW_none, errW_some] <;> rfl) | (simp [*, errW_none, errW_some] <;> rfl), tNm HO_418005.out, zi81, zb, zk⟩

end Go.Proofs.Ytkihdohphddjaaa.G

