/- A text of seat YtbbboachakkgiaaDoor: what the law FnEvenTwice needs of this repo's texts (by pack.py). Not trusted: Lean checks it. -/
import Derived.Test.YtbbboachakkgiaaDoorKFnEvenTwice8
import Derived.Test.YtbbboachakkgiaaDoorProg
import Derived.WalkKit
import Derived.LaidEql
import Derived.Stop.Asserts
import Derived.RowKitTokens
import Derived.LoopN
import Derived.KernelRfl
import Derived.OwnWalkIn
namespace Go.Proofs.YtbbboachakkgiaaDoor.G
open Go.RowKit Go.Proofs.YtbbboachakkgiaaDoorW.PrintWords Go.Proofs.YtbbboachakkgiaaDoorW.PrintLast Go.Proofs.YtbbboachakkgiaaDoorW.PrintMore
attribute [local go_sem] max2_int min2_int max_two min_two max_three min_three max_four min_four   -- for this text's walks alone
set_option linter.unusedVariables false
set_option linter.unusedSimpArgs false

mutual
def spec_l92Log.j0 : Nat → List (S47) → Int → List Int → Int → Option ((List (S47)) × Int)
 | 0, _, _, _, _ => none
 | k + 1, x3, x4, x1000, x1001 => (spec_l6Rd_pick.f k x1000 x1001 10).bind fun bt234 => (spec_l92Log.l0 k x3 x4 bt234.1 0 x1000 bt234.2)
def spec_l92Log.l0 : Nat → List (S47) → Int → Int → Int → List Int → Int → Option ((List (S47)) × Int)
 | 0, _, _, _, _, _, _ => none
 | k + 1, x3, x4, x5, x6, x1000, x1001 => if x6 < x4 then ((spec_l91Batch.f k x1000 x1001 x5).bind fun bt240 => ((spec_l6Rd_pick.f k x1000 bt240.2.2.2.2.2.2 20).bind fun bt250 => (if bt250.1 > 0 then ((spec_BatchValid.f k bt240.1 bt240.2.1 bt240.2.2.1 bt240.2.2.2.1 bt240.2.2.2.2.1 bt240.2.2.2.2.2.1).bind fun t252 => (spec_l92Log.j2 k x3 x4 x5 x6 (!t252) x1000 bt250.2 bt240.1 bt240.2.1 bt240.2.2.1 bt240.2.2.2.1 bt240.2.2.2.2.1 bt240.2.2.2.2.2.1)) else (spec_l92Log.j2 k x3 x4 x5 x6 false x1000 bt250.2 bt240.1 bt240.2.1 bt240.2.2.1 bt240.2.2.2.1 bt240.2.2.2.2.1 bt240.2.2.2.2.2.1)))) else (if x4 > 1 then ((spec_l6Rd_pick.f k x1000 x1001 30).bind fun bt236 => (if bt236.1 = 0 then (if 0 < (x3.length : Int) then (if 1 < (x3.length : Int) then (some ((x3.set (1 : Int).toNat (⟨(rd_T47 x3 0).f0, (rd_T47 x3 0).f1, (rd_T47 x3 0).f2, (rd_T47 x3 0).f3, (rd_T47 x3 0).f4, (rd_T47 x3 0).f5⟩ : S47)), bt236.2)) else (none)) else (none)) else (some (x3, bt236.2)))) else (some (x3, x1001)))
def spec_l92Log.j2 : Nat → List (S47) → Int → Int → Int → Bool → List Int → Int → Bool → Bool → Int → Int → Int → List (S33) → Option ((List (S47)) × Int)
 | 0, _, _, _, _, _, _, _, _, _, _, _, _, _ => none
 | k + 1, x3, x4, x5, x6, x37, x1000, x1001, x250000, x250001, x250002, x250003, x250004, x250005 => if x37 = true then ((spec_l91Records.f k x1000 x1001 x5 2).bind fun bt253 => (if x3.length < 2513169434916 then (if 0 ≤ (wrap64 ((bt253.1.length : Int) - 1)) then (if (wrap64 ((bt253.1.length : Int) - 1)) < (bt253.1.length : Int) then ((spec_l6Rd_pick.f k x1000 bt253.2 4).bind fun bt261 => (spec_l92Log.l0 k (x3 ++ [(⟨false, false, 255, 0, 0, bt253.1⟩ : S47)]) x4 (wrap64 ((wrap64 (((rd_T33 bt253.1 (wrap64 ((bt253.1.length : Int) - 1))).f0) + 1)) + (wrap64 ((wrap64 (Int.tdiv bt261.1 3)) * 2)))) (wrap64 (x6 + 1)) x1000 bt261.2)) else (none)) else (none)) else (none))) else (if x3.length < 2513169434916 then (if 0 ≤ (wrap64 ((x250005.length : Int) - 1)) then (if (wrap64 ((x250005.length : Int) - 1)) < (x250005.length : Int) then ((spec_l6Rd_pick.f k x1000 x1001 4).bind fun bt267 => (spec_l92Log.l0 k (x3 ++ [(⟨x250000, x250001, x250002, x250003, x250004, x250005⟩ : S47)]) x4 (wrap64 ((wrap64 (((rd_T33 x250005 (wrap64 ((x250005.length : Int) - 1))).f0) + 1)) + (wrap64 ((wrap64 (Int.tdiv bt267.1 3)) * 2)))) (wrap64 (x6 + 1)) x1000 bt267.2)) else (none)) else (none)) else (none))
end
def spec_l92Log.f (k : Nat) (s0_0 : List Int) (s0_1 : Int) : Option ((List (S47)) × Int) := (some (([] : List (S47)) : List (S47))).bind fun y221 => ((spec_l6Rd_pick.f k s0_0 s0_1 5).bind fun bt224 => ((spec_l6Rd_pick.f k s0_0 bt224.2 16).bind fun bt226 => (if bt226.1 = 0 then ((some (([0, 8, 9] : List Int) : List Int)).bind fun y228 => ((spec_l6Rd_pick.f k s0_0 bt226.2 3).bind fun bt231 => (if 0 ≤ bt231.1 then (if bt231.1 < (y228.length : Int) then (spec_l92Log.j0 k y221 (rd y228 bt231.1) s0_0 bt231.2) else (none)) else (none)))) else (spec_l92Log.j0 k y221 (wrap64 (1 + bt224.1)) s0_0 bt226.2))))
def spec_l92Log.T13 : Bool × List (List Nat × List Nat) := (true, [([], []), ([0], [0]), ([], []), ([2], [2]), ([3], [3]), ([4], [4]), ([1, 5], [1, 5]), ([6], [6]), ([7], [7]), ([8], [8]), ([], []), ([10], [10]), ([11], [11]), ([12], [12]), ([9, 13], [9, 13]), ([14, 11, 0, 1, 2, 3, 4, 5, 6, 7, 8, 9, 10, 11, 12, 13, 14], [14])])
def spec_l92Log.B13 : List Nat := [0, 1, 0, 4, 12, 28, 63, 127, 255, 511, 0, 1024, 3072, 7168, 16383, 32767]
theorem spec_l92Log.tab13 : rtab .any (opsOf Tryd.f32 13) = spec_l92Log.T13 := by kernel_rfl
theorem spec_l92Log.bits13 : waitsOk spec_l92Log.T13.2 spec_l92Log.B13 = true := by kernel_rfl
set_option maxHeartbeats 8000000 in
set_option maxRecDepth 100000 in
theorem spec_l92Log.calls (k : Nat) (g : Nat) (s0_0 : List Int) (s0_1 : Int) (r1 : List (S47)) (r2 : Int) (w0 w : World) (hI : IsS88 w0 w g s0_0 s0_1) (hB : Below w0.heap.size w0 w) (h : spec_l92Log.f k s0_0 s0_1 = some (r1, r2)) :
  Calls Tryd.prog 32 #[.pointer (some ⟨g, 0, none⟩)] w fun e w' => ∃ v0_ : Value, e = .returned (v0_) ∧ Kd.N k47 47 w' w.heap.size (fun k_ => (w.heap.size ≤ k_)) v0_ r1 ∧ IsS88 w0 w' g s0_0 r2 ∧ Below w0.heap.size w0 w' ∧ KeepBut w w' g none := by
 have hu47 := Tryd.underlying47
 have HI0 := Aside0.mk hI
 have HK := Aside0.mk (KeepBut.refl w g none)
 have HL := Aside0.mk hB.size
 clear hI
 have HW0 := Aside0.mk hB.size
 have HB := Aside0.mk hB
 clear hB
 have H : ((some (([] : List (S47)) : List (S47))).bind fun y221 => ((spec_l6Rd_pick.f k s0_0 s0_1 5).bind fun bt224 => ((spec_l6Rd_pick.f k s0_0 bt224.2 16).bind fun bt226 => (if bt226.1 = 0 then ((some (([0, 8, 9] : List Int) : List Int)).bind fun y228 => ((spec_l6Rd_pick.f k s0_0 bt226.2 3).bind fun bt231 => (if 0 ≤ bt231.1 then (if bt231.1 < (y228.length : Int) then (spec_l92Log.j0 k y221 (rd y228 bt231.1) s0_0 bt231.2) else (none)) else (none)))) else (spec_l92Log.j0 k y221 (wrap64 (1 + bt224.1)) s0_0 bt226.2))))) = some (r1, r2) := h
 clear h
 obtain ⟨y221, hy221⟩ : ∃ y_ : List (S47), y_ = (([] : List (S47))) := ⟨_, rfl⟩
 replace H : ((spec_l6Rd_pick.f k s0_0 s0_1 5).bind fun bt224 => ((spec_l6Rd_pick.f k s0_0 bt224.2 16).bind fun bt226 => (if bt226.1 = 0 then ((some (([0, 8, 9] : List Int) : List Int)).bind fun y228 => ((spec_l6Rd_pick.f k s0_0 bt226.2 3).bind fun bt231 => (if 0 ≤ bt231.1 then (if bt231.1 < (y228.length : Int) then (spec_l92Log.j0 k y221 (rd y228 bt231.1) s0_0 bt231.2) else (none)) else (none)))) else (spec_l92Log.j0 k y221 (wrap64 (1 + bt224.1)) s0_0 bt226.2)))) = some (r1, r2) := by first | (rw [hy221]; with_reducible exact H) | (have H2_ := (Option.bind_some _ _).symm.trans H; rw [hy221]; with_reducible exact H2_) | (have H2_ := (Option.bind_some _ _).symm.trans H; with_reducible exact H2_) | with_reducible exact H | (rw [hy221]; exact H) | exact H
 have Ny221 := Aside0.mk hy221
 clear hy221
 replace H := tbe H
 obtain ⟨⟨t224, t225⟩, A2, H⟩ := H
 dsimp only at H
 replace H := tbe H
 obtain ⟨⟨t226, t227⟩, A3, H⟩ := H
 dsimp only at H
 have HC4 := Aside0.mk H
 clear H
 go_enter Tryd.func32, Tryd.ntmps32
 go_upto_if 14 with (first | ((with_reducible refine gate_dst (N := 8) rfl ?_); refine Kd.N_lit k47 _ 47 ?hg (N' := 8) ?hd (xs := ([] : List (S47))) (inner := []) (ok := (fun k_ => (w.heap.size ≤ k_) ∧ k_ ≠ g)) (okp := (fun k_ => (w.heap.size ≤ k_) ∧ k_ ≠ g)) ?hr ?hp (fun _ hk => hk) ((show ∀ k_, w.heap.size ≤ k_ → (fun k_ => (w.heap.size ≤ k_) ∧ k_ ≠ g) k_ from fun k_ hk => ⟨(Nat.le_trans (keep_size (w := w) (g := g) (row := none) zk) hk), IsS88.fresh zi88 k_ hk⟩) _ (Nat.le_refl _)) (Below.refl _ _) (Nat.le_refl _) (by simp) ?_; (case hd => rfl); (case hg => rfl); (case hr => first | (go_simp; done) | (go_simp; rfl)); (case hp => exact (Reps.none _ _)); intro v222 w5 ho6 hb hg_ hnew_; clear hg_ hnew_; (first | rw [← Ny221.out] at ho6 | (simp only [Int.reduceToNat] at ho6; rw [← Ny221.out] at ho6)); have HO223 := Aside0.mk (Kd.N_lower ho6 (keep_size (w := w) (g := g) (row := none) zk)); replace HI0 := tIb88 HI0 hb; replace HK := tKb HK hb; replace HB := tBs HB hb; clear hb ho6) | ((with_reducible refine gate_callee (f := 33) rfl ?_); refine goesL_ (some 10) rfl rfl Tryd.func33 (by kernel_rfl) rfl #[.pointer (some ⟨g, 0, none⟩), .int .i64 5] rfl tq ?_; (with_reducible refine (spec_l6Rd_pick.calls k g s0_0 s0_1 5 t224 t225 w0 _ ?side1 ?side2 A2.out).mono ?_); (case side1 => exact zi88); (case side2 => exact zb); rintro e w7 ⟨rfl, hi, hb, hk⟩; refine ⟨_, rfl, ?_⟩; replace HO223 := tNk HO223 hk; replace HK := tKt HK hk; replace HB := Aside0.mk (hb); replace HI0 := Aside0.mk (hi); (try clear hb); (try clear hb2); (try clear hk); (try clear hi)) | ((with_reducible refine gate_callee (f := 33) rfl ?_); refine goesL_ (some 13) rfl rfl Tryd.func33 (by kernel_rfl) rfl #[.pointer (some ⟨g, 0, none⟩), .int .i64 16] rfl tq ?_; (with_reducible refine (spec_l6Rd_pick.calls k g s0_0 t225 16 t226 t227 w0 _ ?side1 ?side2 A3.out).mono ?_); (case side1 => exact zi88); (case side2 => exact zb); rintro e w8 ⟨rfl, hi, hb, hk⟩; refine ⟨_, rfl, ?_⟩; replace HO223 := tNk HO223 hk; replace HK := tKt HK hk; replace HB := Aside0.mk (hb); replace HI0 := Aside0.mk (hi); (try clear hb); (try clear hb2); (try clear hk); (try clear hi)))
 (try simp only [Act.put, List.setIfInBounds_toArray, List.set_cons_zero, List.set_cons_succ])
 go_cut [4] (fun v4 wc => ∃ (kq : Nat) (x4_3 : Int) (x1001_3 : Int), v4 = .int .i64 x4_3 ∧ Aside0 (spec_l92Log.j0 kq y221 x4_3 s0_0 x1001_3 = some (r1, r2)) ∧ Aside0 (kq ≤ k) ∧ Aside0 (Kd.N k47 47 wc w.heap.size (fun k_ => (w.heap.size ≤ k_) ∧ k_ ≠ g) v222 y221) ∧ Aside0 (IsS88 w0 wc g s0_0 x1001_3) ∧ Aside0 (KeepBut w wc g none) ∧ Aside0 (Below w0.heap.size w0 wc))
 case first =>
  have H := HC4.out
  clear HC4
  by_cases c9 : t226 = 0
  ·rw [if_pos c9] at H
   have c9b0 : (t226 == 0) = true := beq_iff_eq.mpr c9
   have c9b1 : (t226 != 0) = false := bne_eq_false_iff_eq.mpr c9
   clear c9
   (first | rw [c9b0] | (simp only [i64_w, i32_w]; rw [c9b0]) | skip)
   obtain ⟨y228, hy228⟩ : ∃ y_ : List Int, y_ = (([0, 8, 9] : List Int)) := ⟨_, rfl⟩
   replace H : ((spec_l6Rd_pick.f k s0_0 t227 3).bind fun bt231 => (if 0 ≤ bt231.1 then (if bt231.1 < (y228.length : Int) then (spec_l92Log.j0 k y221 (rd y228 bt231.1) s0_0 bt231.2) else (none)) else (none))) = some (r1, r2) := by first | (rw [hy228]; with_reducible exact H) | (have H2_ := (Option.bind_some _ _).symm.trans H; rw [hy228]; with_reducible exact H2_) | (have H2_ := (Option.bind_some _ _).symm.trans H; with_reducible exact H2_) | with_reducible exact H | (rw [hy228]; exact H) | exact H
   have Ny228 := Aside0.mk hy228
   clear hy228
   replace H := tbe H
   obtain ⟨⟨t231, t232⟩, A10, H⟩ := H
   dsimp only at H
   by_cases c11 : 0 ≤ t231
   ·rw [if_pos c11] at H
    have c11b0 : decide (0 ≤ t231) = true := decide_eq_true c11
    clear c11
    by_cases c12 : t231 < (y228.length : Int)
    ·rw [if_pos c12] at H
     have c12b0 : decide (t231 < (y228.length : Int)) = true := decide_eq_true c12
     clear c12
     have H' := Aside0.mk H
     clear H
     go_wp2_with (first | ((with_reducible refine gate_dst (N := 15) rfl ?_); refine Kd.R_lit (Kd.int .i64) _ 3 ?hg (N := 15) ?hd (xs := ([0, 8, 9] : List Int)) (inner := [.int .i64 0, .int .i64 8, .int .i64 9]) (ok := fun _ => True) (okp := fun _ => True) ?hr ?hp (fun _ hk => hk) trivial (Below.refl _ _) (Nat.le_refl _) (by simp) ?_; (case hd => rfl); (case hg => rfl); (case hr => first | (go_simp; done) | (go_simp; rfl)); (case hp => exact (Reps.one (show Kd.M (Kd.int .i64) _ _ _ 0 [.int .i64 0] from rfl) (Reps.one (show Kd.M (Kd.int .i64) _ _ _ 8 [.int .i64 8] from rfl) (Reps.one (show Kd.M (Kd.int .i64) _ _ _ 9 [.int .i64 9] from rfl) (Reps.none _ _))))); intro v229 w13 ho14 hb hg_ hnew_; clear hg_ hnew_; (first | rw [← Ny228.out] at ho14 | (simp only [Int.reduceToNat] at ho14; rw [← Ny228.out] at ho14)); replace HO223 := Aside0.mk (Kd.N_elder' (tN HO223.out) (Kd.R_base ho14) hb); have HO230 := Aside0.mk (Kd.R_lower (Kd.R_newM (M := fun k_ => (w.heap.size ≤ k_)) ho14 (keep_size (w := w) (g := g) (row := none) zk) (fun k_ h_ => h_)) (keep_size (w := w) (g := g) (row := none) zk)); replace HI0 := tIb88 HI0 hb; replace HK := tKb HK hb; replace HB := tBs HB hb; clear hb ho14) | ((with_reducible refine gate_callee (f := 33) rfl ?_); refine goesL_ (some 17) rfl rfl Tryd.func33 (by kernel_rfl) rfl #[.pointer (some ⟨g, 0, none⟩), .int .i64 3] rfl tq ?_; (with_reducible refine (spec_l6Rd_pick.calls k g s0_0 t227 3 t231 t232 w0 _ ?side1 ?side2 A10.out).mono ?_); (case side1 => exact zi88); (case side2 => exact zb); rintro e w15 ⟨rfl, hi, hb, hk⟩; refine ⟨_, rfl, ?_⟩; replace HO223 := tNk HO223 hk; replace HO230 := tRp88 HO230 HI0 hk; replace HK := tKt HK hk; replace HB := Aside0.mk (hb); replace HI0 := Aside0.mk (hi); (try clear hb); (try clear hb2); (try clear hk); (try clear hi); obtain ⟨Ao16, co16, eo16⟩ := Kd.R_slice HO230.out; subst eo16; have p233 : 0 ≤ (t231 : Int) := td; have q233 : t231 < (y228.length : Int) := td; obtain ⟨ad233, e233, hx233_0⟩ := Kd.at_int (Kd.R_reads' HO230.out).2.2 t231 p233 q233; cases e233; replace p233 := eq_true p233; replace q233 := eq_true q233))
     go_meet
     case rel => exact ⟨_, (rd y228 t231), (t232), tr, H', ⟨by first | omega | exact Nat.le_refl _⟩, ⟨tNm HO223.out⟩, ⟨zi88⟩, ⟨zk⟩, ⟨zb⟩⟩
    ·rw [if_neg c12] at H
     exact absurd H (by simp)
   ·rw [if_neg c11] at H
    exact absurd H (by simp)
  ·rw [if_neg c9] at H
   have c9b0 : (t226 == 0) = false := beq_eq_false_iff_ne.mpr c9
   have c9b1 : (t226 != 0) = true := bne_iff_ne.mpr c9
   (first | rw [c9b0] | (simp only [i64_w, i32_w]; rw [c9b0]) | skip)
   have H' := Aside0.mk H
   clear H
   go_wp2
   go_meet
   case rel => exact ⟨_, (wrap64 (1 + t224)), (t227), tr, H', ⟨by first | omega | exact Nat.le_refl _⟩, ⟨tN HO223.out⟩, ⟨zi88⟩, ⟨zk⟩, ⟨zb⟩⟩
 case rest =>
  clear HC4
  obtain ⟨kq, x4_3, x1001_3, rfl, HA, HJ3, HO_3, HI0, HK, HB⟩ := hcut
  cases kq with
  | zero => exact absurd HA.out (by simp [spec_l92Log.j0])
  | succ kj3 =>
   have H := HA.out
   clear HA
   simp only [spec_l92Log.j0] at H
   replace H := tbe H
   obtain ⟨⟨t234, t235⟩, A17, H⟩ := H
   dsimp only at H
   have H' := Aside0.mk H
   clear H
   go_wp2_with (first | ((with_reducible refine gate_callee (f := 33) rfl ?_); refine goesL_ (some 21) rfl rfl Tryd.func33 (by kernel_rfl) rfl #[.pointer (some ⟨g, 0, none⟩), .int .i64 10] rfl tq ?_; (with_reducible refine (spec_l6Rd_pick.calls kj3 g s0_0 x1001_3 10 t234 t235 w0 _ ?side1 ?side2 A17.out).mono ?_); (case side1 => exact zi88); (case side2 => exact zb); rintro e w18 ⟨rfl, hi, hb, hk⟩; refine ⟨_, rfl, ?_⟩; replace HO_3 := tNk HO_3 hk; replace HK := tKt HK hk; replace HB := Aside0.mk (hb); replace HI0 := Aside0.mk (hi); (try clear hb); (try clear hb2); (try clear hk); (try clear hi)))
   go_loopg [3, 5, 6] kj3 (fun kq v3 v5 v6 w' => ∃ (x3_2 : List (S47)) (x5_2 : Int) (x6_2 : Int) (x1001_2 : Int), v5 = .int .i64 x5_2 ∧ v6 = .int .i64 x6_2 ∧ Aside0 (spec_l92Log.l0 kq x3_2 x4_3 x5_2 x6_2 s0_0 x1001_2 = some (r1, r2)) ∧ Aside0 (kq ≤ kj3) ∧ Aside0 (Kd.N k47 47 w' w.heap.size (fun k_ => (w.heap.size ≤ k_) ∧ k_ ≠ g) v3 x3_2) ∧ Aside0 (IsS88 w0 w' g s0_0 x1001_2) ∧ Aside0 (KeepBut w w' g none) ∧ Aside0 (Below w0.heap.size w0 w'))
   case atStart => exact ⟨(y221), (t234), (0), (t235), tr, tr, H', ⟨Nat.le_refl _⟩, ⟨tN HO_3.out⟩, ⟨zi88⟩, ⟨zk⟩, ⟨zb⟩⟩
   case round =>
    clear H'
    obtain ⟨x3_2, x5_2, x6_2, x1001_2, rfl, rfl, HA, HK2, HO_3, HI0, HK, HB⟩ := hrel
    cases gk with
    | zero => exact absurd HA.out (by simp [spec_l92Log.l0])
    | succ k2 =>
     have H := HA.out
     clear HA
     simp only [spec_l92Log.l0] at H
     by_cases c19 : x6_2 < x4_3
     ·rw [if_pos c19] at H
      have c19b0 : decide (x6_2 < x4_3) = true := decide_eq_true c19
      clear c19
      replace H := tbe H
      obtain ⟨⟨t240, t241, t242, t243, t244, t245, t248⟩, A20, H⟩ := H
      dsimp only at H
      have HC21 := Aside0.mk H
      clear H
      go_upto_region 10 with (first | ((with_reducible refine gate_callee (f := 58) rfl ?_); refine goesL_ (some 29) rfl rfl Tryd.func58 (by kernel_rfl) rfl #[.pointer (some ⟨g, 0, none⟩), .int .i64 x5_2] rfl tq ?_; (with_reducible refine (spec_l91Batch.calls k2 g s0_0 x1001_2 x5_2 t240 t241 t242 t243 t244 t245 t248 w0 _ ?side1 ?side2 A20.out).mono ?_); (case side1 => exact zi88); (case side2 => exact zb); rintro e w22 ⟨v246, rfl, ho0, hi, hb, hk⟩; have u_v246 := tsv Tryd.prog v246 ho0; refine ⟨_, rfl, ?_⟩; have HO247 := Aside0.mk (Kd.N_lower (Kd.N_mono (ok' := fun k_ => (w.heap.size ≤ k_) ∧ some k_ ≠ (u3 : Value).ownBlock ∧ k_ ≠ g) ho0 (fun k_ hk_ => ⟨(Nat.le_trans (keep_size (w := w) (g := g) (row := none) zk) hk_), (tfr HO_3 k_ hk_), (IsS88.fresh zi88 k_ hk_)⟩)) (keep_size (w := w) (g := g) (row := none) zk)); replace HO_3 := Aside0.mk (Kd.N_mono (Kd.N_told (Kd.N_oldK (Kd.N_mono (ok := fun k_ => (((w.heap.size ≤ k_)) ∧ k_ ≠ g)) (tN HO_3.out) (fun k_ hk_ => (⟨hk_, hk_.2⟩ : _ ∧ k_ ≠ g))) hk) (tb ho0)) (fun _ h_ => h_.1)); replace HK := tKt HK hk; replace HB := Aside0.mk (hb); replace HI0 := Aside0.mk (hi); (try clear hb); (try clear hb2); (try clear hk); (try clear hi); (try clear ho0)) | ((with_reducible refine gate_dst (N := 7) rfl ?_); refine box_event ?hg (N := 7) ?hd (cs := #[.bool false, .bool false, .int .i64 0, .int .i64 0, .int .i64 0, .slice none 0 0]) (t := 47) ?hr ?_; (case hd => rfl); (case hg => rfl); (case hr => first | (go_simp; done) | (go_simp; rfl)); intro gb249 hg w23 hbox hb; replace HO_3 := tNB HO_3 hg hb; replace HO247 := tNB HO247 hg hb; replace HB := tBs HB hb; have BK249 := Aside0.mk (hbox); have GW249 := Aside0.mk ((by rw [hg]; exact (keep_size (w := w) (g := g) (row := none) zk) : w.heap.size ≤ gb249)); have GE249 := Aside0.mk ((Nat.le_trans HW0.out (by rw [hg]; exact (keep_size (w := w) (g := g) (row := none) zk) : w.heap.size ≤ gb249) : w0.heap.size ≤ gb249)); replace HK := tKb HK hb; have NB0_249 := Aside0.mk ((by rw [hg]; exact Nat.ne_of_lt (IsS88.lt (show IsS88 w0 _ g s0_0 t248 from zi88)) : g ≠ gb249)); have NB249_0 := Aside0.mk ((by rw [hg]; exact Nat.ne_of_gt (IsS88.lt (show IsS88 w0 _ g s0_0 t248 from zi88)) : gb249 ≠ g)); replace HI0 := tIb88 HI0 hb; clear hb hbox hg; have hnb24 := NB249_0.out; have hnc24 := NB0_249.out; obtain ⟨hcz25_0, hcz25_1, hcz25_2, hcz25_3, hcz25_4, hcz25_5, hfz25_0, hfz25_1, hfz25_2, hfz25_3, hfz25_4, hfz25_5⟩ := cells6 BK249.out; obtain ⟨Ao26, co26, eo26⟩ := Kd.N_slice HO247.out; subst eo26))
      (try simp only [Act.put, List.setIfInBounds_toArray, List.set_cons_zero, List.set_cons_succ])
      go_cut [37] (fun v37 wc => ∃ (kq : Nat) (x37_20 : Bool) (x1001_20 : Int), v37 = .bool x37_20 ∧ Aside0 (spec_l92Log.j2 kq x3_2 x4_3 x5_2 x6_2 x37_20 s0_0 x1001_20 t240 t241 t242 t243 t244 t245 = some (r1, r2)) ∧ Aside0 (kq ≤ k2) ∧ Aside0 (Kd.N k47 47 wc w.heap.size (fun k_ => (w.heap.size ≤ k_) ∧ some k_ ≠ ((.slice Ao26 t245.length co26) : Value).ownBlock ∧ k_ ≠ gb249 ∧ k_ ≠ g) u3 x3_2) ∧ Aside0 (Kd.N k33 33 wc w.heap.size (fun k_ => (w.heap.size ≤ k_) ∧ some k_ ≠ (u3 : Value).ownBlock ∧ k_ ≠ gb249 ∧ k_ ≠ g) (.slice Ao26 t245.length co26) t245) ∧ Aside0 (wc.heap[gb249]? = some (.cells #[.bool t240, .bool t241, .int .i64 t242, .int .i64 t243, .int .i64 t244, (.slice Ao26 t245.length co26)] 47 (0, 0))) ∧ Aside0 (IsS88 w0 wc g s0_0 x1001_20) ∧ Aside0 (KeepBut w wc g none) ∧ Aside0 (Below w0.heap.size w0 wc))
      case first =>
       have H := HC21.out
       clear HC21
       replace H := tbe H
       obtain ⟨⟨t250, t251⟩, A27, H⟩ := H
       dsimp only at H
       by_cases c28 : t250 > 0
       ·rw [if_pos c28] at H
        have c28b0 : decide (0 < t250) = true := decide_eq_true c28
        clear c28
        (first | rw [c28b0] | (simp only [i64_w, i32_w]; rw [c28b0]) | skip)
        replace H := tbe H
        obtain ⟨t252, A29, H⟩ := H
        have H' := Aside0.mk H
        clear H
        go_wp2_with (first | ((with_reducible refine gate_callee (f := 33) rfl ?_); refine goesL_ (some 31) rfl rfl Tryd.func33 (by kernel_rfl) rfl #[.pointer (some ⟨g, 0, none⟩), .int .i64 20] rfl tq ?_; (with_reducible refine (spec_l6Rd_pick.calls k2 g s0_0 t248 20 t250 t251 w0 _ ?side1 ?side2 A27.out).mono ?_); (case side1 => exact zi88); (case side2 => exact zb); rintro e w30 ⟨rfl, hi, hb, hk⟩; refine ⟨_, rfl, ?_⟩; replace HO_3 := tNk HO_3 hk; replace HO247 := tNk HO247 hk; replace BK249 := tBq (o' := .cells #[.bool t240, .bool t241, .int .i64 t242, .int .i64 t243, .int .i64 t244, .slice Ao26 t245.length co26] 47 (0, 0)) BK249 hk NB249_0; replace HK := tKt HK hk; replace HB := Aside0.mk (hb); replace HI0 := Aside0.mk (hi); (try clear hb); (try clear hb2); (try clear hk); (try clear hi); have hnb31 := NB249_0.out; have hnc31 := NB0_249.out; obtain ⟨hcz32_0, hcz32_1, hcz32_2, hcz32_3, hcz32_4, hcz32_5, hfz32_0, hfz32_1, hfz32_2, hfz32_3, hfz32_4, hfz32_5⟩ := cells6 BK249.out) | (go_at_call 59; (with_reducible refine (spec_BatchValid.calls k2 t240 t241 t242 t243 t244 _ _ t245 t252 _ ?side1 ?side2 A29.out).mono ?_); (case side1 => repeat (first | exact (Kd.N_reads' HO247.out).2.2 | (with_reducible refine Kd.C_alloc ?_ _) | (with_reducible refine Kd.C_drewN ?_ _) | (with_reducible refine Kd.C_drew ?_))); (case side2 => exact (Kd.N_reads' HO247.out).2.1); rintro e w33 ⟨rfl, hb⟩; replace HO_3 := tNb HO_3 hb; replace HO247 := tNb HO247 hb; replace HI0 := tIb88 HI0 hb; replace BK249 := tBb BK249 hb; replace HK := tKb HK hb; replace HB := tBs HB hb; (try clear hb); (try clear hb2); (try clear hk); (try clear hi)))
        go_meet
        case rel => exact ⟨_, (!t252), (t251), tr, H', ⟨by have := HJ3.out; have := HK2.out; first | omega | exact Nat.le_refl _⟩, ⟨tNm HO_3.out⟩, ⟨tNm HO247.out⟩, ⟨tH BK249.out⟩, ⟨zi88⟩, ⟨zk⟩, ⟨zb⟩⟩
       ·rw [if_neg c28] at H
        have c28b0 : decide (0 < t250) = false := decide_eq_false c28
        clear c28
        (first | rw [c28b0] | (simp only [i64_w, i32_w]; rw [c28b0]) | skip)
        have H' := Aside0.mk H
        clear H
        go_wp2_with (first | ((with_reducible refine gate_callee (f := 33) rfl ?_); refine goesL_ (some 31) rfl rfl Tryd.func33 (by kernel_rfl) rfl #[.pointer (some ⟨g, 0, none⟩), .int .i64 20] rfl tq ?_; (with_reducible refine (spec_l6Rd_pick.calls k2 g s0_0 t248 20 t250 t251 w0 _ ?side1 ?side2 A27.out).mono ?_); (case side1 => exact zi88); (case side2 => exact zb); rintro e w34 ⟨rfl, hi, hb, hk⟩; refine ⟨_, rfl, ?_⟩; replace HO_3 := tNk HO_3 hk; replace HO247 := tNk HO247 hk; replace BK249 := tBq (o' := .cells #[.bool t240, .bool t241, .int .i64 t242, .int .i64 t243, .int .i64 t244, .slice Ao26 t245.length co26] 47 (0, 0)) BK249 hk NB249_0; replace HK := tKt HK hk; replace HB := Aside0.mk (hb); replace HI0 := Aside0.mk (hi); (try clear hb); (try clear hb2); (try clear hk); (try clear hi)))
        go_meet
        case rel => exact ⟨_, (false), (t251), tr, H', ⟨by have := HJ3.out; have := HK2.out; first | omega | exact Nat.le_refl _⟩, ⟨tNm HO_3.out⟩, ⟨tNm HO247.out⟩, ⟨tH BK249.out⟩, ⟨zi88⟩, ⟨zk⟩, ⟨zb⟩⟩
      case rest =>
       clear HC21
       try clear c19; try clear c19b0; try clear hcz25_0; try clear hcz25_1; try clear hcz25_2; try clear hcz25_3; try clear hcz25_4; try clear hcz25_5; try clear hfz25_0; try clear hfz25_1; try clear hfz25_2; try clear hfz25_3; try clear hfz25_4; try clear hfz25_5
       obtain ⟨kq, x37_20, x1001_20, rfl, HA, HJ20, HO_3, HO_250005, BK249, HI0, HK, HB⟩ := hcut
       cases kq with
       | zero => exact absurd HA.out (by simp [spec_l92Log.j2])
       | succ kj20 =>
        have H := HA.out
        clear HA
        simp only [spec_l92Log.j2] at H
        by_cases c35 : x37_20 = true
        ·subst c35
         rw [if_pos rfl] at H
         replace H := tbe H
         obtain ⟨⟨t253, t256⟩, A36, H⟩ := H
         dsimp only at H
         by_cases c37 : x3_2.length < 2513169434916
         ·rw [if_pos c37] at H
          have LMc37 := Aside0.mk c37
          clear c37
          obtain ⟨y257, hy257⟩ : ∃ y_ : List (S47), y_ = (x3_2 ++ [(⟨false, false, 255, 0, 0, t253⟩ : S47)]) := ⟨_, rfl⟩
          replace H : (if 0 ≤ (wrap64 ((t253.length : Int) - 1)) then (if (wrap64 ((t253.length : Int) - 1)) < (t253.length : Int) then ((spec_l6Rd_pick.f kj20 s0_0 t256 4).bind fun bt261 => (spec_l92Log.l0 kj20 y257 x4_3 (wrap64 ((wrap64 (((rd_T33 t253 (wrap64 ((t253.length : Int) - 1))).f0) + 1)) + (wrap64 ((wrap64 (Int.tdiv bt261.1 3)) * 2)))) (wrap64 (x6_2 + 1)) s0_0 bt261.2)) else (none)) else (none)) = some (r1, r2) := by first | (rw [hy257]; with_reducible exact H) | (have H2_ := (Option.bind_some _ _).symm.trans H; rw [hy257]; with_reducible exact H2_) | (have H2_ := (Option.bind_some _ _).symm.trans H; with_reducible exact H2_) | with_reducible exact H | (rw [hy257]; exact H) | exact H
          have Ny257 := Aside0.mk hy257
          clear hy257
          obtain ⟨ji38, hji38⟩ : ∃ j_ : Int, (wrap64 ((t253.length : Int) - 1)) = j_ := ⟨_, rfl⟩
          replace H : (if 0 ≤ (ji38) then (if (ji38) < (t253.length : Int) then ((spec_l6Rd_pick.f kj20 s0_0 t256 4).bind fun bt261 => (spec_l92Log.l0 kj20 y257 x4_3 (wrap64 ((wrap64 (((rd_T33 t253 (ji38)).f0) + 1)) + (wrap64 ((wrap64 (Int.tdiv bt261.1 3)) * 2)))) (wrap64 (x6_2 + 1)) s0_0 bt261.2)) else (none)) else (none)) = some (r1, r2) := by first | (rw [hji38] at H; exact H) | (simp only [hji38] at H ⊢; exact H)
          (try rw [hji38] at A36)
          have hji38w : (IntKind.i64.wrap ((t253.length : Int) - 1)) = ji38 := (i64_w _).trans hji38
          by_cases c39 : 0 ≤ (ji38)
          ·rw [if_pos c39] at H
           have c39b0 : decide (0 ≤ (ji38)) = true := decide_eq_true c39
           clear c39
           by_cases c40 : (ji38) < (t253.length : Int)
           ·rw [if_pos c40] at H
            have c40b0 : decide ((ji38) < (t253.length : Int)) = true := decide_eq_true c40
            clear c40
            replace H := tbe H
            obtain ⟨⟨t261, t262⟩, A41, H⟩ := H
            dsimp only at H
            have H' := Aside0.mk H
            clear H
            try go_wp2_with (first | ((with_reducible refine gate_callee (f := 60) rfl ?_); refine goesL_ (some 40) rfl rfl Tryd.func60 (by kernel_rfl) rfl #[.pointer (some ⟨g, 0, none⟩), .int .i64 x5_2, .int .i64 2] rfl tq ?_; (with_reducible refine (spec_l91Records.calls kj20 g s0_0 x1001_20 x5_2 2 t253 t256 w0 _ ?side1 ?side2 A36.out).mono ?_); (case side1 => exact zi88); (case side2 => exact zb); rintro e w42 ⟨v254, rfl, ho0, hi, hb, hk⟩; have u_v254 := tsv Tryd.prog v254 ho0; refine ⟨_, rfl, ?_⟩; have HO255 := Aside0.mk (Kd.N_lower (Kd.N_mono (ok' := fun k_ => (w.heap.size ≤ k_) ∧ some k_ ≠ (u3 : Value).ownBlock ∧ some k_ ≠ (.slice Ao26 t245.length co26 : Value).ownBlock ∧ k_ ≠ gb249 ∧ k_ ≠ g) (Kd.S_N (Kd.S_bound ho0)) (fun k_ hk_ => ⟨(Nat.le_trans (keep_size (w := w) (g := g) (row := none) zk) hk_.2.1), (tfr HO_3 k_ hk_.2.1), (tfr HO_250005 k_ hk_.2.1), (tfB BK249 k_ hk_.2.1), (IsS88.fresh zi88 k_ hk_.2.1)⟩)) (keep_size (w := w) (g := g) (row := none) zk)); replace HO_3 := Aside0.mk (Kd.N_mono (Kd.N_told (Kd.N_oldK (Kd.N_mono (ok := fun k_ => (((w.heap.size ≤ k_)) ∧ (some k_ ≠ (.slice Ao26 t245.length co26 : Value).ownBlock ∧ (k_ ≠ gb249 ∧ k_ ≠ g)))) (tN HO_3.out) (fun k_ hk_ => (⟨hk_, hk_.2.2.2⟩ : _ ∧ k_ ≠ g))) hk) (tb ho0)) (fun _ h_ => h_.1)); replace HO_250005 := Aside0.mk (Kd.N_mono (Kd.N_told (Kd.N_oldK (Kd.N_mono (ok := fun k_ => (((w.heap.size ≤ k_)) ∧ (some k_ ≠ (u3 : Value).ownBlock ∧ (k_ ≠ gb249 ∧ k_ ≠ g)))) (tN HO_250005.out) (fun k_ hk_ => (⟨hk_, hk_.2.2.2⟩ : _ ∧ k_ ≠ g))) hk) (tb ho0)) (fun _ h_ => h_.1)); replace BK249 := tBk BK249 hk NB249_0; replace HK := tKt HK hk; replace HB := Aside0.mk (hb); replace HI0 := Aside0.mk (hi); (try clear hb); (try clear hb2); (try clear hk); (try clear hi); (try clear ho0); obtain ⟨Ao43, co43, eo43⟩ := Kd.N_slice HO255.out; subst eo43; have hnb44 := NB249_0.out; have hnc44 := NB0_249.out; obtain ⟨hcz45_0, hcz45_1, hcz45_2, hcz45_3, hcz45_4, hcz45_5, hfz45_0, hfz45_1, hfz45_2, hfz45_3, hfz45_4, hfz45_5⟩ := cells6 BK249.out) | ((with_reducible refine gate_store (t := 47) (p := 7) rfl ?_); refine store_event (t := 47) (p := 7) (v := ?vo_w46) (w1 := ((((((w42.setCell ⟨gb249, 0, none⟩ (.bool false)).setCell ⟨gb249, 1, none⟩ (.bool false)).setCell ⟨gb249, 2, none⟩ (.int .i64 255)).setCell ⟨gb249, 3, none⟩ (.int .i64 0)).setCell ⟨gb249, 4, none⟩ (.int .i64 0)).setCell ⟨gb249, 5, none⟩ (.slice Ao43 t253.length co43))) ?hg ?ho ?hn ?hr ?_; (case ho => rfl); (case hg => rfl); (case hn => rfl); (case hr => first | (go_simp; done) | (go_simp; rfl)); intro w46 hw; have n0_ : Aside0 (Kd.N k47 47 w46 w.heap.size (fun k_ => (w.heap.size ≤ k_) ∧ some k_ ≠ (.slice Ao26 t245.length co26 : Value).ownBlock ∧ some k_ ≠ (.slice Ao43 t253.length co43 : Value).ownBlock ∧ k_ ≠ gb249 ∧ k_ ≠ g) u3 x3_2) := ⟨(by rw [hw]; exact (tNm HO_3.out))⟩; have n1_ : Aside0 (Kd.N k33 33 w46 w.heap.size (fun k_ => (w.heap.size ≤ k_) ∧ some k_ ≠ (u3 : Value).ownBlock ∧ some k_ ≠ (.slice Ao43 t253.length co43 : Value).ownBlock ∧ k_ ≠ gb249 ∧ k_ ≠ g) (.slice Ao26 t245.length co26) t245) := ⟨(by rw [hw]; exact (tNm HO_250005.out))⟩; have n2_ : Aside0 (Kd.N k33 33 w46 w.heap.size (fun k_ => (w.heap.size ≤ k_) ∧ some k_ ≠ (u3 : Value).ownBlock ∧ some k_ ≠ (.slice Ao26 t245.length co26 : Value).ownBlock ∧ k_ ≠ gb249 ∧ k_ ≠ g) (.slice Ao43 t253.length co43) t253) := ⟨(by rw [hw]; exact (tNm HO255.out))⟩; have n3_ : Aside0 (w46.heap[gb249]? = some (.cells #[.bool false, .bool false, .int .i64 255, .int .i64 0, .int .i64 0, .slice Ao43 t253.length co43] 47 (0, 0))) := ⟨(by rw [hw]; exact (tP BK249.out))⟩; have n4_ : Aside0 (IsS88 w0 w46 g s0_0 t256) := ⟨(by rw [hw]; exact zi88)⟩; have n5_ : Aside0 (KeepBut w w46 g none) := ⟨(by rw [hw]; exact zk)⟩; have n6_ : Aside0 (Below w0.heap.size w0 w46) := ⟨(by rw [hw]; exact zb)⟩; clear hw; clear HO_3; clear HO_250005; clear HO255; clear BK249; clear HI0; clear HK; clear HB; have HO_3 := n0_; have HO_250005 := n1_; have HO255 := n2_; have BK249 := n3_; have HI0 := n4_; have HK := n5_; have HB := n6_; clear n0_ n1_ n2_ n3_ n4_ n5_ n6_; obtain ⟨hcz47_0, hcz47_1, hcz47_2, hcz47_3, hcz47_4, hcz47_5, hfz47_0, hfz47_1, hfz47_2, hfz47_3, hfz47_4, hfz47_5⟩ := cells6 BK249.out) | ((with_reducible refine gate_builtin (b := .append) (xs := #[.tmp 42, .tmp 44]) rfl ?_); at_builtin; refine Kd.N_append k47 w.heap.size rfl (.tmp 42) (.tmp 44) 23 47 (.agg #[(.bool false), (.bool false), (.int .i64 0), (.int .i64 0), (.int .i64 0), (.slice none 0 0)]) 56 rfl Tryd.underlying23 info47 rfl (by decide) (by omega) u3 x3_2 (⟨false, false, 255, 0, 0, t253⟩ : S47) [.bool false, .bool false, .int .i64 255, .int .i64 0, .int .i64 0, .slice Ao43 t253.length co43] (fun k_ => (w.heap.size ≤ k_) ∧ some k_ ≠ (.slice Ao26 t245.length co26 : Value).ownBlock ∧ k_ ≠ gb249 ∧ k_ ≠ g) (fun k_ => ((fun k_ => (w.heap.size ≤ k_) ∧ some k_ ≠ (.slice Ao26 t245.length co26 : Value).ownBlock ∧ k_ ≠ gb249 ∧ k_ ≠ g)) k_ ∧ some k_ ≠ (u3 : Value).ownBlock) rfl rfl ?aP (fun _ hk => hk) ?aF ?aO (Below.refl _ _) ?aS ?aL ?_; (case aP => exact (k47_mkF _ _ (⟨false, false, 255, 0, 0, t253⟩ : S47) (Kd.N_reads' (Kd.N_mono (ok' := (fun k_ => ((fun k_ => (w.heap.size ≤ k_) ∧ some k_ ≠ (.slice Ao26 t245.length co26 : Value).ownBlock ∧ k_ ≠ gb249 ∧ k_ ≠ g)) k_ ∧ some k_ ≠ (u3 : Value).ownBlock)) (HO255.out) (fun k_ hk => ⟨⟨hk.1, ⟨hk.2.2.1, ⟨hk.2.2.2.1, hk.2.2.2.2⟩⟩⟩, hk.2.1⟩))).2.1 (Kd.N_F (Kd.N_mono (ok' := (fun k_ => ((fun k_ => (w.heap.size ≤ k_) ∧ some k_ ≠ (.slice Ao26 t245.length co26 : Value).ownBlock ∧ k_ ≠ gb249 ∧ k_ ≠ g)) k_ ∧ some k_ ≠ (u3 : Value).ownBlock)) (HO255.out) (fun k_ hk => ⟨⟨hk.1, ⟨hk.2.2.1, ⟨hk.2.2.2.1, hk.2.2.2.2⟩⟩⟩, hk.2.1⟩))))); (case aF => exact (fun k_ hk => ⟨(Nat.le_trans (keep_size (w := w) (g := g) (row := none) zk) hk), tfr HO_250005 k_ hk, tfB BK249 k_ hk, IsS88.fresh zi88 k_ hk⟩)); (case aO => exact (tNm HO_3.out)); (case aS => exact (keep_size (w := w) (g := g) (row := none) zk)); (case aL => have := LMc37.out; omega); intro v258 w48 ho hb hg hat; rw [← Ny257.out] at ho; have n0_ := Aside0.mk (Kd.N_afterv (ok := (fun k_ => (w.heap.size ≤ k_) ∧ some k_ ≠ (.slice Ao43 t253.length co43 : Value).ownBlock ∧ k_ ≠ gb249 ∧ k_ ≠ g)) (tNm HO_250005.out) hg hat); have n1_ := Aside0.mk (blk_grown (tH BK249.out) hg (Kd.N_away HO_3.out (fun _ hk => hk.2.2.2.1))); have n2_ := Aside0.mk (IsS88.grown zi88 hg (IsS88.own_neN HI0.out HO_3.out (by decide))); have n3_ := Aside0.mk (below_weaken zb HL.out hb); have n4_ := Aside0.mk (KeepBut.trans zk (KeepBut.of_grown hg g) (Kd.N_base2 HO_3.out)); have n5_ := Aside0.mk (ho); have nx_ := Aside0.mk (Kd.N_grown (tN HO255.out) hg (fun k_ hk => by first | exact hk.2.1 | exact hk.2.2.1 | exact hk.1.2.1 | exact hk.1.2.2.1)); clear HO_250005; clear BK249; clear HI0; clear HB; clear HK; clear HO_3; clear HO255; have HO_250005 := n0_; have BK249 := n1_; have HI0 := n2_; have HB := n3_; have HK := n4_; have HO259 := n5_; clear n0_ n1_ n2_ n3_ n4_ n5_; have HO255 := nx_; clear nx_; clear ho hb hg hat))
            replace HO_250005 := Aside0.mk (Kd.N_drew HO_250005.out)
            replace HO259 := Aside0.mk (Kd.N_drew HO259.out)
            replace BK249 := Aside0.mk (blk_drew BK249.out)
            replace HI0 := Aside0.mk (IsS88.drew HI0.out)
            replace HK := Aside0.mk (keep_drew HK.out)
            replace HB := Aside0.mk (below_drew1 HB.out)
            have p260 : 0 ≤ ((ji38) : Int) := td
            have q260 : (ji38) < (t253.length : Int) := td
            have HO255 := Aside0.mk (Kd.N_drew HO255.out)
            obtain ⟨ad260, A260_3, c260_3, A260_5, c260_5, e260, hx260_0, hx260_1, hx260_2, hx260_3, hx260_4, hx260_5, hl260_3, hi260_3, hl260_5, hi260_5⟩ := at_T33 (Kd.N_reads' HO255.out).2.2 (ji38) p260 q260
            cases e260
            have HR260_3 := Aside0.mk hi260_3
            have HC260_3 := Aside0.mk hl260_3
            clear hi260_3 hl260_3
            have HR260_5 := Aside0.mk hi260_5
            have HC260_5 := Aside0.mk hl260_5
            clear hi260_5 hl260_5
            replace p260 := eq_true p260
            replace q260 := eq_true q260
            refine start_ (n := 16) (S := fun w' => w'.cell? ⟨gb249, 0, none⟩ = some (.bool false) ∧ w'.cell? ⟨gb249, 1, none⟩ = some (.bool false) ∧ w'.cell? ⟨gb249, 2, none⟩ = some (.int .i64 255) ∧ w'.cell? ⟨gb249, 3, none⟩ = some (.int .i64 0) ∧ w'.cell? ⟨gb249, 4, none⟩ = some (.int .i64 0) ∧ w'.cell? ⟨gb249, 5, none⟩ = some (.slice (some ad260) t253.length co43) ∧ w'.cell? (ad260.add (((ji38)).toNat * 6)) = some (.int .i64 ((rd_T33 t253 (ji38)).f0)) ∧ w'.cell? ⟨(ad260.add (((ji38)).toNat * 6)).block, (ad260.add (((ji38)).toNat * 6)).off + 1, none⟩ = some (.int .i64 ((rd_T33 t253 (ji38)).f1)) ∧ w'.cell? ⟨(ad260.add (((ji38)).toNat * 6)).block, (ad260.add (((ji38)).toNat * 6)).off + 2, none⟩ = some (.bool ((rd_T33 t253 (ji38)).f2)) ∧ w'.cell? ⟨(ad260.add (((ji38)).toNat * 6)).block, (ad260.add (((ji38)).toNat * 6)).off + 3, none⟩ = some (.slice A260_3 ((rd_T33 t253 (ji38)).f3).length c260_3) ∧ w'.cell? ⟨(ad260.add (((ji38)).toNat * 6)).block, (ad260.add (((ji38)).toNat * 6)).off + 4, none⟩ = some (.bool ((rd_T33 t253 (ji38)).f4)) ∧ w'.cell? ⟨(ad260.add (((ji38)).toNat * 6)).block, (ad260.add (((ji38)).toNat * 6)).off + 5, none⟩ = some (.slice A260_5 ((rd_T33 t253 (ji38)).f5).length c260_5)) (ds := []) #[false, false, false, false, false, false, false, false, false, false, false, false, false, false, false, false] (by kernel_rfl) rfl rfl ⟨(blk_cell BK249.out 0).trans rfl, (blk_cell BK249.out 1).trans rfl, (blk_cell BK249.out 2).trans rfl, (blk_cell BK249.out 3).trans rfl, (blk_cell BK249.out 4).trans rfl, (blk_cell BK249.out 5).trans rfl, hx260_0, hx260_1, hx260_2, hx260_3, hx260_4, hx260_5⟩ (fun hHeld => ?_); refine with_tabW spec_l92Log.tab13 spec_l92Log.bits13 (fun HT_ HW_ => ?_)
            generalize w48.drew = w49 at HO255 HO_250005 HO259 BK249 HI0 HK HB HR260_3 HR260_5 hx260_0 hx260_1 hx260_2 hx260_3 hx260_4 hx260_5 hHeld ⊢
            refine tpu 0 (some 46) #[true, false, false, false, false, false, false, false, false, false, false, false, false, false, false, false] ?_
            refine tpu 2 (some 48) #[true, false, true, false, false, false, false, false, false, false, false, false, false, false, false, false] ?_
            refine tpu 10 (some 56) #[true, false, true, false, false, false, false, false, false, false, true, false, false, false, false, false] ?_
            refine tta 1 (some 47) #[true, true, true, false, false, false, false, false, false, false, true, false, false, false, false, false] hHeld ?_ (hy := by rintro w' ⟨s0, s1, s2, s3, s4, s5, s6, s7, s8, s9, s10, s11⟩; go_simp; with_reducible rfl)
            refine tta 3 (some 49) #[true, true, true, true, false, false, false, false, false, false, true, false, false, false, false, false] hHeld ?_ (hy := by rintro w' ⟨s0, s1, s2, s3, s4, s5, s6, s7, s8, s9, s10, s11⟩; go_simp; with_reducible rfl)
            refine tpu 4 (some 50) #[true, true, true, true, true, false, false, false, false, false, true, false, false, false, false, false] ?_
            refine tpu 5 (some 51) #[true, true, true, true, true, true, false, false, false, false, true, false, false, false, false, false] ?_
            refine tpu 6 (some 52) #[true, true, true, true, true, true, true, false, false, false, true, false, false, false, false, false] ?_
            refine tpu 7 (some 53) #[true, true, true, true, true, true, true, true, false, false, true, false, false, false, false, false] ?_
            refine tta 8 (some 54) #[true, true, true, true, true, true, true, true, true, false, true, false, false, false, false, false] hHeld ?_ (hy := by rintro w' ⟨s0, s1, s2, s3, s4, s5, s6, s7, s8, s9, s10, s11⟩; go_simp; with_reducible rfl)
            refine tpu 9 (some 55) #[true, true, true, true, true, true, true, true, true, true, true, false, false, false, false, false] ?_
            refine one_ (i := 11) (N := some 57) #[true, true, true, true, true, true, true, true, true, true, true, true, false, false, false, false] rfl rfl (one_of HT_.out (by kernel_rfl)) (by decide) (fun K hK => ?_)
            refine goes_ Tryd.func33 (by kernel_rfl) rfl #[.pointer (some ⟨g, 0, none⟩), .int .i64 4] (by rfl) rfl rfl tq ?_
            with_reducible refine (spec_l6Rd_pick.calls kj20 g s0_0 t256 4 t261 t262 w0 _ ?side1 ?side2 A41.out).mono ?_
            (case side1 => exact zi88)
            (case side2 => exact zb)
            rintro e w50 ⟨rfl, hi, hb, hk⟩
            have HS6_ := keep_cell hk (hHeld.2.2.2.2.2.2.1) (tow (Kd.own_blk (IsS88.own_neN HI0.out HO255.out (by decide))))
            have HS7_ := keep_cell hk (hHeld.2.2.2.2.2.2.2.1) (tow (Kd.own_blk (IsS88.own_neN HI0.out HO255.out (by decide))))
            have HS8_ := keep_cell hk (hHeld.2.2.2.2.2.2.2.2.1) (tow (Kd.own_blk (IsS88.own_neN HI0.out HO255.out (by decide))))
            have HS9_ := keep_cell hk (hHeld.2.2.2.2.2.2.2.2.2.1) (tow (Kd.own_blk (IsS88.own_neN HI0.out HO255.out (by decide))))
            have HS10_ := keep_cell hk (hHeld.2.2.2.2.2.2.2.2.2.2.1) (tow (Kd.own_blk (IsS88.own_neN HI0.out HO255.out (by decide))))
            have HS11_ := keep_cell hk (hHeld.2.2.2.2.2.2.2.2.2.2.2) (tow (Kd.own_blk (IsS88.own_neN HI0.out HO255.out (by decide))))
            refine ⟨_, rfl, ?_⟩
            replace HO_250005 := tNk HO_250005 hk
            replace BK249 := tBk BK249 hk NB249_0
            replace HO259 := tNk HO259 hk
            replace HK := tKt HK hk
            replace HB := Aside0.mk (hb)
            replace HI0 := Aside0.mk (hi)
            (try clear hb)
            (try clear hb2)
            (try clear hk)
            (try clear hi)
            refine hK.out _ _ ⟨(blk_cell BK249.out 0).trans rfl, (blk_cell BK249.out 1).trans rfl, (blk_cell BK249.out 2).trans rfl, (blk_cell BK249.out 3).trans rfl, (blk_cell BK249.out 4).trans rfl, (blk_cell BK249.out 5).trans rfl, HS6_, HS7_, HS8_, HS9_, HS10_, HS11_⟩ (fun hHeld => ?_)
            clear hK K
            refine tnm (some 57) ?_
            refine tpu 12 (some 58) #[true, true, true, true, true, true, true, true, true, true, true, true, true, false, false, false] ?_
            refine tpu 13 (some 59) #[true, true, true, true, true, true, true, true, true, true, true, true, true, true, false, false] ?_
            refine tpu 14 (some 60) #[true, true, true, true, true, true, true, true, true, true, true, true, true, true, true, false] ?_
            refine tpu 15 (some 5) #[true, true, true, true, true, true, true, true, true, true, true, true, true, true, true, true] ?_
            refine done_ (done_of HT_.out (by kernel_rfl)) ?_
            try go_wp2
            go_roundg kj20
            case measure => have := HJ3.out; have := HK2.out; have := HJ20.out; omega
            case rel => exact ⟨(y257), (wrap64 ((wrap64 (((rd_T33 t253 (ji38)).f0) + 1)) + (wrap64 ((wrap64 (Int.tdiv t261 3)) * 2)))), (wrap64 (x6_2 + 1)), (t262), (by first | rfl | (simp; done) | (simp only [← hji38] <;> (first | rfl | simp)) | (simp [*]; done)), tr, H', ⟨by have := HJ3.out; have := HK2.out; have := HJ20.out; omega⟩, ⟨tNm HO259.out⟩, ⟨zi88⟩, ⟨zk⟩, ⟨zb⟩⟩
           ·rw [if_neg c40] at H
            exact absurd H (by simp)
          ·rw [if_neg c39] at H
           exact absurd H (by simp)
         ·rw [if_neg c37] at H
          exact absurd H (by simp)
        ·replace c35 := Bool.eq_false_iff.mpr c35
         subst c35
         rw [if_neg (show ¬ (false = true) by decide)] at H
         by_cases c51 : x3_2.length < 2513169434916
         ·rw [if_pos c51] at H
          have LMc51 := Aside0.mk c51
          clear c51
          obtain ⟨y263, hy263⟩ : ∃ y_ : List (S47), y_ = (x3_2 ++ [(⟨t240, t241, t242, t243, t244, t245⟩ : S47)]) := ⟨_, rfl⟩
          replace H : (if 0 ≤ (wrap64 ((t245.length : Int) - 1)) then (if (wrap64 ((t245.length : Int) - 1)) < (t245.length : Int) then ((spec_l6Rd_pick.f kj20 s0_0 x1001_20 4).bind fun bt267 => (spec_l92Log.l0 kj20 y263 x4_3 (wrap64 ((wrap64 (((rd_T33 t245 (wrap64 ((t245.length : Int) - 1))).f0) + 1)) + (wrap64 ((wrap64 (Int.tdiv bt267.1 3)) * 2)))) (wrap64 (x6_2 + 1)) s0_0 bt267.2)) else (none)) else (none)) = some (r1, r2) := by first | (rw [hy263]; with_reducible exact H) | (have H2_ := (Option.bind_some _ _).symm.trans H; rw [hy263]; with_reducible exact H2_) | (have H2_ := (Option.bind_some _ _).symm.trans H; with_reducible exact H2_) | with_reducible exact H | (rw [hy263]; exact H) | exact H
          have Ny263 := Aside0.mk hy263
          clear hy263
          obtain ⟨ji52, hji52⟩ : ∃ j_ : Int, (wrap64 ((t245.length : Int) - 1)) = j_ := ⟨_, rfl⟩
          replace H : (if 0 ≤ (ji52) then (if (ji52) < (t245.length : Int) then ((spec_l6Rd_pick.f kj20 s0_0 x1001_20 4).bind fun bt267 => (spec_l92Log.l0 kj20 y263 x4_3 (wrap64 ((wrap64 (((rd_T33 t245 (ji52)).f0) + 1)) + (wrap64 ((wrap64 (Int.tdiv bt267.1 3)) * 2)))) (wrap64 (x6_2 + 1)) s0_0 bt267.2)) else (none)) else (none)) = some (r1, r2) := by first | (rw [hji52] at H; exact H) | (simp only [hji52] at H ⊢; exact H)
          have hji52w : (IntKind.i64.wrap ((t245.length : Int) - 1)) = ji52 := (i64_w _).trans hji52
          by_cases c53 : 0 ≤ (ji52)
          ·rw [if_pos c53] at H
           have c53b0 : decide (0 ≤ (ji52)) = true := decide_eq_true c53
           clear c53
           by_cases c54 : (ji52) < (t245.length : Int)
           ·rw [if_pos c54] at H
            have c54b0 : decide ((ji52) < (t245.length : Int)) = true := decide_eq_true c54
            clear c54
            replace H := tbe H
            obtain ⟨⟨t267, t268⟩, A55, H⟩ := H
            dsimp only at H
            have H' := Aside0.mk H
            clear H
            have hnb56 := NB249_0.out
            have hnc56 := NB0_249.out
            obtain ⟨hcz57_0, hcz57_1, hcz57_2, hcz57_3, hcz57_4, hcz57_5, hfz57_0, hfz57_1, hfz57_2, hfz57_3, hfz57_4, hfz57_5⟩ := cells6 BK249.out
            try go_wp2_with (first | ((with_reducible refine gate_builtin (b := .append) (xs := #[.tmp 42, .tmp 44]) rfl ?_); at_builtin; refine Kd.N_append k47 w.heap.size rfl (.tmp 42) (.tmp 44) 23 47 (.agg #[(.bool false), (.bool false), (.int .i64 0), (.int .i64 0), (.int .i64 0), (.slice none 0 0)]) 56 rfl Tryd.underlying23 info47 rfl (by decide) (by omega) u3 x3_2 (⟨t240, t241, t242, t243, t244, t245⟩ : S47) [.bool t240, .bool t241, .int .i64 t242, .int .i64 t243, .int .i64 t244, .slice Ao26 t245.length co26] (fun k_ => (w.heap.size ≤ k_) ∧ k_ ≠ gb249 ∧ k_ ≠ g) (fun k_ => ((fun k_ => (w.heap.size ≤ k_) ∧ k_ ≠ gb249 ∧ k_ ≠ g)) k_ ∧ some k_ ≠ (u3 : Value).ownBlock) rfl rfl ?aP (fun _ hk => hk) ?aF ?aO (Below.refl _ _) ?aS ?aL ?_; (case aP => exact (k47_mkF _ _ (⟨t240, t241, t242, t243, t244, t245⟩ : S47) (Kd.N_reads' (Kd.N_mono (ok' := (fun k_ => ((fun k_ => (w.heap.size ≤ k_) ∧ k_ ≠ gb249 ∧ k_ ≠ g)) k_ ∧ some k_ ≠ (u3 : Value).ownBlock)) (HO_250005.out) (fun k_ hk => ⟨⟨hk.1, ⟨hk.2.2.1, hk.2.2.2⟩⟩, hk.2.1⟩))).2.1 (Kd.N_F (Kd.N_mono (ok' := (fun k_ => ((fun k_ => (w.heap.size ≤ k_) ∧ k_ ≠ gb249 ∧ k_ ≠ g)) k_ ∧ some k_ ≠ (u3 : Value).ownBlock)) (HO_250005.out) (fun k_ hk => ⟨⟨hk.1, ⟨hk.2.2.1, hk.2.2.2⟩⟩, hk.2.1⟩))))); (case aF => exact (fun k_ hk => ⟨(Nat.le_trans (keep_size (w := w) (g := g) (row := none) zk) hk), tfB BK249 k_ hk, IsS88.fresh zi88 k_ hk⟩)); (case aO => exact (tNm HO_3.out)); (case aS => exact (keep_size (w := w) (g := g) (row := none) zk)); (case aL => have := LMc51.out; omega); intro v264 w58 ho hb hg hat; rw [← Ny263.out] at ho; have n0_ := Aside0.mk (blk_grown (tH BK249.out) hg (Kd.N_away HO_3.out (fun _ hk => hk.2.2.1))); have n1_ := Aside0.mk (IsS88.grown zi88 hg (IsS88.own_neN HI0.out HO_3.out (by decide))); have n2_ := Aside0.mk (below_weaken zb HL.out hb); have n3_ := Aside0.mk (KeepBut.trans zk (KeepBut.of_grown hg g) (Kd.N_base2 HO_3.out)); have n4_ := Aside0.mk (ho); have nx_ := Aside0.mk (Kd.N_grown (tN HO_250005.out) hg (fun k_ hk => by first | exact hk.2.1 | exact hk.2.2.1 | exact hk.1.2.1 | exact hk.1.2.2.1)); clear BK249; clear HI0; clear HB; clear HK; clear HO_3; clear HO_250005; have BK249 := n0_; have HI0 := n1_; have HB := n2_; have HK := n3_; have HO265 := n4_; clear n0_ n1_ n2_ n3_ n4_; have HO_250005 := nx_; clear nx_; clear ho hb hg hat))
            replace HO265 := Aside0.mk (Kd.N_drew HO265.out)
            replace BK249 := Aside0.mk (blk_drew BK249.out)
            replace HI0 := Aside0.mk (IsS88.drew HI0.out)
            replace HK := Aside0.mk (keep_drew HK.out)
            replace HB := Aside0.mk (below_drew1 HB.out)
            have p266 : 0 ≤ ((ji52) : Int) := td
            have q266 : (ji52) < (t245.length : Int) := td
            have HO_250005 := Aside0.mk (Kd.N_drew HO_250005.out)
            obtain ⟨ad266, A266_3, c266_3, A266_5, c266_5, e266, hx266_0, hx266_1, hx266_2, hx266_3, hx266_4, hx266_5, hl266_3, hi266_3, hl266_5, hi266_5⟩ := at_T33 (Kd.N_reads' HO_250005.out).2.2 (ji52) p266 q266
            cases e266
            have HR266_3 := Aside0.mk hi266_3
            have HC266_3 := Aside0.mk hl266_3
            clear hi266_3 hl266_3
            have HR266_5 := Aside0.mk hi266_5
            have HC266_5 := Aside0.mk hl266_5
            clear hi266_5 hl266_5
            replace p266 := eq_true p266
            replace q266 := eq_true q266
            refine start_ (n := 16) (S := fun w' => w'.cell? ⟨gb249, 0, none⟩ = some (.bool t240) ∧ w'.cell? ⟨gb249, 1, none⟩ = some (.bool t241) ∧ w'.cell? ⟨gb249, 2, none⟩ = some (.int .i64 t242) ∧ w'.cell? ⟨gb249, 3, none⟩ = some (.int .i64 t243) ∧ w'.cell? ⟨gb249, 4, none⟩ = some (.int .i64 t244) ∧ w'.cell? ⟨gb249, 5, none⟩ = some (.slice (some ad266) t245.length co26) ∧ w'.cell? (ad266.add (((ji52)).toNat * 6)) = some (.int .i64 ((rd_T33 t245 (ji52)).f0)) ∧ w'.cell? ⟨(ad266.add (((ji52)).toNat * 6)).block, (ad266.add (((ji52)).toNat * 6)).off + 1, none⟩ = some (.int .i64 ((rd_T33 t245 (ji52)).f1)) ∧ w'.cell? ⟨(ad266.add (((ji52)).toNat * 6)).block, (ad266.add (((ji52)).toNat * 6)).off + 2, none⟩ = some (.bool ((rd_T33 t245 (ji52)).f2)) ∧ w'.cell? ⟨(ad266.add (((ji52)).toNat * 6)).block, (ad266.add (((ji52)).toNat * 6)).off + 3, none⟩ = some (.slice A266_3 ((rd_T33 t245 (ji52)).f3).length c266_3) ∧ w'.cell? ⟨(ad266.add (((ji52)).toNat * 6)).block, (ad266.add (((ji52)).toNat * 6)).off + 4, none⟩ = some (.bool ((rd_T33 t245 (ji52)).f4)) ∧ w'.cell? ⟨(ad266.add (((ji52)).toNat * 6)).block, (ad266.add (((ji52)).toNat * 6)).off + 5, none⟩ = some (.slice A266_5 ((rd_T33 t245 (ji52)).f5).length c266_5)) (ds := []) #[false, false, false, false, false, false, false, false, false, false, false, false, false, false, false, false] (by kernel_rfl) rfl rfl ⟨(blk_cell BK249.out 0).trans rfl, (blk_cell BK249.out 1).trans rfl, (blk_cell BK249.out 2).trans rfl, (blk_cell BK249.out 3).trans rfl, (blk_cell BK249.out 4).trans rfl, (blk_cell BK249.out 5).trans rfl, hx266_0, hx266_1, hx266_2, hx266_3, hx266_4, hx266_5⟩ (fun hHeld => ?_); refine with_tabW spec_l92Log.tab13 spec_l92Log.bits13 (fun HT_ HW_ => ?_)
            generalize w58.drew = w59 at HO_250005 HO265 BK249 HI0 HK HB HR266_3 HR266_5 hx266_0 hx266_1 hx266_2 hx266_3 hx266_4 hx266_5 hHeld ⊢
            refine tpu 0 (some 46) #[true, false, false, false, false, false, false, false, false, false, false, false, false, false, false, false] ?_
            refine tpu 2 (some 48) #[true, false, true, false, false, false, false, false, false, false, false, false, false, false, false, false] ?_
            refine tpu 10 (some 56) #[true, false, true, false, false, false, false, false, false, false, true, false, false, false, false, false] ?_
            refine tta 1 (some 47) #[true, true, true, false, false, false, false, false, false, false, true, false, false, false, false, false] hHeld ?_ (hy := by rintro w' ⟨s0, s1, s2, s3, s4, s5, s6, s7, s8, s9, s10, s11⟩; go_simp; with_reducible rfl)
            refine tta 3 (some 49) #[true, true, true, true, false, false, false, false, false, false, true, false, false, false, false, false] hHeld ?_ (hy := by rintro w' ⟨s0, s1, s2, s3, s4, s5, s6, s7, s8, s9, s10, s11⟩; go_simp; with_reducible rfl)
            refine tpu 4 (some 50) #[true, true, true, true, true, false, false, false, false, false, true, false, false, false, false, false] ?_
            refine tpu 5 (some 51) #[true, true, true, true, true, true, false, false, false, false, true, false, false, false, false, false] ?_
            refine tpu 6 (some 52) #[true, true, true, true, true, true, true, false, false, false, true, false, false, false, false, false] ?_
            refine tpu 7 (some 53) #[true, true, true, true, true, true, true, true, false, false, true, false, false, false, false, false] ?_
            refine tta 8 (some 54) #[true, true, true, true, true, true, true, true, true, false, true, false, false, false, false, false] hHeld ?_ (hy := by rintro w' ⟨s0, s1, s2, s3, s4, s5, s6, s7, s8, s9, s10, s11⟩; go_simp; with_reducible rfl)
            refine tpu 9 (some 55) #[true, true, true, true, true, true, true, true, true, true, true, false, false, false, false, false] ?_
            refine one_ (i := 11) (N := some 57) #[true, true, true, true, true, true, true, true, true, true, true, true, false, false, false, false] rfl rfl (one_of HT_.out (by kernel_rfl)) (by decide) (fun K hK => ?_)
            refine goes_ Tryd.func33 (by kernel_rfl) rfl #[.pointer (some ⟨g, 0, none⟩), .int .i64 4] (by rfl) rfl rfl tq ?_
            with_reducible refine (spec_l6Rd_pick.calls kj20 g s0_0 x1001_20 4 t267 t268 w0 _ ?side1 ?side2 A55.out).mono ?_
            (case side1 => exact zi88)
            (case side2 => exact zb)
            rintro e w60 ⟨rfl, hi, hb, hk⟩
            have HS6_ := keep_cell hk (hHeld.2.2.2.2.2.2.1) (tow (Kd.own_blk (IsS88.own_neN HI0.out HO_250005.out (by decide))))
            have HS7_ := keep_cell hk (hHeld.2.2.2.2.2.2.2.1) (tow (Kd.own_blk (IsS88.own_neN HI0.out HO_250005.out (by decide))))
            have HS8_ := keep_cell hk (hHeld.2.2.2.2.2.2.2.2.1) (tow (Kd.own_blk (IsS88.own_neN HI0.out HO_250005.out (by decide))))
            have HS9_ := keep_cell hk (hHeld.2.2.2.2.2.2.2.2.2.1) (tow (Kd.own_blk (IsS88.own_neN HI0.out HO_250005.out (by decide))))
            have HS10_ := keep_cell hk (hHeld.2.2.2.2.2.2.2.2.2.2.1) (tow (Kd.own_blk (IsS88.own_neN HI0.out HO_250005.out (by decide))))
            have HS11_ := keep_cell hk (hHeld.2.2.2.2.2.2.2.2.2.2.2) (tow (Kd.own_blk (IsS88.own_neN HI0.out HO_250005.out (by decide))))
            refine ⟨_, rfl, ?_⟩
            replace BK249 := tBk BK249 hk NB249_0
            replace HO265 := tNk HO265 hk
            replace HK := tKt HK hk
            replace HB := Aside0.mk (hb)
            replace HI0 := Aside0.mk (hi)
            (try clear hb)
            (try clear hb2)
            (try clear hk)
            (try clear hi)
            refine hK.out _ _ ⟨(blk_cell BK249.out 0).trans rfl, (blk_cell BK249.out 1).trans rfl, (blk_cell BK249.out 2).trans rfl, (blk_cell BK249.out 3).trans rfl, (blk_cell BK249.out 4).trans rfl, (blk_cell BK249.out 5).trans rfl, HS6_, HS7_, HS8_, HS9_, HS10_, HS11_⟩ (fun hHeld => ?_)
            clear hK K
            refine tnm (some 57) ?_
            refine tpu 12 (some 58) #[true, true, true, true, true, true, true, true, true, true, true, true, true, false, false, false] ?_
            refine tpu 13 (some 59) #[true, true, true, true, true, true, true, true, true, true, true, true, true, true, false, false] ?_
            refine tpu 14 (some 60) #[true, true, true, true, true, true, true, true, true, true, true, true, true, true, true, false] ?_
            refine tpu 15 (some 5) #[true, true, true, true, true, true, true, true, true, true, true, true, true, true, true, true] ?_
            refine done_ (done_of HT_.out (by kernel_rfl)) ?_
            try go_wp2
            go_roundg kj20
            case measure => have := HJ3.out; have := HK2.out; have := HJ20.out; omega
            case rel => exact ⟨(y263), (wrap64 ((wrap64 (((rd_T33 t245 (ji52)).f0) + 1)) + (wrap64 ((wrap64 (Int.tdiv t267 3)) * 2)))), (wrap64 (x6_2 + 1)), (t268), (by first | rfl | (simp; done) | (simp only [← hji52] <;> (first | rfl | simp)) | (simp [*]; done)), tr, H', ⟨by have := HJ3.out; have := HK2.out; have := HJ20.out; omega⟩, ⟨tNm HO265.out⟩, ⟨zi88⟩, ⟨zk⟩, ⟨zb⟩⟩
           ·rw [if_neg c54] at H
            exact absurd H (by simp)
          ·rw [if_neg c53] at H
           exact absurd H (by simp)
         ·rw [if_neg c51] at H
          exact absurd H (by simp)
     ·rw [if_neg c19] at H
      have c19b0 : decide (x6_2 < x4_3) = false := decide_eq_false c19
      clear c19
      by_cases c61 : x4_3 > 1
      ·rw [if_pos c61] at H
       have c61b0 : decide (1 < x4_3) = true := decide_eq_true c61
       clear c61
       replace H := tbe H
       obtain ⟨⟨t236, t237⟩, A62, H⟩ := H
       dsimp only at H
       by_cases c63 : t236 = 0
       ·rw [if_pos c63] at H
        have c63b0 : (t236 == 0) = true := beq_iff_eq.mpr c63
        have c63b1 : (t236 != 0) = false := bne_eq_false_iff_eq.mpr c63
        clear c63
        by_cases c64 : 0 < (x3_2.length : Int)
        ·rw [if_pos c64] at H
         have c64b0 : decide (0 < (x3_2.length : Int)) = true := decide_eq_true c64
         have c64b1 : decide (0 < x3_2.length) = true := decide_eq_true (by omega)
         clear c64
         by_cases c65 : 1 < (x3_2.length : Int)
         ·rw [if_pos c65] at H
          have c65b0 : decide (1 < (x3_2.length : Int)) = true := decide_eq_true c65
          have c65b1 : decide (1 < x3_2.length) = true := decide_eq_true (by omega)
          clear c65
          obtain ⟨y239, hy239⟩ : ∃ y_ : List (S47), y_ = (x3_2.set (1 : Int).toNat (⟨(rd_T47 x3_2 0).f0, (rd_T47 x3_2 0).f1, (rd_T47 x3_2 0).f2, (rd_T47 x3_2 0).f3, (rd_T47 x3_2 0).f4, (rd_T47 x3_2 0).f5⟩ : S47)) := ⟨_, rfl⟩
          replace H : (some (y239, t237)) = some (r1, r2) := by first | (rw [hy239]; with_reducible exact H) | (have H2_ := (Option.bind_some _ _).symm.trans H; rw [hy239]; with_reducible exact H2_) | (have H2_ := (Option.bind_some _ _).symm.trans H; with_reducible exact H2_) | with_reducible exact H | (rw [hy239]; exact H) | exact H
          have Ny239 := Aside0.mk hy239
          clear hy239
          simp only [Option.some.injEq, Prod.mk.injEq] at H
          obtain ⟨rfl, rfl⟩ := H
          go_wp2_with (first | (go_at_call 33; (with_reducible refine (spec_l6Rd_pick.calls k2 g s0_0 x1001_2 30 t236 t237 w0 _ ?side1 ?side2 A62.out).mono ?_); (case side1 => exact zi88); (case side2 => exact zb); rintro e w67 ⟨rfl, hi, hb, hk⟩; replace HO_3 := tNk HO_3 hk; replace HK := tKt HK hk; replace HB := Aside0.mk (hb); replace HI0 := Aside0.mk (hi); (try clear hb); (try clear hb2); (try clear hk); (try clear hi); obtain ⟨Ao68, co68, eo68⟩ := Kd.N_slice HO_3.out; subst eo68; have p238 : 0 ≤ (0 : Int) := (by omega); have q238 : 0 < (x3_2.length : Int) := td; obtain ⟨ad238, A238_5, c238_5, e238, hx238_0, hx238_1, hx238_2, hx238_3, hx238_4, hx238_5, hl238_5, hi238_5⟩ := at_T47 (Kd.N_reads' HO_3.out).2.2 0 p238 q238; cases e238; obtain ⟨ce238, hce238, hMe238, hcc238⟩ := Kd.N_get HO_3.out z47 0 p238 (by first | exact q238 | exact td | (have e_ := (Kd.N_reads' HO_3.out).1; omega)); obtain ⟨ua238_5, uc238_5, rfl, ul238_5, ge238_5⟩ := k47_openF hMe238; have hv238_5 := hcc238 5 _ rfl; rw [add_field _ _ 5 (by omega)] at hv238_5; replace hv238_5 := Option.some.inj (hv238_5.symm.trans hx238_5); injection hv238_5 with hva_ hvn_ hvc_; rw [hva_] at ge238_5; rw [hvc_] at ul238_5; have HL238_5 := Aside0.mk (show Kd.V k33 33 _ w.heap.size _ _ ((rd_T47 x3_2 0).f5) from Kd.V_mk ul238_5 ge238_5); clear hva_ hvn_ hvc_ ge238_5 ul238_5; clear hcc238 hce238; have qi238 : (0 < x3_2.length) = True := eq_true (by omega); (try rw [show ((0 : Int)).toNat = 0 from rfl] at hx238_0); (try rw [show 0 * 6 = 0 from rfl] at hx238_0); (try rw [Addr.add_zero'] at hx238_0); (try rw [show ((0 : Int)).toNat = 0 from rfl] at hx238_1); (try rw [show 0 * 6 = 0 from rfl] at hx238_1); (try rw [Addr.add_zero'] at hx238_1); (try rw [show ((0 : Int)).toNat = 0 from rfl] at hx238_2); (try rw [show 0 * 6 = 0 from rfl] at hx238_2); (try rw [Addr.add_zero'] at hx238_2); (try rw [show ((0 : Int)).toNat = 0 from rfl] at hx238_3); (try rw [show 0 * 6 = 0 from rfl] at hx238_3); (try rw [Addr.add_zero'] at hx238_3); (try rw [show ((0 : Int)).toNat = 0 from rfl] at hx238_4); (try rw [show 0 * 6 = 0 from rfl] at hx238_4); (try rw [Addr.add_zero'] at hx238_4); (try rw [show ((0 : Int)).toNat = 0 from rfl] at hx238_5); (try rw [show 0 * 6 = 0 from rfl] at hx238_5); (try rw [Addr.add_zero'] at hx238_5); have HR238_5 := Aside0.mk hi238_5; have HC238_5 := Aside0.mk hl238_5; clear hi238_5 hl238_5; replace p238 := eq_true p238; replace q238 := eq_true q238; have p66 : 0 ≤ (1 : Int) := (by omega); have q66 : (1 : Int) < ((x3_2.length : Int) : Int) := td; have qi66 : (1 < x3_2.length) = True := eq_true (by omega); obtain ⟨go66, co66, eo66, gb66, gl66, cl66, HG66⟩ := Kd.N_form HO_3.out (by omega); (first | cases eo66 | (injection eo66 with ea_ en_ ec_; (first | subst ea_ | (injection ea_ with ea_; subst ea_)); subst ec_; clear en_)); have GB66 := Aside0.mk gb66; have GG66 := Aside0.mk HG66; clear gb66 gl66 HG66; (first | simp only [add_plain] at hx238_0 | skip); (first | simp only [add_plain] at hx238_1 | skip); (first | simp only [add_plain] at hx238_2 | skip); (first | simp only [add_plain] at hx238_3 | skip); (first | simp only [add_plain] at hx238_4 | skip); (first | simp only [add_plain] at hx238_5 | skip); obtain ⟨ce66, hcl66, hM66, hcc66, hfr66⟩ := Kd.N_elem HO_3.out z47 (1 : Int) p66 q66; obtain ⟨ua66_5, uc66_5, rfl, ul66_5, ge66_5⟩ := k47_openF hM66; have hx66_0 : w67.cell? ⟨go66, (1 : Int).toNat * 6, none⟩ = some (.bool ((rd_T47 x3_2 1).f0)) := hcc66 0 _ rfl; have hx66_1 : w67.cell? ⟨go66, (1 : Int).toNat * 6 + 1, none⟩ = some (.bool ((rd_T47 x3_2 1).f1)) := hcc66 1 _ rfl; have hx66_2 : w67.cell? ⟨go66, (1 : Int).toNat * 6 + 2, none⟩ = some (.int .i64 ((rd_T47 x3_2 1).f2)) := hcc66 2 _ rfl; have hx66_3 : w67.cell? ⟨go66, (1 : Int).toNat * 6 + 3, none⟩ = some (.int .i64 ((rd_T47 x3_2 1).f3)) := hcc66 3 _ rfl; have hx66_4 : w67.cell? ⟨go66, (1 : Int).toNat * 6 + 4, none⟩ = some (.int .i64 ((rd_T47 x3_2 1).f4)) := hcc66 4 _ rfl; have hx66_5 : w67.cell? ⟨go66, (1 : Int).toNat * 6 + 5, none⟩ = some (.slice ua66_5 ((rd_T47 x3_2 1).f5).length uc66_5) := hcc66 5 _ rfl; have hf66_0 : w67.frozen? ⟨go66, (1 : Int).toNat * 6, none⟩ = false := hfr66 0; have hf66_1 : w67.frozen? ⟨go66, (1 : Int).toNat * 6 + 1, none⟩ = false := hfr66 1; have hf66_2 : w67.frozen? ⟨go66, (1 : Int).toNat * 6 + 2, none⟩ = false := hfr66 2; have hf66_3 : w67.frozen? ⟨go66, (1 : Int).toNat * 6 + 3, none⟩ = false := hfr66 3; have hf66_4 : w67.frozen? ⟨go66, (1 : Int).toNat * 6 + 4, none⟩ = false := hfr66 4; have hf66_5 : w67.frozen? ⟨go66, (1 : Int).toNat * 6 + 5, none⟩ = false := hfr66 5; clear hcl66 hcc66 hfr66 hM66; (try rw [show ((1 : Int)).toNat = 1 from rfl] at hx66_0); (try simp only [Nat.reduceMul, Nat.zero_mul, Nat.zero_add, Nat.reduceAdd] at hx66_0); (try rw [show ((1 : Int)).toNat = 1 from rfl] at hf66_0); (try simp only [Nat.reduceMul, Nat.zero_mul, Nat.zero_add, Nat.reduceAdd] at hf66_0); (try rw [show ((1 : Int)).toNat = 1 from rfl] at hx66_1); (try simp only [Nat.reduceMul, Nat.zero_mul, Nat.zero_add, Nat.reduceAdd] at hx66_1); (try rw [show ((1 : Int)).toNat = 1 from rfl] at hf66_1); (try simp only [Nat.reduceMul, Nat.zero_mul, Nat.zero_add, Nat.reduceAdd] at hf66_1); (try rw [show ((1 : Int)).toNat = 1 from rfl] at hx66_2); (try simp only [Nat.reduceMul, Nat.zero_mul, Nat.zero_add, Nat.reduceAdd] at hx66_2); (try rw [show ((1 : Int)).toNat = 1 from rfl] at hf66_2); (try simp only [Nat.reduceMul, Nat.zero_mul, Nat.zero_add, Nat.reduceAdd] at hf66_2); (try rw [show ((1 : Int)).toNat = 1 from rfl] at hx66_3); (try simp only [Nat.reduceMul, Nat.zero_mul, Nat.zero_add, Nat.reduceAdd] at hx66_3); (try rw [show ((1 : Int)).toNat = 1 from rfl] at hf66_3); (try simp only [Nat.reduceMul, Nat.zero_mul, Nat.zero_add, Nat.reduceAdd] at hf66_3); (try rw [show ((1 : Int)).toNat = 1 from rfl] at hx66_4); (try simp only [Nat.reduceMul, Nat.zero_mul, Nat.zero_add, Nat.reduceAdd] at hx66_4); (try rw [show ((1 : Int)).toNat = 1 from rfl] at hf66_4); (try simp only [Nat.reduceMul, Nat.zero_mul, Nat.zero_add, Nat.reduceAdd] at hf66_4); (try rw [show ((1 : Int)).toNat = 1 from rfl] at hx66_5); (try simp only [Nat.reduceMul, Nat.zero_mul, Nat.zero_add, Nat.reduceAdd] at hx66_5); (try rw [show ((1 : Int)).toNat = 1 from rfl] at hf66_5); (try simp only [Nat.reduceMul, Nat.zero_mul, Nat.zero_add, Nat.reduceAdd] at hf66_5); replace p66 := eq_true p66; replace q66 := eq_true q66; have HX69 := Aside0.mk (show Kd.N k47 47 w67 w.heap.size (fun k_ => (w.heap.size ≤ k_) ∧ k_ ≠ g) (.slice (some ⟨go66, 0, none⟩) x3_2.length co68) x3_2 from (tN HO_3.out)); obtain ⟨ce69, hcl69, hM69, hcc69, hfr69⟩ := Kd.N_elem HX69.out z47 (1 : Int) (by omega) (by have h_ : (1 : Int) < ((x3_2.length : Int) : Int) := td; first | exact h_ | (have e_ := (Kd.N_reads' HO_3.out).1; omega) | simpa using h_); obtain ⟨ua69_5, uc69_5, rfl, ul69_5, ge69_5⟩ := k47_openF hM69; have HP69 := Kd.N_seg HX69.out (1 : Int) (by omega) (by have h_ : (1 : Int) < ((x3_2.length : Int) : Int) := td; first | exact h_ | (have e_ := (Kd.N_reads' HO_3.out).1; omega) | simpa using h_) (seg := [.bool ((rd_T47 x3_2 0).f0), .bool ((rd_T47 x3_2 0).f1), .int .i64 ((rd_T47 x3_2 0).f2), .int .i64 ((rd_T47 x3_2 0).f3), .int .i64 ((rd_T47 x3_2 0).f4), .slice A238_5 ((rd_T47 x3_2 0).f5).length c238_5]) (j := 0) hcl69 hcc69 (show 6 ≤ 6 from by decide) (x' := (⟨(rd_T47 x3_2 0).f0, (rd_T47 x3_2 0).f1, (rd_T47 x3_2 0).f2, (rd_T47 x3_2 0).f3, (rd_T47 x3_2 0).f4, (rd_T47 x3_2 0).f5⟩ : S47)) (k47_mkF _ _ (⟨(rd_T47 x3_2 0).f0, (rd_T47 x3_2 0).f1, (rd_T47 x3_2 0).f2, (rd_T47 x3_2 0).f3, (rd_T47 x3_2 0).f4, (rd_T47 x3_2 0).f5⟩ : S47) (Kd.V_reads' (Kd.V_mono (ok' := (fun k_ => ((fun k_ => (w.heap.size ≤ k_) ∧ k_ ≠ g)) k_ ∧ k_ ≠ go66)) (HL238_5.out) (fun k_ hk => ⟨⟨hk.1.1, hk.1.2⟩, fun e_ => (hk.2) (by rw [e_]; rfl)⟩))).2.1 (Kd.V_F (Kd.V_mono (ok' := (fun k_ => ((fun k_ => (w.heap.size ≤ k_) ∧ k_ ≠ g)) k_ ∧ k_ ≠ go66)) (HL238_5.out) (fun k_ hk => ⟨⟨hk.1.1, hk.1.2⟩, fun e_ => (hk.2) (by rw [e_]; rfl)⟩)))) (fun _ hk => hk); have hx69_0 := hcc69 0 _ rfl; (try simp only [show (k47).sz = 6 from rfl, Nat.mul_one, Nat.add_zero] at hx69_0); (try rw [show ((1 : Int)).toNat = 1 from rfl] at hx69_0); (try simp only [Nat.reduceMul, Nat.zero_mul, Nat.zero_add, Nat.reduceAdd] at hx69_0); have hf69_0 := hfr69 0; (try simp only [show (k47).sz = 6 from rfl, Nat.mul_one, Nat.add_zero] at hf69_0); (try rw [show ((1 : Int)).toNat = 1 from rfl] at hf69_0); (try simp only [Nat.reduceMul, Nat.zero_mul, Nat.zero_add, Nat.reduceAdd] at hf69_0); have hx69_1 := hcc69 1 _ rfl; (try simp only [show (k47).sz = 6 from rfl, Nat.mul_one, Nat.add_zero] at hx69_1); (try rw [show ((1 : Int)).toNat = 1 from rfl] at hx69_1); (try simp only [Nat.reduceMul, Nat.zero_mul, Nat.zero_add, Nat.reduceAdd] at hx69_1); have hf69_1 := hfr69 1; (try simp only [show (k47).sz = 6 from rfl, Nat.mul_one, Nat.add_zero] at hf69_1); (try rw [show ((1 : Int)).toNat = 1 from rfl] at hf69_1); (try simp only [Nat.reduceMul, Nat.zero_mul, Nat.zero_add, Nat.reduceAdd] at hf69_1); have hx69_2 := hcc69 2 _ rfl; (try simp only [show (k47).sz = 6 from rfl, Nat.mul_one, Nat.add_zero] at hx69_2); (try rw [show ((1 : Int)).toNat = 1 from rfl] at hx69_2); (try simp only [Nat.reduceMul, Nat.zero_mul, Nat.zero_add, Nat.reduceAdd] at hx69_2); have hf69_2 := hfr69 2; (try simp only [show (k47).sz = 6 from rfl, Nat.mul_one, Nat.add_zero] at hf69_2); (try rw [show ((1 : Int)).toNat = 1 from rfl] at hf69_2); (try simp only [Nat.reduceMul, Nat.zero_mul, Nat.zero_add, Nat.reduceAdd] at hf69_2); have hx69_3 := hcc69 3 _ rfl; (try simp only [show (k47).sz = 6 from rfl, Nat.mul_one, Nat.add_zero] at hx69_3); (try rw [show ((1 : Int)).toNat = 1 from rfl] at hx69_3); (try simp only [Nat.reduceMul, Nat.zero_mul, Nat.zero_add, Nat.reduceAdd] at hx69_3); have hf69_3 := hfr69 3; (try simp only [show (k47).sz = 6 from rfl, Nat.mul_one, Nat.add_zero] at hf69_3); (try rw [show ((1 : Int)).toNat = 1 from rfl] at hf69_3); (try simp only [Nat.reduceMul, Nat.zero_mul, Nat.zero_add, Nat.reduceAdd] at hf69_3); have hx69_4 := hcc69 4 _ rfl; (try simp only [show (k47).sz = 6 from rfl, Nat.mul_one, Nat.add_zero] at hx69_4); (try rw [show ((1 : Int)).toNat = 1 from rfl] at hx69_4); (try simp only [Nat.reduceMul, Nat.zero_mul, Nat.zero_add, Nat.reduceAdd] at hx69_4); have hf69_4 := hfr69 4; (try simp only [show (k47).sz = 6 from rfl, Nat.mul_one, Nat.add_zero] at hf69_4); (try rw [show ((1 : Int)).toNat = 1 from rfl] at hf69_4); (try simp only [Nat.reduceMul, Nat.zero_mul, Nat.zero_add, Nat.reduceAdd] at hf69_4); have hx69_5 := hcc69 5 _ rfl; (try simp only [show (k47).sz = 6 from rfl, Nat.mul_one, Nat.add_zero] at hx69_5); (try rw [show ((1 : Int)).toNat = 1 from rfl] at hx69_5); (try simp only [Nat.reduceMul, Nat.zero_mul, Nat.zero_add, Nat.reduceAdd] at hx69_5); have hf69_5 := hfr69 5; (try simp only [show (k47).sz = 6 from rfl, Nat.mul_one, Nat.add_zero] at hf69_5); (try rw [show ((1 : Int)).toNat = 1 from rfl] at hf69_5); (try simp only [Nat.reduceMul, Nat.zero_mul, Nat.zero_add, Nat.reduceAdd] at hf69_5); clear hcl69 hcc69 hfr69 hM69) | ((with_reducible refine gate_store (t := 47) (p := 72) rfl ?_); refine store_event (t := 47) (p := 72) (v := ?vo_w70) (w1 := ((((((w67.setCell ⟨go66, 6, none⟩ (.bool ((rd_T47 x3_2 0).f0))).setCell ⟨go66, 7, none⟩ (.bool ((rd_T47 x3_2 0).f1))).setCell ⟨go66, 8, none⟩ (.int .i64 ((rd_T47 x3_2 0).f2))).setCell ⟨go66, 9, none⟩ (.int .i64 ((rd_T47 x3_2 0).f3))).setCell ⟨go66, 10, none⟩ (.int .i64 ((rd_T47 x3_2 0).f4))).setCell ⟨go66, 11, none⟩ (.slice A238_5 ((rd_T47 x3_2 0).f5).length c238_5))) ?hg ?ho ?hn ?hr ?_; (case ho => rfl); (case hg => rfl); (case hn => rfl); (case hr => first | (go_simp; done) | (go_simp; rfl)); intro w70 hw; have hg : w67.grownBy w70 (some go66) := (by rw [hw]; exact HP69.2); have hp_ : Kd.N k47 47 w70 w.heap.size (fun k_ => (w.heap.size ≤ k_) ∧ k_ ≠ g) (.slice (some ⟨go66, 0, none⟩) x3_2.length co68) y239 := (by rw [hw, Ny239.out]; exact HP69.1); clear HP69; replace HI0 := Aside0.mk (IsS88.grown zi88 hg (IsS88.own_neN HI0.out HO_3.out (by decide))); replace HL238_5 := Aside0.mk (Kd.V_afterv (v := (.slice (some ⟨go66, 0, none⟩) x3_2.length co68)) (v1 := (.slice (some ⟨go66, 0, none⟩) x3_2.length co68)) (ok := (fun k_ => (w.heap.size ≤ k_) ∧ k_ ≠ g)) (tV HL238_5.out) hg (.inl rfl)); replace HB := Aside0.mk ((by rw [hw]; exact below_set (below_set (below_set (below_set (below_set (below_set (HB.out) (Nat.le_trans HL.out GB66.out)) (Nat.le_trans HL.out GB66.out)) (Nat.le_trans HL.out GB66.out)) (Nat.le_trans HL.out GB66.out)) (Nat.le_trans HL.out GB66.out)) (Nat.le_trans HL.out GB66.out) : Below w0.heap.size w0 w70)); replace HK := Aside0.mk (KeepBut.trans zk (KeepBut.of_grown hg g) (Kd.N_base2 HO_3.out)); replace HO_3 := Aside0.mk (hp_); clear hg hw hp_))
          go_ret
          exact ⟨_, by first | rfl | (simp [errW_none, errW_some] <;> rfl) | (simp [*, errW_none, errW_some] <;> rfl), tNm HO_3.out, zi88, zb, zk⟩
         ·rw [if_neg c65] at H
          exact absurd H (by simp)
        ·rw [if_neg c64] at H
         exact absurd H (by simp)
       ·rw [if_neg c63] at H
        have c63b0 : (t236 == 0) = false := beq_eq_false_iff_ne.mpr c63
        have c63b1 : (t236 != 0) = true := bne_iff_ne.mpr c63
        simp only [Option.some.injEq, Prod.mk.injEq] at H
        obtain ⟨rfl, rfl⟩ := H
        go_wp2_with (first | (go_at_call 33; (with_reducible refine (spec_l6Rd_pick.calls k2 g s0_0 x1001_2 30 t236 t237 w0 _ ?side1 ?side2 A62.out).mono ?_); (case side1 => exact zi88); (case side2 => exact zb); rintro e w71 ⟨rfl, hi, hb, hk⟩; replace HO_3 := tNk HO_3 hk; replace HK := tKt HK hk; replace HB := Aside0.mk (hb); replace HI0 := Aside0.mk (hi); (try clear hb); (try clear hb2); (try clear hk); (try clear hi)))
        go_ret
        exact ⟨_, by first | rfl | (simp [errW_none, errW_some] <;> rfl) | (simp [*, errW_none, errW_some] <;> rfl), tNm HO_3.out, zi88, zb, zk⟩
      ·rw [if_neg c61] at H
       have c61b0 : decide (1 < x4_3) = false := decide_eq_false c61
       clear c61
       simp only [Option.some.injEq, Prod.mk.injEq] at H
       obtain ⟨rfl, rfl⟩ := H
       go_wp2
       go_ret
       exact ⟨_, by first | rfl | (simp [errW_none, errW_some] <;> rfl) | (simp [*, errW_none, errW_some] <;> rfl), tNm HO_3.out, zi88, zb, zk⟩

end Go.Proofs.YtbbboachakkgiaaDoor.G

namespace Go.Proofs.YtbbboachakkgiaaDoor.G
open Go.RowKit Go.Proofs.YtbbboachakkgiaaDoorW.PrintWords Go.Proofs.YtbbboachakkgiaaDoorW.PrintLast Go.Proofs.YtbbboachakkgiaaDoorW.PrintMore
attribute [local go_sem] max2_int min2_int max_two min_two max_three min_three max_four min_four   -- for this text's walks alone
set_option linter.unusedVariables false
set_option linter.unusedSimpArgs false

def spec_DrawLogEven.l0 : Nat → List (S47) → Int → List Int → Int → Option ((List (S47)))
 | 0, _, _, _, _ => none
 | k + 1, x4, x5, x643000, x643001 => if x5 < (x4.length : Int) then ((spec_l6Rd_pick.f k x643000 x643001 4).bind fun bt647 => (if bt647.1 > 0 then ((spec_l6Rd_pick.f k x643000 bt647.2 4).bind fun bt649 => (if 0 ≤ x5 then (spec_DrawLogEven.l0 k (x4.set (x5 : Int).toNat (⟨decide (bt649.1 > 0), false, 255, 0, 0, (rd_T47 x4 x5).f5⟩ : S47)) (wrap64 (x5 + 1)) x643000 bt649.2) else (none))) else (spec_DrawLogEven.l0 k x4 (wrap64 (x5 + 1)) x643000 bt647.2))) else (some x4)
def spec_DrawLogEven.f (k : Nat) (l0 : List Int) : Option ((List (S47))) := (spec_l6Open.f l0).bind fun bt640 => ((spec_l92Log.f k bt640.1 bt640.2).bind fun bt643 => (spec_DrawLogEven.l0 k bt643.1 0 bt640.1 bt643.2))
def spec_DrawLogEven.T7 : Bool × List (List Nat × List Nat) := (true, [([], []), ([], []), ([], []), ([2], [2]), ([3], [3]), ([], []), ([], []), ([5, 6], [5, 6]), ([7], [7]), ([8], [8]), ([4, 9], [4, 9]), ([0, 1, 0, 1, 2, 3, 4, 5, 6, 7, 8, 9, 10], [0, 1]), ([11, 10, 3, 0, 1, 2, 3, 4, 5, 6, 7, 8, 9, 10], [10, 11])])
def spec_DrawLogEven.B7 : List Nat := [0, 0, 0, 4, 12, 0, 0, 96, 224, 480, 1020, 2047, 4095]
theorem spec_DrawLogEven.tab7 : rtab .any (opsOf Tryd.f24 7) = spec_DrawLogEven.T7 := by kernel_rfl
theorem spec_DrawLogEven.bits7 : waitsOk spec_DrawLogEven.T7.2 spec_DrawLogEven.B7 = true := by kernel_rfl
set_option maxHeartbeats 8000000 in
set_option maxRecDepth 100000 in
theorem spec_DrawLogEven.calls (k : Nat) (A0 : Option Addr) (c0 : Nat) (l0 : List Int) (r : List (S47)) (w : World) (hr0 : Kd.C (Kd.int .u8) w A0 l0.length l0) (hc0 : l0.length ≤ c0) (h : spec_DrawLogEven.f k l0 = some r) :
  Calls Tryd.prog 24 #[.slice A0 l0.length c0] w fun e w' => ∃ v0_ : Value, e = .returned (v0_) ∧ Kd.N k47 47 w' w.heap.size (fun k_ => (w.heap.size ≤ k_)) v0_ r ∧ Below w.heap.size w w' := by
 have hu47 := Tryd.underlying47
 have HR0 := Aside0.mk hr0
 have HC0 := Aside0.mk hc0
 clear hr0 hc0
 have HB := Aside0.mk (Below.refl w.heap.size w)
 have H : ((spec_l6Open.f l0).bind fun bt640 => ((spec_l92Log.f k bt640.1 bt640.2).bind fun bt643 => (spec_DrawLogEven.l0 k bt643.1 0 bt640.1 bt643.2))) = some r := h
 clear h
 replace H := tbe H
 obtain ⟨⟨t640, t641⟩, A2, H⟩ := H
 dsimp only at H
 replace H := tbe H
 obtain ⟨⟨t643, t646⟩, A3, H⟩ := H
 dsimp only at H
 have H' := Aside0.mk H
 clear H
 go_enter Tryd.func24, Tryd.ntmps24
 go_wp2_with (first | ((with_reducible refine gate_callee (f := 31) rfl ?_); refine goesL_ (some 7) rfl rfl Tryd.func31 (by kernel_rfl) rfl #[.slice A0 l0.length c0] rfl tq ?_; (with_reducible refine (spec_l6Open.calls _ _ l0 t640 t641 w _ ?side1 ?side2 ?side3 A2.out).mono ?_); (case side1 => exact zb); (case side2 => exact HR0.out); (case side3 => exact HC0.out); rintro e w4 ⟨g642, rfl, hi, hb, hb2⟩; refine ⟨_, rfl, ?_⟩; replace HB := Aside0.mk (hb); have HI642 := Aside0.mk (hi); (try clear hb); (try clear hb2); (try clear hk); (try clear hi)) | ((with_reducible refine gate_callee (f := 32) rfl ?_); refine goesL_ (some 9) rfl rfl Tryd.func32 (by kernel_rfl) rfl #[.pointer (some ⟨g642, 0, none⟩)] rfl tq ?_; (with_reducible refine (spec_l92Log.calls k g642 t640 t641 t643 t646 w _ ?side1 ?side2 A3.out).mono ?_); (case side1 => repeat (first | (with_reducible first | exact HI642.out | apply IsS88.alloc | apply IsS88.drewN | apply IsS88.drew | apply IsS88.set_1) | exact HI642.out)); (case side2 => repeat (first | (with_reducible first | exact HB.out | apply below_alloc | apply pw_below_drewN | apply below_drew1 | refine below_set ?_ (IsS88.ge HI642.out)) | exact HB.out)); rintro e w5 ⟨v644, rfl, ho0, hi, hb, hk⟩; have u_v644 := tsv Tryd.prog v644 ho0; refine ⟨_, rfl, ?_⟩; have HO645 := Aside0.mk (Kd.N_lower (Kd.N_mono (ok' := fun k_ => (w.heap.size ≤ k_) ∧ k_ ≠ g642) ho0 (fun k_ hk_ => ⟨(Nat.le_trans (below_size (by repeat (first | (with_reducible first | exact HB.out | apply below_alloc | apply pw_below_drewN | apply below_drew1 | refine below_set ?_ (IsS88.ge HI642.out)) | exact HB.out))) hk_), (IsS88.fresh (by repeat (first | (with_reducible first | exact HI642.out | apply IsS88.alloc | apply IsS88.drewN | apply IsS88.drew | apply IsS88.set_1) | exact HI642.out)) k_ hk_)⟩)) (below_size (by repeat (first | (with_reducible first | exact HB.out | apply below_alloc | apply pw_below_drewN | apply below_drew1 | refine below_set ?_ (IsS88.ge HI642.out)) | exact HB.out)))); replace HB := Aside0.mk (hb); replace HI642 := Aside0.mk (hi); (try clear hb); (try clear hb2); (try clear hk); (try clear hi); (try clear ho0)))
 go_loopg [5] k (fun kq v5 w' => ∃ (x4_1 : List (S47)) (x5_1 : Int) (x643001_1 : Int), v5 = .int .i64 x5_1 ∧ Aside0 (spec_DrawLogEven.l0 kq x4_1 x5_1 t640 x643001_1 = some r) ∧ Aside0 (kq ≤ k) ∧ Aside0 (Kd.N k47 47 w' w.heap.size (fun k_ => (w.heap.size ≤ k_) ∧ k_ ≠ g642) v644 x4_1) ∧ Aside0 (IsS88 w w' g642 t640 x643001_1) ∧ Aside0 (Below w.heap.size w w'))
 case atStart => exact ⟨(t643), (0), (t646), tr, H', ⟨Nat.le_refl _⟩, ⟨tN HO645.out⟩, ⟨by repeat (first | (with_reducible first | exact HI642.out | apply IsS88.alloc | apply IsS88.drewN | apply IsS88.drew | apply IsS88.set_1) | exact HI642.out)⟩, ⟨by repeat (first | (with_reducible first | exact HB.out | apply below_alloc | apply pw_below_drewN | apply below_drew1 | refine below_set ?_ (IsS88.ge HI642.out)) | exact HB.out)⟩⟩
 case round =>
  clear H'
  obtain ⟨x4_1, x5_1, x643001_1, rfl, HA, HK1, HO_4, HI642, HB⟩ := hrel
  cases gk with
  | zero => exact absurd HA.out (by simp [spec_DrawLogEven.l0])
  | succ k1 =>
   have H := HA.out
   clear HA
   simp only [spec_DrawLogEven.l0] at H
   by_cases c6 : x5_1 < (x4_1.length : Int)
   ·rw [if_pos c6] at H
    have c6b0 : decide (x5_1 < (x4_1.length : Int)) = true := decide_eq_true c6
    clear c6
    replace H := tbe H
    obtain ⟨⟨t647, t648⟩, A7, H⟩ := H
    dsimp only at H
    by_cases c8 : t647 > 0
    ·rw [if_pos c8] at H
     have c8b0 : decide (0 < t647) = true := decide_eq_true c8
     clear c8
     replace H := tbe H
     obtain ⟨⟨t649, t650⟩, A9, H⟩ := H
     dsimp only at H
     by_cases c10 : 0 ≤ x5_1
     ·rw [if_pos c10] at H
      have c10b0 : decide (0 ≤ x5_1) = true := decide_eq_true c10
      clear c10
      obtain ⟨y652, hy652⟩ : ∃ y_ : List (S47), y_ = (x4_1.set (x5_1 : Int).toNat (⟨decide (t649 > 0), false, 255, 0, 0, (rd_T47 x4_1 x5_1).f5⟩ : S47)) := ⟨_, rfl⟩
      replace H : (spec_DrawLogEven.l0 k1 y652 (wrap64 (x5_1 + 1)) t640 t650) = some r := by first | (rw [hy652]; with_reducible exact H) | (have H2_ := (Option.bind_some _ _).symm.trans H; rw [hy652]; with_reducible exact H2_) | (have H2_ := (Option.bind_some _ _).symm.trans H; with_reducible exact H2_) | with_reducible exact H | (rw [hy652]; exact H) | exact H
      have Ny652 := Aside0.mk hy652
      clear hy652
      have H' := Aside0.mk H
      clear H
      obtain ⟨Ao12, co12, eo12⟩ := Kd.N_slice HO_4.out
      subst eo12
      try go_wp2_with (first | ((with_reducible refine gate_callee (f := 33) rfl ?_); refine goesL_ (some 17) rfl rfl Tryd.func33 (by kernel_rfl) rfl #[.pointer (some ⟨g642, 0, none⟩), .int .i64 4] rfl tq ?_; (with_reducible refine (spec_l6Rd_pick.calls k1 g642 t640 x643001_1 4 t647 t648 w _ ?side1 ?side2 A7.out).mono ?_); (case side1 => repeat (first | (with_reducible first | exact HI642.out | apply IsS88.alloc | apply IsS88.drewN | apply IsS88.drew | apply IsS88.set_1) | exact HI642.out)); (case side2 => repeat (first | (with_reducible first | exact HB.out | apply below_alloc | apply pw_below_drewN | apply below_drew1 | refine below_set ?_ (IsS88.ge HI642.out)) | exact HB.out)); rintro e w13 ⟨rfl, hi, hb, hk⟩; refine ⟨_, rfl, ?_⟩; replace HO_4 := tNk HO_4 hk; replace HB := Aside0.mk (hb); replace HI642 := Aside0.mk (hi); (try clear hb); (try clear hb2); (try clear hk); (try clear hi)))
      replace HO_4 := Aside0.mk (Kd.N_drew HO_4.out)
      replace HI642 := Aside0.mk (IsS88.drew HI642.out)
      replace HB := Aside0.mk (below_drew1 HB.out)
      have p651 : 0 ≤ (x5_1 : Int) := td
      have q651 : x5_1 < (x4_1.length : Int) := td
      obtain ⟨ad651, A651_5, c651_5, e651, hx651_0, hx651_1, hx651_2, hx651_3, hx651_4, hx651_5, hl651_5, hi651_5⟩ := at_T47 (Kd.N_reads' HO_4.out).2.2 x5_1 p651 q651
      cases e651
      obtain ⟨ce651, hce651, hMe651, hcc651⟩ := Kd.N_get HO_4.out z47 x5_1 p651 (by first | exact q651 | exact td | (have e_ := (Kd.N_reads' HO_4.out).1; omega))
      obtain ⟨ua651_5, uc651_5, rfl, ul651_5, ge651_5⟩ := k47_openF hMe651
      have hv651_5 := hcc651 5 _ rfl
      rw [add_field _ _ 5 (by omega)] at hv651_5
      replace hv651_5 := Option.some.inj (hv651_5.symm.trans hx651_5)
      injection hv651_5 with hva_ hvn_ hvc_
      rw [hva_] at ge651_5
      rw [hvc_] at ul651_5
      have HL651_5 := Aside0.mk (show Kd.V k33 33 _ w.heap.size _ _ ((rd_T47 x4_1 x5_1).f5) from Kd.V_mk ul651_5 ge651_5)
      clear hva_ hvn_ hvc_ ge651_5 ul651_5
      clear hcc651 hce651
      have HR651_5 := Aside0.mk hi651_5
      have HC651_5 := Aside0.mk hl651_5
      clear hi651_5 hl651_5
      replace p651 := eq_true p651
      replace q651 := eq_true q651
      refine start_ (n := 13) (S := fun w' => w'.cell? (ad651.add ((x5_1).toNat * 6)) = some (.bool ((rd_T47 x4_1 x5_1).f0)) ∧ w'.cell? ⟨(ad651.add ((x5_1).toNat * 6)).block, (ad651.add ((x5_1).toNat * 6)).off + 1, none⟩ = some (.bool ((rd_T47 x4_1 x5_1).f1)) ∧ w'.cell? ⟨(ad651.add ((x5_1).toNat * 6)).block, (ad651.add ((x5_1).toNat * 6)).off + 2, none⟩ = some (.int .i64 ((rd_T47 x4_1 x5_1).f2)) ∧ w'.cell? ⟨(ad651.add ((x5_1).toNat * 6)).block, (ad651.add ((x5_1).toNat * 6)).off + 3, none⟩ = some (.int .i64 ((rd_T47 x4_1 x5_1).f3)) ∧ w'.cell? ⟨(ad651.add ((x5_1).toNat * 6)).block, (ad651.add ((x5_1).toNat * 6)).off + 4, none⟩ = some (.int .i64 ((rd_T47 x4_1 x5_1).f4)) ∧ w'.cell? ⟨(ad651.add ((x5_1).toNat * 6)).block, (ad651.add ((x5_1).toNat * 6)).off + 5, none⟩ = some (.slice A651_5 ((rd_T47 x4_1 x5_1).f5).length c651_5)) (ds := [12]) #[false, false, false, false, false, false, false, false, false, false, false, false, false] (by kernel_rfl) rfl rfl ⟨hx651_0, hx651_1, hx651_2, hx651_3, hx651_4, hx651_5⟩ (fun hHeld => ?_); refine with_tabW spec_DrawLogEven.tab7 spec_DrawLogEven.bits7 (fun HT_ HW_ => ?_)
      generalize w13.drew = w14 at HO_4 HI642 HB HL651_5 HR651_5 hx651_0 hx651_1 hx651_2 hx651_3 hx651_4 hx651_5 hHeld ⊢
      refine tpu 0 (some 19) #[true, false, false, false, false, false, false, false, false, false, false, false, false] ?_
      refine tpu 1 (some 20) #[true, true, false, false, false, false, false, false, false, false, false, false, false] ?_
      refine tpu 2 (some 21) #[true, true, true, false, false, false, false, false, false, false, false, false, false] ?_
      refine tpu 5 (some 24) #[true, true, true, false, false, true, false, false, false, false, false, false, false] ?_
      refine tpu 6 (some 25) #[true, true, true, false, false, true, true, false, false, false, false, false, false] ?_
      refine tpu 7 (some 26) #[true, true, true, false, false, true, true, true, false, false, false, false, false] ?_
      refine tpu 8 (some 27) #[true, true, true, false, false, true, true, true, true, false, false, false, false] ?_
      refine tta 9 (some 28) #[true, true, true, false, false, true, true, true, true, true, false, false, false] hHeld ?_ (hy := by rintro w' ⟨s0, s1, s2, s3, s4, s5⟩; go_simp; with_reducible rfl)
      refine one_ (i := 3) (N := some 22) #[true, true, true, true, false, true, true, true, true, true, false, false, false] rfl rfl (one_of HT_.out (by kernel_rfl)) (by decide) (fun K hK => ?_)
      refine goes_ Tryd.func33 (by kernel_rfl) rfl #[.pointer (some ⟨g642, 0, none⟩), .int .i64 4] (by rfl) rfl rfl tq ?_
      with_reducible refine (spec_l6Rd_pick.calls k1 g642 t640 t648 4 t649 t650 w _ ?side1 ?side2 A9.out).mono ?_
      (case side1 => repeat (first | (with_reducible first | exact HI642.out | apply IsS88.alloc | apply IsS88.drewN | apply IsS88.drew | apply IsS88.set_1) | exact HI642.out))
      (case side2 => repeat (first | (with_reducible first | exact HB.out | apply below_alloc | apply pw_below_drewN | apply below_drew1 | refine below_set ?_ (IsS88.ge HI642.out)) | exact HB.out))
      rintro e w15 ⟨rfl, hi, hb, hk⟩
      have HS0_ := keep_cell hk (hHeld.1) (tow (Kd.own_blk (IsS88.own_neN HI642.out HO_4.out (by decide))))
      have HS1_ := keep_cell hk (hHeld.2.1) (tow (Kd.own_blk (IsS88.own_neN HI642.out HO_4.out (by decide))))
      have HS2_ := keep_cell hk (hHeld.2.2.1) (tow (Kd.own_blk (IsS88.own_neN HI642.out HO_4.out (by decide))))
      have HS3_ := keep_cell hk (hHeld.2.2.2.1) (tow (Kd.own_blk (IsS88.own_neN HI642.out HO_4.out (by decide))))
      have HS4_ := keep_cell hk (hHeld.2.2.2.2.1) (tow (Kd.own_blk (IsS88.own_neN HI642.out HO_4.out (by decide))))
      have HS5_ := keep_cell hk (hHeld.2.2.2.2.2) (tow (Kd.own_blk (IsS88.own_neN HI642.out HO_4.out (by decide))))
      refine ⟨_, rfl, ?_⟩
      replace HO_4 := tNk HO_4 hk
      replace HL651_5 := tVk HL651_5 hk
      replace HB := Aside0.mk (hb)
      replace HI642 := Aside0.mk (hi)
      (try clear hb)
      (try clear hb2)
      (try clear hk)
      (try clear hi)
      have p11 : 0 ≤ (x5_1 : Int) := td
      have q11 : (x5_1 : Int) < ((x4_1.length : Int) : Int) := td
      obtain ⟨go11, co11, eo11, gb11, gl11, cl11, HG11⟩ := Kd.N_form HO_4.out (by omega)
      (first | cases eo11 | (injection eo11 with ea_ en_ ec_; (first | subst ea_ | (injection ea_ with ea_; subst ea_)); subst ec_; clear en_))
      have GB11 := Aside0.mk gb11
      have GG11 := Aside0.mk HG11
      clear gb11 gl11 HG11
      (first | simp only [add_plain] at hx651_0 | skip)
      (first | simp only [add_plain] at hx651_1 | skip)
      (first | simp only [add_plain] at hx651_2 | skip)
      (first | simp only [add_plain] at hx651_3 | skip)
      (first | simp only [add_plain] at hx651_4 | skip)
      (first | simp only [add_plain] at hx651_5 | skip)
      obtain ⟨ce11, hcl11, hM11, hcc11, hfr11⟩ := Kd.N_elem HO_4.out z47 (x5_1 : Int) p11 q11
      obtain ⟨ua11_5, uc11_5, rfl, ul11_5, ge11_5⟩ := k47_openF hM11
      have hx11_0 : World.cell? _ ⟨go11, (x5_1 : Int).toNat * 6, none⟩ = some (.bool ((rd_T47 x4_1 x5_1).f0)) := hcc11 0 _ rfl
      have hx11_1 : World.cell? _ ⟨go11, (x5_1 : Int).toNat * 6 + 1, none⟩ = some (.bool ((rd_T47 x4_1 x5_1).f1)) := hcc11 1 _ rfl
      have hx11_2 : World.cell? _ ⟨go11, (x5_1 : Int).toNat * 6 + 2, none⟩ = some (.int .i64 ((rd_T47 x4_1 x5_1).f2)) := hcc11 2 _ rfl
      have hx11_3 : World.cell? _ ⟨go11, (x5_1 : Int).toNat * 6 + 3, none⟩ = some (.int .i64 ((rd_T47 x4_1 x5_1).f3)) := hcc11 3 _ rfl
      have hx11_4 : World.cell? _ ⟨go11, (x5_1 : Int).toNat * 6 + 4, none⟩ = some (.int .i64 ((rd_T47 x4_1 x5_1).f4)) := hcc11 4 _ rfl
      have hx11_5 : World.cell? _ ⟨go11, (x5_1 : Int).toNat * 6 + 5, none⟩ = some (.slice ua11_5 ((rd_T47 x4_1 x5_1).f5).length uc11_5) := hcc11 5 _ rfl
      have hf11_0 : World.frozen? _ ⟨go11, (x5_1 : Int).toNat * 6, none⟩ = false := hfr11 0
      have hf11_1 : World.frozen? _ ⟨go11, (x5_1 : Int).toNat * 6 + 1, none⟩ = false := hfr11 1
      have hf11_2 : World.frozen? _ ⟨go11, (x5_1 : Int).toNat * 6 + 2, none⟩ = false := hfr11 2
      have hf11_3 : World.frozen? _ ⟨go11, (x5_1 : Int).toNat * 6 + 3, none⟩ = false := hfr11 3
      have hf11_4 : World.frozen? _ ⟨go11, (x5_1 : Int).toNat * 6 + 4, none⟩ = false := hfr11 4
      have hf11_5 : World.frozen? _ ⟨go11, (x5_1 : Int).toNat * 6 + 5, none⟩ = false := hfr11 5
      clear hcl11 hcc11 hfr11 hM11
      replace p11 := eq_true p11
      replace q11 := eq_true q11
      have HN642_go11 := Aside0.mk (show g642 ≠ go11 from by have h_ := IsS88.own_neN HI642.out HO_4.out (by decide); intro e_; exact h_ (by rw [e_]; rfl))
      have HX16 := Aside0.mk (show Kd.N k47 47 _ w.heap.size (fun k_ => (w.heap.size ≤ k_) ∧ k_ ≠ g642) (.slice (some ⟨go11, 0, none⟩) x4_1.length co12) x4_1 from (Kd.N_mono (HO_4.out) (fun k_ hk => ⟨hk.1, hk.2⟩)))
      obtain ⟨ce16, hcl16, hM16, hcc16, hfr16⟩ := Kd.N_elem HX16.out z47 (x5_1 : Int) (td) (by have h_ : (x5_1 : Int) < ((x4_1.length : Int) : Int) := td; first | exact h_ | (have e_ := (Kd.N_reads' HO_4.out).1; omega) | simpa using h_)
      obtain ⟨ua16_5, uc16_5, rfl, ul16_5, ge16_5⟩ := k47_openF hM16
      have HP16 := (Kd.N_seg HX16.out (x5_1 : Int) (td) (by have h_ : (x5_1 : Int) < ((x4_1.length : Int) : Int) := td; first | exact h_ | (have e_ := (Kd.N_reads' HO_4.out).1; omega) | simpa using h_) (seg := [.bool (decide (t649 > 0)), .bool false, .int .i64 255, .int .i64 0, .int .i64 0, .slice A651_5 ((rd_T47 x4_1 x5_1).f5).length c651_5]) (j := 0) hcl16 hcc16 (show 6 ≤ 6 from by decide) (x' := (⟨decide (t649 > 0), false, 255, 0, 0, (rd_T47 x4_1 x5_1).f5⟩ : S47)) (k47_mkF _ _ (⟨decide (t649 > 0), false, 255, 0, 0, (rd_T47 x4_1 x5_1).f5⟩ : S47) (Kd.V_reads' (Kd.V_mono (ok' := (fun k_ => ((fun k_ => (w.heap.size ≤ k_) ∧ k_ ≠ g642)) k_ ∧ k_ ≠ go11)) (HL651_5.out) (fun k_ hk => ⟨⟨hk.1.1, hk.1.2⟩, fun e_ => (hk.2) (by rw [e_]; rfl)⟩))).2.1 (Kd.V_F (Kd.V_mono (ok' := (fun k_ => ((fun k_ => (w.heap.size ≤ k_) ∧ k_ ≠ g642)) k_ ∧ k_ ≠ go11)) (HL651_5.out) (fun k_ hk => ⟨⟨hk.1.1, hk.1.2⟩, fun e_ => (hk.2) (by rw [e_]; rfl)⟩)))) (fun _ hk => hk)).1
      rw [← Ny652.out] at HP16
      have HQ16 := Aside0.mk HP16
      clear hcl16 hcc16 hfr16 hM16 HP16
      refine hK.out _ _ ⟨HS0_, HS1_, HS2_, HS3_, HS4_, HS5_⟩ (fun hHeld => ?_)
      clear hK K
      refine tnm (some 22) ?_
      refine tpu 4 (some 23) #[true, true, true, true, true, true, true, true, true, true, false, false, false] ?_
      refine tpu 10 (some 29) #[true, true, true, true, true, true, true, true, true, true, true, false, false] ?_
      refine tpu 11 (some 30) #[true, true, true, true, true, true, true, true, true, true, true, true, false] ?_
      refine last_ (i := 12) (N := none) #[true, true, true, true, true, true, true, true, true, true, true, true, true] rfl rfl (one_of HT_.out (by kernel_rfl)) (by decide) (fun K hK => ?_)
      refine tsk ?_
      refine hK.out _ _ ?_
      clear hK K
      refine done_ (done_of HT_.out (by kernel_rfl)) ?_
      try go_wp2
      go_roundg k1
      case measure => have := HK1.out; omega
      case rel => exact ⟨(y652), (wrap64 (x5_1 + 1)), (t650), tr, H', ⟨by have := HK1.out; omega⟩, ⟨by (with_reducible repeat (first | apply Kd.N_alloc | apply Kd.N_drewN | apply Kd.N_drew)); exact HQ16.out⟩, ⟨by repeat (first | (with_reducible first | exact HI642.out | apply IsS88.alloc | apply IsS88.drewN | apply IsS88.drew | apply IsS88.set_1 | refine IsS88.far ?_ HN642_go11.out _ | refine IsS88.far ?_ HN642_go11.out _ | refine IsS88.far ?_ HN642_go11.out _ | refine IsS88.far ?_ HN642_go11.out _ | refine IsS88.far ?_ HN642_go11.out _ | refine IsS88.far ?_ HN642_go11.out _) | exact HI642.out)⟩, ⟨by repeat (first | (with_reducible first | exact HB.out | apply below_alloc | apply pw_below_drewN | apply below_drew1 | refine below_set ?_ GB11.out | refine below_set ?_ GB11.out | refine below_set ?_ GB11.out | refine below_set ?_ GB11.out | refine below_set ?_ GB11.out | refine below_set ?_ GB11.out | refine below_set ?_ (IsS88.ge HI642.out)) | exact HB.out)⟩⟩
     ·rw [if_neg c10] at H
      exact absurd H (by simp)
    ·rw [if_neg c8] at H
     have c8b0 : decide (0 < t647) = false := decide_eq_false c8
     clear c8
     have H' := Aside0.mk H
     clear H
     obtain ⟨Ao17, co17, eo17⟩ := Kd.N_slice HO_4.out
     subst eo17
     go_wp2_with (first | ((with_reducible refine gate_callee (f := 33) rfl ?_); refine goesL_ (some 17) rfl rfl Tryd.func33 (by kernel_rfl) rfl #[.pointer (some ⟨g642, 0, none⟩), .int .i64 4] rfl tq ?_; (with_reducible refine (spec_l6Rd_pick.calls k1 g642 t640 x643001_1 4 t647 t648 w _ ?side1 ?side2 A7.out).mono ?_); (case side1 => repeat (first | (with_reducible first | exact HI642.out | apply IsS88.alloc | apply IsS88.drewN | apply IsS88.drew | apply IsS88.set_1) | exact HI642.out)); (case side2 => repeat (first | (with_reducible first | exact HB.out | apply below_alloc | apply pw_below_drewN | apply below_drew1 | refine below_set ?_ (IsS88.ge HI642.out)) | exact HB.out)); rintro e w18 ⟨rfl, hi, hb, hk⟩; refine ⟨_, rfl, ?_⟩; replace HO_4 := tNk HO_4 hk; replace HB := Aside0.mk (hb); replace HI642 := Aside0.mk (hi); (try clear hb); (try clear hb2); (try clear hk); (try clear hi)))
     go_roundg k1
     case measure => have := HK1.out; omega
     case rel => exact ⟨(x4_1), (wrap64 (x5_1 + 1)), (t648), tr, H', ⟨by have := HK1.out; omega⟩, ⟨tN HO_4.out⟩, ⟨by repeat (first | (with_reducible first | exact HI642.out | apply IsS88.alloc | apply IsS88.drewN | apply IsS88.drew | apply IsS88.set_1) | exact HI642.out)⟩, ⟨by repeat (first | (with_reducible first | exact HB.out | apply below_alloc | apply pw_below_drewN | apply below_drew1 | refine below_set ?_ (IsS88.ge HI642.out)) | exact HB.out)⟩⟩
   ·rw [if_neg c6] at H
    have c6b0 : decide (x5_1 < (x4_1.length : Int)) = false := decide_eq_false c6
    clear c6
    obtain rfl := Option.some.inj H
    obtain ⟨Ao19, co19, eo19⟩ := Kd.N_slice HO_4.out
    subst eo19
    go_wp2
    go_ret
    exact ⟨_, by first | rfl | (simp [errW_none, errW_some] <;> rfl) | (simp [*, errW_none, errW_some] <;> rfl), tNm HO_4.out, by repeat (first | (with_reducible first | exact HB.out | apply below_alloc | apply pw_below_drewN | apply below_drew1 | refine below_set ?_ (IsS88.ge HI642.out)) | exact HB.out)⟩

end Go.Proofs.YtbbboachakkgiaaDoor.G

namespace Go.Proofs.YtbbboachakkgiaaDoor.G
open Go.RowKit Go.Extern.Stop Go.Stop Go.Extern
set_option linter.unusedVariables false
theorem isTypeOf (v : Value) (w : World) : (Extern.ReflectliteType.typeOf #[.iface 151 v]).run Tryd.prog w = .ok (.iface 126 (.agg #[.pointer (some ⟨2, 151, none⟩)])) w := by kernel_rfl
theorem isCallComparable (w : World) : (callFunc 128 #[.agg #[.pointer (some ⟨2, 151, none⟩)]]).run Tryd.prog w = .ok (.value (.bool true)) w := by kernel_rfl
theorem isMethodComparable (v : Value) (w : World) : (Go.method 285 126 v "Comparable").run Tryd.prog w = .ok (128, v) w := by kernel_rfl
theorem isComp : (Tryd.prog.info? 151).map (·.comparable) = some true := by kernel_rfl
set_option maxRecDepth 100000 in
set_option maxHeartbeats 400000 in
/-- errors.Is(x, x), x a pointer to an errors.errorString. -/
theorem is_same (a : Addr) (w : World) :
    Calls Tryd.prog 52 #[.iface 151 (.pointer (some a)), .iface 151 (.pointer (some a))] w fun e w' => e = .returned (.bool true) ∧ w' = w := by
  obtain ⟨i, hi, hcmp⟩ := Option.map_eq_some_iff.1 isComp
  have h8 := @run_callFunc_extern Tryd.prog 72 _ Extern.ReflectliteType.typeOf Tryd.func72 (by kernel_rfl) (by kernel_rfl) (by kernel_rfl) (by kernel_rfl)
  have tT := isTypeOf
  have cT := isCallComparable
  have mR := isMethodComparable
  have hz : ∃ j, Tryd.prog.info? 174 = some j := by
    have h : (Tryd.prog.info? 174).isSome = true := by kernel_rfl
    exact Option.isSome_iff_exists.1 h
  obtain ⟨j, hj⟩ := hz
  have heq := run_eql_iface_ptr_same (P := Tryd.prog) w a Tryd.underlying71 Tryd.underlying151 hi hcmp hj
  go_enter Tryd.func52, Tryd.ntmps52
  go_wp2
  refine wp_loop_rounds 1 ?_
  rw [rounds_succ]
  go_wp2
  go_ret
  exact ⟨rfl, rfl⟩
/-- errors.Is(nil, x). -/
theorem is_nil (b : Addr) (w : World) :
    Calls Tryd.prog 52 #[.nilIface, .iface 151 (.pointer (some b))] w fun e w' => e = .returned (.bool false) ∧ w' = w := by
  have hn := run_eql_iface_nil_left (P := Tryd.prog) w 151 (.pointer (some b)) Tryd.underlying71
  go_enter Tryd.func52, Tryd.ntmps52
  go_wp2
  go_ret
  exact ⟨rfl, rfl⟩
def errors_Is.f (a b : Option Int) : Option Bool := match b with
  | none => none
  | some y => match a with
    | none => some false
    | some x => if x = y then some true else none
theorem errors_Is.calls [ErrA] (a0 a1 : Option Int) (r : Bool) (w : World) (h : errors_Is.f a0 a1 = some r) :
    Calls Tryd.prog 52 #[errW a0, errW a1] w fun e w' => e = .returned (.bool r) ∧ Below w.heap.size w w' := by
  cases a1 with
  | none => exact absurd h (by simp [errors_Is.f])
  | some y =>
    cases a0 with
    | none =>
      obtain rfl : false = r := by simpa [errors_Is.f] using h
      exact (is_nil _ w).mono fun e w' ⟨he, hw⟩ => ⟨he, hw ▸ Below.refl _ _⟩
    | some x =>
      by_cases hxy : x = y
      · subst hxy
        obtain rfl : true = r := by simpa [errors_Is.f] using h
        exact (is_same _ w).mono fun e w' ⟨he, hw⟩ => ⟨he, hw ▸ Below.refl _ _⟩
      · exact absurd h (by simp [errors_Is.f, hxy])
end Go.Proofs.YtbbboachakkgiaaDoor.G

namespace Go.Proofs.YtbbboachakkgiaaDoor.G
open Go.RowKit Go.Proofs.YtbbboachakkgiaaDoorW.PrintWords Go.Proofs.YtbbboachakkgiaaDoorW.PrintLast Go.Proofs.YtbbboachakkgiaaDoorW.PrintMore Go.Proofs.YtbbboachakkgiaaDoor.Pu
set_option linter.unusedVariables false
set_option linter.unusedSimpArgs false
theorem head_no {b1 : Bool} {b2 b3 b4 : Int} (h : ((b2 == 255) = true ∧ (¬ b3 = 0 ∨ ¬ b4 = 0 ∨ b1 = true)) ∨ ((b2 == 255) = false ∧ (¬ (0 ≤ b2 ∧ b2 ≤ 254) ∨ ¬ (0 ≤ b3 ∧ b3 ≤ 99) ∨ ((!decide (0 ≤ b4)) = true ∨ (!decide (b4 ≤ 9999)) = true)))) : headOk b1 b2 b3 b4 = false := by
  unfold headOk
  grind
theorem head_y1 {b1 : Bool} {b2 b3 b4 : Int} (h : (b2 == 255) = true) (h3 : b3 = 0) (h4 : b4 = 0) (h1 : b1 = false) : headOk b1 b2 b3 b4 = true := by
  unfold headOk
  grind
theorem head_y2 {b1 : Bool} {b2 b3 b4 : Int} (h : (b2 == 255) = false) (h2 : 0 ≤ b2 ∧ b2 ≤ 254) (h3 : 0 ≤ b3 ∧ b3 ≤ 99) (h4 : (!decide (0 ≤ b4)) = false ∧ (!decide (b4 ≤ 9999)) = false) : headOk b1 b2 b3 b4 = true := by
  unfold headOk
  grind
theorem no_ {x y : Bool} (h : x = false) : Ending.returned (.bool false) = .returned (.bool (x && y)) := by rw [h]; rfl
theorem len_a {l : List S33} {x : Bool} (h : ¬(1 ≤ (l.length : Int) ∧ (l.length : Int) ≤ 6)) : Value.bool true = .bool (!(lenOk l && x)) := by
  have : lenOk l = false := by unfold lenOk; grind
  rw [this]
  rfl
theorem len_b {l : List S33} {x : Bool} (h : 1 ≤ (l.length : Int) ∧ (l.length : Int) ≤ 6) : Value.bool false = .bool (!(lenOk l && (!false || x))) := by
  have : lenOk l = true := by unfold lenOk; grind
  rw [this]
  rfl
theorem len_c {l : List S33} (h : 1 ≤ (l.length : Int) ∧ (l.length : Int) ≤ 6) : Value.bool ((l.length : Int) != 1) = .bool (!(lenOk l && (!true || decide ((l.length : Int) = 1)))) := by
  have : lenOk l = true := by unfold lenOk; grind
  rw [this]
  by_cases h1 : (l.length : Int) = 1 <;> simp [h1]
/-- A box that holds a record, in a world that grew. -/
def HeldR (W1 : World) (B : Nat) (r : S33) (A3 : Option Addr) (c3 : Nat) (A5 : Option Addr) (c5 : Nat) (W : World) : Prop :=
  W.cell? ⟨B, 0, none⟩ = some (.int .i64 r.f0) ∧ W.cell? ⟨B, 1, none⟩ = some (.int .i64 r.f1) ∧ W.cell? ⟨B, 2, none⟩ = some (.bool r.f2) ∧ W.cell? ⟨B, 3, none⟩ = some (.slice A3 r.f3.length c3) ∧ W.cell? ⟨B, 4, none⟩ = some (.bool r.f4) ∧ W.cell? ⟨B, 5, none⟩ = some (.slice A5 r.f5.length c5) ∧ Below W1.heap.size W1 W
theorem within_q (a b c : Int) (w : World) : Calls Tryd.prog 65 #[.int .i64 a, .int .i64 b, .int .i64 c] w fun e w' => e = .returned (.bool (decide (b ≤ a) && decide (a ≤ c))) ∧ ∃ n, w' = w.drewN n :=
  (impl_within.calls a b c _ w (within_ev a b c)).mono fun e w' h => ⟨h.1, h.2.out⟩
theorem idValid_q (a : Int) (w : World) : Calls Tryd.prog 64 #[.int .i64 a] w fun e w' => e = .returned (.bool (decide (0 ≤ a) && decide (a ≤ 254))) ∧ ∃ n, w' = w.drewN n :=
  (impl_idValid.calls a _ w (by unfold impl_idValid.f; rw [within_ev]; rfl)).mono fun e w' h => ⟨h.1, h.2.out⟩
set_option maxRecDepth 100000 in
set_option maxHeartbeats 4000000 in
theorem implbat_q (b : S47) (A : Option Addr) (c : Nat) (w : World) (hr : Kd.C k33 w A b.f5.length b.f5) (hc : b.f5.length ≤ c) :
    Calls Tryd.prog 44 #[.agg #[.bool b.f0, .bool b.f1, .int .i64 b.f2, .int .i64 b.f3, .int .i64 b.f4, .slice A b.f5.length c]] w fun e w' => e = .returned (.bool (batOk b)) ∧ Below w.heap.size w w' := by
  obtain ⟨b0, b1, b2, b3, b4, l⟩ := b
  simp only at hr hc ⊢
  have hl := hr.2.1
  unfold batOk
  simp only
  have HR := Aside0.mk hr
  clear hr
  go_enter Tryd.func44, Tryd.ntmps44
  go_upto_if 7 with fail
  go_cut [0] (fun v0 wc => headOk b1 b2 b3 b4 = true ∧ wc.heap[w.heap.size]? = some (.cells #[.bool b0, .bool b1, .int .i64 b2, .int .i64 b3, .int .i64 b4, .slice A l.length c] 47) ∧ Below w.heap.size w wc)
  case first =>
    go_wp2_with (first | (go_at_call 64; refine (idValid_q _ _).mono ?_; rintro e w' ⟨rfl, ⟨n, rfl⟩⟩) | (go_at_call 65; refine (within_q _ _ _ _).mono ?_; rintro e w' ⟨rfl, ⟨n, rfl⟩⟩))
    all_goals first | (go_ret; exact ⟨no_ (head_no (by first | exact .inl ⟨‹_›, .inl ‹_›⟩ | exact .inl ⟨‹_›, .inr (.inl ‹_›)⟩ | exact .inl ⟨‹_›, .inr (.inr ‹_›)⟩ | exact .inr ⟨‹_›, .inl ‹_›⟩ | exact .inr ⟨‹_›, .inr (.inl ‹_›)⟩ | exact .inr ⟨‹_›, .inr (.inr ‹_›)⟩)), by first | exact below_alloc (Below.refl _ _) _ | exact pw_below_drewN (below_alloc (Below.refl _ _) _) _⟩) | (go_meet; case rel => exact ⟨by first | exact head_y1 ‹_› ‹_› ‹_› ‹_› | exact head_y2 ‹_› ‹_› ‹_› ‹_›, by first | exact heap_alloc_new _ _ | (subst_vars; exact heap_alloc_new _ _), by first | exact below_alloc (Below.refl _ _) _ | exact pw_below_drewN (below_alloc (Below.refl _ _) _) _⟩)
  obtain ⟨hh, hw, hB⟩ := hcut
  go_upto_region 6 with (fail)
  go_cut [50] (fun v50 wc => v50 = .bool (!(lenOk l && (!b1 || decide ((l.length : Int) = 1)))) ∧ wc.heap[w.heap.size]? = some (.cells #[.bool b0, .bool b1, .int .i64 b2, .int .i64 b3, .int .i64 b4, .slice A l.length c] 47) ∧ Below w.heap.size w wc)
  case first =>
    have hc1 := blk_cell hw 1
    have hc5 := blk_cell hw 5
    cases b1
    all_goals go_wp2_with (go_at_call 65; refine (within_q _ _ _ _).mono ?_; rintro e w' ⟨rfl, ⟨n, rfl⟩⟩)
    all_goals (go_meet; case rel => exact ⟨by first | exact len_a ‹_› | exact len_b ‹_› | exact len_c ‹_›, hw, pw_below_drewN hB _⟩)
  obtain ⟨rfl, hw, hB⟩ := hcut
  have hc5 := blk_cell hw 5
  cases hk : (lenOk l && (!b1 || decide ((l.length : Int) = 1)))
  · go_wp2
    go_ret
    exact ⟨by rw [hh, Bool.true_and, ← Bool.and_assoc, hk]; rfl, hB⟩
  · go_wp2
    go_loopw [54] (fun v54 wr => ∃ i : Nat, v54 = .int .i64 i ∧ i ≤ l.length ∧ (∀ j, j < i → recStep l j = true) ∧ wr.heap[w.heap.size]? = some (.cells #[.bool b0, .bool b1, .int .i64 b2, .int .i64 b3, .int .i64 b4, .slice A l.length c] 47) ∧ Below w.heap.size w wr) (fun v54 _ => l.length - (intOf v54).toNat)
    case atStart => exact ⟨0, rfl, Nat.zero_le _, fun j hj => absurd hj (Nat.not_lt_zero j), hw, hB⟩
    case round =>
      obtain ⟨i, rfl, hi, hall, hw1, hB1⟩ := hrel
      by_cases hlt : i < l.length
      · obtain ⟨ad, A3, c3, A5, c5, rfl, e0, e1, e2, e3, e4, e5, l3, g3, l5, g5⟩ := at_T33 (Kd.C_below HR.out hB1) (i : Int) (by omega) (by omega)
        rw [show ((i : Int)).toNat = i from rfl] at e0 e1 e2 e3 e4 e5
        have hc5 := blk_cell hw1 5
        have hrec : recStep l i = (recOk (rd_T33 l (i : Int)) && (decide (i = 0) || decide ((rd_T33 l ((i : Int) - 1)).f0 < (rd_T33 l (i : Int)).f0))) := rfl
        generalize rd_T33 l (i : Int) = ri at *
        go_wp2
        have bR := heap_alloc_new wr (.cells #[.int .i64 ri.f0, .int .i64 ri.f1, .bool ri.f2, .slice A3 ri.f3.length c3, .bool ri.f4, .slice A5 ri.f5.length c5] 33)
        have hw2 := (Below.heap_alloc wr (.cells #[.int .i64 ri.f0, .int .i64 ri.f1, .bool ri.f2, .slice A3 ri.f3.length c3, .bool ri.f4, .slice A5 ri.f5.length c5] 33) _ (blk_lt hw1)).trans hw1
        have hB2 := below_alloc hB1 (.cells #[.int .i64 ri.f0, .int .i64 ri.f1, .bool ri.f2, .slice A3 ri.f3.length c3, .bool ri.f4, .slice A5 ri.f5.length c5] 33)
        have hBr := below_alloc (Below.refl wr.heap.size wr) (.cells #[.int .i64 ri.f0, .int .i64 ri.f1, .bool ri.f2, .slice A3 ri.f3.length c3, .bool ri.f4, .slice A5 ri.f5.length c5] 33)
        generalize wr.alloc _ = W1 at bR hw2 hB2 hBr ⊢
        obtain ⟨kR, hkR⟩ := (RecordValid_ev ri ⟨g3.2.1, g5.2.1⟩).rounds
        have hrc : ∀ (W2 : World), Below wr.heap.size wr W2 → Calls Tryd.prog 66 #[.agg #[.int .i64 ri.f0, .int .i64 ri.f1, .bool ri.f2, .slice A3 ri.f3.length c3, .bool ri.f4, .slice A5 ri.f5.length c5]] W2 fun e w' => e = .returned (.bool (recOk ri)) ∧ Below W2.heap.size W2 w' := fun (W2 : World) (hb : Below wr.heap.size wr W2) => impl_RecordValid.calls kR ri.f0 ri.f1 ri.f2 A3 c3 ri.f3 ri.f4 A5 c5 ri.f5 _ W2 (Kd.C_below g3 hb) l3 (Kd.C_below g5 hb) l5 hkR
        have HRC := Aside0.mk hrc
        clear hrc
        have kS : ∀ w' : World, Below W1.drew.heap.size W1.drew w' → HeldR W1 wr.heap.size ri A3 c3 A5 c5 w' := fun w' h => ⟨pw_cell_below h (blk_cell bR 0), pw_cell_below h (blk_cell bR 1), pw_cell_below h (blk_cell bR 2), pw_cell_below h (blk_cell bR 3), pw_cell_below h (blk_cell bR 4), pw_cell_below h (blk_cell bR 5), below_step (below_drew (Below.refl _ W1)) h⟩
        rcases hok : recOk ri with _ | _ <;> rw [hok] at hkR HRC
        · refine r_begin (HeldR W1 wr.heap.size ri A3 c3 A5 c5) 19 (by kernel_rfl) rfl (kS _ (Below.refl _ _)) (fun hH => ?_)
          repeat (first | (refine r_skip (by kernel_rfl) (by rfl) (fun _ _ _ h => h) hH ?_; simp only [Act.put, List.setIfInBounds_toArray, List.set_cons_zero, List.set_cons_succ, Nat.reduceAdd]) | (refine r_go (v := ?_) (by kernel_rfl) (by rfl) (fun _ _ _ h => h) hH ?_ ?_; rotate_left; (focus (intro w hS; obtain ⟨e0, e1, e2, e3, e4, e5, e6⟩ := hS; go_simp; first | done | with_reducible rfl)); simp only [Act.put, List.setIfInBounds_toArray, List.set_cons_zero, List.set_cons_succ, Nat.reduceAdd]) | (fail "x"))
          refine r_one (by kernel_rfl) (by rfl) (fun K hK => ?_)
          go_simp
          go_at_call 66
          refine (HRC.out _ (below_step hBr (below_drew (Below.refl _ W1)))).mono ?_
          rintro e w2 ⟨rfl, hb⟩
          go_wp2_with fail
          refine hK.out _ _ (kS _ hb) (fun hH => ?_)
          clear hK K
          simp only [Act.put, List.setIfInBounds_toArray, List.set_cons_zero, List.set_cons_succ, Nat.reduceAdd]
          repeat (first | (refine r_skip (by kernel_rfl) (by rfl) (fun _ _ _ h => h) hH ?_; simp only [Act.put, List.setIfInBounds_toArray, List.set_cons_zero, List.set_cons_succ, Nat.reduceAdd]) | (refine r_go (v := ?_) (by kernel_rfl) (by rfl) (fun _ _ _ h => h) hH ?_ ?_; rotate_left; (focus (intro w hS; obtain ⟨e0, e1, e2, e3, e4, e5, e6⟩ := hS; go_simp; first | done | with_reducible rfl)); simp only [Act.put, List.setIfInBounds_toArray, List.set_cons_zero, List.set_cons_succ, Nat.reduceAdd]) | (fail "x"))
          refine r_done (by kernel_rfl) ?_
          go_wp2
          go_ret
          exact ⟨by rw [hh, Bool.true_and, ← Bool.and_assoc, hk, incs_no hlt (hrec.trans (by rw [hok]; rfl))]; rfl, below_step hB2 hH.2.2.2.2.2.2⟩
        rcases i with _ | j
        · refine r_begin (HeldR W1 wr.heap.size ri A3 c3 A5 c5) 19 (by kernel_rfl) rfl (kS _ (Below.refl _ _)) (fun hH => ?_)
          repeat (first | (refine r_skip (by kernel_rfl) (by rfl) (fun _ _ _ h => h) hH ?_; simp only [Act.put, List.setIfInBounds_toArray, List.set_cons_zero, List.set_cons_succ, Nat.reduceAdd]) | (refine r_go (v := ?_) (by kernel_rfl) (by rfl) (fun _ _ _ h => h) hH ?_ ?_; rotate_left; (focus (intro w hS; obtain ⟨e0, e1, e2, e3, e4, e5, e6⟩ := hS; go_simp; first | done | with_reducible rfl)); simp only [Act.put, List.setIfInBounds_toArray, List.set_cons_zero, List.set_cons_succ, Nat.reduceAdd]) | (fail "x"))
          refine r_one (by kernel_rfl) (by rfl) (fun K hK => ?_)
          go_simp
          go_at_call 66
          refine (HRC.out _ (below_step hBr (below_drew (Below.refl _ W1)))).mono ?_
          rintro e w2 ⟨rfl, hb⟩
          go_wp2_with fail
          refine hK.out _ _ (kS _ hb) (fun hH => ?_)
          clear hK K
          simp only [Act.put, List.setIfInBounds_toArray, List.set_cons_zero, List.set_cons_succ, Nat.reduceAdd]
          repeat (first | (refine r_skip (by kernel_rfl) (by rfl) (fun _ _ _ h => h) hH ?_; simp only [Act.put, List.setIfInBounds_toArray, List.set_cons_zero, List.set_cons_succ, Nat.reduceAdd]) | (refine r_go (v := ?_) (by kernel_rfl) (by rfl) (fun _ _ _ h => h) hH ?_ ?_; rotate_left; (focus (intro w hS; obtain ⟨e0, e1, e2, e3, e4, e5, e6⟩ := hS; go_simp; first | done | with_reducible rfl)); simp only [Act.put, List.setIfInBounds_toArray, List.set_cons_zero, List.set_cons_succ, Nat.reduceAdd]) | (fail "x"))
          refine r_done (by kernel_rfl) ?_
          go_wp2
          go_roundw
          case rel =>
            repeat apply Exists.intro
            have hst : ∀ j, j < 0 + 1 → recStep l j = true := by
              intro j hj
              obtain rfl : j = 0 := by omega
              exact hrec.trans (by rw [hok]; rfl)
            exact ⟨⟨0 + 1, by simp, hlt, hst, (hb.block _ (blk_lt hw2)).trans hw2, below_step hB2 hH.2.2.2.2.2.2⟩, rfl⟩
          case measure => simp [intOf]; omega
        · obtain ⟨ad2, _, _, _, _, hq, f0, _⟩ := at_T33 (Kd.C_below HR.out hB1) (j : Int) (by omega) (by omega)
          cases hq
          rw [show ((j : Int)).toNat = j from rfl] at f0
          have hrec2 : recStep l (j + 1) = (recOk ri && (decide (j + 1 = 0) || decide ((rd_T33 l (j : Int)).f0 < ri.f0))) := by
            rw [hrec, show ((j + 1 : Nat) : Int) - 1 = (j : Int) by omega]
          generalize (rd_T33 l (j : Int)).f0 = pj at f0 hrec2
          have f1 := pw_cell_below hBr f0
          have hwj : IntKind.i64.wrap (j : Int) = (j : Int) := by rw [i64_w]; unfold wrap64; omega
          have hjl : (j : Int) < (l.length : Int) := by omega
          have kS2 : ∀ w' : World, Below W1.drew.heap.size W1.drew w' → HeldR W1 wr.heap.size ri A3 c3 A5 c5 w' ∧ w'.cell? (ad.add (j * 6)) = some (.int .i64 pj) ∧ w'.cell? ⟨w.heap.size, 5, none⟩ = some (.slice (some ad) l.length c) := fun w' h => ⟨kS w' h, pw_cell_below h f1, pw_cell_below h (blk_cell hw2 5)⟩
          refine r_begin (fun w' => HeldR W1 wr.heap.size ri A3 c3 A5 c5 w' ∧ w'.cell? (ad.add (j * 6)) = some (.int .i64 pj) ∧ w'.cell? ⟨w.heap.size, 5, none⟩ = some (.slice (some ad) l.length c)) 19 (by kernel_rfl) rfl (kS2 _ (Below.refl _ _)) (fun hH => ?_)
          repeat (first | (refine r_skip (by kernel_rfl) (by rfl) (fun _ _ _ h => h) hH ?_; simp only [Act.put, List.setIfInBounds_toArray, List.set_cons_zero, List.set_cons_succ, Nat.reduceAdd]) | (refine r_go (v := ?_) (by kernel_rfl) (by rfl) (fun _ _ _ h => h) hH ?_ ?_; rotate_left; (focus (intro w hS; obtain ⟨⟨e0, e1, e2, e3, e4, e5, e6⟩, e7, e8⟩ := hS; go_simp; first | done | with_reducible rfl)); simp only [Act.put, List.setIfInBounds_toArray, List.set_cons_zero, List.set_cons_succ, Nat.reduceAdd]) | (fail "x"))
          refine r_one (by kernel_rfl) (by rfl) (fun K hK => ?_)
          go_simp
          go_at_call 66
          refine (HRC.out _ (below_step hBr (below_drew (Below.refl _ W1)))).mono ?_
          rintro e w2 ⟨rfl, hb⟩
          go_wp2_with fail
          refine hK.out _ _ (kS2 _ hb) (fun hH => ?_)
          clear hK K
          simp only [Act.put, List.setIfInBounds_toArray, List.set_cons_zero, List.set_cons_succ, Nat.reduceAdd]
          repeat (first | (refine r_skip (by kernel_rfl) (by rfl) (fun _ _ _ h => h) hH ?_; simp only [Act.put, List.setIfInBounds_toArray, List.set_cons_zero, List.set_cons_succ, Nat.reduceAdd]) | (refine r_go (v := ?_) (by kernel_rfl) (by rfl) (fun _ _ _ h => h) hH ?_ ?_; rotate_left; (focus (intro w hS; obtain ⟨⟨e0, e1, e2, e3, e4, e5, e6⟩, e7, e8⟩ := hS; go_simp; first | done | with_reducible rfl)); simp only [Act.put, List.setIfInBounds_toArray, List.set_cons_zero, List.set_cons_succ, Nat.reduceAdd]) | (fail "x"))
          refine r_done (by kernel_rfl) ?_
          by_cases hlt2 : pj < ri.f0
          · have hng : ¬ ri.f0 ≤ pj := by omega
            go_wp2
            go_roundw
            case rel =>
              repeat apply Exists.intro
              have hst : ∀ j', j' < j + 1 + 1 → recStep l j' = true := by
                intro j' hj
                by_cases h' : j' < j + 1
                · exact hall j' h'
                · obtain rfl : j' = j + 1 := by omega
                  rw [hrec2, hok, decide_eq_true hlt2, Bool.or_true]; rfl
              refine ⟨⟨j + 1 + 1, ?_, hlt, hst, (hb.block _ (blk_lt hw2)).trans hw2, below_step hB2 hH.1.2.2.2.2.2.2⟩, by first | rfl | (repeat' apply And.intro) <;> rfl⟩
              simp
            case measure => simp [intOf]; omega
          · have hng : ri.f0 ≤ pj := by omega
            have hno := Aside0.mk (incs_no hlt (hrec2.trans (by rw [hok, decide_eq_false hlt2, decide_eq_false (show ¬ j + 1 = 0 by omega)]; rfl)))
            go_wp2
            go_ret
            exact ⟨by simp only [hh, Bool.true_and, ← Bool.and_assoc, hk, hno.out]; rfl, below_step hB2 hH.1.2.2.2.2.2.2⟩
      · obtain rfl : i = l.length := by omega
        go_wp2
        go_ret
        exact ⟨by rw [hh, Bool.true_and, ← Bool.and_assoc, hk, incs_of hall]; rfl, hB1⟩
def impl_BatchValid.f (k : Nat) (a0 : Bool) (a1 : Bool) (a2 a3 a4 : Int) (a5 : List S33) : Option Bool := some (batOk ⟨a0, a1, a2, a3, a4, a5⟩)
theorem impl_BatchValid.calls (k : Nat) (a0_0 : Bool) (a0_1 : Bool) (a0_2 : Int) (a0_3 : Int) (a0_4 : Int) (A0_5 : Option Addr) (c0_5 : Nat) (l0_5 : List (S33)) (r : Bool) (w : World) (hr0_5 : Kd.C k33 w A0_5 l0_5.length l0_5) (hc0_5 : l0_5.length ≤ c0_5) (h : impl_BatchValid.f k a0_0 a0_1 a0_2 a0_3 a0_4 l0_5 = some r) :
    Calls Tryd.prog 44 #[.agg #[.bool a0_0, .bool a0_1, .int .i64 a0_2, .int .i64 a0_3, .int .i64 a0_4, .slice A0_5 l0_5.length c0_5]] w fun e w' => e = .returned (.bool r) ∧ Below w.heap.size w w' := by
  obtain rfl := Option.some.inj h
  exact implbat_q ⟨a0_0, a0_1, a0_2, a0_3, a0_4, l0_5⟩ A0_5 c0_5 w hr0_5 hc0_5
end Go.Proofs.YtbbboachakkgiaaDoor.G

namespace Go.Proofs.YtbbboachakkgiaaDoor.G
open Go.RowKit Go.Proofs.YtbbboachakkgiaaDoorW.PrintWords Go.Proofs.YtbbboachakkgiaaDoorW.PrintLast Go.Proofs.YtbbboachakkgiaaDoorW.PrintMore
set_option linter.unusedVariables false
set_option linter.unusedSimpArgs false
def slices_Clone_int_int.f (l0 : List Int) : Option (List Int) := if l0.length < 17592186044416 then some l0 else none
set_option maxRecDepth 100000 in
set_option maxHeartbeats 4000000 in
theorem slices_Clone_int_int.calls (A0 : Option Addr) (c0 : Nat) (l0 r : List Int) (w : World) (hr0 : Kd.C (Kd.int .i64) w A0 l0.length l0) (hc0 : l0.length ≤ c0) (h : slices_Clone_int_int.f l0 = some r) :
    Calls Tryd.prog 77 #[.slice A0 l0.length c0] w fun e w' => ∃ v0_ : Value, e = .returned v0_ ∧ Kd.R (Kd.int .i64) 3 w' w.heap.size (fun _ => True) v0_ r ∧ Below w.heap.size w w' := by
  unfold slices_Clone_int_int.f at h
  by_cases hl : l0.length < 17592186044416
  case neg => rw [if_neg hl] at h; exact absurd h (by simp)
  rw [if_pos hl] at h
  obtain rfl := Option.some.inj h
  have HR := Aside0.mk hr0
  clear h hr0
  cases A0 with
  | none =>
    have hl0 : l0 = [] := by
      cases l0 with
      | nil => rfl
      | cons x l => exact absurd (HR.out.2.2 (by simp)) (by simp)
    subst hl0
    have he : ∀ w : World, (binOp .eql 31 (.slice none 0 c0) (.slice none 0 0)).run Tryd.prog w = .ok (.bool true) w := fun _ => rfl
    go_enter Tryd.func77, Tryd.ntmps77
    go_wp2
    go_ret
    exact ⟨_, rfl, Kd.R_nil _ _ _ _ _, Below.refl _ _⟩
  | some ad =>
    have he : ∀ w : World, (binOp .eql 31 (.slice (some ad) l0.length c0) (.slice none 0 0)).run Tryd.prog w = .ok (.bool false) w := fun _ => rfl
    go_enter Tryd.func77, Tryd.ntmps77
    go_wp2_with (first | ((with_reducible refine gate_dst (N := 5) rfl ?_); refine Kd.R_lit (Kd.int .i64) _ 3 ?hg (N := 5) ?hd (xs := ([] : List Int)) (inner := []) (ok := fun _ => True) (okp := fun _ => True) ?hr ?hp (fun _ hk => hk) trivial (Below.refl _ _) (Nat.le_refl _) (by simp) ?_; (case hd => rfl); (case hg => rfl); (case hr => first | (go_simp; done) | (go_simp; rfl)); (case hp => exact (Reps.none _ _)); intro v1 w1 ho1 hb1 hg1 hnew1; have HO := Aside0.mk ho1; have HB := Aside0.mk hb1; clear ho1 hb1 hg1 hnew1) | ((with_reducible refine gate_builtin (b := .append) (xs := #[.tmp 5, .tmp 6]) rfl ?_); at_builtin; refine Kd.R_append_rows (Kd.int .i64) (w0 := w) w.heap.size rfl (.tmp 5) (.tmp 6) 31 3 (.int .i64 0) 8 rfl Tryd.underlying31 (by kernel_rfl) rfl (by decide) (by omega) v1 [] l0 _ _ _ (fun _ => True) (fun _ => False) rfl rfl (Kd.R_lower HO.out (Nat.le_refl _)) (Kd.C_below HR.out HB.out) (fun _ _ h => h) (fun _ h => h.elim) (fun _ _ => trivial) HB.out (below_size HB.out) (by simp; omega) ?_; intro v2 w2 ho2 hb2 hg2 hat2; rw [List.nil_append] at ho2; have HO2 := Aside0.mk ho2; have HB2 := Aside0.mk hb2; clear ho2 hb2 hg2 hat2))
    go_ret
    exact ⟨_, rfl, HO2.out, HB2.out⟩
end Go.Proofs.YtbbboachakkgiaaDoor.G

namespace Go.Proofs.YtbbboachakkgiaaDoorW.PrintWords
open Go.RowKit
namespace Kd
section
variable {P : Program} {ops : Array Oper} {rest : List Oper} {o : Oper} {a : Act} {W : World} {α : Type} {Q : Exit → Act → World → Prop} {Kc : Act → World → Prop}
theorem own_room (W : World) (base e size m : Nat) (cs : Array Value) (hb : base ≤ W.heap.size) (hm : m ≤ maxLen) (hs : cs.size = m * size) :
    (W.alloc (.cells cs e)).ownsRow base e size (.slice (some ⟨W.heap.size, 0, none⟩) 0 m) 0 [] :=
  ⟨by simp, .inr ⟨W.heap.size, m, cs, rfl, hb, heap_alloc_new W _, Nat.zero_le _, hm, hs, by simp⟩⟩
theorem R_room (d : Kd α) (W : World) (base e m : Nat) (cs : Array Value) {ok : Nat → Prop} (hfresh : ok W.heap.size) (hb : base ≤ W.heap.size) (hm : m ≤ maxLen) (hs : cs.size = m * d.sz) :
    d.R e (W.alloc (.cells cs e)) base ok (.slice (some ⟨W.heap.size, 0, none⟩) 0 m) [] :=
  ⟨fun k hk => by
    have : W.heap.size = k := by simpa [Value.ownBlock] using hk
    subst this
    exact hfresh, [], own_room W base e d.sz m cs hb hm hs, ⟨by simp, fun j p hj => by simp at hj⟩⟩
theorem makec_run {d : Kd α} (t e : TypeId) (x y : Operand) (ho : o.op = .makeSlice t x y) (n : Nat) (hx : a.eval x = .int .i64 0) (hy : a.eval y = .int .i64 (n : Int))
    (ht : P.underlying t = some (.slice e)) (z : Value) (bytes : Nat) (hinfo : (P.info? e).map (fun i => (i.zero, i.size, i.bytes)) = some (some z, d.sz, bytes)) (hb0 : 0 < bytes) (hl : n * bytes ≤ 281474976710656) :
    (execOp a.eval o).run P W = .ok (.value (.slice (some ⟨W.heap.size, 0, none⟩) 0 n)) (W.alloc (.cells (madeCells z.cells (n * d.sz)) e)) := by
  obtain ⟨i0, hi, hzz⟩ := Option.map_eq_some_iff.1 hinfo
  simp only [Prod.mk.injEq] at hzz
  obtain ⟨hz0, hz1, hz2⟩ := hzz
  have hm : n ≤ 281474976710656 := Nat.le_trans (Nat.le_mul_of_pos_right _ hb0) hl
  have hr := run_make (P := P) (w := W) t e i0 z ht hi hz0 .i64 .i64 0 (n : Int) (by omega) (by omega)
    (by
      have h3 : ((i0.bytes * n : Nat) : Int) ≤ 281474976710656 := by rw [hz2, Nat.mul_comm]; omega
      rwa [Int.natCast_mul] at h3) (by omega)
  simp only [Int.toNat_natCast] at hr
  rw [hz1] at hr
  have e0 : (0 : Int).toNat = 0 := rfl
  rw [e0] at hr
  simp [execOp, ho, hx, hy, hr]
theorem makec_max {n bytes : Nat} (hb0 : 0 < bytes) (hl : n * bytes ≤ 281474976710656) : n ≤ maxLen := by
  have : n ≤ 281474976710656 := Nat.le_trans (Nat.le_mul_of_pos_right _ hb0) hl
  simp only [maxLen]
  omega
theorem R_makec (d : Kd α) {w0 : World} (base e : Nat) (hgd : o.guard = none) {N : Tmp} (_hd : o.dst = some N) (t : TypeId) (x y : Operand) (ho : o.op = .makeSlice t x y) (n : Int) (hx : a.eval x = .int .i64 0) (hy : a.eval y = .int .i64 n)
    (ht : P.underlying t = some (.slice e)) (z : Value) (bytes : Nat) (hinfo : (P.info? e).map (fun i => (i.zero, i.size, i.bytes)) = some (some z, d.sz, bytes)) (_hz : z.cells.size = d.sz) (_hs0 : 0 < d.sz) (hb0 : 0 < bytes)
    {ok : Nat → Prop} (hfresh : ok W.heap.size) (h0 : 0 ≤ n) (hl : n.toNat * bytes ≤ 281474976710656) (HB : Below base w0 W) (hbase : base ≤ W.heap.size)
    (h : ∀ v1 w1, d.R e w1 base ok v1 [] → Below base w0 w1 → W.grownBy w1 none → (∃ b, v1.ownBlock = some b ∧ W.heap.size ≤ b) → wpList P ops Q rest (a.put o.dst v1) w1) : wpList P ops Q (o :: rest) a W := by
  obtain ⟨m, rfl⟩ := Int.eq_ofNat_of_zero_le h0
  simp only [Int.toNat_natCast] at hl
  exact event_run hgd (makec_run (d := d) t e x y ho m hx hy ht z bytes hinfo hb0 hl) (h _ _ (R_room d W base e m _ hfresh hbase (makec_max hb0 hl) (by simp [size_madeCells])) (HB.alloc hbase _) (World.grownBy_alloc W _ none) ⟨W.heap.size, by simp [Value.ownBlock], Nat.le_refl _⟩)
theorem S_makec (d : Kd α) {w0 : World} (base e : Nat) (hgd : o.guard = none) {N : Tmp} (hd : o.dst = some N) (t : TypeId) (x y : Operand) (ho : o.op = .makeSlice t x y) (n : Int) (hx : a.eval x = .int .i64 0) (hy : a.eval y = .int .i64 n)
    (ht : P.underlying t = some (.slice e)) (z : Value) (bytes : Nat) (hinfo : (P.info? e).map (fun i => (i.zero, i.size, i.bytes)) = some (some z, d.sz, bytes)) (hz : z.cells.size = d.sz) (hs0 : 0 < d.sz) (hb0 : 0 < bytes)
    {ok : Nat → Prop} (hfresh : ok W.heap.size) (h0 : 0 ≤ n) (hl : n.toNat * bytes ≤ 281474976710656) (HB : Below base w0 W) (hbase : base ≤ W.heap.size)
    (h : ∀ v1 w1, S d e w1 base ok v1 [] → Below base w0 w1 → W.grownBy w1 none → (∃ b, v1.ownBlock = some b ∧ W.heap.size ≤ b) → wpList P ops Q rest (a.put o.dst v1) w1) : wpList P ops Q (o :: rest) a W :=
  R_makec (bare d) base e hgd hd t x y ho n hx hy ht z bytes hinfo hz hs0 hb0 (ok := ok) hfresh h0 hl HB hbase (fun v1 w1 hr => h v1 w1 (S_bare hr))
end
end Kd
end Go.Proofs.YtbbboachakkgiaaDoorW.PrintWords

namespace Go.Proofs.YtbbboachakkgiaaDoor.G
open Go.RowKit Go.Proofs.YtbbboachakkgiaaDoorW.PrintWords Go.Proofs.YtbbboachakkgiaaDoorW.PrintLast Go.Proofs.YtbbboachakkgiaaDoorW.PrintMore
attribute [local go_sem] max2_int min2_int max_two min_two max_three min_three max_four min_four   -- for this text's walks alone
set_option linter.unusedVariables false
set_option linter.unusedSimpArgs false

def impl_Record_copyOf.f (a0_0 : Int) (a0_1 : Int) (a0_2 : Bool) (l0_3 : List Int) (a0_4 : Bool) (l0_5 : List Int) : Option (Int × Int × Bool × List Int × Bool × List Int) := (slices_Clone_int_int.f l0_3).bind fun t294 => ((slices_Clone_int_int.f l0_5).bind fun t297 => (some (a0_0, a0_1, a0_2, t294, a0_4, t297)))
set_option maxHeartbeats 8000000 in
set_option maxRecDepth 100000 in
theorem impl_Record_copyOf.calls (a0_0 : Int) (a0_1 : Int) (a0_2 : Bool) (A0_3 : Option Addr) (c0_3 : Nat) (l0_3 : List Int) (a0_4 : Bool) (A0_5 : Option Addr) (c0_5 : Nat) (l0_5 : List Int) (r1 : Int) (r2 : Int) (r3 : Bool) (r4 : List Int) (r5 : Bool) (r6 : List Int) (w : World) (hr0_3 : Kd.C (Kd.int .i64) w A0_3 l0_3.length l0_3) (hc0_3 : l0_3.length ≤ c0_3) (hr0_5 : Kd.C (Kd.int .i64) w A0_5 l0_5.length l0_5) (hc0_5 : l0_5.length ≤ c0_5) (h : impl_Record_copyOf.f a0_0 a0_1 a0_2 l0_3 a0_4 l0_5 = some (r1, r2, r3, r4, r5, r6)) :
  Calls Tryd.prog 55 #[.agg #[.int .i64 a0_0, .int .i64 a0_1, .bool a0_2, .slice A0_3 l0_3.length c0_3, .bool a0_4, .slice A0_5 l0_5.length c0_5]] w fun e w' => ∃ v3_ v5_ : Value, e = .returned (.agg #[.int .i64 r1, .int .i64 r2, .bool r3, v3_, .bool r5, v5_]) ∧ Kd.R (Kd.int .i64) 3 w' w.heap.size (fun k_ => some k_ ≠ (v5_ : Value).ownBlock) v3_ r4 ∧ Kd.R (Kd.int .i64) 3 w' w.heap.size (fun k_ => some k_ ≠ (v3_ : Value).ownBlock) v5_ r6 ∧ Below w.heap.size w w' := by
 have hu33 := Tryd.underlying33
 have HR0_3 := Aside0.mk hr0_3
 have HC0_3 := Aside0.mk hc0_3
 clear hr0_3 hc0_3
 have HR0_5 := Aside0.mk hr0_5
 have HC0_5 := Aside0.mk hc0_5
 clear hr0_5 hc0_5
 have HB := Aside0.mk (Below.refl w.heap.size w)
 have H : ((slices_Clone_int_int.f l0_3).bind fun t294 => ((slices_Clone_int_int.f l0_5).bind fun t297 => (some (a0_0, a0_1, a0_2, t294, a0_4, t297)))) = some (r1, r2, r3, r4, r5, r6) := h
 clear h
 replace H := tbe H
 obtain ⟨t294, A2, H⟩ := H
 replace H := tbe H
 obtain ⟨t297, A3, H⟩ := H
 simp only [Option.some.injEq, Prod.mk.injEq] at H
 obtain ⟨rfl, rfl, rfl, rfl, rfl, rfl⟩ := H
 go_enter Tryd.func55, Tryd.ntmps55
 go_wp2_with (first | ((with_reducible refine gate_dst (N := 1) rfl ?_); refine box_event ?hg (N := 1) ?hd (cs := #[.int .i64 a0_0, .int .i64 a0_1, .bool a0_2, .slice A0_3 l0_3.length c0_3, .bool a0_4, .slice A0_5 l0_5.length c0_5]) (t := 33) ?hr ?_; (case hd => rfl); (case hg => rfl); (case hr => first | (go_simp; done) | (go_simp; rfl)); intro gb292 hg w4 hbox hb; have BK292 := Aside0.mk (hbox); have GW292 := tge HB hg; have GE292 := tge HB hg; replace HB := tBs HB hb; clear hb hbox hg) | ((with_reducible refine gate_dst (N := 2) rfl ?_); refine box_event ?hg (N := 2) ?hd (cs := #[.int .i64 0, .int .i64 0, .bool false, .slice none 0 0, .bool false, .slice none 0 0]) (t := 33) ?hr ?_; (case hd => rfl); (case hg => rfl); (case hr => first | (go_simp; done) | (go_simp; rfl)); intro gb293 hg w5 hbox hb; have BK293 := Aside0.mk (hbox); have GW293 := tge HB hg; have GE293 := tge HB hg; replace HB := tBs HB hb; have NB292_293 := tlt BK292 hg; have NB293_292 := tgt BK292 hg; replace BK292 := tBb BK292 hb; clear hb hbox hg; have hnb6 := NB292_293.out; have hnc6 := NB293_292.out; obtain ⟨hcz7_0, hcz7_1, hcz7_2, hcz7_3, hcz7_4, hcz7_5, hfz7_0, hfz7_1, hfz7_2, hfz7_3, hfz7_4, hfz7_5⟩ := cells6 BK292.out) | ((with_reducible refine gate_callee (f := 77) rfl ?_); refine goesL_ (some 5) rfl rfl Tryd.func77 (by kernel_rfl) rfl #[.slice A0_3 l0_3.length c0_3] rfl tq ?_; (with_reducible refine (slices_Clone_int_int.calls _ _ l0_3 t294 _ ?side1 ?side2 A2.out).mono ?_); (case side1 => exact tC (Kd.C_below HR0_3.out HB.out)); (case side2 => exact HC0_3.out); rintro e w8 ⟨v295, rfl, ho0, hb⟩; have u_v295 := tsv Tryd.prog v295 ho0; refine ⟨_, rfl, ?_⟩; have HO296 := tRl ho0 HB; replace BK292 := tBb BK292 hb; replace BK293 := tBb BK293 hb; replace HB := tBs HB hb; (try clear hb); (try clear hb2); (try clear hk); (try clear hi); (try clear ho0); obtain ⟨Ao9, co9, eo9⟩ := Kd.R_slice HO296.out; subst eo9; obtain ⟨hcz10_0, hcz10_1, hcz10_2, hcz10_3, hcz10_4, hcz10_5, hfz10_0, hfz10_1, hfz10_2, hfz10_3, hfz10_4, hfz10_5⟩ := cells6 BK292.out) | ((with_reducible refine gate_callee (f := 77) rfl ?_); refine goesL_ (some 9) rfl rfl Tryd.func77 (by kernel_rfl) rfl #[.slice A0_5 l0_5.length c0_5] rfl tq ?_; (with_reducible refine (slices_Clone_int_int.calls _ _ l0_5 t297 _ ?side1 ?side2 A3.out).mono ?_); (case side1 => exact Kd.C_below HR0_5.out zb); (case side2 => exact HC0_5.out); rintro e w11 ⟨v298, rfl, ho0, hb⟩; have u_v298 := tsv Tryd.prog v298 ho0; refine ⟨_, rfl, ?_⟩; have HO299 := Aside0.mk (Kd.R_lower (Kd.R_new' ho0 (Kd.R_lt (tRt HO296.out BK292.out))) (below_size zb)); replace HO296 := Aside0.mk (Kd.R_elder' (tRt HO296.out BK292.out) (Kd.R_base ho0) hb); replace BK292 := tBp (o' := .cells #[.int .i64 a0_0, .int .i64 a0_1, .bool a0_2, .slice Ao9 t294.length co9, .bool a0_4, .slice A0_5 l0_5.length c0_5] 33 (0, 0)) BK292 hb; replace BK293 := tBb BK293 hb; replace HB := tBs HB hb; (try clear hb); (try clear hb2); (try clear hk); (try clear hi); (try clear ho0); obtain ⟨Ao12, co12, eo12⟩ := Kd.R_slice HO299.out; subst eo12; obtain ⟨hcz13_0, hcz13_1, hcz13_2, hcz13_3, hcz13_4, hcz13_5, hfz13_0, hfz13_1, hfz13_2, hfz13_3, hfz13_4, hfz13_5⟩ := cells6 BK292.out; obtain ⟨hcz14_0, hcz14_1, hcz14_2, hcz14_3, hcz14_4, hcz14_5, hfz14_0, hfz14_1, hfz14_2, hfz14_3, hfz14_4, hfz14_5⟩ := cells6 BK293.out))
 refine bodyPost_ret (results_cell_row rfl _ _ gb293 33 #[.int .i64 a0_0, .int .i64 a0_1, .bool a0_2, .slice Ao9 t294.length co9, .bool a0_4, .slice Ao12 t297.length co12] (0, 0) _ rfl (tP BK293.out) Tryd.underlying33 rfl (by kernel_rfl)) rfl ?_
 exact ⟨_, _, by first | rfl | (simp [errW_none, errW_some] <;> rfl) | (simp [*, errW_none, errW_some] <;> rfl), tRm (Kd.R_types (Kd.R_types HO296.out BK292.out (by decide)) BK293.out (by decide)), tRm (Kd.R_types (Kd.R_types HO299.out BK292.out (by decide)) BK293.out (by decide)), zb⟩

def impl_copyRecords.l0 : Nat → List (S33) → List (S33) → Int → Int → Option ((List (S33)))
 | 0, _, _, _, _ => none
 | k + 1, x3, x9, x10, x11 => if x11 < x10 then (if 0 ≤ x11 then (if x11 < (x9.length : Int) then ((impl_Record_copyOf.f ((rd_T33 x9 x11).f0) ((rd_T33 x9 x11).f1) ((rd_T33 x9 x11).f2) ((rd_T33 x9 x11).f3) ((rd_T33 x9 x11).f4) ((rd_T33 x9 x11).f5)).bind fun bt305 => (if x3.length < 1759218604441 then (impl_copyRecords.l0 k (x3 ++ [(⟨bt305.1, bt305.2.1, bt305.2.2.1, bt305.2.2.2.1, bt305.2.2.2.2.1, bt305.2.2.2.2.2⟩ : S33)]) x9 x10 (wrap64 (x11 + 1))) else (none))) else (none)) else (none)) else (some x3)
def impl_copyRecords.f (k : Nat) (l0 : List (S33)) : Option ((List (S33))) := if 0 ≤ (l0.length : Int) then (if ((l0.length : Int) : Int).toNat ≤ 3518437208883 then (impl_copyRecords.l0 k (([] : List (S33))) l0 (l0.length : Int) 0) else (none)) else (none)
set_option maxHeartbeats 8000000 in
set_option maxRecDepth 100000 in
theorem impl_copyRecords.calls (k : Nat) (A0 : Option Addr) (c0 : Nat) (l0 : List (S33)) (r : List (S33)) (w : World) (hr0 : Kd.C k33 w A0 l0.length l0) (hc0 : l0.length ≤ c0) (h : impl_copyRecords.f k l0 = some r) :
  Calls Tryd.prog 57 #[.slice A0 l0.length c0] w fun e w' => ∃ v0_ : Value, e = .returned (v0_) ∧ Kd.S k33 33 w' w.heap.size (fun _ => True) v0_ r ∧ Below w.heap.size w w' := by
 have hu33 := Tryd.underlying33
 have HR0 := Aside0.mk hr0
 have HC0 := Aside0.mk hc0
 clear hr0 hc0
 have HB := Aside0.mk (Below.refl w.heap.size w)
 have H : (if 0 ≤ (l0.length : Int) then (if ((l0.length : Int) : Int).toNat ≤ 3518437208883 then (impl_copyRecords.l0 k (([] : List (S33))) l0 (l0.length : Int) 0) else (none)) else (none)) = some r := h
 clear h
 by_cases c2 : 0 ≤ (l0.length : Int)
 ·rw [if_pos c2] at H
  have c2b0 := eq_true c2
  have c2b1 : decide (0 ≤ (l0.length : Int)) = true := decide_eq_true c2
  clear c2
  by_cases c3 : ((l0.length : Int) : Int).toNat ≤ 3518437208883
  ·rw [if_pos c3] at H
   have c3b0 := eq_true c3
   have c3b1 : decide (((l0.length : Int) : Int).toNat ≤ 3518437208883) = true := decide_eq_true c3
   clear c3
   obtain ⟨y300, hy300⟩ : ∃ y_ : List (S33), y_ = (([] : List (S33))) := ⟨_, rfl⟩
   replace H : (impl_copyRecords.l0 k y300 l0 (l0.length : Int) 0) = some r := by first | (rw [hy300]; with_reducible exact H) | (have H2_ := (Option.bind_some _ _).symm.trans H; rw [hy300]; with_reducible exact H2_) | (have H2_ := (Option.bind_some _ _).symm.trans H; with_reducible exact H2_) | with_reducible exact H | (rw [hy300]; exact H) | exact H
   have Ny300 := Aside0.mk hy300
   clear hy300
   have H' := Aside0.mk H
   clear H
   go_enter Tryd.func57, Tryd.ntmps57
   go_wp2_with (first | ((with_reducible refine gate_dst (N := 8) rfl ?_); refine Kd.S_makec k33 _ 33 rfl (N := 8) rfl 29 _ _ rfl (l0.length : Int) rfl rfl Tryd.underlying29 (.agg #[(.int .i64 0), (.int .i64 0), (.bool false), (.slice none 0 0), (.bool false), (.slice none 0 0)]) 80 info33 rfl (by decide) (by omega) (ok := fun _ => True) trivial (td) (Nat.le_trans (Nat.mul_le_mul_right _ (td : (l0.length : Int).toNat ≤ 3518437208883)) (by omega)) (Below.refl _ _) (Nat.le_refl _) ?_; intro v301 w4 ho5 hb hg_ hnew_; clear hg_ hnew_; (first | rw [← Ny300.out] at ho5 | (simp only [Int.reduceToNat] at ho5; rw [← Ny300.out] at ho5)); have HO302 := tSl ho5 HB; replace HB := tBs HB hb; clear hb ho5))
   go_loopg [3, 11] k (fun kq v3 v11 w' => ∃ (x3_1 : List (S33)) (x11_1 : Int), v11 = .int .i64 x11_1 ∧ Aside0 (impl_copyRecords.l0 kq x3_1 l0 (l0.length : Int) x11_1 = some r) ∧ Aside0 (kq ≤ k) ∧ Aside0 (Kd.S k33 33 w' w.heap.size (fun _ => True) v3 x3_1) ∧ Aside0 (Below w.heap.size w w'))
   case atStart => exact ⟨(y300), (0), tr, H', ⟨Nat.le_refl _⟩, ⟨tS HO302.out⟩, ⟨zb⟩⟩
   case round =>
    clear H'
    try clear c2; try clear c2b0; try clear c2b1; try clear c3; try clear c3b0; try clear c3b1
    obtain ⟨x3_1, x11_1, rfl, HA, HK1, HO_3, HB⟩ := hrel
    cases gk with
    | zero => exact absurd HA.out (by simp [impl_copyRecords.l0])
    | succ k1 =>
     have H := HA.out
     clear HA
     simp only [impl_copyRecords.l0] at H
     by_cases c6 : x11_1 < (l0.length : Int)
     ·rw [if_pos c6] at H
      have c6b0 : decide (x11_1 < (l0.length : Int)) = true := decide_eq_true c6
      clear c6
      by_cases c7 : 0 ≤ x11_1
      ·rw [if_pos c7] at H
       have c7b0 : decide (0 ≤ x11_1) = true := decide_eq_true c7
       clear c7
       by_cases c8 : x11_1 < (l0.length : Int)
       ·rw [if_pos c8] at H
        have c8b0 : decide (x11_1 < (l0.length : Int)) = true := decide_eq_true c8
        clear c8
        replace H := tbe H
        obtain ⟨⟨t305, t306, t307, t308, t311, t312⟩, A9, H⟩ := H
        dsimp only at H
        by_cases c10 : x3_1.length < 1759218604441
        ·rw [if_pos c10] at H
         have LMc10 := Aside0.mk c10
         clear c10
         obtain ⟨y315, hy315⟩ : ∃ y_ : List (S33), y_ = (x3_1 ++ [(⟨t305, t306, t307, t308, t311, t312⟩ : S33)]) := ⟨_, rfl⟩
         replace H : (impl_copyRecords.l0 k1 y315 l0 (l0.length : Int) (wrap64 (x11_1 + 1))) = some r := by first | (rw [hy315]; with_reducible exact H) | (have H2_ := (Option.bind_some _ _).symm.trans H; rw [hy315]; with_reducible exact H2_) | (have H2_ := (Option.bind_some _ _).symm.trans H; with_reducible exact H2_) | with_reducible exact H | (rw [hy315]; exact H) | exact H
         have Ny315 := Aside0.mk hy315
         clear hy315
         have H' := Aside0.mk H
         clear H
         have p303 : 0 ≤ (x11_1 : Int) := td
         have q303 : x11_1 < (l0.length : Int) := td
         obtain ⟨ad303, A303_3, c303_3, A303_5, c303_5, e303, hx303_0, hx303_1, hx303_2, hx303_3, hx303_4, hx303_5, hl303_3, hi303_3, hl303_5, hi303_5⟩ := at_T33 HR0.out x11_1 p303 q303
         cases e303
         replace hx303_0 := tcl HB hx303_0
         replace hx303_1 := tcl HB hx303_1
         replace hx303_2 := tcl HB hx303_2
         replace hx303_3 := tcl HB hx303_3
         replace hx303_4 := tcl HB hx303_4
         replace hx303_5 := tcl HB hx303_5
         have HR303_3 := Aside0.mk hi303_3
         have HC303_3 := Aside0.mk hl303_3
         clear hi303_3 hl303_3
         have HR303_5 := Aside0.mk hi303_5
         have HC303_5 := Aside0.mk hl303_5
         clear hi303_5 hl303_5
         replace p303 := eq_true p303
         replace q303 := eq_true q303
         go_wp2_with (first | ((with_reducible refine gate_dst (N := 5) rfl ?_); refine box_event ?hg (N := 5) ?hd (cs := #[.int .i64 0, .int .i64 0, .bool false, .slice none 0 0, .bool false, .slice none 0 0]) (t := 33) ?hr ?_; (case hd => rfl); (case hg => rfl); (case hr => first | (go_simp; done) | (go_simp; rfl)); intro gb304 hg w11 hbox hb; replace HO_3 := tSB HO_3 hg hb; have BK304 := Aside0.mk (hbox); have GW304 := tge HB hg; have GE304 := tge HB hg; replace HB := tBs HB hb; clear hb hbox hg; obtain ⟨hcz12_0, hcz12_1, hcz12_2, hcz12_3, hcz12_4, hcz12_5, hfz12_0, hfz12_1, hfz12_2, hfz12_3, hfz12_4, hfz12_5⟩ := cells6 BK304.out) | ((with_reducible refine gate_callee (f := 55) rfl ?_); refine goesL_ (some 17) rfl rfl Tryd.func55 (by kernel_rfl) rfl #[.agg #[.int .i64 ((rd_T33 l0 x11_1).f0), .int .i64 ((rd_T33 l0 x11_1).f1), .bool ((rd_T33 l0 x11_1).f2), .slice A303_3 ((rd_T33 l0 x11_1).f3).length c303_3, .bool ((rd_T33 l0 x11_1).f4), .slice A303_5 ((rd_T33 l0 x11_1).f5).length c303_5]] rfl tq ?_; (with_reducible refine (impl_Record_copyOf.calls ((rd_T33 l0 x11_1).f0) ((rd_T33 l0 x11_1).f1) ((rd_T33 l0 x11_1).f2) _ _ ((rd_T33 l0 x11_1).f3) ((rd_T33 l0 x11_1).f4) _ _ ((rd_T33 l0 x11_1).f5) t305 t306 t307 t308 t311 t312 _ ?side1 ?side2 ?side3 ?side4 A9.out).mono ?_); (case side1 => exact Kd.C_below HR303_3.out zb); (case side2 => exact HC303_3.out); (case side3 => exact Kd.C_below HR303_5.out zb); (case side4 => exact HC303_5.out); rintro e w13 ⟨v309, v313, rfl, ho0, ho1, hb⟩; have u_v309 := tsv Tryd.prog v309 ho0; have u_v313 := tsv Tryd.prog v313 ho1; refine ⟨_, rfl, ?_⟩; replace HO_3 := Aside0.mk (Kd.S_mono (Kd.S_told (Kd.S_told (Kd.S_old (tS HO_3.out) hb) (Kd.R_base ho0)) (Kd.R_base ho1)) (fun _ h_ => h_.1)); have HO310 := tRl ho0 HB; have HO314 := tRl ho1 HB; replace BK304 := tBp (o' := .cells #[.int .i64 ((rd_T33 l0 x11_1).f0), .int .i64 ((rd_T33 l0 x11_1).f1), .bool ((rd_T33 l0 x11_1).f2), .slice A303_3 ((rd_T33 l0 x11_1).f3).length c303_3, .bool ((rd_T33 l0 x11_1).f4), .slice A303_5 ((rd_T33 l0 x11_1).f5).length c303_5] 33 (0, 0)) BK304 hb; replace HB := tBs HB hb; (try clear hb); (try clear hb2); (try clear hk); (try clear hi); (try clear ho0); (try clear ho1); obtain ⟨Ao15, co15, eo15⟩ := Kd.R_slice HO310.out; subst eo15; obtain ⟨Ao16, co16, eo16⟩ := Kd.R_slice HO314.out; subst eo16) | ((with_reducible refine gate_builtin (b := .append) (xs := #[.tmp 15, .tmp 18]) rfl ?_); at_builtin; refine Kd.S_append k33 (w0 := w) w.heap.size rfl (.tmp 15) (.tmp 18) 29 33 (.agg #[(.int .i64 0), (.int .i64 0), (.bool false), (.slice none 0 0), (.bool false), (.slice none 0 0)]) 80 rfl Tryd.underlying29 info33 rfl (by decide) (by omega) u3 x3_1 (⟨t305, t306, t307, t308, t311, t312⟩ : S33) [.int .i64 t305, .int .i64 t306, .bool t307, .slice Ao15 t308.length co15, .bool t311, .slice Ao16 t312.length co16] (fun k_ => k_ ≠ gb304) (fun k_ => some k_ = (.slice Ao15 t308.length co15 : Value).ownBlock ∨ some k_ = (.slice Ao16 t312.length co16 : Value).ownBlock) rfl rfl ?aP (fun k_ hk_ => hk_.elim (fun h_ => ((Kd.R_mono (ok' := fun k_ => ((fun k_ => k_ ≠ gb304)) k_ ∧ some k_ ≠ (u3 : Value).ownBlock) (Kd.R_types (Kd.R_apart' (HO310.out) (Kd.S_typed HO_3.out) (by decide)) BK304.out (by decide)) (fun k_ hk => ⟨hk.2, hk.1.2⟩))).1 k_ h_.symm) (fun h_ => ((Kd.R_mono (ok' := fun k_ => ((fun k_ => k_ ≠ gb304)) k_ ∧ some k_ ≠ (u3 : Value).ownBlock) (Kd.R_types (Kd.R_apart' (HO314.out) (Kd.S_typed HO_3.out) (by decide)) BK304.out (by decide)) (fun k_ hk => ⟨hk.2, hk.1.2⟩))).1 k_ h_.symm)) ?aF ?aO ?aB ?aS ?aL ?_; (case aP => exact k33_mkM _ _ _ (⟨t305, t306, t307, t308, t311, t312⟩ : S33) (Kd.R_mono (Kd.R_tight rfl (Kd.R_mono (ok' := fun k_ => ((fun k_ => k_ ≠ gb304)) k_ ∧ some k_ ≠ (u3 : Value).ownBlock) (Kd.R_types (Kd.R_apart' (HO310.out) (Kd.S_typed HO_3.out) (by decide)) BK304.out (by decide)) (fun k_ hk => ⟨hk.2, hk.1.2⟩))) (fun _ h_ => Or.inl h_)) (Kd.R_mono (Kd.R_tight rfl (Kd.R_mono (ok' := fun k_ => ((fun k_ => k_ ≠ gb304)) k_ ∧ some k_ ≠ (u3 : Value).ownBlock) (Kd.R_types (Kd.R_apart' (HO314.out) (Kd.S_typed HO_3.out) (by decide)) BK304.out (by decide)) (fun k_ hk => ⟨hk.2, hk.1.2⟩))) (fun _ h_ => Or.inr (h_)))); (case aB => exact zb); (case aF => exact (fun k_ hk => tfB BK304 k_ hk)); (case aO => exact (tSm HO_3.out)); (case aS => exact (below_size zb)); (case aL => have := LMc10.out; omega); intro v316 w14 ho hb hg hat; rw [← Ny315.out] at ho; replace BK304 := Aside0.mk (blk_grown (tH BK304.out) hg (Kd.S_away HO_3.out (fun _ hk => hk.1.1.2))); replace HB := Aside0.mk (hb); have HO317 := Aside0.mk (ho); clear HO_3 HO310 HO314; clear ho hb hg hat))
         go_roundg k1
         case measure => have := HK1.out; omega
         case rel => exact ⟨(y315), (wrap64 (x11_1 + 1)), tr, H', ⟨by have := HK1.out; omega⟩, ⟨tSm HO317.out⟩, ⟨zb⟩⟩
        ·rw [if_neg c10] at H
         exact absurd H (by simp)
       ·rw [if_neg c8] at H
        exact absurd H (by simp)
      ·rw [if_neg c7] at H
       exact absurd H (by simp)
     ·rw [if_neg c6] at H
      have c6b0 : decide (x11_1 < (l0.length : Int)) = false := decide_eq_false c6
      clear c6
      obtain rfl := Option.some.inj H
      go_wp2
      go_ret
      exact ⟨_, by first | rfl | (simp [errW_none, errW_some] <;> rfl) | (simp [*, errW_none, errW_some] <;> rfl), tS HO_3.out, zb⟩
  ·rw [if_neg c3] at H
   exact absurd H (by simp)
 ·rw [if_neg c2] at H
  exact absurd H (by simp)

def impl_Batch_copyOf.f (k : Nat) (a0_0 : Bool) (a0_1 : Bool) (a0_2 : Int) (a0_3 : Int) (a0_4 : Int) (l0_5 : List (S33)) : Option (Bool × Bool × Int × Int × Int × (List (S33))) := (impl_copyRecords.f k l0_5).bind fun t320 => (some (a0_0, a0_1, a0_2, a0_3, a0_4, t320))
set_option maxHeartbeats 8000000 in
set_option maxRecDepth 100000 in
theorem impl_Batch_copyOf.calls (k : Nat) (a0_0 : Bool) (a0_1 : Bool) (a0_2 : Int) (a0_3 : Int) (a0_4 : Int) (A0_5 : Option Addr) (c0_5 : Nat) (l0_5 : List (S33)) (r1 : Bool) (r2 : Bool) (r3 : Int) (r4 : Int) (r5 : Int) (r6 : List (S33)) (w : World) (hr0_5 : Kd.C k33 w A0_5 l0_5.length l0_5) (hc0_5 : l0_5.length ≤ c0_5) (h : impl_Batch_copyOf.f k a0_0 a0_1 a0_2 a0_3 a0_4 l0_5 = some (r1, r2, r3, r4, r5, r6)) :
  Calls Tryd.prog 35 #[.agg #[.bool a0_0, .bool a0_1, .int .i64 a0_2, .int .i64 a0_3, .int .i64 a0_4, .slice A0_5 l0_5.length c0_5]] w fun e w' => ∃ v5_ : Value, e = .returned (.agg #[.bool r1, .bool r2, .int .i64 r3, .int .i64 r4, .int .i64 r5, v5_]) ∧ Kd.S k33 33 w' w.heap.size (fun _ => True) v5_ r6 ∧ Below w.heap.size w w' := by
 have hu47 := Tryd.underlying47
 have HR0_5 := Aside0.mk hr0_5
 have HC0_5 := Aside0.mk hc0_5
 clear hr0_5 hc0_5
 have HB := Aside0.mk (Below.refl w.heap.size w)
 have H : ((impl_copyRecords.f k l0_5).bind fun t320 => (some (a0_0, a0_1, a0_2, a0_3, a0_4, t320))) = some (r1, r2, r3, r4, r5, r6) := h
 clear h
 replace H := tbe H
 obtain ⟨t320, A2, H⟩ := H
 simp only [Option.some.injEq, Prod.mk.injEq] at H
 obtain ⟨rfl, rfl, rfl, rfl, rfl, rfl⟩ := H
 go_enter Tryd.func35, Tryd.ntmps35
 go_wp2_with (first | ((with_reducible refine gate_dst (N := 1) rfl ?_); refine box_event ?hg (N := 1) ?hd (cs := #[.bool a0_0, .bool a0_1, .int .i64 a0_2, .int .i64 a0_3, .int .i64 a0_4, .slice A0_5 l0_5.length c0_5]) (t := 47) ?hr ?_; (case hd => rfl); (case hg => rfl); (case hr => first | (go_simp; done) | (go_simp; rfl)); intro gb318 hg w3 hbox hb; have BK318 := Aside0.mk (hbox); have GW318 := tge HB hg; have GE318 := tge HB hg; replace HB := tBs HB hb; clear hb hbox hg) | ((with_reducible refine gate_dst (N := 2) rfl ?_); refine box_event ?hg (N := 2) ?hd (cs := #[.bool false, .bool false, .int .i64 0, .int .i64 0, .int .i64 0, .slice none 0 0]) (t := 47) ?hr ?_; (case hd => rfl); (case hg => rfl); (case hr => first | (go_simp; done) | (go_simp; rfl)); intro gb319 hg w4 hbox hb; have BK319 := Aside0.mk (hbox); have GW319 := tge HB hg; have GE319 := tge HB hg; replace HB := tBs HB hb; have NB318_319 := tlt BK318 hg; have NB319_318 := tgt BK318 hg; replace BK318 := tBb BK318 hb; clear hb hbox hg; have hnb5 := NB318_319.out; have hnc5 := NB319_318.out; obtain ⟨hcz6_0, hcz6_1, hcz6_2, hcz6_3, hcz6_4, hcz6_5, hfz6_0, hfz6_1, hfz6_2, hfz6_3, hfz6_4, hfz6_5⟩ := cells6 BK318.out) | ((with_reducible refine gate_callee (f := 57) rfl ?_); refine goesL_ (some 5) rfl rfl Tryd.func57 (by kernel_rfl) rfl #[.slice A0_5 l0_5.length c0_5] rfl tq ?_; (with_reducible refine (impl_copyRecords.calls k _ _ l0_5 t320 _ ?side1 ?side2 A2.out).mono ?_); (case side1 => exact tC (Kd.C_below HR0_5.out HB.out)); (case side2 => exact HC0_5.out); rintro e w7 ⟨v321, rfl, ho0, hb⟩; have u_v321 := tsv Tryd.prog v321 ho0; refine ⟨_, rfl, ?_⟩; have HO322 := tSl ho0 HB; replace BK318 := tBb BK318 hb; replace BK319 := tBb BK319 hb; replace HB := tBs HB hb; (try clear hb); (try clear hb2); (try clear hk); (try clear hi); (try clear ho0); obtain ⟨Ao8, co8, eo8⟩ := Kd.S_slice HO322.out; subst eo8; obtain ⟨hcz9_0, hcz9_1, hcz9_2, hcz9_3, hcz9_4, hcz9_5, hfz9_0, hfz9_1, hfz9_2, hfz9_3, hfz9_4, hfz9_5⟩ := cells6 BK318.out; obtain ⟨hcz10_0, hcz10_1, hcz10_2, hcz10_3, hcz10_4, hcz10_5, hfz10_0, hfz10_1, hfz10_2, hfz10_3, hfz10_4, hfz10_5⟩ := cells6 BK319.out))
 refine bodyPost_ret (results_cell_row rfl _ _ gb319 47 #[.bool a0_0, .bool a0_1, .int .i64 a0_2, .int .i64 a0_3, .int .i64 a0_4, .slice Ao8 t320.length co8] (0, 0) _ rfl (tP BK319.out) Tryd.underlying47 rfl (by kernel_rfl)) rfl ?_
 exact ⟨_, by first | rfl | (simp [errW_none, errW_some] <;> rfl) | (simp [*, errW_none, errW_some] <;> rfl), tSm (Kd.S_types (Kd.S_types HO322.out BK318.out (by decide)) BK319.out (by decide)), zb⟩

end Go.Proofs.YtbbboachakkgiaaDoor.G

