/- A text of seat Ythoioccmnphfgaa: what the law FnKeepMore needs of this repo's texts (by pack.py). Not trusted: Lean checks it. -/
import Derived.Test.YthoioccmnphfgaaKFnKeepMore8
namespace Go.Proofs.Ythoioccmnphfgaa.G
open Go.RowKit Go.Proofs.YthoioccmnphfgaaW.PrintWords Go.Proofs.YthoioccmnphfgaaW.PrintLast Go.Proofs.YthoioccmnphfgaaW.PrintMore
attribute [local go_sem] max2_int min2_int max_two min_two max_three min_three max_four min_four   -- for this text's walks alone
set_option linter.unusedVariables false
set_option linter.unusedSimpArgs false

def spec_l4Plain.l0 : Nat → List Int → List Int → Int → Option (List Int)
 | 0, _, _, _ => none
 | k + 1, x0, x3, x4 => if x4 < (x0.length : Int) then (if x3.length < 17592186044416 then ((some (x3 ++ [wrap64 ((wrap64 ((mn (wrap64 (x4 + 64)) (x0.length : Int)) - x4)) - 1)] : List Int)).bind fun y475 => (if 0 ≤ x4 then (if x4 ≤ (mn (wrap64 (x4 + 64)) (x0.length : Int)) then (if (mn (wrap64 (x4 + 64)) (x0.length : Int)) ≤ (x0.length : Int) then (if y475.length + ((x0.take ((mn (wrap64 (x4 + 64)) (x0.length : Int)) : Int).toNat).drop (x4 : Int).toNat).length < 17592186044416 then (spec_l4Plain.l0 k x0 (y475 ++ ((x0.take ((mn (wrap64 (x4 + 64)) (x0.length : Int)) : Int).toNat).drop (x4 : Int).toNat)) (wrap64 (x4 + 64))) else (none)) else (none)) else (none)) else (none))) else (none)) else (some x3)
def spec_l4Plain.f (k : Nat) (l0 : List Int) : Option (List Int) := spec_l4Plain.l0 k l0 (([] : List Int)) 0
def spec_l4Plain.T6 : Bool × List (List Nat × List Nat) := (true, [([], []), ([], []), ([], []), ([1, 2], [1, 2]), ([3], [3]), ([4], [4]), ([0, 5], [0, 5]), ([], []), ([], []), ([], []), ([7, 8, 9], [7, 8, 9]), ([6, 10, 6], [6, 10]), ([11, 11, 0, 1, 2, 3, 4, 5, 6, 7, 8, 9, 10, 11], [0, 11])])
def spec_l4Plain.B6 : List Nat := [0, 0, 0, 6, 14, 30, 63, 0, 0, 0, 896, 2047, 4095]
theorem spec_l4Plain.tab6 : rtab .any (opsOf Try.f74 6) = spec_l4Plain.T6 := by kernel_rfl
theorem spec_l4Plain.bits6 : waitsOk spec_l4Plain.T6.2 spec_l4Plain.B6 = true := by kernel_rfl
set_option maxHeartbeats 8000000 in
set_option maxRecDepth 100000 in
theorem spec_l4Plain.calls (k : Nat) (A0 : Option Addr) (c0 : Nat) (l0 : List Int) (r : List Int) (w : World) (hr0 : Kd.C (Kd.int .i64) w A0 l0.length l0) (hc0 : l0.length ≤ c0) (h : spec_l4Plain.f k l0 = some r) :
  Calls Try.prog 74 #[.slice A0 l0.length c0] w fun e w' => ∃ v0_ : Value, e = .returned (v0_) ∧ Kd.R (Kd.int .i64) 3 w' w.heap.size (fun _ => True) v0_ r ∧ Below w.heap.size w w' := by
 have HR0 := Aside0.mk hr0
 have HC0 := Aside0.mk hc0
 clear hr0 hc0
 have HB := Aside0.mk (Below.refl w.heap.size w)
 have H : (spec_l4Plain.l0 k l0 (([] : List Int)) 0) = some r := h
 clear h
 obtain ⟨y472, hy472⟩ : ∃ y_ : List Int, y_ = (([] : List Int)) := ⟨_, rfl⟩
 replace H : (spec_l4Plain.l0 k l0 y472 0) = some r := by first | (rw [hy472]; with_reducible exact H) | (have H2_ := (Option.bind_some _ _).symm.trans H; rw [hy472]; with_reducible exact H2_) | (have H2_ := (Option.bind_some _ _).symm.trans H; with_reducible exact H2_) | with_reducible exact H | (rw [hy472]; exact H) | exact H
 have Ny472 := Aside0.mk hy472
 clear hy472
 have H' := Aside0.mk H
 clear H
 go_enter Try.func74, Try.ntmps74
 go_wp2_with (first | ((with_reducible refine gate_dst (N := 6) rfl ?_); refine Kd.R_lit (Kd.int .i64) _ 3 ?hg (N := 6) ?hd (xs := ([] : List Int)) (inner := []) (ok := fun _ => True) (okp := fun _ => True) ?hr ?hp (fun _ hk => hk) trivial (Below.refl _ _) (Nat.le_refl _) (by simp) ?_; (case hd => rfl); (case hg => rfl); (case hr => first | (go_simp; done) | (go_simp; rfl)); (case hp => exact (Reps.none _ _)); intro v473 w2 ho3 hb hg_ hnew_; clear hg_ hnew_; (first | rw [← Ny472.out] at ho3 | (simp only [Int.reduceToNat] at ho3; rw [← Ny472.out] at ho3)); have HO474 := tRl ho3 HB; replace HB := tBs HB hb; clear hb ho3))
 go_loopg [3, 4] k (fun kq v3 v4 w' => ∃ (x3_1 : List Int) (x4_1 : Int), v4 = .int .i64 x4_1 ∧ Aside0 (spec_l4Plain.l0 kq l0 x3_1 x4_1 = some r) ∧ Aside0 (kq ≤ k) ∧ Aside0 (Kd.R (Kd.int .i64) 3 w' w.heap.size (fun _ => True) v3 x3_1) ∧ Aside0 (Below w.heap.size w w'))
 case atStart => exact ⟨(y472), (0), tr, H', ⟨Nat.le_refl _⟩, ⟨tR HO474.out⟩, ⟨zb⟩⟩
 case round =>
  clear H'
  obtain ⟨x3_1, x4_1, rfl, HA, HK1, HO_3, HB⟩ := hrel
  cases gk with
  | zero => exact absurd HA.out (by simp [spec_l4Plain.l0])
  | succ k1 =>
   have H := HA.out
   clear HA
   simp only [spec_l4Plain.l0] at H
   by_cases c4 : x4_1 < (l0.length : Int)
   ·rw [if_pos c4] at H
    have c4b0 : decide (x4_1 < (l0.length : Int)) = true := decide_eq_true c4
    clear c4
    obtain ⟨ji5, hji5⟩ : ∃ j_ : Int, (mn (wrap64 (x4_1 + 64)) (l0.length : Int)) = j_ := ⟨_, rfl⟩
    replace H : (if x3_1.length < 17592186044416 then ((some (x3_1 ++ [wrap64 ((wrap64 ((ji5) - x4_1)) - 1)] : List Int)).bind fun y475 => (if 0 ≤ x4_1 then (if x4_1 ≤ (ji5) then (if (ji5) ≤ (l0.length : Int) then (if y475.length + ((l0.take ((ji5) : Int).toNat).drop (x4_1 : Int).toNat).length < 17592186044416 then (spec_l4Plain.l0 k1 l0 (y475 ++ ((l0.take ((ji5) : Int).toNat).drop (x4_1 : Int).toNat)) (wrap64 (x4_1 + 64))) else (none)) else (none)) else (none)) else (none))) else (none)) = some r := by first | (rw [hji5] at H; exact H) | (simp only [hji5] at H ⊢; exact H)
    have hji5_ : (if (l0.length : Int) < (wrap64 (x4_1 + 64)) then (l0.length : Int) else (wrap64 (x4_1 + 64))) = ji5 := hji5
    by_cases c6 : x3_1.length < 17592186044416
    ·rw [if_pos c6] at H
     have LMc6 := Aside0.mk c6
     clear c6
     obtain ⟨y475, hy475⟩ : ∃ y_ : List Int, y_ = (x3_1 ++ [wrap64 ((wrap64 ((ji5) - x4_1)) - 1)]) := ⟨_, rfl⟩
     replace H : (if 0 ≤ x4_1 then (if x4_1 ≤ (ji5) then (if (ji5) ≤ (l0.length : Int) then (if y475.length + ((l0.take ((ji5) : Int).toNat).drop (x4_1 : Int).toNat).length < 17592186044416 then (spec_l4Plain.l0 k1 l0 (y475 ++ ((l0.take ((ji5) : Int).toNat).drop (x4_1 : Int).toNat)) (wrap64 (x4_1 + 64))) else (none)) else (none)) else (none)) else (none)) = some r := by first | (rw [hy475]; with_reducible exact H) | (have H2_ := (Option.bind_some _ _).symm.trans H; rw [hy475]; with_reducible exact H2_) | (have H2_ := (Option.bind_some _ _).symm.trans H; with_reducible exact H2_) | with_reducible exact H | (rw [hy475]; exact H) | exact H
     have Ny475 := Aside0.mk hy475
     clear hy475
     by_cases c7 : 0 ≤ x4_1
     ·rw [if_pos c7] at H
      have c7b0 := eq_true c7
      have c7b1 : decide (0 ≤ x4_1) = true := decide_eq_true c7
      clear c7
      by_cases c8 : x4_1 ≤ (ji5)
      ·rw [if_pos c8] at H
       have c8b0 := eq_true c8
       have c8b1 : decide (x4_1 ≤ (ji5)) = true := decide_eq_true c8
       clear c8
       by_cases c9 : (ji5) ≤ (l0.length : Int)
       ·rw [if_pos c9] at H
        have c9b0 := eq_true c9
        have c9b1 : decide ((ji5) ≤ (l0.length : Int)) = true := decide_eq_true c9
        clear c9
        by_cases c10 : y475.length + ((l0.take ((ji5) : Int).toNat).drop (x4_1 : Int).toNat).length < 17592186044416
        ·rw [if_pos c10] at H
         have LMc10 := Aside0.mk c10
         clear c10
         obtain ⟨y479, hy479⟩ : ∃ y_ : List Int, y_ = (y475 ++ ((l0.take ((ji5) : Int).toNat).drop (x4_1 : Int).toNat)) := ⟨_, rfl⟩
         replace H : (spec_l4Plain.l0 k1 l0 y479 (wrap64 (x4_1 + 64))) = some r := by first | (rw [hy479]; with_reducible exact H) | (have H2_ := (Option.bind_some _ _).symm.trans H; rw [hy479]; with_reducible exact H2_) | (have H2_ := (Option.bind_some _ _).symm.trans H; with_reducible exact H2_) | with_reducible exact H | (rw [hy479]; exact H) | exact H
         have Ny479 := Aside0.mk hy479
         clear hy479
         have H' := Aside0.mk H
         clear H
         try go_wp2
         replace HO_3 := Aside0.mk (Kd.R_drew HO_3.out)
         replace HB := Aside0.mk (below_drew1 HB.out)
         obtain ⟨i012, hi012, _, hsz12, _⟩ := info_parts info3
         obtain ⟨A12, hcut12, hA12, hC12⟩ := print_mid_of (P := Try.prog) (Value.int .i64) 0 26 3 .i64 .i64 Try.underlying26 hi012 hsz12 A0 c0 l0 x4_1 (ji5) (td) (by first | omega | exact td) (td) HC0.out
         have HR478 := Aside0.mk (Kd.C_of_reads (h1 := fun _ => rfl) (hA12 _ (Kd.reads_of_C HR0.out)))
         have HC478 := Aside0.mk hC12
         clear hA12 hC12 hi012 hsz12
         refine start_ (n := 13) (S := fun w' => True) (ds := []) #[false, false, false, false, false, false, false, false, false, false, false, false, false] (by kernel_rfl) rfl rfl trivial (fun hHeld => ?_); refine with_tabW spec_l4Plain.tab6 spec_l4Plain.bits6 (fun HT_ HW_ => ?_)
         generalize wr.drew = w11 at HO_3 HB HR478 hHeld ⊢
         refine tpu 0 (some 18) #[true, false, false, false, false, false, false, false, false, false, false, false, false] ?_
         refine tpu 1 (some 19) #[true, true, false, false, false, false, false, false, false, false, false, false, false] ?_
         refine tpu 2 (some 20) #[true, true, true, false, false, false, false, false, false, false, false, false, false] ?_
         refine tpu 3 (some 21) #[true, true, true, true, false, false, false, false, false, false, false, false, false] ?_
         refine tpu 4 (some 22) #[true, true, true, true, true, false, false, false, false, false, false, false, false] ?_
         refine tpu 7 (some 25) #[true, true, true, true, true, false, false, true, false, false, false, false, false] ?_
         refine tpu 8 (some 26) #[true, true, true, true, true, false, false, true, true, false, false, false, false] ?_
         refine tpu 9 (some 27) #[true, true, true, true, true, false, false, true, true, true, false, false, false] ?_
         refine tpu 10 (some 28) #[true, true, true, true, true, false, false, true, true, true, true, false, false] ?_
         refine one_ (i := 5) (N := some 23) #[true, true, true, true, true, true, false, true, true, true, true, false, false] rfl rfl (one_of HT_.out (by kernel_rfl)) (by decide) (fun K hK => ?_)
         refine value_ (w1 := ?_) (v := ?_) (by rfl) rfl ?_ ?_
         rotate_left 2
         ·go_simp
          constructor
          ·rfl
          ·rfl
         refine hK.out _ _ trivial (fun hHeld => ?_)
         clear hK K
         refine tnm (some 23) ?_
         refine one_ (i := 6) (N := some 24) #[true, true, true, true, true, true, true, true, true, true, true, false, false] rfl rfl (one_of HT_.out (by kernel_rfl)) (by decide) (fun K hK => ?_)
         refine Kd.R_append_step (Kd.int .i64) (w0 := w) w.heap.size (by rfl) (.tmp 18) (.tmp 23) 26 3 (.int .i64 0) 8 rfl Try.underlying26 info3 rfl (by decide) (by omega) u3 x3_1 (wrap64 ((wrap64 ((ji5) - x4_1)) - 1)) [.int .i64 (wrap64 ((wrap64 ((ji5) - x4_1)) - 1))] (fun _ => True) (fun _ => False) rfl rfl ?aP (fun _ hk => hk.elim) ?aF ?aO ?aB ?aS ?aL ?_
         (case aP => exact rfl)
         (case aB => exact zb)
         (case aF => exact (fun _ _ => trivial))
         (case aO => exact (tR HO_3.out))
         (case aS => exact (below_size zb))
         (case aL => have := LMc6.out; omega)
         intro v476 w13 ho hb hg hat
         rw [← Ny475.out] at ho
         replace HB := Aside0.mk (hb)
         have HO477 := Aside0.mk (ho)
         clear HO_3
         clear ho hb hg hat
         refine hK.out _ _ trivial (fun hHeld => ?_)
         clear hK K
         refine tnm (some 24) ?_
         refine one_ (i := 11) (N := some 29) #[true, true, true, true, true, true, true, true, true, true, true, true, false] rfl rfl (one_of HT_.out (by kernel_rfl)) (by decide) (fun K hK => ?_)
         refine Kd.R_append_rows_step (Kd.int .i64) (w0 := w) w.heap.size (by rfl) (.tmp 24) (.tmp 28) 26 3 (.int .i64 0) 8 rfl Try.underlying26 info3 rfl (by decide) (by omega) v476 y475 ((l0.take ((ji5) : Int).toNat).drop (x4_1 : Int).toNat) _ _ _ (fun _ => True) (fun _ => False) rfl rfl ?aO ?aR (fun _ _ h => h) (fun _ h => h.elim) ?aF ?aB ?aS ?aL ?_
         (case aR => first | (rw [← show ((l0.take ((ji5) : Int).toNat).drop (x4_1 : Int).toNat).length = ((ji5).toNat - x4_1.toNat) from (by rw [List.length_drop, List.length_take]; have h_ : ((ji5) : Int) ≤ (l0.length : Int) := td; omega)]; exact tC (Kd.C_below HR478.out HB.out)) | (exact tC (Kd.C_below HR478.out HB.out)))
         (case aB => exact zb)
         (case aF => exact (fun _ _ => trivial))
         (case aO => exact (tR HO477.out))
         (case aS => exact (below_size zb))
         (case aL => have := LMc10.out; have hlx_ := (show ((l0.take ((ji5) : Int).toNat).drop (x4_1 : Int).toNat).length = ((ji5).toNat - x4_1.toNat) from (by rw [List.length_drop, List.length_take]; have h_ : ((ji5) : Int) ≤ (l0.length : Int) := td; omega)); omega)
         intro v480 w14 ho hb hg hat
         rw [← Ny479.out] at ho
         replace HB := Aside0.mk (hb)
         have HO481 := Aside0.mk (ho)
         clear HO477
         clear ho hb hg hat
         refine hK.out _ _ trivial (fun hHeld => ?_)
         clear hK K
         refine tnm (some 29) ?_
         refine tpu 12 (some 3) #[true, true, true, true, true, true, true, true, true, true, true, true, true] ?_
         refine done_ (done_of HT_.out (by kernel_rfl)) ?_
         try go_wp2
         go_roundg k1
         case measure => have := HK1.out; omega
         case rel => exact ⟨(y479), (wrap64 (x4_1 + 64)), tr, H', ⟨by have := HK1.out; omega⟩, ⟨tR HO481.out⟩, ⟨zb⟩⟩
        ·rw [if_neg c10] at H
         exact absurd H (by simp)
       ·rw [if_neg c9] at H
        exact absurd H (by simp)
      ·rw [if_neg c8] at H
       exact absurd H (by simp)
     ·rw [if_neg c7] at H
      exact absurd H (by simp)
    ·rw [if_neg c6] at H
     exact absurd H (by simp)
   ·rw [if_neg c4] at H
    have c4b0 : decide (x4_1 < (l0.length : Int)) = false := decide_eq_false c4
    clear c4
    obtain rfl := Option.some.inj H
    go_wp2
    go_ret
    exact ⟨_, by first | rfl | (simp [errW_none, errW_some] <;> rfl) | (simp [*, errW_none, errW_some] <;> rfl), tR HO_3.out, zb⟩

def spec_l4Pack.l0 : Nat → List Int → List Int → List Int → Int → Option (List Int)
 | 0, _, _, _, _ => none
 | k + 1, x0, x3, x4, x5 => if x5 < (x0.length : Int) then ((spec_l4Best.f k x0 x5).bind fun bt494 => (if bt494.1 < 3 then (if 0 ≤ x5 then (if x4.length < 17592186044416 then (spec_l4Pack.l0 k x0 x3 (x4 ++ [rd x0 x5]) (wrap64 (x5 + 1))) else (none)) else (none)) else ((spec_l4Plain.f k x4).bind fun t500 => (if x3.length + t500.length < 17592186044416 then ((some (x3 ++ t500 : List Int)).bind fun y503 => ((some (([wrap64 ((wrap64 (64 + bt494.1)) - 3), bt494.2] : List Int) : List Int)).bind fun y506 => (if y503.length + y506.length < 17592186044416 then (spec_l4Pack.l0 k x0 (y503 ++ y506) (([] : List Int)) (wrap64 (x5 + bt494.1))) else (none)))) else (none))))) else ((spec_l4Plain.f k x4).bind fun t488 => (if x3.length + t488.length < 17592186044416 then (some (x3 ++ t488)) else (none)))
def spec_l4Pack.f (k : Nat) (l0 : List Int) : Option (List Int) := spec_l4Pack.l0 k l0 (([] : List Int)) (([] : List Int)) 0
set_option maxHeartbeats 8000000 in
set_option maxRecDepth 100000 in
theorem spec_l4Pack.calls (k : Nat) (A0 : Option Addr) (c0 : Nat) (l0 : List Int) (r : List Int) (w : World) (hr0 : Kd.C (Kd.int .i64) w A0 l0.length l0) (hc0 : l0.length ≤ c0) (h : spec_l4Pack.f k l0 = some r) :
  Calls Try.prog 55 #[.slice A0 l0.length c0] w fun e w' => ∃ v0_ : Value, e = .returned (v0_) ∧ Kd.R (Kd.int .i64) 3 w' w.heap.size (fun _ => True) v0_ r ∧ Below w.heap.size w w' := by
 have HR0 := Aside0.mk hr0
 have HC0 := Aside0.mk hc0
 clear hr0 hc0
 have HB := Aside0.mk (Below.refl w.heap.size w)
 have H : (spec_l4Pack.l0 k l0 (([] : List Int)) (([] : List Int)) 0) = some r := h
 clear h
 obtain ⟨y482, hy482⟩ : ∃ y_ : List Int, y_ = (([] : List Int)) := ⟨_, rfl⟩
 replace H : (spec_l4Pack.l0 k l0 y482 (([] : List Int)) 0) = some r := by first | (rw [hy482]; with_reducible exact H) | (have H2_ := (Option.bind_some _ _).symm.trans H; rw [hy482]; with_reducible exact H2_) | (have H2_ := (Option.bind_some _ _).symm.trans H; with_reducible exact H2_) | with_reducible exact H | (rw [hy482]; exact H) | exact H
 have Ny482 := Aside0.mk hy482
 clear hy482
 obtain ⟨y485, hy485⟩ : ∃ y_ : List Int, y_ = (([] : List Int)) := ⟨_, rfl⟩
 replace H : (spec_l4Pack.l0 k l0 y482 y485 0) = some r := by first | (rw [hy485]; with_reducible exact H) | (have H2_ := (Option.bind_some _ _).symm.trans H; rw [hy485]; with_reducible exact H2_) | (have H2_ := (Option.bind_some _ _).symm.trans H; with_reducible exact H2_) | with_reducible exact H | (rw [hy485]; exact H) | exact H
 have Ny485 := Aside0.mk hy485
 clear hy485
 have H' := Aside0.mk H
 clear H
 go_enter Try.func55, Try.ntmps55
 go_wp2_with (first | ((with_reducible refine gate_dst (N := 8) rfl ?_); refine Kd.R_lit (Kd.int .i64) _ 3 ?hg (N := 8) ?hd (xs := ([] : List Int)) (inner := []) (ok := fun _ => True) (okp := fun _ => True) ?hr ?hp (fun _ hk => hk) trivial (Below.refl _ _) (Nat.le_refl _) (by simp) ?_; (case hd => rfl); (case hg => rfl); (case hr => first | (go_simp; done) | (go_simp; rfl)); (case hp => exact (Reps.none _ _)); intro v483 w2 ho3 hb hg_ hnew_; clear hg_ hnew_; (first | rw [← Ny482.out] at ho3 | (simp only [Int.reduceToNat] at ho3; rw [← Ny482.out] at ho3)); have HO484 := tRl ho3 HB; replace HB := tBs HB hb; clear hb ho3) | ((with_reducible refine gate_dst (N := 9) rfl ?_); refine Kd.R_lit (Kd.int .i64) _ 3 ?hg (N := 9) ?hd (xs := ([] : List Int)) (inner := []) (ok := fun _ => True) (okp := fun _ => True) ?hr ?hp (fun _ hk => hk) trivial (Below.refl _ _) (Nat.le_refl _) (by simp) ?_; (case hd => rfl); (case hg => rfl); (case hr => first | (go_simp; done) | (go_simp; rfl)); (case hp => exact (Reps.none _ _)); intro v486 w4 ho5 hb hg_ hnew_; clear hg_ hnew_; (first | rw [← Ny485.out] at ho5 | (simp only [Int.reduceToNat] at ho5; rw [← Ny485.out] at ho5)); have HO487 := Aside0.mk (Kd.R_lower (Kd.R_new' ho5 (Kd.R_lt (tR HO484.out))) (below_size zb)); replace HO484 := Aside0.mk (Kd.R_elder' (tR HO484.out) (Kd.R_base ho5) hb); replace HB := tBs HB hb; clear hb ho5))
 go_loopg [3, 4, 5] k (fun kq v3 v4 v5 w' => ∃ (x3_1 : List Int) (x4_1 : List Int) (x5_1 : Int), v5 = .int .i64 x5_1 ∧ Aside0 (spec_l4Pack.l0 kq l0 x3_1 x4_1 x5_1 = some r) ∧ Aside0 (kq ≤ k) ∧ Aside0 (Kd.R (Kd.int .i64) 3 w' w.heap.size (fun k_ => some k_ ≠ (v4 : Value).ownBlock) v3 x3_1) ∧ Aside0 (Kd.R (Kd.int .i64) 3 w' w.heap.size (fun k_ => some k_ ≠ (v3 : Value).ownBlock) v4 x4_1) ∧ Aside0 (Below w.heap.size w w'))
 case atStart => exact ⟨(y482), (y485), (0), tr, H', ⟨Nat.le_refl _⟩, ⟨tRm HO484.out⟩, ⟨tRm HO487.out⟩, ⟨zb⟩⟩
 case round =>
  clear H'
  obtain ⟨x3_1, x4_1, x5_1, rfl, HA, HK1, HO_3, HO_4, HB⟩ := hrel
  cases gk with
  | zero => exact absurd HA.out (by simp [spec_l4Pack.l0])
  | succ k1 =>
   have H := HA.out
   clear HA
   simp only [spec_l4Pack.l0] at H
   by_cases c6 : x5_1 < (l0.length : Int)
   ·rw [if_pos c6] at H
    have c6b0 : decide (x5_1 < (l0.length : Int)) = true := decide_eq_true c6
    clear c6
    replace H := tbe H
    obtain ⟨⟨t494, t495⟩, A7, H⟩ := H
    dsimp only at H
    by_cases c8 : t494 < 3
    ·rw [if_pos c8] at H
     have c8b0 : decide (t494 < 3) = true := decide_eq_true c8
     clear c8
     by_cases c9 : 0 ≤ x5_1
     ·rw [if_pos c9] at H
      have c9b0 : decide (0 ≤ x5_1) = true := decide_eq_true c9
      clear c9
      by_cases c10 : x4_1.length < 17592186044416
      ·rw [if_pos c10] at H
       have LMc10 := Aside0.mk c10
       clear c10
       obtain ⟨y497, hy497⟩ : ∃ y_ : List Int, y_ = (x4_1 ++ [rd l0 x5_1]) := ⟨_, rfl⟩
       replace H : (spec_l4Pack.l0 k1 l0 x3_1 y497 (wrap64 (x5_1 + 1))) = some r := by first | (rw [hy497]; with_reducible exact H) | (have H2_ := (Option.bind_some _ _).symm.trans H; rw [hy497]; with_reducible exact H2_) | (have H2_ := (Option.bind_some _ _).symm.trans H; with_reducible exact H2_) | with_reducible exact H | (rw [hy497]; exact H) | exact H
       have Ny497 := Aside0.mk hy497
       clear hy497
       have H' := Aside0.mk H
       clear H
       go_wp2_with (first | ((with_reducible refine gate_callee (f := 73) rfl ?_); refine goesL_ (some 17) rfl rfl Try.func73 (by kernel_rfl) rfl #[.slice A0 l0.length c0, .int .i64 x5_1] rfl tq ?_; (with_reducible refine (spec_l4Best.calls k1 _ _ l0 x5_1 t494 t495 _ ?side1 ?side2 A7.out).mono ?_); (case side1 => exact tC (Kd.C_below HR0.out HB.out)); (case side2 => exact HC0.out); rintro e w11 ⟨rfl, hb⟩; refine ⟨_, rfl, ?_⟩; replace HO_3 := tRb HO_3 hb; replace HO_4 := tRb HO_4 hb; replace HB := tBs HB hb; (try clear hb); (try clear hb2); (try clear hk); (try clear hi); have p496 : 0 ≤ (x5_1 : Int) := td; have q496 : x5_1 < (l0.length : Int) := td; obtain ⟨ad496, e496, hx496_0⟩ := Kd.at_int HR0.out x5_1 p496 q496; cases e496; replace hx496_0 := tcl HB hx496_0; replace p496 := eq_true p496; replace q496 := eq_true q496) | ((with_reducible refine gate_builtin (b := .append) (xs := #[.tmp 22, .tmp 27]) rfl ?_); at_builtin; refine Kd.R_append (Kd.int .i64) (w0 := w) w.heap.size rfl (.tmp 22) (.tmp 27) 26 3 (.int .i64 0) 8 rfl Try.underlying26 info3 rfl (by decide) (by omega) u4 x4_1 (rd l0 x5_1) [.int .i64 (rd l0 x5_1)] (fun k_ => some k_ ≠ (u3 : Value).ownBlock) (fun _ => False) rfl rfl ?aP (fun _ hk => hk.elim) ?aF ?aO ?aB ?aS ?aL ?_; (case aP => exact rfl); (case aB => exact zb); (case aF => exact (fun k_ hk => Kd.fresh' (Kd.R_lt (tR HO_3.out)) k_ hk)); (case aO => exact (tR HO_4.out)); (case aS => exact (below_size zb)); (case aL => have := LMc10.out; omega); intro v498 w12 ho hb hg hat; rw [← Ny497.out] at ho; replace HO_3 := Aside0.mk (Kd.R_after (ok := (fun _ => True)) (tRm HO_3.out) hg hat); replace HB := Aside0.mk (hb); have HO499 := Aside0.mk (ho); clear HO_4; clear ho hb hg hat))
       go_roundg k1
       case measure => have := HK1.out; omega
       case rel => exact ⟨(x3_1), (y497), (wrap64 (x5_1 + 1)), tr, H', ⟨by have := HK1.out; omega⟩, ⟨tRm HO_3.out⟩, ⟨tR HO499.out⟩, ⟨zb⟩⟩
      ·rw [if_neg c10] at H
       exact absurd H (by simp)
     ·rw [if_neg c9] at H
      exact absurd H (by simp)
    ·rw [if_neg c8] at H
     have c8b0 : decide (t494 < 3) = false := decide_eq_false c8
     clear c8
     replace H := tbe H
     obtain ⟨t500, A13, H⟩ := H
     by_cases c14 : x3_1.length + t500.length < 17592186044416
     ·rw [if_pos c14] at H
      have LMc14 := Aside0.mk c14
      clear c14
      obtain ⟨y503, hy503⟩ : ∃ y_ : List Int, y_ = (x3_1 ++ t500) := ⟨_, rfl⟩
      replace H : ((some (([wrap64 ((wrap64 (64 + t494)) - 3), t495] : List Int) : List Int)).bind fun y506 => (if y503.length + y506.length < 17592186044416 then (spec_l4Pack.l0 k1 l0 (y503 ++ y506) (([] : List Int)) (wrap64 (x5_1 + t494))) else (none))) = some r := by first | (rw [hy503]; with_reducible exact H) | (have H2_ := (Option.bind_some _ _).symm.trans H; rw [hy503]; with_reducible exact H2_) | (have H2_ := (Option.bind_some _ _).symm.trans H; with_reducible exact H2_) | with_reducible exact H | (rw [hy503]; exact H) | exact H
      have Ny503 := Aside0.mk hy503
      clear hy503
      obtain ⟨y506, hy506⟩ : ∃ y_ : List Int, y_ = (([wrap64 ((wrap64 (64 + t494)) - 3), t495] : List Int)) := ⟨_, rfl⟩
      replace H : (if y503.length + y506.length < 17592186044416 then (spec_l4Pack.l0 k1 l0 (y503 ++ y506) (([] : List Int)) (wrap64 (x5_1 + t494))) else (none)) = some r := by first | (rw [hy506]; with_reducible exact H) | (have H2_ := (Option.bind_some _ _).symm.trans H; rw [hy506]; with_reducible exact H2_) | (have H2_ := (Option.bind_some _ _).symm.trans H; with_reducible exact H2_) | with_reducible exact H | (rw [hy506]; exact H) | exact H
      have Ny506 := Aside0.mk hy506
      clear hy506
      by_cases c15 : y503.length + y506.length < 17592186044416
      ·rw [if_pos c15] at H
       have LMc15 := Aside0.mk c15
       clear c15
       obtain ⟨y509, hy509⟩ : ∃ y_ : List Int, y_ = (y503 ++ y506) := ⟨_, rfl⟩
       replace H : (spec_l4Pack.l0 k1 l0 y509 (([] : List Int)) (wrap64 (x5_1 + t494))) = some r := by first | (rw [hy509]; with_reducible exact H) | (have H2_ := (Option.bind_some _ _).symm.trans H; rw [hy509]; with_reducible exact H2_) | (have H2_ := (Option.bind_some _ _).symm.trans H; with_reducible exact H2_) | with_reducible exact H | (rw [hy509]; exact H) | exact H
       have Ny509 := Aside0.mk hy509
       clear hy509
       obtain ⟨y512, hy512⟩ : ∃ y_ : List Int, y_ = (([] : List Int)) := ⟨_, rfl⟩
       replace H : (spec_l4Pack.l0 k1 l0 y509 y512 (wrap64 (x5_1 + t494))) = some r := by first | (rw [hy512]; with_reducible exact H) | (have H2_ := (Option.bind_some _ _).symm.trans H; rw [hy512]; with_reducible exact H2_) | (have H2_ := (Option.bind_some _ _).symm.trans H; with_reducible exact H2_) | with_reducible exact H | (rw [hy512]; exact H) | exact H
       have Ny512 := Aside0.mk hy512
       clear hy512
       have H' := Aside0.mk H
       clear H
       go_wp2_with (first | ((with_reducible refine gate_callee (f := 73) rfl ?_); refine goesL_ (some 17) rfl rfl Try.func73 (by kernel_rfl) rfl #[.slice A0 l0.length c0, .int .i64 x5_1] rfl tq ?_; (with_reducible refine (spec_l4Best.calls k1 _ _ l0 x5_1 t494 t495 _ ?side1 ?side2 A7.out).mono ?_); (case side1 => exact tC (Kd.C_below HR0.out HB.out)); (case side2 => exact HC0.out); rintro e w16 ⟨rfl, hb⟩; refine ⟨_, rfl, ?_⟩; replace HO_3 := tRb HO_3 hb; replace HO_4 := tRb HO_4 hb; replace HB := tBs HB hb; (try clear hb); (try clear hb2); (try clear hk); (try clear hi); obtain ⟨Ao17, co17, eo17⟩ := Kd.R_slice HO_4.out; subst eo17) | ((with_reducible refine gate_callee (f := 74) rfl ?_); refine goesL_ (some 33) rfl rfl Try.func74 (by kernel_rfl) rfl #[.slice Ao17 x4_1.length co17] rfl tq ?_; (with_reducible refine (spec_l4Plain.calls k1 _ _ x4_1 t500 _ ?side1 ?side2 A13.out).mono ?_); (case side1 => repeat (first | exact (Kd.R_reads' HO_4.out).2.2 | (with_reducible refine Kd.C_alloc ?_ _) | (with_reducible refine Kd.C_drewN ?_ _) | (with_reducible refine Kd.C_drew ?_))); (case side2 => exact (Kd.R_reads' HO_4.out).2.1); rintro e w18 ⟨v501, rfl, ho0, hb⟩; have u_v501 := tsv Try.prog v501 ho0; refine ⟨_, rfl, ?_⟩; have HO502 := Aside0.mk (Kd.R_lower (Kd.R_new' (Kd.R_new' ho0 (Kd.R_lt (tR HO_3.out))) (Kd.R_lt (tR HO_4.out))) (below_size zb)); replace HO_3 := Aside0.mk (Kd.R_elder' (tR HO_3.out) (Kd.R_base ho0) hb); replace HO_4 := Aside0.mk (Kd.R_elder' (tR HO_4.out) (Kd.R_base ho0) hb); replace HB := tBs HB hb; (try clear hb); (try clear hb2); (try clear hk); (try clear hi); (try clear ho0); obtain ⟨Ao20, co20, eo20⟩ := Kd.R_slice HO502.out; subst eo20) | ((with_reducible refine gate_builtin (b := .append) (xs := #[.tmp 31, .tmp 33]) rfl ?_); at_builtin; refine Kd.R_append_rows (Kd.int .i64) (w0 := w) w.heap.size rfl (.tmp 31) (.tmp 33) 26 3 (.int .i64 0) 8 rfl Try.underlying26 info3 rfl (by decide) (by omega) u3 x3_1 t500 _ _ _ (fun k_ => some k_ ≠ (.slice Ao17 x4_1.length co17 : Value).ownBlock ∧ some k_ ≠ (.slice Ao20 t500.length co20 : Value).ownBlock) (fun _ => False) rfl rfl ?aO ?aR (fun _ _ h => h) (fun _ h => h.elim) ?aF ?aB ?aS ?aL ?_; (case aR => repeat (first | exact (Kd.R_reads' HO502.out).2.2 | (with_reducible refine Kd.C_alloc ?_ _) | (with_reducible refine Kd.C_drewN ?_ _) | (with_reducible refine Kd.C_drew ?_))); (case aB => exact zb); (case aF => exact (fun k_ hk => ⟨Kd.fresh' (Kd.R_lt (tR HO_4.out)) k_ hk, Kd.fresh' (Kd.R_lt (tR HO502.out)) k_ hk⟩)); (case aO => exact (tR HO_3.out)); (case aS => exact (below_size zb)); (case aL => have := LMc14.out; omega); intro v504 w19 ho hb hg hat; rw [← Ny503.out] at ho; replace HO_4 := Aside0.mk (Kd.R_after (ok := (fun k_ => some k_ ≠ (.slice Ao20 t500.length co20 : Value).ownBlock)) (tRm HO_4.out) hg hat); replace HO502 := Aside0.mk (Kd.R_after (ok := (fun k_ => some k_ ≠ (.slice Ao17 x4_1.length co17 : Value).ownBlock)) (tRm HO502.out) hg hat); replace HB := Aside0.mk (hb); have HO505 := Aside0.mk (ho); clear HO_3; clear ho hb hg hat) | ((with_reducible refine gate_dst (N := 39) rfl ?_); refine Kd.R_lit (Kd.int .i64) _ 3 ?hg (N := 39) ?hd (xs := ([wrap64 ((wrap64 (64 + t494)) - 3), t495] : List Int)) (inner := [.int .i64 (wrap64 ((wrap64 (64 + t494)) - 3)), .int .i64 t495]) (ok := fun _ => True) (okp := fun _ => True) ?hr ?hp (fun _ hk => hk) trivial (Below.refl _ _) (Nat.le_refl _) (by simp) ?_; (case hd => rfl); (case hg => rfl); (case hr => first | (go_simp; done) | (go_simp; rfl)); (case hp => exact (Reps.one (show Kd.M (Kd.int .i64) _ _ _ (wrap64 ((wrap64 (64 + t494)) - 3)) [.int .i64 (wrap64 ((wrap64 (64 + t494)) - 3))] from rfl) (Reps.one (show Kd.M (Kd.int .i64) _ _ _ t495 [.int .i64 t495] from rfl) (Reps.none _ _)))); intro v507 w21 ho22 hb hg_ hnew_; clear hg_ hnew_; (first | rw [← Ny506.out] at ho22 | (simp only [Int.reduceToNat] at ho22; rw [← Ny506.out] at ho22)); have HO508 := Aside0.mk (Kd.R_lower (Kd.R_new' (Kd.R_new' (Kd.R_new' ho22 (Kd.R_lt (tR HO_4.out))) (Kd.R_lt (tR HO502.out))) (Kd.R_lt (tR HO505.out))) (below_size zb)); replace HO_4 := Aside0.mk (Kd.R_elder' (tR HO_4.out) (Kd.R_base ho22) hb); replace HO502 := Aside0.mk (Kd.R_elder' (tR HO502.out) (Kd.R_base ho22) hb); replace HO505 := Aside0.mk (Kd.R_elder' (tR HO505.out) (Kd.R_base ho22) hb); replace HB := tBs HB hb; clear hb ho22; obtain ⟨Ao24, co24, eo24⟩ := Kd.R_slice HO508.out; subst eo24) | ((with_reducible refine gate_builtin (b := .append) (xs := #[.tmp 34, .tmp 39]) rfl ?_); at_builtin; refine Kd.R_append_rows (Kd.int .i64) (w0 := w) w.heap.size rfl (.tmp 34) (.tmp 39) 26 3 (.int .i64 0) 8 rfl Try.underlying26 info3 rfl (by decide) (by omega) v504 y503 y506 _ _ _ (fun k_ => some k_ ≠ (.slice Ao17 x4_1.length co17 : Value).ownBlock ∧ some k_ ≠ (.slice Ao20 t500.length co20 : Value).ownBlock ∧ some k_ ≠ (.slice Ao24 y506.length co24 : Value).ownBlock) (fun _ => False) rfl rfl ?aO ?aR (fun _ _ h => h) (fun _ h => h.elim) ?aF ?aB ?aS ?aL ?_; (case aR => repeat (first | exact (Kd.R_reads' HO508.out).2.2 | (with_reducible refine Kd.C_alloc ?_ _) | (with_reducible refine Kd.C_drewN ?_ _) | (with_reducible refine Kd.C_drew ?_))); (case aB => exact zb); (case aF => exact (fun k_ hk => ⟨Kd.fresh' (Kd.R_lt (tR HO_4.out)) k_ hk, Kd.fresh' (Kd.R_lt (tR HO502.out)) k_ hk, Kd.fresh' (Kd.R_lt (tR HO508.out)) k_ hk⟩)); (case aO => exact (tRm HO505.out)); (case aS => exact (below_size zb)); (case aL => have := LMc15.out; omega); intro v510 w23 ho hb hg hat; rw [← Ny509.out] at ho; replace HO_4 := Aside0.mk (Kd.R_after (ok := (fun k_ => some k_ ≠ (.slice Ao20 t500.length co20 : Value).ownBlock ∧ some k_ ≠ (.slice Ao24 y506.length co24 : Value).ownBlock)) (tRm HO_4.out) hg hat); replace HO502 := Aside0.mk (Kd.R_after (ok := (fun k_ => some k_ ≠ (.slice Ao17 x4_1.length co17 : Value).ownBlock ∧ some k_ ≠ (.slice Ao24 y506.length co24 : Value).ownBlock)) (tRm HO502.out) hg hat); replace HO508 := Aside0.mk (Kd.R_after (ok := (fun k_ => some k_ ≠ (.slice Ao17 x4_1.length co17 : Value).ownBlock ∧ some k_ ≠ (.slice Ao20 t500.length co20 : Value).ownBlock)) (tRm HO508.out) hg hat); replace HB := Aside0.mk (hb); have HO511 := Aside0.mk (ho); clear HO505; clear ho hb hg hat) | ((with_reducible refine gate_dst (N := 41) rfl ?_); refine Kd.R_lit (Kd.int .i64) _ 3 ?hg (N := 41) ?hd (xs := ([] : List Int)) (inner := []) (ok := fun _ => True) (okp := fun _ => True) ?hr ?hp (fun _ hk => hk) trivial (Below.refl _ _) (Nat.le_refl _) (by simp) ?_; (case hd => rfl); (case hg => rfl); (case hr => first | (go_simp; done) | (go_simp; rfl)); (case hp => exact (Reps.none _ _)); intro v513 w25 ho26 hb hg_ hnew_; clear hg_ hnew_; (first | rw [← Ny512.out] at ho26 | (simp only [Int.reduceToNat] at ho26; rw [← Ny512.out] at ho26)); have HO514 := Aside0.mk (Kd.R_lower (Kd.R_new' (Kd.R_new' (Kd.R_new' (Kd.R_new' ho26 (Kd.R_lt (tR HO_4.out))) (Kd.R_lt (tR HO502.out))) (Kd.R_lt (tR HO508.out))) (Kd.R_lt (tR HO511.out))) (below_size zb)); replace HO_4 := Aside0.mk (Kd.R_elder' (tR HO_4.out) (Kd.R_base ho26) hb); replace HO502 := Aside0.mk (Kd.R_elder' (tR HO502.out) (Kd.R_base ho26) hb); replace HO508 := Aside0.mk (Kd.R_elder' (tR HO508.out) (Kd.R_base ho26) hb); replace HO511 := Aside0.mk (Kd.R_elder' (tR HO511.out) (Kd.R_base ho26) hb); replace HB := tBs HB hb; clear hb ho26))
       go_roundg k1
       case measure => have := HK1.out; omega
       case rel => exact ⟨(y509), (y512), (wrap64 (x5_1 + t494)), tr, H', ⟨by have := HK1.out; omega⟩, ⟨tRm HO511.out⟩, ⟨tRm HO514.out⟩, ⟨zb⟩⟩
      ·rw [if_neg c15] at H
       exact absurd H (by simp)
     ·rw [if_neg c14] at H
      exact absurd H (by simp)
   ·rw [if_neg c6] at H
    have c6b0 : decide (x5_1 < (l0.length : Int)) = false := decide_eq_false c6
    clear c6
    replace H := tbe H
    obtain ⟨t488, A27, H⟩ := H
    by_cases c28 : x3_1.length + t488.length < 17592186044416
    ·rw [if_pos c28] at H
     have LMc28 := Aside0.mk c28
     clear c28
     obtain ⟨y491, hy491⟩ : ∃ y_ : List Int, y_ = (x3_1 ++ t488) := ⟨_, rfl⟩
     replace H : (some y491) = some r := by first | (rw [hy491]; with_reducible exact H) | (have H2_ := (Option.bind_some _ _).symm.trans H; rw [hy491]; with_reducible exact H2_) | (have H2_ := (Option.bind_some _ _).symm.trans H; with_reducible exact H2_) | with_reducible exact H | (rw [hy491]; exact H) | exact H
     have Ny491 := Aside0.mk hy491
     clear hy491
     obtain rfl := Option.some.inj H
     obtain ⟨Ao29, co29, eo29⟩ := Kd.R_slice HO_4.out
     subst eo29
     go_wp2_with (first | ((with_reducible refine gate_callee (f := 74) rfl ?_); refine goesL_ (some 47) rfl rfl Try.func74 (by kernel_rfl) rfl #[.slice Ao29 x4_1.length co29] rfl tq ?_; (with_reducible refine (spec_l4Plain.calls k1 _ _ x4_1 t488 _ ?side1 ?side2 A27.out).mono ?_); (case side1 => repeat (first | exact (Kd.R_reads' HO_4.out).2.2 | (with_reducible refine Kd.C_alloc ?_ _) | (with_reducible refine Kd.C_drewN ?_ _) | (with_reducible refine Kd.C_drew ?_))); (case side2 => exact (Kd.R_reads' HO_4.out).2.1); rintro e w30 ⟨v489, rfl, ho0, hb⟩; have u_v489 := tsv Try.prog v489 ho0; refine ⟨_, rfl, ?_⟩; have HO490 := Aside0.mk (Kd.R_lower (Kd.R_new' (Kd.R_new' ho0 (Kd.R_lt (tR HO_3.out))) (Kd.R_lt (tR HO_4.out))) (below_size zb)); replace HO_3 := Aside0.mk (Kd.R_elder' (tR HO_3.out) (Kd.R_base ho0) hb); replace HO_4 := Aside0.mk (Kd.R_elder' (tR HO_4.out) (Kd.R_base ho0) hb); replace HB := tBs HB hb; (try clear hb); (try clear hb2); (try clear hk); (try clear hi); (try clear ho0); obtain ⟨Ao32, co32, eo32⟩ := Kd.R_slice HO490.out; subst eo32) | ((with_reducible refine gate_builtin (b := .append) (xs := #[.tmp 45, .tmp 47]) rfl ?_); at_builtin; refine Kd.R_append_rows (Kd.int .i64) (w0 := w) w.heap.size rfl (.tmp 45) (.tmp 47) 26 3 (.int .i64 0) 8 rfl Try.underlying26 info3 rfl (by decide) (by omega) u3 x3_1 t488 _ _ _ (fun k_ => some k_ ≠ (.slice Ao29 x4_1.length co29 : Value).ownBlock ∧ some k_ ≠ (.slice Ao32 t488.length co32 : Value).ownBlock) (fun _ => False) rfl rfl ?aO ?aR (fun _ _ h => h) (fun _ h => h.elim) ?aF ?aB ?aS ?aL ?_; (case aR => repeat (first | exact (Kd.R_reads' HO490.out).2.2 | (with_reducible refine Kd.C_alloc ?_ _) | (with_reducible refine Kd.C_drewN ?_ _) | (with_reducible refine Kd.C_drew ?_))); (case aB => exact zb); (case aF => exact (fun k_ hk => ⟨Kd.fresh' (Kd.R_lt (tR HO_4.out)) k_ hk, Kd.fresh' (Kd.R_lt (tR HO490.out)) k_ hk⟩)); (case aO => exact (tR HO_3.out)); (case aS => exact (below_size zb)); (case aL => have := LMc28.out; omega); intro v492 w31 ho hb hg hat; rw [← Ny491.out] at ho; replace HO_4 := Aside0.mk (Kd.R_after (ok := (fun k_ => some k_ ≠ (.slice Ao32 t488.length co32 : Value).ownBlock)) (tRm HO_4.out) hg hat); replace HO490 := Aside0.mk (Kd.R_after (ok := (fun k_ => some k_ ≠ (.slice Ao29 x4_1.length co29 : Value).ownBlock)) (tRm HO490.out) hg hat); replace HB := Aside0.mk (hb); have HO493 := Aside0.mk (ho); clear HO_3; clear ho hb hg hat))
     go_ret
     exact ⟨_, by first | rfl | (simp [errW_none, errW_some] <;> rfl) | (simp [*, errW_none, errW_some] <;> rfl), tRm HO493.out, zb⟩
    ·rw [if_neg c28] at H
     exact absurd H (by simp)

def spec_l2Int.l0 : Nat → Int → List Int → Int → Option (List Int)
 | 0, _, _, _ => none
 | k + 1, x0, x5, x6 => if x6 ≥ 0 then (if 0 ≤ x6 then (if x6 < (x5.length : Int) then (spec_l2Int.l0 k (wrap64 (Int.tdiv x0 256)) (x5.set (x6 : Int).toNat (Int.tmod x0 256)) (wrap64 (x6 - 1))) else (none)) else (none)) else (some x5)
def spec_l2Int.f (k : Nat) (a0 : Int) (a1 : Int) : Option (List Int) := if 0 ≤ a1 then (if (a1 : Int).toNat ≤ 35184372088832 then (spec_l2Int.l0 k a0 (List.replicate (a1 : Int).toNat 0) (wrap64 (a1 - 1))) else (none)) else (none)
set_option maxHeartbeats 8000000 in
set_option maxRecDepth 100000 in
theorem spec_l2Int.calls (k : Nat) (a0 : Int) (a1 : Int) (r : List Int) (w : World) (h : spec_l2Int.f k a0 a1 = some r) :
  Calls Try.prog 56 #[.int .i64 a0, .int .i64 a1] w fun e w' => ∃ v0_ : Value, e = .returned (v0_) ∧ Kd.R (Kd.int .i64) 3 w' w.heap.size (fun _ => True) v0_ r ∧ Below w.heap.size w w' := by
 have HB := Aside0.mk (Below.refl w.heap.size w)
 have H : (if 0 ≤ a1 then (if (a1 : Int).toNat ≤ 35184372088832 then (spec_l2Int.l0 k a0 (List.replicate (a1 : Int).toNat 0) (wrap64 (a1 - 1))) else (none)) else (none)) = some r := h
 clear h
 by_cases c3 : 0 ≤ a1
 ·rw [if_pos c3] at H
  have c3b0 := eq_true c3
  have c3b1 : decide (0 ≤ a1) = true := decide_eq_true c3
  clear c3
  by_cases c4 : (a1 : Int).toNat ≤ 35184372088832
  ·rw [if_pos c4] at H
   have c4b0 := eq_true c4
   have c4b1 : decide ((a1 : Int).toNat ≤ 35184372088832) = true := decide_eq_true c4
   clear c4
   obtain ⟨y515, hy515⟩ : ∃ y_ : List Int, y_ = (List.replicate (a1 : Int).toNat 0) := ⟨_, rfl⟩
   replace H : (spec_l2Int.l0 k a0 y515 (wrap64 (a1 - 1))) = some r := by first | (rw [hy515]; with_reducible exact H) | (have H2_ := (Option.bind_some _ _).symm.trans H; rw [hy515]; with_reducible exact H2_) | (have H2_ := (Option.bind_some _ _).symm.trans H; with_reducible exact H2_) | with_reducible exact H | (rw [hy515]; exact H) | exact H
   have Ny515 := Aside0.mk hy515
   clear hy515
   have H' := Aside0.mk H
   clear H
   go_enter Try.func56, Try.ntmps56
   go_wp2_with (first | ((with_reducible refine gate_dst (N := 8) rfl ?_); refine Kd.R_make (Kd.int .i64) _ 3 rfl (N := 8) rfl 26 _ _ rfl a1 rfl rfl Try.underlying26 (.int .i64 0) 8 info3 rfl (by decide) (by omega) 0 (ok := fun _ => True) (okp := fun _ => True) rfl (fun _ hk => hk) trivial (td) (Nat.le_trans (Nat.mul_le_mul_right _ (td : a1.toNat ≤ 35184372088832)) (by omega)) (Below.refl _ _) (Nat.le_refl _) ?_; intro v516 w5 ho6 hb hg_ hnew_; clear hg_ hnew_; (first | rw [← Ny515.out] at ho6 | (simp only [Int.reduceToNat] at ho6; rw [← Ny515.out] at ho6)); have HO517 := tRl ho6 HB; replace HB := tBs HB hb; clear hb ho6))
   go_loopg [0, 6] k (fun kq v0 v6 w' => ∃ (x0_1 : Int) (x5_1 : List Int) (x6_1 : Int), v0 = .int .i64 x0_1 ∧ v6 = .int .i64 x6_1 ∧ Aside0 (spec_l2Int.l0 kq x0_1 x5_1 x6_1 = some r) ∧ Aside0 (kq ≤ k) ∧ Aside0 (Kd.R (Kd.int .i64) 3 w' w.heap.size (fun _ => True) v516 x5_1) ∧ Aside0 (Below w.heap.size w w'))
   case atStart => exact ⟨(a0), (y515), (wrap64 (a1 - 1)), tr, tr, H', ⟨Nat.le_refl _⟩, ⟨tR HO517.out⟩, ⟨zb⟩⟩
   case round =>
    clear H'
    try clear c3; try clear c3b0; try clear c3b1; try clear c4; try clear c4b0; try clear c4b1
    obtain ⟨x0_1, x5_1, x6_1, rfl, rfl, HA, HK1, HO_5, HB⟩ := hrel
    cases gk with
    | zero => exact absurd HA.out (by simp [spec_l2Int.l0])
    | succ k1 =>
     have H := HA.out
     clear HA
     simp only [spec_l2Int.l0] at H
     by_cases c7 : x6_1 ≥ 0
     ·rw [if_pos c7] at H
      have c7b0 : decide (0 ≤ x6_1) = true := decide_eq_true c7
      clear c7
      by_cases c8 : 0 ≤ x6_1
      ·rw [if_pos c8] at H
       have c8b0 : decide (0 ≤ x6_1) = true := decide_eq_true c8
       clear c8
       by_cases c9 : x6_1 < (x5_1.length : Int)
       ·rw [if_pos c9] at H
        have c9b0 : decide (x6_1 < (x5_1.length : Int)) = true := decide_eq_true c9
        clear c9
        obtain ⟨y518, hy518⟩ : ∃ y_ : List Int, y_ = (x5_1.set (x6_1 : Int).toNat (Int.tmod x0_1 256)) := ⟨_, rfl⟩
        replace H : (spec_l2Int.l0 k1 (wrap64 (Int.tdiv x0_1 256)) y518 (wrap64 (x6_1 - 1))) = some r := by first | (rw [hy518]; with_reducible exact H) | (have H2_ := (Option.bind_some _ _).symm.trans H; rw [hy518]; with_reducible exact H2_) | (have H2_ := (Option.bind_some _ _).symm.trans H; with_reducible exact H2_) | with_reducible exact H | (rw [hy518]; exact H) | exact H
        have Ny518 := Aside0.mk hy518
        clear hy518
        have H' := Aside0.mk H
        clear H
        have p10 : 0 ≤ (x6_1 : Int) := td
        have q10 : (x6_1 : Int) < ((x5_1.length : Int) : Int) := td
        obtain ⟨go10, co10, eo10, gb10, gl10, cl10, HG10⟩ := Kd.R_form HO_5.out (by omega)
        (first | cases eo10 | (injection eo10 with ea_ en_ ec_; (first | subst ea_ | (injection ea_ with ea_; subst ea_)); subst ec_; clear en_))
        have GB10 := Aside0.mk gb10
        have GG10 := Aside0.mk HG10
        clear gb10 gl10 HG10
        obtain ⟨hx10_0, hf10_0⟩ := Kd.R_celln 0 HO_5.out (x6_1 : Int) p10 q10
        replace p10 := eq_true p10
        replace q10 := eq_true q10
        have HP11 := Kd.R_putg HO_5.out (x6_1 : Int) (Int.tmod x0_1 256)
        go_wp2_with (first | ((with_reducible refine gate_store (t := 3) (p := 19) rfl ?_); refine store_event (t := 3) (p := 19) (v := ?vo_w12) (w1 := (wr.setCell ⟨go10, (x6_1 : Int).toNat, none⟩ (.int .i64 (Int.tmod x0_1 256)))) ?hg ?ho ?hn ?hr ?_; (case ho => rfl); (case hg => rfl); (case hn => rfl); (case hr => first | (go_simp; done) | (go_simp; rfl)); intro w12 hw; have hg : wr.grownBy w12 (some go10) := (by rw [hw]; exact HP11.2); have hp_ : Kd.R (Kd.int .i64) 3 w12 w.heap.size (fun _ => True) (.slice (some ⟨go10, 0, none⟩) x5_1.length co10) y518 := (by rw [hw, Ny518.out]; exact HP11.1); clear HP11; replace HO_5 := Aside0.mk (hp_); replace HB := Aside0.mk ((by rw [hw]; exact below_set (HB.out) GB10.out : Below w.heap.size w w12)); clear hg hw hp_))
        go_roundg k1
        case measure => have := HK1.out; omega
        case rel => exact ⟨(wrap64 (Int.tdiv x0_1 256)), (y518), (wrap64 (x6_1 - 1)), tr, tr, H', ⟨by have := HK1.out; omega⟩, ⟨tR HO_5.out⟩, ⟨zb⟩⟩
       ·rw [if_neg c9] at H
        exact absurd H (by simp)
      ·rw [if_neg c8] at H
       exact absurd H (by simp)
     ·rw [if_neg c7] at H
      have c7b0 : decide (0 ≤ x6_1) = false := decide_eq_false c7
      clear c7
      obtain rfl := Option.some.inj H
      go_wp2
      go_ret
      exact ⟨_, by first | rfl | (simp [errW_none, errW_some] <;> rfl) | (simp [*, errW_none, errW_some] <;> rfl), tR HO_5.out, zb⟩
  ·rw [if_neg c4] at H
   exact absurd H (by simp)
 ·rw [if_neg c3] at H
  exact absurd H (by simp)

def spec_l2Sum.l0 : Nat → List Int → Int → Int → Option (Int)
 | 0, _, _, _ => none
 | k + 1, x0, x3, x4 => if x4 < (x0.length : Int) then (if 0 ≤ x4 then (spec_l2Sum.l0 k x0 (Int.tmod (wrap64 ((wrap64 (257 * x3)) + (rd x0 x4))) 65521) (wrap64 (x4 + 1))) else (none)) else (some x3)
def spec_l2Sum.f (k : Nat) (l0 : List Int) : Option (Int) := spec_l2Sum.l0 k l0 1 0
set_option maxHeartbeats 8000000 in
set_option maxRecDepth 100000 in
theorem spec_l2Sum.calls (k : Nat) (A0 : Option Addr) (c0 : Nat) (l0 : List Int) (r : Int) (w : World) (hr0 : Kd.C (Kd.int .i64) w A0 l0.length l0) (hc0 : l0.length ≤ c0) (h : spec_l2Sum.f k l0 = some r) :
  Calls Try.prog 57 #[.slice A0 l0.length c0] w fun e w' => e = .returned (.int .i64 r) ∧ Drawn0 w w' := by
 have HR0 := Aside0.mk hr0
 have HC0 := Aside0.mk hc0
 clear hr0 hc0
 have H : (spec_l2Sum.l0 k l0 1 0) = some r := h
 clear h
 have H' := Aside0.mk H
 clear H
 go_enter Try.func57, Try.ntmps57
 go_wp2
 go_loopg [3, 4] k (fun kq v3 v4 w' => ∃ (x3_1 : Int) (x4_1 : Int), v3 = .int .i64 x3_1 ∧ v4 = .int .i64 x4_1 ∧ Aside0 (spec_l2Sum.l0 kq l0 x3_1 x4_1 = some r) ∧ Aside0 (kq ≤ k) ∧ Drawn0 w w')
 case atStart => exact ⟨(1), (0), tr, tr, H', ⟨Nat.le_refl _⟩, by repeat (first | exact Drawn0.refl _ | apply Drawn0.step)⟩
 case round =>
  clear H'
  obtain ⟨x3_1, x4_1, rfl, rfl, HA, HK1, ⟨m1, rfl⟩⟩ := hrel
  cases gk with
  | zero => exact absurd HA.out (by simp [spec_l2Sum.l0])
  | succ k1 =>
   have H := HA.out
   clear HA
   simp only [spec_l2Sum.l0] at H
   by_cases c2 : x4_1 < (l0.length : Int)
   ·rw [if_pos c2] at H
    have c2b0 : decide (x4_1 < (l0.length : Int)) = true := decide_eq_true c2
    clear c2
    by_cases c3 : 0 ≤ x4_1
    ·rw [if_pos c3] at H
     have c3b0 : decide (0 ≤ x4_1) = true := decide_eq_true c3
     clear c3
     have H' := Aside0.mk H
     clear H
     have p519 : 0 ≤ (x4_1 : Int) := td
     have q519 : x4_1 < (l0.length : Int) := td
     obtain ⟨ad519, e519, hx519_0⟩ := Kd.at_int HR0.out x4_1 p519 q519
     cases e519
     replace p519 := eq_true p519
     replace q519 := eq_true q519
     go_wp2
     go_roundg k1
     case measure => have := HK1.out; omega
     case rel => exact ⟨(Int.tmod (wrap64 ((wrap64 (257 * x3_1)) + (rd l0 x4_1))) 65521), (wrap64 (x4_1 + 1)), tr, tr, H', ⟨by have := HK1.out; omega⟩, by repeat (first | exact Drawn0.refl _ | apply Drawn0.step)⟩
    ·rw [if_neg c3] at H
     exact absurd H (by simp)
   ·rw [if_neg c2] at H
    have c2b0 : decide (x4_1 < (l0.length : Int)) = false := decide_eq_false c2
    clear c2
    obtain rfl := Option.some.inj H
    go_wp2
    go_ret
    exact ⟨by first | rfl | (simp; done) | (simp [*]; done), by repeat (first | exact Drawn0.refl _ | apply Drawn0.step)⟩

end Go.Proofs.Ythoioccmnphfgaa.G

namespace Go.Proofs.Ythoioccmnphfgaa.G
open Go.RowKit Go.Proofs.YthoioccmnphfgaaW.PrintWords Go.Proofs.YthoioccmnphfgaaW.PrintLast Go.Proofs.YthoioccmnphfgaaW.PrintMore
attribute [local go_sem] max2_int min2_int max_two min_two max_three min_three max_four min_four   -- for this text's walks alone
set_option linter.unusedVariables false
set_option linter.unusedSimpArgs false

mutual
def spec_l5Bytes.j0 : Nat → List Int → Int → Bool → Bool → Int → Int → Int → List (S63) → Option (List Int)
 | 0, _, _, _, _, _, _, _, _ => none
 | k + 1, x3, x4, x521000, x521001, x521002, x521003, x521004, x521005 => if x521001 = true then (spec_l5Bytes.j1 k x3 (wrap64 (x4 + 2)) x521000 x521001 x521002 x521003 x521004 x521005) else (spec_l5Bytes.j1 k x3 x4 x521000 x521001 x521002 x521003 x521004 x521005)
def spec_l5Bytes.j1 : Nat → List Int → Int → Bool → Bool → Int → Int → Int → List (S63) → Option (List Int)
 | 0, _, _, _, _, _, _, _, _ => none
 | k + 1, x3, x4, x521000, x521001, x521002, x521003, x521004, x521005 => (some (([x4, x521002, x521003] : List Int) : List Int)).bind fun y527 => ((spec_l2Int.f k x521004 2).bind fun t530 => (if y527.length + t530.length < 17592186044416 then ((some (y527 ++ t530 : List Int)).bind fun y533 => (if 0 < (x521005.length : Int) then ((spec_l2Int.f k ((rd_T63 x521005 0).f1) 3).bind fun t537 => (if y533.length + t537.length < 17592186044416 then ((some (y533 ++ t537 : List Int)).bind fun y540 => ((some (([(x521005.length : Int), 0, 0] : List Int) : List Int)).bind fun y543 => (if y540.length + y543.length < 17592186044416 then ((some (y540 ++ y543 : List Int)).bind fun y546 => (if y546.length + x3.length < 17592186044416 then ((some (y546 ++ x3 : List Int)).bind fun y549 => ((spec_l2Int.f k ((rd_T63 x521005 0).f0) 3).bind fun t553 => ((spec_l2Int.f k (y549.length : Int) 2).bind fun t556 => (if t553.length + t556.length < 17592186044416 then ((some (t553 ++ t556 : List Int)).bind fun y559 => ((spec_l2Sum.f k y549).bind fun t562 => ((spec_l2Int.f k t562 2).bind fun t563 => (if y559.length + t563.length < 17592186044416 then ((some (y559 ++ t563 : List Int)).bind fun y566 => (if y566.length + y549.length < 17592186044416 then (some (y566 ++ y549)) else (none))) else (none))))) else (none))))) else (none))) else (none)))) else (none))) else (none))) else (none)))
end
def spec_l5Bytes.f (k : Nat) (a0_0 : Bool) (a0_1 : Bool) (a0_2 : Int) (a0_3 : Int) (a0_4 : Int) (l0_5 : List (S63)) : Option (List Int) := (spec_l5Body.f k a0_0 a0_1 a0_2 a0_3 a0_4 l0_5).bind fun t521 => (if a0_0 = true then ((spec_l4Pack.f k t521).bind fun t524 => (spec_l5Bytes.j0 k t524 (0 + 1) a0_0 a0_1 a0_2 a0_3 a0_4 l0_5)) else (spec_l5Bytes.j0 k t521 0 a0_0 a0_1 a0_2 a0_3 a0_4 l0_5))
def spec_l5Bytes.T8 : Bool × List (List Nat × List Nat) := (true, [([], []), ([], []), ([1], [1]), ([], []), ([3], [3]), ([0, 2, 4], [0, 2, 4]), ([], []), ([6], [6]), ([7], [7]), ([5, 8, 8], [5, 8]), ([9, 9, 0, 1, 2, 3, 4, 5, 6, 7, 8, 9], [9])])
def spec_l5Bytes.B8 : List Nat := [0, 0, 2, 0, 8, 31, 0, 64, 192, 511, 1023]
theorem spec_l5Bytes.tab8 : rtab .any (opsOf Try.f41 8) = spec_l5Bytes.T8 := by kernel_rfl
theorem spec_l5Bytes.bits8 : waitsOk spec_l5Bytes.T8.2 spec_l5Bytes.B8 = true := by kernel_rfl
set_option maxHeartbeats 8000000 in
set_option maxRecDepth 100000 in
theorem spec_l5Bytes.calls (k : Nat) (a0_0 : Bool) (a0_1 : Bool) (a0_2 : Int) (a0_3 : Int) (a0_4 : Int) (A0_5 : Option Addr) (c0_5 : Nat) (l0_5 : List (S63)) (r : List Int) (w : World) (hr0_5 : Kd.C k63 w A0_5 l0_5.length l0_5) (hc0_5 : l0_5.length ≤ c0_5) (h : spec_l5Bytes.f k a0_0 a0_1 a0_2 a0_3 a0_4 l0_5 = some r) :
  Calls Try.prog 41 #[.agg #[.bool a0_0, .bool a0_1, .int .i64 a0_2, .int .i64 a0_3, .int .i64 a0_4, .slice A0_5 l0_5.length c0_5]] w fun e w' => ∃ v0_ : Value, e = .returned (v0_) ∧ Kd.R (Kd.int .i64) 3 w' w.heap.size (fun _ => True) v0_ r ∧ Below w.heap.size w w' := by
 have hu46 := Try.underlying46
 have HR0_5 := Aside0.mk hr0_5
 have HC0_5 := Aside0.mk hc0_5
 clear hr0_5 hc0_5
 have HB := Aside0.mk (Below.refl w.heap.size w)
 have H : ((spec_l5Body.f k a0_0 a0_1 a0_2 a0_3 a0_4 l0_5).bind fun t521 => (if a0_0 = true then ((spec_l4Pack.f k t521).bind fun t524 => (spec_l5Bytes.j0 k t524 (0 + 1) a0_0 a0_1 a0_2 a0_3 a0_4 l0_5)) else (spec_l5Bytes.j0 k t521 0 a0_0 a0_1 a0_2 a0_3 a0_4 l0_5))) = some r := h
 clear h
 replace H := tbe H
 obtain ⟨t521, A2, H⟩ := H
 have HC3 := Aside0.mk H
 clear H
 go_enter Try.func41, Try.ntmps41
 go_upto_if 10 with (first | ((with_reducible refine gate_dst (N := 1) rfl ?_); refine box_event ?hg (N := 1) ?hd (cs := #[.bool a0_0, .bool a0_1, .int .i64 a0_2, .int .i64 a0_3, .int .i64 a0_4, .slice A0_5 l0_5.length c0_5]) (t := 46) ?hr ?_; (case hd => rfl); (case hg => rfl); (case hr => first | (go_simp; done) | (go_simp; rfl)); intro gb520 hg w4 hbox hb; have BK520 := Aside0.mk (hbox); have GW520 := tge HB hg; have GE520 := tge HB hg; replace HB := tBs HB hb; clear hb hbox hg; obtain ⟨hcz5_0, hcz5_1, hcz5_2, hcz5_3, hcz5_4, hcz5_5, hfz5_0, hfz5_1, hfz5_2, hfz5_3, hfz5_4, hfz5_5⟩ := cells6 BK520.out) | ((with_reducible refine gate_callee (f := 54) rfl ?_); refine goesL_ (some 8) rfl rfl Try.func54 (by kernel_rfl) rfl #[.agg #[.bool a0_0, .bool a0_1, .int .i64 a0_2, .int .i64 a0_3, .int .i64 a0_4, .slice A0_5 l0_5.length c0_5]] rfl tq ?_; (with_reducible refine (spec_l5Body.calls k a0_0 a0_1 a0_2 a0_3 a0_4 _ _ l0_5 t521 _ ?side1 ?side2 A2.out).mono ?_); (case side1 => exact tC (Kd.C_below HR0_5.out HB.out)); (case side2 => exact HC0_5.out); rintro e w6 ⟨v522, rfl, ho0, hb⟩; have u_v522 := tsv Try.prog v522 ho0; refine ⟨_, rfl, ?_⟩; have HO523 := tRl ho0 HB; replace BK520 := tBb BK520 hb; replace HB := tBs HB hb; (try clear hb); (try clear hb2); (try clear hk); (try clear hi); (try clear ho0); obtain ⟨hcz7_0, hcz7_1, hcz7_2, hcz7_3, hcz7_4, hcz7_5, hfz7_0, hfz7_1, hfz7_2, hfz7_3, hfz7_4, hfz7_5⟩ := cells6 BK520.out))
 (try simp only [Act.put, List.setIfInBounds_toArray, List.set_cons_zero, List.set_cons_succ])
 go_cut [3, 4] (fun v3 v4 wc => ∃ (kq : Nat) (x3_2 : List Int) (x4_2 : Int), v4 = .int .i64 x4_2 ∧ Aside0 (spec_l5Bytes.j0 kq x3_2 x4_2 a0_0 a0_1 a0_2 a0_3 a0_4 l0_5 = some r) ∧ Aside0 (kq ≤ k) ∧ Aside0 (Kd.R (Kd.int .i64) 3 wc w.heap.size (fun _ => True) v3 x3_2) ∧ Aside0 (wc.heap[gb520]? = some (.cells #[.bool a0_0, .bool a0_1, .int .i64 a0_2, .int .i64 a0_3, .int .i64 a0_4, (.slice A0_5 l0_5.length c0_5)] 46 (0, 0))) ∧ Aside0 (Below w.heap.size w wc))
 case first =>
  have H := HC3.out
  clear HC3
  by_cases c8 : a0_0 = true
  ·subst c8
   rw [if_pos rfl] at H
   replace H := tbe H
   obtain ⟨t524, A9, H⟩ := H
   have H' := Aside0.mk H
   clear H
   obtain ⟨Ao10, co10, eo10⟩ := Kd.R_slice HO523.out
   subst eo10
   go_wp2_with (first | ((with_reducible refine gate_callee (f := 55) rfl ?_); refine goesL_ (some 12) rfl rfl Try.func55 (by kernel_rfl) rfl #[.slice Ao10 t521.length co10] rfl tq ?_; (with_reducible refine (spec_l4Pack.calls k _ _ t521 t524 _ ?side1 ?side2 A9.out).mono ?_); (case side1 => repeat (first | exact (Kd.R_reads' HO523.out).2.2 | (with_reducible refine Kd.C_alloc ?_ _) | (with_reducible refine Kd.C_drewN ?_ _) | (with_reducible refine Kd.C_drew ?_))); (case side2 => exact (Kd.R_reads' HO523.out).2.1); rintro e w11 ⟨v525, rfl, ho0, hb⟩; have u_v525 := tsv Try.prog v525 ho0; refine ⟨_, rfl, ?_⟩; have HO526 := Aside0.mk (Kd.R_lower (Kd.R_new' ho0 (Kd.R_lt (tR HO523.out))) (below_size zb)); replace HO523 := Aside0.mk (Kd.R_elder' (tR HO523.out) (Kd.R_base ho0) hb); replace BK520 := tBb BK520 hb; replace HB := tBs HB hb; (try clear hb); (try clear hb2); (try clear hk); (try clear hi); (try clear ho0)))
   go_meet
   case rel => exact ⟨_, (t524), (0 + 1), tr, H', ⟨by first | omega | exact Nat.le_refl _⟩, ⟨tRm HO526.out⟩, ⟨tH BK520.out⟩, ⟨zb⟩⟩
  ·replace c8 := Bool.eq_false_iff.mpr c8
   subst c8
   rw [if_neg (show ¬ (false = true) by decide)] at H
   have H' := Aside0.mk H
   clear H
   go_wp2
   go_meet
   case rel => exact ⟨_, (t521), (0), tr, H', ⟨by first | omega | exact Nat.le_refl _⟩, ⟨tR HO523.out⟩, ⟨tH BK520.out⟩, ⟨zb⟩⟩
 case rest =>
  clear HC3
  try clear hcz5_0; try clear hcz5_1; try clear hcz5_2; try clear hcz5_3; try clear hcz5_4; try clear hcz5_5; try clear hcz7_0; try clear hcz7_1; try clear hcz7_2; try clear hcz7_3; try clear hcz7_4; try clear hcz7_5; try clear hfz5_0; try clear hfz5_1; try clear hfz5_2; try clear hfz5_3; try clear hfz5_4; try clear hfz5_5; try clear hfz7_0; try clear hfz7_1; try clear hfz7_2; try clear hfz7_3; try clear hfz7_4; try clear hfz7_5
  obtain ⟨kq, x3_2, x4_2, rfl, HA, HJ2, HO_3, BK520, HB⟩ := hcut
  cases kq with
  | zero => exact absurd HA.out (by simp [spec_l5Bytes.j0])
  | succ kj2 =>
   have H := HA.out
   clear HA
   simp only [spec_l5Bytes.j0] at H
   have HC12 := Aside0.mk H
   clear H
   obtain ⟨hcz13_0, hcz13_1, hcz13_2, hcz13_3, hcz13_4, hcz13_5, hfz13_0, hfz13_1, hfz13_2, hfz13_3, hfz13_4, hfz13_5⟩ := cells6 BK520.out
   go_upto_if 16 with (fail)
   go_cut [4] (fun v4 wc => ∃ (kq : Nat) (x4_11 : Int), v4 = .int .i64 x4_11 ∧ Aside0 (spec_l5Bytes.j1 kq x3_2 x4_11 a0_0 a0_1 a0_2 a0_3 a0_4 l0_5 = some r) ∧ Aside0 (kq ≤ kj2) ∧ Aside0 (Kd.R (Kd.int .i64) 3 wc w.heap.size (fun _ => True) u3 x3_2) ∧ Aside0 (wc.heap[gb520]? = some (.cells #[.bool a0_0, .bool a0_1, .int .i64 a0_2, .int .i64 a0_3, .int .i64 a0_4, (.slice A0_5 l0_5.length c0_5)] 46 (0, 0))) ∧ Aside0 (Below w.heap.size w wc))
   case first =>
    have H := HC12.out
    clear HC12
    by_cases c14 : a0_1 = true
    ·subst c14
     rw [if_pos rfl] at H
     have H' := Aside0.mk H
     clear H
     go_wp2
     go_meet
     case rel => exact ⟨_, (wrap64 (x4_2 + 2)), tr, H', ⟨by have := HJ2.out; first | omega | exact Nat.le_refl _⟩, ⟨tR HO_3.out⟩, ⟨tH BK520.out⟩, ⟨zb⟩⟩
    ·replace c14 := Bool.eq_false_iff.mpr c14
     subst c14
     rw [if_neg (show ¬ (false = true) by decide)] at H
     have H' := Aside0.mk H
     clear H
     go_wp2
     go_meet
     case rel => exact ⟨_, (x4_2), tr, H', ⟨by have := HJ2.out; first | omega | exact Nat.le_refl _⟩, ⟨tR HO_3.out⟩, ⟨tH BK520.out⟩, ⟨zb⟩⟩
   case rest =>
    clear HC12
    try clear hcz13_0; try clear hcz13_1; try clear hcz13_2; try clear hcz13_3; try clear hcz13_4; try clear hcz13_5; try clear hcz5_0; try clear hcz5_1; try clear hcz5_2; try clear hcz5_3; try clear hcz5_4; try clear hcz5_5; try clear hcz7_0; try clear hcz7_1; try clear hcz7_2; try clear hcz7_3; try clear hcz7_4; try clear hcz7_5; try clear hfz13_0; try clear hfz13_1; try clear hfz13_2; try clear hfz13_3; try clear hfz13_4; try clear hfz13_5; try clear hfz5_0; try clear hfz5_1; try clear hfz5_2; try clear hfz5_3; try clear hfz5_4; try clear hfz5_5; try clear hfz7_0; try clear hfz7_1; try clear hfz7_2; try clear hfz7_3; try clear hfz7_4; try clear hfz7_5
    obtain ⟨kq, x4_11, rfl, HA, HJ11, HO_3, BK520, HB⟩ := hcut
    cases kq with
    | zero => exact absurd HA.out (by simp [spec_l5Bytes.j1])
    | succ kj11 =>
     have H := HA.out
     clear HA
     simp only [spec_l5Bytes.j1] at H
     obtain ⟨y527, hy527⟩ : ∃ y_ : List Int, y_ = (([x4_11, a0_2, a0_3] : List Int)) := ⟨_, rfl⟩
     replace H : ((spec_l2Int.f kj11 a0_4 2).bind fun t530 => (if y527.length + t530.length < 17592186044416 then ((some (y527 ++ t530 : List Int)).bind fun y533 => (if 0 < (l0_5.length : Int) then ((spec_l2Int.f kj11 ((rd_T63 l0_5 0).f1) 3).bind fun t537 => (if y533.length + t537.length < 17592186044416 then ((some (y533 ++ t537 : List Int)).bind fun y540 => ((some (([(l0_5.length : Int), 0, 0] : List Int) : List Int)).bind fun y543 => (if y540.length + y543.length < 17592186044416 then ((some (y540 ++ y543 : List Int)).bind fun y546 => (if y546.length + x3_2.length < 17592186044416 then ((some (y546 ++ x3_2 : List Int)).bind fun y549 => ((spec_l2Int.f kj11 ((rd_T63 l0_5 0).f0) 3).bind fun t553 => ((spec_l2Int.f kj11 (y549.length : Int) 2).bind fun t556 => (if t553.length + t556.length < 17592186044416 then ((some (t553 ++ t556 : List Int)).bind fun y559 => ((spec_l2Sum.f kj11 y549).bind fun t562 => ((spec_l2Int.f kj11 t562 2).bind fun t563 => (if y559.length + t563.length < 17592186044416 then ((some (y559 ++ t563 : List Int)).bind fun y566 => (if y566.length + y549.length < 17592186044416 then (some (y566 ++ y549)) else (none))) else (none))))) else (none))))) else (none))) else (none)))) else (none))) else (none))) else (none))) = some r := by first | (rw [hy527]; with_reducible exact H) | (have H2_ := (Option.bind_some _ _).symm.trans H; rw [hy527]; with_reducible exact H2_) | (have H2_ := (Option.bind_some _ _).symm.trans H; with_reducible exact H2_) | with_reducible exact H | (rw [hy527]; exact H) | exact H
     have Ny527 := Aside0.mk hy527
     clear hy527
     replace H := tbe H
     obtain ⟨t530, A15, H⟩ := H
     by_cases c16 : y527.length + t530.length < 17592186044416
     ·rw [if_pos c16] at H
      have LMc16 := Aside0.mk c16
      clear c16
      obtain ⟨y533, hy533⟩ : ∃ y_ : List Int, y_ = (y527 ++ t530) := ⟨_, rfl⟩
      replace H : (if 0 < (l0_5.length : Int) then ((spec_l2Int.f kj11 ((rd_T63 l0_5 0).f1) 3).bind fun t537 => (if y533.length + t537.length < 17592186044416 then ((some (y533 ++ t537 : List Int)).bind fun y540 => ((some (([(l0_5.length : Int), 0, 0] : List Int) : List Int)).bind fun y543 => (if y540.length + y543.length < 17592186044416 then ((some (y540 ++ y543 : List Int)).bind fun y546 => (if y546.length + x3_2.length < 17592186044416 then ((some (y546 ++ x3_2 : List Int)).bind fun y549 => ((spec_l2Int.f kj11 ((rd_T63 l0_5 0).f0) 3).bind fun t553 => ((spec_l2Int.f kj11 (y549.length : Int) 2).bind fun t556 => (if t553.length + t556.length < 17592186044416 then ((some (t553 ++ t556 : List Int)).bind fun y559 => ((spec_l2Sum.f kj11 y549).bind fun t562 => ((spec_l2Int.f kj11 t562 2).bind fun t563 => (if y559.length + t563.length < 17592186044416 then ((some (y559 ++ t563 : List Int)).bind fun y566 => (if y566.length + y549.length < 17592186044416 then (some (y566 ++ y549)) else (none))) else (none))))) else (none))))) else (none))) else (none)))) else (none))) else (none)) = some r := by first | (rw [hy533]; with_reducible exact H) | (have H2_ := (Option.bind_some _ _).symm.trans H; rw [hy533]; with_reducible exact H2_) | (have H2_ := (Option.bind_some _ _).symm.trans H; with_reducible exact H2_) | with_reducible exact H | (rw [hy533]; exact H) | exact H
      have Ny533 := Aside0.mk hy533
      clear hy533
      by_cases c17 : 0 < (l0_5.length : Int)
      ·rw [if_pos c17] at H
       have c17b0 : decide (0 < (l0_5.length : Int)) = true := decide_eq_true c17
       have c17b1 : decide (0 < l0_5.length) = true := decide_eq_true (by omega)
       clear c17
       replace H := tbe H
       obtain ⟨t537, A18, H⟩ := H
       by_cases c19 : y533.length + t537.length < 17592186044416
       ·rw [if_pos c19] at H
        have LMc19 := Aside0.mk c19
        clear c19
        obtain ⟨y540, hy540⟩ : ∃ y_ : List Int, y_ = (y533 ++ t537) := ⟨_, rfl⟩
        replace H : ((some (([(l0_5.length : Int), 0, 0] : List Int) : List Int)).bind fun y543 => (if y540.length + y543.length < 17592186044416 then ((some (y540 ++ y543 : List Int)).bind fun y546 => (if y546.length + x3_2.length < 17592186044416 then ((some (y546 ++ x3_2 : List Int)).bind fun y549 => ((spec_l2Int.f kj11 ((rd_T63 l0_5 0).f0) 3).bind fun t553 => ((spec_l2Int.f kj11 (y549.length : Int) 2).bind fun t556 => (if t553.length + t556.length < 17592186044416 then ((some (t553 ++ t556 : List Int)).bind fun y559 => ((spec_l2Sum.f kj11 y549).bind fun t562 => ((spec_l2Int.f kj11 t562 2).bind fun t563 => (if y559.length + t563.length < 17592186044416 then ((some (y559 ++ t563 : List Int)).bind fun y566 => (if y566.length + y549.length < 17592186044416 then (some (y566 ++ y549)) else (none))) else (none))))) else (none))))) else (none))) else (none))) = some r := by first | (rw [hy540]; with_reducible exact H) | (have H2_ := (Option.bind_some _ _).symm.trans H; rw [hy540]; with_reducible exact H2_) | (have H2_ := (Option.bind_some _ _).symm.trans H; with_reducible exact H2_) | with_reducible exact H | (rw [hy540]; exact H) | exact H
        have Ny540 := Aside0.mk hy540
        clear hy540
        obtain ⟨y543, hy543⟩ : ∃ y_ : List Int, y_ = (([(l0_5.length : Int), 0, 0] : List Int)) := ⟨_, rfl⟩
        replace H : (if y540.length + y543.length < 17592186044416 then ((some (y540 ++ y543 : List Int)).bind fun y546 => (if y546.length + x3_2.length < 17592186044416 then ((some (y546 ++ x3_2 : List Int)).bind fun y549 => ((spec_l2Int.f kj11 ((rd_T63 l0_5 0).f0) 3).bind fun t553 => ((spec_l2Int.f kj11 (y549.length : Int) 2).bind fun t556 => (if t553.length + t556.length < 17592186044416 then ((some (t553 ++ t556 : List Int)).bind fun y559 => ((spec_l2Sum.f kj11 y549).bind fun t562 => ((spec_l2Int.f kj11 t562 2).bind fun t563 => (if y559.length + t563.length < 17592186044416 then ((some (y559 ++ t563 : List Int)).bind fun y566 => (if y566.length + y549.length < 17592186044416 then (some (y566 ++ y549)) else (none))) else (none))))) else (none))))) else (none))) else (none)) = some r := by first | (rw [hy543]; with_reducible exact H) | (have H2_ := (Option.bind_some _ _).symm.trans H; rw [hy543]; with_reducible exact H2_) | (have H2_ := (Option.bind_some _ _).symm.trans H; with_reducible exact H2_) | with_reducible exact H | (rw [hy543]; exact H) | exact H
        have Ny543 := Aside0.mk hy543
        clear hy543
        by_cases c20 : y540.length + y543.length < 17592186044416
        ·rw [if_pos c20] at H
         have LMc20 := Aside0.mk c20
         clear c20
         obtain ⟨y546, hy546⟩ : ∃ y_ : List Int, y_ = (y540 ++ y543) := ⟨_, rfl⟩
         replace H : (if y546.length + x3_2.length < 17592186044416 then ((some (y546 ++ x3_2 : List Int)).bind fun y549 => ((spec_l2Int.f kj11 ((rd_T63 l0_5 0).f0) 3).bind fun t553 => ((spec_l2Int.f kj11 (y549.length : Int) 2).bind fun t556 => (if t553.length + t556.length < 17592186044416 then ((some (t553 ++ t556 : List Int)).bind fun y559 => ((spec_l2Sum.f kj11 y549).bind fun t562 => ((spec_l2Int.f kj11 t562 2).bind fun t563 => (if y559.length + t563.length < 17592186044416 then ((some (y559 ++ t563 : List Int)).bind fun y566 => (if y566.length + y549.length < 17592186044416 then (some (y566 ++ y549)) else (none))) else (none))))) else (none))))) else (none)) = some r := by first | (rw [hy546]; with_reducible exact H) | (have H2_ := (Option.bind_some _ _).symm.trans H; rw [hy546]; with_reducible exact H2_) | (have H2_ := (Option.bind_some _ _).symm.trans H; with_reducible exact H2_) | with_reducible exact H | (rw [hy546]; exact H) | exact H
         have Ny546 := Aside0.mk hy546
         clear hy546
         by_cases c21 : y546.length + x3_2.length < 17592186044416
         ·rw [if_pos c21] at H
          have LMc21 := Aside0.mk c21
          clear c21
          obtain ⟨y549, hy549⟩ : ∃ y_ : List Int, y_ = (y546 ++ x3_2) := ⟨_, rfl⟩
          replace H : ((spec_l2Int.f kj11 ((rd_T63 l0_5 0).f0) 3).bind fun t553 => ((spec_l2Int.f kj11 (y549.length : Int) 2).bind fun t556 => (if t553.length + t556.length < 17592186044416 then ((some (t553 ++ t556 : List Int)).bind fun y559 => ((spec_l2Sum.f kj11 y549).bind fun t562 => ((spec_l2Int.f kj11 t562 2).bind fun t563 => (if y559.length + t563.length < 17592186044416 then ((some (y559 ++ t563 : List Int)).bind fun y566 => (if y566.length + y549.length < 17592186044416 then (some (y566 ++ y549)) else (none))) else (none))))) else (none)))) = some r := by first | (rw [hy549]; with_reducible exact H) | (have H2_ := (Option.bind_some _ _).symm.trans H; rw [hy549]; with_reducible exact H2_) | (have H2_ := (Option.bind_some _ _).symm.trans H; with_reducible exact H2_) | with_reducible exact H | (rw [hy549]; exact H) | exact H
          have Ny549 := Aside0.mk hy549
          clear hy549
          replace H := tbe H
          obtain ⟨t553, A22, H⟩ := H
          replace H := tbe H
          obtain ⟨t556, A23, H⟩ := H
          by_cases c24 : t553.length + t556.length < 17592186044416
          ·rw [if_pos c24] at H
           have LMc24 := Aside0.mk c24
           clear c24
           obtain ⟨y559, hy559⟩ : ∃ y_ : List Int, y_ = (t553 ++ t556) := ⟨_, rfl⟩
           replace H : ((spec_l2Sum.f kj11 y549).bind fun t562 => ((spec_l2Int.f kj11 t562 2).bind fun t563 => (if y559.length + t563.length < 17592186044416 then ((some (y559 ++ t563 : List Int)).bind fun y566 => (if y566.length + y549.length < 17592186044416 then (some (y566 ++ y549)) else (none))) else (none)))) = some r := by first | (rw [hy559]; with_reducible exact H) | (have H2_ := (Option.bind_some _ _).symm.trans H; rw [hy559]; with_reducible exact H2_) | (have H2_ := (Option.bind_some _ _).symm.trans H; with_reducible exact H2_) | with_reducible exact H | (rw [hy559]; exact H) | exact H
           have Ny559 := Aside0.mk hy559
           clear hy559
           replace H := tbe H
           obtain ⟨t562, A25, H⟩ := H
           replace H := tbe H
           obtain ⟨t563, A26, H⟩ := H
           by_cases c27 : y559.length + t563.length < 17592186044416
           ·rw [if_pos c27] at H
            have LMc27 := Aside0.mk c27
            clear c27
            obtain ⟨y566, hy566⟩ : ∃ y_ : List Int, y_ = (y559 ++ t563) := ⟨_, rfl⟩
            replace H : (if y566.length + y549.length < 17592186044416 then (some (y566 ++ y549)) else (none)) = some r := by first | (rw [hy566]; with_reducible exact H) | (have H2_ := (Option.bind_some _ _).symm.trans H; rw [hy566]; with_reducible exact H2_) | (have H2_ := (Option.bind_some _ _).symm.trans H; with_reducible exact H2_) | with_reducible exact H | (rw [hy566]; exact H) | exact H
            have Ny566 := Aside0.mk hy566
            clear hy566
            by_cases c28 : y566.length + y549.length < 17592186044416
            ·rw [if_pos c28] at H
             have LMc28 := Aside0.mk c28
             clear c28
             obtain ⟨y569, hy569⟩ : ∃ y_ : List Int, y_ = (y566 ++ y549) := ⟨_, rfl⟩
             replace H : (some y569) = some r := by first | (rw [hy569]; with_reducible exact H) | (have H2_ := (Option.bind_some _ _).symm.trans H; rw [hy569]; with_reducible exact H2_) | (have H2_ := (Option.bind_some _ _).symm.trans H; with_reducible exact H2_) | with_reducible exact H | (rw [hy569]; exact H) | exact H
             have Ny569 := Aside0.mk hy569
             clear hy569
             obtain rfl := Option.some.inj H
             try go_wp2
             replace HO_3 := Aside0.mk (Kd.R_drew HO_3.out)
             replace BK520 := Aside0.mk (blk_drew BK520.out)
             replace HB := Aside0.mk (below_drew1 HB.out)
             refine start_ (n := 11) (S := fun w' => w'.cell? ⟨gb520, 0, none⟩ = some (.bool a0_0) ∧ w'.cell? ⟨gb520, 1, none⟩ = some (.bool a0_1) ∧ w'.cell? ⟨gb520, 2, none⟩ = some (.int .i64 a0_2) ∧ w'.cell? ⟨gb520, 3, none⟩ = some (.int .i64 a0_3) ∧ w'.cell? ⟨gb520, 4, none⟩ = some (.int .i64 a0_4) ∧ w'.cell? ⟨gb520, 5, none⟩ = some (.slice A0_5 l0_5.length c0_5)) (ds := []) #[false, false, false, false, false, false, false, false, false, false, false] (by kernel_rfl) rfl rfl ⟨(blk_cell BK520.out 0).trans rfl, (blk_cell BK520.out 1).trans rfl, (blk_cell BK520.out 2).trans rfl, (blk_cell BK520.out 3).trans rfl, (blk_cell BK520.out 4).trans rfl, (blk_cell BK520.out 5).trans rfl⟩ (fun hHeld => ?_); refine with_tabW spec_l5Bytes.tab8 spec_l5Bytes.bits8 (fun HT_ HW_ => ?_)
             generalize wc.drew = w29 at HO_3 BK520 HB hHeld ⊢
             refine tpu 0 (some 19) #[true, false, false, false, false, false, false, false, false, false, false] ?_
             refine tpu 1 (some 20) #[true, true, false, false, false, false, false, false, false, false, false] ?_
             refine tpu 3 (some 22) #[true, true, false, true, false, false, false, false, false, false, false] ?_
             refine tpu 6 (some 25) #[true, true, false, true, false, false, true, false, false, false, false] ?_
             refine tta 2 (some 21) #[true, true, true, true, false, false, true, false, false, false, false] hHeld ?_ (hy := by rintro w' ⟨s0, s1, s2, s3, s4, s5⟩; go_simp; with_reducible rfl)
             refine tta 4 (some 23) #[true, true, true, true, true, false, true, false, false, false, false] hHeld ?_ (hy := by rintro w' ⟨s0, s1, s2, s3, s4, s5⟩; go_simp; with_reducible rfl)
             refine tta 7 (some 26) #[true, true, true, true, true, false, true, true, false, false, false] hHeld ?_ (hy := by rintro w' ⟨s0, s1, s2, s3, s4, s5⟩; go_simp; with_reducible rfl)
             refine join_ (σ := Value × Value) 2 #[true, true, true, true, true, true, true, true, true, false, false] (fun s_ => [(24, s_.1), (27, s_.2)]) (fun s_ w' => (w'.cell? ⟨gb520, 0, none⟩ = some (.bool a0_0) ∧ w'.cell? ⟨gb520, 1, none⟩ = some (.bool a0_1) ∧ w'.cell? ⟨gb520, 2, none⟩ = some (.int .i64 a0_2) ∧ w'.cell? ⟨gb520, 3, none⟩ = some (.int .i64 a0_3) ∧ w'.cell? ⟨gb520, 4, none⟩ = some (.int .i64 a0_4) ∧ w'.cell? ⟨gb520, 5, none⟩ = some (.slice A0_5 l0_5.length c0_5)) ∧ (Kd.R (Kd.int .i64) 3 w' w.heap.size (fun k_ => some k_ ≠ (s_.2 : Value).ownBlock ∧ some k_ ≠ (u3 : Value).ownBlock) s_.1 y527) ∧ (Kd.R (Kd.int .i64) 3 w' w.heap.size (fun k_ => some k_ ≠ (s_.1 : Value).ownBlock ∧ some k_ ≠ (u3 : Value).ownBlock) s_.2 t530) ∧ (Kd.R (Kd.int .i64) 3 w' w.heap.size (fun k_ => some k_ ≠ (s_.1 : Value).ownBlock ∧ some k_ ≠ (s_.2 : Value).ownBlock) u3 x3_2) ∧ (w'.heap[gb520]? = some (.cells #[.bool a0_0, .bool a0_1, .int .i64 a0_2, .int .i64 a0_3, .int .i64 a0_4, .slice A0_5 l0_5.length c0_5] 46 (0, 0))) ∧ (Below w.heap.size w w')) ?_ ?_
             rotate_left
             ·intro hCont
              refine two_ (i := 5) (j := 8) (Ni := some 24) (Nj := some 27) #[true, true, true, true, true, true, true, true, false, false, false] #[true, true, true, true, true, false, true, true, true, false, false] rfl rfl rfl rfl (two_of HT_.out (by kernel_rfl)) (by decide) (by decide) (fun K hK => ?_) (fun K hK => ?_)
              ·skip
               refine Kd.R_lit_step (Kd.int .i64) _ 3 ?hg (N := 24) ?hd (xs := ([x4_11, a0_2, a0_3] : List Int)) (inner := [.int .i64 x4_11, .int .i64 a0_2, .int .i64 a0_3]) (ok := fun _ => True) (okp := fun _ => True) ?hr ?hp (fun _ hk => hk) trivial (Below.refl _ _) (Nat.le_refl _) (by simp) ?_; (case hd => rfl); (case hg => rfl); (case hr => first | (go_simp; done) | (go_simp; rfl)); (case hp => exact (Reps.one (show Kd.M (Kd.int .i64) _ _ _ x4_11 [.int .i64 x4_11] from rfl) (Reps.one (show Kd.M (Kd.int .i64) _ _ _ a0_2 [.int .i64 a0_2] from rfl) (Reps.one (show Kd.M (Kd.int .i64) _ _ _ a0_3 [.int .i64 a0_3] from rfl) (Reps.none _ _)))))
               intro v528 w30 ho31 hb hg_ hnew_
               clear hg_ hnew_
               (first | rw [← Ny527.out] at ho31 | (simp only [Int.reduceToNat] at ho31; rw [← Ny527.out] at ho31))
               have HO529 := Aside0.mk (Kd.R_lower (Kd.R_new' ho31 (Kd.R_lt (tR HO_3.out))) (below_size zb))
               replace HO_3 := Aside0.mk (Kd.R_elder' (tR HO_3.out) (Kd.R_base ho31) hb)
               replace BK520 := tBb BK520 hb
               replace HB := tBs HB hb
               clear hb ho31
               refine hK.out _ _ ⟨(blk_cell BK520.out 0).trans rfl, (blk_cell BK520.out 1).trans rfl, (blk_cell BK520.out 2).trans rfl, (blk_cell BK520.out 3).trans rfl, (blk_cell BK520.out 4).trans rfl, (blk_cell BK520.out 5).trans rfl⟩ (fun hHeld => ?_)
               clear hK K
               refine tnm (some 24) ?_
               refine one_ (i := 8) (N := some 27) #[true, true, true, true, true, true, true, true, true, false, false] rfl rfl (one_of HT_.out (by kernel_rfl)) (by decide) (fun K hK => ?_)
               refine goes_ Try.func56 (by kernel_rfl) rfl #[.int .i64 a0_4, .int .i64 2] (by rfl) rfl rfl tq ?_
               with_reducible refine (spec_l2Int.calls kj11 a0_4 2 t530 _ A15.out).mono ?_
               rintro e w32 ⟨v531, rfl, ho0, hb⟩
               refine ⟨_, rfl, ?_⟩
               have HO532 := Aside0.mk (Kd.R_lower (Kd.R_new' (Kd.R_new' ho0 (Kd.R_lt (tR HO_3.out))) (Kd.R_lt (tR HO529.out))) (below_size zb))
               replace HO_3 := Aside0.mk (Kd.R_elder' (tR HO_3.out) (Kd.R_base ho0) hb)
               replace HO529 := Aside0.mk (Kd.R_elder' (tR HO529.out) (Kd.R_base ho0) hb)
               replace BK520 := tBb BK520 hb
               replace HB := tBs HB hb
               (try clear hb)
               (try clear hb2)
               (try clear hk)
               (try clear hi)
               (try clear ho0)
               refine hK.out _ _ ⟨(blk_cell BK520.out 0).trans rfl, (blk_cell BK520.out 1).trans rfl, (blk_cell BK520.out 2).trans rfl, (blk_cell BK520.out 3).trans rfl, (blk_cell BK520.out 4).trans rfl, (blk_cell BK520.out 5).trans rfl⟩ (fun hHeld => ?_)
               clear hK K
               refine tnm (some 27) ?_
               exact tnx (hCont (v528, v531) _ ⟨hHeld, (tRm HO529.out), (tRm HO532.out), (tRm HO_3.out), (tH BK520.out), zb⟩)
              ·skip
               refine goes_ Try.func56 (by kernel_rfl) rfl #[.int .i64 a0_4, .int .i64 2] (by rfl) rfl rfl tq ?_
               with_reducible refine (spec_l2Int.calls kj11 a0_4 2 t530 _ A15.out).mono ?_
               rintro e w30 ⟨v531, rfl, ho0, hb⟩
               refine ⟨_, rfl, ?_⟩
               have HO532 := Aside0.mk (Kd.R_lower (Kd.R_new' ho0 (Kd.R_lt (tR HO_3.out))) (below_size zb))
               replace HO_3 := Aside0.mk (Kd.R_elder' (tR HO_3.out) (Kd.R_base ho0) hb)
               replace BK520 := tBb BK520 hb
               replace HB := tBs HB hb
               (try clear hb)
               (try clear hb2)
               (try clear hk)
               (try clear hi)
               (try clear ho0)
               refine hK.out _ _ ⟨(blk_cell BK520.out 0).trans rfl, (blk_cell BK520.out 1).trans rfl, (blk_cell BK520.out 2).trans rfl, (blk_cell BK520.out 3).trans rfl, (blk_cell BK520.out 4).trans rfl, (blk_cell BK520.out 5).trans rfl⟩ (fun hHeld => ?_)
               clear hK K
               refine tnm (some 27) ?_
               refine one_ (i := 5) (N := some 24) #[true, true, true, true, true, true, true, true, true, false, false] rfl rfl (one_of HT_.out (by kernel_rfl)) (by decide) (fun K hK => ?_)
               refine Kd.R_lit_step (Kd.int .i64) _ 3 ?hg (N := 24) ?hd (xs := ([x4_11, a0_2, a0_3] : List Int)) (inner := [.int .i64 x4_11, .int .i64 a0_2, .int .i64 a0_3]) (ok := fun _ => True) (okp := fun _ => True) ?hr ?hp (fun _ hk => hk) trivial (Below.refl _ _) (Nat.le_refl _) (by simp) ?_; (case hd => rfl); (case hg => rfl); (case hr => first | (go_simp; done) | (go_simp; rfl)); (case hp => exact (Reps.one (show Kd.M (Kd.int .i64) _ _ _ x4_11 [.int .i64 x4_11] from rfl) (Reps.one (show Kd.M (Kd.int .i64) _ _ _ a0_2 [.int .i64 a0_2] from rfl) (Reps.one (show Kd.M (Kd.int .i64) _ _ _ a0_3 [.int .i64 a0_3] from rfl) (Reps.none _ _)))))
               intro v528 w31 ho32 hb hg_ hnew_
               clear hg_ hnew_
               (first | rw [← Ny527.out] at ho32 | (simp only [Int.reduceToNat] at ho32; rw [← Ny527.out] at ho32))
               have HO529 := Aside0.mk (Kd.R_lower (Kd.R_new' (Kd.R_new' ho32 (Kd.R_lt (tR HO_3.out))) (Kd.R_lt (tR HO532.out))) (below_size zb))
               replace HO_3 := Aside0.mk (Kd.R_elder' (tR HO_3.out) (Kd.R_base ho32) hb)
               replace HO532 := Aside0.mk (Kd.R_elder' (tR HO532.out) (Kd.R_base ho32) hb)
               replace BK520 := tBb BK520 hb
               replace HB := tBs HB hb
               clear hb ho32
               refine hK.out _ _ ⟨(blk_cell BK520.out 0).trans rfl, (blk_cell BK520.out 1).trans rfl, (blk_cell BK520.out 2).trans rfl, (blk_cell BK520.out 3).trans rfl, (blk_cell BK520.out 4).trans rfl, (blk_cell BK520.out 5).trans rfl⟩ (fun hHeld => ?_)
               clear hK K
               refine tnm (some 24) ?_
               exact tnx (hCont (v528, v531) _ ⟨hHeld, (tRm HO529.out), (tRm HO532.out), (tRm HO_3.out), (tH BK520.out), zb⟩)
             rintro ⟨v528, v531⟩ w33 ⟨hS_, h0_, h1_, h2_, h3_, h4_⟩
             try dsimp only at hS_ h0_ h1_ h2_ h3_ h4_
             clear HO_3 BK520 HB
             have HO529 := Aside0.mk h0_
             have HO532 := Aside0.mk h1_
             have HO_3 := Aside0.mk h2_
             have BK520 := Aside0.mk h3_
             have HB := Aside0.mk h4_
             clear h0_ h1_ h2_ h3_ h4_
             have hHeld := hS_
             obtain ⟨Ao35, co35, eo35⟩ := Kd.R_slice HO532.out
             (first | subst eo35 | (injection eo35 with f1_ f2_ f3_; have f4_ := f1_.symm; have f5_ := f3_.symm; clear f1_ f2_ f3_; subst f4_; subst f5_))
             refine tnp ?_
             refine one_ (i := 9) (N := some 28) #[true, true, true, true, true, true, true, true, true, true, false] rfl rfl (one_of HT_.out (by kernel_rfl)) (by decide) (fun K hK => ?_)
             refine Kd.R_append_rows_step (Kd.int .i64) (w0 := w) w.heap.size (by rfl) (.tmp 24) (.tmp 27) 26 3 (.int .i64 0) 8 rfl Try.underlying26 info3 rfl (by decide) (by omega) v528 y527 t530 _ _ _ (fun k_ => some k_ ≠ (u3 : Value).ownBlock ∧ some k_ ≠ (.slice Ao35 t530.length co35 : Value).ownBlock) (fun _ => False) rfl rfl ?aO ?aR (fun _ _ h => h) (fun _ h => h.elim) ?aF ?aB ?aS ?aL ?_
             (case aR => repeat (first | exact (Kd.R_reads' HO532.out).2.2 | (with_reducible refine Kd.C_alloc ?_ _) | (with_reducible refine Kd.C_drewN ?_ _) | (with_reducible refine Kd.C_drew ?_)))
             (case aB => exact zb)
             (case aF => exact (fun k_ hk => ⟨Kd.fresh' (Kd.R_lt (tR HO_3.out)) k_ hk, Kd.fresh' (Kd.R_lt (tR HO532.out)) k_ hk⟩))
             (case aO => exact (tRm HO529.out))
             (case aS => exact (below_size zb))
             (case aL => have := LMc16.out; omega)
             intro v534 w34 ho hb hg hat
             rw [← Ny533.out] at ho
             replace HO_3 := Aside0.mk (Kd.R_after (ok := (fun k_ => some k_ ≠ (.slice Ao35 t530.length co35 : Value).ownBlock)) (tRm HO_3.out) hg hat)
             replace BK520 := Aside0.mk (blk_grown (tH BK520.out) hg (Kd.R_ne HO529.out BK520.out (by decide)))
             replace HO532 := Aside0.mk (Kd.R_after (ok := (fun k_ => some k_ ≠ (u3 : Value).ownBlock)) (tRm HO532.out) hg hat)
             replace HB := Aside0.mk (hb)
             have HO535 := Aside0.mk (ho)
             clear HO529
             clear ho hb hg hat
             refine hK.out _ _ ⟨(blk_cell BK520.out 0).trans rfl, (blk_cell BK520.out 1).trans rfl, (blk_cell BK520.out 2).trans rfl, (blk_cell BK520.out 3).trans rfl, (blk_cell BK520.out 4).trans rfl, (blk_cell BK520.out 5).trans rfl⟩ (fun hHeld => ?_)
             clear hK K
             refine tnm (some 28) ?_
             refine tpu 10 (some 5) #[true, true, true, true, true, true, true, true, true, true, true] ?_
             refine done_ (done_of HT_.out (by kernel_rfl)) ?_
             obtain ⟨hcz36_0, hcz36_1, hcz36_2, hcz36_3, hcz36_4, hcz36_5, hfz36_0, hfz36_1, hfz36_2, hfz36_3, hfz36_4, hfz36_5⟩ := cells6 BK520.out
             have p536 : 0 ≤ (0 : Int) := (by omega)
             have q536 : 0 < (l0_5.length : Int) := td
             obtain ⟨ad536, A536_3, c536_3, A536_5, c536_5, e536, hx536_0, hx536_1, hx536_2, hx536_3, hx536_4, hx536_5, hl536_3, hi536_3, hl536_5, hi536_5⟩ := at_T63 HR0_5.out 0 p536 q536
             cases e536
             have qi536 : (0 < l0_5.length) = True := eq_true (by omega)
             (try rw [show ((0 : Int)).toNat = 0 from rfl] at hx536_0)
             (try rw [show 0 * 6 = 0 from rfl] at hx536_0)
             (try rw [Addr.add_zero'] at hx536_0)
             (try rw [show ((0 : Int)).toNat = 0 from rfl] at hx536_1)
             (try rw [show 0 * 6 = 0 from rfl] at hx536_1)
             (try rw [Addr.add_zero'] at hx536_1)
             (try rw [show ((0 : Int)).toNat = 0 from rfl] at hx536_2)
             (try rw [show 0 * 6 = 0 from rfl] at hx536_2)
             (try rw [Addr.add_zero'] at hx536_2)
             (try rw [show ((0 : Int)).toNat = 0 from rfl] at hx536_3)
             (try rw [show 0 * 6 = 0 from rfl] at hx536_3)
             (try rw [Addr.add_zero'] at hx536_3)
             (try rw [show ((0 : Int)).toNat = 0 from rfl] at hx536_4)
             (try rw [show 0 * 6 = 0 from rfl] at hx536_4)
             (try rw [Addr.add_zero'] at hx536_4)
             (try rw [show ((0 : Int)).toNat = 0 from rfl] at hx536_5)
             (try rw [show 0 * 6 = 0 from rfl] at hx536_5)
             (try rw [Addr.add_zero'] at hx536_5)
             replace hx536_0 := tcl HB hx536_0
             replace hx536_1 := tcl HB hx536_1
             replace hx536_2 := tcl HB hx536_2
             replace hx536_3 := tcl HB hx536_3
             replace hx536_4 := tcl HB hx536_4
             replace hx536_5 := tcl HB hx536_5
             have HR536_3 := Aside0.mk hi536_3
             have HC536_3 := Aside0.mk hl536_3
             clear hi536_3 hl536_3
             have HR536_5 := Aside0.mk hi536_5
             have HC536_5 := Aside0.mk hl536_5
             clear hi536_5 hl536_5
             replace p536 := eq_true p536
             replace q536 := eq_true q536
             try go_wp2_with (first | ((with_reducible refine gate_callee (f := 56) rfl ?_); refine goesL_ (some 35) rfl rfl Try.func56 (by kernel_rfl) rfl #[.int .i64 ((rd_T63 l0_5 0).f1), .int .i64 3] rfl tq ?_; (with_reducible refine (spec_l2Int.calls kj11 ((rd_T63 l0_5 0).f1) 3 t537 _ A18.out).mono ?_); rintro e w37 ⟨v538, rfl, ho0, hb⟩; have u_v538 := tsv Try.prog v538 ho0; refine ⟨_, rfl, ?_⟩; have HO539 := Aside0.mk (Kd.R_lower (Kd.R_new' (Kd.R_new' (Kd.R_new' ho0 (Kd.R_lt (tR HO_3.out))) (Kd.R_lt (tR HO532.out))) (Kd.R_lt (tR HO535.out))) (below_size zb)); replace HO_3 := Aside0.mk (Kd.R_elder' (tR HO_3.out) (Kd.R_base ho0) hb); replace HO532 := Aside0.mk (Kd.R_elder' (tR HO532.out) (Kd.R_base ho0) hb); replace HO535 := Aside0.mk (Kd.R_elder' (tR HO535.out) (Kd.R_base ho0) hb); replace BK520 := tBb BK520 hb; replace HB := tBs HB hb; (try clear hb); (try clear hb2); (try clear hk); (try clear hi); (try clear ho0); obtain ⟨Ao39, co39, eo39⟩ := Kd.R_slice HO539.out; subst eo39) | ((with_reducible refine gate_builtin (b := .append) (xs := #[.tmp 29, .tmp 35]) rfl ?_); at_builtin; refine Kd.R_append_rows (Kd.int .i64) (w0 := w) w.heap.size rfl (.tmp 29) (.tmp 35) 26 3 (.int .i64 0) 8 rfl Try.underlying26 info3 rfl (by decide) (by omega) v534 y533 t537 _ _ _ (fun k_ => some k_ ≠ (u3 : Value).ownBlock ∧ some k_ ≠ (.slice Ao35 t530.length co35 : Value).ownBlock ∧ some k_ ≠ (.slice Ao39 t537.length co39 : Value).ownBlock) (fun _ => False) rfl rfl ?aO ?aR (fun _ _ h => h) (fun _ h => h.elim) ?aF ?aB ?aS ?aL ?_; (case aR => repeat (first | exact (Kd.R_reads' HO539.out).2.2 | (with_reducible refine Kd.C_alloc ?_ _) | (with_reducible refine Kd.C_drewN ?_ _) | (with_reducible refine Kd.C_drew ?_))); (case aB => exact zb); (case aF => exact (fun k_ hk => ⟨Kd.fresh' (Kd.R_lt (tR HO_3.out)) k_ hk, Kd.fresh' (Kd.R_lt (tR HO532.out)) k_ hk, Kd.fresh' (Kd.R_lt (tR HO539.out)) k_ hk⟩)); (case aO => exact (tRm HO535.out)); (case aS => exact (below_size zb)); (case aL => have := LMc19.out; omega); intro v541 w38 ho hb hg hat; rw [← Ny540.out] at ho; replace HO_3 := Aside0.mk (Kd.R_after (ok := (fun k_ => some k_ ≠ (.slice Ao35 t530.length co35 : Value).ownBlock ∧ some k_ ≠ (.slice Ao39 t537.length co39 : Value).ownBlock)) (tRm HO_3.out) hg hat); replace BK520 := Aside0.mk (blk_grown (tH BK520.out) hg (Kd.R_ne HO535.out BK520.out (by decide))); replace HO532 := Aside0.mk (Kd.R_after (ok := (fun k_ => some k_ ≠ (u3 : Value).ownBlock ∧ some k_ ≠ (.slice Ao39 t537.length co39 : Value).ownBlock)) (tRm HO532.out) hg hat); replace HO539 := Aside0.mk (Kd.R_after (ok := (fun k_ => some k_ ≠ (u3 : Value).ownBlock ∧ some k_ ≠ (.slice Ao35 t530.length co35 : Value).ownBlock)) (tRm HO539.out) hg hat); replace HB := Aside0.mk (hb); have HO542 := Aside0.mk (ho); clear HO535; clear ho hb hg hat; obtain ⟨hcz40_0, hcz40_1, hcz40_2, hcz40_3, hcz40_4, hcz40_5, hfz40_0, hfz40_1, hfz40_2, hfz40_3, hfz40_4, hfz40_5⟩ := cells6 BK520.out) | ((with_reducible refine gate_dst (N := 41) rfl ?_); refine Kd.R_lit (Kd.int .i64) _ 3 ?hg (N := 41) ?hd (xs := ([(l0_5.length : Int), 0, 0] : List Int)) (inner := [.int .i64 (l0_5.length : Int), .int .i64 0, .int .i64 0]) (ok := fun _ => True) (okp := fun _ => True) ?hr ?hp (fun _ hk => hk) trivial (Below.refl _ _) (Nat.le_refl _) (by simp) ?_; (case hd => rfl); (case hg => rfl); (case hr => first | (go_simp; done) | (go_simp; rfl)); (case hp => exact (Reps.one (show Kd.M (Kd.int .i64) _ _ _ (l0_5.length : Int) [.int .i64 (l0_5.length : Int)] from rfl) (Reps.one (show Kd.M (Kd.int .i64) _ _ _ 0 [.int .i64 0] from rfl) (Reps.one (show Kd.M (Kd.int .i64) _ _ _ 0 [.int .i64 0] from rfl) (Reps.none _ _))))); intro v544 w41 ho42 hb hg_ hnew_; clear hg_ hnew_; (first | rw [← Ny543.out] at ho42 | (simp only [Int.reduceToNat] at ho42; rw [← Ny543.out] at ho42)); have HO545 := Aside0.mk (Kd.R_lower (Kd.R_new' (Kd.R_new' (Kd.R_new' (Kd.R_new' ho42 (Kd.R_lt (tR HO_3.out))) (Kd.R_lt (tR HO532.out))) (Kd.R_lt (tR HO539.out))) (Kd.R_lt (tR HO542.out))) (below_size zb)); replace HO_3 := Aside0.mk (Kd.R_elder' (tR HO_3.out) (Kd.R_base ho42) hb); replace HO532 := Aside0.mk (Kd.R_elder' (tR HO532.out) (Kd.R_base ho42) hb); replace HO539 := Aside0.mk (Kd.R_elder' (tR HO539.out) (Kd.R_base ho42) hb); replace HO542 := Aside0.mk (Kd.R_elder' (tR HO542.out) (Kd.R_base ho42) hb); replace BK520 := tBb BK520 hb; replace HB := tBs HB hb; clear hb ho42; obtain ⟨Ao44, co44, eo44⟩ := Kd.R_slice HO545.out; subst eo44) | ((with_reducible refine gate_builtin (b := .append) (xs := #[.tmp 37, .tmp 41]) rfl ?_); at_builtin; refine Kd.R_append_rows (Kd.int .i64) (w0 := w) w.heap.size rfl (.tmp 37) (.tmp 41) 26 3 (.int .i64 0) 8 rfl Try.underlying26 info3 rfl (by decide) (by omega) v541 y540 y543 _ _ _ (fun k_ => some k_ ≠ (u3 : Value).ownBlock ∧ some k_ ≠ (.slice Ao35 t530.length co35 : Value).ownBlock ∧ some k_ ≠ (.slice Ao39 t537.length co39 : Value).ownBlock ∧ some k_ ≠ (.slice Ao44 y543.length co44 : Value).ownBlock) (fun _ => False) rfl rfl ?aO ?aR (fun _ _ h => h) (fun _ h => h.elim) ?aF ?aB ?aS ?aL ?_; (case aR => repeat (first | exact (Kd.R_reads' HO545.out).2.2 | (with_reducible refine Kd.C_alloc ?_ _) | (with_reducible refine Kd.C_drewN ?_ _) | (with_reducible refine Kd.C_drew ?_))); (case aB => exact zb); (case aF => exact (fun k_ hk => ⟨Kd.fresh' (Kd.R_lt (tR HO_3.out)) k_ hk, Kd.fresh' (Kd.R_lt (tR HO532.out)) k_ hk, Kd.fresh' (Kd.R_lt (tR HO539.out)) k_ hk, Kd.fresh' (Kd.R_lt (tR HO545.out)) k_ hk⟩)); (case aO => exact (tRm HO542.out)); (case aS => exact (below_size zb)); (case aL => have := LMc20.out; omega); intro v547 w43 ho hb hg hat; rw [← Ny546.out] at ho; replace HO_3 := Aside0.mk (Kd.R_after (ok := (fun k_ => some k_ ≠ (.slice Ao35 t530.length co35 : Value).ownBlock ∧ some k_ ≠ (.slice Ao39 t537.length co39 : Value).ownBlock ∧ some k_ ≠ (.slice Ao44 y543.length co44 : Value).ownBlock)) (tRm HO_3.out) hg hat); replace BK520 := Aside0.mk (blk_grown (tH BK520.out) hg (Kd.R_ne HO542.out BK520.out (by decide))); replace HO532 := Aside0.mk (Kd.R_after (ok := (fun k_ => some k_ ≠ (u3 : Value).ownBlock ∧ some k_ ≠ (.slice Ao39 t537.length co39 : Value).ownBlock ∧ some k_ ≠ (.slice Ao44 y543.length co44 : Value).ownBlock)) (tRm HO532.out) hg hat); replace HO539 := Aside0.mk (Kd.R_after (ok := (fun k_ => some k_ ≠ (u3 : Value).ownBlock ∧ some k_ ≠ (.slice Ao35 t530.length co35 : Value).ownBlock ∧ some k_ ≠ (.slice Ao44 y543.length co44 : Value).ownBlock)) (tRm HO539.out) hg hat); replace HO545 := Aside0.mk (Kd.R_after (ok := (fun k_ => some k_ ≠ (u3 : Value).ownBlock ∧ some k_ ≠ (.slice Ao35 t530.length co35 : Value).ownBlock ∧ some k_ ≠ (.slice Ao39 t537.length co39 : Value).ownBlock)) (tRm HO545.out) hg hat); replace HB := Aside0.mk (hb); have HO548 := Aside0.mk (ho); clear HO542; clear ho hb hg hat; obtain ⟨Ao46, co46, eo46⟩ := Kd.R_slice HO_3.out; subst eo46) | ((with_reducible refine gate_builtin (b := .append) (xs := #[.tmp 43, .tmp 44]) rfl ?_); at_builtin; refine Kd.R_append_rows (Kd.int .i64) (w0 := w) w.heap.size rfl (.tmp 43) (.tmp 44) 26 3 (.int .i64 0) 8 rfl Try.underlying26 info3 rfl (by decide) (by omega) v547 y546 x3_2 _ _ _ (fun k_ => some k_ ≠ (.slice Ao46 x3_2.length co46 : Value).ownBlock ∧ some k_ ≠ (.slice Ao35 t530.length co35 : Value).ownBlock ∧ some k_ ≠ (.slice Ao39 t537.length co39 : Value).ownBlock ∧ some k_ ≠ (.slice Ao44 y543.length co44 : Value).ownBlock) (fun _ => False) rfl rfl ?aO ?aR (fun _ _ h => h) (fun _ h => h.elim) ?aF ?aB ?aS ?aL ?_; (case aR => repeat (first | exact (Kd.R_reads' HO_3.out).2.2 | (with_reducible refine Kd.C_alloc ?_ _) | (with_reducible refine Kd.C_drewN ?_ _) | (with_reducible refine Kd.C_drew ?_))); (case aB => exact zb); (case aF => exact (fun k_ hk => ⟨Kd.fresh' (Kd.R_lt (tR HO_3.out)) k_ hk, Kd.fresh' (Kd.R_lt (tR HO532.out)) k_ hk, Kd.fresh' (Kd.R_lt (tR HO539.out)) k_ hk, Kd.fresh' (Kd.R_lt (tR HO545.out)) k_ hk⟩)); (case aO => exact (tR HO548.out)); (case aS => exact (below_size zb)); (case aL => have := LMc21.out; omega); intro v550 w45 ho hb hg hat; rw [← Ny549.out] at ho; replace HO_3 := Aside0.mk (Kd.R_after (ok := (fun k_ => some k_ ≠ (.slice Ao35 t530.length co35 : Value).ownBlock ∧ some k_ ≠ (.slice Ao39 t537.length co39 : Value).ownBlock ∧ some k_ ≠ (.slice Ao44 y543.length co44 : Value).ownBlock)) (tR HO_3.out) hg hat); replace BK520 := Aside0.mk (blk_grown (tH BK520.out) hg (Kd.R_ne HO548.out BK520.out (by decide))); replace HO532 := Aside0.mk (Kd.R_after (ok := (fun k_ => some k_ ≠ (.slice Ao46 x3_2.length co46 : Value).ownBlock ∧ some k_ ≠ (.slice Ao39 t537.length co39 : Value).ownBlock ∧ some k_ ≠ (.slice Ao44 y543.length co44 : Value).ownBlock)) (tR HO532.out) hg hat); replace HO539 := Aside0.mk (Kd.R_after (ok := (fun k_ => some k_ ≠ (.slice Ao46 x3_2.length co46 : Value).ownBlock ∧ some k_ ≠ (.slice Ao35 t530.length co35 : Value).ownBlock ∧ some k_ ≠ (.slice Ao44 y543.length co44 : Value).ownBlock)) (tR HO539.out) hg hat); replace HO545 := Aside0.mk (Kd.R_after (ok := (fun k_ => some k_ ≠ (.slice Ao46 x3_2.length co46 : Value).ownBlock ∧ some k_ ≠ (.slice Ao35 t530.length co35 : Value).ownBlock ∧ some k_ ≠ (.slice Ao39 t537.length co39 : Value).ownBlock)) (tR HO545.out) hg hat); replace HB := Aside0.mk (hb); have HO551 := Aside0.mk (ho); clear HO548; clear ho hb hg hat; obtain ⟨hcz47_0, hcz47_1, hcz47_2, hcz47_3, hcz47_4, hcz47_5, hfz47_0, hfz47_1, hfz47_2, hfz47_3, hfz47_4, hfz47_5⟩ := cells6 BK520.out; have p552 : 0 ≤ (0 : Int) := (by omega); have q552 : 0 < (l0_5.length : Int) := td; obtain ⟨ad552, A552_3, c552_3, A552_5, c552_5, e552, hx552_0, hx552_1, hx552_2, hx552_3, hx552_4, hx552_5, hl552_3, hi552_3, hl552_5, hi552_5⟩ := at_T63 HR0_5.out 0 p552 q552; obtain rfl : ad536 = ad552 := (by injection e552); have qi552 : (0 < l0_5.length) = True := eq_true (by omega); (try rw [show ((0 : Int)).toNat = 0 from rfl] at hx552_0); (try rw [show 0 * 6 = 0 from rfl] at hx552_0); (try rw [Addr.add_zero'] at hx552_0); (try rw [show ((0 : Int)).toNat = 0 from rfl] at hx552_1); (try rw [show 0 * 6 = 0 from rfl] at hx552_1); (try rw [Addr.add_zero'] at hx552_1); (try rw [show ((0 : Int)).toNat = 0 from rfl] at hx552_2); (try rw [show 0 * 6 = 0 from rfl] at hx552_2); (try rw [Addr.add_zero'] at hx552_2); (try rw [show ((0 : Int)).toNat = 0 from rfl] at hx552_3); (try rw [show 0 * 6 = 0 from rfl] at hx552_3); (try rw [Addr.add_zero'] at hx552_3); (try rw [show ((0 : Int)).toNat = 0 from rfl] at hx552_4); (try rw [show 0 * 6 = 0 from rfl] at hx552_4); (try rw [Addr.add_zero'] at hx552_4); (try rw [show ((0 : Int)).toNat = 0 from rfl] at hx552_5); (try rw [show 0 * 6 = 0 from rfl] at hx552_5); (try rw [Addr.add_zero'] at hx552_5); replace hx552_0 := tcl HB hx552_0; replace hx552_1 := tcl HB hx552_1; replace hx552_2 := tcl HB hx552_2; replace hx552_3 := tcl HB hx552_3; replace hx552_4 := tcl HB hx552_4; replace hx552_5 := tcl HB hx552_5; have HR552_3 := Aside0.mk hi552_3; have HC552_3 := Aside0.mk hl552_3; clear hi552_3 hl552_3; have HR552_5 := Aside0.mk hi552_5; have HC552_5 := Aside0.mk hl552_5; clear hi552_5 hl552_5; replace p552 := eq_true p552; replace q552 := eq_true q552) | ((with_reducible refine gate_callee (f := 56) rfl ?_); refine goesL_ (some 51) rfl rfl Try.func56 (by kernel_rfl) rfl #[.int .i64 ((rd_T63 l0_5 0).f0), .int .i64 3] rfl tq ?_; (with_reducible refine (spec_l2Int.calls kj11 ((rd_T63 l0_5 0).f0) 3 t553 _ A22.out).mono ?_); rintro e w48 ⟨v554, rfl, ho0, hb⟩; have u_v554 := tsv Try.prog v554 ho0; refine ⟨_, rfl, ?_⟩; have HO555 := Aside0.mk (Kd.R_lower (Kd.R_new' (Kd.R_new' (Kd.R_new' (Kd.R_new' (Kd.R_new' ho0 (Kd.R_lt (tR HO_3.out))) (Kd.R_lt (tR HO532.out))) (Kd.R_lt (tR HO539.out))) (Kd.R_lt (tR HO545.out))) (Kd.R_lt (tR HO551.out))) (below_size zb)); replace HO_3 := Aside0.mk (Kd.R_elder' (tR HO_3.out) (Kd.R_base ho0) hb); replace HO532 := Aside0.mk (Kd.R_elder' (tR HO532.out) (Kd.R_base ho0) hb); replace HO539 := Aside0.mk (Kd.R_elder' (tR HO539.out) (Kd.R_base ho0) hb); replace HO545 := Aside0.mk (Kd.R_elder' (tR HO545.out) (Kd.R_base ho0) hb); replace HO551 := Aside0.mk (Kd.R_elder' (tR HO551.out) (Kd.R_base ho0) hb); replace BK520 := tBb BK520 hb; replace HB := tBs HB hb; (try clear hb); (try clear hb2); (try clear hk); (try clear hi); (try clear ho0); obtain ⟨Ao49, co49, eo49⟩ := Kd.R_slice HO551.out; subst eo49) | ((with_reducible refine gate_callee (f := 56) rfl ?_); refine goesL_ (some 54) rfl rfl Try.func56 (by kernel_rfl) rfl #[.int .i64 (y549.length : Int), .int .i64 2] rfl tq ?_; (with_reducible refine (spec_l2Int.calls kj11 (y549.length : Int) 2 t556 _ A23.out).mono ?_); rintro e w50 ⟨v557, rfl, ho0, hb⟩; have u_v557 := tsv Try.prog v557 ho0; refine ⟨_, rfl, ?_⟩; have HO558 := Aside0.mk (Kd.R_lower (Kd.R_new' (Kd.R_new' (Kd.R_new' (Kd.R_new' (Kd.R_new' (Kd.R_new' ho0 (Kd.R_lt (tR HO_3.out))) (Kd.R_lt (tR HO532.out))) (Kd.R_lt (tR HO539.out))) (Kd.R_lt (tR HO545.out))) (Kd.R_lt (tR HO551.out))) (Kd.R_lt (tR HO555.out))) (below_size zb)); replace HO_3 := Aside0.mk (Kd.R_elder' (tR HO_3.out) (Kd.R_base ho0) hb); replace HO532 := Aside0.mk (Kd.R_elder' (tR HO532.out) (Kd.R_base ho0) hb); replace HO539 := Aside0.mk (Kd.R_elder' (tR HO539.out) (Kd.R_base ho0) hb); replace HO545 := Aside0.mk (Kd.R_elder' (tR HO545.out) (Kd.R_base ho0) hb); replace HO551 := Aside0.mk (Kd.R_elder' (tR HO551.out) (Kd.R_base ho0) hb); replace HO555 := Aside0.mk (Kd.R_elder' (tR HO555.out) (Kd.R_base ho0) hb); replace BK520 := tBb BK520 hb; replace HB := tBs HB hb; (try clear hb); (try clear hb2); (try clear hk); (try clear hi); (try clear ho0); obtain ⟨Ao52, co52, eo52⟩ := Kd.R_slice HO558.out; subst eo52) | ((with_reducible refine gate_builtin (b := .append) (xs := #[.tmp 51, .tmp 54]) rfl ?_); at_builtin; refine Kd.R_append_rows (Kd.int .i64) (w0 := w) w.heap.size rfl (.tmp 51) (.tmp 54) 26 3 (.int .i64 0) 8 rfl Try.underlying26 info3 rfl (by decide) (by omega) v554 t553 t556 _ _ _ (fun k_ => some k_ ≠ (.slice Ao46 x3_2.length co46 : Value).ownBlock ∧ some k_ ≠ (.slice Ao35 t530.length co35 : Value).ownBlock ∧ some k_ ≠ (.slice Ao39 t537.length co39 : Value).ownBlock ∧ some k_ ≠ (.slice Ao44 y543.length co44 : Value).ownBlock ∧ some k_ ≠ (.slice Ao49 y549.length co49 : Value).ownBlock ∧ some k_ ≠ (.slice Ao52 t556.length co52 : Value).ownBlock) (fun _ => False) rfl rfl ?aO ?aR (fun _ _ h => h) (fun _ h => h.elim) ?aF ?aB ?aS ?aL ?_; (case aR => repeat (first | exact (Kd.R_reads' HO558.out).2.2 | (with_reducible refine Kd.C_alloc ?_ _) | (with_reducible refine Kd.C_drewN ?_ _) | (with_reducible refine Kd.C_drew ?_))); (case aB => exact zb); (case aF => exact (fun k_ hk => ⟨Kd.fresh' (Kd.R_lt (tR HO_3.out)) k_ hk, Kd.fresh' (Kd.R_lt (tR HO532.out)) k_ hk, Kd.fresh' (Kd.R_lt (tR HO539.out)) k_ hk, Kd.fresh' (Kd.R_lt (tR HO545.out)) k_ hk, Kd.fresh' (Kd.R_lt (tR HO551.out)) k_ hk, Kd.fresh' (Kd.R_lt (tR HO558.out)) k_ hk⟩)); (case aO => exact (tRm HO555.out)); (case aS => exact (below_size zb)); (case aL => have := LMc24.out; omega); intro v560 w51 ho hb hg hat; rw [← Ny559.out] at ho; replace HO_3 := Aside0.mk (Kd.R_after (ok := (fun k_ => some k_ ≠ (.slice Ao35 t530.length co35 : Value).ownBlock ∧ some k_ ≠ (.slice Ao39 t537.length co39 : Value).ownBlock ∧ some k_ ≠ (.slice Ao44 y543.length co44 : Value).ownBlock ∧ some k_ ≠ (.slice Ao49 y549.length co49 : Value).ownBlock ∧ some k_ ≠ (.slice Ao52 t556.length co52 : Value).ownBlock)) (tRm HO_3.out) hg hat); replace BK520 := Aside0.mk (blk_grown (tH BK520.out) hg (Kd.R_ne HO555.out BK520.out (by decide))); replace HO532 := Aside0.mk (Kd.R_after (ok := (fun k_ => some k_ ≠ (.slice Ao46 x3_2.length co46 : Value).ownBlock ∧ some k_ ≠ (.slice Ao39 t537.length co39 : Value).ownBlock ∧ some k_ ≠ (.slice Ao44 y543.length co44 : Value).ownBlock ∧ some k_ ≠ (.slice Ao49 y549.length co49 : Value).ownBlock ∧ some k_ ≠ (.slice Ao52 t556.length co52 : Value).ownBlock)) (tRm HO532.out) hg hat); replace HO539 := Aside0.mk (Kd.R_after (ok := (fun k_ => some k_ ≠ (.slice Ao46 x3_2.length co46 : Value).ownBlock ∧ some k_ ≠ (.slice Ao35 t530.length co35 : Value).ownBlock ∧ some k_ ≠ (.slice Ao44 y543.length co44 : Value).ownBlock ∧ some k_ ≠ (.slice Ao49 y549.length co49 : Value).ownBlock ∧ some k_ ≠ (.slice Ao52 t556.length co52 : Value).ownBlock)) (tRm HO539.out) hg hat); replace HO545 := Aside0.mk (Kd.R_after (ok := (fun k_ => some k_ ≠ (.slice Ao46 x3_2.length co46 : Value).ownBlock ∧ some k_ ≠ (.slice Ao35 t530.length co35 : Value).ownBlock ∧ some k_ ≠ (.slice Ao39 t537.length co39 : Value).ownBlock ∧ some k_ ≠ (.slice Ao49 y549.length co49 : Value).ownBlock ∧ some k_ ≠ (.slice Ao52 t556.length co52 : Value).ownBlock)) (tRm HO545.out) hg hat); replace HO551 := Aside0.mk (Kd.R_after (ok := (fun k_ => some k_ ≠ (.slice Ao46 x3_2.length co46 : Value).ownBlock ∧ some k_ ≠ (.slice Ao35 t530.length co35 : Value).ownBlock ∧ some k_ ≠ (.slice Ao39 t537.length co39 : Value).ownBlock ∧ some k_ ≠ (.slice Ao44 y543.length co44 : Value).ownBlock ∧ some k_ ≠ (.slice Ao52 t556.length co52 : Value).ownBlock)) (tRm HO551.out) hg hat); replace HO558 := Aside0.mk (Kd.R_after (ok := (fun k_ => some k_ ≠ (.slice Ao46 x3_2.length co46 : Value).ownBlock ∧ some k_ ≠ (.slice Ao35 t530.length co35 : Value).ownBlock ∧ some k_ ≠ (.slice Ao39 t537.length co39 : Value).ownBlock ∧ some k_ ≠ (.slice Ao44 y543.length co44 : Value).ownBlock ∧ some k_ ≠ (.slice Ao49 y549.length co49 : Value).ownBlock)) (tRm HO558.out) hg hat); replace HB := Aside0.mk (hb); have HO561 := Aside0.mk (ho); clear HO555; clear ho hb hg hat) | ((with_reducible refine gate_callee (f := 57) rfl ?_); refine goesL_ (some 58) rfl rfl Try.func57 (by kernel_rfl) rfl #[.slice Ao49 y549.length co49] rfl tq ?_; (with_reducible refine (spec_l2Sum.calls kj11 _ _ y549 t562 _ ?side1 ?side2 A25.out).mono ?_); (case side1 => repeat (first | exact (Kd.R_reads' HO551.out).2.2 | (with_reducible refine Kd.C_alloc ?_ _) | (with_reducible refine Kd.C_drewN ?_ _) | (with_reducible refine Kd.C_drew ?_))); (case side2 => exact (Kd.R_reads' HO551.out).2.1); rintro e w' ⟨rfl, ⟨nd, rfl⟩⟩; refine ⟨_, rfl, ?_⟩) | ((with_reducible refine gate_callee (f := 56) rfl ?_); refine goesL_ (some 59) rfl rfl Try.func56 (by kernel_rfl) rfl #[.int .i64 t562, .int .i64 2] rfl tq ?_; (with_reducible refine (spec_l2Int.calls kj11 t562 2 t563 _ A26.out).mono ?_); rintro e w53 ⟨v564, rfl, ho0, hb⟩; have u_v564 := tsv Try.prog v564 ho0; refine ⟨_, rfl, ?_⟩; have HO565 := Aside0.mk (Kd.R_lower (Kd.R_new' (Kd.R_new' (Kd.R_new' (Kd.R_new' (Kd.R_new' (Kd.R_new' (Kd.R_new' ho0 (Kd.R_lt (tR HO_3.out))) (Kd.R_lt (tR HO532.out))) (Kd.R_lt (tR HO539.out))) (Kd.R_lt (tR HO545.out))) (Kd.R_lt (tR HO551.out))) (Kd.R_lt (tR HO558.out))) (Kd.R_lt (tR HO561.out))) (below_size zb)); replace HO_3 := Aside0.mk (Kd.R_elder' (tR HO_3.out) (Kd.R_base ho0) hb); replace HO532 := Aside0.mk (Kd.R_elder' (tR HO532.out) (Kd.R_base ho0) hb); replace HO539 := Aside0.mk (Kd.R_elder' (tR HO539.out) (Kd.R_base ho0) hb); replace HO545 := Aside0.mk (Kd.R_elder' (tR HO545.out) (Kd.R_base ho0) hb); replace HO551 := Aside0.mk (Kd.R_elder' (tR HO551.out) (Kd.R_base ho0) hb); replace HO558 := Aside0.mk (Kd.R_elder' (tR HO558.out) (Kd.R_base ho0) hb); replace HO561 := Aside0.mk (Kd.R_elder' (tR HO561.out) (Kd.R_base ho0) hb); replace BK520 := tBb BK520 hb; replace HB := tBs HB hb; (try clear hb); (try clear hb2); (try clear hk); (try clear hi); (try clear ho0); obtain ⟨Ao55, co55, eo55⟩ := Kd.R_slice HO565.out; subst eo55) | ((with_reducible refine gate_builtin (b := .append) (xs := #[.tmp 56, .tmp 59]) rfl ?_); at_builtin; refine Kd.R_append_rows (Kd.int .i64) (w0 := w) w.heap.size rfl (.tmp 56) (.tmp 59) 26 3 (.int .i64 0) 8 rfl Try.underlying26 info3 rfl (by decide) (by omega) v560 y559 t563 _ _ _ (fun k_ => some k_ ≠ (.slice Ao46 x3_2.length co46 : Value).ownBlock ∧ some k_ ≠ (.slice Ao35 t530.length co35 : Value).ownBlock ∧ some k_ ≠ (.slice Ao39 t537.length co39 : Value).ownBlock ∧ some k_ ≠ (.slice Ao44 y543.length co44 : Value).ownBlock ∧ some k_ ≠ (.slice Ao49 y549.length co49 : Value).ownBlock ∧ some k_ ≠ (.slice Ao52 t556.length co52 : Value).ownBlock ∧ some k_ ≠ (.slice Ao55 t563.length co55 : Value).ownBlock) (fun _ => False) rfl rfl ?aO ?aR (fun _ _ h => h) (fun _ h => h.elim) ?aF ?aB ?aS ?aL ?_; (case aR => repeat (first | exact (Kd.R_reads' HO565.out).2.2 | (with_reducible refine Kd.C_alloc ?_ _) | (with_reducible refine Kd.C_drewN ?_ _) | (with_reducible refine Kd.C_drew ?_))); (case aB => exact zb); (case aF => exact (fun k_ hk => ⟨Kd.fresh' (Kd.R_lt (tR HO_3.out)) k_ hk, Kd.fresh' (Kd.R_lt (tR HO532.out)) k_ hk, Kd.fresh' (Kd.R_lt (tR HO539.out)) k_ hk, Kd.fresh' (Kd.R_lt (tR HO545.out)) k_ hk, Kd.fresh' (Kd.R_lt (tR HO551.out)) k_ hk, Kd.fresh' (Kd.R_lt (tR HO558.out)) k_ hk, Kd.fresh' (Kd.R_lt (tR HO565.out)) k_ hk⟩)); (case aO => exact (tRm HO561.out)); (case aS => exact (below_size zb)); (case aL => have := LMc27.out; omega); intro v567 w54 ho hb hg hat; rw [← Ny566.out] at ho; replace HO_3 := Aside0.mk (Kd.R_after (ok := (fun k_ => some k_ ≠ (.slice Ao35 t530.length co35 : Value).ownBlock ∧ some k_ ≠ (.slice Ao39 t537.length co39 : Value).ownBlock ∧ some k_ ≠ (.slice Ao44 y543.length co44 : Value).ownBlock ∧ some k_ ≠ (.slice Ao49 y549.length co49 : Value).ownBlock ∧ some k_ ≠ (.slice Ao52 t556.length co52 : Value).ownBlock ∧ some k_ ≠ (.slice Ao55 t563.length co55 : Value).ownBlock)) (tRm HO_3.out) hg hat); replace BK520 := Aside0.mk (blk_grown (tH BK520.out) hg (Kd.R_ne HO561.out BK520.out (by decide))); replace HO532 := Aside0.mk (Kd.R_after (ok := (fun k_ => some k_ ≠ (.slice Ao46 x3_2.length co46 : Value).ownBlock ∧ some k_ ≠ (.slice Ao39 t537.length co39 : Value).ownBlock ∧ some k_ ≠ (.slice Ao44 y543.length co44 : Value).ownBlock ∧ some k_ ≠ (.slice Ao49 y549.length co49 : Value).ownBlock ∧ some k_ ≠ (.slice Ao52 t556.length co52 : Value).ownBlock ∧ some k_ ≠ (.slice Ao55 t563.length co55 : Value).ownBlock)) (tRm HO532.out) hg hat); replace HO539 := Aside0.mk (Kd.R_after (ok := (fun k_ => some k_ ≠ (.slice Ao46 x3_2.length co46 : Value).ownBlock ∧ some k_ ≠ (.slice Ao35 t530.length co35 : Value).ownBlock ∧ some k_ ≠ (.slice Ao44 y543.length co44 : Value).ownBlock ∧ some k_ ≠ (.slice Ao49 y549.length co49 : Value).ownBlock ∧ some k_ ≠ (.slice Ao52 t556.length co52 : Value).ownBlock ∧ some k_ ≠ (.slice Ao55 t563.length co55 : Value).ownBlock)) (tRm HO539.out) hg hat); replace HO545 := Aside0.mk (Kd.R_after (ok := (fun k_ => some k_ ≠ (.slice Ao46 x3_2.length co46 : Value).ownBlock ∧ some k_ ≠ (.slice Ao35 t530.length co35 : Value).ownBlock ∧ some k_ ≠ (.slice Ao39 t537.length co39 : Value).ownBlock ∧ some k_ ≠ (.slice Ao49 y549.length co49 : Value).ownBlock ∧ some k_ ≠ (.slice Ao52 t556.length co52 : Value).ownBlock ∧ some k_ ≠ (.slice Ao55 t563.length co55 : Value).ownBlock)) (tRm HO545.out) hg hat); replace HO551 := Aside0.mk (Kd.R_after (ok := (fun k_ => some k_ ≠ (.slice Ao46 x3_2.length co46 : Value).ownBlock ∧ some k_ ≠ (.slice Ao35 t530.length co35 : Value).ownBlock ∧ some k_ ≠ (.slice Ao39 t537.length co39 : Value).ownBlock ∧ some k_ ≠ (.slice Ao44 y543.length co44 : Value).ownBlock ∧ some k_ ≠ (.slice Ao52 t556.length co52 : Value).ownBlock ∧ some k_ ≠ (.slice Ao55 t563.length co55 : Value).ownBlock)) (tRm HO551.out) hg hat); replace HO558 := Aside0.mk (Kd.R_after (ok := (fun k_ => some k_ ≠ (.slice Ao46 x3_2.length co46 : Value).ownBlock ∧ some k_ ≠ (.slice Ao35 t530.length co35 : Value).ownBlock ∧ some k_ ≠ (.slice Ao39 t537.length co39 : Value).ownBlock ∧ some k_ ≠ (.slice Ao44 y543.length co44 : Value).ownBlock ∧ some k_ ≠ (.slice Ao49 y549.length co49 : Value).ownBlock ∧ some k_ ≠ (.slice Ao55 t563.length co55 : Value).ownBlock)) (tRm HO558.out) hg hat); replace HO565 := Aside0.mk (Kd.R_after (ok := (fun k_ => some k_ ≠ (.slice Ao46 x3_2.length co46 : Value).ownBlock ∧ some k_ ≠ (.slice Ao35 t530.length co35 : Value).ownBlock ∧ some k_ ≠ (.slice Ao39 t537.length co39 : Value).ownBlock ∧ some k_ ≠ (.slice Ao44 y543.length co44 : Value).ownBlock ∧ some k_ ≠ (.slice Ao49 y549.length co49 : Value).ownBlock ∧ some k_ ≠ (.slice Ao52 t556.length co52 : Value).ownBlock)) (tRm HO565.out) hg hat); replace HB := Aside0.mk (hb); have HO568 := Aside0.mk (ho); clear HO561; clear ho hb hg hat) | ((with_reducible refine gate_builtin (b := .append) (xs := #[.tmp 61, .tmp 62]) rfl ?_); at_builtin; refine Kd.R_append_rows (Kd.int .i64) (w0 := w) w.heap.size rfl (.tmp 61) (.tmp 62) 26 3 (.int .i64 0) 8 rfl Try.underlying26 info3 rfl (by decide) (by omega) v567 y566 y549 _ _ _ (fun k_ => some k_ ≠ (.slice Ao46 x3_2.length co46 : Value).ownBlock ∧ some k_ ≠ (.slice Ao35 t530.length co35 : Value).ownBlock ∧ some k_ ≠ (.slice Ao39 t537.length co39 : Value).ownBlock ∧ some k_ ≠ (.slice Ao44 y543.length co44 : Value).ownBlock ∧ some k_ ≠ (.slice Ao49 y549.length co49 : Value).ownBlock ∧ some k_ ≠ (.slice Ao52 t556.length co52 : Value).ownBlock ∧ some k_ ≠ (.slice Ao55 t563.length co55 : Value).ownBlock) (fun _ => False) rfl rfl ?aO ?aR (fun _ _ h => h) (fun _ h => h.elim) ?aF ?aB ?aS ?aL ?_; (case aR => repeat (first | exact (Kd.R_reads' HO551.out).2.2 | (with_reducible refine Kd.C_alloc ?_ _) | (with_reducible refine Kd.C_drewN ?_ _) | (with_reducible refine Kd.C_drew ?_))); (case aB => exact zb); (case aF => exact (fun k_ hk => ⟨Kd.fresh' (Kd.R_lt (tR HO_3.out)) k_ hk, Kd.fresh' (Kd.R_lt (tR HO532.out)) k_ hk, Kd.fresh' (Kd.R_lt (tR HO539.out)) k_ hk, Kd.fresh' (Kd.R_lt (tR HO545.out)) k_ hk, Kd.fresh' (Kd.R_lt (tR HO551.out)) k_ hk, Kd.fresh' (Kd.R_lt (tR HO558.out)) k_ hk, Kd.fresh' (Kd.R_lt (tR HO565.out)) k_ hk⟩)); (case aO => exact (tR HO568.out)); (case aS => exact (below_size zb)); (case aL => have := LMc28.out; omega); intro v570 w56 ho hb hg hat; rw [← Ny569.out] at ho; replace HO_3 := Aside0.mk (Kd.R_after (ok := (fun k_ => some k_ ≠ (.slice Ao35 t530.length co35 : Value).ownBlock ∧ some k_ ≠ (.slice Ao39 t537.length co39 : Value).ownBlock ∧ some k_ ≠ (.slice Ao44 y543.length co44 : Value).ownBlock ∧ some k_ ≠ (.slice Ao49 y549.length co49 : Value).ownBlock ∧ some k_ ≠ (.slice Ao52 t556.length co52 : Value).ownBlock ∧ some k_ ≠ (.slice Ao55 t563.length co55 : Value).ownBlock)) (tR HO_3.out) hg hat); replace BK520 := Aside0.mk (blk_grown (tH BK520.out) hg (Kd.R_ne HO568.out BK520.out (by decide))); replace HO532 := Aside0.mk (Kd.R_after (ok := (fun k_ => some k_ ≠ (.slice Ao46 x3_2.length co46 : Value).ownBlock ∧ some k_ ≠ (.slice Ao39 t537.length co39 : Value).ownBlock ∧ some k_ ≠ (.slice Ao44 y543.length co44 : Value).ownBlock ∧ some k_ ≠ (.slice Ao49 y549.length co49 : Value).ownBlock ∧ some k_ ≠ (.slice Ao52 t556.length co52 : Value).ownBlock ∧ some k_ ≠ (.slice Ao55 t563.length co55 : Value).ownBlock)) (tR HO532.out) hg hat); replace HO539 := Aside0.mk (Kd.R_after (ok := (fun k_ => some k_ ≠ (.slice Ao46 x3_2.length co46 : Value).ownBlock ∧ some k_ ≠ (.slice Ao35 t530.length co35 : Value).ownBlock ∧ some k_ ≠ (.slice Ao44 y543.length co44 : Value).ownBlock ∧ some k_ ≠ (.slice Ao49 y549.length co49 : Value).ownBlock ∧ some k_ ≠ (.slice Ao52 t556.length co52 : Value).ownBlock ∧ some k_ ≠ (.slice Ao55 t563.length co55 : Value).ownBlock)) (tR HO539.out) hg hat); replace HO545 := Aside0.mk (Kd.R_after (ok := (fun k_ => some k_ ≠ (.slice Ao46 x3_2.length co46 : Value).ownBlock ∧ some k_ ≠ (.slice Ao35 t530.length co35 : Value).ownBlock ∧ some k_ ≠ (.slice Ao39 t537.length co39 : Value).ownBlock ∧ some k_ ≠ (.slice Ao49 y549.length co49 : Value).ownBlock ∧ some k_ ≠ (.slice Ao52 t556.length co52 : Value).ownBlock ∧ some k_ ≠ (.slice Ao55 t563.length co55 : Value).ownBlock)) (tR HO545.out) hg hat); replace HO551 := Aside0.mk (Kd.R_after (ok := (fun k_ => some k_ ≠ (.slice Ao46 x3_2.length co46 : Value).ownBlock ∧ some k_ ≠ (.slice Ao35 t530.length co35 : Value).ownBlock ∧ some k_ ≠ (.slice Ao39 t537.length co39 : Value).ownBlock ∧ some k_ ≠ (.slice Ao44 y543.length co44 : Value).ownBlock ∧ some k_ ≠ (.slice Ao52 t556.length co52 : Value).ownBlock ∧ some k_ ≠ (.slice Ao55 t563.length co55 : Value).ownBlock)) (tR HO551.out) hg hat); replace HO558 := Aside0.mk (Kd.R_after (ok := (fun k_ => some k_ ≠ (.slice Ao46 x3_2.length co46 : Value).ownBlock ∧ some k_ ≠ (.slice Ao35 t530.length co35 : Value).ownBlock ∧ some k_ ≠ (.slice Ao39 t537.length co39 : Value).ownBlock ∧ some k_ ≠ (.slice Ao44 y543.length co44 : Value).ownBlock ∧ some k_ ≠ (.slice Ao49 y549.length co49 : Value).ownBlock ∧ some k_ ≠ (.slice Ao55 t563.length co55 : Value).ownBlock)) (tR HO558.out) hg hat); replace HO565 := Aside0.mk (Kd.R_after (ok := (fun k_ => some k_ ≠ (.slice Ao46 x3_2.length co46 : Value).ownBlock ∧ some k_ ≠ (.slice Ao35 t530.length co35 : Value).ownBlock ∧ some k_ ≠ (.slice Ao39 t537.length co39 : Value).ownBlock ∧ some k_ ≠ (.slice Ao44 y543.length co44 : Value).ownBlock ∧ some k_ ≠ (.slice Ao49 y549.length co49 : Value).ownBlock ∧ some k_ ≠ (.slice Ao52 t556.length co52 : Value).ownBlock)) (tR HO565.out) hg hat); replace HB := Aside0.mk (hb); have HO571 := Aside0.mk (ho); clear HO568; clear ho hb hg hat))
             go_ret
             exact ⟨_, by first | rfl | (simp [errW_none, errW_some] <;> rfl) | (simp [*, errW_none, errW_some] <;> rfl), tRm HO571.out, zb⟩
            ·rw [if_neg c28] at H
             exact absurd H (by simp)
           ·rw [if_neg c27] at H
            exact absurd H (by simp)
          ·rw [if_neg c24] at H
           exact absurd H (by simp)
         ·rw [if_neg c21] at H
          exact absurd H (by simp)
        ·rw [if_neg c20] at H
         exact absurd H (by simp)
       ·rw [if_neg c19] at H
        exact absurd H (by simp)
      ·rw [if_neg c17] at H
       exact absurd H (by simp)
     ·rw [if_neg c16] at H
      exact absurd H (by simp)

def spec_l33Size.l0 : Nat → List (S46) → Int → Int → Option (Int)
 | 0, _, _, _ => none
 | k + 1, x0, x3, x4 => if x4 < (x0.length : Int) then (if 0 ≤ x4 then ((spec_l5Bytes.f k ((rd_T46 x0 x4).f0) ((rd_T46 x0 x4).f1) ((rd_T46 x0 x4).f2) ((rd_T46 x0 x4).f3) ((rd_T46 x0 x4).f4) ((rd_T46 x0 x4).f5)).bind fun t573 => (spec_l33Size.l0 k x0 (wrap64 (x3 + (t573.length : Int))) (wrap64 (x4 + 1)))) else (none)) else (some x3)
def spec_l33Size.f (k : Nat) (l0 : List (S46)) : Option (Int) := spec_l33Size.l0 k l0 0 0
set_option maxHeartbeats 8000000 in
set_option maxRecDepth 100000 in
theorem spec_l33Size.calls (k : Nat) (A0 : Option Addr) (c0 : Nat) (l0 : List (S46)) (r : Int) (w : World) (hr0 : Kd.C k46 w A0 l0.length l0) (hc0 : l0.length ≤ c0) (h : spec_l33Size.f k l0 = some r) :
  Calls Try.prog 24 #[.slice A0 l0.length c0] w fun e w' => e = .returned (.int .i64 r) ∧ Below w.heap.size w w' := by
 have hu46 := Try.underlying46
 have HR0 := Aside0.mk hr0
 have HC0 := Aside0.mk hc0
 clear hr0 hc0
 have HB := Aside0.mk (Below.refl w.heap.size w)
 have H : (spec_l33Size.l0 k l0 0 0) = some r := h
 clear h
 have H' := Aside0.mk H
 clear H
 go_enter Try.func24, Try.ntmps24
 go_wp2
 go_loopg [3, 4] k (fun kq v3 v4 w' => ∃ (x3_1 : Int) (x4_1 : Int), v3 = .int .i64 x3_1 ∧ v4 = .int .i64 x4_1 ∧ Aside0 (spec_l33Size.l0 kq l0 x3_1 x4_1 = some r) ∧ Aside0 (kq ≤ k) ∧ Aside0 (Below w.heap.size w w'))
 case atStart => exact ⟨(0), (0), tr, tr, H', ⟨Nat.le_refl _⟩, ⟨zb⟩⟩
 case round =>
  clear H'
  obtain ⟨x3_1, x4_1, rfl, rfl, HA, HK1, HB⟩ := hrel
  cases gk with
  | zero => exact absurd HA.out (by simp [spec_l33Size.l0])
  | succ k1 =>
   have H := HA.out
   clear HA
   simp only [spec_l33Size.l0] at H
   by_cases c2 : x4_1 < (l0.length : Int)
   ·rw [if_pos c2] at H
    have c2b0 : decide (x4_1 < (l0.length : Int)) = true := decide_eq_true c2
    clear c2
    by_cases c3 : 0 ≤ x4_1
    ·rw [if_pos c3] at H
     have c3b0 : decide (0 ≤ x4_1) = true := decide_eq_true c3
     clear c3
     replace H := tbe H
     obtain ⟨t573, A4, H⟩ := H
     have H' := Aside0.mk H
     clear H
     have p572 : 0 ≤ (x4_1 : Int) := td
     have q572 : x4_1 < (l0.length : Int) := td
     obtain ⟨ad572, A572_5, c572_5, e572, hx572_0, hx572_1, hx572_2, hx572_3, hx572_4, hx572_5, hl572_5, hi572_5⟩ := at_T46 HR0.out x4_1 p572 q572
     cases e572
     replace hx572_0 := tcl HB hx572_0
     replace hx572_1 := tcl HB hx572_1
     replace hx572_2 := tcl HB hx572_2
     replace hx572_3 := tcl HB hx572_3
     replace hx572_4 := tcl HB hx572_4
     replace hx572_5 := tcl HB hx572_5
     have HR572_5 := Aside0.mk hi572_5
     have HC572_5 := Aside0.mk hl572_5
     clear hi572_5 hl572_5
     replace p572 := eq_true p572
     replace q572 := eq_true q572
     go_wp2_with (first | ((with_reducible refine gate_callee (f := 41) rfl ?_); refine goesL_ (some 16) rfl rfl Try.func41 (by kernel_rfl) rfl #[.agg #[.bool ((rd_T46 l0 x4_1).f0), .bool ((rd_T46 l0 x4_1).f1), .int .i64 ((rd_T46 l0 x4_1).f2), .int .i64 ((rd_T46 l0 x4_1).f3), .int .i64 ((rd_T46 l0 x4_1).f4), .slice A572_5 ((rd_T46 l0 x4_1).f5).length c572_5]] rfl tq ?_; (with_reducible refine (spec_l5Bytes.calls k1 ((rd_T46 l0 x4_1).f0) ((rd_T46 l0 x4_1).f1) ((rd_T46 l0 x4_1).f2) ((rd_T46 l0 x4_1).f3) ((rd_T46 l0 x4_1).f4) _ _ ((rd_T46 l0 x4_1).f5) t573 _ ?side1 ?side2 A4.out).mono ?_); (case side1 => exact tC (Kd.C_below HR572_5.out HB.out)); (case side2 => exact HC572_5.out); rintro e w5 ⟨v574, rfl, ho0, hb⟩; have u_v574 := tsv Try.prog v574 ho0; refine ⟨_, rfl, ?_⟩; have HO575 := tRl ho0 HB; replace HB := tBs HB hb; (try clear hb); (try clear hb2); (try clear hk); (try clear hi); (try clear ho0); obtain ⟨Ao6, co6, eo6⟩ := Kd.R_slice HO575.out; subst eo6))
     go_roundg k1
     case measure => have := HK1.out; omega
     case rel => exact ⟨(wrap64 (x3_1 + (t573.length : Int))), (wrap64 (x4_1 + 1)), tr, tr, H', ⟨by have := HK1.out; omega⟩, ⟨zb⟩⟩
    ·rw [if_neg c3] at H
     exact absurd H (by simp)
   ·rw [if_neg c2] at H
    have c2b0 : decide (x4_1 < (l0.length : Int)) = false := decide_eq_false c2
    clear c2
    obtain rfl := Option.some.inj H
    go_wp2
    go_ret
    exact ⟨by first | rfl | (simp [errW_none, errW_some] <;> rfl) | (simp [*, errW_none, errW_some] <;> rfl), zb⟩

end Go.Proofs.Ythoioccmnphfgaa.G

namespace Go.Proofs.Ythoioccmnphfgaa.G
open Go.RowKit Go.Proofs.YthoioccmnphfgaaW.PrintWords Go.Proofs.YthoioccmnphfgaaW.PrintLast Go.Proofs.YthoioccmnphfgaaW.PrintMore
attribute [local go_sem] max2_int min2_int max_two min_two max_three min_three max_four min_four   -- for this text's walks alone
set_option linter.unusedVariables false
set_option linter.unusedSimpArgs false

def spec_DrawKeepSize.f (k : Nat) (l0 : List Int) : Option ((List (S46)) × Int) := (spec_l6Open.f l0).bind fun bt611 => ((spec_l92Log.f k bt611.1 bt611.2).bind fun bt614 => ((spec_l6Rd_pick.f k bt611.1 bt614.2 250).bind fun bt618 => ((spec_l6Rd_pick.f k bt611.1 bt618.2 30).bind fun bt620 => (some (bt614.1, wrap64 (bt618.1 - (wrap64 ((wrap64 (Int.tdiv bt620.1 29)) * 251))))))))
set_option maxHeartbeats 8000000 in
set_option maxRecDepth 100000 in
theorem spec_DrawKeepSize.calls (k : Nat) (A0 : Option Addr) (c0 : Nat) (l0 : List Int) (r1 : List (S46)) (r2 : Int) (w : World) (hr0 : Kd.C (Kd.int .u8) w A0 l0.length l0) (hc0 : l0.length ≤ c0) (h : spec_DrawKeepSize.f k l0 = some (r1, r2)) :
  Calls Try.prog 13 #[.slice A0 l0.length c0] w fun e w' => ∃ v0_ : Value, e = .returned (.tuple #[v0_, .int .i64 r2]) ∧ Kd.N k46 46 w' w.heap.size (fun k_ => (w.heap.size ≤ k_)) v0_ r1 ∧ Below w.heap.size w w' := by
 have HR0 := Aside0.mk hr0
 have HC0 := Aside0.mk hc0
 clear hr0 hc0
 have HB := Aside0.mk (Below.refl w.heap.size w)
 have H : ((spec_l6Open.f l0).bind fun bt611 => ((spec_l92Log.f k bt611.1 bt611.2).bind fun bt614 => ((spec_l6Rd_pick.f k bt611.1 bt614.2 250).bind fun bt618 => ((spec_l6Rd_pick.f k bt611.1 bt618.2 30).bind fun bt620 => (some (bt614.1, wrap64 (bt618.1 - (wrap64 ((wrap64 (Int.tdiv bt620.1 29)) * 251))))))))) = some (r1, r2) := h
 clear h
 replace H := tbe H
 obtain ⟨⟨t611, t612⟩, A2, H⟩ := H
 dsimp only at H
 replace H := tbe H
 obtain ⟨⟨t614, t617⟩, A3, H⟩ := H
 dsimp only at H
 replace H := tbe H
 obtain ⟨⟨t618, t619⟩, A4, H⟩ := H
 dsimp only at H
 replace H := tbe H
 obtain ⟨⟨t620, t621⟩, A5, H⟩ := H
 dsimp only at H
 simp only [Option.some.injEq, Prod.mk.injEq] at H
 obtain ⟨rfl, rfl⟩ := H
 go_enter Try.func13, Try.ntmps13
 go_wp2_with (first | ((with_reducible refine gate_callee (f := 20) rfl ?_); refine goesL_ (some 7) rfl rfl Try.func20 (by kernel_rfl) rfl #[.slice A0 l0.length c0] rfl tq ?_; (with_reducible refine (spec_l6Open.calls _ _ l0 t611 t612 w _ ?side1 ?side2 ?side3 A2.out).mono ?_); (case side1 => exact zb); (case side2 => exact HR0.out); (case side3 => exact HC0.out); rintro e w6 ⟨g613, rfl, hi, hb, hb2⟩; refine ⟨_, rfl, ?_⟩; replace HB := Aside0.mk (hb); have HI613 := Aside0.mk (hi); (try clear hb); (try clear hb2); (try clear hk); (try clear hi)) | ((with_reducible refine gate_callee (f := 19) rfl ?_); refine goesL_ (some 9) rfl rfl Try.func19 (by kernel_rfl) rfl #[.pointer (some ⟨g613, 0, none⟩)] rfl tq ?_; (with_reducible refine (spec_l92Log.calls k g613 t611 t612 t614 t617 w _ ?side1 ?side2 A3.out).mono ?_); (case side1 => repeat (first | (with_reducible first | exact HI613.out | apply IsS65.alloc | apply IsS65.drewN | apply IsS65.drew | apply IsS65.set_1) | exact HI613.out)); (case side2 => repeat (first | (with_reducible first | exact HB.out | apply below_alloc | apply pw_below_drewN | apply below_drew1 | refine below_set ?_ (IsS65.ge HI613.out)) | exact HB.out)); rintro e w7 ⟨v615, rfl, ho0, hi, hb, hk⟩; have u_v615 := tsv Try.prog v615 ho0; refine ⟨_, rfl, ?_⟩; have HO616 := Aside0.mk (Kd.N_lower (Kd.N_mono (ok' := fun k_ => (w.heap.size ≤ k_) ∧ k_ ≠ g613) ho0 (fun k_ hk_ => ⟨(Nat.le_trans (below_size (by repeat (first | (with_reducible first | exact HB.out | apply below_alloc | apply pw_below_drewN | apply below_drew1 | refine below_set ?_ (IsS65.ge HI613.out)) | exact HB.out))) hk_), (IsS65.fresh (by repeat (first | (with_reducible first | exact HI613.out | apply IsS65.alloc | apply IsS65.drewN | apply IsS65.drew | apply IsS65.set_1) | exact HI613.out)) k_ hk_)⟩)) (below_size (by repeat (first | (with_reducible first | exact HB.out | apply below_alloc | apply pw_below_drewN | apply below_drew1 | refine below_set ?_ (IsS65.ge HI613.out)) | exact HB.out)))); replace HB := Aside0.mk (hb); replace HI613 := Aside0.mk (hi); (try clear hb); (try clear hb2); (try clear hk); (try clear hi); (try clear ho0)) | ((with_reducible refine gate_callee (f := 26) rfl ?_); refine goesL_ (some 12) rfl rfl Try.func26 (by kernel_rfl) rfl #[.pointer (some ⟨g613, 0, none⟩), .int .i64 250] rfl tq ?_; (with_reducible refine (spec_l6Rd_pick.calls k g613 t611 t617 250 t618 t619 w _ ?side1 ?side2 A4.out).mono ?_); (case side1 => repeat (first | (with_reducible first | exact HI613.out | apply IsS65.alloc | apply IsS65.drewN | apply IsS65.drew | apply IsS65.set_1) | exact HI613.out)); (case side2 => repeat (first | (with_reducible first | exact HB.out | apply below_alloc | apply pw_below_drewN | apply below_drew1 | refine below_set ?_ (IsS65.ge HI613.out)) | exact HB.out)); rintro e w8 ⟨rfl, hi, hb, hk⟩; refine ⟨_, rfl, ?_⟩; replace HO616 := tNk HO616 hk; replace HB := Aside0.mk (hb); replace HI613 := Aside0.mk (hi); (try clear hb); (try clear hb2); (try clear hk); (try clear hi)) | ((with_reducible refine gate_callee (f := 26) rfl ?_); refine goesL_ (some 14) rfl rfl Try.func26 (by kernel_rfl) rfl #[.pointer (some ⟨g613, 0, none⟩), .int .i64 30] rfl tq ?_; (with_reducible refine (spec_l6Rd_pick.calls k g613 t611 t619 30 t620 t621 w _ ?side1 ?side2 A5.out).mono ?_); (case side1 => repeat (first | (with_reducible first | exact HI613.out | apply IsS65.alloc | apply IsS65.drewN | apply IsS65.drew | apply IsS65.set_1) | exact HI613.out)); (case side2 => repeat (first | (with_reducible first | exact HB.out | apply below_alloc | apply pw_below_drewN | apply below_drew1 | refine below_set ?_ (IsS65.ge HI613.out)) | exact HB.out)); rintro e w9 ⟨rfl, hi, hb, hk⟩; refine ⟨_, rfl, ?_⟩; replace HO616 := tNk HO616 hk; replace HB := Aside0.mk (hb); replace HI613 := Aside0.mk (hi); (try clear hb); (try clear hb2); (try clear hk); (try clear hi)))
 go_ret2
 exact ⟨_, by first | rfl | (simp [errW_none, errW_some] <;> rfl) | (simp [*, errW_none, errW_some] <;> rfl), tNm HO616.out, by repeat (first | (with_reducible first | exact HB.out | apply below_alloc | apply pw_below_drewN | apply below_drew1 | refine below_set ?_ (IsS65.ge HI613.out)) | exact HB.out)⟩

def impl_room_fits.f (k : Nat) (a0 : Int) (l1 : List (S46)) (a2 : Int) : Option (Bool) := if 0 ≤ a2 then (if a2 ≤ (l1.length : Int) then ((impl_sizeOf.f k (l1.drop (a2 : Int).toNat)).bind fun t626 => (some (decide (t626 ≤ a0)))) else (none)) else (none)
set_option maxHeartbeats 8000000 in
set_option maxRecDepth 100000 in
theorem impl_room_fits.calls (k : Nat) (a0 : Int) (A1 : Option Addr) (c1 : Nat) (l1 : List (S46)) (a2 : Int) (r : Bool) (w : World) (hr1 : Kd.C k46 w A1 l1.length l1) (hc1 : l1.length ≤ c1) (h : impl_room_fits.f k a0 l1 a2 = some r) :
  Calls Try.prog 29 #[.int .i64 a0, .slice A1 l1.length c1, .int .i64 a2] w fun e w' => e = .returned (.bool r) ∧ Below w.heap.size w w' := by
 have HR1 := Aside0.mk hr1
 have HC1 := Aside0.mk hc1
 clear hr1 hc1
 have HB := Aside0.mk (Below.refl w.heap.size w)
 have H : (if 0 ≤ a2 then (if a2 ≤ (l1.length : Int) then ((impl_sizeOf.f k (l1.drop (a2 : Int).toNat)).bind fun t626 => (some (decide (t626 ≤ a0)))) else (none)) else (none)) = some r := h
 clear h
 by_cases c4 : 0 ≤ a2
 ·rw [if_pos c4] at H
  have c4b0 := eq_true c4
  have c4b1 : decide (0 ≤ a2) = true := decide_eq_true c4
  clear c4
  by_cases c5 : a2 ≤ (l1.length : Int)
  ·rw [if_pos c5] at H
   have c5b0 := eq_true c5
   have c5b1 : decide (a2 ≤ (l1.length : Int)) = true := decide_eq_true c5
   clear c5
   obtain ⟨y622, hy622⟩ : ∃ y_ : List (S46), y_ = (l1.drop (a2 : Int).toNat) := ⟨_, rfl⟩
   replace H : ((impl_sizeOf.f k y622).bind fun t626 => (some (decide (t626 ≤ a0)))) = some r := by first | (rw [hy622]; with_reducible exact H) | (have H2_ := (Option.bind_some _ _).symm.trans H; rw [hy622]; with_reducible exact H2_) | (have H2_ := (Option.bind_some _ _).symm.trans H; with_reducible exact H2_) | with_reducible exact H | (rw [hy622]; exact H) | exact H
   have Ny622 := Aside0.mk hy622
   clear hy622
   replace H := tbe H
   obtain ⟨t626, A6, H⟩ := H
   obtain rfl := Option.some.inj H
   have q7 : (a2 : Int) ≤ ((l1.length : Int) : Int) := td
   obtain ⟨i07, hi07, _, hsz7, _⟩ := info_parts info46
   have hroom7 : l1.length ≤ c1 := HC1.out
   have hC7 : Kd.C k46 _ A1 l1.length l1 := HR1.out
   have q07 : (0 : Int) ≤ (a2 : Int) := td
   have hcut7 := cut_from (P := Try.prog) 23 46 .i64 Try.underlying23 hi07 6 hsz7 A1 l1.length c1 a2 q07 q7
   have hr7 := Kd.C_drop (m := (a2 : Int).toNat) (c := c1) hC7 (by omega) hroom7
   obtain ⟨A7, hA7⟩ : ∃ A_, A_ = (if c1 = (a2 : Int).toNat then A1 else (A1 : Option Addr).map (·.add ((a2 : Int).toNat * 6))) := ⟨_, rfl⟩
   obtain ⟨c7, hc7⟩ : ∃ c_, c_ = c1 - (a2 : Int).toNat := ⟨_, rfl⟩
   have hy7 : y622.length = l1.length - (a2 : Int).toNat := (by rw [Ny622.out, List.length_drop] <;> omega)
   rw [show (l1).drop (a2 : Int).toNat = y622 from Ny622.out.symm] at hr7
   replace hr7 : Kd.C k46 _ A7 y622.length y622 := (by rw [hA7]; exact hr7)
   rw [← hy7, ← hA7, ← hc7] at hcut7
   have HR625 := Aside0.mk hr7
   have HC625 := Aside0.mk (show y622.length ≤ c7 from by rw [hy7, hc7]; exact Nat.sub_le_sub_right hroom7 _)
   clear hr7 hC7 hroom7 hi07 hsz7 hc7
   have KY7 := Aside0.mk hy7
   have KA7 := Aside0.mk hA7
   clear hy7 hA7
   replace q7 := eq_true q7
   go_enter Try.func29, Try.ntmps29
   go_wp2_with (first | ((with_reducible refine gate_callee (f := 22) rfl ?_); refine goesL_ (some 10) rfl rfl Try.func22 (by kernel_rfl) rfl #[.slice A7 y622.length c7] rfl tq ?_; (with_reducible refine (impl_sizeOf.calls k _ _ y622 t626 _ ?side1 ?side2 A6.out).mono ?_); (case side1 => exact tC HR625.out); (case side2 => exact HC625.out); rintro e w8 ⟨rfl, hb⟩; refine ⟨_, rfl, ?_⟩; replace HB := tBs HB hb; (try clear hb); (try clear hb2); (try clear hk); (try clear hi)))
   go_ret
   exact ⟨by first | rfl | (simp [errW_none, errW_some] <;> rfl) | (simp [*, errW_none, errW_some] <;> rfl), zb⟩
  ·rw [if_neg c5] at H
   exact absurd H (by simp)
 ·rw [if_neg c4] at H
  exact absurd H (by simp)

def impl_keptFrom.l0 : Nat → List (S46) → Int → Int → Int → Option (Int)
 | 0, _, _, _, _ => none
 | k + 1, x0, x1, x7, x8 => if x8 < x7 then ((impl_room_fits.f k x1 x0 x8).bind fun t627 => (if t627 = true then (some x8) else (impl_keptFrom.l0 k x0 x1 x7 (wrap64 (x8 + 1))))) else (some (mx (wrap64 ((x0.length : Int) - 1)) 0))
def impl_keptFrom.f (k : Nat) (l0 : List (S46)) (a1 : Int) : Option (Int) := impl_keptFrom.l0 k l0 a1 (l0.length : Int) 0
set_option maxHeartbeats 8000000 in
set_option maxRecDepth 100000 in
theorem impl_keptFrom.calls (k : Nat) (A0 : Option Addr) (c0 : Nat) (l0 : List (S46)) (a1 : Int) (r : Int) (w : World) (hr0 : Kd.C k46 w A0 l0.length l0) (hc0 : l0.length ≤ c0) (h : impl_keptFrom.f k l0 a1 = some r) :
  Calls Try.prog 28 #[.slice A0 l0.length c0, .func (.func 29) #[.int .i64 a1] #[]] w fun e w' => e = .returned (.int .i64 r) ∧ Below w.heap.size w w' := by
 have HR0 := Aside0.mk hr0
 have HC0 := Aside0.mk hc0
 clear hr0 hc0
 have HB := Aside0.mk (Below.refl w.heap.size w)
 have H : (impl_keptFrom.l0 k l0 a1 (l0.length : Int) 0) = some r := h
 clear h
 have H' := Aside0.mk H
 clear H
 go_enter Try.func28, Try.ntmps28
 go_wp2
 go_loopg [8] k (fun kq v8 w' => ∃ (x8_1 : Int), v8 = .int .i64 x8_1 ∧ Aside0 (impl_keptFrom.l0 kq l0 a1 (l0.length : Int) x8_1 = some r) ∧ Aside0 (kq ≤ k) ∧ Aside0 (Below w.heap.size w w'))
 case atStart => exact ⟨(0), tr, H', ⟨Nat.le_refl _⟩, ⟨zb⟩⟩
 case round =>
  clear H'
  obtain ⟨x8_1, rfl, HA, HK1, HB⟩ := hrel
  cases gk with
  | zero => exact absurd HA.out (by simp [impl_keptFrom.l0])
  | succ k1 =>
   have H := HA.out
   clear HA
   simp only [impl_keptFrom.l0] at H
   by_cases c3 : x8_1 < (l0.length : Int)
   ·rw [if_pos c3] at H
    have c3b0 : decide (x8_1 < (l0.length : Int)) = true := decide_eq_true c3
    clear c3
    replace H := tbe H
    obtain ⟨t627, A4, H⟩ := H
    by_cases c5 : t627 = true
    ·subst c5
     rw [if_pos rfl] at H
     obtain rfl := Option.some.inj H
     go_wp2_with (first | ((with_reducible refine gate_val (x := 11) rfl ?_); refine goesC_ (some 14) rfl rfl 11 rfl Try.func29 (by kernel_rfl) rfl #[.int .i64 a1, .slice A0 l0.length c0, .int .i64 x8_1] rfl tq ?_; (with_reducible refine (impl_room_fits.calls k1 a1 _ _ l0 x8_1 true _ ?side1 ?side2 A4.out).mono ?_); (case side1 => exact tC (Kd.C_below HR0.out HB.out)); (case side2 => exact HC0.out); rintro e w6 ⟨rfl, hb⟩; refine ⟨_, rfl, ?_⟩; replace HB := tBs HB hb; (try clear hb); (try clear hb2); (try clear hk); (try clear hi)))
     go_ret
     exact ⟨by first | rfl | (simp [errW_none, errW_some] <;> rfl) | (simp [*, errW_none, errW_some] <;> rfl), zb⟩
    ·replace c5 := Bool.eq_false_iff.mpr c5
     subst c5
     rw [if_neg (show ¬ (false = true) by decide)] at H
     have H' := Aside0.mk H
     clear H
     go_wp2_with (first | ((with_reducible refine gate_val (x := 11) rfl ?_); refine goesC_ (some 14) rfl rfl 11 rfl Try.func29 (by kernel_rfl) rfl #[.int .i64 a1, .slice A0 l0.length c0, .int .i64 x8_1] rfl tq ?_; (with_reducible refine (impl_room_fits.calls k1 a1 _ _ l0 x8_1 false _ ?side1 ?side2 A4.out).mono ?_); (case side1 => exact tC (Kd.C_below HR0.out HB.out)); (case side2 => exact HC0.out); rintro e w7 ⟨rfl, hb⟩; refine ⟨_, rfl, ?_⟩; replace HB := tBs HB hb; (try clear hb); (try clear hb2); (try clear hk); (try clear hi)))
     go_roundg k1
     case measure => have := HK1.out; omega
     case rel => exact ⟨(wrap64 (x8_1 + 1)), tr, H', ⟨by have := HK1.out; omega⟩, ⟨zb⟩⟩
   ·rw [if_neg c3] at H
    have c3b0 : decide (x8_1 < (l0.length : Int)) = false := decide_eq_false c3
    clear c3
    obtain ⟨ji8, hji8⟩ : ∃ j_ : Int, (mx (wrap64 ((l0.length : Int) - 1)) 0) = j_ := ⟨_, rfl⟩
    replace H : (some ji8) = some r := by first | (rw [hji8] at H; exact H) | (simp only [hji8] at H ⊢; exact H)
    have hji8_ : (if (wrap64 ((l0.length : Int) - 1)) < 0 then 0 else (wrap64 ((l0.length : Int) - 1))) = ji8 := hji8
    obtain rfl := Option.some.inj H
    go_wp2
    go_ret
    exact ⟨by first | rfl | (simp [errW_none, errW_some] <;> rfl) | (simp only [← hji8]; first | rfl | (simp [errW_none, errW_some] <;> rfl)) | (simp [*, errW_none, errW_some] <;> rfl), zb⟩

def impl_KeepSize.f (k : Nat) (l0 : List (S46)) (a1 : Int) : Option (Int) := (impl_LogValid.f k l0).bind fun t628 => (if t628 = true then ((impl_within.f a1 0 99999).bind fun t629 => (if t629 = true then ((impl_keptFrom.f k l0 a1).bind fun t630 => (some t630)) else (some (-1)))) else (some (-1)))
set_option maxHeartbeats 8000000 in
set_option maxRecDepth 100000 in
theorem impl_KeepSize.calls (k : Nat) (A0 : Option Addr) (c0 : Nat) (l0 : List (S46)) (a1 : Int) (r : Int) (w : World) (hr0 : Kd.C k46 w A0 l0.length l0) (hc0 : l0.length ≤ c0) (h : impl_KeepSize.f k l0 a1 = some r) :
  Calls Try.prog 14 #[.slice A0 l0.length c0, .int .i64 a1] w fun e w' => e = .returned (.int .i64 r) ∧ Below w.heap.size w w' := by
 have HR0 := Aside0.mk hr0
 have HC0 := Aside0.mk hc0
 clear hr0 hc0
 have HB := Aside0.mk (Below.refl w.heap.size w)
 have H : ((impl_LogValid.f k l0).bind fun t628 => (if t628 = true then ((impl_within.f a1 0 99999).bind fun t629 => (if t629 = true then ((impl_keptFrom.f k l0 a1).bind fun t630 => (some t630)) else (some (-1)))) else (some (-1)))) = some r := h
 clear h
 replace H := tbe H
 obtain ⟨t628, A3, H⟩ := H
 by_cases c4 : t628 = true
 ·subst c4
  rw [if_pos rfl] at H
  replace H := tbe H
  obtain ⟨t629, A5, H⟩ := H
  by_cases c6 : t629 = true
  ·subst c6
   rw [if_pos rfl] at H
   replace H := tbe H
   obtain ⟨t630, A7, H⟩ := H
   obtain rfl := Option.some.inj H
   go_enter Try.func14, Try.ntmps14
   go_wp2_with (first | ((with_reducible refine gate_callee (f := 21) rfl ?_); refine goesL_ (some 6) rfl rfl Try.func21 (by kernel_rfl) rfl #[.slice A0 l0.length c0] rfl tq ?_; (with_reducible refine (impl_LogValid.calls k _ _ l0 true _ ?side1 ?side2 A3.out).mono ?_); (case side1 => exact tC HR0.out); (case side2 => exact HC0.out); rintro e w8 ⟨rfl, hb⟩; refine ⟨_, rfl, ?_⟩; replace HB := tBs HB hb; (try clear hb); (try clear hb2); (try clear hk); (try clear hi)) | (go_at_call 27; (with_reducible refine (impl_within.calls a1 0 99999 true _ A5.out).mono ?_); rintro e w' ⟨rfl, ⟨nd, rfl⟩⟩) | ((with_reducible refine gate_callee (f := 28) rfl ?_); refine goesL_ (some 16) rfl rfl Try.func28 (by kernel_rfl) rfl #[.slice A0 l0.length c0, .func (.func 29) #[.int .i64 a1] #[]] rfl tq ?_; (with_reducible refine (impl_keptFrom.calls k _ _ l0 a1 t630 _ ?side1 ?side2 A7.out).mono ?_); (case side1 => exact tC (Kd.C_below HR0.out zb)); (case side2 => exact HC0.out); rintro e w9 ⟨rfl, hb⟩; refine ⟨_, rfl, ?_⟩; replace HB := tBs HB hb; (try clear hb); (try clear hb2); (try clear hk); (try clear hi)))
   go_ret
   exact ⟨by first | rfl | (simp [errW_none, errW_some] <;> rfl) | (simp [*, errW_none, errW_some] <;> rfl), zb⟩
  ·replace c6 := Bool.eq_false_iff.mpr c6
   subst c6
   rw [if_neg (show ¬ (false = true) by decide)] at H
   obtain rfl := Option.some.inj H
   go_enter Try.func14, Try.ntmps14
   go_wp2_with (first | ((with_reducible refine gate_callee (f := 21) rfl ?_); refine goesL_ (some 6) rfl rfl Try.func21 (by kernel_rfl) rfl #[.slice A0 l0.length c0] rfl tq ?_; (with_reducible refine (impl_LogValid.calls k _ _ l0 true _ ?side1 ?side2 A3.out).mono ?_); (case side1 => exact tC HR0.out); (case side2 => exact HC0.out); rintro e w10 ⟨rfl, hb⟩; refine ⟨_, rfl, ?_⟩; replace HB := tBs HB hb; (try clear hb); (try clear hb2); (try clear hk); (try clear hi)) | (go_at_call 27; (with_reducible refine (impl_within.calls a1 0 99999 false _ A5.out).mono ?_); rintro e w' ⟨rfl, ⟨nd, rfl⟩⟩))
   go_ret
   exact ⟨by first | rfl | (simp [errW_none, errW_some] <;> rfl) | (simp [*, errW_none, errW_some] <;> rfl), zb⟩
 ·replace c4 := Bool.eq_false_iff.mpr c4
  subst c4
  rw [if_neg (show ¬ (false = true) by decide)] at H
  obtain rfl := Option.some.inj H
  go_enter Try.func14, Try.ntmps14
  go_wp2_with (first | ((with_reducible refine gate_callee (f := 21) rfl ?_); refine goesL_ (some 6) rfl rfl Try.func21 (by kernel_rfl) rfl #[.slice A0 l0.length c0] rfl tq ?_; (with_reducible refine (impl_LogValid.calls k _ _ l0 false _ ?side1 ?side2 A3.out).mono ?_); (case side1 => exact tC HR0.out); (case side2 => exact HC0.out); rintro e w11 ⟨rfl, hb⟩; refine ⟨_, rfl, ?_⟩; replace HB := tBs HB hb; (try clear hb); (try clear hb2); (try clear hk); (try clear hi)))
  go_ret
  exact ⟨by first | rfl | (simp [errW_none, errW_some] <;> rfl) | (simp [*, errW_none, errW_some] <;> rfl), zb⟩

mutual
def spec_KeepSize.j0 : Nat → List (S46) → Int → Bool → Option (Int)
 | 0, _, _, _ => none
 | k + 1, x0, x1, x13 => if x13 = true then (some (-1)) else (spec_KeepSize.l0 k x0 x1 0)
def spec_KeepSize.l0 : Nat → List (S46) → Int → Int → Option (Int)
 | 0, _, _, _ => none
 | k + 1, x0, x1, x5 => if (wrap64 (x5 + 1)) < (x0.length : Int) then (if 0 ≤ x5 then (if x5 ≤ (x0.length : Int) then ((spec_l33Size.f k (x0.drop (x5 : Int).toNat)).bind fun t637 => (if t637 > x1 then (spec_KeepSize.l0 k x0 x1 (wrap64 (x5 + 1))) else (some x5))) else (none)) else (none)) else (some x5)
end
def spec_KeepSize.f (k : Nat) (l0 : List (S46)) (a1 : Int) : Option (Int) := (spec_LogValid.f k l0).bind fun t631 => (if t631 = true then ((spec_l6In.f a1 0 99999).bind fun t632 => (spec_KeepSize.j0 k l0 a1 (!t632))) else (spec_KeepSize.j0 k l0 a1 true))
set_option maxHeartbeats 8000000 in
set_option maxRecDepth 100000 in
theorem spec_KeepSize.calls (k : Nat) (A0 : Option Addr) (c0 : Nat) (l0 : List (S46)) (a1 : Int) (r : Int) (w : World) (hr0 : Kd.C k46 w A0 l0.length l0) (hc0 : l0.length ≤ c0) (h : spec_KeepSize.f k l0 a1 = some r) :
  Calls Try.prog 15 #[.slice A0 l0.length c0, .int .i64 a1] w fun e w' => e = .returned (.int .i64 r) ∧ Below w.heap.size w w' := by
 have HR0 := Aside0.mk hr0
 have HC0 := Aside0.mk hc0
 clear hr0 hc0
 have HB := Aside0.mk (Below.refl w.heap.size w)
 have H : ((spec_LogValid.f k l0).bind fun t631 => (if t631 = true then ((spec_l6In.f a1 0 99999).bind fun t632 => (spec_KeepSize.j0 k l0 a1 (!t632))) else (spec_KeepSize.j0 k l0 a1 true))) = some r := h
 clear h
 have HC3 := Aside0.mk H
 clear H
 go_enter Try.func15, Try.ntmps15
 go_upto_region 1 with (fail)
 go_cut [13] (fun v13 wc => ∃ (kq : Nat) (x13_2 : Bool), v13 = .bool x13_2 ∧ Aside0 (spec_KeepSize.j0 kq l0 a1 x13_2 = some r) ∧ Aside0 (kq ≤ k) ∧ Aside0 (Below w.heap.size w wc))
 case first =>
  have H := HC3.out
  clear HC3
  replace H := tbe H
  obtain ⟨t631, A4, H⟩ := H
  by_cases c5 : t631 = true
  ·subst c5
   rw [if_pos rfl] at H
   replace H := tbe H
   obtain ⟨t632, A6, H⟩ := H
   have H' := Aside0.mk H
   clear H
   go_wp2_with (first | ((with_reducible refine gate_callee (f := 23) rfl ?_); refine goesL_ (some 7) rfl rfl Try.func23 (by kernel_rfl) rfl #[.slice A0 l0.length c0] rfl tq ?_; (with_reducible refine (spec_LogValid.calls k _ _ l0 true _ ?side1 ?side2 A4.out).mono ?_); (case side1 => exact tC (Kd.C_below HR0.out HB.out)); (case side2 => exact HC0.out); rintro e w7 ⟨rfl, hb⟩; refine ⟨_, rfl, ?_⟩; replace HB := tBs HB hb; (try clear hb); (try clear hb2); (try clear hk); (try clear hi)) | (go_at_call 30; (with_reducible refine (spec_l6In.calls a1 0 99999 t632 _ A6.out).mono ?_); rintro e w' ⟨rfl, ⟨nd, rfl⟩⟩))
   go_meet
   case rel => exact ⟨_, (!t632), tr, H', ⟨by first | omega | exact Nat.le_refl _⟩, ⟨zb⟩⟩
  ·replace c5 := Bool.eq_false_iff.mpr c5
   subst c5
   rw [if_neg (show ¬ (false = true) by decide)] at H
   have H' := Aside0.mk H
   clear H
   go_wp2_with (first | ((with_reducible refine gate_callee (f := 23) rfl ?_); refine goesL_ (some 7) rfl rfl Try.func23 (by kernel_rfl) rfl #[.slice A0 l0.length c0] rfl tq ?_; (with_reducible refine (spec_LogValid.calls k _ _ l0 false _ ?side1 ?side2 A4.out).mono ?_); (case side1 => exact tC (Kd.C_below HR0.out HB.out)); (case side2 => exact HC0.out); rintro e w8 ⟨rfl, hb⟩; refine ⟨_, rfl, ?_⟩; replace HB := tBs HB hb; (try clear hb); (try clear hb2); (try clear hk); (try clear hi)))
   go_meet
   case rel => exact ⟨_, (true), tr, H', ⟨by first | omega | exact Nat.le_refl _⟩, ⟨zb⟩⟩
 case rest =>
  clear HC3
  obtain ⟨kq, x13_2, rfl, HA, HJ2, HB⟩ := hcut
  cases kq with
  | zero => exact absurd HA.out (by simp [spec_KeepSize.j0])
  | succ kj2 =>
   have H := HA.out
   clear HA
   simp only [spec_KeepSize.j0] at H
   by_cases c9 : x13_2 = true
   ·subst c9
    rw [if_pos rfl] at H
    obtain rfl := Option.some.inj H
    go_wp2
    go_ret
    exact ⟨by first | rfl | (simp [errW_none, errW_some] <;> rfl) | (simp [*, errW_none, errW_some] <;> rfl), zb⟩
   ·replace c9 := Bool.eq_false_iff.mpr c9
    subst c9
    rw [if_neg (show ¬ (false = true) by decide)] at H
    have H' := Aside0.mk H
    clear H
    go_wp2
    go_loopg [5] kj2 (fun kq v5 w' => ∃ (x5_2 : Int), v5 = .int .i64 x5_2 ∧ Aside0 (spec_KeepSize.l0 kq l0 a1 x5_2 = some r) ∧ Aside0 (kq ≤ kj2) ∧ Aside0 (Below w.heap.size w w'))
    case atStart => exact ⟨(0), tr, H', ⟨Nat.le_refl _⟩, ⟨zb⟩⟩
    case round =>
     clear H'
     try clear c9
     obtain ⟨x5_2, rfl, HA, HK2, HB⟩ := hrel
     cases gk with
     | zero => exact absurd HA.out (by simp [spec_KeepSize.l0])
     | succ k2 =>
      have H := HA.out
      clear HA
      simp only [spec_KeepSize.l0] at H
      by_cases c10 : (wrap64 (x5_2 + 1)) < (l0.length : Int)
      ·rw [if_pos c10] at H
       have c10b0 : decide ((wrap64 (x5_2 + 1)) < (l0.length : Int)) = true := decide_eq_true c10
       clear c10
       by_cases c11 : 0 ≤ x5_2
       ·rw [if_pos c11] at H
        have c11b0 := eq_true c11
        have c11b1 : decide (0 ≤ x5_2) = true := decide_eq_true c11
        clear c11
        by_cases c12 : x5_2 ≤ (l0.length : Int)
        ·rw [if_pos c12] at H
         have c12b0 := eq_true c12
         have c12b1 : decide (x5_2 ≤ (l0.length : Int)) = true := decide_eq_true c12
         clear c12
         obtain ⟨y633, hy633⟩ : ∃ y_ : List (S46), y_ = (l0.drop (x5_2 : Int).toNat) := ⟨_, rfl⟩
         replace H : ((spec_l33Size.f k2 y633).bind fun t637 => (if t637 > a1 then (spec_KeepSize.l0 k2 l0 a1 (wrap64 (x5_2 + 1))) else (some x5_2))) = some r := by first | (rw [hy633]; with_reducible exact H) | (have H2_ := (Option.bind_some _ _).symm.trans H; rw [hy633]; with_reducible exact H2_) | (have H2_ := (Option.bind_some _ _).symm.trans H; with_reducible exact H2_) | with_reducible exact H | (rw [hy633]; exact H) | exact H
         have Ny633 := Aside0.mk hy633
         clear hy633
         replace H := tbe H
         obtain ⟨t637, A13, H⟩ := H
         by_cases c14 : t637 > a1
         ·rw [if_pos c14] at H
          have c14b0 : decide (a1 < t637) = true := decide_eq_true c14
          clear c14
          have H' := Aside0.mk H
          clear H
          have q15 : (x5_2 : Int) ≤ ((l0.length : Int) : Int) := td
          obtain ⟨i015, hi015, _, hsz15, _⟩ := info_parts info46
          have hroom15 : l0.length ≤ c0 := HC0.out
          have hC15 : Kd.C k46 _ A0 l0.length l0 := HR0.out
          have q015 : (0 : Int) ≤ (x5_2 : Int) := td
          have hcut15 := cut_from (P := Try.prog) 23 46 .i64 Try.underlying23 hi015 6 hsz15 A0 l0.length c0 x5_2 q015 q15
          have hr15 := Kd.C_drop (m := (x5_2 : Int).toNat) (c := c0) hC15 (by omega) hroom15
          obtain ⟨A15, hA15⟩ : ∃ A_, A_ = (if c0 = (x5_2 : Int).toNat then A0 else (A0 : Option Addr).map (·.add ((x5_2 : Int).toNat * 6))) := ⟨_, rfl⟩
          obtain ⟨c15, hc15⟩ : ∃ c_, c_ = c0 - (x5_2 : Int).toNat := ⟨_, rfl⟩
          have hy15 : y633.length = l0.length - (x5_2 : Int).toNat := (by rw [Ny633.out, List.length_drop] <;> omega)
          rw [show (l0).drop (x5_2 : Int).toNat = y633 from Ny633.out.symm] at hr15
          replace hr15 : Kd.C k46 _ A15 y633.length y633 := (by rw [hA15]; exact hr15)
          rw [← hy15, ← hA15, ← hc15] at hcut15
          have HR636 := Aside0.mk hr15
          have HC636 := Aside0.mk (show y633.length ≤ c15 from by rw [hy15, hc15]; exact Nat.sub_le_sub_right hroom15 _)
          clear hr15 hC15 hroom15 hi015 hsz15 hc15
          have KY15 := Aside0.mk hy15
          have KA15 := Aside0.mk hA15
          clear hy15 hA15
          replace q15 := eq_true q15
          go_wp2_with (first | (go_at_call 24; (with_reducible refine (spec_l33Size.calls k2 _ _ y633 t637 _ ?side1 ?side2 A13.out).mono ?_); (case side1 => exact tC (Kd.C_below HR636.out HB.out)); (case side2 => exact HC636.out); rintro e w16 ⟨rfl, hb⟩; replace HB := tBs HB hb; (try clear hb); (try clear hb2); (try clear hk); (try clear hi)))
          go_roundg k2
          case measure => have := HJ2.out; have := HK2.out; omega
          case rel => exact ⟨(wrap64 (x5_2 + 1)), tr, H', ⟨by have := HJ2.out; have := HK2.out; omega⟩, ⟨zb⟩⟩
         ·rw [if_neg c14] at H
          have c14b0 : decide (a1 < t637) = false := decide_eq_false c14
          clear c14
          obtain rfl := Option.some.inj H
          have q17 : (x5_2 : Int) ≤ ((l0.length : Int) : Int) := td
          obtain ⟨i017, hi017, _, hsz17, _⟩ := info_parts info46
          have hroom17 : l0.length ≤ c0 := HC0.out
          have hC17 : Kd.C k46 _ A0 l0.length l0 := HR0.out
          have q017 : (0 : Int) ≤ (x5_2 : Int) := td
          have hcut17 := cut_from (P := Try.prog) 23 46 .i64 Try.underlying23 hi017 6 hsz17 A0 l0.length c0 x5_2 q017 q17
          have hr17 := Kd.C_drop (m := (x5_2 : Int).toNat) (c := c0) hC17 (by omega) hroom17
          obtain ⟨A17, hA17⟩ : ∃ A_, A_ = (if c0 = (x5_2 : Int).toNat then A0 else (A0 : Option Addr).map (·.add ((x5_2 : Int).toNat * 6))) := ⟨_, rfl⟩
          obtain ⟨c17, hc17⟩ : ∃ c_, c_ = c0 - (x5_2 : Int).toNat := ⟨_, rfl⟩
          have hy17 : y633.length = l0.length - (x5_2 : Int).toNat := (by rw [Ny633.out, List.length_drop] <;> omega)
          rw [show (l0).drop (x5_2 : Int).toNat = y633 from Ny633.out.symm] at hr17
          replace hr17 : Kd.C k46 _ A17 y633.length y633 := (by rw [hA17]; exact hr17)
          rw [← hy17, ← hA17, ← hc17] at hcut17
          have HR636 := Aside0.mk hr17
          have HC636 := Aside0.mk (show y633.length ≤ c17 from by rw [hy17, hc17]; exact Nat.sub_le_sub_right hroom17 _)
          clear hr17 hC17 hroom17 hi017 hsz17 hc17
          have KY17 := Aside0.mk hy17
          have KA17 := Aside0.mk hA17
          clear hy17 hA17
          replace q17 := eq_true q17
          go_wp2_with (first | (go_at_call 24; (with_reducible refine (spec_l33Size.calls k2 _ _ y633 t637 _ ?side1 ?side2 A13.out).mono ?_); (case side1 => exact tC (Kd.C_below HR636.out HB.out)); (case side2 => exact HC636.out); rintro e w18 ⟨rfl, hb⟩; replace HB := tBs HB hb; (try clear hb); (try clear hb2); (try clear hk); (try clear hi)))
          go_ret
          exact ⟨by first | rfl | (simp [errW_none, errW_some] <;> rfl) | (simp [*, errW_none, errW_some] <;> rfl), zb⟩
        ·rw [if_neg c12] at H
         exact absurd H (by simp)
       ·rw [if_neg c11] at H
        exact absurd H (by simp)
      ·rw [if_neg c10] at H
       have c10b0 : decide ((wrap64 (x5_2 + 1)) < (l0.length : Int)) = false := decide_eq_false c10
       clear c10
       obtain rfl := Option.some.inj H
       go_wp2
       go_ret
       exact ⟨by first | rfl | (simp [errW_none, errW_some] <;> rfl) | (simp [*, errW_none, errW_some] <;> rfl), zb⟩

end Go.Proofs.Ythoioccmnphfgaa.G

