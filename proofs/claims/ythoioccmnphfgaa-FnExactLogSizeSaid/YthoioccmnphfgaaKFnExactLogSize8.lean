/- A text of seat Ythoioccmnphfgaa: what the law FnExactLogSize needs of this repo's texts (by pack.py). Not trusted: Lean checks it. -/
import Derived.Test.YthoioccmnphfgaaKFnExactLogSize7
namespace Go.Proofs.Ythoioccmnphfgaa.G
open Go.RowKit Go.Proofs.YthoioccmnphfgaaW.PrintWords Go.Proofs.YthoioccmnphfgaaW.PrintLast Go.Proofs.YthoioccmnphfgaaW.PrintMore
attribute [local go_sem] max2_int min2_int max_two min_two max_three min_three max_four min_four   -- for this text's walks alone
set_option linter.unusedVariables false
set_option linter.unusedSimpArgs false

mutual
def spec_l5Bytes.j0 : Nat → List Int → Int → Bool → Bool → Int → Int → Int → List (S63) → Option (List Int)
 | 0, _, _, _, _, _, _, _, _ => none
 | k + 1, x3, x4, x521000, x521001, x521002, x521003, x521004, x521005 => if x521001 = true then (spec_l5Bytes.j1 k x3 (wrap64 (x4 + 2)) x521000 x521001 x521002 x521003 x521004 x521005) else (spec_l5Bytes.j1 k x3 x4 x521000 x521001 x521002 x521003 x521004 x521005)
def spec_l5Bytes.j1 : Nat → List Int → Int → Bool → Bool → Int → Int → Int → List (S63) → Option (List Int)
 | 0, _, _, _, _, _, _, _, _ => none
 | k + 1, x3, x4, x521000, x521001, x521002, x521003, x521004, x521005 => (some (([x4, x521002, x521003] : List Int) : List Int)).bind fun y527 => ((spec_l2Int.f k x521004 2).bind fun t530 => (if y527.length + t530.length < 17592186044416 then ((some (y527 ++ t530 : List Int)).bind fun y533 => (if 0 < (x521005.length : Int) then ((spec_l2Int.f k ((rd_T63 x521005 0).f1) 3).bind fun t537 => (if y533.length + t537.length < 17592186044416 then ((some (y533 ++ t537 : List Int)).bind fun y540 => ((some (([(x521005.length : Int), 0, 0] : List Int) : List Int)).bind fun y543 => (if y540.length + y543.length < 17592186044416 then ((some (y540 ++ y543 : List Int)).bind fun y546 => (if y546.length + x3.length < 17592186044416 then ((some (y546 ++ x3 : List Int)).bind fun y549 => ((spec_l2Int.f k ((rd_T63 x521005 0).f0) 3).bind fun t553 => ((spec_l2Int.f k (y549.length : Int) 2).bind fun t556 => (if t553.length + t556.length < 17592186044416 then ((some (t553 ++ t556 : List Int)).bind fun y559 => ((spec_l2Sum.f k y549).bind fun t562 => ((spec_l2Int.f k t562 2).bind fun t563 => (if y559.length + t563.length < 17592186044416 then ((some (y559 ++ t563 : List Int)).bind fun y566 => (if y566.length + y549.length < 17592186044416 then (some (y566 ++ y549)) else (none))) else (none))))) else (none))))) else (none))) else (none)))) else (none))) else (none))) else (none)))
end
def spec_l5Bytes.f (k : Nat) (a0_0 : Bool) (a0_1 : Bool) (a0_2 : Int) (a0_3 : Int) (a0_4 : Int) (l0_5 : List (S63)) : Option (List Int) := (spec_l5Body.f k a0_0 a0_1 a0_2 a0_3 a0_4 l0_5).bind fun t521 => (if a0_0 = true then ((spec_l4Pack.f k t521).bind fun t524 => (spec_l5Bytes.j0 k t524 (0 + 1) a0_0 a0_1 a0_2 a0_3 a0_4 l0_5)) else (spec_l5Bytes.j0 k t521 0 a0_0 a0_1 a0_2 a0_3 a0_4 l0_5))
def spec_l5Bytes.T8 : Bool × List (List Nat × List Nat) := (true, [([], []), ([], []), ([1], [1]), ([], []), ([3], [3]), ([0, 2, 4], [0, 2, 4]), ([], []), ([6], [6]), ([7], [7]), ([5, 8, 8], [5, 8]), ([9, 9, 0, 1, 2, 3, 4, 5, 6, 7, 8, 9], [9])])
def spec_l5Bytes.B8 : List Nat := [0, 0, 2, 0, 8, 31, 0, 64, 192, 511, 1023]
theorem spec_l5Bytes.tab8 : rtab .any (opsOf Try.f41 8) = spec_l5Bytes.T8 := by kernel_rfl
theorem spec_l5Bytes.bits8 : waitsOk spec_l5Bytes.T8.2 spec_l5Bytes.B8 = true := by kernel_rfl
set_option maxHeartbeats 8000000 in
set_option maxRecDepth 100000 in
theorem spec_l5Bytes.calls (k : Nat) (a0_0 : Bool) (a0_1 : Bool) (a0_2 : Int) (a0_3 : Int) (a0_4 : Int) (A0_5 : Option Addr) (c0_5 : Nat) (l0_5 : List (S63)) (r : List Int) (w : World) (hr0_5 : Kd.C k63 w A0_5 l0_5.length l0_5) (hc0_5 : l0_5.length ≤ c0_5) (h : spec_l5Bytes.f k a0_0 a0_1 a0_2 a0_3 a0_4 l0_5 = some r) :
  Calls Try.prog 41 #[.agg #[.bool a0_0, .bool a0_1, .int .i64 a0_2, .int .i64 a0_3, .int .i64 a0_4, .slice A0_5 l0_5.length c0_5]] w fun e w' => ∃ v0_ : Value, e = .returned (v0_) ∧ Kd.R (Kd.int .i64) 3 w' w.heap.size (fun _ => True) v0_ r ∧ Below w.heap.size w w' := by
 have hu46 := Try.underlying46
 have HR0_5 := Aside0.mk hr0_5
 have HC0_5 := Aside0.mk hc0_5
 clear hr0_5 hc0_5
 have HB := Aside0.mk (Below.refl w.heap.size w)
 have H : ((spec_l5Body.f k a0_0 a0_1 a0_2 a0_3 a0_4 l0_5).bind fun t521 => (if a0_0 = true then ((spec_l4Pack.f k t521).bind fun t524 => (spec_l5Bytes.j0 k t524 (0 + 1) a0_0 a0_1 a0_2 a0_3 a0_4 l0_5)) else (spec_l5Bytes.j0 k t521 0 a0_0 a0_1 a0_2 a0_3 a0_4 l0_5))) = some r := h
 clear h
 replace H := tbe H
 obtain ⟨t521, A2, H⟩ := H
 have HC3 := Aside0.mk H
 clear H
 go_enter Try.func41, Try.ntmps41
 go_upto_if 10 with (first | ((with_reducible refine gate_dst (N := 1) rfl ?_); refine box_event ?hg (N := 1) ?hd (cs := #[.bool a0_0, .bool a0_1, .int .i64 a0_2, .int .i64 a0_3, .int .i64 a0_4, .slice A0_5 l0_5.length c0_5]) (t := 46) ?hr ?_; (case hd => rfl); (case hg => rfl); (case hr => first | (go_simp; done) | (go_simp; rfl)); intro gb520 hg w4 hbox hb; have BK520 := Aside0.mk (hbox); have GW520 := tge HB hg; have GE520 := tge HB hg; replace HB := tBs HB hb; clear hb hbox hg; obtain ⟨hcz5_0, hcz5_1, hcz5_2, hcz5_3, hcz5_4, hcz5_5, hfz5_0, hfz5_1, hfz5_2, hfz5_3, hfz5_4, hfz5_5⟩ := cells6 BK520.out) | ((with_reducible refine gate_callee (f := 54) rfl ?_); refine goesL_ (some 8) rfl rfl Try.func54 (by kernel_rfl) rfl #[.agg #[.bool a0_0, .bool a0_1, .int .i64 a0_2, .int .i64 a0_3, .int .i64 a0_4, .slice A0_5 l0_5.length c0_5]] rfl tq ?_; (with_reducible refine (spec_l5Body.calls k a0_0 a0_1 a0_2 a0_3 a0_4 _ _ l0_5 t521 _ ?side1 ?side2 A2.out).mono ?_); (case side1 => exact tC (Kd.C_below HR0_5.out HB.out)); (case side2 => exact HC0_5.out); rintro e w6 ⟨v522, rfl, ho0, hb⟩; have u_v522 := tsv Try.prog v522 ho0; refine ⟨_, rfl, ?_⟩; have HO523 := tRl ho0 HB; replace BK520 := tBb BK520 hb; replace HB := tBs HB hb; (try clear hb); (try clear hb2); (try clear hk); (try clear hi); (try clear ho0); obtain ⟨hcz7_0, hcz7_1, hcz7_2, hcz7_3, hcz7_4, hcz7_5, hfz7_0, hfz7_1, hfz7_2, hfz7_3, hfz7_4, hfz7_5⟩ := cells6 BK520.out))
 (try simp only [Act.put, List.setIfInBounds_toArray, List.set_cons_zero, List.set_cons_succ])
 go_cut [3, 4] (fun v3 v4 wc => ∃ (kq : Nat) (x3_2 : List Int) (x4_2 : Int), v4 = .int .i64 x4_2 ∧ Aside0 (spec_l5Bytes.j0 kq x3_2 x4_2 a0_0 a0_1 a0_2 a0_3 a0_4 l0_5 = some r) ∧ Aside0 (kq ≤ k) ∧ Aside0 (Kd.R (Kd.int .i64) 3 wc w.heap.size (fun _ => True) v3 x3_2) ∧ Aside0 (wc.heap[gb520]? = some (.cells #[.bool a0_0, .bool a0_1, .int .i64 a0_2, .int .i64 a0_3, .int .i64 a0_4, (.slice A0_5 l0_5.length c0_5)] 46 (0, 0))) ∧ Aside0 (Below w.heap.size w wc))
 case first =>
  have H := HC3.out
  clear HC3
  by_cases c8 : a0_0 = true
  ·subst c8
   rw [if_pos rfl] at H
   replace H := tbe H
   obtain ⟨t524, A9, H⟩ := H
   have H' := Aside0.mk H
   clear H
   obtain ⟨Ao10, co10, eo10⟩ := Kd.R_slice HO523.out
   subst eo10
   go_wp2_with (first | ((with_reducible refine gate_callee (f := 55) rfl ?_); refine goesL_ (some 12) rfl rfl Try.func55 (by kernel_rfl) rfl #[.slice Ao10 t521.length co10] rfl tq ?_; (with_reducible refine (spec_l4Pack.calls k _ _ t521 t524 _ ?side1 ?side2 A9.out).mono ?_); (case side1 => repeat (first | exact (Kd.R_reads' HO523.out).2.2 | (with_reducible refine Kd.C_alloc ?_ _) | (with_reducible refine Kd.C_drewN ?_ _) | (with_reducible refine Kd.C_drew ?_))); (case side2 => exact (Kd.R_reads' HO523.out).2.1); rintro e w11 ⟨v525, rfl, ho0, hb⟩; have u_v525 := tsv Try.prog v525 ho0; refine ⟨_, rfl, ?_⟩; have HO526 := Aside0.mk (Kd.R_lower (Kd.R_new' ho0 (Kd.R_lt (tR HO523.out))) (below_size zb)); replace HO523 := Aside0.mk (Kd.R_elder' (tR HO523.out) (Kd.R_base ho0) hb); replace BK520 := tBb BK520 hb; replace HB := tBs HB hb; (try clear hb); (try clear hb2); (try clear hk); (try clear hi); (try clear ho0)))
   go_meet
   case rel => exact ⟨_, (t524), (0 + 1), tr, H', ⟨by first | omega | exact Nat.le_refl _⟩, ⟨tRm HO526.out⟩, ⟨tH BK520.out⟩, ⟨zb⟩⟩
  ·replace c8 := Bool.eq_false_iff.mpr c8
   subst c8
   rw [if_neg (show ¬ (false = true) by decide)] at H
   have H' := Aside0.mk H
   clear H
   go_wp2
   go_meet
   case rel => exact ⟨_, (t521), (0), tr, H', ⟨by first | omega | exact Nat.le_refl _⟩, ⟨tR HO523.out⟩, ⟨tH BK520.out⟩, ⟨zb⟩⟩
 case rest =>
  clear HC3
  try clear hcz5_0; try clear hcz5_1; try clear hcz5_2; try clear hcz5_3; try clear hcz5_4; try clear hcz5_5; try clear hcz7_0; try clear hcz7_1; try clear hcz7_2; try clear hcz7_3; try clear hcz7_4; try clear hcz7_5; try clear hfz5_0; try clear hfz5_1; try clear hfz5_2; try clear hfz5_3; try clear hfz5_4; try clear hfz5_5; try clear hfz7_0; try clear hfz7_1; try clear hfz7_2; try clear hfz7_3; try clear hfz7_4; try clear hfz7_5
  obtain ⟨kq, x3_2, x4_2, rfl, HA, HJ2, HO_3, BK520, HB⟩ := hcut
  cases kq with
  | zero => exact absurd HA.out (by simp [spec_l5Bytes.j0])
  | succ kj2 =>
   have H := HA.out
   clear HA
   simp only [spec_l5Bytes.j0] at H
   have HC12 := Aside0.mk H
   clear H
   obtain ⟨hcz13_0, hcz13_1, hcz13_2, hcz13_3, hcz13_4, hcz13_5, hfz13_0, hfz13_1, hfz13_2, hfz13_3, hfz13_4, hfz13_5⟩ := cells6 BK520.out
   go_upto_if 16 with (fail)
   go_cut [4] (fun v4 wc => ∃ (kq : Nat) (x4_11 : Int), v4 = .int .i64 x4_11 ∧ Aside0 (spec_l5Bytes.j1 kq x3_2 x4_11 a0_0 a0_1 a0_2 a0_3 a0_4 l0_5 = some r) ∧ Aside0 (kq ≤ kj2) ∧ Aside0 (Kd.R (Kd.int .i64) 3 wc w.heap.size (fun _ => True) u3 x3_2) ∧ Aside0 (wc.heap[gb520]? = some (.cells #[.bool a0_0, .bool a0_1, .int .i64 a0_2, .int .i64 a0_3, .int .i64 a0_4, (.slice A0_5 l0_5.length c0_5)] 46 (0, 0))) ∧ Aside0 (Below w.heap.size w wc))
   case first =>
    have H := HC12.out
    clear HC12
    by_cases c14 : a0_1 = true
    ·subst c14
     rw [if_pos rfl] at H
     have H' := Aside0.mk H
     clear H
     go_wp2
     go_meet
     case rel => exact ⟨_, (wrap64 (x4_2 + 2)), tr, H', ⟨by have := HJ2.out; first | omega | exact Nat.le_refl _⟩, ⟨tR HO_3.out⟩, ⟨tH BK520.out⟩, ⟨zb⟩⟩
    ·replace c14 := Bool.eq_false_iff.mpr c14
     subst c14
     rw [if_neg (show ¬ (false = true) by decide)] at H
     have H' := Aside0.mk H
     clear H
     go_wp2
     go_meet
     case rel => exact ⟨_, (x4_2), tr, H', ⟨by have := HJ2.out; first | omega | exact Nat.le_refl _⟩, ⟨tR HO_3.out⟩, ⟨tH BK520.out⟩, ⟨zb⟩⟩
   case rest =>
    clear HC12
    try clear hcz13_0; try clear hcz13_1; try clear hcz13_2; try clear hcz13_3; try clear hcz13_4; try clear hcz13_5; try clear hcz5_0; try clear hcz5_1; try clear hcz5_2; try clear hcz5_3; try clear hcz5_4; try clear hcz5_5; try clear hcz7_0; try clear hcz7_1; try clear hcz7_2; try clear hcz7_3; try clear hcz7_4; try clear hcz7_5; try clear hfz13_0; try clear hfz13_1; try clear hfz13_2; try clear hfz13_3; try clear hfz13_4; try clear hfz13_5; try clear hfz5_0; try clear hfz5_1; try clear hfz5_2; try clear hfz5_3; try clear hfz5_4; try clear hfz5_5; try clear hfz7_0; try clear hfz7_1; try clear hfz7_2; try clear hfz7_3; try clear hfz7_4; try clear hfz7_5
    obtain ⟨kq, x4_11, rfl, HA, HJ11, HO_3, BK520, HB⟩ := hcut
    cases kq with
    | zero => exact absurd HA.out (by simp [spec_l5Bytes.j1])
    | succ kj11 =>
     have H := HA.out
     clear HA
     simp only [spec_l5Bytes.j1] at H
     obtain ⟨y527, hy527⟩ : ∃ y_ : List Int, y_ = (([x4_11, a0_2, a0_3] : List Int)) := ⟨_, rfl⟩
     replace H : ((spec_l2Int.f kj11 a0_4 2).bind fun t530 => (if y527.length + t530.length < 17592186044416 then ((some (y527 ++ t530 : List Int)).bind fun y533 => (if 0 < (l0_5.length : Int) then ((spec_l2Int.f kj11 ((rd_T63 l0_5 0).f1) 3).bind fun t537 => (if y533.length + t537.length < 17592186044416 then ((some (y533 ++ t537 : List Int)).bind fun y540 => ((some (([(l0_5.length : Int), 0, 0] : List Int) : List Int)).bind fun y543 => (if y540.length + y543.length < 17592186044416 then ((some (y540 ++ y543 : List Int)).bind fun y546 => (if y546.length + x3_2.length < 17592186044416 then ((some (y546 ++ x3_2 : List Int)).bind fun y549 => ((spec_l2Int.f kj11 ((rd_T63 l0_5 0).f0) 3).bind fun t553 => ((spec_l2Int.f kj11 (y549.length : Int) 2).bind fun t556 => (if t553.length + t556.length < 17592186044416 then ((some (t553 ++ t556 : List Int)).bind fun y559 => ((spec_l2Sum.f kj11 y549).bind fun t562 => ((spec_l2Int.f kj11 t562 2).bind fun t563 => (if y559.length + t563.length < 17592186044416 then ((some (y559 ++ t563 : List Int)).bind fun y566 => (if y566.length + y549.length < 17592186044416 then (some (y566 ++ y549)) else (none))) else (none))))) else (none))))) else (none))) else (none)))) else (none))) else (none))) else (none))) = some r := by first | (rw [hy527]; with_reducible exact H) | (have H2_ := (Option.bind_some _ _).symm.trans H; rw [hy527]; with_reducible exact H2_) | (have H2_ := (Option.bind_some _ _).symm.trans H; with_reducible exact H2_) | with_reducible exact H | (rw [hy527]; exact H) | exact H
     have Ny527 := Aside0.mk hy527
     clear hy527
     replace H := tbe H
     obtain ⟨t530, A15, H⟩ := H
     by_cases c16 : y527.length + t530.length < 17592186044416
     ·rw [if_pos c16] at H
      have LMc16 := Aside0.mk c16
      clear c16
      obtain ⟨y533, hy533⟩ : ∃ y_ : List Int, y_ = (y527 ++ t530) := ⟨_, rfl⟩
      replace H : (if 0 < (l0_5.length : Int) then ((spec_l2Int.f kj11 ((rd_T63 l0_5 0).f1) 3).bind fun t537 => (if y533.length + t537.length < 17592186044416 then ((some (y533 ++ t537 : List Int)).bind fun y540 => ((some (([(l0_5.length : Int), 0, 0] : List Int) : List Int)).bind fun y543 => (if y540.length + y543.length < 17592186044416 then ((some (y540 ++ y543 : List Int)).bind fun y546 => (if y546.length + x3_2.length < 17592186044416 then ((some (y546 ++ x3_2 : List Int)).bind fun y549 => ((spec_l2Int.f kj11 ((rd_T63 l0_5 0).f0) 3).bind fun t553 => ((spec_l2Int.f kj11 (y549.length : Int) 2).bind fun t556 => (if t553.length + t556.length < 17592186044416 then ((some (t553 ++ t556 : List Int)).bind fun y559 => ((spec_l2Sum.f kj11 y549).bind fun t562 => ((spec_l2Int.f kj11 t562 2).bind fun t563 => (if y559.length + t563.length < 17592186044416 then ((some (y559 ++ t563 : List Int)).bind fun y566 => (if y566.length + y549.length < 17592186044416 then (some (y566 ++ y549)) else (none))) else (none))))) else (none))))) else (none))) else (none)))) else (none))) else (none)) = some r := by first | (rw [hy533]; with_reducible exact H) | (have H2_ := (Option.bind_some _ _).symm.trans H; rw [hy533]; with_reducible exact H2_) | (have H2_ := (Option.bind_some _ _).symm.trans H; with_reducible exact H2_) | with_reducible exact H | (rw [hy533]; exact H) | exact H
      have Ny533 := Aside0.mk hy533
      clear hy533
      by_cases c17 : 0 < (l0_5.length : Int)
      ·rw [if_pos c17] at H
       have c17b0 : decide (0 < (l0_5.length : Int)) = true := decide_eq_true c17
       have c17b1 : decide (0 < l0_5.length) = true := decide_eq_true (by omega)
       clear c17
       replace H := tbe H
       obtain ⟨t537, A18, H⟩ := H
       by_cases c19 : y533.length + t537.length < 17592186044416
       ·rw [if_pos c19] at H
        have LMc19 := Aside0.mk c19
        clear c19
        obtain ⟨y540, hy540⟩ : ∃ y_ : List Int, y_ = (y533 ++ t537) := ⟨_, rfl⟩
        replace H : ((some (([(l0_5.length : Int), 0, 0] : List Int) : List Int)).bind fun y543 => (if y540.length + y543.length < 17592186044416 then ((some (y540 ++ y543 : List Int)).bind fun y546 => (if y546.length + x3_2.length < 17592186044416 then ((some (y546 ++ x3_2 : List Int)).bind fun y549 => ((spec_l2Int.f kj11 ((rd_T63 l0_5 0).f0) 3).bind fun t553 => ((spec_l2Int.f kj11 (y549.length : Int) 2).bind fun t556 => (if t553.length + t556.length < 17592186044416 then ((some (t553 ++ t556 : List Int)).bind fun y559 => ((spec_l2Sum.f kj11 y549).bind fun t562 => ((spec_l2Int.f kj11 t562 2).bind fun t563 => (if y559.length + t563.length < 17592186044416 then ((some (y559 ++ t563 : List Int)).bind fun y566 => (if y566.length + y549.length < 17592186044416 then (some (y566 ++ y549)) else (none))) else (none))))) else (none))))) else (none))) else (none))) = some r := by first | (rw [hy540]; with_reducible exact H) | (have H2_ := (Option.bind_some _ _).symm.trans H; rw [hy540]; with_reducible exact H2_) | (have H2_ := (Option.bind_some _ _).symm.trans H; with_reducible exact H2_) | with_reducible exact H | (rw [hy540]; exact H) | exact H
        have Ny540 := Aside0.mk hy540
        clear hy540
        obtain ⟨y543, hy543⟩ : ∃ y_ : List Int, y_ = (([(l0_5.length : Int), 0, 0] : List Int)) := ⟨_, rfl⟩
        replace H : (if y540.length + y543.length < 17592186044416 then ((some (y540 ++ y543 : List Int)).bind fun y546 => (if y546.length + x3_2.length < 17592186044416 then ((some (y546 ++ x3_2 : List Int)).bind fun y549 => ((spec_l2Int.f kj11 ((rd_T63 l0_5 0).f0) 3).bind fun t553 => ((spec_l2Int.f kj11 (y549.length : Int) 2).bind fun t556 => (if t553.length + t556.length < 17592186044416 then ((some (t553 ++ t556 : List Int)).bind fun y559 => ((spec_l2Sum.f kj11 y549).bind fun t562 => ((spec_l2Int.f kj11 t562 2).bind fun t563 => (if y559.length + t563.length < 17592186044416 then ((some (y559 ++ t563 : List Int)).bind fun y566 => (if y566.length + y549.length < 17592186044416 then (some (y566 ++ y549)) else (none))) else (none))))) else (none))))) else (none))) else (none)) = some r := by first | (rw [hy543]; with_reducible exact H) | (have H2_ := (Option.bind_some _ _).symm.trans H; rw [hy543]; with_reducible exact H2_) | (have H2_ := (Option.bind_some _ _).symm.trans H; with_reducible exact H2_) | with_reducible exact H | (rw [hy543]; exact H) | exact H
        have Ny543 := Aside0.mk hy543
        clear hy543
        by_cases c20 : y540.length + y543.length < 17592186044416
        ·rw [if_pos c20] at H
         have LMc20 := Aside0.mk c20
         clear c20
         obtain ⟨y546, hy546⟩ : ∃ y_ : List Int, y_ = (y540 ++ y543) := ⟨_, rfl⟩
         replace H : (if y546.length + x3_2.length < 17592186044416 then ((some (y546 ++ x3_2 : List Int)).bind fun y549 => ((spec_l2Int.f kj11 ((rd_T63 l0_5 0).f0) 3).bind fun t553 => ((spec_l2Int.f kj11 (y549.length : Int) 2).bind fun t556 => (if t553.length + t556.length < 17592186044416 then ((some (t553 ++ t556 : List Int)).bind fun y559 => ((spec_l2Sum.f kj11 y549).bind fun t562 => ((spec_l2Int.f kj11 t562 2).bind fun t563 => (if y559.length + t563.length < 17592186044416 then ((some (y559 ++ t563 : List Int)).bind fun y566 => (if y566.length + y549.length < 17592186044416 then (some (y566 ++ y549)) else (none))) else (none))))) else (none))))) else (none)) = some r := by first | (rw [hy546]; with_reducible exact H) | (have H2_ := (Option.bind_some _ _).symm.trans H; rw [hy546]; with_reducible exact H2_) | (have H2_ := (Option.bind_some _ _).symm.trans H; with_reducible exact H2_) | with_reducible exact H | (rw [hy546]; exact H) | exact H
         have Ny546 := Aside0.mk hy546
         clear hy546
         by_cases c21 : y546.length + x3_2.length < 17592186044416
         ·rw [if_pos c21] at H
          have LMc21 := Aside0.mk c21
          clear c21
          obtain ⟨y549, hy549⟩ : ∃ y_ : List Int, y_ = (y546 ++ x3_2) := ⟨_, rfl⟩
          replace H : ((spec_l2Int.f kj11 ((rd_T63 l0_5 0).f0) 3).bind fun t553 => ((spec_l2Int.f kj11 (y549.length : Int) 2).bind fun t556 => (if t553.length + t556.length < 17592186044416 then ((some (t553 ++ t556 : List Int)).bind fun y559 => ((spec_l2Sum.f kj11 y549).bind fun t562 => ((spec_l2Int.f kj11 t562 2).bind fun t563 => (if y559.length + t563.length < 17592186044416 then ((some (y559 ++ t563 : List Int)).bind fun y566 => (if y566.length + y549.length < 17592186044416 then (some (y566 ++ y549)) else (none))) else (none))))) else (none)))) = some r := by first | (rw [hy549]; with_reducible exact H) | (have H2_ := (Option.bind_some _ _).symm.trans H; rw [hy549]; with_reducible exact H2_) | (have H2_ := (Option.bind_some _ _).symm.trans H; with_reducible exact H2_) | with_reducible exact H | (rw [hy549]; exact H) | exact H
          have Ny549 := Aside0.mk hy549
          clear hy549
          replace H := tbe H
          obtain ⟨t553, A22, H⟩ := H
          replace H := tbe H
          obtain ⟨t556, A23, H⟩ := H
          by_cases c24 : t553.length + t556.length < 17592186044416
          ·rw [if_pos c24] at H
           have LMc24 := Aside0.mk c24
           clear c24
           obtain ⟨y559, hy559⟩ : ∃ y_ : List Int, y_ = (t553 ++ t556) := ⟨_, rfl⟩
           replace H : ((spec_l2Sum.f kj11 y549).bind fun t562 => ((spec_l2Int.f kj11 t562 2).bind fun t563 => (if y559.length + t563.length < 17592186044416 then ((some (y559 ++ t563 : List Int)).bind fun y566 => (if y566.length + y549.length < 17592186044416 then (some (y566 ++ y549)) else (none))) else (none)))) = some r := by first | (rw [hy559]; with_reducible exact H) | (have H2_ := (Option.bind_some _ _).symm.trans H; rw [hy559]; with_reducible exact H2_) | (have H2_ := (Option.bind_some _ _).symm.trans H; with_reducible exact H2_) | with_reducible exact H | (rw [hy559]; exact H) | exact H
           have Ny559 := Aside0.mk hy559
           clear hy559
           replace H := tbe H
           obtain ⟨t562, A25, H⟩ := H
           replace H := tbe H
           obtain ⟨t563, A26, H⟩ := H
           by_cases c27 : y559.length + t563.length < 17592186044416
           ·rw [if_pos c27] at H
            have LMc27 := Aside0.mk c27
            clear c27
            obtain ⟨y566, hy566⟩ : ∃ y_ : List Int, y_ = (y559 ++ t563) := ⟨_, rfl⟩
            replace H : (if y566.length + y549.length < 17592186044416 then (some (y566 ++ y549)) else (none)) = some r := by first | (rw [hy566]; with_reducible exact H) | (have H2_ := (Option.bind_some _ _).symm.trans H; rw [hy566]; with_reducible exact H2_) | (have H2_ := (Option.bind_some _ _).symm.trans H; with_reducible exact H2_) | with_reducible exact H | (rw [hy566]; exact H) | exact H
            have Ny566 := Aside0.mk hy566
            clear hy566
            by_cases c28 : y566.length + y549.length < 17592186044416
            ·rw [if_pos c28] at H
             have LMc28 := Aside0.mk c28
             clear c28
             obtain ⟨y569, hy569⟩ : ∃ y_ : List Int, y_ = (y566 ++ y549) := ⟨_, rfl⟩
             replace H : (some y569) = some r := by first | (rw [hy569]; with_reducible exact H) | (have H2_ := (Option.bind_some _ _).symm.trans H; rw [hy569]; with_reducible exact H2_) | (have H2_ := (Option.bind_some _ _).symm.trans H; with_reducible exact H2_) | with_reducible exact H | (rw [hy569]; exact H) | exact H
             have Ny569 := Aside0.mk hy569
             clear hy569
             obtain rfl := Option.some.inj H
             try go_wp2
             replace HO_3 := Aside0.mk (Kd.R_drew HO_3.out)
             replace BK520 := Aside0.mk (blk_drew BK520.out)
             replace HB := Aside0.mk (below_drew1 HB.out)
             refine start_ (n := 11) (S := fun w' => w'.cell? ⟨gb520, 0, none⟩ = some (.bool a0_0) ∧ w'.cell? ⟨gb520, 1, none⟩ = some (.bool a0_1) ∧ w'.cell? ⟨gb520, 2, none⟩ = some (.int .i64 a0_2) ∧ w'.cell? ⟨gb520, 3, none⟩ = some (.int .i64 a0_3) ∧ w'.cell? ⟨gb520, 4, none⟩ = some (.int .i64 a0_4) ∧ w'.cell? ⟨gb520, 5, none⟩ = some (.slice A0_5 l0_5.length c0_5)) (ds := []) #[false, false, false, false, false, false, false, false, false, false, false] (by kernel_rfl) rfl rfl ⟨(blk_cell BK520.out 0).trans rfl, (blk_cell BK520.out 1).trans rfl, (blk_cell BK520.out 2).trans rfl, (blk_cell BK520.out 3).trans rfl, (blk_cell BK520.out 4).trans rfl, (blk_cell BK520.out 5).trans rfl⟩ (fun hHeld => ?_); refine with_tabW spec_l5Bytes.tab8 spec_l5Bytes.bits8 (fun HT_ HW_ => ?_)
             generalize wc.drew = w29 at HO_3 BK520 HB hHeld ⊢
             refine tpu 0 (some 19) #[true, false, false, false, false, false, false, false, false, false, false] ?_
             refine tpu 1 (some 20) #[true, true, false, false, false, false, false, false, false, false, false] ?_
             refine tpu 3 (some 22) #[true, true, false, true, false, false, false, false, false, false, false] ?_
             refine tpu 6 (some 25) #[true, true, false, true, false, false, true, false, false, false, false] ?_
             refine tta 2 (some 21) #[true, true, true, true, false, false, true, false, false, false, false] hHeld ?_ (hy := by rintro w' ⟨s0, s1, s2, s3, s4, s5⟩; go_simp; with_reducible rfl)
             refine tta 4 (some 23) #[true, true, true, true, true, false, true, false, false, false, false] hHeld ?_ (hy := by rintro w' ⟨s0, s1, s2, s3, s4, s5⟩; go_simp; with_reducible rfl)
             refine tta 7 (some 26) #[true, true, true, true, true, false, true, true, false, false, false] hHeld ?_ (hy := by rintro w' ⟨s0, s1, s2, s3, s4, s5⟩; go_simp; with_reducible rfl)
             refine join_ (σ := Value × Value) 2 #[true, true, true, true, true, true, true, true, true, false, false] (fun s_ => [(24, s_.1), (27, s_.2)]) (fun s_ w' => (w'.cell? ⟨gb520, 0, none⟩ = some (.bool a0_0) ∧ w'.cell? ⟨gb520, 1, none⟩ = some (.bool a0_1) ∧ w'.cell? ⟨gb520, 2, none⟩ = some (.int .i64 a0_2) ∧ w'.cell? ⟨gb520, 3, none⟩ = some (.int .i64 a0_3) ∧ w'.cell? ⟨gb520, 4, none⟩ = some (.int .i64 a0_4) ∧ w'.cell? ⟨gb520, 5, none⟩ = some (.slice A0_5 l0_5.length c0_5)) ∧ (Kd.R (Kd.int .i64) 3 w' w.heap.size (fun k_ => some k_ ≠ (s_.2 : Value).ownBlock ∧ some k_ ≠ (u3 : Value).ownBlock) s_.1 y527) ∧ (Kd.R (Kd.int .i64) 3 w' w.heap.size (fun k_ => some k_ ≠ (s_.1 : Value).ownBlock ∧ some k_ ≠ (u3 : Value).ownBlock) s_.2 t530) ∧ (Kd.R (Kd.int .i64) 3 w' w.heap.size (fun k_ => some k_ ≠ (s_.1 : Value).ownBlock ∧ some k_ ≠ (s_.2 : Value).ownBlock) u3 x3_2) ∧ (w'.heap[gb520]? = some (.cells #[.bool a0_0, .bool a0_1, .int .i64 a0_2, .int .i64 a0_3, .int .i64 a0_4, .slice A0_5 l0_5.length c0_5] 46 (0, 0))) ∧ (Below w.heap.size w w')) ?_ ?_
             rotate_left
             ·intro hCont
              refine two_ (i := 5) (j := 8) (Ni := some 24) (Nj := some 27) #[true, true, true, true, true, true, true, true, false, false, false] #[true, true, true, true, true, false, true, true, true, false, false] rfl rfl rfl rfl (two_of HT_.out (by kernel_rfl)) (by decide) (by decide) (fun K hK => ?_) (fun K hK => ?_)
              ·skip
               refine Kd.R_lit_step (Kd.int .i64) _ 3 ?hg (N := 24) ?hd (xs := ([x4_11, a0_2, a0_3] : List Int)) (inner := [.int .i64 x4_11, .int .i64 a0_2, .int .i64 a0_3]) (ok := fun _ => True) (okp := fun _ => True) ?hr ?hp (fun _ hk => hk) trivial (Below.refl _ _) (Nat.le_refl _) (by simp) ?_; (case hd => rfl); (case hg => rfl); (case hr => first | (go_simp; done) | (go_simp; rfl)); (case hp => exact (Reps.one (show Kd.M (Kd.int .i64) _ _ _ x4_11 [.int .i64 x4_11] from rfl) (Reps.one (show Kd.M (Kd.int .i64) _ _ _ a0_2 [.int .i64 a0_2] from rfl) (Reps.one (show Kd.M (Kd.int .i64) _ _ _ a0_3 [.int .i64 a0_3] from rfl) (Reps.none _ _)))))
               intro v528 w30 ho31 hb hg_ hnew_
               clear hg_ hnew_
               (first | rw [← Ny527.out] at ho31 | (simp only [Int.reduceToNat] at ho31; rw [← Ny527.out] at ho31))
               have HO529 := Aside0.mk (Kd.R_lower (Kd.R_new' ho31 (Kd.R_lt (tR HO_3.out))) (below_size zb))
               replace HO_3 := Aside0.mk (Kd.R_elder' (tR HO_3.out) (Kd.R_base ho31) hb)
               replace BK520 := tBb BK520 hb
               replace HB := tBs HB hb
               clear hb ho31
               refine hK.out _ _ ⟨(blk_cell BK520.out 0).trans rfl, (blk_cell BK520.out 1).trans rfl, (blk_cell BK520.out 2).trans rfl, (blk_cell BK520.out 3).trans rfl, (blk_cell BK520.out 4).trans rfl, (blk_cell BK520.out 5).trans rfl⟩ (fun hHeld => ?_)
               clear hK K
               refine tnm (some 24) ?_
               refine one_ (i := 8) (N := some 27) #[true, true, true, true, true, true, true, true, true, false, false] rfl rfl (one_of HT_.out (by kernel_rfl)) (by decide) (fun K hK => ?_)
               refine goes_ Try.func56 (by kernel_rfl) rfl #[.int .i64 a0_4, .int .i64 2] (by rfl) rfl rfl tq ?_
               with_reducible refine (spec_l2Int.calls kj11 a0_4 2 t530 _ A15.out).mono ?_
               rintro e w32 ⟨v531, rfl, ho0, hb⟩
               refine ⟨_, rfl, ?_⟩
               have HO532 := Aside0.mk (Kd.R_lower (Kd.R_new' (Kd.R_new' ho0 (Kd.R_lt (tR HO_3.out))) (Kd.R_lt (tR HO529.out))) (below_size zb))
               replace HO_3 := Aside0.mk (Kd.R_elder' (tR HO_3.out) (Kd.R_base ho0) hb)
               replace HO529 := Aside0.mk (Kd.R_elder' (tR HO529.out) (Kd.R_base ho0) hb)
               replace BK520 := tBb BK520 hb
               replace HB := tBs HB hb
               (try clear hb)
               (try clear hb2)
               (try clear hk)
               (try clear hi)
               (try clear ho0)
               refine hK.out _ _ ⟨(blk_cell BK520.out 0).trans rfl, (blk_cell BK520.out 1).trans rfl, (blk_cell BK520.out 2).trans rfl, (blk_cell BK520.out 3).trans rfl, (blk_cell BK520.out 4).trans rfl, (blk_cell BK520.out 5).trans rfl⟩ (fun hHeld => ?_)
               clear hK K
               refine tnm (some 27) ?_
               exact tnx (hCont (v528, v531) _ ⟨hHeld, (tRm HO529.out), (tRm HO532.out), (tRm HO_3.out), (tH BK520.out), zb⟩)
              ·skip
               refine goes_ Try.func56 (by kernel_rfl) rfl #[.int .i64 a0_4, .int .i64 2] (by rfl) rfl rfl tq ?_
               with_reducible refine (spec_l2Int.calls kj11 a0_4 2 t530 _ A15.out).mono ?_
               rintro e w30 ⟨v531, rfl, ho0, hb⟩
               refine ⟨_, rfl, ?_⟩
               have HO532 := Aside0.mk (Kd.R_lower (Kd.R_new' ho0 (Kd.R_lt (tR HO_3.out))) (below_size zb))
               replace HO_3 := Aside0.mk (Kd.R_elder' (tR HO_3.out) (Kd.R_base ho0) hb)
               replace BK520 := tBb BK520 hb
               replace HB := tBs HB hb
               (try clear hb)
               (try clear hb2)
               (try clear hk)
               (try clear hi)
               (try clear ho0)
               refine hK.out _ _ ⟨(blk_cell BK520.out 0).trans rfl, (blk_cell BK520.out 1).trans rfl, (blk_cell BK520.out 2).trans rfl, (blk_cell BK520.out 3).trans rfl, (blk_cell BK520.out 4).trans rfl, (blk_cell BK520.out 5).trans rfl⟩ (fun hHeld => ?_)
               clear hK K
               refine tnm (some 27) ?_
               refine one_ (i := 5) (N := some 24) #[true, true, true, true, true, true, true, true, true, false, false] rfl rfl (one_of HT_.out (by kernel_rfl)) (by decide) (fun K hK => ?_)
               refine Kd.R_lit_step (Kd.int .i64) _ 3 ?hg (N := 24) ?hd (xs := ([x4_11, a0_2, a0_3] : List Int)) (inner := [.int .i64 x4_11, .int .i64 a0_2, .int .i64 a0_3]) (ok := fun _ => True) (okp := fun _ => True) ?hr ?hp (fun _ hk => hk) trivial (Below.refl _ _) (Nat.le_refl _) (by simp) ?_; (case hd => rfl); (case hg => rfl); (case hr => first | (go_simp; done) | (go_simp; rfl)); (case hp => exact (Reps.one (show Kd.M (Kd.int .i64) _ _ _ x4_11 [.int .i64 x4_11] from rfl) (Reps.one (show Kd.M (Kd.int .i64) _ _ _ a0_2 [.int .i64 a0_2] from rfl) (Reps.one (show Kd.M (Kd.int .i64) _ _ _ a0_3 [.int .i64 a0_3] from rfl) (Reps.none _ _)))))
               intro v528 w31 ho32 hb hg_ hnew_
               clear hg_ hnew_
               (first | rw [← Ny527.out] at ho32 | (simp only [Int.reduceToNat] at ho32; rw [← Ny527.out] at ho32))
               have HO529 := Aside0.mk (Kd.R_lower (Kd.R_new' (Kd.R_new' ho32 (Kd.R_lt (tR HO_3.out))) (Kd.R_lt (tR HO532.out))) (below_size zb))
               replace HO_3 := Aside0.mk (Kd.R_elder' (tR HO_3.out) (Kd.R_base ho32) hb)
               replace HO532 := Aside0.mk (Kd.R_elder' (tR HO532.out) (Kd.R_base ho32) hb)
               replace BK520 := tBb BK520 hb
               replace HB := tBs HB hb
               clear hb ho32
               refine hK.out _ _ ⟨(blk_cell BK520.out 0).trans rfl, (blk_cell BK520.out 1).trans rfl, (blk_cell BK520.out 2).trans rfl, (blk_cell BK520.out 3).trans rfl, (blk_cell BK520.out 4).trans rfl, (blk_cell BK520.out 5).trans rfl⟩ (fun hHeld => ?_)
               clear hK K
               refine tnm (some 24) ?_
               exact tnx (hCont (v528, v531) _ ⟨hHeld, (tRm HO529.out), (tRm HO532.out), (tRm HO_3.out), (tH BK520.out), zb⟩)
             rintro ⟨v528, v531⟩ w33 ⟨hS_, h0_, h1_, h2_, h3_, h4_⟩
             try dsimp only at hS_ h0_ h1_ h2_ h3_ h4_
             clear HO_3 BK520 HB
             have HO529 := Aside0.mk h0_
             have HO532 := Aside0.mk h1_
             have HO_3 := Aside0.mk h2_
             have BK520 := Aside0.mk h3_
             have HB := Aside0.mk h4_
             clear h0_ h1_ h2_ h3_ h4_
             have hHeld := hS_
             obtain ⟨Ao35, co35, eo35⟩ := Kd.R_slice HO532.out
             (first | subst eo35 | (injection eo35 with f1_ f2_ f3_; have f4_ := f1_.symm; have f5_ := f3_.symm; clear f1_ f2_ f3_; subst f4_; subst f5_))
             refine tnp ?_
             refine one_ (i := 9) (N := some 28) #[true, true, true, true, true, true, true, true, true, true, false] rfl rfl (one_of HT_.out (by kernel_rfl)) (by decide) (fun K hK => ?_)
             refine Kd.R_append_rows_step (Kd.int .i64) (w0 := w) w.heap.size (by rfl) (.tmp 24) (.tmp 27) 26 3 (.int .i64 0) 8 rfl Try.underlying26 info3 rfl (by decide) (by omega) v528 y527 t530 _ _ _ (fun k_ => some k_ ≠ (u3 : Value).ownBlock ∧ some k_ ≠ (.slice Ao35 t530.length co35 : Value).ownBlock) (fun _ => False) rfl rfl ?aO ?aR (fun _ _ h => h) (fun _ h => h.elim) ?aF ?aB ?aS ?aL ?_
             (case aR => repeat (first | exact (Kd.R_reads' HO532.out).2.2 | (with_reducible refine Kd.C_alloc ?_ _) | (with_reducible refine Kd.C_drewN ?_ _) | (with_reducible refine Kd.C_drew ?_)))
             (case aB => exact zb)
             (case aF => exact (fun k_ hk => ⟨Kd.fresh' (Kd.R_lt (tR HO_3.out)) k_ hk, Kd.fresh' (Kd.R_lt (tR HO532.out)) k_ hk⟩))
             (case aO => exact (tRm HO529.out))
             (case aS => exact (below_size zb))
             (case aL => have := LMc16.out; omega)
             intro v534 w34 ho hb hg hat
             rw [← Ny533.out] at ho
             replace HO_3 := Aside0.mk (Kd.R_after (ok := (fun k_ => some k_ ≠ (.slice Ao35 t530.length co35 : Value).ownBlock)) (tRm HO_3.out) hg hat)
             replace BK520 := Aside0.mk (blk_grown (tH BK520.out) hg (Kd.R_ne HO529.out BK520.out (by decide)))
             replace HO532 := Aside0.mk (Kd.R_after (ok := (fun k_ => some k_ ≠ (u3 : Value).ownBlock)) (tRm HO532.out) hg hat)
             replace HB := Aside0.mk (hb)
             have HO535 := Aside0.mk (ho)
             clear HO529
             clear ho hb hg hat
             refine hK.out _ _ ⟨(blk_cell BK520.out 0).trans rfl, (blk_cell BK520.out 1).trans rfl, (blk_cell BK520.out 2).trans rfl, (blk_cell BK520.out 3).trans rfl, (blk_cell BK520.out 4).trans rfl, (blk_cell BK520.out 5).trans rfl⟩ (fun hHeld => ?_)
             clear hK K
             refine tnm (some 28) ?_
             refine tpu 10 (some 5) #[true, true, true, true, true, true, true, true, true, true, true] ?_
             refine done_ (done_of HT_.out (by kernel_rfl)) ?_
             obtain ⟨hcz36_0, hcz36_1, hcz36_2, hcz36_3, hcz36_4, hcz36_5, hfz36_0, hfz36_1, hfz36_2, hfz36_3, hfz36_4, hfz36_5⟩ := cells6 BK520.out
             have p536 : 0 ≤ (0 : Int) := (by omega)
             have q536 : 0 < (l0_5.length : Int) := td
             obtain ⟨ad536, A536_3, c536_3, A536_5, c536_5, e536, hx536_0, hx536_1, hx536_2, hx536_3, hx536_4, hx536_5, hl536_3, hi536_3, hl536_5, hi536_5⟩ := at_T63 HR0_5.out 0 p536 q536
             cases e536
             have qi536 : (0 < l0_5.length) = True := eq_true (by omega)
             (try rw [show ((0 : Int)).toNat = 0 from rfl] at hx536_0)
             (try rw [show 0 * 6 = 0 from rfl] at hx536_0)
             (try rw [Addr.add_zero'] at hx536_0)
             (try rw [show ((0 : Int)).toNat = 0 from rfl] at hx536_1)
             (try rw [show 0 * 6 = 0 from rfl] at hx536_1)
             (try rw [Addr.add_zero'] at hx536_1)
             (try rw [show ((0 : Int)).toNat = 0 from rfl] at hx536_2)
             (try rw [show 0 * 6 = 0 from rfl] at hx536_2)
             (try rw [Addr.add_zero'] at hx536_2)
             (try rw [show ((0 : Int)).toNat = 0 from rfl] at hx536_3)
             (try rw [show 0 * 6 = 0 from rfl] at hx536_3)
             (try rw [Addr.add_zero'] at hx536_3)
             (try rw [show ((0 : Int)).toNat = 0 from rfl] at hx536_4)
             (try rw [show 0 * 6 = 0 from rfl] at hx536_4)
             (try rw [Addr.add_zero'] at hx536_4)
             (try rw [show ((0 : Int)).toNat = 0 from rfl] at hx536_5)
             (try rw [show 0 * 6 = 0 from rfl] at hx536_5)
             (try rw [Addr.add_zero'] at hx536_5)
             replace hx536_0 := tcl HB hx536_0
             replace hx536_1 := tcl HB hx536_1
             replace hx536_2 := tcl HB hx536_2
             replace hx536_3 := tcl HB hx536_3
             replace hx536_4 := tcl HB hx536_4
             replace hx536_5 := tcl HB hx536_5
             have HR536_3 := Aside0.mk hi536_3
             have HC536_3 := Aside0.mk hl536_3
             clear hi536_3 hl536_3
             have HR536_5 := Aside0.mk hi536_5
             have HC536_5 := Aside0.mk hl536_5
             clear hi536_5 hl536_5
             replace p536 := eq_true p536
             replace q536 := eq_true q536
             try go_wp2_with (first | ((with_reducible refine gate_callee (f := 56) rfl ?_); refine goesL_ (some 35) rfl rfl Try.func56 (by kernel_rfl) rfl #[.int .i64 ((rd_T63 l0_5 0).f1), .int .i64 3] rfl tq ?_; (with_reducible refine (spec_l2Int.calls kj11 ((rd_T63 l0_5 0).f1) 3 t537 _ A18.out).mono ?_); rintro e w37 ⟨v538, rfl, ho0, hb⟩; have u_v538 := tsv Try.prog v538 ho0; refine ⟨_, rfl, ?_⟩; have HO539 := Aside0.mk (Kd.R_lower (Kd.R_new' (Kd.R_new' (Kd.R_new' ho0 (Kd.R_lt (tR HO_3.out))) (Kd.R_lt (tR HO532.out))) (Kd.R_lt (tR HO535.out))) (below_size zb)); replace HO_3 := Aside0.mk (Kd.R_elder' (tR HO_3.out) (Kd.R_base ho0) hb); replace HO532 := Aside0.mk (Kd.R_elder' (tR HO532.out) (Kd.R_base ho0) hb); replace HO535 := Aside0.mk (Kd.R_elder' (tR HO535.out) (Kd.R_base ho0) hb); replace BK520 := tBb BK520 hb; replace HB := tBs HB hb; (try clear hb); (try clear hb2); (try clear hk); (try clear hi); (try clear ho0); obtain ⟨Ao39, co39, eo39⟩ := Kd.R_slice HO539.out; subst eo39) | ((with_reducible refine gate_builtin (b := .append) (xs := #[.tmp 29, .tmp 35]) rfl ?_); at_builtin; refine Kd.R_append_rows (Kd.int .i64) (w0 := w) w.heap.size rfl (.tmp 29) (.tmp 35) 26 3 (.int .i64 0) 8 rfl Try.underlying26 info3 rfl (by decide) (by omega) v534 y533 t537 _ _ _ (fun k_ => some k_ ≠ (u3 : Value).ownBlock ∧ some k_ ≠ (.slice Ao35 t530.length co35 : Value).ownBlock ∧ some k_ ≠ (.slice Ao39 t537.length co39 : Value).ownBlock) (fun _ => False) rfl rfl ?aO ?aR (fun _ _ h => h) (fun _ h => h.elim) ?aF ?aB ?aS ?aL ?_; (case aR => repeat (first | exact (Kd.R_reads' HO539.out).2.2 | (with_reducible refine Kd.C_alloc ?_ _) | (with_reducible refine Kd.C_drewN ?_ _) | (with_reducible refine Kd.C_drew ?_))); (case aB => exact zb); (case aF => exact (fun k_ hk => ⟨Kd.fresh' (Kd.R_lt (tR HO_3.out)) k_ hk, Kd.fresh' (Kd.R_lt (tR HO532.out)) k_ hk, Kd.fresh' (Kd.R_lt (tR HO539.out)) k_ hk⟩)); (case aO => exact (tRm HO535.out)); (case aS => exact (below_size zb)); (case aL => have := LMc19.out; omega); intro v541 w38 ho hb hg hat; rw [← Ny540.out] at ho; replace HO_3 := Aside0.mk (Kd.R_after (ok := (fun k_ => some k_ ≠ (.slice Ao35 t530.length co35 : Value).ownBlock ∧ some k_ ≠ (.slice Ao39 t537.length co39 : Value).ownBlock)) (tRm HO_3.out) hg hat); replace BK520 := Aside0.mk (blk_grown (tH BK520.out) hg (Kd.R_ne HO535.out BK520.out (by decide))); replace HO532 := Aside0.mk (Kd.R_after (ok := (fun k_ => some k_ ≠ (u3 : Value).ownBlock ∧ some k_ ≠ (.slice Ao39 t537.length co39 : Value).ownBlock)) (tRm HO532.out) hg hat); replace HO539 := Aside0.mk (Kd.R_after (ok := (fun k_ => some k_ ≠ (u3 : Value).ownBlock ∧ some k_ ≠ (.slice Ao35 t530.length co35 : Value).ownBlock)) (tRm HO539.out) hg hat); replace HB := Aside0.mk (hb); have HO542 := Aside0.mk (ho); clear HO535; clear ho hb hg hat; obtain ⟨hcz40_0, hcz40_1, hcz40_2, hcz40_3, hcz40_4, hcz40_5, hfz40_0, hfz40_1, hfz40_2, hfz40_3, hfz40_4, hfz40_5⟩ := cells6 BK520.out) | ((with_reducible refine gate_dst (N := 41) rfl ?_); refine Kd.R_lit (Kd.int .i64) _ 3 ?hg (N := 41) ?hd (xs := ([(l0_5.length : Int), 0, 0] : List Int)) (inner := [.int .i64 (l0_5.length : Int), .int .i64 0, .int .i64 0]) (ok := fun _ => True) (okp := fun _ => True) ?hr ?hp (fun _ hk => hk) trivial (Below.refl _ _) (Nat.le_refl _) (by simp) ?_; (case hd => rfl); (case hg => rfl); (case hr => first | (go_simp; done) | (go_simp; rfl)); (case hp => exact (Reps.one (show Kd.M (Kd.int .i64) _ _ _ (l0_5.length : Int) [.int .i64 (l0_5.length : Int)] from rfl) (Reps.one (show Kd.M (Kd.int .i64) _ _ _ 0 [.int .i64 0] from rfl) (Reps.one (show Kd.M (Kd.int .i64) _ _ _ 0 [.int .i64 0] from rfl) (Reps.none _ _))))); intro v544 w41 ho42 hb hg_ hnew_; clear hg_ hnew_; (first | rw [← Ny543.out] at ho42 | (simp only [Int.reduceToNat] at ho42; rw [← Ny543.out] at ho42)); have HO545 := Aside0.mk (Kd.R_lower (Kd.R_new' (Kd.R_new' (Kd.R_new' (Kd.R_new' ho42 (Kd.R_lt (tR HO_3.out))) (Kd.R_lt (tR HO532.out))) (Kd.R_lt (tR HO539.out))) (Kd.R_lt (tR HO542.out))) (below_size zb)); replace HO_3 := Aside0.mk (Kd.R_elder' (tR HO_3.out) (Kd.R_base ho42) hb); replace HO532 := Aside0.mk (Kd.R_elder' (tR HO532.out) (Kd.R_base ho42) hb); replace HO539 := Aside0.mk (Kd.R_elder' (tR HO539.out) (Kd.R_base ho42) hb); replace HO542 := Aside0.mk (Kd.R_elder' (tR HO542.out) (Kd.R_base ho42) hb); replace BK520 := tBb BK520 hb; replace HB := tBs HB hb; clear hb ho42; obtain ⟨Ao44, co44, eo44⟩ := Kd.R_slice HO545.out; subst eo44) | ((with_reducible refine gate_builtin (b := .append) (xs := #[.tmp 37, .tmp 41]) rfl ?_); at_builtin; refine Kd.R_append_rows (Kd.int .i64) (w0 := w) w.heap.size rfl (.tmp 37) (.tmp 41) 26 3 (.int .i64 0) 8 rfl Try.underlying26 info3 rfl (by decide) (by omega) v541 y540 y543 _ _ _ (fun k_ => some k_ ≠ (u3 : Value).ownBlock ∧ some k_ ≠ (.slice Ao35 t530.length co35 : Value).ownBlock ∧ some k_ ≠ (.slice Ao39 t537.length co39 : Value).ownBlock ∧ some k_ ≠ (.slice Ao44 y543.length co44 : Value).ownBlock) (fun _ => False) rfl rfl ?aO ?aR (fun _ _ h => h) (fun _ h => h.elim) ?aF ?aB ?aS ?aL ?_; (case aR => repeat (first | exact (Kd.R_reads' HO545.out).2.2 | (with_reducible refine Kd.C_alloc ?_ _) | (with_reducible refine Kd.C_drewN ?_ _) | (with_reducible refine Kd.C_drew ?_))); (case aB => exact zb); (case aF => exact (fun k_ hk => ⟨Kd.fresh' (Kd.R_lt (tR HO_3.out)) k_ hk, Kd.fresh' (Kd.R_lt (tR HO532.out)) k_ hk, Kd.fresh' (Kd.R_lt (tR HO539.out)) k_ hk, Kd.fresh' (Kd.R_lt (tR HO545.out)) k_ hk⟩)); (case aO => exact (tRm HO542.out)); (case aS => exact (below_size zb)); (case aL => have := LMc20.out; omega); intro v547 w43 ho hb hg hat; rw [← Ny546.out] at ho; replace HO_3 := Aside0.mk (Kd.R_after (ok := (fun k_ => some k_ ≠ (.slice Ao35 t530.length co35 : Value).ownBlock ∧ some k_ ≠ (.slice Ao39 t537.length co39 : Value).ownBlock ∧ some k_ ≠ (.slice Ao44 y543.length co44 : Value).ownBlock)) (tRm HO_3.out) hg hat); replace BK520 := Aside0.mk (blk_grown (tH BK520.out) hg (Kd.R_ne HO542.out BK520.out (by decide))); replace HO532 := Aside0.mk (Kd.R_after (ok := (fun k_ => some k_ ≠ (u3 : Value).ownBlock ∧ some k_ ≠ (.slice Ao39 t537.length co39 : Value).ownBlock ∧ some k_ ≠ (.slice Ao44 y543.length co44 : Value).ownBlock)) (tRm HO532.out) hg hat); replace HO539 := Aside0.mk (Kd.R_after (ok := (fun k_ => some k_ ≠ (u3 : Value).ownBlock ∧ some k_ ≠ (.slice Ao35 t530.length co35 : Value).ownBlock ∧ some k_ ≠ (.slice Ao44 y543.length co44 : Value).ownBlock)) (tRm HO539.out) hg hat); replace HO545 := Aside0.mk (Kd.R_after (ok := (fun k_ => some k_ ≠ (u3 : Value).ownBlock ∧ some k_ ≠ (.slice Ao35 t530.length co35 : Value).ownBlock ∧ some k_ ≠ (.slice Ao39 t537.length co39 : Value).ownBlock)) (tRm HO545.out) hg hat); replace HB := Aside0.mk (hb); have HO548 := Aside0.mk (ho); clear HO542; clear ho hb hg hat; obtain ⟨Ao46, co46, eo46⟩ := Kd.R_slice HO_3.out; subst eo46) | ((with_reducible refine gate_builtin (b := .append) (xs := #[.tmp 43, .tmp 44]) rfl ?_); at_builtin; refine Kd.R_append_rows (Kd.int .i64) (w0 := w) w.heap.size rfl (.tmp 43) (.tmp 44) 26 3 (.int .i64 0) 8 rfl Try.underlying26 info3 rfl (by decide) (by omega) v547 y546 x3_2 _ _ _ (fun k_ => some k_ ≠ (.slice Ao46 x3_2.length co46 : Value).ownBlock ∧ some k_ ≠ (.slice Ao35 t530.length co35 : Value).ownBlock ∧ some k_ ≠ (.slice Ao39 t537.length co39 : Value).ownBlock ∧ some k_ ≠ (.slice Ao44 y543.length co44 : Value).ownBlock) (fun _ => False) rfl rfl ?aO ?aR (fun _ _ h => h) (fun _ h => h.elim) ?aF ?aB ?aS ?aL ?_; (case aR => repeat (first | exact (Kd.R_reads' HO_3.out).2.2 | (with_reducible refine Kd.C_alloc ?_ _) | (with_reducible refine Kd.C_drewN ?_ _) | (with_reducible refine Kd.C_drew ?_))); (case aB => exact zb); (case aF => exact (fun k_ hk => ⟨Kd.fresh' (Kd.R_lt (tR HO_3.out)) k_ hk, Kd.fresh' (Kd.R_lt (tR HO532.out)) k_ hk, Kd.fresh' (Kd.R_lt (tR HO539.out)) k_ hk, Kd.fresh' (Kd.R_lt (tR HO545.out)) k_ hk⟩)); (case aO => exact (tR HO548.out)); (case aS => exact (below_size zb)); (case aL => have := LMc21.out; omega); intro v550 w45 ho hb hg hat; rw [← Ny549.out] at ho; replace HO_3 := Aside0.mk (Kd.R_after (ok := (fun k_ => some k_ ≠ (.slice Ao35 t530.length co35 : Value).ownBlock ∧ some k_ ≠ (.slice Ao39 t537.length co39 : Value).ownBlock ∧ some k_ ≠ (.slice Ao44 y543.length co44 : Value).ownBlock)) (tR HO_3.out) hg hat); replace BK520 := Aside0.mk (blk_grown (tH BK520.out) hg (Kd.R_ne HO548.out BK520.out (by decide))); replace HO532 := Aside0.mk (Kd.R_after (ok := (fun k_ => some k_ ≠ (.slice Ao46 x3_2.length co46 : Value).ownBlock ∧ some k_ ≠ (.slice Ao39 t537.length co39 : Value).ownBlock ∧ some k_ ≠ (.slice Ao44 y543.length co44 : Value).ownBlock)) (tR HO532.out) hg hat); replace HO539 := Aside0.mk (Kd.R_after (ok := (fun k_ => some k_ ≠ (.slice Ao46 x3_2.length co46 : Value).ownBlock ∧ some k_ ≠ (.slice Ao35 t530.length co35 : Value).ownBlock ∧ some k_ ≠ (.slice Ao44 y543.length co44 : Value).ownBlock)) (tR HO539.out) hg hat); replace HO545 := Aside0.mk (Kd.R_after (ok := (fun k_ => some k_ ≠ (.slice Ao46 x3_2.length co46 : Value).ownBlock ∧ some k_ ≠ (.slice Ao35 t530.length co35 : Value).ownBlock ∧ some k_ ≠ (.slice Ao39 t537.length co39 : Value).ownBlock)) (tR HO545.out) hg hat); replace HB := Aside0.mk (hb); have HO551 := Aside0.mk (ho); clear HO548; clear ho hb hg hat; obtain ⟨hcz47_0, hcz47_1, hcz47_2, hcz47_3, hcz47_4, hcz47_5, hfz47_0, hfz47_1, hfz47_2, hfz47_3, hfz47_4, hfz47_5⟩ := cells6 BK520.out; have p552 : 0 ≤ (0 : Int) := (by omega); have q552 : 0 < (l0_5.length : Int) := td; obtain ⟨ad552, A552_3, c552_3, A552_5, c552_5, e552, hx552_0, hx552_1, hx552_2, hx552_3, hx552_4, hx552_5, hl552_3, hi552_3, hl552_5, hi552_5⟩ := at_T63 HR0_5.out 0 p552 q552; obtain rfl : ad536 = ad552 := (by injection e552); have qi552 : (0 < l0_5.length) = True := eq_true (by omega); (try rw [show ((0 : Int)).toNat = 0 from rfl] at hx552_0); (try rw [show 0 * 6 = 0 from rfl] at hx552_0); (try rw [Addr.add_zero'] at hx552_0); (try rw [show ((0 : Int)).toNat = 0 from rfl] at hx552_1); (try rw [show 0 * 6 = 0 from rfl] at hx552_1); (try rw [Addr.add_zero'] at hx552_1); (try rw [show ((0 : Int)).toNat = 0 from rfl] at hx552_2); (try rw [show 0 * 6 = 0 from rfl] at hx552_2); (try rw [Addr.add_zero'] at hx552_2); (try rw [show ((0 : Int)).toNat = 0 from rfl] at hx552_3); (try rw [show 0 * 6 = 0 from rfl] at hx552_3); (try rw [Addr.add_zero'] at hx552_3); (try rw [show ((0 : Int)).toNat = 0 from rfl] at hx552_4); (try rw [show 0 * 6 = 0 from rfl] at hx552_4); (try rw [Addr.add_zero'] at hx552_4); (try rw [show ((0 : Int)).toNat = 0 from rfl] at hx552_5); (try rw [show 0 * 6 = 0 from rfl] at hx552_5); (try rw [Addr.add_zero'] at hx552_5); replace hx552_0 := tcl HB hx552_0; replace hx552_1 := tcl HB hx552_1; replace hx552_2 := tcl HB hx552_2; replace hx552_3 := tcl HB hx552_3; replace hx552_4 := tcl HB hx552_4; replace hx552_5 := tcl HB hx552_5; have HR552_3 := Aside0.mk hi552_3; have HC552_3 := Aside0.mk hl552_3; clear hi552_3 hl552_3; have HR552_5 := Aside0.mk hi552_5; have HC552_5 := Aside0.mk hl552_5; clear hi552_5 hl552_5; replace p552 := eq_true p552; replace q552 := eq_true q552) | ((with_reducible refine gate_callee (f := 56) rfl ?_); refine goesL_ (some 51) rfl rfl Try.func56 (by kernel_rfl) rfl #[.int .i64 ((rd_T63 l0_5 0).f0), .int .i64 3] rfl tq ?_; (with_reducible refine (spec_l2Int.calls kj11 ((rd_T63 l0_5 0).f0) 3 t553 _ A22.out).mono ?_); rintro e w48 ⟨v554, rfl, ho0, hb⟩; have u_v554 := tsv Try.prog v554 ho0; refine ⟨_, rfl, ?_⟩; have HO555 := Aside0.mk (Kd.R_lower (Kd.R_new' (Kd.R_new' (Kd.R_new' (Kd.R_new' (Kd.R_new' ho0 (Kd.R_lt (tR HO_3.out))) (Kd.R_lt (tR HO532.out))) (Kd.R_lt (tR HO539.out))) (Kd.R_lt (tR HO545.out))) (Kd.R_lt (tR HO551.out))) (below_size zb)); replace HO_3 := Aside0.mk (Kd.R_elder' (tR HO_3.out) (Kd.R_base ho0) hb); replace HO532 := Aside0.mk (Kd.R_elder' (tR HO532.out) (Kd.R_base ho0) hb); replace HO539 := Aside0.mk (Kd.R_elder' (tR HO539.out) (Kd.R_base ho0) hb); replace HO545 := Aside0.mk (Kd.R_elder' (tR HO545.out) (Kd.R_base ho0) hb); replace HO551 := Aside0.mk (Kd.R_elder' (tR HO551.out) (Kd.R_base ho0) hb); replace BK520 := tBb BK520 hb; replace HB := tBs HB hb; (try clear hb); (try clear hb2); (try clear hk); (try clear hi); (try clear ho0); obtain ⟨Ao49, co49, eo49⟩ := Kd.R_slice HO551.out; subst eo49) | ((with_reducible refine gate_callee (f := 56) rfl ?_); refine goesL_ (some 54) rfl rfl Try.func56 (by kernel_rfl) rfl #[.int .i64 (y549.length : Int), .int .i64 2] rfl tq ?_; (with_reducible refine (spec_l2Int.calls kj11 (y549.length : Int) 2 t556 _ A23.out).mono ?_); rintro e w50 ⟨v557, rfl, ho0, hb⟩; have u_v557 := tsv Try.prog v557 ho0; refine ⟨_, rfl, ?_⟩; have HO558 := Aside0.mk (Kd.R_lower (Kd.R_new' (Kd.R_new' (Kd.R_new' (Kd.R_new' (Kd.R_new' (Kd.R_new' ho0 (Kd.R_lt (tR HO_3.out))) (Kd.R_lt (tR HO532.out))) (Kd.R_lt (tR HO539.out))) (Kd.R_lt (tR HO545.out))) (Kd.R_lt (tR HO551.out))) (Kd.R_lt (tR HO555.out))) (below_size zb)); replace HO_3 := Aside0.mk (Kd.R_elder' (tR HO_3.out) (Kd.R_base ho0) hb); replace HO532 := Aside0.mk (Kd.R_elder' (tR HO532.out) (Kd.R_base ho0) hb); replace HO539 := Aside0.mk (Kd.R_elder' (tR HO539.out) (Kd.R_base ho0) hb); replace HO545 := Aside0.mk (Kd.R_elder' (tR HO545.out) (Kd.R_base ho0) hb); replace HO551 := Aside0.mk (Kd.R_elder' (tR HO551.out) (Kd.R_base ho0) hb); replace HO555 := Aside0.mk (Kd.R_elder' (tR HO555.out) (Kd.R_base ho0) hb); replace BK520 := tBb BK520 hb; replace HB := tBs HB hb; (try clear hb); (try clear hb2); (try clear hk); (try clear hi); (try clear ho0); obtain ⟨Ao52, co52, eo52⟩ := Kd.R_slice HO558.out; subst eo52) | ((with_reducible refine gate_builtin (b := .append) (xs := #[.tmp 51, .tmp 54]) rfl ?_); at_builtin; refine Kd.R_append_rows (Kd.int .i64) (w0 := w) w.heap.size rfl (.tmp 51) (.tmp 54) 26 3 (.int .i64 0) 8 rfl Try.underlying26 info3 rfl (by decide) (by omega) v554 t553 t556 _ _ _ (fun k_ => some k_ ≠ (.slice Ao46 x3_2.length co46 : Value).ownBlock ∧ some k_ ≠ (.slice Ao35 t530.length co35 : Value).ownBlock ∧ some k_ ≠ (.slice Ao39 t537.length co39 : Value).ownBlock ∧ some k_ ≠ (.slice Ao44 y543.length co44 : Value).ownBlock ∧ some k_ ≠ (.slice Ao49 y549.length co49 : Value).ownBlock ∧ some k_ ≠ (.slice Ao52 t556.length co52 : Value).ownBlock) (fun _ => False) rfl rfl ?aO ?aR (fun _ _ h => h) (fun _ h => h.elim) ?aF ?aB ?aS ?aL ?_; (case aR => repeat (first | exact (Kd.R_reads' HO558.out).2.2 | (with_reducible refine Kd.C_alloc ?_ _) | (with_reducible refine Kd.C_drewN ?_ _) | (with_reducible refine Kd.C_drew ?_))); (case aB => exact zb); (case aF => exact (fun k_ hk => ⟨Kd.fresh' (Kd.R_lt (tR HO_3.out)) k_ hk, Kd.fresh' (Kd.R_lt (tR HO532.out)) k_ hk, Kd.fresh' (Kd.R_lt (tR HO539.out)) k_ hk, Kd.fresh' (Kd.R_lt (tR HO545.out)) k_ hk, Kd.fresh' (Kd.R_lt (tR HO551.out)) k_ hk, Kd.fresh' (Kd.R_lt (tR HO558.out)) k_ hk⟩)); (case aO => exact (tRm HO555.out)); (case aS => exact (below_size zb)); (case aL => have := LMc24.out; omega); intro v560 w51 ho hb hg hat; rw [← Ny559.out] at ho; replace HO_3 := Aside0.mk (Kd.R_after (ok := (fun k_ => some k_ ≠ (.slice Ao35 t530.length co35 : Value).ownBlock ∧ some k_ ≠ (.slice Ao39 t537.length co39 : Value).ownBlock ∧ some k_ ≠ (.slice Ao44 y543.length co44 : Value).ownBlock ∧ some k_ ≠ (.slice Ao49 y549.length co49 : Value).ownBlock ∧ some k_ ≠ (.slice Ao52 t556.length co52 : Value).ownBlock)) (tRm HO_3.out) hg hat); replace BK520 := Aside0.mk (blk_grown (tH BK520.out) hg (Kd.R_ne HO555.out BK520.out (by decide))); replace HO532 := Aside0.mk (Kd.R_after (ok := (fun k_ => some k_ ≠ (.slice Ao46 x3_2.length co46 : Value).ownBlock ∧ some k_ ≠ (.slice Ao39 t537.length co39 : Value).ownBlock ∧ some k_ ≠ (.slice Ao44 y543.length co44 : Value).ownBlock ∧ some k_ ≠ (.slice Ao49 y549.length co49 : Value).ownBlock ∧ some k_ ≠ (.slice Ao52 t556.length co52 : Value).ownBlock)) (tRm HO532.out) hg hat); replace HO539 := Aside0.mk (Kd.R_after (ok := (fun k_ => some k_ ≠ (.slice Ao46 x3_2.length co46 : Value).ownBlock ∧ some k_ ≠ (.slice Ao35 t530.length co35 : Value).ownBlock ∧ some k_ ≠ (.slice Ao44 y543.length co44 : Value).ownBlock ∧ some k_ ≠ (.slice Ao49 y549.length co49 : Value).ownBlock ∧ some k_ ≠ (.slice Ao52 t556.length co52 : Value).ownBlock)) (tRm HO539.out) hg hat); replace HO545 := Aside0.mk (Kd.R_after (ok := (fun k_ => some k_ ≠ (.slice Ao46 x3_2.length co46 : Value).ownBlock ∧ some k_ ≠ (.slice Ao35 t530.length co35 : Value).ownBlock ∧ some k_ ≠ (.slice Ao39 t537.length co39 : Value).ownBlock ∧ some k_ ≠ (.slice Ao49 y549.length co49 : Value).ownBlock ∧ some k_ ≠ (.slice Ao52 t556.length co52 : Value).ownBlock)) (tRm HO545.out) hg hat); replace HO551 := Aside0.mk (Kd.R_after (ok := (fun k_ => some k_ ≠ (.slice Ao46 x3_2.length co46 : Value).ownBlock ∧ some k_ ≠ (.slice Ao35 t530.length co35 : Value).ownBlock ∧ some k_ ≠ (.slice Ao39 t537.length co39 : Value).ownBlock ∧ some k_ ≠ (.slice Ao44 y543.length co44 : Value).ownBlock ∧ some k_ ≠ (.slice Ao52 t556.length co52 : Value).ownBlock)) (tRm HO551.out) hg hat); replace HO558 := Aside0.mk (Kd.R_after (ok := (fun k_ => some k_ ≠ (.slice Ao46 x3_2.length co46 : Value).ownBlock ∧ some k_ ≠ (.slice Ao35 t530.length co35 : Value).ownBlock ∧ some k_ ≠ (.slice Ao39 t537.length co39 : Value).ownBlock ∧ some k_ ≠ (.slice Ao44 y543.length co44 : Value).ownBlock ∧ some k_ ≠ (.slice Ao49 y549.length co49 : Value).ownBlock)) (tRm HO558.out) hg hat); replace HB := Aside0.mk (hb); have HO561 := Aside0.mk (ho); clear HO555; clear ho hb hg hat) | ((with_reducible refine gate_callee (f := 57) rfl ?_); refine goesL_ (some 58) rfl rfl Try.func57 (by kernel_rfl) rfl #[.slice Ao49 y549.length co49] rfl tq ?_; (with_reducible refine (spec_l2Sum.calls kj11 _ _ y549 t562 _ ?side1 ?side2 A25.out).mono ?_); (case side1 => repeat (first | exact (Kd.R_reads' HO551.out).2.2 | (with_reducible refine Kd.C_alloc ?_ _) | (with_reducible refine Kd.C_drewN ?_ _) | (with_reducible refine Kd.C_drew ?_))); (case side2 => exact (Kd.R_reads' HO551.out).2.1); rintro e w' ⟨rfl, ⟨nd, rfl⟩⟩; refine ⟨_, rfl, ?_⟩) | ((with_reducible refine gate_callee (f := 56) rfl ?_); refine goesL_ (some 59) rfl rfl Try.func56 (by kernel_rfl) rfl #[.int .i64 t562, .int .i64 2] rfl tq ?_; (with_reducible refine (spec_l2Int.calls kj11 t562 2 t563 _ A26.out).mono ?_); rintro e w53 ⟨v564, rfl, ho0, hb⟩; have u_v564 := tsv Try.prog v564 ho0; refine ⟨_, rfl, ?_⟩; have HO565 := Aside0.mk (Kd.R_lower (Kd.R_new' (Kd.R_new' (Kd.R_new' (Kd.R_new' (Kd.R_new' (Kd.R_new' (Kd.R_new' ho0 (Kd.R_lt (tR HO_3.out))) (Kd.R_lt (tR HO532.out))) (Kd.R_lt (tR HO539.out))) (Kd.R_lt (tR HO545.out))) (Kd.R_lt (tR HO551.out))) (Kd.R_lt (tR HO558.out))) (Kd.R_lt (tR HO561.out))) (below_size zb)); replace HO_3 := Aside0.mk (Kd.R_elder' (tR HO_3.out) (Kd.R_base ho0) hb); replace HO532 := Aside0.mk (Kd.R_elder' (tR HO532.out) (Kd.R_base ho0) hb); replace HO539 := Aside0.mk (Kd.R_elder' (tR HO539.out) (Kd.R_base ho0) hb); replace HO545 := Aside0.mk (Kd.R_elder' (tR HO545.out) (Kd.R_base ho0) hb); replace HO551 := Aside0.mk (Kd.R_elder' (tR HO551.out) (Kd.R_base ho0) hb); replace HO558 := Aside0.mk (Kd.R_elder' (tR HO558.out) (Kd.R_base ho0) hb); replace HO561 := Aside0.mk (Kd.R_elder' (tR HO561.out) (Kd.R_base ho0) hb); replace BK520 := tBb BK520 hb; replace HB := tBs HB hb; (try clear hb); (try clear hb2); (try clear hk); (try clear hi); (try clear ho0); obtain ⟨Ao55, co55, eo55⟩ := Kd.R_slice HO565.out; subst eo55) | ((with_reducible refine gate_builtin (b := .append) (xs := #[.tmp 56, .tmp 59]) rfl ?_); at_builtin; refine Kd.R_append_rows (Kd.int .i64) (w0 := w) w.heap.size rfl (.tmp 56) (.tmp 59) 26 3 (.int .i64 0) 8 rfl Try.underlying26 info3 rfl (by decide) (by omega) v560 y559 t563 _ _ _ (fun k_ => some k_ ≠ (.slice Ao46 x3_2.length co46 : Value).ownBlock ∧ some k_ ≠ (.slice Ao35 t530.length co35 : Value).ownBlock ∧ some k_ ≠ (.slice Ao39 t537.length co39 : Value).ownBlock ∧ some k_ ≠ (.slice Ao44 y543.length co44 : Value).ownBlock ∧ some k_ ≠ (.slice Ao49 y549.length co49 : Value).ownBlock ∧ some k_ ≠ (.slice Ao52 t556.length co52 : Value).ownBlock ∧ some k_ ≠ (.slice Ao55 t563.length co55 : Value).ownBlock) (fun _ => False) rfl rfl ?aO ?aR (fun _ _ h => h) (fun _ h => h.elim) ?aF ?aB ?aS ?aL ?_; (case aR => repeat (first | exact (Kd.R_reads' HO565.out).2.2 | (with_reducible refine Kd.C_alloc ?_ _) | (with_reducible refine Kd.C_drewN ?_ _) | (with_reducible refine Kd.C_drew ?_))); (case aB => exact zb); (case aF => exact (fun k_ hk => ⟨Kd.fresh' (Kd.R_lt (tR HO_3.out)) k_ hk, Kd.fresh' (Kd.R_lt (tR HO532.out)) k_ hk, Kd.fresh' (Kd.R_lt (tR HO539.out)) k_ hk, Kd.fresh' (Kd.R_lt (tR HO545.out)) k_ hk, Kd.fresh' (Kd.R_lt (tR HO551.out)) k_ hk, Kd.fresh' (Kd.R_lt (tR HO558.out)) k_ hk, Kd.fresh' (Kd.R_lt (tR HO565.out)) k_ hk⟩)); (case aO => exact (tRm HO561.out)); (case aS => exact (below_size zb)); (case aL => have := LMc27.out; omega); intro v567 w54 ho hb hg hat; rw [← Ny566.out] at ho; replace HO_3 := Aside0.mk (Kd.R_after (ok := (fun k_ => some k_ ≠ (.slice Ao35 t530.length co35 : Value).ownBlock ∧ some k_ ≠ (.slice Ao39 t537.length co39 : Value).ownBlock ∧ some k_ ≠ (.slice Ao44 y543.length co44 : Value).ownBlock ∧ some k_ ≠ (.slice Ao49 y549.length co49 : Value).ownBlock ∧ some k_ ≠ (.slice Ao52 t556.length co52 : Value).ownBlock ∧ some k_ ≠ (.slice Ao55 t563.length co55 : Value).ownBlock)) (tRm HO_3.out) hg hat); replace BK520 := Aside0.mk (blk_grown (tH BK520.out) hg (Kd.R_ne HO561.out BK520.out (by decide))); replace HO532 := Aside0.mk (Kd.R_after (ok := (fun k_ => some k_ ≠ (.slice Ao46 x3_2.length co46 : Value).ownBlock ∧ some k_ ≠ (.slice Ao39 t537.length co39 : Value).ownBlock ∧ some k_ ≠ (.slice Ao44 y543.length co44 : Value).ownBlock ∧ some k_ ≠ (.slice Ao49 y549.length co49 : Value).ownBlock ∧ some k_ ≠ (.slice Ao52 t556.length co52 : Value).ownBlock ∧ some k_ ≠ (.slice Ao55 t563.length co55 : Value).ownBlock)) (tRm HO532.out) hg hat); replace HO539 := Aside0.mk (Kd.R_after (ok := (fun k_ => some k_ ≠ (.slice Ao46 x3_2.length co46 : Value).ownBlock ∧ some k_ ≠ (.slice Ao35 t530.length co35 : Value).ownBlock ∧ some k_ ≠ (.slice Ao44 y543.length co44 : Value).ownBlock ∧ some k_ ≠ (.slice Ao49 y549.length co49 : Value).ownBlock ∧ some k_ ≠ (.slice Ao52 t556.length co52 : Value).ownBlock ∧ some k_ ≠ (.slice Ao55 t563.length co55 : Value).ownBlock)) (tRm HO539.out) hg hat); replace HO545 := Aside0.mk (Kd.R_after (ok := (fun k_ => some k_ ≠ (.slice Ao46 x3_2.length co46 : Value).ownBlock ∧ some k_ ≠ (.slice Ao35 t530.length co35 : Value).ownBlock ∧ some k_ ≠ (.slice Ao39 t537.length co39 : Value).ownBlock ∧ some k_ ≠ (.slice Ao49 y549.length co49 : Value).ownBlock ∧ some k_ ≠ (.slice Ao52 t556.length co52 : Value).ownBlock ∧ some k_ ≠ (.slice Ao55 t563.length co55 : Value).ownBlock)) (tRm HO545.out) hg hat); replace HO551 := Aside0.mk (Kd.R_after (ok := (fun k_ => some k_ ≠ (.slice Ao46 x3_2.length co46 : Value).ownBlock ∧ some k_ ≠ (.slice Ao35 t530.length co35 : Value).ownBlock ∧ some k_ ≠ (.slice Ao39 t537.length co39 : Value).ownBlock ∧ some k_ ≠ (.slice Ao44 y543.length co44 : Value).ownBlock ∧ some k_ ≠ (.slice Ao52 t556.length co52 : Value).ownBlock ∧ some k_ ≠ (.slice Ao55 t563.length co55 : Value).ownBlock)) (tRm HO551.out) hg hat); replace HO558 := Aside0.mk (Kd.R_after (ok := (fun k_ => some k_ ≠ (.slice Ao46 x3_2.length co46 : Value).ownBlock ∧ some k_ ≠ (.slice Ao35 t530.length co35 : Value).ownBlock ∧ some k_ ≠ (.slice Ao39 t537.length co39 : Value).ownBlock ∧ some k_ ≠ (.slice Ao44 y543.length co44 : Value).ownBlock ∧ some k_ ≠ (.slice Ao49 y549.length co49 : Value).ownBlock ∧ some k_ ≠ (.slice Ao55 t563.length co55 : Value).ownBlock)) (tRm HO558.out) hg hat); replace HO565 := Aside0.mk (Kd.R_after (ok := (fun k_ => some k_ ≠ (.slice Ao46 x3_2.length co46 : Value).ownBlock ∧ some k_ ≠ (.slice Ao35 t530.length co35 : Value).ownBlock ∧ some k_ ≠ (.slice Ao39 t537.length co39 : Value).ownBlock ∧ some k_ ≠ (.slice Ao44 y543.length co44 : Value).ownBlock ∧ some k_ ≠ (.slice Ao49 y549.length co49 : Value).ownBlock ∧ some k_ ≠ (.slice Ao52 t556.length co52 : Value).ownBlock)) (tRm HO565.out) hg hat); replace HB := Aside0.mk (hb); have HO568 := Aside0.mk (ho); clear HO561; clear ho hb hg hat) | ((with_reducible refine gate_builtin (b := .append) (xs := #[.tmp 61, .tmp 62]) rfl ?_); at_builtin; refine Kd.R_append_rows (Kd.int .i64) (w0 := w) w.heap.size rfl (.tmp 61) (.tmp 62) 26 3 (.int .i64 0) 8 rfl Try.underlying26 info3 rfl (by decide) (by omega) v567 y566 y549 _ _ _ (fun k_ => some k_ ≠ (.slice Ao46 x3_2.length co46 : Value).ownBlock ∧ some k_ ≠ (.slice Ao35 t530.length co35 : Value).ownBlock ∧ some k_ ≠ (.slice Ao39 t537.length co39 : Value).ownBlock ∧ some k_ ≠ (.slice Ao44 y543.length co44 : Value).ownBlock ∧ some k_ ≠ (.slice Ao49 y549.length co49 : Value).ownBlock ∧ some k_ ≠ (.slice Ao52 t556.length co52 : Value).ownBlock ∧ some k_ ≠ (.slice Ao55 t563.length co55 : Value).ownBlock) (fun _ => False) rfl rfl ?aO ?aR (fun _ _ h => h) (fun _ h => h.elim) ?aF ?aB ?aS ?aL ?_; (case aR => repeat (first | exact (Kd.R_reads' HO551.out).2.2 | (with_reducible refine Kd.C_alloc ?_ _) | (with_reducible refine Kd.C_drewN ?_ _) | (with_reducible refine Kd.C_drew ?_))); (case aB => exact zb); (case aF => exact (fun k_ hk => ⟨Kd.fresh' (Kd.R_lt (tR HO_3.out)) k_ hk, Kd.fresh' (Kd.R_lt (tR HO532.out)) k_ hk, Kd.fresh' (Kd.R_lt (tR HO539.out)) k_ hk, Kd.fresh' (Kd.R_lt (tR HO545.out)) k_ hk, Kd.fresh' (Kd.R_lt (tR HO551.out)) k_ hk, Kd.fresh' (Kd.R_lt (tR HO558.out)) k_ hk, Kd.fresh' (Kd.R_lt (tR HO565.out)) k_ hk⟩)); (case aO => exact (tR HO568.out)); (case aS => exact (below_size zb)); (case aL => have := LMc28.out; omega); intro v570 w56 ho hb hg hat; rw [← Ny569.out] at ho; replace HO_3 := Aside0.mk (Kd.R_after (ok := (fun k_ => some k_ ≠ (.slice Ao35 t530.length co35 : Value).ownBlock ∧ some k_ ≠ (.slice Ao39 t537.length co39 : Value).ownBlock ∧ some k_ ≠ (.slice Ao44 y543.length co44 : Value).ownBlock ∧ some k_ ≠ (.slice Ao49 y549.length co49 : Value).ownBlock ∧ some k_ ≠ (.slice Ao52 t556.length co52 : Value).ownBlock ∧ some k_ ≠ (.slice Ao55 t563.length co55 : Value).ownBlock)) (tR HO_3.out) hg hat); replace BK520 := Aside0.mk (blk_grown (tH BK520.out) hg (Kd.R_ne HO568.out BK520.out (by decide))); replace HO532 := Aside0.mk (Kd.R_after (ok := (fun k_ => some k_ ≠ (.slice Ao46 x3_2.length co46 : Value).ownBlock ∧ some k_ ≠ (.slice Ao39 t537.length co39 : Value).ownBlock ∧ some k_ ≠ (.slice Ao44 y543.length co44 : Value).ownBlock ∧ some k_ ≠ (.slice Ao49 y549.length co49 : Value).ownBlock ∧ some k_ ≠ (.slice Ao52 t556.length co52 : Value).ownBlock ∧ some k_ ≠ (.slice Ao55 t563.length co55 : Value).ownBlock)) (tR HO532.out) hg hat); replace HO539 := Aside0.mk (Kd.R_after (ok := (fun k_ => some k_ ≠ (.slice Ao46 x3_2.length co46 : Value).ownBlock ∧ some k_ ≠ (.slice Ao35 t530.length co35 : Value).ownBlock ∧ some k_ ≠ (.slice Ao44 y543.length co44 : Value).ownBlock ∧ some k_ ≠ (.slice Ao49 y549.length co49 : Value).ownBlock ∧ some k_ ≠ (.slice Ao52 t556.length co52 : Value).ownBlock ∧ some k_ ≠ (.slice Ao55 t563.length co55 : Value).ownBlock)) (tR HO539.out) hg hat); replace HO545 := Aside0.mk (Kd.R_after (ok := (fun k_ => some k_ ≠ (.slice Ao46 x3_2.length co46 : Value).ownBlock ∧ some k_ ≠ (.slice Ao35 t530.length co35 : Value).ownBlock ∧ some k_ ≠ (.slice Ao39 t537.length co39 : Value).ownBlock ∧ some k_ ≠ (.slice Ao49 y549.length co49 : Value).ownBlock ∧ some k_ ≠ (.slice Ao52 t556.length co52 : Value).ownBlock ∧ some k_ ≠ (.slice Ao55 t563.length co55 : Value).ownBlock)) (tR HO545.out) hg hat); replace HO551 := Aside0.mk (Kd.R_after (ok := (fun k_ => some k_ ≠ (.slice Ao46 x3_2.length co46 : Value).ownBlock ∧ some k_ ≠ (.slice Ao35 t530.length co35 : Value).ownBlock ∧ some k_ ≠ (.slice Ao39 t537.length co39 : Value).ownBlock ∧ some k_ ≠ (.slice Ao44 y543.length co44 : Value).ownBlock ∧ some k_ ≠ (.slice Ao52 t556.length co52 : Value).ownBlock ∧ some k_ ≠ (.slice Ao55 t563.length co55 : Value).ownBlock)) (tR HO551.out) hg hat); replace HO558 := Aside0.mk (Kd.R_after (ok := (fun k_ => some k_ ≠ (.slice Ao46 x3_2.length co46 : Value).ownBlock ∧ some k_ ≠ (.slice Ao35 t530.length co35 : Value).ownBlock ∧ some k_ ≠ (.slice Ao39 t537.length co39 : Value).ownBlock ∧ some k_ ≠ (.slice Ao44 y543.length co44 : Value).ownBlock ∧ some k_ ≠ (.slice Ao49 y549.length co49 : Value).ownBlock ∧ some k_ ≠ (.slice Ao55 t563.length co55 : Value).ownBlock)) (tR HO558.out) hg hat); replace HO565 := Aside0.mk (Kd.R_after (ok := (fun k_ => some k_ ≠ (.slice Ao46 x3_2.length co46 : Value).ownBlock ∧ some k_ ≠ (.slice Ao35 t530.length co35 : Value).ownBlock ∧ some k_ ≠ (.slice Ao39 t537.length co39 : Value).ownBlock ∧ some k_ ≠ (.slice Ao44 y543.length co44 : Value).ownBlock ∧ some k_ ≠ (.slice Ao49 y549.length co49 : Value).ownBlock ∧ some k_ ≠ (.slice Ao52 t556.length co52 : Value).ownBlock)) (tR HO565.out) hg hat); replace HB := Aside0.mk (hb); have HO571 := Aside0.mk (ho); clear HO568; clear ho hb hg hat))
             go_ret
             exact ⟨_, by first | rfl | (simp [errW_none, errW_some] <;> rfl) | (simp [*, errW_none, errW_some] <;> rfl), tRm HO571.out, zb⟩
            ·rw [if_neg c28] at H
             exact absurd H (by simp)
           ·rw [if_neg c27] at H
            exact absurd H (by simp)
          ·rw [if_neg c24] at H
           exact absurd H (by simp)
         ·rw [if_neg c21] at H
          exact absurd H (by simp)
        ·rw [if_neg c20] at H
         exact absurd H (by simp)
       ·rw [if_neg c19] at H
        exact absurd H (by simp)
      ·rw [if_neg c17] at H
       exact absurd H (by simp)
     ·rw [if_neg c16] at H
      exact absurd H (by simp)

def spec_l33Size.l0 : Nat → List (S46) → Int → Int → Option (Int)
 | 0, _, _, _ => none
 | k + 1, x0, x3, x4 => if x4 < (x0.length : Int) then (if 0 ≤ x4 then ((spec_l5Bytes.f k ((rd_T46 x0 x4).f0) ((rd_T46 x0 x4).f1) ((rd_T46 x0 x4).f2) ((rd_T46 x0 x4).f3) ((rd_T46 x0 x4).f4) ((rd_T46 x0 x4).f5)).bind fun t573 => (spec_l33Size.l0 k x0 (wrap64 (x3 + (t573.length : Int))) (wrap64 (x4 + 1)))) else (none)) else (some x3)
def spec_l33Size.f (k : Nat) (l0 : List (S46)) : Option (Int) := spec_l33Size.l0 k l0 0 0
set_option maxHeartbeats 8000000 in
set_option maxRecDepth 100000 in
theorem spec_l33Size.calls (k : Nat) (A0 : Option Addr) (c0 : Nat) (l0 : List (S46)) (r : Int) (w : World) (hr0 : Kd.C k46 w A0 l0.length l0) (hc0 : l0.length ≤ c0) (h : spec_l33Size.f k l0 = some r) :
  Calls Try.prog 24 #[.slice A0 l0.length c0] w fun e w' => e = .returned (.int .i64 r) ∧ Below w.heap.size w w' := by
 have hu46 := Try.underlying46
 have HR0 := Aside0.mk hr0
 have HC0 := Aside0.mk hc0
 clear hr0 hc0
 have HB := Aside0.mk (Below.refl w.heap.size w)
 have H : (spec_l33Size.l0 k l0 0 0) = some r := h
 clear h
 have H' := Aside0.mk H
 clear H
 go_enter Try.func24, Try.ntmps24
 go_wp2
 go_loopg [3, 4] k (fun kq v3 v4 w' => ∃ (x3_1 : Int) (x4_1 : Int), v3 = .int .i64 x3_1 ∧ v4 = .int .i64 x4_1 ∧ Aside0 (spec_l33Size.l0 kq l0 x3_1 x4_1 = some r) ∧ Aside0 (kq ≤ k) ∧ Aside0 (Below w.heap.size w w'))
 case atStart => exact ⟨(0), (0), tr, tr, H', ⟨Nat.le_refl _⟩, ⟨zb⟩⟩
 case round =>
  clear H'
  obtain ⟨x3_1, x4_1, rfl, rfl, HA, HK1, HB⟩ := hrel
  cases gk with
  | zero => exact absurd HA.out (by simp [spec_l33Size.l0])
  | succ k1 =>
   have H := HA.out
   clear HA
   simp only [spec_l33Size.l0] at H
   by_cases c2 : x4_1 < (l0.length : Int)
   ·rw [if_pos c2] at H
    have c2b0 : decide (x4_1 < (l0.length : Int)) = true := decide_eq_true c2
    clear c2
    by_cases c3 : 0 ≤ x4_1
    ·rw [if_pos c3] at H
     have c3b0 : decide (0 ≤ x4_1) = true := decide_eq_true c3
     clear c3
     replace H := tbe H
     obtain ⟨t573, A4, H⟩ := H
     have H' := Aside0.mk H
     clear H
     have p572 : 0 ≤ (x4_1 : Int) := td
     have q572 : x4_1 < (l0.length : Int) := td
     obtain ⟨ad572, A572_5, c572_5, e572, hx572_0, hx572_1, hx572_2, hx572_3, hx572_4, hx572_5, hl572_5, hi572_5⟩ := at_T46 HR0.out x4_1 p572 q572
     cases e572
     replace hx572_0 := tcl HB hx572_0
     replace hx572_1 := tcl HB hx572_1
     replace hx572_2 := tcl HB hx572_2
     replace hx572_3 := tcl HB hx572_3
     replace hx572_4 := tcl HB hx572_4
     replace hx572_5 := tcl HB hx572_5
     have HR572_5 := Aside0.mk hi572_5
     have HC572_5 := Aside0.mk hl572_5
     clear hi572_5 hl572_5
     replace p572 := eq_true p572
     replace q572 := eq_true q572
     go_wp2_with (first | ((with_reducible refine gate_callee (f := 41) rfl ?_); refine goesL_ (some 16) rfl rfl Try.func41 (by kernel_rfl) rfl #[.agg #[.bool ((rd_T46 l0 x4_1).f0), .bool ((rd_T46 l0 x4_1).f1), .int .i64 ((rd_T46 l0 x4_1).f2), .int .i64 ((rd_T46 l0 x4_1).f3), .int .i64 ((rd_T46 l0 x4_1).f4), .slice A572_5 ((rd_T46 l0 x4_1).f5).length c572_5]] rfl tq ?_; (with_reducible refine (spec_l5Bytes.calls k1 ((rd_T46 l0 x4_1).f0) ((rd_T46 l0 x4_1).f1) ((rd_T46 l0 x4_1).f2) ((rd_T46 l0 x4_1).f3) ((rd_T46 l0 x4_1).f4) _ _ ((rd_T46 l0 x4_1).f5) t573 _ ?side1 ?side2 A4.out).mono ?_); (case side1 => exact tC (Kd.C_below HR572_5.out HB.out)); (case side2 => exact HC572_5.out); rintro e w5 ⟨v574, rfl, ho0, hb⟩; have u_v574 := tsv Try.prog v574 ho0; refine ⟨_, rfl, ?_⟩; have HO575 := tRl ho0 HB; replace HB := tBs HB hb; (try clear hb); (try clear hb2); (try clear hk); (try clear hi); (try clear ho0); obtain ⟨Ao6, co6, eo6⟩ := Kd.R_slice HO575.out; subst eo6))
     go_roundg k1
     case measure => have := HK1.out; omega
     case rel => exact ⟨(wrap64 (x3_1 + (t573.length : Int))), (wrap64 (x4_1 + 1)), tr, tr, H', ⟨by have := HK1.out; omega⟩, ⟨zb⟩⟩
    ·rw [if_neg c3] at H
     exact absurd H (by simp)
   ·rw [if_neg c2] at H
    have c2b0 : decide (x4_1 < (l0.length : Int)) = false := decide_eq_false c2
    clear c2
    obtain rfl := Option.some.inj H
    go_wp2
    go_ret
    exact ⟨by first | rfl | (simp [errW_none, errW_some] <;> rfl) | (simp [*, errW_none, errW_some] <;> rfl), zb⟩

def spec_LogSize.f (k : Nat) (l0 : List (S46)) : Option (Int) := (spec_LogValid.f k l0).bind fun t576 => (if t576 = true then ((spec_l33Size.f k l0).bind fun t577 => (some t577)) else (some (-1)))
set_option maxHeartbeats 8000000 in
set_option maxRecDepth 100000 in
theorem spec_LogSize.calls (k : Nat) (A0 : Option Addr) (c0 : Nat) (l0 : List (S46)) (r : Int) (w : World) (hr0 : Kd.C k46 w A0 l0.length l0) (hc0 : l0.length ≤ c0) (h : spec_LogSize.f k l0 = some r) :
  Calls Try.prog 11 #[.slice A0 l0.length c0] w fun e w' => e = .returned (.int .i64 r) ∧ Below w.heap.size w w' := by
 have HR0 := Aside0.mk hr0
 have HC0 := Aside0.mk hc0
 clear hr0 hc0
 have HB := Aside0.mk (Below.refl w.heap.size w)
 have H : ((spec_LogValid.f k l0).bind fun t576 => (if t576 = true then ((spec_l33Size.f k l0).bind fun t577 => (some t577)) else (some (-1)))) = some r := h
 clear h
 replace H := tbe H
 obtain ⟨t576, A2, H⟩ := H
 by_cases c3 : t576 = true
 ·subst c3
  rw [if_pos rfl] at H
  replace H := tbe H
  obtain ⟨t577, A4, H⟩ := H
  obtain rfl := Option.some.inj H
  go_enter Try.func11, Try.ntmps11
  go_wp2_with (first | ((with_reducible refine gate_callee (f := 23) rfl ?_); refine goesL_ (some 4) rfl rfl Try.func23 (by kernel_rfl) rfl #[.slice A0 l0.length c0] rfl tq ?_; (with_reducible refine (spec_LogValid.calls k _ _ l0 true _ ?side1 ?side2 A2.out).mono ?_); (case side1 => exact tC HR0.out); (case side2 => exact HC0.out); rintro e w5 ⟨rfl, hb⟩; refine ⟨_, rfl, ?_⟩; replace HB := tBs HB hb; (try clear hb); (try clear hb2); (try clear hk); (try clear hi)) | ((with_reducible refine gate_callee (f := 24) rfl ?_); refine goesL_ (some 7) rfl rfl Try.func24 (by kernel_rfl) rfl #[.slice A0 l0.length c0] rfl tq ?_; (with_reducible refine (spec_l33Size.calls k _ _ l0 t577 _ ?side1 ?side2 A4.out).mono ?_); (case side1 => exact tC (Kd.C_below HR0.out HB.out)); (case side2 => exact HC0.out); rintro e w6 ⟨rfl, hb⟩; refine ⟨_, rfl, ?_⟩; replace HB := tBs HB hb; (try clear hb); (try clear hb2); (try clear hk); (try clear hi)))
  go_ret
  exact ⟨by first | rfl | (simp [errW_none, errW_some] <;> rfl) | (simp [*, errW_none, errW_some] <;> rfl), zb⟩
 ·replace c3 := Bool.eq_false_iff.mpr c3
  subst c3
  rw [if_neg (show ¬ (false = true) by decide)] at H
  obtain rfl := Option.some.inj H
  go_enter Try.func11, Try.ntmps11
  go_wp2_with (first | ((with_reducible refine gate_callee (f := 23) rfl ?_); refine goesL_ (some 4) rfl rfl Try.func23 (by kernel_rfl) rfl #[.slice A0 l0.length c0] rfl tq ?_; (with_reducible refine (spec_LogValid.calls k _ _ l0 false _ ?side1 ?side2 A2.out).mono ?_); (case side1 => exact tC HR0.out); (case side2 => exact HC0.out); rintro e w7 ⟨rfl, hb⟩; refine ⟨_, rfl, ?_⟩; replace HB := tBs HB hb; (try clear hb); (try clear hb2); (try clear hk); (try clear hi)))
  go_ret
  exact ⟨by first | rfl | (simp [errW_none, errW_some] <;> rfl) | (simp [*, errW_none, errW_some] <;> rfl), zb⟩

end Go.Proofs.Ythoioccmnphfgaa.G

namespace Go.Proofs.Ythoioccmnphfgaa.G
open Go.RowKit Go.Proofs.YthoioccmnphfgaaW.PrintWords Go.Proofs.YthoioccmnphfgaaW.PrintLast Go.Proofs.YthoioccmnphfgaaW.PrintMore
attribute [local go_sem] max2_int min2_int max_two min_two max_three min_three max_four min_four   -- for this text's walks alone
set_option linter.unusedVariables false
set_option linter.unusedSimpArgs false

def laws_szIntS.f (l0 : List Int) (a1 : Int) : Option (Int) := if (wrap64 (a1 - (l0.length : Int))) < 0 then (some (-1)) else (some (wrap64 (a1 - (l0.length : Int))))
set_option maxHeartbeats 8000000 in
set_option maxRecDepth 100000 in
theorem laws_szIntS.calls (A0 : Option Addr) (c0 : Nat) (l0 : List Int) (a1 : Int) (r : Int) (w : World) (hr0 : Kd.C (Kd.int .i64) w A0 l0.length l0) (hc0 : l0.length ≤ c0) (h : laws_szIntS.f l0 a1 = some r) :
  Calls Try.prog 78 #[.slice A0 l0.length c0, .int .i64 a1] w fun e w' => e = .returned (.int .i64 r) ∧ Drawn0 w w' := by
 have HR0 := Aside0.mk hr0
 have HC0 := Aside0.mk hc0
 clear hr0 hc0
 have H : (if (wrap64 (a1 - (l0.length : Int))) < 0 then (some (-1)) else (some (wrap64 (a1 - (l0.length : Int))))) = some r := h
 clear h
 by_cases c3 : (wrap64 (a1 - (l0.length : Int))) < 0
 ·rw [if_pos c3] at H
  have c3b0 : decide ((wrap64 (a1 - (l0.length : Int))) < 0) = true := decide_eq_true c3
  clear c3
  obtain rfl := Option.some.inj H
  go_enter Try.func78, Try.ntmps78
  go_wp2
  go_ret
  exact ⟨by first | rfl | (simp; done) | (simp [*]; done), by repeat (first | exact Drawn0.refl _ | apply Drawn0.step)⟩
 ·rw [if_neg c3] at H
  have c3b0 : decide ((wrap64 (a1 - (l0.length : Int))) < 0) = false := decide_eq_false c3
  clear c3
  obtain rfl := Option.some.inj H
  go_enter Try.func78, Try.ntmps78
  go_wp2
  go_ret
  exact ⟨by first | rfl | (simp; done) | (simp [*]; done), by repeat (first | exact Drawn0.refl _ | apply Drawn0.step)⟩

def laws_szRecord.f (a0_0 : Int) (a0_1 : Int) (a0_2 : Bool) (l0_3 : List Int) (a0_4 : Bool) (l0_5 : List Int) (a1 : Int) : Option (Int) := (laws_szIntS.f l0_3 a1).bind fun t679 => (if t679 < 0 then (some (-1)) else ((laws_szIntS.f l0_5 t679).bind fun t680 => (if t680 < 0 then (some (-1)) else (some t680))))
set_option maxHeartbeats 8000000 in
set_option maxRecDepth 100000 in
theorem laws_szRecord.calls (a0_0 : Int) (a0_1 : Int) (a0_2 : Bool) (A0_3 : Option Addr) (c0_3 : Nat) (l0_3 : List Int) (a0_4 : Bool) (A0_5 : Option Addr) (c0_5 : Nat) (l0_5 : List Int) (a1 : Int) (r : Int) (w : World) (hr0_3 : Kd.C (Kd.int .i64) w A0_3 l0_3.length l0_3) (hc0_3 : l0_3.length ≤ c0_3) (hr0_5 : Kd.C (Kd.int .i64) w A0_5 l0_5.length l0_5) (hc0_5 : l0_5.length ≤ c0_5) (h : laws_szRecord.f a0_0 a0_1 a0_2 l0_3 a0_4 l0_5 a1 = some r) :
  Calls Try.prog 66 #[.agg #[.int .i64 a0_0, .int .i64 a0_1, .bool a0_2, .slice A0_3 l0_3.length c0_3, .bool a0_4, .slice A0_5 l0_5.length c0_5], .int .i64 a1] w fun e w' => e = .returned (.int .i64 r) ∧ Below w.heap.size w w' := by
 have hu99 := Try.underlying99
 have HR0_3 := Aside0.mk hr0_3
 have HC0_3 := Aside0.mk hc0_3
 clear hr0_3 hc0_3
 have HR0_5 := Aside0.mk hr0_5
 have HC0_5 := Aside0.mk hc0_5
 clear hr0_5 hc0_5
 have HB := Aside0.mk (Below.refl w.heap.size w)
 have H : ((laws_szIntS.f l0_3 a1).bind fun t679 => (if t679 < 0 then (some (-1)) else ((laws_szIntS.f l0_5 t679).bind fun t680 => (if t680 < 0 then (some (-1)) else (some t680))))) = some r := h
 clear h
 replace H := tbe H
 obtain ⟨t679, A3, H⟩ := H
 by_cases c4 : t679 < 0
 ·rw [if_pos c4] at H
  have c4b0 : decide (t679 < 0) = true := decide_eq_true c4
  clear c4
  obtain rfl := Option.some.inj H
  go_enter Try.func66, Try.ntmps66
  go_wp2_with (first | ((with_reducible refine gate_dst (N := 2) rfl ?_); refine box_event ?hg (N := 2) ?hd (cs := #[.int .i64 a0_0, .int .i64 a0_1, .bool a0_2, .slice A0_3 l0_3.length c0_3, .bool a0_4, .slice A0_5 l0_5.length c0_5]) (t := 99) ?hr ?_; (case hd => rfl); (case hg => rfl); (case hr => first | (go_simp; done) | (go_simp; rfl)); intro gb678 hg w5 hbox hb; have BK678 := Aside0.mk (hbox); have GW678 := tge HB hg; have GE678 := tge HB hg; replace HB := tBs HB hb; clear hb hbox hg; obtain ⟨hcz6_0, hcz6_1, hcz6_2, hcz6_3, hcz6_4, hcz6_5, hfz6_0, hfz6_1, hfz6_2, hfz6_3, hfz6_4, hfz6_5⟩ := cells6 BK678.out) | ((with_reducible refine gate_callee (f := 78) rfl ?_); refine goesL_ (some 8) rfl rfl Try.func78 (by kernel_rfl) rfl #[.slice A0_3 l0_3.length c0_3, .int .i64 a1] rfl tq ?_; (with_reducible refine (laws_szIntS.calls _ _ l0_3 a1 t679 _ ?side1 ?side2 A3.out).mono ?_); (case side1 => exact tC (Kd.C_below HR0_3.out HB.out)); (case side2 => exact HC0_3.out); rintro e w' ⟨rfl, ⟨nd, rfl⟩⟩; refine ⟨_, rfl, ?_⟩))
  go_ret
  exact ⟨by first | rfl | (simp [errW_none, errW_some] <;> rfl) | (simp [*, errW_none, errW_some] <;> rfl), zb⟩
 ·rw [if_neg c4] at H
  have c4b0 : decide (t679 < 0) = false := decide_eq_false c4
  clear c4
  replace H := tbe H
  obtain ⟨t680, A7, H⟩ := H
  by_cases c8 : t680 < 0
  ·rw [if_pos c8] at H
   have c8b0 : decide (t680 < 0) = true := decide_eq_true c8
   clear c8
   obtain rfl := Option.some.inj H
   go_enter Try.func66, Try.ntmps66
   go_wp2_with (first | ((with_reducible refine gate_dst (N := 2) rfl ?_); refine box_event ?hg (N := 2) ?hd (cs := #[.int .i64 a0_0, .int .i64 a0_1, .bool a0_2, .slice A0_3 l0_3.length c0_3, .bool a0_4, .slice A0_5 l0_5.length c0_5]) (t := 99) ?hr ?_; (case hd => rfl); (case hg => rfl); (case hr => first | (go_simp; done) | (go_simp; rfl)); intro gb678 hg w9 hbox hb; have BK678 := Aside0.mk (hbox); have GW678 := tge HB hg; have GE678 := tge HB hg; replace HB := tBs HB hb; clear hb hbox hg; obtain ⟨hcz10_0, hcz10_1, hcz10_2, hcz10_3, hcz10_4, hcz10_5, hfz10_0, hfz10_1, hfz10_2, hfz10_3, hfz10_4, hfz10_5⟩ := cells6 BK678.out) | ((with_reducible refine gate_callee (f := 78) rfl ?_); refine goesL_ (some 8) rfl rfl Try.func78 (by kernel_rfl) rfl #[.slice A0_3 l0_3.length c0_3, .int .i64 a1] rfl tq ?_; (with_reducible refine (laws_szIntS.calls _ _ l0_3 a1 t679 _ ?side1 ?side2 A3.out).mono ?_); (case side1 => exact tC (Kd.C_below HR0_3.out HB.out)); (case side2 => exact HC0_3.out); rintro e w' ⟨rfl, ⟨nd, rfl⟩⟩; refine ⟨_, rfl, ?_⟩) | ((with_reducible refine gate_callee (f := 78) rfl ?_); refine goesL_ (some 14) rfl rfl Try.func78 (by kernel_rfl) rfl #[.slice A0_5 l0_5.length c0_5, .int .i64 t679] rfl tq ?_; (with_reducible refine (laws_szIntS.calls _ _ l0_5 t679 t680 _ ?side1 ?side2 A7.out).mono ?_); (case side1 => exact tC (Kd.C_below HR0_5.out zb)); (case side2 => exact HC0_5.out); rintro e w' ⟨rfl, ⟨nd, rfl⟩⟩; refine ⟨_, rfl, ?_⟩))
   go_ret
   exact ⟨by first | rfl | (simp [errW_none, errW_some] <;> rfl) | (simp [*, errW_none, errW_some] <;> rfl), zb⟩
  ·rw [if_neg c8] at H
   have c8b0 : decide (t680 < 0) = false := decide_eq_false c8
   clear c8
   obtain rfl := Option.some.inj H
   go_enter Try.func66, Try.ntmps66
   go_wp2_with (first | ((with_reducible refine gate_dst (N := 2) rfl ?_); refine box_event ?hg (N := 2) ?hd (cs := #[.int .i64 a0_0, .int .i64 a0_1, .bool a0_2, .slice A0_3 l0_3.length c0_3, .bool a0_4, .slice A0_5 l0_5.length c0_5]) (t := 99) ?hr ?_; (case hd => rfl); (case hg => rfl); (case hr => first | (go_simp; done) | (go_simp; rfl)); intro gb678 hg w11 hbox hb; have BK678 := Aside0.mk (hbox); have GW678 := tge HB hg; have GE678 := tge HB hg; replace HB := tBs HB hb; clear hb hbox hg; obtain ⟨hcz12_0, hcz12_1, hcz12_2, hcz12_3, hcz12_4, hcz12_5, hfz12_0, hfz12_1, hfz12_2, hfz12_3, hfz12_4, hfz12_5⟩ := cells6 BK678.out) | ((with_reducible refine gate_callee (f := 78) rfl ?_); refine goesL_ (some 8) rfl rfl Try.func78 (by kernel_rfl) rfl #[.slice A0_3 l0_3.length c0_3, .int .i64 a1] rfl tq ?_; (with_reducible refine (laws_szIntS.calls _ _ l0_3 a1 t679 _ ?side1 ?side2 A3.out).mono ?_); (case side1 => exact tC (Kd.C_below HR0_3.out HB.out)); (case side2 => exact HC0_3.out); rintro e w' ⟨rfl, ⟨nd, rfl⟩⟩; refine ⟨_, rfl, ?_⟩) | ((with_reducible refine gate_callee (f := 78) rfl ?_); refine goesL_ (some 14) rfl rfl Try.func78 (by kernel_rfl) rfl #[.slice A0_5 l0_5.length c0_5, .int .i64 t679] rfl tq ?_; (with_reducible refine (laws_szIntS.calls _ _ l0_5 t679 t680 _ ?side1 ?side2 A7.out).mono ?_); (case side1 => exact tC (Kd.C_below HR0_5.out zb)); (case side2 => exact HC0_5.out); rintro e w' ⟨rfl, ⟨nd, rfl⟩⟩; refine ⟨_, rfl, ?_⟩))
   go_ret
   exact ⟨by first | rfl | (simp [errW_none, errW_some] <;> rfl) | (simp [*, errW_none, errW_some] <;> rfl), zb⟩

def laws_szRecordS.l0 : Nat → List (S99) → Int → Int → Option (Int)
 | 0, _, _, _ => none
 | k + 1, x0, x1, x5 => if x5 < (x0.length : Int) then (if 0 ≤ x5 then ((laws_szRecord.f ((rd_T99 x0 x5).f0) ((rd_T99 x0 x5).f1) ((rd_T99 x0 x5).f2) ((rd_T99 x0 x5).f3) ((rd_T99 x0 x5).f4) ((rd_T99 x0 x5).f5) x1).bind fun t682 => (if t682 < 0 then (some (-1)) else (laws_szRecordS.l0 k x0 t682 (wrap64 (x5 + 1))))) else (none)) else (some x1)
def laws_szRecordS.f (k : Nat) (l0 : List (S99)) (a1 : Int) : Option (Int) := if (wrap64 (a1 - (l0.length : Int))) < 0 then (some (-1)) else (laws_szRecordS.l0 k l0 (wrap64 (a1 - (l0.length : Int))) 0)
set_option maxHeartbeats 8000000 in
set_option maxRecDepth 100000 in
theorem laws_szRecordS.calls (k : Nat) (A0 : Option Addr) (c0 : Nat) (l0 : List (S99)) (a1 : Int) (r : Int) (w : World) (hr0 : Kd.C k99 w A0 l0.length l0) (hc0 : l0.length ≤ c0) (h : laws_szRecordS.f k l0 a1 = some r) :
  Calls Try.prog 47 #[.slice A0 l0.length c0, .int .i64 a1] w fun e w' => e = .returned (.int .i64 r) ∧ Below w.heap.size w w' := by
 have hu99 := Try.underlying99
 have HR0 := Aside0.mk hr0
 have HC0 := Aside0.mk hc0
 clear hr0 hc0
 have HB := Aside0.mk (Below.refl w.heap.size w)
 have H : (if (wrap64 (a1 - (l0.length : Int))) < 0 then (some (-1)) else (laws_szRecordS.l0 k l0 (wrap64 (a1 - (l0.length : Int))) 0)) = some r := h
 clear h
 by_cases c3 : (wrap64 (a1 - (l0.length : Int))) < 0
 ·rw [if_pos c3] at H
  have c3b0 : decide ((wrap64 (a1 - (l0.length : Int))) < 0) = true := decide_eq_true c3
  clear c3
  obtain rfl := Option.some.inj H
  go_enter Try.func47, Try.ntmps47
  go_wp2
  go_ret
  exact ⟨by first | rfl | (simp [errW_none, errW_some] <;> rfl) | (simp [*, errW_none, errW_some] <;> rfl), zb⟩
 ·rw [if_neg c3] at H
  have c3b0 : decide ((wrap64 (a1 - (l0.length : Int))) < 0) = false := decide_eq_false c3
  clear c3
  have H' := Aside0.mk H
  clear H
  go_enter Try.func47, Try.ntmps47
  go_wp2
  go_loopg [1, 5] k (fun kq v1 v5 w' => ∃ (x1_1 : Int) (x5_1 : Int), v1 = .int .i64 x1_1 ∧ v5 = .int .i64 x5_1 ∧ Aside0 (laws_szRecordS.l0 kq l0 x1_1 x5_1 = some r) ∧ Aside0 (kq ≤ k) ∧ Aside0 (Below w.heap.size w w'))
  case atStart => exact ⟨(wrap64 (a1 - (l0.length : Int))), (0), tr, tr, H', ⟨Nat.le_refl _⟩, ⟨zb⟩⟩
  case round =>
   clear H'
   try clear c3; try clear c3b0
   obtain ⟨x1_1, x5_1, rfl, rfl, HA, HK1, HB⟩ := hrel
   cases gk with
   | zero => exact absurd HA.out (by simp [laws_szRecordS.l0])
   | succ k1 =>
    have H := HA.out
    clear HA
    simp only [laws_szRecordS.l0] at H
    by_cases c4 : x5_1 < (l0.length : Int)
    ·rw [if_pos c4] at H
     have c4b0 : decide (x5_1 < (l0.length : Int)) = true := decide_eq_true c4
     clear c4
     by_cases c5 : 0 ≤ x5_1
     ·rw [if_pos c5] at H
      have c5b0 : decide (0 ≤ x5_1) = true := decide_eq_true c5
      clear c5
      replace H := tbe H
      obtain ⟨t682, A6, H⟩ := H
      by_cases c7 : t682 < 0
      ·rw [if_pos c7] at H
       have c7b0 : decide (t682 < 0) = true := decide_eq_true c7
       clear c7
       obtain rfl := Option.some.inj H
       have p681 : 0 ≤ (x5_1 : Int) := td
       have q681 : x5_1 < (l0.length : Int) := td
       obtain ⟨ad681, A681_3, c681_3, A681_5, c681_5, e681, hx681_0, hx681_1, hx681_2, hx681_3, hx681_4, hx681_5, hl681_3, hi681_3, hl681_5, hi681_5⟩ := at_T99 HR0.out x5_1 p681 q681
       cases e681
       replace hx681_0 := tcl HB hx681_0
       replace hx681_1 := tcl HB hx681_1
       replace hx681_2 := tcl HB hx681_2
       replace hx681_3 := tcl HB hx681_3
       replace hx681_4 := tcl HB hx681_4
       replace hx681_5 := tcl HB hx681_5
       have HR681_3 := Aside0.mk hi681_3
       have HC681_3 := Aside0.mk hl681_3
       clear hi681_3 hl681_3
       have HR681_5 := Aside0.mk hi681_5
       have HC681_5 := Aside0.mk hl681_5
       clear hi681_5 hl681_5
       replace p681 := eq_true p681
       replace q681 := eq_true q681
       go_wp2_with (first | ((with_reducible refine gate_callee (f := 66) rfl ?_); refine goesL_ (some 23) rfl rfl Try.func66 (by kernel_rfl) rfl #[.agg #[.int .i64 ((rd_T99 l0 x5_1).f0), .int .i64 ((rd_T99 l0 x5_1).f1), .bool ((rd_T99 l0 x5_1).f2), .slice A681_3 ((rd_T99 l0 x5_1).f3).length c681_3, .bool ((rd_T99 l0 x5_1).f4), .slice A681_5 ((rd_T99 l0 x5_1).f5).length c681_5], .int .i64 x1_1] rfl tq ?_; (with_reducible refine (laws_szRecord.calls ((rd_T99 l0 x5_1).f0) ((rd_T99 l0 x5_1).f1) ((rd_T99 l0 x5_1).f2) _ _ ((rd_T99 l0 x5_1).f3) ((rd_T99 l0 x5_1).f4) _ _ ((rd_T99 l0 x5_1).f5) x1_1 t682 _ ?side1 ?side2 ?side3 ?side4 A6.out).mono ?_); (case side1 => exact tC (Kd.C_below HR681_3.out HB.out)); (case side2 => exact HC681_3.out); (case side3 => exact tC (Kd.C_below HR681_5.out HB.out)); (case side4 => exact HC681_5.out); rintro e w8 ⟨rfl, hb⟩; refine ⟨_, rfl, ?_⟩; replace HB := tBs HB hb; (try clear hb); (try clear hb2); (try clear hk); (try clear hi)))
       go_ret
       exact ⟨by first | rfl | (simp [errW_none, errW_some] <;> rfl) | (simp [*, errW_none, errW_some] <;> rfl), zb⟩
      ·rw [if_neg c7] at H
       have c7b0 : decide (t682 < 0) = false := decide_eq_false c7
       clear c7
       have H' := Aside0.mk H
       clear H
       have p681 : 0 ≤ (x5_1 : Int) := td
       have q681 : x5_1 < (l0.length : Int) := td
       obtain ⟨ad681, A681_3, c681_3, A681_5, c681_5, e681, hx681_0, hx681_1, hx681_2, hx681_3, hx681_4, hx681_5, hl681_3, hi681_3, hl681_5, hi681_5⟩ := at_T99 HR0.out x5_1 p681 q681
       cases e681
       replace hx681_0 := tcl HB hx681_0
       replace hx681_1 := tcl HB hx681_1
       replace hx681_2 := tcl HB hx681_2
       replace hx681_3 := tcl HB hx681_3
       replace hx681_4 := tcl HB hx681_4
       replace hx681_5 := tcl HB hx681_5
       have HR681_3 := Aside0.mk hi681_3
       have HC681_3 := Aside0.mk hl681_3
       clear hi681_3 hl681_3
       have HR681_5 := Aside0.mk hi681_5
       have HC681_5 := Aside0.mk hl681_5
       clear hi681_5 hl681_5
       replace p681 := eq_true p681
       replace q681 := eq_true q681
       go_wp2_with (first | ((with_reducible refine gate_callee (f := 66) rfl ?_); refine goesL_ (some 23) rfl rfl Try.func66 (by kernel_rfl) rfl #[.agg #[.int .i64 ((rd_T99 l0 x5_1).f0), .int .i64 ((rd_T99 l0 x5_1).f1), .bool ((rd_T99 l0 x5_1).f2), .slice A681_3 ((rd_T99 l0 x5_1).f3).length c681_3, .bool ((rd_T99 l0 x5_1).f4), .slice A681_5 ((rd_T99 l0 x5_1).f5).length c681_5], .int .i64 x1_1] rfl tq ?_; (with_reducible refine (laws_szRecord.calls ((rd_T99 l0 x5_1).f0) ((rd_T99 l0 x5_1).f1) ((rd_T99 l0 x5_1).f2) _ _ ((rd_T99 l0 x5_1).f3) ((rd_T99 l0 x5_1).f4) _ _ ((rd_T99 l0 x5_1).f5) x1_1 t682 _ ?side1 ?side2 ?side3 ?side4 A6.out).mono ?_); (case side1 => exact tC (Kd.C_below HR681_3.out HB.out)); (case side2 => exact HC681_3.out); (case side3 => exact tC (Kd.C_below HR681_5.out HB.out)); (case side4 => exact HC681_5.out); rintro e w9 ⟨rfl, hb⟩; refine ⟨_, rfl, ?_⟩; replace HB := tBs HB hb; (try clear hb); (try clear hb2); (try clear hk); (try clear hi)))
       go_roundg k1
       case measure => have := HK1.out; omega
       case rel => exact ⟨(t682), (wrap64 (x5_1 + 1)), tr, tr, H', ⟨by have := HK1.out; omega⟩, ⟨zb⟩⟩
     ·rw [if_neg c5] at H
      exact absurd H (by simp)
    ·rw [if_neg c4] at H
     have c4b0 : decide (x5_1 < (l0.length : Int)) = false := decide_eq_false c4
     clear c4
     obtain rfl := Option.some.inj H
     go_wp2
     go_ret
     exact ⟨by first | rfl | (simp [errW_none, errW_some] <;> rfl) | (simp [*, errW_none, errW_some] <;> rfl), zb⟩

def laws_szBatch.f (k : Nat) (a0_0 : Bool) (a0_1 : Bool) (a0_2 : Int) (a0_3 : Int) (a0_4 : Int) (l0_5 : List (S99)) (a1 : Int) : Option (Int) := (laws_szRecordS.f k l0_5 a1).bind fun t684 => (if t684 < 0 then (some (-1)) else (some t684))
set_option maxHeartbeats 8000000 in
set_option maxRecDepth 100000 in
theorem laws_szBatch.calls (k : Nat) (a0_0 : Bool) (a0_1 : Bool) (a0_2 : Int) (a0_3 : Int) (a0_4 : Int) (A0_5 : Option Addr) (c0_5 : Nat) (l0_5 : List (S99)) (a1 : Int) (r : Int) (w : World) (hr0_5 : Kd.C k99 w A0_5 l0_5.length l0_5) (hc0_5 : l0_5.length ≤ c0_5) (h : laws_szBatch.f k a0_0 a0_1 a0_2 a0_3 a0_4 l0_5 a1 = some r) :
  Calls Try.prog 31 #[.agg #[.bool a0_0, .bool a0_1, .int .i64 a0_2, .int .i64 a0_3, .int .i64 a0_4, .slice A0_5 l0_5.length c0_5], .int .i64 a1] w fun e w' => e = .returned (.int .i64 r) ∧ Below w.heap.size w w' := by
 have hu56 := Try.underlying56
 have HR0_5 := Aside0.mk hr0_5
 have HC0_5 := Aside0.mk hc0_5
 clear hr0_5 hc0_5
 have HB := Aside0.mk (Below.refl w.heap.size w)
 have H : ((laws_szRecordS.f k l0_5 a1).bind fun t684 => (if t684 < 0 then (some (-1)) else (some t684))) = some r := h
 clear h
 replace H := tbe H
 obtain ⟨t684, A3, H⟩ := H
 by_cases c4 : t684 < 0
 ·rw [if_pos c4] at H
  have c4b0 : decide (t684 < 0) = true := decide_eq_true c4
  clear c4
  obtain rfl := Option.some.inj H
  go_enter Try.func31, Try.ntmps31
  go_wp2_with (first | ((with_reducible refine gate_dst (N := 2) rfl ?_); refine box_event ?hg (N := 2) ?hd (cs := #[.bool a0_0, .bool a0_1, .int .i64 a0_2, .int .i64 a0_3, .int .i64 a0_4, .slice A0_5 l0_5.length c0_5]) (t := 56) ?hr ?_; (case hd => rfl); (case hg => rfl); (case hr => first | (go_simp; done) | (go_simp; rfl)); intro gb683 hg w5 hbox hb; have BK683 := Aside0.mk (hbox); have GW683 := tge HB hg; have GE683 := tge HB hg; replace HB := tBs HB hb; clear hb hbox hg; obtain ⟨hcz6_0, hcz6_1, hcz6_2, hcz6_3, hcz6_4, hcz6_5, hfz6_0, hfz6_1, hfz6_2, hfz6_3, hfz6_4, hfz6_5⟩ := cells6 BK683.out) | ((with_reducible refine gate_callee (f := 47) rfl ?_); refine goesL_ (some 8) rfl rfl Try.func47 (by kernel_rfl) rfl #[.slice A0_5 l0_5.length c0_5, .int .i64 a1] rfl tq ?_; (with_reducible refine (laws_szRecordS.calls k _ _ l0_5 a1 t684 _ ?side1 ?side2 A3.out).mono ?_); (case side1 => exact tC (Kd.C_below HR0_5.out HB.out)); (case side2 => exact HC0_5.out); rintro e w7 ⟨rfl, hb⟩; refine ⟨_, rfl, ?_⟩; replace BK683 := tBb BK683 hb; replace HB := tBs HB hb; (try clear hb); (try clear hb2); (try clear hk); (try clear hi)))
  go_ret
  exact ⟨by first | rfl | (simp [errW_none, errW_some] <;> rfl) | (simp [*, errW_none, errW_some] <;> rfl), zb⟩
 ·rw [if_neg c4] at H
  have c4b0 : decide (t684 < 0) = false := decide_eq_false c4
  clear c4
  obtain rfl := Option.some.inj H
  go_enter Try.func31, Try.ntmps31
  go_wp2_with (first | ((with_reducible refine gate_dst (N := 2) rfl ?_); refine box_event ?hg (N := 2) ?hd (cs := #[.bool a0_0, .bool a0_1, .int .i64 a0_2, .int .i64 a0_3, .int .i64 a0_4, .slice A0_5 l0_5.length c0_5]) (t := 56) ?hr ?_; (case hd => rfl); (case hg => rfl); (case hr => first | (go_simp; done) | (go_simp; rfl)); intro gb683 hg w8 hbox hb; have BK683 := Aside0.mk (hbox); have GW683 := tge HB hg; have GE683 := tge HB hg; replace HB := tBs HB hb; clear hb hbox hg; obtain ⟨hcz9_0, hcz9_1, hcz9_2, hcz9_3, hcz9_4, hcz9_5, hfz9_0, hfz9_1, hfz9_2, hfz9_3, hfz9_4, hfz9_5⟩ := cells6 BK683.out) | ((with_reducible refine gate_callee (f := 47) rfl ?_); refine goesL_ (some 8) rfl rfl Try.func47 (by kernel_rfl) rfl #[.slice A0_5 l0_5.length c0_5, .int .i64 a1] rfl tq ?_; (with_reducible refine (laws_szRecordS.calls k _ _ l0_5 a1 t684 _ ?side1 ?side2 A3.out).mono ?_); (case side1 => exact tC (Kd.C_below HR0_5.out HB.out)); (case side2 => exact HC0_5.out); rintro e w10 ⟨rfl, hb⟩; refine ⟨_, rfl, ?_⟩; replace BK683 := tBb BK683 hb; replace HB := tBs HB hb; (try clear hb); (try clear hb2); (try clear hk); (try clear hi)))
  go_ret
  exact ⟨by first | rfl | (simp [errW_none, errW_some] <;> rfl) | (simp [*, errW_none, errW_some] <;> rfl), zb⟩

def laws_szBatchS.l0 : Nat → List (S56) → Int → Int → Option (Int)
 | 0, _, _, _ => none
 | k + 1, x0, x1, x5 => if x5 < (x0.length : Int) then (if 0 ≤ x5 then ((laws_szBatch.f k ((rd_T56 x0 x5).f0) ((rd_T56 x0 x5).f1) ((rd_T56 x0 x5).f2) ((rd_T56 x0 x5).f3) ((rd_T56 x0 x5).f4) ((rd_T56 x0 x5).f5) x1).bind fun t686 => (if t686 < 0 then (some (-1)) else (laws_szBatchS.l0 k x0 t686 (wrap64 (x5 + 1))))) else (none)) else (some x1)
def laws_szBatchS.f (k : Nat) (l0 : List (S56)) (a1 : Int) : Option (Int) := if (wrap64 (a1 - (l0.length : Int))) < 0 then (some (-1)) else (laws_szBatchS.l0 k l0 (wrap64 (a1 - (l0.length : Int))) 0)
set_option maxHeartbeats 8000000 in
set_option maxRecDepth 100000 in
theorem laws_szBatchS.calls (k : Nat) (A0 : Option Addr) (c0 : Nat) (l0 : List (S56)) (a1 : Int) (r : Int) (w : World) (hr0 : Kd.C k56 w A0 l0.length l0) (hc0 : l0.length ≤ c0) (h : laws_szBatchS.f k l0 a1 = some r) :
  Calls Try.prog 16 #[.slice A0 l0.length c0, .int .i64 a1] w fun e w' => e = .returned (.int .i64 r) ∧ Below w.heap.size w w' := by
 have hu56 := Try.underlying56
 have HR0 := Aside0.mk hr0
 have HC0 := Aside0.mk hc0
 clear hr0 hc0
 have HB := Aside0.mk (Below.refl w.heap.size w)
 have H : (if (wrap64 (a1 - (l0.length : Int))) < 0 then (some (-1)) else (laws_szBatchS.l0 k l0 (wrap64 (a1 - (l0.length : Int))) 0)) = some r := h
 clear h
 by_cases c3 : (wrap64 (a1 - (l0.length : Int))) < 0
 ·rw [if_pos c3] at H
  have c3b0 : decide ((wrap64 (a1 - (l0.length : Int))) < 0) = true := decide_eq_true c3
  clear c3
  obtain rfl := Option.some.inj H
  go_enter Try.func16, Try.ntmps16
  go_wp2
  go_ret
  exact ⟨by first | rfl | (simp [errW_none, errW_some] <;> rfl) | (simp [*, errW_none, errW_some] <;> rfl), zb⟩
 ·rw [if_neg c3] at H
  have c3b0 : decide ((wrap64 (a1 - (l0.length : Int))) < 0) = false := decide_eq_false c3
  clear c3
  have H' := Aside0.mk H
  clear H
  go_enter Try.func16, Try.ntmps16
  go_wp2
  go_loopg [1, 5] k (fun kq v1 v5 w' => ∃ (x1_1 : Int) (x5_1 : Int), v1 = .int .i64 x1_1 ∧ v5 = .int .i64 x5_1 ∧ Aside0 (laws_szBatchS.l0 kq l0 x1_1 x5_1 = some r) ∧ Aside0 (kq ≤ k) ∧ Aside0 (Below w.heap.size w w'))
  case atStart => exact ⟨(wrap64 (a1 - (l0.length : Int))), (0), tr, tr, H', ⟨Nat.le_refl _⟩, ⟨zb⟩⟩
  case round =>
   clear H'
   try clear c3; try clear c3b0
   obtain ⟨x1_1, x5_1, rfl, rfl, HA, HK1, HB⟩ := hrel
   cases gk with
   | zero => exact absurd HA.out (by simp [laws_szBatchS.l0])
   | succ k1 =>
    have H := HA.out
    clear HA
    simp only [laws_szBatchS.l0] at H
    by_cases c4 : x5_1 < (l0.length : Int)
    ·rw [if_pos c4] at H
     have c4b0 : decide (x5_1 < (l0.length : Int)) = true := decide_eq_true c4
     clear c4
     by_cases c5 : 0 ≤ x5_1
     ·rw [if_pos c5] at H
      have c5b0 : decide (0 ≤ x5_1) = true := decide_eq_true c5
      clear c5
      replace H := tbe H
      obtain ⟨t686, A6, H⟩ := H
      by_cases c7 : t686 < 0
      ·rw [if_pos c7] at H
       have c7b0 : decide (t686 < 0) = true := decide_eq_true c7
       clear c7
       obtain rfl := Option.some.inj H
       have p685 : 0 ≤ (x5_1 : Int) := td
       have q685 : x5_1 < (l0.length : Int) := td
       obtain ⟨ad685, A685_5, c685_5, e685, hx685_0, hx685_1, hx685_2, hx685_3, hx685_4, hx685_5, hl685_5, hi685_5⟩ := at_T56 HR0.out x5_1 p685 q685
       cases e685
       replace hx685_0 := tcl HB hx685_0
       replace hx685_1 := tcl HB hx685_1
       replace hx685_2 := tcl HB hx685_2
       replace hx685_3 := tcl HB hx685_3
       replace hx685_4 := tcl HB hx685_4
       replace hx685_5 := tcl HB hx685_5
       have HR685_5 := Aside0.mk hi685_5
       have HC685_5 := Aside0.mk hl685_5
       clear hi685_5 hl685_5
       replace p685 := eq_true p685
       replace q685 := eq_true q685
       go_wp2_with (first | ((with_reducible refine gate_callee (f := 31) rfl ?_); refine goesL_ (some 23) rfl rfl Try.func31 (by kernel_rfl) rfl #[.agg #[.bool ((rd_T56 l0 x5_1).f0), .bool ((rd_T56 l0 x5_1).f1), .int .i64 ((rd_T56 l0 x5_1).f2), .int .i64 ((rd_T56 l0 x5_1).f3), .int .i64 ((rd_T56 l0 x5_1).f4), .slice A685_5 ((rd_T56 l0 x5_1).f5).length c685_5], .int .i64 x1_1] rfl tq ?_; (with_reducible refine (laws_szBatch.calls k1 ((rd_T56 l0 x5_1).f0) ((rd_T56 l0 x5_1).f1) ((rd_T56 l0 x5_1).f2) ((rd_T56 l0 x5_1).f3) ((rd_T56 l0 x5_1).f4) _ _ ((rd_T56 l0 x5_1).f5) x1_1 t686 _ ?side1 ?side2 A6.out).mono ?_); (case side1 => exact tC (Kd.C_below HR685_5.out HB.out)); (case side2 => exact HC685_5.out); rintro e w8 ⟨rfl, hb⟩; refine ⟨_, rfl, ?_⟩; replace HB := tBs HB hb; (try clear hb); (try clear hb2); (try clear hk); (try clear hi)))
       go_ret
       exact ⟨by first | rfl | (simp [errW_none, errW_some] <;> rfl) | (simp [*, errW_none, errW_some] <;> rfl), zb⟩
      ·rw [if_neg c7] at H
       have c7b0 : decide (t686 < 0) = false := decide_eq_false c7
       clear c7
       have H' := Aside0.mk H
       clear H
       have p685 : 0 ≤ (x5_1 : Int) := td
       have q685 : x5_1 < (l0.length : Int) := td
       obtain ⟨ad685, A685_5, c685_5, e685, hx685_0, hx685_1, hx685_2, hx685_3, hx685_4, hx685_5, hl685_5, hi685_5⟩ := at_T56 HR0.out x5_1 p685 q685
       cases e685
       replace hx685_0 := tcl HB hx685_0
       replace hx685_1 := tcl HB hx685_1
       replace hx685_2 := tcl HB hx685_2
       replace hx685_3 := tcl HB hx685_3
       replace hx685_4 := tcl HB hx685_4
       replace hx685_5 := tcl HB hx685_5
       have HR685_5 := Aside0.mk hi685_5
       have HC685_5 := Aside0.mk hl685_5
       clear hi685_5 hl685_5
       replace p685 := eq_true p685
       replace q685 := eq_true q685
       go_wp2_with (first | ((with_reducible refine gate_callee (f := 31) rfl ?_); refine goesL_ (some 23) rfl rfl Try.func31 (by kernel_rfl) rfl #[.agg #[.bool ((rd_T56 l0 x5_1).f0), .bool ((rd_T56 l0 x5_1).f1), .int .i64 ((rd_T56 l0 x5_1).f2), .int .i64 ((rd_T56 l0 x5_1).f3), .int .i64 ((rd_T56 l0 x5_1).f4), .slice A685_5 ((rd_T56 l0 x5_1).f5).length c685_5], .int .i64 x1_1] rfl tq ?_; (with_reducible refine (laws_szBatch.calls k1 ((rd_T56 l0 x5_1).f0) ((rd_T56 l0 x5_1).f1) ((rd_T56 l0 x5_1).f2) ((rd_T56 l0 x5_1).f3) ((rd_T56 l0 x5_1).f4) _ _ ((rd_T56 l0 x5_1).f5) x1_1 t686 _ ?side1 ?side2 A6.out).mono ?_); (case side1 => exact tC (Kd.C_below HR685_5.out HB.out)); (case side2 => exact HC685_5.out); rintro e w9 ⟨rfl, hb⟩; refine ⟨_, rfl, ?_⟩; replace HB := tBs HB hb; (try clear hb); (try clear hb2); (try clear hk); (try clear hi)))
       go_roundg k1
       case measure => have := HK1.out; omega
       case rel => exact ⟨(t686), (wrap64 (x5_1 + 1)), tr, tr, H', ⟨by have := HK1.out; omega⟩, ⟨zb⟩⟩
     ·rw [if_neg c5] at H
      exact absurd H (by simp)
    ·rw [if_neg c4] at H
     have c4b0 : decide (x5_1 < (l0.length : Int)) = false := decide_eq_false c4
     clear c4
     obtain rfl := Option.some.inj H
     go_wp2
     go_ret
     exact ⟨by first | rfl | (simp [errW_none, errW_some] <;> rfl) | (simp [*, errW_none, errW_some] <;> rfl), zb⟩

def laws_toIntS.l0 : Nat → List Int → List Int → Int → Option (List Int)
 | 0, _, _, _ => none
 | k + 1, x0, x3, x4 => if x4 < (x0.length : Int) then (if 0 ≤ x4 then (if x4 < (x3.length : Int) then (laws_toIntS.l0 k x0 (x3.set (x4 : Int).toNat (rd x0 x4)) (wrap64 (x4 + 1))) else (none)) else (none)) else (some x3)
def laws_toIntS.f (k : Nat) (l0 : List Int) : Option (List Int) := if 0 ≤ (l0.length : Int) then (if ((l0.length : Int) : Int).toNat ≤ 35184372088832 then (laws_toIntS.l0 k l0 (List.replicate ((l0.length : Int) : Int).toNat 0) 0) else (none)) else (none)
set_option maxHeartbeats 8000000 in
set_option maxRecDepth 100000 in
theorem laws_toIntS.calls (k : Nat) (A0 : Option Addr) (c0 : Nat) (l0 : List Int) (r : List Int) (w : World) (hr0 : Kd.C (Kd.int .i64) w A0 l0.length l0) (hc0 : l0.length ≤ c0) (h : laws_toIntS.f k l0 = some r) :
  Calls Try.prog 79 #[.slice A0 l0.length c0] w fun e w' => ∃ v0_ : Value, e = .returned (v0_) ∧ Kd.R (Kd.int .i64) 3 w' w.heap.size (fun _ => True) v0_ r ∧ Below w.heap.size w w' := by
 have HR0 := Aside0.mk hr0
 have HC0 := Aside0.mk hc0
 clear hr0 hc0
 have HB := Aside0.mk (Below.refl w.heap.size w)
 have H : (if 0 ≤ (l0.length : Int) then (if ((l0.length : Int) : Int).toNat ≤ 35184372088832 then (laws_toIntS.l0 k l0 (List.replicate ((l0.length : Int) : Int).toNat 0) 0) else (none)) else (none)) = some r := h
 clear h
 by_cases c2 : 0 ≤ (l0.length : Int)
 ·rw [if_pos c2] at H
  have c2b0 := eq_true c2
  have c2b1 : decide (0 ≤ (l0.length : Int)) = true := decide_eq_true c2
  clear c2
  by_cases c3 : ((l0.length : Int) : Int).toNat ≤ 35184372088832
  ·rw [if_pos c3] at H
   have c3b0 := eq_true c3
   have c3b1 : decide (((l0.length : Int) : Int).toNat ≤ 35184372088832) = true := decide_eq_true c3
   clear c3
   obtain ⟨y687, hy687⟩ : ∃ y_ : List Int, y_ = (List.replicate ((l0.length : Int) : Int).toNat 0) := ⟨_, rfl⟩
   replace H : (laws_toIntS.l0 k l0 y687 0) = some r := by first | (rw [hy687]; with_reducible exact H) | (have H2_ := (Option.bind_some _ _).symm.trans H; rw [hy687]; with_reducible exact H2_) | (have H2_ := (Option.bind_some _ _).symm.trans H; with_reducible exact H2_) | with_reducible exact H | (rw [hy687]; exact H) | exact H
   have Ny687 := Aside0.mk hy687
   clear hy687
   have H' := Aside0.mk H
   clear H
   go_enter Try.func79, Try.ntmps79
   go_wp2_with (first | ((with_reducible refine gate_dst (N := 7) rfl ?_); refine Kd.R_make (Kd.int .i64) _ 3 rfl (N := 7) rfl 26 _ _ rfl (l0.length : Int) rfl rfl Try.underlying26 (.int .i64 0) 8 info3 rfl (by decide) (by omega) 0 (ok := fun _ => True) (okp := fun _ => True) rfl (fun _ hk => hk) trivial (td) (Nat.le_trans (Nat.mul_le_mul_right _ (td : (l0.length : Int).toNat ≤ 35184372088832)) (by omega)) (Below.refl _ _) (Nat.le_refl _) ?_; intro v688 w4 ho5 hb hg_ hnew_; clear hg_ hnew_; (first | rw [← Ny687.out] at ho5 | (simp only [Int.reduceToNat] at ho5; rw [← Ny687.out] at ho5)); have HO689 := tRl ho5 HB; replace HB := tBs HB hb; clear hb ho5))
   go_loopg [4] k (fun kq v4 w' => ∃ (x3_1 : List Int) (x4_1 : Int), v4 = .int .i64 x4_1 ∧ Aside0 (laws_toIntS.l0 kq l0 x3_1 x4_1 = some r) ∧ Aside0 (kq ≤ k) ∧ Aside0 (Kd.R (Kd.int .i64) 3 w' w.heap.size (fun _ => True) v688 x3_1) ∧ Aside0 (Below w.heap.size w w'))
   case atStart => exact ⟨(y687), (0), tr, H', ⟨Nat.le_refl _⟩, ⟨tR HO689.out⟩, ⟨zb⟩⟩
   case round =>
    clear H'
    try clear c2; try clear c2b0; try clear c2b1; try clear c3; try clear c3b0; try clear c3b1
    obtain ⟨x3_1, x4_1, rfl, HA, HK1, HO_3, HB⟩ := hrel
    cases gk with
    | zero => exact absurd HA.out (by simp [laws_toIntS.l0])
    | succ k1 =>
     have H := HA.out
     clear HA
     simp only [laws_toIntS.l0] at H
     by_cases c6 : x4_1 < (l0.length : Int)
     ·rw [if_pos c6] at H
      have c6b0 : decide (x4_1 < (l0.length : Int)) = true := decide_eq_true c6
      clear c6
      by_cases c7 : 0 ≤ x4_1
      ·rw [if_pos c7] at H
       have c7b0 : decide (0 ≤ x4_1) = true := decide_eq_true c7
       clear c7
       by_cases c8 : x4_1 < (x3_1.length : Int)
       ·rw [if_pos c8] at H
        have c8b0 : decide (x4_1 < (x3_1.length : Int)) = true := decide_eq_true c8
        clear c8
        obtain ⟨y691, hy691⟩ : ∃ y_ : List Int, y_ = (x3_1.set (x4_1 : Int).toNat (rd l0 x4_1)) := ⟨_, rfl⟩
        replace H : (laws_toIntS.l0 k1 l0 y691 (wrap64 (x4_1 + 1))) = some r := by first | (rw [hy691]; with_reducible exact H) | (have H2_ := (Option.bind_some _ _).symm.trans H; rw [hy691]; with_reducible exact H2_) | (have H2_ := (Option.bind_some _ _).symm.trans H; with_reducible exact H2_) | with_reducible exact H | (rw [hy691]; exact H) | exact H
        have Ny691 := Aside0.mk hy691
        clear hy691
        have H' := Aside0.mk H
        clear H
        have p690 : 0 ≤ (x4_1 : Int) := td
        have q690 : x4_1 < (l0.length : Int) := td
        obtain ⟨ad690, e690, hx690_0⟩ := Kd.at_int HR0.out x4_1 p690 q690
        cases e690
        replace hx690_0 := tcl HB hx690_0
        replace p690 := eq_true p690
        replace q690 := eq_true q690
        have p9 : 0 ≤ (x4_1 : Int) := td
        have q9 : (x4_1 : Int) < ((x3_1.length : Int) : Int) := td
        obtain ⟨go9, co9, eo9, gb9, gl9, cl9, HG9⟩ := Kd.R_form HO_3.out (by omega)
        (first | cases eo9 | (injection eo9 with ea_ en_ ec_; (first | subst ea_ | (injection ea_ with ea_; subst ea_)); subst ec_; clear en_))
        have GB9 := Aside0.mk gb9
        have GG9 := Aside0.mk HG9
        clear gb9 gl9 HG9
        obtain ⟨hx9_0, hf9_0⟩ := Kd.R_celln 0 HO_3.out (x4_1 : Int) p9 q9
        replace p9 := eq_true p9
        replace q9 := eq_true q9
        have HP10 := Kd.R_putg HO_3.out (x4_1 : Int) (rd l0 x4_1)
        go_wp2_with (first | ((with_reducible refine gate_store (t := 3) (p := 20) rfl ?_); refine store_event (t := 3) (p := 20) (v := ?vo_w11) (w1 := (wr.setCell ⟨go9, (x4_1 : Int).toNat, none⟩ (.int .i64 (rd l0 x4_1)))) ?hg ?ho ?hn ?hr ?_; (case ho => rfl); (case hg => rfl); (case hn => rfl); (case hr => first | (go_simp; done) | (go_simp; rfl)); intro w11 hw; have hg : wr.grownBy w11 (some go9) := (by rw [hw]; exact HP10.2); have hp_ : Kd.R (Kd.int .i64) 3 w11 w.heap.size (fun _ => True) (.slice (some ⟨go9, 0, none⟩) x3_1.length co9) y691 := (by rw [hw, Ny691.out]; exact HP10.1); clear HP10; replace HO_3 := Aside0.mk (hp_); replace HB := Aside0.mk ((by rw [hw]; exact below_set (HB.out) GB9.out : Below w.heap.size w w11)); clear hg hw hp_))
        go_roundg k1
        case measure => have := HK1.out; omega
        case rel => exact ⟨(y691), (wrap64 (x4_1 + 1)), tr, H', ⟨by have := HK1.out; omega⟩, ⟨tR HO_3.out⟩, ⟨zb⟩⟩
       ·rw [if_neg c8] at H
        exact absurd H (by simp)
      ·rw [if_neg c7] at H
       exact absurd H (by simp)
     ·rw [if_neg c6] at H
      have c6b0 : decide (x4_1 < (l0.length : Int)) = false := decide_eq_false c6
      clear c6
      obtain rfl := Option.some.inj H
      go_wp2
      go_ret
      exact ⟨_, by first | rfl | (simp [errW_none, errW_some] <;> rfl) | (simp [*, errW_none, errW_some] <;> rfl), tR HO_3.out, zb⟩
  ·rw [if_neg c3] at H
   exact absurd H (by simp)
 ·rw [if_neg c2] at H
  exact absurd H (by simp)

def laws_toRecord.f (k : Nat) (a0_0 : Int) (a0_1 : Int) (a0_2 : Bool) (l0_3 : List Int) (a0_4 : Bool) (l0_5 : List Int) : Option (Int × Int × Bool × List Int × Bool × List Int) := (laws_toIntS.f k l0_3).bind fun t695 => ((laws_toIntS.f k l0_5).bind fun t698 => (some (a0_0, a0_1, a0_2, t695, a0_4, t698)))
set_option maxHeartbeats 8000000 in
set_option maxRecDepth 100000 in
theorem laws_toRecord.calls (k : Nat) (a0_0 : Int) (a0_1 : Int) (a0_2 : Bool) (A0_3 : Option Addr) (c0_3 : Nat) (l0_3 : List Int) (a0_4 : Bool) (A0_5 : Option Addr) (c0_5 : Nat) (l0_5 : List Int) (r1 : Int) (r2 : Int) (r3 : Bool) (r4 : List Int) (r5 : Bool) (r6 : List Int) (w : World) (hr0_3 : Kd.C (Kd.int .i64) w A0_3 l0_3.length l0_3) (hc0_3 : l0_3.length ≤ c0_3) (hr0_5 : Kd.C (Kd.int .i64) w A0_5 l0_5.length l0_5) (hc0_5 : l0_5.length ≤ c0_5) (h : laws_toRecord.f k a0_0 a0_1 a0_2 l0_3 a0_4 l0_5 = some (r1, r2, r3, r4, r5, r6)) :
  Calls Try.prog 67 #[.agg #[.int .i64 a0_0, .int .i64 a0_1, .bool a0_2, .slice A0_3 l0_3.length c0_3, .bool a0_4, .slice A0_5 l0_5.length c0_5]] w fun e w' => ∃ v3_ v5_ : Value, e = .returned (.agg #[.int .i64 r1, .int .i64 r2, .bool r3, v3_, .bool r5, v5_]) ∧ Kd.R (Kd.int .i64) 3 w' w.heap.size (fun k_ => some k_ ≠ (v5_ : Value).ownBlock) v3_ r4 ∧ Kd.R (Kd.int .i64) 3 w' w.heap.size (fun k_ => some k_ ≠ (v3_ : Value).ownBlock) v5_ r6 ∧ Below w.heap.size w w' := by
 have hu99 := Try.underlying99
 have hu63 := Try.underlying63
 have HR0_3 := Aside0.mk hr0_3
 have HC0_3 := Aside0.mk hc0_3
 clear hr0_3 hc0_3
 have HR0_5 := Aside0.mk hr0_5
 have HC0_5 := Aside0.mk hc0_5
 clear hr0_5 hc0_5
 have HB := Aside0.mk (Below.refl w.heap.size w)
 have H : ((laws_toIntS.f k l0_3).bind fun t695 => ((laws_toIntS.f k l0_5).bind fun t698 => (some (a0_0, a0_1, a0_2, t695, a0_4, t698)))) = some (r1, r2, r3, r4, r5, r6) := h
 clear h
 replace H := tbe H
 obtain ⟨t695, A2, H⟩ := H
 replace H := tbe H
 obtain ⟨t698, A3, H⟩ := H
 simp only [Option.some.injEq, Prod.mk.injEq] at H
 obtain ⟨rfl, rfl, rfl, rfl, rfl, rfl⟩ := H
 go_enter Try.func67, Try.ntmps67
 go_wp2_with (first | ((with_reducible refine gate_dst (N := 1) rfl ?_); refine box_event ?hg (N := 1) ?hd (cs := #[.int .i64 a0_0, .int .i64 a0_1, .bool a0_2, .slice A0_3 l0_3.length c0_3, .bool a0_4, .slice A0_5 l0_5.length c0_5]) (t := 99) ?hr ?_; (case hd => rfl); (case hg => rfl); (case hr => first | (go_simp; done) | (go_simp; rfl)); intro gb692 hg w4 hbox hb; have BK692 := Aside0.mk (hbox); have GW692 := tge HB hg; have GE692 := tge HB hg; replace HB := tBs HB hb; clear hb hbox hg) | ((with_reducible refine gate_dst (N := 2) rfl ?_); refine box_event ?hg (N := 2) ?hd (cs := #[.int .i64 0, .int .i64 0, .bool false, .slice none 0 0, .bool false, .slice none 0 0]) (t := 63) ?hr ?_; (case hd => rfl); (case hg => rfl); (case hr => first | (go_simp; done) | (go_simp; rfl)); intro gb693 hg w5 hbox hb; have BK693 := Aside0.mk (hbox); have GW693 := tge HB hg; have GE693 := tge HB hg; replace HB := tBs HB hb; have NB692_693 := tlt BK692 hg; have NB693_692 := tgt BK692 hg; replace BK692 := tBb BK692 hb; clear hb hbox hg) | ((with_reducible refine gate_dst (N := 3) rfl ?_); refine box_event ?hg (N := 3) ?hd (cs := #[.int .i64 0, .int .i64 0, .bool false, .slice none 0 0, .bool false, .slice none 0 0]) (t := 63) ?hr ?_; (case hd => rfl); (case hg => rfl); (case hr => first | (go_simp; done) | (go_simp; rfl)); intro gb694 hg w6 hbox hb; have BK694 := Aside0.mk (hbox); have GW694 := tge HB hg; have GE694 := tge HB hg; replace HB := tBs HB hb; have NB692_694 := tlt BK692 hg; have NB694_692 := tgt BK692 hg; replace BK692 := tBb BK692 hb; have NB693_694 := tlt BK693 hg; have NB694_693 := tgt BK693 hg; replace BK693 := tBb BK693 hb; clear hb hbox hg; have hnb7 := NB692_693.out; have hnc7 := NB693_692.out; have hnb8 := NB692_694.out; have hnc8 := NB694_692.out; obtain ⟨hcz9_0, hcz9_1, hcz9_2, hcz9_3, hcz9_4, hcz9_5, hfz9_0, hfz9_1, hfz9_2, hfz9_3, hfz9_4, hfz9_5⟩ := cells6 BK692.out; have hnb10 := NB694_693.out; have hnc10 := NB693_694.out; obtain ⟨hcz11_0, hcz11_1, hcz11_2, hcz11_3, hcz11_4, hcz11_5, hfz11_0, hfz11_1, hfz11_2, hfz11_3, hfz11_4, hfz11_5⟩ := cells6 BK694.out) | ((with_reducible refine gate_callee (f := 79) rfl ?_); refine goesL_ (some 15) rfl rfl Try.func79 (by kernel_rfl) rfl #[.slice A0_3 l0_3.length c0_3] rfl tq ?_; (with_reducible refine (laws_toIntS.calls k _ _ l0_3 t695 _ ?side1 ?side2 A2.out).mono ?_); (case side1 => exact Kd.C_below HR0_3.out zb); (case side2 => exact HC0_3.out); rintro e w12 ⟨v696, rfl, ho0, hb⟩; have u_v696 := tsv Try.prog v696 ho0; refine ⟨_, rfl, ?_⟩; have HO697 := tRl ho0 HB; replace BK692 := tBb BK692 hb; replace BK693 := tBb BK693 hb; replace BK694 := tBp (o' := .cells #[.int .i64 a0_0, .int .i64 a0_1, .bool a0_2, .slice none 0 0, .bool false, .slice none 0 0] 63 (0, 0)) BK694 hb; replace HB := tBs HB hb; (try clear hb); (try clear hb2); (try clear hk); (try clear hi); (try clear ho0); obtain ⟨Ao13, co13, eo13⟩ := Kd.R_slice HO697.out; subst eo13; obtain ⟨hcz14_0, hcz14_1, hcz14_2, hcz14_3, hcz14_4, hcz14_5, hfz14_0, hfz14_1, hfz14_2, hfz14_3, hfz14_4, hfz14_5⟩ := cells6 BK694.out; obtain ⟨hcz15_0, hcz15_1, hcz15_2, hcz15_3, hcz15_4, hcz15_5, hfz15_0, hfz15_1, hfz15_2, hfz15_3, hfz15_4, hfz15_5⟩ := cells6 BK692.out) | ((with_reducible refine gate_callee (f := 79) rfl ?_); refine goesL_ (some 22) rfl rfl Try.func79 (by kernel_rfl) rfl #[.slice A0_5 l0_5.length c0_5] rfl tq ?_; (with_reducible refine (laws_toIntS.calls k _ _ l0_5 t698 _ ?side1 ?side2 A3.out).mono ?_); (case side1 => exact Kd.C_below HR0_5.out zb); (case side2 => exact HC0_5.out); rintro e w16 ⟨v699, rfl, ho0, hb⟩; have u_v699 := tsv Try.prog v699 ho0; refine ⟨_, rfl, ?_⟩; have HO700 := Aside0.mk (Kd.R_lower (Kd.R_new' ho0 (Kd.R_lt (tRt HO697.out BK694.out))) (below_size zb)); replace HO697 := Aside0.mk (Kd.R_elder' (tRt HO697.out BK694.out) (Kd.R_base ho0) hb); replace BK692 := tBb BK692 hb; replace BK693 := tBb BK693 hb; replace BK694 := tBp (o' := .cells #[.int .i64 a0_0, .int .i64 a0_1, .bool a0_2, .slice Ao13 t695.length co13, .bool a0_4, .slice none 0 0] 63 (0, 0)) BK694 hb; replace HB := tBs HB hb; (try clear hb); (try clear hb2); (try clear hk); (try clear hi); (try clear ho0); obtain ⟨Ao17, co17, eo17⟩ := Kd.R_slice HO700.out; subst eo17; obtain ⟨hcz18_0, hcz18_1, hcz18_2, hcz18_3, hcz18_4, hcz18_5, hfz18_0, hfz18_1, hfz18_2, hfz18_3, hfz18_4, hfz18_5⟩ := cells6 BK694.out; obtain ⟨hcz19_0, hcz19_1, hcz19_2, hcz19_3, hcz19_4, hcz19_5, hfz19_0, hfz19_1, hfz19_2, hfz19_3, hfz19_4, hfz19_5⟩ := cells6 BK693.out))
 refine bodyPost_ret (results_cell_row rfl _ _ gb693 63 #[.int .i64 a0_0, .int .i64 a0_1, .bool a0_2, .slice Ao13 t695.length co13, .bool a0_4, .slice Ao17 t698.length co17] (0, 0) _ rfl (tP BK693.out) Try.underlying63 rfl (by kernel_rfl)) rfl ?_
 exact ⟨_, _, by first | rfl | (simp [errW_none, errW_some] <;> rfl) | (simp [*, errW_none, errW_some] <;> rfl), tRm (Kd.R_types (Kd.R_types HO697.out BK694.out (by decide)) BK693.out (by decide)), tRm (Kd.R_types (Kd.R_types HO700.out BK694.out (by decide)) BK693.out (by decide)), zb⟩

def laws_toRecordS.l0 : Nat → List (S99) → List (S63) → Int → Option ((List (S63)))
 | 0, _, _, _ => none
 | k + 1, x0, x3, x4 => if x4 < (x0.length : Int) then (if 0 ≤ x4 then ((laws_toRecord.f k ((rd_T99 x0 x4).f0) ((rd_T99 x0 x4).f1) ((rd_T99 x0 x4).f2) ((rd_T99 x0 x4).f3) ((rd_T99 x0 x4).f4) ((rd_T99 x0 x4).f5)).bind fun bt705 => (if x4 < (x3.length : Int) then (laws_toRecordS.l0 k x0 (x3.set (x4 : Int).toNat (⟨bt705.1, bt705.2.1, bt705.2.2.1, bt705.2.2.2.1, bt705.2.2.2.2.1, bt705.2.2.2.2.2⟩ : S63)) (wrap64 (x4 + 1))) else (none))) else (none)) else (some x3)
def laws_toRecordS.f (k : Nat) (l0 : List (S99)) : Option ((List (S63))) := if 0 ≤ (l0.length : Int) then (if ((l0.length : Int) : Int).toNat ≤ 3518437208883 then (laws_toRecordS.l0 k l0 (List.replicate ((l0.length : Int) : Int).toNat z63) 0) else (none)) else (none)
set_option maxHeartbeats 8000000 in
set_option maxRecDepth 100000 in
theorem laws_toRecordS.calls (k : Nat) (A0 : Option Addr) (c0 : Nat) (l0 : List (S99)) (r : List (S63)) (w : World) (hr0 : Kd.C k99 w A0 l0.length l0) (hc0 : l0.length ≤ c0) (h : laws_toRecordS.f k l0 = some r) :
  Calls Try.prog 48 #[.slice A0 l0.length c0] w fun e w' => ∃ v0_ : Value, e = .returned (v0_) ∧ Kd.S k63 63 w' w.heap.size (fun _ => True) v0_ r ∧ Below w.heap.size w w' := by
 have hu99 := Try.underlying99
 have hu63 := Try.underlying63
 have HR0 := Aside0.mk hr0
 have HC0 := Aside0.mk hc0
 clear hr0 hc0
 have HB := Aside0.mk (Below.refl w.heap.size w)
 have H : (if 0 ≤ (l0.length : Int) then (if ((l0.length : Int) : Int).toNat ≤ 3518437208883 then (laws_toRecordS.l0 k l0 (List.replicate ((l0.length : Int) : Int).toNat z63) 0) else (none)) else (none)) = some r := h
 clear h
 by_cases c2 : 0 ≤ (l0.length : Int)
 ·rw [if_pos c2] at H
  have c2b0 := eq_true c2
  have c2b1 : decide (0 ≤ (l0.length : Int)) = true := decide_eq_true c2
  clear c2
  by_cases c3 : ((l0.length : Int) : Int).toNat ≤ 3518437208883
  ·rw [if_pos c3] at H
   have c3b0 := eq_true c3
   have c3b1 : decide (((l0.length : Int) : Int).toNat ≤ 3518437208883) = true := decide_eq_true c3
   clear c3
   obtain ⟨y701, hy701⟩ : ∃ y_ : List (S63), y_ = (List.replicate ((l0.length : Int) : Int).toNat z63) := ⟨_, rfl⟩
   replace H : (laws_toRecordS.l0 k l0 y701 0) = some r := by first | (rw [hy701]; with_reducible exact H) | (have H2_ := (Option.bind_some _ _).symm.trans H; rw [hy701]; with_reducible exact H2_) | (have H2_ := (Option.bind_some _ _).symm.trans H; with_reducible exact H2_) | with_reducible exact H | (rw [hy701]; exact H) | exact H
   have Ny701 := Aside0.mk hy701
   clear hy701
   have H' := Aside0.mk H
   clear H
   go_enter Try.func48, Try.ntmps48
   go_wp2_with (first | ((with_reducible refine gate_dst (N := 7) rfl ?_); refine Kd.S_make k63 _ 63 rfl (N := 7) rfl 44 _ _ rfl (l0.length : Int) rfl rfl Try.underlying44 (.agg #[(.int .i64 0), (.int .i64 0), (.bool false), (.slice none 0 0), (.bool false), (.slice none 0 0)]) 80 info63 rfl (by decide) (by omega) z63 (ok := fun _ => True) (okp := fun _ => True) (k63_mkM _ _ _ z63 (Kd.R_nil _ _ _ _ _) (Kd.R_nil _ _ _ _ _)) (fun _ hk => hk) trivial (td) (Nat.le_trans (Nat.mul_le_mul_right _ (td : (l0.length : Int).toNat ≤ 3518437208883)) (by omega)) (Below.refl _ _) (Nat.le_refl _) ?_; intro v702 w4 ho5 hb hg_ hnew_; clear hg_ hnew_; (first | rw [← Ny701.out] at ho5 | (simp only [Int.reduceToNat] at ho5; rw [← Ny701.out] at ho5)); have HO703 := tSl ho5 HB; replace HB := tBs HB hb; clear hb ho5))
   go_loopg [4] k (fun kq v4 w' => ∃ (x3_1 : List (S63)) (x4_1 : Int), v4 = .int .i64 x4_1 ∧ Aside0 (laws_toRecordS.l0 kq l0 x3_1 x4_1 = some r) ∧ Aside0 (kq ≤ k) ∧ Aside0 (Kd.S k63 63 w' w.heap.size (fun _ => True) v702 x3_1) ∧ Aside0 (Below w.heap.size w w'))
   case atStart => exact ⟨(y701), (0), tr, H', ⟨Nat.le_refl _⟩, ⟨tS HO703.out⟩, ⟨zb⟩⟩
   case round =>
    clear H'
    try clear c2; try clear c2b0; try clear c2b1; try clear c3; try clear c3b0; try clear c3b1
    obtain ⟨x3_1, x4_1, rfl, HA, HK1, HO_3, HB⟩ := hrel
    cases gk with
    | zero => exact absurd HA.out (by simp [laws_toRecordS.l0])
    | succ k1 =>
     have H := HA.out
     clear HA
     simp only [laws_toRecordS.l0] at H
     by_cases c6 : x4_1 < (l0.length : Int)
     ·rw [if_pos c6] at H
      have c6b0 : decide (x4_1 < (l0.length : Int)) = true := decide_eq_true c6
      clear c6
      by_cases c7 : 0 ≤ x4_1
      ·rw [if_pos c7] at H
       have c7b0 : decide (0 ≤ x4_1) = true := decide_eq_true c7
       clear c7
       replace H := tbe H
       obtain ⟨⟨t705, t706, t707, t708, t711, t712⟩, A8, H⟩ := H
       dsimp only at H
       by_cases c9 : x4_1 < (x3_1.length : Int)
       ·rw [if_pos c9] at H
        have c9b0 : decide (x4_1 < (x3_1.length : Int)) = true := decide_eq_true c9
        clear c9
        obtain ⟨y715, hy715⟩ : ∃ y_ : List (S63), y_ = (x3_1.set (x4_1 : Int).toNat (⟨t705, t706, t707, t708, t711, t712⟩ : S63)) := ⟨_, rfl⟩
        replace H : (laws_toRecordS.l0 k1 l0 y715 (wrap64 (x4_1 + 1))) = some r := by first | (rw [hy715]; with_reducible exact H) | (have H2_ := (Option.bind_some _ _).symm.trans H; rw [hy715]; with_reducible exact H2_) | (have H2_ := (Option.bind_some _ _).symm.trans H; with_reducible exact H2_) | with_reducible exact H | (rw [hy715]; exact H) | exact H
        have Ny715 := Aside0.mk hy715
        clear hy715
        have H' := Aside0.mk H
        clear H
        have p704 : 0 ≤ (x4_1 : Int) := td
        have q704 : x4_1 < (l0.length : Int) := td
        obtain ⟨ad704, A704_3, c704_3, A704_5, c704_5, e704, hx704_0, hx704_1, hx704_2, hx704_3, hx704_4, hx704_5, hl704_3, hi704_3, hl704_5, hi704_5⟩ := at_T99 HR0.out x4_1 p704 q704
        cases e704
        replace hx704_0 := tcl HB hx704_0
        replace hx704_1 := tcl HB hx704_1
        replace hx704_2 := tcl HB hx704_2
        replace hx704_3 := tcl HB hx704_3
        replace hx704_4 := tcl HB hx704_4
        replace hx704_5 := tcl HB hx704_5
        have HR704_3 := Aside0.mk hi704_3
        have HC704_3 := Aside0.mk hl704_3
        clear hi704_3 hl704_3
        have HR704_5 := Aside0.mk hi704_5
        have HC704_5 := Aside0.mk hl704_5
        clear hi704_5 hl704_5
        replace p704 := eq_true p704
        replace q704 := eq_true q704
        go_wp2_with (first | ((with_reducible refine gate_callee (f := 67) rfl ?_); refine goesL_ (some 20) rfl rfl Try.func67 (by kernel_rfl) rfl #[.agg #[.int .i64 ((rd_T99 l0 x4_1).f0), .int .i64 ((rd_T99 l0 x4_1).f1), .bool ((rd_T99 l0 x4_1).f2), .slice A704_3 ((rd_T99 l0 x4_1).f3).length c704_3, .bool ((rd_T99 l0 x4_1).f4), .slice A704_5 ((rd_T99 l0 x4_1).f5).length c704_5]] rfl tq ?_; (with_reducible refine (laws_toRecord.calls k1 ((rd_T99 l0 x4_1).f0) ((rd_T99 l0 x4_1).f1) ((rd_T99 l0 x4_1).f2) _ _ ((rd_T99 l0 x4_1).f3) ((rd_T99 l0 x4_1).f4) _ _ ((rd_T99 l0 x4_1).f5) t705 t706 t707 t708 t711 t712 _ ?side1 ?side2 ?side3 ?side4 A8.out).mono ?_); (case side1 => exact tC (Kd.C_below HR704_3.out HB.out)); (case side2 => exact HC704_3.out); (case side3 => exact tC (Kd.C_below HR704_5.out HB.out)); (case side4 => exact HC704_5.out); rintro e w11 ⟨v709, v713, rfl, ho0, ho1, hb⟩; have u_v709 := tsv Try.prog v709 ho0; have u_v713 := tsv Try.prog v713 ho1; refine ⟨_, rfl, ?_⟩; replace HO_3 := Aside0.mk (Kd.S_mono (Kd.S_told (Kd.S_told (Kd.S_old (tS HO_3.out) hb) (Kd.R_base ho0)) (Kd.R_base ho1)) (fun _ h_ => h_.1)); have HO710 := tRl ho0 HB; have HO714 := tRl ho1 HB; replace HB := tBs HB hb; (try clear hb); (try clear hb2); (try clear hk); (try clear hi); (try clear ho0); (try clear ho1); have p10 : 0 ≤ (x4_1 : Int) := td; have q10 : (x4_1 : Int) < ((x3_1.length : Int) : Int) := td; obtain ⟨go10, co10, eo10, gb10, gl10, cl10, HG10⟩ := Kd.S_form HO_3.out (by omega); (first | cases eo10 | (injection eo10 with ea_ en_ ec_; (first | subst ea_ | (injection ea_ with ea_; subst ea_)); subst ec_; clear en_)); have GB10 := Aside0.mk gb10; have GG10 := Aside0.mk HG10; clear gb10 gl10 HG10; obtain ⟨_, ce10, hcl10, hM10, hcc10, hfr10, _, _⟩ := Kd.S_elem HO_3.out z63 (x4_1 : Int) p10 q10; obtain ⟨ve10_3, ve10_5, rfl, ge10_3, ge10_5⟩ := k63_openM hM10; have hx10_0 : w11.cell? ⟨go10, (x4_1 : Int).toNat * 6, none⟩ = some (.int .i64 ((rd_T63 x3_1 x4_1).f0)) := hcc10 0 _ rfl; have hx10_1 : w11.cell? ⟨go10, (x4_1 : Int).toNat * 6 + 1, none⟩ = some (.int .i64 ((rd_T63 x3_1 x4_1).f1)) := hcc10 1 _ rfl; have hx10_2 : w11.cell? ⟨go10, (x4_1 : Int).toNat * 6 + 2, none⟩ = some (.bool ((rd_T63 x3_1 x4_1).f2)) := hcc10 2 _ rfl; have hx10_3 : w11.cell? ⟨go10, (x4_1 : Int).toNat * 6 + 3, none⟩ = some (ve10_3) := hcc10 3 _ rfl; have hx10_4 : w11.cell? ⟨go10, (x4_1 : Int).toNat * 6 + 4, none⟩ = some (.bool ((rd_T63 x3_1 x4_1).f4)) := hcc10 4 _ rfl; have hx10_5 : w11.cell? ⟨go10, (x4_1 : Int).toNat * 6 + 5, none⟩ = some (ve10_5) := hcc10 5 _ rfl; have hf10_0 : w11.frozen? ⟨go10, (x4_1 : Int).toNat * 6, none⟩ = false := hfr10 0; have hf10_1 : w11.frozen? ⟨go10, (x4_1 : Int).toNat * 6 + 1, none⟩ = false := hfr10 1; have hf10_2 : w11.frozen? ⟨go10, (x4_1 : Int).toNat * 6 + 2, none⟩ = false := hfr10 2; have hf10_3 : w11.frozen? ⟨go10, (x4_1 : Int).toNat * 6 + 3, none⟩ = false := hfr10 3; have hf10_4 : w11.frozen? ⟨go10, (x4_1 : Int).toNat * 6 + 4, none⟩ = false := hfr10 4; have hf10_5 : w11.frozen? ⟨go10, (x4_1 : Int).toNat * 6 + 5, none⟩ = false := hfr10 5; clear hcl10 hcc10 hfr10 hM10; replace p10 := eq_true p10; replace q10 := eq_true q10; have n_ := Aside0.mk (Kd.S_mono (ok' := (fun k_ => some k_ ≠ (v709 : Value).ownBlock ∧ some k_ ≠ (v713 : Value).ownBlock)) HO_3.out (fun k_ hk => ⟨hk.1.2, hk.2⟩)); clear HO_3; have HO_3 := n_; clear n_; have HX12 := Aside0.mk (show Kd.S k63 63 w11 w.heap.size (fun k_ => ((fun _ => True)) k_ ∧ ¬ ((fun k_ => some k_ = (v709 : Value).ownBlock ∨ some k_ = (v713 : Value).ownBlock)) k_) (.slice (some ⟨go10, 0, none⟩) x3_1.length co10) x3_1 from (tSm HO_3.out)); obtain ⟨oki12, ce12, hcl12, hM12, hcc12, hfr12, hoki12, hH12⟩ := Kd.S_elem HX12.out z63 (x4_1 : Int) (td) (by have h_ : (x4_1 : Int) < ((x3_1.length : Int) : Int) := td; first | exact h_ | (have e_ := (Kd.S_reads' HO_3.out).1; omega) | simpa using h_); obtain ⟨ve12_3, ve12_5, rfl, ge12_3, ge12_5⟩ := k63_openM hM12; have HP12 := Kd.S_seg hH12 (td) (by have h_ : (x4_1 : Int) < ((x3_1.length : Int) : Int) := td; first | exact h_ | (have e_ := (Kd.S_reads' HO_3.out).1; omega) | simpa using h_) (seg := [.int .i64 t705, .int .i64 t706, .bool t707, v709, .bool t711, v713]) (j := 0) (show 6 ≤ 6 from by decide) (x' := (⟨t705, t706, t707, t708, t711, t712⟩ : S63)) (k63_mkM _ _ _ (⟨t705, t706, t707, t708, t711, t712⟩ : S63) (Kd.R_mono (Kd.R_tight rfl (Kd.R_mono (ok' := fun k_ => ((fun _ => True)) k_ ∧ k_ ≠ go10) (Kd.R_apart' (HO710.out) (Kd.S_typed HO_3.out) (by decide)) (fun k_ hk => ⟨trivial, fun e_ => (hk.2) (by rw [e_]; rfl)⟩))) (fun _ h_ => Or.inr (Or.inl h_))) (Kd.R_mono (Kd.R_tight rfl (Kd.R_mono (ok' := fun k_ => ((fun _ => True)) k_ ∧ k_ ≠ go10) (Kd.R_apart' (HO714.out) (Kd.S_typed HO_3.out) (by decide)) (fun k_ hk => ⟨trivial, fun e_ => (hk.2) (by rw [e_]; rfl)⟩))) (fun _ h_ => Or.inr (Or.inr (h_))))) (fun _ hk => hk) (fun k_ hk_ => hk_.elim (fun h_ => ((Kd.R_mono (ok' := fun k_ => ((fun _ => True)) k_ ∧ k_ ≠ go10) (Kd.R_apart' (HO710.out) (Kd.S_typed HO_3.out) (by decide)) (fun k_ hk => ⟨trivial, fun e_ => (hk.2) (by rw [e_]; rfl)⟩))).1 k_ h_.symm) (fun h_ => ((Kd.R_mono (ok' := fun k_ => ((fun _ => True)) k_ ∧ k_ ≠ go10) (Kd.R_apart' (HO714.out) (Kd.S_typed HO_3.out) (by decide)) (fun k_ hk => ⟨trivial, fun e_ => (hk.2) (by rw [e_]; rfl)⟩))).1 k_ h_.symm)); have hx12_0 := hcc12 0 _ rfl; (try simp only [show (k63).sz = 6 from rfl, Nat.mul_one, Nat.add_zero] at hx12_0); have hf12_0 := hfr12 0; (try simp only [show (k63).sz = 6 from rfl, Nat.mul_one, Nat.add_zero] at hf12_0); have hx12_1 := hcc12 1 _ rfl; (try simp only [show (k63).sz = 6 from rfl, Nat.mul_one, Nat.add_zero] at hx12_1); have hf12_1 := hfr12 1; (try simp only [show (k63).sz = 6 from rfl, Nat.mul_one, Nat.add_zero] at hf12_1); have hx12_2 := hcc12 2 _ rfl; (try simp only [show (k63).sz = 6 from rfl, Nat.mul_one, Nat.add_zero] at hx12_2); have hf12_2 := hfr12 2; (try simp only [show (k63).sz = 6 from rfl, Nat.mul_one, Nat.add_zero] at hf12_2); have hx12_3 := hcc12 3 _ rfl; (try simp only [show (k63).sz = 6 from rfl, Nat.mul_one, Nat.add_zero] at hx12_3); have hf12_3 := hfr12 3; (try simp only [show (k63).sz = 6 from rfl, Nat.mul_one, Nat.add_zero] at hf12_3); have hx12_4 := hcc12 4 _ rfl; (try simp only [show (k63).sz = 6 from rfl, Nat.mul_one, Nat.add_zero] at hx12_4); have hf12_4 := hfr12 4; (try simp only [show (k63).sz = 6 from rfl, Nat.mul_one, Nat.add_zero] at hf12_4); have hx12_5 := hcc12 5 _ rfl; (try simp only [show (k63).sz = 6 from rfl, Nat.mul_one, Nat.add_zero] at hx12_5); have hf12_5 := hfr12 5; (try simp only [show (k63).sz = 6 from rfl, Nat.mul_one, Nat.add_zero] at hf12_5); clear hcl12 hcc12 hfr12 hM12 hoki12 hH12) | ((with_reducible refine gate_store (t := 63) (p := 21) rfl ?_); refine store_event (t := 63) (p := 21) (v := ?vo_w13) (w1 := ((((((w11.setCell ⟨go10, (x4_1 : Int).toNat * 6, none⟩ (.int .i64 t705)).setCell ⟨go10, (x4_1 : Int).toNat * 6 + 1, none⟩ (.int .i64 t706)).setCell ⟨go10, (x4_1 : Int).toNat * 6 + 2, none⟩ (.bool t707)).setCell ⟨go10, (x4_1 : Int).toNat * 6 + 3, none⟩ (v709)).setCell ⟨go10, (x4_1 : Int).toNat * 6 + 4, none⟩ (.bool t711)).setCell ⟨go10, (x4_1 : Int).toNat * 6 + 5, none⟩ (v713))) ?hg ?ho ?hn ?hr ?_; (case ho => rfl); (case hg => rfl); (case hn => rfl); (case hr => first | (go_simp; done) | (go_simp; rfl)); intro w13 hw; have hg : w11.grownBy w13 (some go10) := (by rw [hw]; exact HP12.2); have hp_ : Kd.S k63 63 w13 w.heap.size (fun _ => True) (.slice (some ⟨go10, 0, none⟩) x3_1.length co10) y715 := (by rw [hw, Ny715.out]; exact HP12.1); clear HP12; replace HO_3 := Aside0.mk (hp_); replace HB := Aside0.mk ((by rw [hw]; exact below_set (below_set (below_set (below_set (below_set (below_set (HB.out) GB10.out) GB10.out) GB10.out) GB10.out) GB10.out) GB10.out : Below w.heap.size w w13)); clear HO710 HO714; clear hg hw hp_))
        go_roundg k1
        case measure => have := HK1.out; omega
        case rel => exact ⟨(y715), (wrap64 (x4_1 + 1)), tr, H', ⟨by have := HK1.out; omega⟩, ⟨tS HO_3.out⟩, ⟨zb⟩⟩
       ·rw [if_neg c9] at H
        exact absurd H (by simp)
      ·rw [if_neg c7] at H
       exact absurd H (by simp)
     ·rw [if_neg c6] at H
      have c6b0 : decide (x4_1 < (l0.length : Int)) = false := decide_eq_false c6
      clear c6
      obtain rfl := Option.some.inj H
      go_wp2
      go_ret
      exact ⟨_, by first | rfl | (simp [errW_none, errW_some] <;> rfl) | (simp [*, errW_none, errW_some] <;> rfl), tS HO_3.out, zb⟩
  ·rw [if_neg c3] at H
   exact absurd H (by simp)
 ·rw [if_neg c2] at H
  exact absurd H (by simp)

def laws_toBatch.f (k : Nat) (a0_0 : Bool) (a0_1 : Bool) (a0_2 : Int) (a0_3 : Int) (a0_4 : Int) (l0_5 : List (S99)) : Option (Bool × Bool × Int × Int × Int × (List (S63))) := (laws_toRecordS.f k l0_5).bind fun t719 => (some (a0_0, a0_1, a0_2, a0_3, a0_4, t719))
set_option maxHeartbeats 8000000 in
set_option maxRecDepth 100000 in
theorem laws_toBatch.calls (k : Nat) (a0_0 : Bool) (a0_1 : Bool) (a0_2 : Int) (a0_3 : Int) (a0_4 : Int) (A0_5 : Option Addr) (c0_5 : Nat) (l0_5 : List (S99)) (r1 : Bool) (r2 : Bool) (r3 : Int) (r4 : Int) (r5 : Int) (r6 : List (S63)) (w : World) (hr0_5 : Kd.C k99 w A0_5 l0_5.length l0_5) (hc0_5 : l0_5.length ≤ c0_5) (h : laws_toBatch.f k a0_0 a0_1 a0_2 a0_3 a0_4 l0_5 = some (r1, r2, r3, r4, r5, r6)) :
  Calls Try.prog 32 #[.agg #[.bool a0_0, .bool a0_1, .int .i64 a0_2, .int .i64 a0_3, .int .i64 a0_4, .slice A0_5 l0_5.length c0_5]] w fun e w' => ∃ v5_ : Value, e = .returned (.agg #[.bool r1, .bool r2, .int .i64 r3, .int .i64 r4, .int .i64 r5, v5_]) ∧ Kd.S k63 63 w' w.heap.size (fun _ => True) v5_ r6 ∧ Below w.heap.size w w' := by
 have hu56 := Try.underlying56
 have hu46 := Try.underlying46
 have HR0_5 := Aside0.mk hr0_5
 have HC0_5 := Aside0.mk hc0_5
 clear hr0_5 hc0_5
 have HB := Aside0.mk (Below.refl w.heap.size w)
 have H : ((laws_toRecordS.f k l0_5).bind fun t719 => (some (a0_0, a0_1, a0_2, a0_3, a0_4, t719))) = some (r1, r2, r3, r4, r5, r6) := h
 clear h
 replace H := tbe H
 obtain ⟨t719, A2, H⟩ := H
 simp only [Option.some.injEq, Prod.mk.injEq] at H
 obtain ⟨rfl, rfl, rfl, rfl, rfl, rfl⟩ := H
 go_enter Try.func32, Try.ntmps32
 go_wp2_with (first | ((with_reducible refine gate_dst (N := 1) rfl ?_); refine box_event ?hg (N := 1) ?hd (cs := #[.bool a0_0, .bool a0_1, .int .i64 a0_2, .int .i64 a0_3, .int .i64 a0_4, .slice A0_5 l0_5.length c0_5]) (t := 56) ?hr ?_; (case hd => rfl); (case hg => rfl); (case hr => first | (go_simp; done) | (go_simp; rfl)); intro gb716 hg w3 hbox hb; have BK716 := Aside0.mk (hbox); have GW716 := tge HB hg; have GE716 := tge HB hg; replace HB := tBs HB hb; clear hb hbox hg) | ((with_reducible refine gate_dst (N := 2) rfl ?_); refine box_event ?hg (N := 2) ?hd (cs := #[.bool false, .bool false, .int .i64 0, .int .i64 0, .int .i64 0, .slice none 0 0]) (t := 46) ?hr ?_; (case hd => rfl); (case hg => rfl); (case hr => first | (go_simp; done) | (go_simp; rfl)); intro gb717 hg w4 hbox hb; have BK717 := Aside0.mk (hbox); have GW717 := tge HB hg; have GE717 := tge HB hg; replace HB := tBs HB hb; have NB716_717 := tlt BK716 hg; have NB717_716 := tgt BK716 hg; replace BK716 := tBb BK716 hb; clear hb hbox hg) | ((with_reducible refine gate_dst (N := 3) rfl ?_); refine box_event ?hg (N := 3) ?hd (cs := #[.bool false, .bool false, .int .i64 0, .int .i64 0, .int .i64 0, .slice none 0 0]) (t := 46) ?hr ?_; (case hd => rfl); (case hg => rfl); (case hr => first | (go_simp; done) | (go_simp; rfl)); intro gb718 hg w5 hbox hb; have BK718 := Aside0.mk (hbox); have GW718 := tge HB hg; have GE718 := tge HB hg; replace HB := tBs HB hb; have NB716_718 := tlt BK716 hg; have NB718_716 := tgt BK716 hg; replace BK716 := tBb BK716 hb; have NB717_718 := tlt BK717 hg; have NB718_717 := tgt BK717 hg; replace BK717 := tBb BK717 hb; clear hb hbox hg; have hnb6 := NB716_717.out; have hnc6 := NB717_716.out; have hnb7 := NB716_718.out; have hnc7 := NB718_716.out; obtain ⟨hcz8_0, hcz8_1, hcz8_2, hcz8_3, hcz8_4, hcz8_5, hfz8_0, hfz8_1, hfz8_2, hfz8_3, hfz8_4, hfz8_5⟩ := cells6 BK716.out; have hnb9 := NB718_717.out; have hnc9 := NB717_718.out; obtain ⟨hcz10_0, hcz10_1, hcz10_2, hcz10_3, hcz10_4, hcz10_5, hfz10_0, hfz10_1, hfz10_2, hfz10_3, hfz10_4, hfz10_5⟩ := cells6 BK718.out) | ((with_reducible refine gate_callee (f := 48) rfl ?_); refine goesL_ (some 21) rfl rfl Try.func48 (by kernel_rfl) rfl #[.slice A0_5 l0_5.length c0_5] rfl tq ?_; (with_reducible refine (laws_toRecordS.calls k _ _ l0_5 t719 _ ?side1 ?side2 A2.out).mono ?_); (case side1 => exact Kd.C_below HR0_5.out zb); (case side2 => exact HC0_5.out); rintro e w11 ⟨v720, rfl, ho0, hb⟩; have u_v720 := tsv Try.prog v720 ho0; refine ⟨_, rfl, ?_⟩; have HO721 := tSl ho0 HB; replace BK716 := tBb BK716 hb; replace BK717 := tBb BK717 hb; replace BK718 := tBp (o' := .cells #[.bool a0_0, .bool a0_1, .int .i64 a0_2, .int .i64 a0_3, .int .i64 a0_4, .slice none 0 0] 46 (0, 0)) BK718 hb; replace HB := tBs HB hb; (try clear hb); (try clear hb2); (try clear hk); (try clear hi); (try clear ho0); obtain ⟨Ao12, co12, eo12⟩ := Kd.S_slice HO721.out; subst eo12; obtain ⟨hcz13_0, hcz13_1, hcz13_2, hcz13_3, hcz13_4, hcz13_5, hfz13_0, hfz13_1, hfz13_2, hfz13_3, hfz13_4, hfz13_5⟩ := cells6 BK718.out; obtain ⟨hcz14_0, hcz14_1, hcz14_2, hcz14_3, hcz14_4, hcz14_5, hfz14_0, hfz14_1, hfz14_2, hfz14_3, hfz14_4, hfz14_5⟩ := cells6 BK717.out))
 refine bodyPost_ret (results_cell_row rfl _ _ gb717 46 #[.bool a0_0, .bool a0_1, .int .i64 a0_2, .int .i64 a0_3, .int .i64 a0_4, .slice Ao12 t719.length co12] (0, 0) _ rfl (tP BK717.out) Try.underlying46 rfl (by kernel_rfl)) rfl ?_
 exact ⟨_, by first | rfl | (simp [errW_none, errW_some] <;> rfl) | (simp [*, errW_none, errW_some] <;> rfl), tSm (Kd.S_types (Kd.S_types HO721.out BK718.out (by decide)) BK717.out (by decide)), zb⟩

end Go.Proofs.Ythoioccmnphfgaa.G

