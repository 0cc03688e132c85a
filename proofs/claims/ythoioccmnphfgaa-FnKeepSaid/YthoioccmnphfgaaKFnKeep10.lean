/- A text of seat Ythoioccmnphfgaa: what the law FnKeep needs of this repo's texts (by pack.py). Not trusted: Lean checks it. -/
import Derived.Test.YthoioccmnphfgaaKFnKeep9
import Derived.Deep.Slices
import Derived.SizedLaws
import Derived.Laws.BitsLemmas
namespace Go.Proofs.Ythoioccmnphfgaa.G
open Go.RowKit Go.Proofs.YthoioccmnphfgaaW.PrintWords Go.Proofs.YthoioccmnphfgaaW.PrintLast Go.Proofs.YthoioccmnphfgaaW.PrintMore
attribute [local go_sem] max2_int min2_int max_two min_two max_three min_three max_four min_four   -- for this text's walks alone
set_option linter.unusedVariables false
set_option linter.unusedSimpArgs false

mutual
def spec_l5Bytes.j0 : Nat → List Int → Int → Bool → Bool → Int → Int → Int → List (S63) → Option (List Int)
 | 0, _, _, _, _, _, _, _, _ => none
 | k + 1, x3, x4, x521000, x521001, x521002, x521003, x521004, x521005 => if x521001 = true then (spec_l5Bytes.j1 k x3 (wrap64 (x4 + 2)) x521000 x521001 x521002 x521003 x521004 x521005) else (spec_l5Bytes.j1 k x3 x4 x521000 x521001 x521002 x521003 x521004 x521005)
def spec_l5Bytes.j1 : Nat → List Int → Int → Bool → Bool → Int → Int → Int → List (S63) → Option (List Int)
 | 0, _, _, _, _, _, _, _, _ => none
 | k + 1, x3, x4, x521000, x521001, x521002, x521003, x521004, x521005 => (some (([x4, x521002, x521003] : List Int) : List Int)).bind fun y527 => ((spec_l2Int.f k x521004 2).bind fun t530 => (if y527.length + t530.length < 17592186044416 then ((some (y527 ++ t530 : List Int)).bind fun y533 => (if 0 < (x521005.length : Int) then ((spec_l2Int.f k ((rd_T63 x521005 0).f1) 3).bind fun t537 => (if y533.length + t537.length < 17592186044416 then ((some (y533 ++ t537 : List Int)).bind fun y540 => ((some (([(x521005.length : Int), 0, 0] : List Int) : List Int)).bind fun y543 => (if y540.length + y543.length < 17592186044416 then ((some (y540 ++ y543 : List Int)).bind fun y546 => (if y546.length + x3.length < 17592186044416 then ((some (y546 ++ x3 : List Int)).bind fun y549 => ((spec_l2Int.f k ((rd_T63 x521005 0).f0) 3).bind fun t553 => ((spec_l2Int.f k (y549.length : Int) 2).bind fun t556 => (if t553.length + t556.length < 17592186044416 then ((some (t553 ++ t556 : List Int)).bind fun y559 => ((spec_l2Sum.f k y549).bind fun t562 => ((spec_l2Int.f k t562 2).bind fun t563 => (if y559.length + t563.length < 17592186044416 then ((some (y559 ++ t563 : List Int)).bind fun y566 => (if y566.length + y549.length < 17592186044416 then (some (y566 ++ y549)) else (none))) else (none))))) else (none))))) else (none))) else (none)))) else (none))) else (none))) else (none)))
end
def spec_l5Bytes.f (k : Nat) (a0_0 : Bool) (a0_1 : Bool) (a0_2 : Int) (a0_3 : Int) (a0_4 : Int) (l0_5 : List (S63)) : Option (List Int) := (spec_l5Body.f k a0_0 a0_1 a0_2 a0_3 a0_4 l0_5).bind fun t521 => (if a0_0 = true then ((spec_l4Pack.f k t521).bind fun t524 => (spec_l5Bytes.j0 k t524 (0 + 1) a0_0 a0_1 a0_2 a0_3 a0_4 l0_5)) else (spec_l5Bytes.j0 k t521 0 a0_0 a0_1 a0_2 a0_3 a0_4 l0_5))
def spec_l5Bytes.T8 : Bool × List (List Nat × List Nat) := (true, [([], []), ([], []), ([1], [1]), ([], []), ([3], [3]), ([0, 2, 4], [0, 2, 4]), ([], []), ([6], [6]), ([7], [7]), ([5, 8, 8], [5, 8]), ([9, 9, 0, 1, 2, 3, 4, 5, 6, 7, 8, 9], [9])])
def spec_l5Bytes.B8 : List Nat := [0, 0, 2, 0, 8, 31, 0, 64, 192, 511, 1023]
theorem spec_l5Bytes.tab8 : rtab .any (opsOf Try.f41 8) = spec_l5Bytes.T8 := by kernel_rfl
theorem spec_l5Bytes.bits8 : waitsOk spec_l5Bytes.T8.2 spec_l5Bytes.B8 = true := by kernel_rfl
set_option maxHeartbeats 8000000 in
set_option maxRecDepth 100000 in
theorem spec_l5Bytes.calls (k : Nat) (a0_0 : Bool) (a0_1 : Bool) (a0_2 : Int) (a0_3 : Int) (a0_4 : Int) (A0_5 : Option Addr) (c0_5 : Nat) (l0_5 : List (S63)) (r : List Int) (w : World) (hr0_5 : Kd.C k63 w A0_5 l0_5.length l0_5) (hc0_5 : l0_5.length ≤ c0_5) (h : spec_l5Bytes.f k a0_0 a0_1 a0_2 a0_3 a0_4 l0_5 = some r) :
  Calls Try.prog 41 #[.agg #[.bool a0_0, .bool a0_1, .int .i64 a0_2, .int .i64 a0_3, .int .i64 a0_4, .slice A0_5 l0_5.length c0_5]] w fun e w' => ∃ v0_ : Value, e = .returned (v0_) ∧ Kd.R (Kd.int .i64) 3 w' w.heap.size (fun _ => True) v0_ r ∧ Below w.heap.size w w' := by
 have hu46 := Try.underlying46
 have HR0_5 := Aside0.mk hr0_5
 have HC0_5 := Aside0.mk hc0_5
 clear hr0_5 hc0_5
 have HB := Aside0.mk (Below.refl w.heap.size w)
 have H : ((spec_l5Body.f k a0_0 a0_1 a0_2 a0_3 a0_4 l0_5).bind fun t521 => (if a0_0 = true then ((spec_l4Pack.f k t521).bind fun t524 => (spec_l5Bytes.j0 k t524 (0 + 1) a0_0 a0_1 a0_2 a0_3 a0_4 l0_5)) else (spec_l5Bytes.j0 k t521 0 a0_0 a0_1 a0_2 a0_3 a0_4 l0_5))) = some r := h
 clear h
 replace H := tbe H
 obtain ⟨t521, A2, H⟩ := H
 have HC3 := Aside0.mk H
 clear H
 go_enter Try.func41, Try.ntmps41
 go_upto_if 10 with (first | ((with_reducible refine gate_dst (N := 1) rfl ?_); refine box_event ?hg (N := 1) ?hd (cs := #[.bool a0_0, .bool a0_1, .int .i64 a0_2, .int .i64 a0_3, .int .i64 a0_4, .slice A0_5 l0_5.length c0_5]) (t := 46) ?hr ?_; (case hd => rfl); (case hg => rfl); (case hr => first | (go_simp; done) | (go_simp; rfl)); intro gb520 hg w4 hbox hb; have BK520 := Aside0.mk (hbox); have GW520 := tge HB hg; have GE520 := tge HB hg; replace HB := tBs HB hb; clear hb hbox hg; obtain ⟨hcz5_0, hcz5_1, hcz5_2, hcz5_3, hcz5_4, hcz5_5, hfz5_0, hfz5_1, hfz5_2, hfz5_3, hfz5_4, hfz5_5⟩ := cells6 BK520.out) | ((with_reducible refine gate_callee (f := 54) rfl ?_); refine goesL_ (some 8) rfl rfl Try.func54 (by kernel_rfl) rfl #[.agg #[.bool a0_0, .bool a0_1, .int .i64 a0_2, .int .i64 a0_3, .int .i64 a0_4, .slice A0_5 l0_5.length c0_5]] rfl tq ?_; (with_reducible refine (spec_l5Body.calls k a0_0 a0_1 a0_2 a0_3 a0_4 _ _ l0_5 t521 _ ?side1 ?side2 A2.out).mono ?_); (case side1 => exact tC (Kd.C_below HR0_5.out HB.out)); (case side2 => exact HC0_5.out); rintro e w6 ⟨v522, rfl, ho0, hb⟩; have u_v522 := tsv Try.prog v522 ho0; refine ⟨_, rfl, ?_⟩; have HO523 := tRl ho0 HB; replace BK520 := tBb BK520 hb; replace HB := tBs HB hb; (try clear hb); (try clear hb2); (try clear hk); (try clear hi); (try clear ho0); obtain ⟨hcz7_0, hcz7_1, hcz7_2, hcz7_3, hcz7_4, hcz7_5, hfz7_0, hfz7_1, hfz7_2, hfz7_3, hfz7_4, hfz7_5⟩ := cells6 BK520.out))
 (try simp only [Act.put, List.setIfInBounds_toArray, List.set_cons_zero, List.set_cons_succ])
 go_cut [3, 4] (fun v3 v4 wc => ∃ (kq : Nat) (x3_2 : List Int) (x4_2 : Int), v4 = .int .i64 x4_2 ∧ Aside0 (spec_l5Bytes.j0 kq x3_2 x4_2 a0_0 a0_1 a0_2 a0_3 a0_4 l0_5 = some r) ∧ Aside0 (kq ≤ k) ∧ Aside0 (Kd.R (Kd.int .i64) 3 wc w.heap.size (fun _ => True) v3 x3_2) ∧ Aside0 (wc.heap[gb520]? = some (.cells #[.bool a0_0, .bool a0_1, .int .i64 a0_2, .int .i64 a0_3, .int .i64 a0_4, (.slice A0_5 l0_5.length c0_5)] 46 (0, 0))) ∧ Aside0 (Below w.heap.size w wc))
 case first =>
  have H := HC3.out
  clear HC3
  by_cases c8 : a0_0 = true
  ·subst c8
   rw [if_pos rfl] at H
   replace H := tbe H
   obtain ⟨t524, A9, H⟩ := H
   have H' := Aside0.mk H
   clear H
   obtain ⟨Ao10, co10, eo10⟩ := Kd.R_slice HO523.out
   subst eo10
   go_wp2_with (first | ((with_reducible refine gate_callee (f := 55) rfl ?_); refine goesL_ (some 12) rfl rfl Try.func55 (by kernel_rfl) rfl #[.slice Ao10 t521.length co10] rfl tq ?_; (with_reducible refine (spec_l4Pack.calls k _ _ t521 t524 _ ?side1 ?side2 A9.out).mono ?_); (case side1 => repeat (first | exact (Kd.R_reads' HO523.out).2.2 | (with_reducible refine Kd.C_alloc ?_ _) | (with_reducible refine Kd.C_drewN ?_ _) | (with_reducible refine Kd.C_drew ?_))); (case side2 => exact (Kd.R_reads' HO523.out).2.1); rintro e w11 ⟨v525, rfl, ho0, hb⟩; have u_v525 := tsv Try.prog v525 ho0; refine ⟨_, rfl, ?_⟩; have HO526 := Aside0.mk (Kd.R_lower (Kd.R_new' ho0 (Kd.R_lt (tR HO523.out))) (below_size zb)); replace HO523 := Aside0.mk (Kd.R_elder' (tR HO523.out) (Kd.R_base ho0) hb); replace BK520 := tBb BK520 hb; replace HB := tBs HB hb; (try clear hb); (try clear hb2); (try clear hk); (try clear hi); (try clear ho0)))
   go_meet
   case rel => exact ⟨_, (t524), (0 + 1), tr, H', ⟨by first | omega | exact Nat.le_refl _⟩, ⟨tRm HO526.out⟩, ⟨tH BK520.out⟩, ⟨zb⟩⟩
  ·replace c8 := Bool.eq_false_iff.mpr c8
   subst c8
   rw [if_neg (show ¬ (false = true) by decide)] at H
   have H' := Aside0.mk H
   clear H
   go_wp2
   go_meet
   case rel => exact ⟨_, (t521), (0), tr, H', ⟨by first | omega | exact Nat.le_refl _⟩, ⟨tR HO523.out⟩, ⟨tH BK520.out⟩, ⟨zb⟩⟩
 case rest =>
  clear HC3
  try clear hcz5_0; try clear hcz5_1; try clear hcz5_2; try clear hcz5_3; try clear hcz5_4; try clear hcz5_5; try clear hcz7_0; try clear hcz7_1; try clear hcz7_2; try clear hcz7_3; try clear hcz7_4; try clear hcz7_5; try clear hfz5_0; try clear hfz5_1; try clear hfz5_2; try clear hfz5_3; try clear hfz5_4; try clear hfz5_5; try clear hfz7_0; try clear hfz7_1; try clear hfz7_2; try clear hfz7_3; try clear hfz7_4; try clear hfz7_5
  obtain ⟨kq, x3_2, x4_2, rfl, HA, HJ2, HO_3, BK520, HB⟩ := hcut
  cases kq with
  | zero => exact absurd HA.out (by simp [spec_l5Bytes.j0])
  | succ kj2 =>
   have H := HA.out
   clear HA
   simp only [spec_l5Bytes.j0] at H
   have HC12 := Aside0.mk H
   clear H
   obtain ⟨hcz13_0, hcz13_1, hcz13_2, hcz13_3, hcz13_4, hcz13_5, hfz13_0, hfz13_1, hfz13_2, hfz13_3, hfz13_4, hfz13_5⟩ := cells6 BK520.out
   go_upto_if 16 with (fail)
   go_cut [4] (fun v4 wc => ∃ (kq : Nat) (x4_11 : Int), v4 = .int .i64 x4_11 ∧ Aside0 (spec_l5Bytes.j1 kq x3_2 x4_11 a0_0 a0_1 a0_2 a0_3 a0_4 l0_5 = some r) ∧ Aside0 (kq ≤ kj2) ∧ Aside0 (Kd.R (Kd.int .i64) 3 wc w.heap.size (fun _ => True) u3 x3_2) ∧ Aside0 (wc.heap[gb520]? = some (.cells #[.bool a0_0, .bool a0_1, .int .i64 a0_2, .int .i64 a0_3, .int .i64 a0_4, (.slice A0_5 l0_5.length c0_5)] 46 (0, 0))) ∧ Aside0 (Below w.heap.size w wc))
   case first =>
    have H := HC12.out
    clear HC12
    by_cases c14 : a0_1 = true
    ·subst c14
     rw [if_pos rfl] at H
     have H' := Aside0.mk H
     clear H
     go_wp2
     go_meet
     case rel => exact ⟨_, (wrap64 (x4_2 + 2)), tr, H', ⟨by have := HJ2.out; first | omega | exact Nat.le_refl _⟩, ⟨tR HO_3.out⟩, ⟨tH BK520.out⟩, ⟨zb⟩⟩
    ·replace c14 := Bool.eq_false_iff.mpr c14
     subst c14
     rw [if_neg (show ¬ (false = true) by decide)] at H
     have H' := Aside0.mk H
     clear H
     go_wp2
     go_meet
     case rel => exact ⟨_, (x4_2), tr, H', ⟨by have := HJ2.out; first | omega | exact Nat.le_refl _⟩, ⟨tR HO_3.out⟩, ⟨tH BK520.out⟩, ⟨zb⟩⟩
   case rest =>
    clear HC12
    try clear hcz13_0; try clear hcz13_1; try clear hcz13_2; try clear hcz13_3; try clear hcz13_4; try clear hcz13_5; try clear hcz5_0; try clear hcz5_1; try clear hcz5_2; try clear hcz5_3; try clear hcz5_4; try clear hcz5_5; try clear hcz7_0; try clear hcz7_1; try clear hcz7_2; try clear hcz7_3; try clear hcz7_4; try clear hcz7_5; try clear hfz13_0; try clear hfz13_1; try clear hfz13_2; try clear hfz13_3; try clear hfz13_4; try clear hfz13_5; try clear hfz5_0; try clear hfz5_1; try clear hfz5_2; try clear hfz5_3; try clear hfz5_4; try clear hfz5_5; try clear hfz7_0; try clear hfz7_1; try clear hfz7_2; try clear hfz7_3; try clear hfz7_4; try clear hfz7_5
    obtain ⟨kq, x4_11, rfl, HA, HJ11, HO_3, BK520, HB⟩ := hcut
    cases kq with
    | zero => exact absurd HA.out (by simp [spec_l5Bytes.j1])
    | succ kj11 =>
     have H := HA.out
     clear HA
     simp only [spec_l5Bytes.j1] at H
     obtain ⟨y527, hy527⟩ : ∃ y_ : List Int, y_ = (([x4_11, a0_2, a0_3] : List Int)) := ⟨_, rfl⟩
     replace H : ((spec_l2Int.f kj11 a0_4 2).bind fun t530 => (if y527.length + t530.length < 17592186044416 then ((some (y527 ++ t530 : List Int)).bind fun y533 => (if 0 < (l0_5.length : Int) then ((spec_l2Int.f kj11 ((rd_T63 l0_5 0).f1) 3).bind fun t537 => (if y533.length + t537.length < 17592186044416 then ((some (y533 ++ t537 : List Int)).bind fun y540 => ((some (([(l0_5.length : Int), 0, 0] : List Int) : List Int)).bind fun y543 => (if y540.length + y543.length < 17592186044416 then ((some (y540 ++ y543 : List Int)).bind fun y546 => (if y546.length + x3_2.length < 17592186044416 then ((some (y546 ++ x3_2 : List Int)).bind fun y549 => ((spec_l2Int.f kj11 ((rd_T63 l0_5 0).f0) 3).bind fun t553 => ((spec_l2Int.f kj11 (y549.length : Int) 2).bind fun t556 => (if t553.length + t556.length < 17592186044416 then ((some (t553 ++ t556 : List Int)).bind fun y559 => ((spec_l2Sum.f kj11 y549).bind fun t562 => ((spec_l2Int.f kj11 t562 2).bind fun t563 => (if y559.length + t563.length < 17592186044416 then ((some (y559 ++ t563 : List Int)).bind fun y566 => (if y566.length + y549.length < 17592186044416 then (some (y566 ++ y549)) else (none))) else (none))))) else (none))))) else (none))) else (none)))) else (none))) else (none))) else (none))) = some r := by first | (rw [hy527]; with_reducible exact H) | (have H2_ := (Option.bind_some _ _).symm.trans H; rw [hy527]; with_reducible exact H2_) | (have H2_ := (Option.bind_some _ _).symm.trans H; with_reducible exact H2_) | with_reducible exact H | (rw [hy527]; exact H) | exact H
     have Ny527 := Aside0.mk hy527
     clear hy527
     replace H := tbe H
     obtain ⟨t530, A15, H⟩ := H
     by_cases c16 : y527.length + t530.length < 17592186044416
     ·rw [if_pos c16] at H
      have LMc16 := Aside0.mk c16
      clear c16
      obtain ⟨y533, hy533⟩ : ∃ y_ : List Int, y_ = (y527 ++ t530) := ⟨_, rfl⟩
      replace H : (if 0 < (l0_5.length : Int) then ((spec_l2Int.f kj11 ((rd_T63 l0_5 0).f1) 3).bind fun t537 => (if y533.length + t537.length < 17592186044416 then ((some (y533 ++ t537 : List Int)).bind fun y540 => ((some (([(l0_5.length : Int), 0, 0] : List Int) : List Int)).bind fun y543 => (if y540.length + y543.length < 17592186044416 then ((some (y540 ++ y543 : List Int)).bind fun y546 => (if y546.length + x3_2.length < 17592186044416 then ((some (y546 ++ x3_2 : List Int)).bind fun y549 => ((spec_l2Int.f kj11 ((rd_T63 l0_5 0).f0) 3).bind fun t553 => ((spec_l2Int.f kj11 (y549.length : Int) 2).bind fun t556 => (if t553.length + t556.length < 17592186044416 then ((some (t553 ++ t556 : List Int)).bind fun y559 => ((spec_l2Sum.f kj11 y549).bind fun t562 => ((spec_l2Int.f kj11 t562 2).bind fun t563 => (if y559.length + t563.length < 17592186044416 then ((some (y559 ++ t563 : List Int)).bind fun y566 => (if y566.length + y549.length < 17592186044416 then (some (y566 ++ y549)) else (none))) else (none))))) else (none))))) else (none))) else (none)))) else (none))) else (none)) = some r := by first | (rw [hy533]; with_reducible exact H) | (have H2_ := (Option.bind_some _ _).symm.trans H; rw [hy533]; with_reducible exact H2_) | (have H2_ := (Option.bind_some _ _).symm.trans H; with_reducible exact H2_) | with_reducible exact H | (rw [hy533]; exact H) | exact H
      have Ny533 := Aside0.mk hy533
      clear hy533
      by_cases c17 : 0 < (l0_5.length : Int)
      ·rw [if_pos c17] at H
       have c17b0 : decide (0 < (l0_5.length : Int)) = true := decide_eq_true c17
       have c17b1 : decide (0 < l0_5.length) = true := decide_eq_true (by omega)
       clear c17
       replace H := tbe H
       obtain ⟨t537, A18, H⟩ := H
       by_cases c19 : y533.length + t537.length < 17592186044416
       ·rw [if_pos c19] at H
        have LMc19 := Aside0.mk c19
        clear c19
        obtain ⟨y540, hy540⟩ : ∃ y_ : List Int, y_ = (y533 ++ t537) := ⟨_, rfl⟩
        replace H : ((some (([(l0_5.length : Int), 0, 0] : List Int) : List Int)).bind fun y543 => (if y540.length + y543.length < 17592186044416 then ((some (y540 ++ y543 : List Int)).bind fun y546 => (if y546.length + x3_2.length < 17592186044416 then ((some (y546 ++ x3_2 : List Int)).bind fun y549 => ((spec_l2Int.f kj11 ((rd_T63 l0_5 0).f0) 3).bind fun t553 => ((spec_l2Int.f kj11 (y549.length : Int) 2).bind fun t556 => (if t553.length + t556.length < 17592186044416 then ((some (t553 ++ t556 : List Int)).bind fun y559 => ((spec_l2Sum.f kj11 y549).bind fun t562 => ((spec_l2Int.f kj11 t562 2).bind fun t563 => (if y559.length + t563.length < 17592186044416 then ((some (y559 ++ t563 : List Int)).bind fun y566 => (if y566.length + y549.length < 17592186044416 then (some (y566 ++ y549)) else (none))) else (none))))) else (none))))) else (none))) else (none))) = some r := by first | (rw [hy540]; with_reducible exact H) | (have H2_ := (Option.bind_some _ _).symm.trans H; rw [hy540]; with_reducible exact H2_) | (have H2_ := (Option.bind_some _ _).symm.trans H; with_reducible exact H2_) | with_reducible exact H | (rw [hy540]; exact H) | exact H
        have Ny540 := Aside0.mk hy540
        clear hy540
        obtain ⟨y543, hy543⟩ : ∃ y_ : List Int, y_ = (([(l0_5.length : Int), 0, 0] : List Int)) := ⟨_, rfl⟩
        replace H : (if y540.length + y543.length < 17592186044416 then ((some (y540 ++ y543 : List Int)).bind fun y546 => (if y546.length + x3_2.length < 17592186044416 then ((some (y546 ++ x3_2 : List Int)).bind fun y549 => ((spec_l2Int.f kj11 ((rd_T63 l0_5 0).f0) 3).bind fun t553 => ((spec_l2Int.f kj11 (y549.length : Int) 2).bind fun t556 => (if t553.length + t556.length < 17592186044416 then ((some (t553 ++ t556 : List Int)).bind fun y559 => ((spec_l2Sum.f kj11 y549).bind fun t562 => ((spec_l2Int.f kj11 t562 2).bind fun t563 => (if y559.length + t563.length < 17592186044416 then ((some (y559 ++ t563 : List Int)).bind fun y566 => (if y566.length + y549.length < 17592186044416 then (some (y566 ++ y549)) else (none))) else (none))))) else (none))))) else (none))) else (none)) = some r := by first | (rw [hy543]; with_reducible exact H) | (have H2_ := (Option.bind_some _ _).symm.trans H; rw [hy543]; with_reducible exact H2_) | (have H2_ := (Option.bind_some _ _).symm.trans H; with_reducible exact H2_) | with_reducible exact H | (rw [hy543]; exact H) | exact H
        have Ny543 := Aside0.mk hy543
        clear hy543
        by_cases c20 : y540.length + y543.length < 17592186044416
        ·rw [if_pos c20] at H
         have LMc20 := Aside0.mk c20
         clear c20
         obtain ⟨y546, hy546⟩ : ∃ y_ : List Int, y_ = (y540 ++ y543) := ⟨_, rfl⟩
         replace H : (if y546.length + x3_2.length < 17592186044416 then ((some (y546 ++ x3_2 : List Int)).bind fun y549 => ((spec_l2Int.f kj11 ((rd_T63 l0_5 0).f0) 3).bind fun t553 => ((spec_l2Int.f kj11 (y549.length : Int) 2).bind fun t556 => (if t553.length + t556.length < 17592186044416 then ((some (t553 ++ t556 : List Int)).bind fun y559 => ((spec_l2Sum.f kj11 y549).bind fun t562 => ((spec_l2Int.f kj11 t562 2).bind fun t563 => (if y559.length + t563.length < 17592186044416 then ((some (y559 ++ t563 : List Int)).bind fun y566 => (if y566.length + y549.length < 17592186044416 then (some (y566 ++ y549)) else (none))) else (none))))) else (none))))) else (none)) = some r := by first | (rw [hy546]; with_reducible exact H) | (have H2_ := (Option.bind_some _ _).symm.trans H; rw [hy546]; with_reducible exact H2_) | (have H2_ := (Option.bind_some _ _).symm.trans H; with_reducible exact H2_) | with_reducible exact H | (rw [hy546]; exact H) | exact H
         have Ny546 := Aside0.mk hy546
         clear hy546
         by_cases c21 : y546.length + x3_2.length < 17592186044416
         ·rw [if_pos c21] at H
          have LMc21 := Aside0.mk c21
          clear c21
          obtain ⟨y549, hy549⟩ : ∃ y_ : List Int, y_ = (y546 ++ x3_2) := ⟨_, rfl⟩
          replace H : ((spec_l2Int.f kj11 ((rd_T63 l0_5 0).f0) 3).bind fun t553 => ((spec_l2Int.f kj11 (y549.length : Int) 2).bind fun t556 => (if t553.length + t556.length < 17592186044416 then ((some (t553 ++ t556 : List Int)).bind fun y559 => ((spec_l2Sum.f kj11 y549).bind fun t562 => ((spec_l2Int.f kj11 t562 2).bind fun t563 => (if y559.length + t563.length < 17592186044416 then ((some (y559 ++ t563 : List Int)).bind fun y566 => (if y566.length + y549.length < 17592186044416 then (some (y566 ++ y549)) else (none))) else (none))))) else (none)))) = some r := by first | (rw [hy549]; with_reducible exact H) | (have H2_ := (Option.bind_some _ _).symm.trans H; rw [hy549]; with_reducible exact H2_) | (have H2_ := (Option.bind_some _ _).symm.trans H; with_reducible exact H2_) | with_reducible exact H | (rw [hy549]; exact H) | exact H
          have Ny549 := Aside0.mk hy549
          clear hy549
          replace H := tbe H
          obtain ⟨t553, A22, H⟩ := H
          replace H := tbe H
          obtain ⟨t556, A23, H⟩ := H
          by_cases c24 : t553.length + t556.length < 17592186044416
          ·rw [if_pos c24] at H
           have LMc24 := Aside0.mk c24
           clear c24
           obtain ⟨y559, hy559⟩ : ∃ y_ : List Int, y_ = (t553 ++ t556) := ⟨_, rfl⟩
           replace H : ((spec_l2Sum.f kj11 y549).bind fun t562 => ((spec_l2Int.f kj11 t562 2).bind fun t563 => (if y559.length + t563.length < 17592186044416 then ((some (y559 ++ t563 : List Int)).bind fun y566 => (if y566.length + y549.length < 17592186044416 then (some (y566 ++ y549)) else (none))) else (none)))) = some r := by first | (rw [hy559]; with_reducible exact H) | (have H2_ := (Option.bind_some _ _).symm.trans H; rw [hy559]; with_reducible exact H2_) | (have H2_ := (Option.bind_some _ _).symm.trans H; with_reducible exact H2_) | with_reducible exact H | (rw [hy559]; exact H) | exact H
           have Ny559 := Aside0.mk hy559
           clear hy559
           replace H := tbe H
           obtain ⟨t562, A25, H⟩ := H
           replace H := tbe H
           obtain ⟨t563, A26, H⟩ := H
           by_cases c27 : y559.length + t563.length < 17592186044416
           ·rw [if_pos c27] at H
            have LMc27 := Aside0.mk c27
            clear c27
            obtain ⟨y566, hy566⟩ : ∃ y_ : List Int, y_ = (y559 ++ t563) := ⟨_, rfl⟩
            replace H : (if y566.length + y549.length < 17592186044416 then (some (y566 ++ y549)) else (none)) = some r := by first | (rw [hy566]; with_reducible exact H) | (have H2_ := (Option.bind_some _ _).symm.trans H; rw [hy566]; with_reducible exact H2_) | (have H2_ := (Option.bind_some _ _).symm.trans H; with_reducible exact H2_) | with_reducible exact H | (rw [hy566]; exact H) | exact H
            have Ny566 := Aside0.mk hy566
            clear hy566
            by_cases c28 : y566.length + y549.length < 17592186044416
            ·rw [if_pos c28] at H
             have LMc28 := Aside0.mk c28
             clear c28
             obtain ⟨y569, hy569⟩ : ∃ y_ : List Int, y_ = (y566 ++ y549) := ⟨_, rfl⟩
             replace H : (some y569) = some r := by first | (rw [hy569]; with_reducible exact H) | (have H2_ := (Option.bind_some _ _).symm.trans H; rw [hy569]; with_reducible exact H2_) | (have H2_ := (Option.bind_some _ _).symm.trans H; with_reducible exact H2_) | with_reducible exact H | (rw [hy569]; exact H) | exact H
             have Ny569 := Aside0.mk hy569
             clear hy569
             obtain rfl := Option.some.inj H
             try go_wp2
             replace HO_3 := Aside0.mk (Kd.R_drew HO_3.out)
             replace BK520 := Aside0.mk (blk_drew BK520.out)
             replace HB := Aside0.mk (below_drew1 HB.out)
             refine start_ (n := 11) (S := fun w' => w'.cell? ⟨gb520, 0, none⟩ = some (.bool a0_0) ∧ w'.cell? ⟨gb520, 1, none⟩ = some (.bool a0_1) ∧ w'.cell? ⟨gb520, 2, none⟩ = some (.int .i64 a0_2) ∧ w'.cell? ⟨gb520, 3, none⟩ = some (.int .i64 a0_3) ∧ w'.cell? ⟨gb520, 4, none⟩ = some (.int .i64 a0_4) ∧ w'.cell? ⟨gb520, 5, none⟩ = some (.slice A0_5 l0_5.length c0_5)) (ds := []) #[false, false, false, false, false, false, false, false, false, false, false] (by kernel_rfl) rfl rfl ⟨(blk_cell BK520.out 0).trans rfl, (blk_cell BK520.out 1).trans rfl, (blk_cell BK520.out 2).trans rfl, (blk_cell BK520.out 3).trans rfl, (blk_cell BK520.out 4).trans rfl, (blk_cell BK520.out 5).trans rfl⟩ (fun hHeld => ?_); refine with_tabW spec_l5Bytes.tab8 spec_l5Bytes.bits8 (fun HT_ HW_ => ?_)
             generalize wc.drew = w29 at HO_3 BK520 HB hHeld ⊢
             refine tpu 0 (some 19) #[true, false, false, false, false, false, false, false, false, false, false] ?_
             refine tpu 1 (some 20) #[true, true, false, false, false, false, false, false, false, false, false] ?_
             refine tpu 3 (some 22) #[true, true, false, true, false, false, false, false, false, false, false] ?_
             refine tpu 6 (some 25) #[true, true, false, true, false, false, true, false, false, false, false] ?_
             refine tta 2 (some 21) #[true, true, true, true, false, false, true, false, false, false, false] hHeld ?_ (hy := by rintro w' ⟨s0, s1, s2, s3, s4, s5⟩; go_simp; with_reducible rfl)
             refine tta 4 (some 23) #[true, true, true, true, true, false, true, false, false, false, false] hHeld ?_ (hy := by rintro w' ⟨s0, s1, s2, s3, s4, s5⟩; go_simp; with_reducible rfl)
             refine tta 7 (some 26) #[true, true, true, true, true, false, true, true, false, false, false] hHeld ?_ (hy := by rintro w' ⟨s0, s1, s2, s3, s4, s5⟩; go_simp; with_reducible rfl)
             refine join_ (σ := Value × Value) 2 #[true, true, true, true, true, true, true, true, true, false, false] (fun s_ => [(24, s_.1), (27, s_.2)]) (fun s_ w' => (w'.cell? ⟨gb520, 0, none⟩ = some (.bool a0_0) ∧ w'.cell? ⟨gb520, 1, none⟩ = some (.bool a0_1) ∧ w'.cell? ⟨gb520, 2, none⟩ = some (.int .i64 a0_2) ∧ w'.cell? ⟨gb520, 3, none⟩ = some (.int .i64 a0_3) ∧ w'.cell? ⟨gb520, 4, none⟩ = some (.int .i64 a0_4) ∧ w'.cell? ⟨gb520, 5, none⟩ = some (.slice A0_5 l0_5.length c0_5)) ∧ (Kd.R (Kd.int .i64) 3 w' w.heap.size (fun k_ => some k_ ≠ (s_.2 : Value).ownBlock ∧ some k_ ≠ (u3 : Value).ownBlock) s_.1 y527) ∧ (Kd.R (Kd.int .i64) 3 w' w.heap.size (fun k_ => some k_ ≠ (s_.1 : Value).ownBlock ∧ some k_ ≠ (u3 : Value).ownBlock) s_.2 t530) ∧ (Kd.R (Kd.int .i64) 3 w' w.heap.size (fun k_ => some k_ ≠ (s_.1 : Value).ownBlock ∧ some k_ ≠ (s_.2 : Value).ownBlock) u3 x3_2) ∧ (w'.heap[gb520]? = some (.cells #[.bool a0_0, .bool a0_1, .int .i64 a0_2, .int .i64 a0_3, .int .i64 a0_4, .slice A0_5 l0_5.length c0_5] 46 (0, 0))) ∧ (Below w.heap.size w w')) ?_ ?_
             rotate_left
             ·intro hCont
              refine two_ (i := 5) (j := 8) (Ni := some 24) (Nj := some 27) #[true, true, true, true, true, true, true, true, false, false, false] #[true, true, true, true, true, false, true, true, true, false, false] rfl rfl rfl rfl (two_of HT_.out (by kernel_rfl)) (by decide) (by decide) (fun K hK => ?_) (fun K hK => ?_)
              ·skip
               refine Kd.R_lit_step (Kd.int .i64) _ 3 ?hg (N := 24) ?hd (xs := ([x4_11, a0_2, a0_3] : List Int)) (inner := [.int .i64 x4_11, .int .i64 a0_2, .int .i64 a0_3]) (ok := fun _ => True) (okp := fun _ => True) ?hr ?hp (fun _ hk => hk) trivial (Below.refl _ _) (Nat.le_refl _) (by simp) ?_; (case hd => rfl); (case hg => rfl); (case hr => first | (go_simp; done) | (go_simp; rfl)); (case hp => exact (Reps.one (show Kd.M (Kd.int .i64) _ _ _ x4_11 [.int .i64 x4_11] from rfl) (Reps.one (show Kd.M (Kd.int .i64) _ _ _ a0_2 [.int .i64 a0_2] from rfl) (Reps.one (show Kd.M (Kd.int .i64) _ _ _ a0_3 [.int .i64 a0_3] from rfl) (Reps.none _ _)))))
               intro v528 w30 ho31 hb hg_ hnew_
               clear hg_ hnew_
               (first | rw [← Ny527.out] at ho31 | (simp only [Int.reduceToNat] at ho31; rw [← Ny527.out] at ho31))
               have HO529 := Aside0.mk (Kd.R_lower (Kd.R_new' ho31 (Kd.R_lt (tR HO_3.out))) (below_size zb))
               replace HO_3 := Aside0.mk (Kd.R_elder' (tR HO_3.out) (Kd.R_base ho31) hb)
               replace BK520 := tBb BK520 hb
               replace HB := tBs HB hb
               clear hb ho31
               refine hK.out _ _ ⟨(blk_cell BK520.out 0).trans rfl, (blk_cell BK520.out 1).trans rfl, (blk_cell BK520.out 2).trans rfl, (blk_cell BK520.out 3).trans rfl, (blk_cell BK520.out 4).trans rfl, (blk_cell BK520.out 5).trans rfl⟩ (fun hHeld => ?_)
               clear hK K
               refine tnm (some 24) ?_
               refine one_ (i := 8) (N := some 27) #[true, true, true, true, true, true, true, true, true, false, false] rfl rfl (one_of HT_.out (by kernel_rfl)) (by decide) (fun K hK => ?_)
               refine goes_ Try.func56 (by kernel_rfl) rfl #[.int .i64 a0_4, .int .i64 2] (by rfl) rfl rfl tq ?_
               with_reducible refine (spec_l2Int.calls kj11 a0_4 2 t530 _ A15.out).mono ?_
               rintro e w32 ⟨v531, rfl, ho0, hb⟩
               refine ⟨_, rfl, ?_⟩
               have HO532 := Aside0.mk (Kd.R_lower (Kd.R_new' (Kd.R_new' ho0 (Kd.R_lt (tR HO_3.out))) (Kd.R_lt (tR HO529.out))) (below_size zb))
               replace HO_3 := Aside0.mk (Kd.R_elder' (tR HO_3.out) (Kd.R_base ho0) hb)
               replace HO529 := Aside0.mk (Kd.R_elder' (tR HO529.out) (Kd.R_base ho0) hb)
               replace BK520 := tBb BK520 hb
               replace HB := tBs HB hb
               (try clear hb)
               (try clear hb2)
               (try clear hk)
               (try clear hi)
               (try clear ho0)
               refine hK.out _ _ ⟨(blk_cell BK520.out 0).trans rfl, (blk_cell BK520.out 1).trans rfl, (blk_cell BK520.out 2).trans rfl, (blk_cell BK520.out 3).trans rfl, (blk_cell BK520.out 4).trans rfl, (blk_cell BK520.out 5).trans rfl⟩ (fun hHeld => ?_)
               clear hK K
               refine tnm (some 27) ?_
               exact tnx (hCont (v528, v531) _ ⟨hHeld, (tRm HO529.out), (tRm HO532.out), (tRm HO_3.out), (tH BK520.out), zb⟩)
              ·skip
               refine goes_ Try.func56 (by kernel_rfl) rfl #[.int .i64 a0_4, .int .i64 2] (by rfl) rfl rfl tq ?_
               with_reducible refine (spec_l2Int.calls kj11 a0_4 2 t530 _ A15.out).mono ?_
               rintro e w30 ⟨v531, rfl, ho0, hb⟩
               refine ⟨_, rfl, ?_⟩
               have HO532 := Aside0.mk (Kd.R_lower (Kd.R_new' ho0 (Kd.R_lt (tR HO_3.out))) (below_size zb))
               replace HO_3 := Aside0.mk (Kd.R_elder' (tR HO_3.out) (Kd.R_base ho0) hb)
               replace BK520 := tBb BK520 hb
               replace HB := tBs HB hb
               (try clear hb)
               (try clear hb2)
               (try clear hk)
               (try clear hi)
               (try clear ho0)
               refine hK.out _ _ ⟨(blk_cell BK520.out 0).trans rfl, (blk_cell BK520.out 1).trans rfl, (blk_cell BK520.out 2).trans rfl, (blk_cell BK520.out 3).trans rfl, (blk_cell BK520.out 4).trans rfl, (blk_cell BK520.out 5).trans rfl⟩ (fun hHeld => ?_)
               clear hK K
               refine tnm (some 27) ?_
               refine one_ (i := 5) (N := some 24) #[true, true, true, true, true, true, true, true, true, false, false] rfl rfl (one_of HT_.out (by kernel_rfl)) (by decide) (fun K hK => ?_)
               refine Kd.R_lit_step (Kd.int .i64) _ 3 ?hg (N := 24) ?hd (xs := ([x4_11, a0_2, a0_3] : List Int)) (inner := [.int .i64 x4_11, .int .i64 a0_2, .int .i64 a0_3]) (ok := fun _ => True) (okp := fun _ => True) ?hr ?hp (fun _ hk => hk) trivial (Below.refl _ _) (Nat.le_refl _) (by simp) ?_; (case hd => rfl); (case hg => rfl); (case hr => first | (go_simp; done) | (go_simp; rfl)); (case hp => exact (Reps.one (show Kd.M (Kd.int .i64) _ _ _ x4_11 [.int .i64 x4_11] from rfl) (Reps.one (show Kd.M (Kd.int .i64) _ _ _ a0_2 [.int .i64 a0_2] from rfl) (Reps.one (show Kd.M (Kd.int .i64) _ _ _ a0_3 [.int .i64 a0_3] from rfl) (Reps.none _ _)))))
               intro v528 w31 ho32 hb hg_ hnew_
               clear hg_ hnew_
               (first | rw [← Ny527.out] at ho32 | (simp only [Int.reduceToNat] at ho32; rw [← Ny527.out] at ho32))
               have HO529 := Aside0.mk (Kd.R_lower (Kd.R_new' (Kd.R_new' ho32 (Kd.R_lt (tR HO_3.out))) (Kd.R_lt (tR HO532.out))) (below_size zb))
               replace HO_3 := Aside0.mk (Kd.R_elder' (tR HO_3.out) (Kd.R_base ho32) hb)
               replace HO532 := Aside0.mk (Kd.R_elder' (tR HO532.out) (Kd.R_base ho32) hb)
               replace BK520 := tBb BK520 hb
               replace HB := tBs HB hb
               clear hb ho32
               refine hK.out _ _ ⟨(blk_cell BK520.out 0).trans rfl, (blk_cell BK520.out 1).trans rfl, (blk_cell BK520.out 2).trans rfl, (blk_cell BK520.out 3).trans rfl, (blk_cell BK520.out 4).trans rfl, (blk_cell BK520.out 5).trans rfl⟩ (fun hHeld => ?_)
               clear hK K
               refine tnm (some 24) ?_
               exact tnx (hCont (v528, v531) _ ⟨hHeld, (tRm HO529.out), (tRm HO532.out), (tRm HO_3.out), (tH BK520.out), zb⟩)
             rintro ⟨v528, v531⟩ w33 ⟨hS_, h0_, h1_, h2_, h3_, h4_⟩
             try dsimp only at hS_ h0_ h1_ h2_ h3_ h4_
             clear HO_3 BK520 HB
             have HO529 := Aside0.mk h0_
             have HO532 := Aside0.mk h1_
             have HO_3 := Aside0.mk h2_
             have BK520 := Aside0.mk h3_
             have HB := Aside0.mk h4_
             clear h0_ h1_ h2_ h3_ h4_
             have hHeld := hS_
             obtain ⟨Ao35, co35, eo35⟩ := Kd.R_slice HO532.out
             (first | subst eo35 | (injection eo35 with f1_ f2_ f3_; have f4_ := f1_.symm; have f5_ := f3_.symm; clear f1_ f2_ f3_; subst f4_; subst f5_))
             refine tnp ?_
             refine one_ (i := 9) (N := some 28) #[true, true, true, true, true, true, true, true, true, true, false] rfl rfl (one_of HT_.out (by kernel_rfl)) (by decide) (fun K hK => ?_)
             refine Kd.R_append_rows_step (Kd.int .i64) (w0 := w) w.heap.size (by rfl) (.tmp 24) (.tmp 27) 26 3 (.int .i64 0) 8 rfl Try.underlying26 info3 rfl (by decide) (by omega) v528 y527 t530 _ _ _ (fun k_ => some k_ ≠ (u3 : Value).ownBlock ∧ some k_ ≠ (.slice Ao35 t530.length co35 : Value).ownBlock) (fun _ => False) rfl rfl ?aO ?aR (fun _ _ h => h) (fun _ h => h.elim) ?aF ?aB ?aS ?aL ?_
             (case aR => repeat (first | exact (Kd.R_reads' HO532.out).2.2 | (with_reducible refine Kd.C_alloc ?_ _) | (with_reducible refine Kd.C_drewN ?_ _) | (with_reducible refine Kd.C_drew ?_)))
             (case aB => exact zb)
             (case aF => exact (fun k_ hk => ⟨Kd.fresh' (Kd.R_lt (tR HO_3.out)) k_ hk, Kd.fresh' (Kd.R_lt (tR HO532.out)) k_ hk⟩))
             (case aO => exact (tRm HO529.out))
             (case aS => exact (below_size zb))
             (case aL => have := LMc16.out; omega)
             intro v534 w34 ho hb hg hat
             rw [← Ny533.out] at ho
             replace HO_3 := Aside0.mk (Kd.R_after (ok := (fun k_ => some k_ ≠ (.slice Ao35 t530.length co35 : Value).ownBlock)) (tRm HO_3.out) hg hat)
             replace BK520 := Aside0.mk (blk_grown (tH BK520.out) hg (Kd.R_ne HO529.out BK520.out (by decide)))
             replace HO532 := Aside0.mk (Kd.R_after (ok := (fun k_ => some k_ ≠ (u3 : Value).ownBlock)) (tRm HO532.out) hg hat)
             replace HB := Aside0.mk (hb)
             have HO535 := Aside0.mk (ho)
             clear HO529
             clear ho hb hg hat
             refine hK.out _ _ ⟨(blk_cell BK520.out 0).trans rfl, (blk_cell BK520.out 1).trans rfl, (blk_cell BK520.out 2).trans rfl, (blk_cell BK520.out 3).trans rfl, (blk_cell BK520.out 4).trans rfl, (blk_cell BK520.out 5).trans rfl⟩ (fun hHeld => ?_)
             clear hK K
             refine tnm (some 28) ?_
             refine tpu 10 (some 5) #[true, true, true, true, true, true, true, true, true, true, true] ?_
             refine done_ (done_of HT_.out (by kernel_rfl)) ?_
             obtain ⟨hcz36_0, hcz36_1, hcz36_2, hcz36_3, hcz36_4, hcz36_5, hfz36_0, hfz36_1, hfz36_2, hfz36_3, hfz36_4, hfz36_5⟩ := cells6 BK520.out
             have p536 : 0 ≤ (0 : Int) := (by omega)
             have q536 : 0 < (l0_5.length : Int) := td
             obtain ⟨ad536, A536_3, c536_3, A536_5, c536_5, e536, hx536_0, hx536_1, hx536_2, hx536_3, hx536_4, hx536_5, hl536_3, hi536_3, hl536_5, hi536_5⟩ := at_T63 HR0_5.out 0 p536 q536
             cases e536
             have qi536 : (0 < l0_5.length) = True := eq_true (by omega)
             (try rw [show ((0 : Int)).toNat = 0 from rfl] at hx536_0)
             (try rw [show 0 * 6 = 0 from rfl] at hx536_0)
             (try rw [Addr.add_zero'] at hx536_0)
             (try rw [show ((0 : Int)).toNat = 0 from rfl] at hx536_1)
             (try rw [show 0 * 6 = 0 from rfl] at hx536_1)
             (try rw [Addr.add_zero'] at hx536_1)
             (try rw [show ((0 : Int)).toNat = 0 from rfl] at hx536_2)
             (try rw [show 0 * 6 = 0 from rfl] at hx536_2)
             (try rw [Addr.add_zero'] at hx536_2)
             (try rw [show ((0 : Int)).toNat = 0 from rfl] at hx536_3)
             (try rw [show 0 * 6 = 0 from rfl] at hx536_3)
             (try rw [Addr.add_zero'] at hx536_3)
             (try rw [show ((0 : Int)).toNat = 0 from rfl] at hx536_4)
             (try rw [show 0 * 6 = 0 from rfl] at hx536_4)
             (try rw [Addr.add_zero'] at hx536_4)
             (try rw [show ((0 : Int)).toNat = 0 from rfl] at hx536_5)
             (try rw [show 0 * 6 = 0 from rfl] at hx536_5)
             (try rw [Addr.add_zero'] at hx536_5)
             replace hx536_0 := tcl HB hx536_0
             replace hx536_1 := tcl HB hx536_1
             replace hx536_2 := tcl HB hx536_2
             replace hx536_3 := tcl HB hx536_3
             replace hx536_4 := tcl HB hx536_4
             replace hx536_5 := tcl HB hx536_5
             have HR536_3 := Aside0.mk hi536_3
             have HC536_3 := Aside0.mk hl536_3
             clear hi536_3 hl536_3
             have HR536_5 := Aside0.mk hi536_5
             have HC536_5 := Aside0.mk hl536_5
             clear hi536_5 hl536_5
             replace p536 := eq_true p536
             replace q536 := eq_true q536
             try go_wp2_with (first | ((with_reducible refine gate_callee (f := 56) rfl ?_); refine goesL_ (some 35) rfl rfl Try.func56 (by kernel_rfl) rfl #[.int .i64 ((rd_T63 l0_5 0).f1), .int .i64 3] rfl tq ?_; (with_reducible refine (spec_l2Int.calls kj11 ((rd_T63 l0_5 0).f1) 3 t537 _ A18.out).mono ?_); rintro e w37 ⟨v538, rfl, ho0, hb⟩; have u_v538 := tsv Try.prog v538 ho0; refine ⟨_, rfl, ?_⟩; have HO539 := Aside0.mk (Kd.R_lower (Kd.R_new' (Kd.R_new' (Kd.R_new' ho0 (Kd.R_lt (tR HO_3.out))) (Kd.R_lt (tR HO532.out))) (Kd.R_lt (tR HO535.out))) (below_size zb)); replace HO_3 := Aside0.mk (Kd.R_elder' (tR HO_3.out) (Kd.R_base ho0) hb); replace HO532 := Aside0.mk (Kd.R_elder' (tR HO532.out) (Kd.R_base ho0) hb); replace HO535 := Aside0.mk (Kd.R_elder' (tR HO535.out) (Kd.R_base ho0) hb); replace BK520 := tBb BK520 hb; replace HB := tBs HB hb; (try clear hb); (try clear hb2); (try clear hk); (try clear hi); (try clear ho0); obtain ⟨Ao39, co39, eo39⟩ := Kd.R_slice HO539.out; subst eo39) | ((with_reducible refine gate_builtin (b := .append) (xs := #[.tmp 29, .tmp 35]) rfl ?_); at_builtin; refine Kd.R_append_rows (Kd.int .i64) (w0 := w) w.heap.size rfl (.tmp 29) (.tmp 35) 26 3 (.int .i64 0) 8 rfl Try.underlying26 info3 rfl (by decide) (by omega) v534 y533 t537 _ _ _ (fun k_ => some k_ ≠ (u3 : Value).ownBlock ∧ some k_ ≠ (.slice Ao35 t530.length co35 : Value).ownBlock ∧ some k_ ≠ (.slice Ao39 t537.length co39 : Value).ownBlock) (fun _ => False) rfl rfl ?aO ?aR (fun _ _ h => h) (fun _ h => h.elim) ?aF ?aB ?aS ?aL ?_; (case aR => repeat (first | exact (Kd.R_reads' HO539.out).2.2 | (with_reducible refine Kd.C_alloc ?_ _) | (with_reducible refine Kd.C_drewN ?_ _) | (with_reducible refine Kd.C_drew ?_))); (case aB => exact zb); (case aF => exact (fun k_ hk => ⟨Kd.fresh' (Kd.R_lt (tR HO_3.out)) k_ hk, Kd.fresh' (Kd.R_lt (tR HO532.out)) k_ hk, Kd.fresh' (Kd.R_lt (tR HO539.out)) k_ hk⟩)); (case aO => exact (tRm HO535.out)); (case aS => exact (below_size zb)); (case aL => have := LMc19.out; omega); intro v541 w38 ho hb hg hat; rw [← Ny540.out] at ho; replace HO_3 := Aside0.mk (Kd.R_after (ok := (fun k_ => some k_ ≠ (.slice Ao35 t530.length co35 : Value).ownBlock ∧ some k_ ≠ (.slice Ao39 t537.length co39 : Value).ownBlock)) (tRm HO_3.out) hg hat); replace BK520 := Aside0.mk (blk_grown (tH BK520.out) hg (Kd.R_ne HO535.out BK520.out (by decide))); replace HO532 := Aside0.mk (Kd.R_after (ok := (fun k_ => some k_ ≠ (u3 : Value).ownBlock ∧ some k_ ≠ (.slice Ao39 t537.length co39 : Value).ownBlock)) (tRm HO532.out) hg hat); replace HO539 := Aside0.mk (Kd.R_after (ok := (fun k_ => some k_ ≠ (u3 : Value).ownBlock ∧ some k_ ≠ (.slice Ao35 t530.length co35 : Value).ownBlock)) (tRm HO539.out) hg hat); replace HB := Aside0.mk (hb); have HO542 := Aside0.mk (ho); clear HO535; clear ho hb hg hat; obtain ⟨hcz40_0, hcz40_1, hcz40_2, hcz40_3, hcz40_4, hcz40_5, hfz40_0, hfz40_1, hfz40_2, hfz40_3, hfz40_4, hfz40_5⟩ := cells6 BK520.out) | ((with_reducible refine gate_dst (N := 41) rfl ?_); refine Kd.R_lit (Kd.int .i64) _ 3 ?hg (N := 41) ?hd (xs := ([(l0_5.length : Int), 0, 0] : List Int)) (inner := [.int .i64 (l0_5.length : Int), .int .i64 0, .int .i64 0]) (ok := fun _ => True) (okp := fun _ => True) ?hr ?hp (fun _ hk => hk) trivial (Below.refl _ _) (Nat.le_refl _) (by simp) ?_; (case hd => rfl); (case hg => rfl); (case hr => first | (go_simp; done) | (go_simp; rfl)); (case hp => exact (Reps.one (show Kd.M (Kd.int .i64) _ _ _ (l0_5.length : Int) [.int .i64 (l0_5.length : Int)] from rfl) (Reps.one (show Kd.M (Kd.int .i64) _ _ _ 0 [.int .i64 0] from rfl) (Reps.one (show Kd.M (Kd.int .i64) _ _ _ 0 [.int .i64 0] from rfl) (Reps.none _ _))))); intro v544 w41 ho42 hb hg_ hnew_; clear hg_ hnew_; (first | rw [← Ny543.out] at ho42 | (simp only [Int.reduceToNat] at ho42; rw [← Ny543.out] at ho42)); have HO545 := Aside0.mk (Kd.R_lower (Kd.R_new' (Kd.R_new' (Kd.R_new' (Kd.R_new' ho42 (Kd.R_lt (tR HO_3.out))) (Kd.R_lt (tR HO532.out))) (Kd.R_lt (tR HO539.out))) (Kd.R_lt (tR HO542.out))) (below_size zb)); replace HO_3 := Aside0.mk (Kd.R_elder' (tR HO_3.out) (Kd.R_base ho42) hb); replace HO532 := Aside0.mk (Kd.R_elder' (tR HO532.out) (Kd.R_base ho42) hb); replace HO539 := Aside0.mk (Kd.R_elder' (tR HO539.out) (Kd.R_base ho42) hb); replace HO542 := Aside0.mk (Kd.R_elder' (tR HO542.out) (Kd.R_base ho42) hb); replace BK520 := tBb BK520 hb; replace HB := tBs HB hb; clear hb ho42; obtain ⟨Ao44, co44, eo44⟩ := Kd.R_slice HO545.out; subst eo44) | ((with_reducible refine gate_builtin (b := .append) (xs := #[.tmp 37, .tmp 41]) rfl ?_); at_builtin; refine Kd.R_append_rows (Kd.int .i64) (w0 := w) w.heap.size rfl (.tmp 37) (.tmp 41) 26 3 (.int .i64 0) 8 rfl Try.underlying26 info3 rfl (by decide) (by omega) v541 y540 y543 _ _ _ (fun k_ => some k_ ≠ (u3 : Value).ownBlock ∧ some k_ ≠ (.slice Ao35 t530.length co35 : Value).ownBlock ∧ some k_ ≠ (.slice Ao39 t537.length co39 : Value).ownBlock ∧ some k_ ≠ (.slice Ao44 y543.length co44 : Value).ownBlock) (fun _ => False) rfl rfl ?aO ?aR (fun _ _ h => h) (fun _ h => h.elim) ?aF ?aB ?aS ?aL ?_; (case aR => repeat (first | exact (Kd.R_reads' HO545.out).2.2 | (with_reducible refine Kd.C_alloc ?_ _) | (with_reducible refine Kd.C_drewN ?_ _) | (with_reducible refine Kd.C_drew ?_))); (case aB => exact zb); (case aF => exact (fun k_ hk => ⟨Kd.fresh' (Kd.R_lt (tR HO_3.out)) k_ hk, Kd.fresh' (Kd.R_lt (tR HO532.out)) k_ hk, Kd.fresh' (Kd.R_lt (tR HO539.out)) k_ hk, Kd.fresh' (Kd.R_lt (tR HO545.out)) k_ hk⟩)); (case aO => exact (tRm HO542.out)); (case aS => exact (below_size zb)); (case aL => have := LMc20.out; omega); intro v547 w43 ho hb hg hat; rw [← Ny546.out] at ho; replace HO_3 := Aside0.mk (Kd.R_after (ok := (fun k_ => some k_ ≠ (.slice Ao35 t530.length co35 : Value).ownBlock ∧ some k_ ≠ (.slice Ao39 t537.length co39 : Value).ownBlock ∧ some k_ ≠ (.slice Ao44 y543.length co44 : Value).ownBlock)) (tRm HO_3.out) hg hat); replace BK520 := Aside0.mk (blk_grown (tH BK520.out) hg (Kd.R_ne HO542.out BK520.out (by decide))); replace HO532 := Aside0.mk (Kd.R_after (ok := (fun k_ => some k_ ≠ (u3 : Value).ownBlock ∧ some k_ ≠ (.slice Ao39 t537.length co39 : Value).ownBlock ∧ some k_ ≠ (.slice Ao44 y543.length co44 : Value).ownBlock)) (tRm HO532.out) hg hat); replace HO539 := Aside0.mk (Kd.R_after (ok := (fun k_ => some k_ ≠ (u3 : Value).ownBlock ∧ some k_ ≠ (.slice Ao35 t530.length co35 : Value).ownBlock ∧ some k_ ≠ (.slice Ao44 y543.length co44 : Value).ownBlock)) (tRm HO539.out) hg hat); replace HO545 := Aside0.mk (Kd.R_after (ok := (fun k_ => some k_ ≠ (u3 : Value).ownBlock ∧ some k_ ≠ (.slice Ao35 t530.length co35 : Value).ownBlock ∧ some k_ ≠ (.slice Ao39 t537.length co39 : Value).ownBlock)) (tRm HO545.out) hg hat); replace HB := Aside0.mk (hb); have HO548 := Aside0.mk (ho); clear HO542; clear ho hb hg hat; obtain ⟨Ao46, co46, eo46⟩ := Kd.R_slice HO_3.out; subst eo46) | ((with_reducible refine gate_builtin (b := .append) (xs := #[.tmp 43, .tmp 44]) rfl ?_); at_builtin; refine Kd.R_append_rows (Kd.int .i64) (w0 := w) w.heap.size rfl (.tmp 43) (.tmp 44) 26 3 (.int .i64 0) 8 rfl Try.underlying26 info3 rfl (by decide) (by omega) v547 y546 x3_2 _ _ _ (fun k_ => some k_ ≠ (.slice Ao46 x3_2.length co46 : Value).ownBlock ∧ some k_ ≠ (.slice Ao35 t530.length co35 : Value).ownBlock ∧ some k_ ≠ (.slice Ao39 t537.length co39 : Value).ownBlock ∧ some k_ ≠ (.slice Ao44 y543.length co44 : Value).ownBlock) (fun _ => False) rfl rfl ?aO ?aR (fun _ _ h => h) (fun _ h => h.elim) ?aF ?aB ?aS ?aL ?_; (case aR => repeat (first | exact (Kd.R_reads' HO_3.out).2.2 | (with_reducible refine Kd.C_alloc ?_ _) | (with_reducible refine Kd.C_drewN ?_ _) | (with_reducible refine Kd.C_drew ?_))); (case aB => exact zb); (case aF => exact (fun k_ hk => ⟨Kd.fresh' (Kd.R_lt (tR HO_3.out)) k_ hk, Kd.fresh' (Kd.R_lt (tR HO532.out)) k_ hk, Kd.fresh' (Kd.R_lt (tR HO539.out)) k_ hk, Kd.fresh' (Kd.R_lt (tR HO545.out)) k_ hk⟩)); (case aO => exact (tR HO548.out)); (case aS => exact (below_size zb)); (case aL => have := LMc21.out; omega); intro v550 w45 ho hb hg hat; rw [← Ny549.out] at ho; replace HO_3 := Aside0.mk (Kd.R_after (ok := (fun k_ => some k_ ≠ (.slice Ao35 t530.length co35 : Value).ownBlock ∧ some k_ ≠ (.slice Ao39 t537.length co39 : Value).ownBlock ∧ some k_ ≠ (.slice Ao44 y543.length co44 : Value).ownBlock)) (tR HO_3.out) hg hat); replace BK520 := Aside0.mk (blk_grown (tH BK520.out) hg (Kd.R_ne HO548.out BK520.out (by decide))); replace HO532 := Aside0.mk (Kd.R_after (ok := (fun k_ => some k_ ≠ (.slice Ao46 x3_2.length co46 : Value).ownBlock ∧ some k_ ≠ (.slice Ao39 t537.length co39 : Value).ownBlock ∧ some k_ ≠ (.slice Ao44 y543.length co44 : Value).ownBlock)) (tR HO532.out) hg hat); replace HO539 := Aside0.mk (Kd.R_after (ok := (fun k_ => some k_ ≠ (.slice Ao46 x3_2.length co46 : Value).ownBlock ∧ some k_ ≠ (.slice Ao35 t530.length co35 : Value).ownBlock ∧ some k_ ≠ (.slice Ao44 y543.length co44 : Value).ownBlock)) (tR HO539.out) hg hat); replace HO545 := Aside0.mk (Kd.R_after (ok := (fun k_ => some k_ ≠ (.slice Ao46 x3_2.length co46 : Value).ownBlock ∧ some k_ ≠ (.slice Ao35 t530.length co35 : Value).ownBlock ∧ some k_ ≠ (.slice Ao39 t537.length co39 : Value).ownBlock)) (tR HO545.out) hg hat); replace HB := Aside0.mk (hb); have HO551 := Aside0.mk (ho); clear HO548; clear ho hb hg hat; obtain ⟨hcz47_0, hcz47_1, hcz47_2, hcz47_3, hcz47_4, hcz47_5, hfz47_0, hfz47_1, hfz47_2, hfz47_3, hfz47_4, hfz47_5⟩ := cells6 BK520.out; have p552 : 0 ≤ (0 : Int) := (by omega); have q552 : 0 < (l0_5.length : Int) := td; obtain ⟨ad552, A552_3, c552_3, A552_5, c552_5, e552, hx552_0, hx552_1, hx552_2, hx552_3, hx552_4, hx552_5, hl552_3, hi552_3, hl552_5, hi552_5⟩ := at_T63 HR0_5.out 0 p552 q552; obtain rfl : ad536 = ad552 := (by injection e552); have qi552 : (0 < l0_5.length) = True := eq_true (by omega); (try rw [show ((0 : Int)).toNat = 0 from rfl] at hx552_0); (try rw [show 0 * 6 = 0 from rfl] at hx552_0); (try rw [Addr.add_zero'] at hx552_0); (try rw [show ((0 : Int)).toNat = 0 from rfl] at hx552_1); (try rw [show 0 * 6 = 0 from rfl] at hx552_1); (try rw [Addr.add_zero'] at hx552_1); (try rw [show ((0 : Int)).toNat = 0 from rfl] at hx552_2); (try rw [show 0 * 6 = 0 from rfl] at hx552_2); (try rw [Addr.add_zero'] at hx552_2); (try rw [show ((0 : Int)).toNat = 0 from rfl] at hx552_3); (try rw [show 0 * 6 = 0 from rfl] at hx552_3); (try rw [Addr.add_zero'] at hx552_3); (try rw [show ((0 : Int)).toNat = 0 from rfl] at hx552_4); (try rw [show 0 * 6 = 0 from rfl] at hx552_4); (try rw [Addr.add_zero'] at hx552_4); (try rw [show ((0 : Int)).toNat = 0 from rfl] at hx552_5); (try rw [show 0 * 6 = 0 from rfl] at hx552_5); (try rw [Addr.add_zero'] at hx552_5); replace hx552_0 := tcl HB hx552_0; replace hx552_1 := tcl HB hx552_1; replace hx552_2 := tcl HB hx552_2; replace hx552_3 := tcl HB hx552_3; replace hx552_4 := tcl HB hx552_4; replace hx552_5 := tcl HB hx552_5; have HR552_3 := Aside0.mk hi552_3; have HC552_3 := Aside0.mk hl552_3; clear hi552_3 hl552_3; have HR552_5 := Aside0.mk hi552_5; have HC552_5 := Aside0.mk hl552_5; clear hi552_5 hl552_5; replace p552 := eq_true p552; replace q552 := eq_true q552) | ((with_reducible refine gate_callee (f := 56) rfl ?_); refine goesL_ (some 51) rfl rfl Try.func56 (by kernel_rfl) rfl #[.int .i64 ((rd_T63 l0_5 0).f0), .int .i64 3] rfl tq ?_; (with_reducible refine (spec_l2Int.calls kj11 ((rd_T63 l0_5 0).f0) 3 t553 _ A22.out).mono ?_); rintro e w48 ⟨v554, rfl, ho0, hb⟩; have u_v554 := tsv Try.prog v554 ho0; refine ⟨_, rfl, ?_⟩; have HO555 := Aside0.mk (Kd.R_lower (Kd.R_new' (Kd.R_new' (Kd.R_new' (Kd.R_new' (Kd.R_new' ho0 (Kd.R_lt (tR HO_3.out))) (Kd.R_lt (tR HO532.out))) (Kd.R_lt (tR HO539.out))) (Kd.R_lt (tR HO545.out))) (Kd.R_lt (tR HO551.out))) (below_size zb)); replace HO_3 := Aside0.mk (Kd.R_elder' (tR HO_3.out) (Kd.R_base ho0) hb); replace HO532 := Aside0.mk (Kd.R_elder' (tR HO532.out) (Kd.R_base ho0) hb); replace HO539 := Aside0.mk (Kd.R_elder' (tR HO539.out) (Kd.R_base ho0) hb); replace HO545 := Aside0.mk (Kd.R_elder' (tR HO545.out) (Kd.R_base ho0) hb); replace HO551 := Aside0.mk (Kd.R_elder' (tR HO551.out) (Kd.R_base ho0) hb); replace BK520 := tBb BK520 hb; replace HB := tBs HB hb; (try clear hb); (try clear hb2); (try clear hk); (try clear hi); (try clear ho0); obtain ⟨Ao49, co49, eo49⟩ := Kd.R_slice HO551.out; subst eo49) | ((with_reducible refine gate_callee (f := 56) rfl ?_); refine goesL_ (some 54) rfl rfl Try.func56 (by kernel_rfl) rfl #[.int .i64 (y549.length : Int), .int .i64 2] rfl tq ?_; (with_reducible refine (spec_l2Int.calls kj11 (y549.length : Int) 2 t556 _ A23.out).mono ?_); rintro e w50 ⟨v557, rfl, ho0, hb⟩; have u_v557 := tsv Try.prog v557 ho0; refine ⟨_, rfl, ?_⟩; have HO558 := Aside0.mk (Kd.R_lower (Kd.R_new' (Kd.R_new' (Kd.R_new' (Kd.R_new' (Kd.R_new' (Kd.R_new' ho0 (Kd.R_lt (tR HO_3.out))) (Kd.R_lt (tR HO532.out))) (Kd.R_lt (tR HO539.out))) (Kd.R_lt (tR HO545.out))) (Kd.R_lt (tR HO551.out))) (Kd.R_lt (tR HO555.out))) (below_size zb)); replace HO_3 := Aside0.mk (Kd.R_elder' (tR HO_3.out) (Kd.R_base ho0) hb); replace HO532 := Aside0.mk (Kd.R_elder' (tR HO532.out) (Kd.R_base ho0) hb); replace HO539 := Aside0.mk (Kd.R_elder' (tR HO539.out) (Kd.R_base ho0) hb); replace HO545 := Aside0.mk (Kd.R_elder' (tR HO545.out) (Kd.R_base ho0) hb); replace HO551 := Aside0.mk (Kd.R_elder' (tR HO551.out) (Kd.R_base ho0) hb); replace HO555 := Aside0.mk (Kd.R_elder' (tR HO555.out) (Kd.R_base ho0) hb); replace BK520 := tBb BK520 hb; replace HB := tBs HB hb; (try clear hb); (try clear hb2); (try clear hk); (try clear hi); (try clear ho0); obtain ⟨Ao52, co52, eo52⟩ := Kd.R_slice HO558.out; subst eo52) | ((with_reducible refine gate_builtin (b := .append) (xs := #[.tmp 51, .tmp 54]) rfl ?_); at_builtin; refine Kd.R_append_rows (Kd.int .i64) (w0 := w) w.heap.size rfl (.tmp 51) (.tmp 54) 26 3 (.int .i64 0) 8 rfl Try.underlying26 info3 rfl (by decide) (by omega) v554 t553 t556 _ _ _ (fun k_ => some k_ ≠ (.slice Ao46 x3_2.length co46 : Value).ownBlock ∧ some k_ ≠ (.slice Ao35 t530.length co35 : Value).ownBlock ∧ some k_ ≠ (.slice Ao39 t537.length co39 : Value).ownBlock ∧ some k_ ≠ (.slice Ao44 y543.length co44 : Value).ownBlock ∧ some k_ ≠ (.slice Ao49 y549.length co49 : Value).ownBlock ∧ some k_ ≠ (.slice Ao52 t556.length co52 : Value).ownBlock) (fun _ => False) rfl rfl ?aO ?aR (fun _ _ h => h) (fun _ h => h.elim) ?aF ?aB ?aS ?aL ?_; (case aR => repeat (first | exact (Kd.R_reads' HO558.out).2.2 | (with_reducible refine Kd.C_alloc ?_ _) | (with_reducible refine Kd.C_drewN ?_ _) | (with_reducible refine Kd.C_drew ?_))); (case aB => exact zb); (case aF => exact (fun k_ hk => ⟨Kd.fresh' (Kd.R_lt (tR HO_3.out)) k_ hk, Kd.fresh' (Kd.R_lt (tR HO532.out)) k_ hk, Kd.fresh' (Kd.R_lt (tR HO539.out)) k_ hk, Kd.fresh' (Kd.R_lt (tR HO545.out)) k_ hk, Kd.fresh' (Kd.R_lt (tR HO551.out)) k_ hk, Kd.fresh' (Kd.R_lt (tR HO558.out)) k_ hk⟩)); (case aO => exact (tRm HO555.out)); (case aS => exact (below_size zb)); (case aL => have := LMc24.out; omega); intro v560 w51 ho hb hg hat; rw [← Ny559.out] at ho; replace HO_3 := Aside0.mk (Kd.R_after (ok := (fun k_ => some k_ ≠ (.slice Ao35 t530.length co35 : Value).ownBlock ∧ some k_ ≠ (.slice Ao39 t537.length co39 : Value).ownBlock ∧ some k_ ≠ (.slice Ao44 y543.length co44 : Value).ownBlock ∧ some k_ ≠ (.slice Ao49 y549.length co49 : Value).ownBlock ∧ some k_ ≠ (.slice Ao52 t556.length co52 : Value).ownBlock)) (tRm HO_3.out) hg hat); replace BK520 := Aside0.mk (blk_grown (tH BK520.out) hg (Kd.R_ne HO555.out BK520.out (by decide))); replace HO532 := Aside0.mk (Kd.R_after (ok := (fun k_ => some k_ ≠ (.slice Ao46 x3_2.length co46 : Value).ownBlock ∧ some k_ ≠ (.slice Ao39 t537.length co39 : Value).ownBlock ∧ some k_ ≠ (.slice Ao44 y543.length co44 : Value).ownBlock ∧ some k_ ≠ (.slice Ao49 y549.length co49 : Value).ownBlock ∧ some k_ ≠ (.slice Ao52 t556.length co52 : Value).ownBlock)) (tRm HO532.out) hg hat); replace HO539 := Aside0.mk (Kd.R_after (ok := (fun k_ => some k_ ≠ (.slice Ao46 x3_2.length co46 : Value).ownBlock ∧ some k_ ≠ (.slice Ao35 t530.length co35 : Value).ownBlock ∧ some k_ ≠ (.slice Ao44 y543.length co44 : Value).ownBlock ∧ some k_ ≠ (.slice Ao49 y549.length co49 : Value).ownBlock ∧ some k_ ≠ (.slice Ao52 t556.length co52 : Value).ownBlock)) (tRm HO539.out) hg hat); replace HO545 := Aside0.mk (Kd.R_after (ok := (fun k_ => some k_ ≠ (.slice Ao46 x3_2.length co46 : Value).ownBlock ∧ some k_ ≠ (.slice Ao35 t530.length co35 : Value).ownBlock ∧ some k_ ≠ (.slice Ao39 t537.length co39 : Value).ownBlock ∧ some k_ ≠ (.slice Ao49 y549.length co49 : Value).ownBlock ∧ some k_ ≠ (.slice Ao52 t556.length co52 : Value).ownBlock)) (tRm HO545.out) hg hat); replace HO551 := Aside0.mk (Kd.R_after (ok := (fun k_ => some k_ ≠ (.slice Ao46 x3_2.length co46 : Value).ownBlock ∧ some k_ ≠ (.slice Ao35 t530.length co35 : Value).ownBlock ∧ some k_ ≠ (.slice Ao39 t537.length co39 : Value).ownBlock ∧ some k_ ≠ (.slice Ao44 y543.length co44 : Value).ownBlock ∧ some k_ ≠ (.slice Ao52 t556.length co52 : Value).ownBlock)) (tRm HO551.out) hg hat); replace HO558 := Aside0.mk (Kd.R_after (ok := (fun k_ => some k_ ≠ (.slice Ao46 x3_2.length co46 : Value).ownBlock ∧ some k_ ≠ (.slice Ao35 t530.length co35 : Value).ownBlock ∧ some k_ ≠ (.slice Ao39 t537.length co39 : Value).ownBlock ∧ some k_ ≠ (.slice Ao44 y543.length co44 : Value).ownBlock ∧ some k_ ≠ (.slice Ao49 y549.length co49 : Value).ownBlock)) (tRm HO558.out) hg hat); replace HB := Aside0.mk (hb); have HO561 := Aside0.mk (ho); clear HO555; clear ho hb hg hat) | ((with_reducible refine gate_callee (f := 57) rfl ?_); refine goesL_ (some 58) rfl rfl Try.func57 (by kernel_rfl) rfl #[.slice Ao49 y549.length co49] rfl tq ?_; (with_reducible refine (spec_l2Sum.calls kj11 _ _ y549 t562 _ ?side1 ?side2 A25.out).mono ?_); (case side1 => repeat (first | exact (Kd.R_reads' HO551.out).2.2 | (with_reducible refine Kd.C_alloc ?_ _) | (with_reducible refine Kd.C_drewN ?_ _) | (with_reducible refine Kd.C_drew ?_))); (case side2 => exact (Kd.R_reads' HO551.out).2.1); rintro e w' ⟨rfl, ⟨nd, rfl⟩⟩; refine ⟨_, rfl, ?_⟩) | ((with_reducible refine gate_callee (f := 56) rfl ?_); refine goesL_ (some 59) rfl rfl Try.func56 (by kernel_rfl) rfl #[.int .i64 t562, .int .i64 2] rfl tq ?_; (with_reducible refine (spec_l2Int.calls kj11 t562 2 t563 _ A26.out).mono ?_); rintro e w53 ⟨v564, rfl, ho0, hb⟩; have u_v564 := tsv Try.prog v564 ho0; refine ⟨_, rfl, ?_⟩; have HO565 := Aside0.mk (Kd.R_lower (Kd.R_new' (Kd.R_new' (Kd.R_new' (Kd.R_new' (Kd.R_new' (Kd.R_new' (Kd.R_new' ho0 (Kd.R_lt (tR HO_3.out))) (Kd.R_lt (tR HO532.out))) (Kd.R_lt (tR HO539.out))) (Kd.R_lt (tR HO545.out))) (Kd.R_lt (tR HO551.out))) (Kd.R_lt (tR HO558.out))) (Kd.R_lt (tR HO561.out))) (below_size zb)); replace HO_3 := Aside0.mk (Kd.R_elder' (tR HO_3.out) (Kd.R_base ho0) hb); replace HO532 := Aside0.mk (Kd.R_elder' (tR HO532.out) (Kd.R_base ho0) hb); replace HO539 := Aside0.mk (Kd.R_elder' (tR HO539.out) (Kd.R_base ho0) hb); replace HO545 := Aside0.mk (Kd.R_elder' (tR HO545.out) (Kd.R_base ho0) hb); replace HO551 := Aside0.mk (Kd.R_elder' (tR HO551.out) (Kd.R_base ho0) hb); replace HO558 := Aside0.mk (Kd.R_elder' (tR HO558.out) (Kd.R_base ho0) hb); replace HO561 := Aside0.mk (Kd.R_elder' (tR HO561.out) (Kd.R_base ho0) hb); replace BK520 := tBb BK520 hb; replace HB := tBs HB hb; (try clear hb); (try clear hb2); (try clear hk); (try clear hi); (try clear ho0); obtain ⟨Ao55, co55, eo55⟩ := Kd.R_slice HO565.out; subst eo55) | ((with_reducible refine gate_builtin (b := .append) (xs := #[.tmp 56, .tmp 59]) rfl ?_); at_builtin; refine Kd.R_append_rows (Kd.int .i64) (w0 := w) w.heap.size rfl (.tmp 56) (.tmp 59) 26 3 (.int .i64 0) 8 rfl Try.underlying26 info3 rfl (by decide) (by omega) v560 y559 t563 _ _ _ (fun k_ => some k_ ≠ (.slice Ao46 x3_2.length co46 : Value).ownBlock ∧ some k_ ≠ (.slice Ao35 t530.length co35 : Value).ownBlock ∧ some k_ ≠ (.slice Ao39 t537.length co39 : Value).ownBlock ∧ some k_ ≠ (.slice Ao44 y543.length co44 : Value).ownBlock ∧ some k_ ≠ (.slice Ao49 y549.length co49 : Value).ownBlock ∧ some k_ ≠ (.slice Ao52 t556.length co52 : Value).ownBlock ∧ some k_ ≠ (.slice Ao55 t563.length co55 : Value).ownBlock) (fun _ => False) rfl rfl ?aO ?aR (fun _ _ h => h) (fun _ h => h.elim) ?aF ?aB ?aS ?aL ?_; (case aR => repeat (first | exact (Kd.R_reads' HO565.out).2.2 | (with_reducible refine Kd.C_alloc ?_ _) | (with_reducible refine Kd.C_drewN ?_ _) | (with_reducible refine Kd.C_drew ?_))); (case aB => exact zb); (case aF => exact (fun k_ hk => ⟨Kd.fresh' (Kd.R_lt (tR HO_3.out)) k_ hk, Kd.fresh' (Kd.R_lt (tR HO532.out)) k_ hk, Kd.fresh' (Kd.R_lt (tR HO539.out)) k_ hk, Kd.fresh' (Kd.R_lt (tR HO545.out)) k_ hk, Kd.fresh' (Kd.R_lt (tR HO551.out)) k_ hk, Kd.fresh' (Kd.R_lt (tR HO558.out)) k_ hk, Kd.fresh' (Kd.R_lt (tR HO565.out)) k_ hk⟩)); (case aO => exact (tRm HO561.out)); (case aS => exact (below_size zb)); (case aL => have := LMc27.out; omega); intro v567 w54 ho hb hg hat; rw [← Ny566.out] at ho; replace HO_3 := Aside0.mk (Kd.R_after (ok := (fun k_ => some k_ ≠ (.slice Ao35 t530.length co35 : Value).ownBlock ∧ some k_ ≠ (.slice Ao39 t537.length co39 : Value).ownBlock ∧ some k_ ≠ (.slice Ao44 y543.length co44 : Value).ownBlock ∧ some k_ ≠ (.slice Ao49 y549.length co49 : Value).ownBlock ∧ some k_ ≠ (.slice Ao52 t556.length co52 : Value).ownBlock ∧ some k_ ≠ (.slice Ao55 t563.length co55 : Value).ownBlock)) (tRm HO_3.out) hg hat); replace BK520 := Aside0.mk (blk_grown (tH BK520.out) hg (Kd.R_ne HO561.out BK520.out (by decide))); replace HO532 := Aside0.mk (Kd.R_after (ok := (fun k_ => some k_ ≠ (.slice Ao46 x3_2.length co46 : Value).ownBlock ∧ some k_ ≠ (.slice Ao39 t537.length co39 : Value).ownBlock ∧ some k_ ≠ (.slice Ao44 y543.length co44 : Value).ownBlock ∧ some k_ ≠ (.slice Ao49 y549.length co49 : Value).ownBlock ∧ some k_ ≠ (.slice Ao52 t556.length co52 : Value).ownBlock ∧ some k_ ≠ (.slice Ao55 t563.length co55 : Value).ownBlock)) (tRm HO532.out) hg hat); replace HO539 := Aside0.mk (Kd.R_after (ok := (fun k_ => some k_ ≠ (.slice Ao46 x3_2.length co46 : Value).ownBlock ∧ some k_ ≠ (.slice Ao35 t530.length co35 : Value).ownBlock ∧ some k_ ≠ (.slice Ao44 y543.length co44 : Value).ownBlock ∧ some k_ ≠ (.slice Ao49 y549.length co49 : Value).ownBlock ∧ some k_ ≠ (.slice Ao52 t556.length co52 : Value).ownBlock ∧ some k_ ≠ (.slice Ao55 t563.length co55 : Value).ownBlock)) (tRm HO539.out) hg hat); replace HO545 := Aside0.mk (Kd.R_after (ok := (fun k_ => some k_ ≠ (.slice Ao46 x3_2.length co46 : Value).ownBlock ∧ some k_ ≠ (.slice Ao35 t530.length co35 : Value).ownBlock ∧ some k_ ≠ (.slice Ao39 t537.length co39 : Value).ownBlock ∧ some k_ ≠ (.slice Ao49 y549.length co49 : Value).ownBlock ∧ some k_ ≠ (.slice Ao52 t556.length co52 : Value).ownBlock ∧ some k_ ≠ (.slice Ao55 t563.length co55 : Value).ownBlock)) (tRm HO545.out) hg hat); replace HO551 := Aside0.mk (Kd.R_after (ok := (fun k_ => some k_ ≠ (.slice Ao46 x3_2.length co46 : Value).ownBlock ∧ some k_ ≠ (.slice Ao35 t530.length co35 : Value).ownBlock ∧ some k_ ≠ (.slice Ao39 t537.length co39 : Value).ownBlock ∧ some k_ ≠ (.slice Ao44 y543.length co44 : Value).ownBlock ∧ some k_ ≠ (.slice Ao52 t556.length co52 : Value).ownBlock ∧ some k_ ≠ (.slice Ao55 t563.length co55 : Value).ownBlock)) (tRm HO551.out) hg hat); replace HO558 := Aside0.mk (Kd.R_after (ok := (fun k_ => some k_ ≠ (.slice Ao46 x3_2.length co46 : Value).ownBlock ∧ some k_ ≠ (.slice Ao35 t530.length co35 : Value).ownBlock ∧ some k_ ≠ (.slice Ao39 t537.length co39 : Value).ownBlock ∧ some k_ ≠ (.slice Ao44 y543.length co44 : Value).ownBlock ∧ some k_ ≠ (.slice Ao49 y549.length co49 : Value).ownBlock ∧ some k_ ≠ (.slice Ao55 t563.length co55 : Value).ownBlock)) (tRm HO558.out) hg hat); replace HO565 := Aside0.mk (Kd.R_after (ok := (fun k_ => some k_ ≠ (.slice Ao46 x3_2.length co46 : Value).ownBlock ∧ some k_ ≠ (.slice Ao35 t530.length co35 : Value).ownBlock ∧ some k_ ≠ (.slice Ao39 t537.length co39 : Value).ownBlock ∧ some k_ ≠ (.slice Ao44 y543.length co44 : Value).ownBlock ∧ some k_ ≠ (.slice Ao49 y549.length co49 : Value).ownBlock ∧ some k_ ≠ (.slice Ao52 t556.length co52 : Value).ownBlock)) (tRm HO565.out) hg hat); replace HB := Aside0.mk (hb); have HO568 := Aside0.mk (ho); clear HO561; clear ho hb hg hat) | ((with_reducible refine gate_builtin (b := .append) (xs := #[.tmp 61, .tmp 62]) rfl ?_); at_builtin; refine Kd.R_append_rows (Kd.int .i64) (w0 := w) w.heap.size rfl (.tmp 61) (.tmp 62) 26 3 (.int .i64 0) 8 rfl Try.underlying26 info3 rfl (by decide) (by omega) v567 y566 y549 _ _ _ (fun k_ => some k_ ≠ (.slice Ao46 x3_2.length co46 : Value).ownBlock ∧ some k_ ≠ (.slice Ao35 t530.length co35 : Value).ownBlock ∧ some k_ ≠ (.slice Ao39 t537.length co39 : Value).ownBlock ∧ some k_ ≠ (.slice Ao44 y543.length co44 : Value).ownBlock ∧ some k_ ≠ (.slice Ao49 y549.length co49 : Value).ownBlock ∧ some k_ ≠ (.slice Ao52 t556.length co52 : Value).ownBlock ∧ some k_ ≠ (.slice Ao55 t563.length co55 : Value).ownBlock) (fun _ => False) rfl rfl ?aO ?aR (fun _ _ h => h) (fun _ h => h.elim) ?aF ?aB ?aS ?aL ?_; (case aR => repeat (first | exact (Kd.R_reads' HO551.out).2.2 | (with_reducible refine Kd.C_alloc ?_ _) | (with_reducible refine Kd.C_drewN ?_ _) | (with_reducible refine Kd.C_drew ?_))); (case aB => exact zb); (case aF => exact (fun k_ hk => ⟨Kd.fresh' (Kd.R_lt (tR HO_3.out)) k_ hk, Kd.fresh' (Kd.R_lt (tR HO532.out)) k_ hk, Kd.fresh' (Kd.R_lt (tR HO539.out)) k_ hk, Kd.fresh' (Kd.R_lt (tR HO545.out)) k_ hk, Kd.fresh' (Kd.R_lt (tR HO551.out)) k_ hk, Kd.fresh' (Kd.R_lt (tR HO558.out)) k_ hk, Kd.fresh' (Kd.R_lt (tR HO565.out)) k_ hk⟩)); (case aO => exact (tR HO568.out)); (case aS => exact (below_size zb)); (case aL => have := LMc28.out; omega); intro v570 w56 ho hb hg hat; rw [← Ny569.out] at ho; replace HO_3 := Aside0.mk (Kd.R_after (ok := (fun k_ => some k_ ≠ (.slice Ao35 t530.length co35 : Value).ownBlock ∧ some k_ ≠ (.slice Ao39 t537.length co39 : Value).ownBlock ∧ some k_ ≠ (.slice Ao44 y543.length co44 : Value).ownBlock ∧ some k_ ≠ (.slice Ao49 y549.length co49 : Value).ownBlock ∧ some k_ ≠ (.slice Ao52 t556.length co52 : Value).ownBlock ∧ some k_ ≠ (.slice Ao55 t563.length co55 : Value).ownBlock)) (tR HO_3.out) hg hat); replace BK520 := Aside0.mk (blk_grown (tH BK520.out) hg (Kd.R_ne HO568.out BK520.out (by decide))); replace HO532 := Aside0.mk (Kd.R_after (ok := (fun k_ => some k_ ≠ (.slice Ao46 x3_2.length co46 : Value).ownBlock ∧ some k_ ≠ (.slice Ao39 t537.length co39 : Value).ownBlock ∧ some k_ ≠ (.slice Ao44 y543.length co44 : Value).ownBlock ∧ some k_ ≠ (.slice Ao49 y549.length co49 : Value).ownBlock ∧ some k_ ≠ (.slice Ao52 t556.length co52 : Value).ownBlock ∧ some k_ ≠ (.slice Ao55 t563.length co55 : Value).ownBlock)) (tR HO532.out) hg hat); replace HO539 := Aside0.mk (Kd.R_after (ok := (fun k_ => some k_ ≠ (.slice Ao46 x3_2.length co46 : Value).ownBlock ∧ some k_ ≠ (.slice Ao35 t530.length co35 : Value).ownBlock ∧ some k_ ≠ (.slice Ao44 y543.length co44 : Value).ownBlock ∧ some k_ ≠ (.slice Ao49 y549.length co49 : Value).ownBlock ∧ some k_ ≠ (.slice Ao52 t556.length co52 : Value).ownBlock ∧ some k_ ≠ (.slice Ao55 t563.length co55 : Value).ownBlock)) (tR HO539.out) hg hat); replace HO545 := Aside0.mk (Kd.R_after (ok := (fun k_ => some k_ ≠ (.slice Ao46 x3_2.length co46 : Value).ownBlock ∧ some k_ ≠ (.slice Ao35 t530.length co35 : Value).ownBlock ∧ some k_ ≠ (.slice Ao39 t537.length co39 : Value).ownBlock ∧ some k_ ≠ (.slice Ao49 y549.length co49 : Value).ownBlock ∧ some k_ ≠ (.slice Ao52 t556.length co52 : Value).ownBlock ∧ some k_ ≠ (.slice Ao55 t563.length co55 : Value).ownBlock)) (tR HO545.out) hg hat); replace HO551 := Aside0.mk (Kd.R_after (ok := (fun k_ => some k_ ≠ (.slice Ao46 x3_2.length co46 : Value).ownBlock ∧ some k_ ≠ (.slice Ao35 t530.length co35 : Value).ownBlock ∧ some k_ ≠ (.slice Ao39 t537.length co39 : Value).ownBlock ∧ some k_ ≠ (.slice Ao44 y543.length co44 : Value).ownBlock ∧ some k_ ≠ (.slice Ao52 t556.length co52 : Value).ownBlock ∧ some k_ ≠ (.slice Ao55 t563.length co55 : Value).ownBlock)) (tR HO551.out) hg hat); replace HO558 := Aside0.mk (Kd.R_after (ok := (fun k_ => some k_ ≠ (.slice Ao46 x3_2.length co46 : Value).ownBlock ∧ some k_ ≠ (.slice Ao35 t530.length co35 : Value).ownBlock ∧ some k_ ≠ (.slice Ao39 t537.length co39 : Value).ownBlock ∧ some k_ ≠ (.slice Ao44 y543.length co44 : Value).ownBlock ∧ some k_ ≠ (.slice Ao49 y549.length co49 : Value).ownBlock ∧ some k_ ≠ (.slice Ao55 t563.length co55 : Value).ownBlock)) (tR HO558.out) hg hat); replace HO565 := Aside0.mk (Kd.R_after (ok := (fun k_ => some k_ ≠ (.slice Ao46 x3_2.length co46 : Value).ownBlock ∧ some k_ ≠ (.slice Ao35 t530.length co35 : Value).ownBlock ∧ some k_ ≠ (.slice Ao39 t537.length co39 : Value).ownBlock ∧ some k_ ≠ (.slice Ao44 y543.length co44 : Value).ownBlock ∧ some k_ ≠ (.slice Ao49 y549.length co49 : Value).ownBlock ∧ some k_ ≠ (.slice Ao52 t556.length co52 : Value).ownBlock)) (tR HO565.out) hg hat); replace HB := Aside0.mk (hb); have HO571 := Aside0.mk (ho); clear HO568; clear ho hb hg hat))
             go_ret
             exact ⟨_, by first | rfl | (simp [errW_none, errW_some] <;> rfl) | (simp [*, errW_none, errW_some] <;> rfl), tRm HO571.out, zb⟩
            ·rw [if_neg c28] at H
             exact absurd H (by simp)
           ·rw [if_neg c27] at H
            exact absurd H (by simp)
          ·rw [if_neg c24] at H
           exact absurd H (by simp)
         ·rw [if_neg c21] at H
          exact absurd H (by simp)
        ·rw [if_neg c20] at H
         exact absurd H (by simp)
       ·rw [if_neg c19] at H
        exact absurd H (by simp)
      ·rw [if_neg c17] at H
       exact absurd H (by simp)
     ·rw [if_neg c16] at H
      exact absurd H (by simp)

def spec_l33Size.l0 : Nat → List (S46) → Int → Int → Option (Int)
 | 0, _, _, _ => none
 | k + 1, x0, x3, x4 => if x4 < (x0.length : Int) then (if 0 ≤ x4 then ((spec_l5Bytes.f k ((rd_T46 x0 x4).f0) ((rd_T46 x0 x4).f1) ((rd_T46 x0 x4).f2) ((rd_T46 x0 x4).f3) ((rd_T46 x0 x4).f4) ((rd_T46 x0 x4).f5)).bind fun t573 => (spec_l33Size.l0 k x0 (wrap64 (x3 + (t573.length : Int))) (wrap64 (x4 + 1)))) else (none)) else (some x3)
def spec_l33Size.f (k : Nat) (l0 : List (S46)) : Option (Int) := spec_l33Size.l0 k l0 0 0
set_option maxHeartbeats 8000000 in
set_option maxRecDepth 100000 in
theorem spec_l33Size.calls (k : Nat) (A0 : Option Addr) (c0 : Nat) (l0 : List (S46)) (r : Int) (w : World) (hr0 : Kd.C k46 w A0 l0.length l0) (hc0 : l0.length ≤ c0) (h : spec_l33Size.f k l0 = some r) :
  Calls Try.prog 24 #[.slice A0 l0.length c0] w fun e w' => e = .returned (.int .i64 r) ∧ Below w.heap.size w w' := by
 have hu46 := Try.underlying46
 have HR0 := Aside0.mk hr0
 have HC0 := Aside0.mk hc0
 clear hr0 hc0
 have HB := Aside0.mk (Below.refl w.heap.size w)
 have H : (spec_l33Size.l0 k l0 0 0) = some r := h
 clear h
 have H' := Aside0.mk H
 clear H
 go_enter Try.func24, Try.ntmps24
 go_wp2
 go_loopg [3, 4] k (fun kq v3 v4 w' => ∃ (x3_1 : Int) (x4_1 : Int), v3 = .int .i64 x3_1 ∧ v4 = .int .i64 x4_1 ∧ Aside0 (spec_l33Size.l0 kq l0 x3_1 x4_1 = some r) ∧ Aside0 (kq ≤ k) ∧ Aside0 (Below w.heap.size w w'))
 case atStart => exact ⟨(0), (0), tr, tr, H', ⟨Nat.le_refl _⟩, ⟨zb⟩⟩
 case round =>
  clear H'
  obtain ⟨x3_1, x4_1, rfl, rfl, HA, HK1, HB⟩ := hrel
  cases gk with
  | zero => exact absurd HA.out (by simp [spec_l33Size.l0])
  | succ k1 =>
   have H := HA.out
   clear HA
   simp only [spec_l33Size.l0] at H
   by_cases c2 : x4_1 < (l0.length : Int)
   ·rw [if_pos c2] at H
    have c2b0 : decide (x4_1 < (l0.length : Int)) = true := decide_eq_true c2
    clear c2
    by_cases c3 : 0 ≤ x4_1
    ·rw [if_pos c3] at H
     have c3b0 : decide (0 ≤ x4_1) = true := decide_eq_true c3
     clear c3
     replace H := tbe H
     obtain ⟨t573, A4, H⟩ := H
     have H' := Aside0.mk H
     clear H
     have p572 : 0 ≤ (x4_1 : Int) := td
     have q572 : x4_1 < (l0.length : Int) := td
     obtain ⟨ad572, A572_5, c572_5, e572, hx572_0, hx572_1, hx572_2, hx572_3, hx572_4, hx572_5, hl572_5, hi572_5⟩ := at_T46 HR0.out x4_1 p572 q572
     cases e572
     replace hx572_0 := tcl HB hx572_0
     replace hx572_1 := tcl HB hx572_1
     replace hx572_2 := tcl HB hx572_2
     replace hx572_3 := tcl HB hx572_3
     replace hx572_4 := tcl HB hx572_4
     replace hx572_5 := tcl HB hx572_5
     have HR572_5 := Aside0.mk hi572_5
     have HC572_5 := Aside0.mk hl572_5
     clear hi572_5 hl572_5
     replace p572 := eq_true p572
     replace q572 := eq_true q572
     go_wp2_with (first | ((with_reducible refine gate_callee (f := 41) rfl ?_); refine goesL_ (some 16) rfl rfl Try.func41 (by kernel_rfl) rfl #[.agg #[.bool ((rd_T46 l0 x4_1).f0), .bool ((rd_T46 l0 x4_1).f1), .int .i64 ((rd_T46 l0 x4_1).f2), .int .i64 ((rd_T46 l0 x4_1).f3), .int .i64 ((rd_T46 l0 x4_1).f4), .slice A572_5 ((rd_T46 l0 x4_1).f5).length c572_5]] rfl tq ?_; (with_reducible refine (spec_l5Bytes.calls k1 ((rd_T46 l0 x4_1).f0) ((rd_T46 l0 x4_1).f1) ((rd_T46 l0 x4_1).f2) ((rd_T46 l0 x4_1).f3) ((rd_T46 l0 x4_1).f4) _ _ ((rd_T46 l0 x4_1).f5) t573 _ ?side1 ?side2 A4.out).mono ?_); (case side1 => exact tC (Kd.C_below HR572_5.out HB.out)); (case side2 => exact HC572_5.out); rintro e w5 ⟨v574, rfl, ho0, hb⟩; have u_v574 := tsv Try.prog v574 ho0; refine ⟨_, rfl, ?_⟩; have HO575 := tRl ho0 HB; replace HB := tBs HB hb; (try clear hb); (try clear hb2); (try clear hk); (try clear hi); (try clear ho0); obtain ⟨Ao6, co6, eo6⟩ := Kd.R_slice HO575.out; subst eo6))
     go_roundg k1
     case measure => have := HK1.out; omega
     case rel => exact ⟨(wrap64 (x3_1 + (t573.length : Int))), (wrap64 (x4_1 + 1)), tr, tr, H', ⟨by have := HK1.out; omega⟩, ⟨zb⟩⟩
    ·rw [if_neg c3] at H
     exact absurd H (by simp)
   ·rw [if_neg c2] at H
    have c2b0 : decide (x4_1 < (l0.length : Int)) = false := decide_eq_false c2
    clear c2
    obtain rfl := Option.some.inj H
    go_wp2
    go_ret
    exact ⟨by first | rfl | (simp [errW_none, errW_some] <;> rfl) | (simp [*, errW_none, errW_some] <;> rfl), zb⟩

end Go.Proofs.Ythoioccmnphfgaa.G

namespace Go.Proofs.Ythoioccmnphfgaa.G
open Go.RowKit Go.Proofs.YthoioccmnphfgaaW.PrintWords Go.Proofs.YthoioccmnphfgaaW.PrintLast Go.Proofs.YthoioccmnphfgaaW.PrintMore
attribute [local go_sem] max2_int min2_int max_two min_two max_three min_three max_four min_four   -- for this text's walks alone
set_option linter.unusedVariables false
set_option linter.unusedSimpArgs false

def spec_DrawKeepSize.f (k : Nat) (l0 : List Int) : Option ((List (S46)) × Int) := (spec_l6Open.f l0).bind fun bt611 => ((spec_l92Log.f k bt611.1 bt611.2).bind fun bt614 => ((spec_l6Rd_pick.f k bt611.1 bt614.2 250).bind fun bt618 => ((spec_l6Rd_pick.f k bt611.1 bt618.2 30).bind fun bt620 => (some (bt614.1, wrap64 (bt618.1 - (wrap64 ((wrap64 (Int.tdiv bt620.1 29)) * 251))))))))
set_option maxHeartbeats 8000000 in
set_option maxRecDepth 100000 in
theorem spec_DrawKeepSize.calls (k : Nat) (A0 : Option Addr) (c0 : Nat) (l0 : List Int) (r1 : List (S46)) (r2 : Int) (w : World) (hr0 : Kd.C (Kd.int .u8) w A0 l0.length l0) (hc0 : l0.length ≤ c0) (h : spec_DrawKeepSize.f k l0 = some (r1, r2)) :
  Calls Try.prog 13 #[.slice A0 l0.length c0] w fun e w' => ∃ v0_ : Value, e = .returned (.tuple #[v0_, .int .i64 r2]) ∧ Kd.N k46 46 w' w.heap.size (fun k_ => (w.heap.size ≤ k_)) v0_ r1 ∧ Below w.heap.size w w' := by
 have HR0 := Aside0.mk hr0
 have HC0 := Aside0.mk hc0
 clear hr0 hc0
 have HB := Aside0.mk (Below.refl w.heap.size w)
 have H : ((spec_l6Open.f l0).bind fun bt611 => ((spec_l92Log.f k bt611.1 bt611.2).bind fun bt614 => ((spec_l6Rd_pick.f k bt611.1 bt614.2 250).bind fun bt618 => ((spec_l6Rd_pick.f k bt611.1 bt618.2 30).bind fun bt620 => (some (bt614.1, wrap64 (bt618.1 - (wrap64 ((wrap64 (Int.tdiv bt620.1 29)) * 251))))))))) = some (r1, r2) := h
 clear h
 replace H := tbe H
 obtain ⟨⟨t611, t612⟩, A2, H⟩ := H
 dsimp only at H
 replace H := tbe H
 obtain ⟨⟨t614, t617⟩, A3, H⟩ := H
 dsimp only at H
 replace H := tbe H
 obtain ⟨⟨t618, t619⟩, A4, H⟩ := H
 dsimp only at H
 replace H := tbe H
 obtain ⟨⟨t620, t621⟩, A5, H⟩ := H
 dsimp only at H
 simp only [Option.some.injEq, Prod.mk.injEq] at H
 obtain ⟨rfl, rfl⟩ := H
 go_enter Try.func13, Try.ntmps13
 go_wp2_with (first | ((with_reducible refine gate_callee (f := 20) rfl ?_); refine goesL_ (some 7) rfl rfl Try.func20 (by kernel_rfl) rfl #[.slice A0 l0.length c0] rfl tq ?_; (with_reducible refine (spec_l6Open.calls _ _ l0 t611 t612 w _ ?side1 ?side2 ?side3 A2.out).mono ?_); (case side1 => exact zb); (case side2 => exact HR0.out); (case side3 => exact HC0.out); rintro e w6 ⟨g613, rfl, hi, hb, hb2⟩; refine ⟨_, rfl, ?_⟩; replace HB := Aside0.mk (hb); have HI613 := Aside0.mk (hi); (try clear hb); (try clear hb2); (try clear hk); (try clear hi)) | ((with_reducible refine gate_callee (f := 19) rfl ?_); refine goesL_ (some 9) rfl rfl Try.func19 (by kernel_rfl) rfl #[.pointer (some ⟨g613, 0, none⟩)] rfl tq ?_; (with_reducible refine (spec_l92Log.calls k g613 t611 t612 t614 t617 w _ ?side1 ?side2 A3.out).mono ?_); (case side1 => repeat (first | (with_reducible first | exact HI613.out | apply IsS65.alloc | apply IsS65.drewN | apply IsS65.drew | apply IsS65.set_1) | exact HI613.out)); (case side2 => repeat (first | (with_reducible first | exact HB.out | apply below_alloc | apply pw_below_drewN | apply below_drew1 | refine below_set ?_ (IsS65.ge HI613.out)) | exact HB.out)); rintro e w7 ⟨v615, rfl, ho0, hi, hb, hk⟩; have u_v615 := tsv Try.prog v615 ho0; refine ⟨_, rfl, ?_⟩; have HO616 := Aside0.mk (Kd.N_lower (Kd.N_mono (ok' := fun k_ => (w.heap.size ≤ k_) ∧ k_ ≠ g613) ho0 (fun k_ hk_ => ⟨(Nat.le_trans (below_size (by repeat (first | (with_reducible first | exact HB.out | apply below_alloc | apply pw_below_drewN | apply below_drew1 | refine below_set ?_ (IsS65.ge HI613.out)) | exact HB.out))) hk_), (IsS65.fresh (by repeat (first | (with_reducible first | exact HI613.out | apply IsS65.alloc | apply IsS65.drewN | apply IsS65.drew | apply IsS65.set_1) | exact HI613.out)) k_ hk_)⟩)) (below_size (by repeat (first | (with_reducible first | exact HB.out | apply below_alloc | apply pw_below_drewN | apply below_drew1 | refine below_set ?_ (IsS65.ge HI613.out)) | exact HB.out)))); replace HB := Aside0.mk (hb); replace HI613 := Aside0.mk (hi); (try clear hb); (try clear hb2); (try clear hk); (try clear hi); (try clear ho0)) | ((with_reducible refine gate_callee (f := 26) rfl ?_); refine goesL_ (some 12) rfl rfl Try.func26 (by kernel_rfl) rfl #[.pointer (some ⟨g613, 0, none⟩), .int .i64 250] rfl tq ?_; (with_reducible refine (spec_l6Rd_pick.calls k g613 t611 t617 250 t618 t619 w _ ?side1 ?side2 A4.out).mono ?_); (case side1 => repeat (first | (with_reducible first | exact HI613.out | apply IsS65.alloc | apply IsS65.drewN | apply IsS65.drew | apply IsS65.set_1) | exact HI613.out)); (case side2 => repeat (first | (with_reducible first | exact HB.out | apply below_alloc | apply pw_below_drewN | apply below_drew1 | refine below_set ?_ (IsS65.ge HI613.out)) | exact HB.out)); rintro e w8 ⟨rfl, hi, hb, hk⟩; refine ⟨_, rfl, ?_⟩; replace HO616 := tNk HO616 hk; replace HB := Aside0.mk (hb); replace HI613 := Aside0.mk (hi); (try clear hb); (try clear hb2); (try clear hk); (try clear hi)) | ((with_reducible refine gate_callee (f := 26) rfl ?_); refine goesL_ (some 14) rfl rfl Try.func26 (by kernel_rfl) rfl #[.pointer (some ⟨g613, 0, none⟩), .int .i64 30] rfl tq ?_; (with_reducible refine (spec_l6Rd_pick.calls k g613 t611 t619 30 t620 t621 w _ ?side1 ?side2 A5.out).mono ?_); (case side1 => repeat (first | (with_reducible first | exact HI613.out | apply IsS65.alloc | apply IsS65.drewN | apply IsS65.drew | apply IsS65.set_1) | exact HI613.out)); (case side2 => repeat (first | (with_reducible first | exact HB.out | apply below_alloc | apply pw_below_drewN | apply below_drew1 | refine below_set ?_ (IsS65.ge HI613.out)) | exact HB.out)); rintro e w9 ⟨rfl, hi, hb, hk⟩; refine ⟨_, rfl, ?_⟩; replace HO616 := tNk HO616 hk; replace HB := Aside0.mk (hb); replace HI613 := Aside0.mk (hi); (try clear hb); (try clear hb2); (try clear hk); (try clear hi)))
 go_ret2
 exact ⟨_, by first | rfl | (simp [errW_none, errW_some] <;> rfl) | (simp [*, errW_none, errW_some] <;> rfl), tNm HO616.out, by repeat (first | (with_reducible first | exact HB.out | apply below_alloc | apply pw_below_drewN | apply below_drew1 | refine below_set ?_ (IsS65.ge HI613.out)) | exact HB.out)⟩

def impl_room_fits.f (k : Nat) (a0 : Int) (l1 : List (S46)) (a2 : Int) : Option (Bool) := if 0 ≤ a2 then (if a2 ≤ (l1.length : Int) then ((impl_sizeOf.f k (l1.drop (a2 : Int).toNat)).bind fun t626 => (some (decide (t626 ≤ a0)))) else (none)) else (none)
set_option maxHeartbeats 8000000 in
set_option maxRecDepth 100000 in
theorem impl_room_fits.calls (k : Nat) (a0 : Int) (A1 : Option Addr) (c1 : Nat) (l1 : List (S46)) (a2 : Int) (r : Bool) (w : World) (hr1 : Kd.C k46 w A1 l1.length l1) (hc1 : l1.length ≤ c1) (h : impl_room_fits.f k a0 l1 a2 = some r) :
  Calls Try.prog 29 #[.int .i64 a0, .slice A1 l1.length c1, .int .i64 a2] w fun e w' => e = .returned (.bool r) ∧ Below w.heap.size w w' := by
 have HR1 := Aside0.mk hr1
 have HC1 := Aside0.mk hc1
 clear hr1 hc1
 have HB := Aside0.mk (Below.refl w.heap.size w)
 have H : (if 0 ≤ a2 then (if a2 ≤ (l1.length : Int) then ((impl_sizeOf.f k (l1.drop (a2 : Int).toNat)).bind fun t626 => (some (decide (t626 ≤ a0)))) else (none)) else (none)) = some r := h
 clear h
 by_cases c4 : 0 ≤ a2
 ·rw [if_pos c4] at H
  have c4b0 := eq_true c4
  have c4b1 : decide (0 ≤ a2) = true := decide_eq_true c4
  clear c4
  by_cases c5 : a2 ≤ (l1.length : Int)
  ·rw [if_pos c5] at H
   have c5b0 := eq_true c5
   have c5b1 : decide (a2 ≤ (l1.length : Int)) = true := decide_eq_true c5
   clear c5
   obtain ⟨y622, hy622⟩ : ∃ y_ : List (S46), y_ = (l1.drop (a2 : Int).toNat) := ⟨_, rfl⟩
   replace H : ((impl_sizeOf.f k y622).bind fun t626 => (some (decide (t626 ≤ a0)))) = some r := by first | (rw [hy622]; with_reducible exact H) | (have H2_ := (Option.bind_some _ _).symm.trans H; rw [hy622]; with_reducible exact H2_) | (have H2_ := (Option.bind_some _ _).symm.trans H; with_reducible exact H2_) | with_reducible exact H | (rw [hy622]; exact H) | exact H
   have Ny622 := Aside0.mk hy622
   clear hy622
   replace H := tbe H
   obtain ⟨t626, A6, H⟩ := H
   obtain rfl := Option.some.inj H
   have q7 : (a2 : Int) ≤ ((l1.length : Int) : Int) := td
   obtain ⟨i07, hi07, _, hsz7, _⟩ := info_parts info46
   have hroom7 : l1.length ≤ c1 := HC1.out
   have hC7 : Kd.C k46 _ A1 l1.length l1 := HR1.out
   have q07 : (0 : Int) ≤ (a2 : Int) := td
   have hcut7 := cut_from (P := Try.prog) 23 46 .i64 Try.underlying23 hi07 6 hsz7 A1 l1.length c1 a2 q07 q7
   have hr7 := Kd.C_drop (m := (a2 : Int).toNat) (c := c1) hC7 (by omega) hroom7
   obtain ⟨A7, hA7⟩ : ∃ A_, A_ = (if c1 = (a2 : Int).toNat then A1 else (A1 : Option Addr).map (·.add ((a2 : Int).toNat * 6))) := ⟨_, rfl⟩
   obtain ⟨c7, hc7⟩ : ∃ c_, c_ = c1 - (a2 : Int).toNat := ⟨_, rfl⟩
   have hy7 : y622.length = l1.length - (a2 : Int).toNat := (by rw [Ny622.out, List.length_drop] <;> omega)
   rw [show (l1).drop (a2 : Int).toNat = y622 from Ny622.out.symm] at hr7
   replace hr7 : Kd.C k46 _ A7 y622.length y622 := (by rw [hA7]; exact hr7)
   rw [← hy7, ← hA7, ← hc7] at hcut7
   have HR625 := Aside0.mk hr7
   have HC625 := Aside0.mk (show y622.length ≤ c7 from by rw [hy7, hc7]; exact Nat.sub_le_sub_right hroom7 _)
   clear hr7 hC7 hroom7 hi07 hsz7 hc7
   have KY7 := Aside0.mk hy7
   have KA7 := Aside0.mk hA7
   clear hy7 hA7
   replace q7 := eq_true q7
   go_enter Try.func29, Try.ntmps29
   go_wp2_with (first | ((with_reducible refine gate_callee (f := 22) rfl ?_); refine goesL_ (some 10) rfl rfl Try.func22 (by kernel_rfl) rfl #[.slice A7 y622.length c7] rfl tq ?_; (with_reducible refine (impl_sizeOf.calls k _ _ y622 t626 _ ?side1 ?side2 A6.out).mono ?_); (case side1 => exact tC HR625.out); (case side2 => exact HC625.out); rintro e w8 ⟨rfl, hb⟩; refine ⟨_, rfl, ?_⟩; replace HB := tBs HB hb; (try clear hb); (try clear hb2); (try clear hk); (try clear hi)))
   go_ret
   exact ⟨by first | rfl | (simp [errW_none, errW_some] <;> rfl) | (simp [*, errW_none, errW_some] <;> rfl), zb⟩
  ·rw [if_neg c5] at H
   exact absurd H (by simp)
 ·rw [if_neg c4] at H
  exact absurd H (by simp)

def impl_keptFrom.l0 : Nat → List (S46) → Int → Int → Int → Option (Int)
 | 0, _, _, _, _ => none
 | k + 1, x0, x1, x7, x8 => if x8 < x7 then ((impl_room_fits.f k x1 x0 x8).bind fun t627 => (if t627 = true then (some x8) else (impl_keptFrom.l0 k x0 x1 x7 (wrap64 (x8 + 1))))) else (some (mx (wrap64 ((x0.length : Int) - 1)) 0))
def impl_keptFrom.f (k : Nat) (l0 : List (S46)) (a1 : Int) : Option (Int) := impl_keptFrom.l0 k l0 a1 (l0.length : Int) 0
set_option maxHeartbeats 8000000 in
set_option maxRecDepth 100000 in
theorem impl_keptFrom.calls (k : Nat) (A0 : Option Addr) (c0 : Nat) (l0 : List (S46)) (a1 : Int) (r : Int) (w : World) (hr0 : Kd.C k46 w A0 l0.length l0) (hc0 : l0.length ≤ c0) (h : impl_keptFrom.f k l0 a1 = some r) :
  Calls Try.prog 28 #[.slice A0 l0.length c0, .func (.func 29) #[.int .i64 a1] #[]] w fun e w' => e = .returned (.int .i64 r) ∧ Below w.heap.size w w' := by
 have HR0 := Aside0.mk hr0
 have HC0 := Aside0.mk hc0
 clear hr0 hc0
 have HB := Aside0.mk (Below.refl w.heap.size w)
 have H : (impl_keptFrom.l0 k l0 a1 (l0.length : Int) 0) = some r := h
 clear h
 have H' := Aside0.mk H
 clear H
 go_enter Try.func28, Try.ntmps28
 go_wp2
 go_loopg [8] k (fun kq v8 w' => ∃ (x8_1 : Int), v8 = .int .i64 x8_1 ∧ Aside0 (impl_keptFrom.l0 kq l0 a1 (l0.length : Int) x8_1 = some r) ∧ Aside0 (kq ≤ k) ∧ Aside0 (Below w.heap.size w w'))
 case atStart => exact ⟨(0), tr, H', ⟨Nat.le_refl _⟩, ⟨zb⟩⟩
 case round =>
  clear H'
  obtain ⟨x8_1, rfl, HA, HK1, HB⟩ := hrel
  cases gk with
  | zero => exact absurd HA.out (by simp [impl_keptFrom.l0])
  | succ k1 =>
   have H := HA.out
   clear HA
   simp only [impl_keptFrom.l0] at H
   by_cases c3 : x8_1 < (l0.length : Int)
   ·rw [if_pos c3] at H
    have c3b0 : decide (x8_1 < (l0.length : Int)) = true := decide_eq_true c3
    clear c3
    replace H := tbe H
    obtain ⟨t627, A4, H⟩ := H
    by_cases c5 : t627 = true
    ·subst c5
     rw [if_pos rfl] at H
     obtain rfl := Option.some.inj H
     go_wp2_with (first | ((with_reducible refine gate_val (x := 11) rfl ?_); refine goesC_ (some 14) rfl rfl 11 rfl Try.func29 (by kernel_rfl) rfl #[.int .i64 a1, .slice A0 l0.length c0, .int .i64 x8_1] rfl tq ?_; (with_reducible refine (impl_room_fits.calls k1 a1 _ _ l0 x8_1 true _ ?side1 ?side2 A4.out).mono ?_); (case side1 => exact tC (Kd.C_below HR0.out HB.out)); (case side2 => exact HC0.out); rintro e w6 ⟨rfl, hb⟩; refine ⟨_, rfl, ?_⟩; replace HB := tBs HB hb; (try clear hb); (try clear hb2); (try clear hk); (try clear hi)))
     go_ret
     exact ⟨by first | rfl | (simp [errW_none, errW_some] <;> rfl) | (simp [*, errW_none, errW_some] <;> rfl), zb⟩
    ·replace c5 := Bool.eq_false_iff.mpr c5
     subst c5
     rw [if_neg (show ¬ (false = true) by decide)] at H
     have H' := Aside0.mk H
     clear H
     go_wp2_with (first | ((with_reducible refine gate_val (x := 11) rfl ?_); refine goesC_ (some 14) rfl rfl 11 rfl Try.func29 (by kernel_rfl) rfl #[.int .i64 a1, .slice A0 l0.length c0, .int .i64 x8_1] rfl tq ?_; (with_reducible refine (impl_room_fits.calls k1 a1 _ _ l0 x8_1 false _ ?side1 ?side2 A4.out).mono ?_); (case side1 => exact tC (Kd.C_below HR0.out HB.out)); (case side2 => exact HC0.out); rintro e w7 ⟨rfl, hb⟩; refine ⟨_, rfl, ?_⟩; replace HB := tBs HB hb; (try clear hb); (try clear hb2); (try clear hk); (try clear hi)))
     go_roundg k1
     case measure => have := HK1.out; omega
     case rel => exact ⟨(wrap64 (x8_1 + 1)), tr, H', ⟨by have := HK1.out; omega⟩, ⟨zb⟩⟩
   ·rw [if_neg c3] at H
    have c3b0 : decide (x8_1 < (l0.length : Int)) = false := decide_eq_false c3
    clear c3
    obtain ⟨ji8, hji8⟩ : ∃ j_ : Int, (mx (wrap64 ((l0.length : Int) - 1)) 0) = j_ := ⟨_, rfl⟩
    replace H : (some ji8) = some r := by first | (rw [hji8] at H; exact H) | (simp only [hji8] at H ⊢; exact H)
    have hji8_ : (if (wrap64 ((l0.length : Int) - 1)) < 0 then 0 else (wrap64 ((l0.length : Int) - 1))) = ji8 := hji8
    obtain rfl := Option.some.inj H
    go_wp2
    go_ret
    exact ⟨by first | rfl | (simp [errW_none, errW_some] <;> rfl) | (simp only [← hji8]; first | rfl | (simp [errW_none, errW_some] <;> rfl)) | (simp [*, errW_none, errW_some] <;> rfl), zb⟩

def impl_KeepSize.f (k : Nat) (l0 : List (S46)) (a1 : Int) : Option (Int) := (impl_LogValid.f k l0).bind fun t628 => (if t628 = true then ((impl_within.f a1 0 99999).bind fun t629 => (if t629 = true then ((impl_keptFrom.f k l0 a1).bind fun t630 => (some t630)) else (some (-1)))) else (some (-1)))
set_option maxHeartbeats 8000000 in
set_option maxRecDepth 100000 in
theorem impl_KeepSize.calls (k : Nat) (A0 : Option Addr) (c0 : Nat) (l0 : List (S46)) (a1 : Int) (r : Int) (w : World) (hr0 : Kd.C k46 w A0 l0.length l0) (hc0 : l0.length ≤ c0) (h : impl_KeepSize.f k l0 a1 = some r) :
  Calls Try.prog 14 #[.slice A0 l0.length c0, .int .i64 a1] w fun e w' => e = .returned (.int .i64 r) ∧ Below w.heap.size w w' := by
 have HR0 := Aside0.mk hr0
 have HC0 := Aside0.mk hc0
 clear hr0 hc0
 have HB := Aside0.mk (Below.refl w.heap.size w)
 have H : ((impl_LogValid.f k l0).bind fun t628 => (if t628 = true then ((impl_within.f a1 0 99999).bind fun t629 => (if t629 = true then ((impl_keptFrom.f k l0 a1).bind fun t630 => (some t630)) else (some (-1)))) else (some (-1)))) = some r := h
 clear h
 replace H := tbe H
 obtain ⟨t628, A3, H⟩ := H
 by_cases c4 : t628 = true
 ·subst c4
  rw [if_pos rfl] at H
  replace H := tbe H
  obtain ⟨t629, A5, H⟩ := H
  by_cases c6 : t629 = true
  ·subst c6
   rw [if_pos rfl] at H
   replace H := tbe H
   obtain ⟨t630, A7, H⟩ := H
   obtain rfl := Option.some.inj H
   go_enter Try.func14, Try.ntmps14
   go_wp2_with (first | ((with_reducible refine gate_callee (f := 21) rfl ?_); refine goesL_ (some 6) rfl rfl Try.func21 (by kernel_rfl) rfl #[.slice A0 l0.length c0] rfl tq ?_; (with_reducible refine (impl_LogValid.calls k _ _ l0 true _ ?side1 ?side2 A3.out).mono ?_); (case side1 => exact tC HR0.out); (case side2 => exact HC0.out); rintro e w8 ⟨rfl, hb⟩; refine ⟨_, rfl, ?_⟩; replace HB := tBs HB hb; (try clear hb); (try clear hb2); (try clear hk); (try clear hi)) | (go_at_call 27; (with_reducible refine (impl_within.calls a1 0 99999 true _ A5.out).mono ?_); rintro e w' ⟨rfl, ⟨nd, rfl⟩⟩) | ((with_reducible refine gate_callee (f := 28) rfl ?_); refine goesL_ (some 16) rfl rfl Try.func28 (by kernel_rfl) rfl #[.slice A0 l0.length c0, .func (.func 29) #[.int .i64 a1] #[]] rfl tq ?_; (with_reducible refine (impl_keptFrom.calls k _ _ l0 a1 t630 _ ?side1 ?side2 A7.out).mono ?_); (case side1 => exact tC (Kd.C_below HR0.out zb)); (case side2 => exact HC0.out); rintro e w9 ⟨rfl, hb⟩; refine ⟨_, rfl, ?_⟩; replace HB := tBs HB hb; (try clear hb); (try clear hb2); (try clear hk); (try clear hi)))
   go_ret
   exact ⟨by first | rfl | (simp [errW_none, errW_some] <;> rfl) | (simp [*, errW_none, errW_some] <;> rfl), zb⟩
  ·replace c6 := Bool.eq_false_iff.mpr c6
   subst c6
   rw [if_neg (show ¬ (false = true) by decide)] at H
   obtain rfl := Option.some.inj H
   go_enter Try.func14, Try.ntmps14
   go_wp2_with (first | ((with_reducible refine gate_callee (f := 21) rfl ?_); refine goesL_ (some 6) rfl rfl Try.func21 (by kernel_rfl) rfl #[.slice A0 l0.length c0] rfl tq ?_; (with_reducible refine (impl_LogValid.calls k _ _ l0 true _ ?side1 ?side2 A3.out).mono ?_); (case side1 => exact tC HR0.out); (case side2 => exact HC0.out); rintro e w10 ⟨rfl, hb⟩; refine ⟨_, rfl, ?_⟩; replace HB := tBs HB hb; (try clear hb); (try clear hb2); (try clear hk); (try clear hi)) | (go_at_call 27; (with_reducible refine (impl_within.calls a1 0 99999 false _ A5.out).mono ?_); rintro e w' ⟨rfl, ⟨nd, rfl⟩⟩))
   go_ret
   exact ⟨by first | rfl | (simp [errW_none, errW_some] <;> rfl) | (simp [*, errW_none, errW_some] <;> rfl), zb⟩
 ·replace c4 := Bool.eq_false_iff.mpr c4
  subst c4
  rw [if_neg (show ¬ (false = true) by decide)] at H
  obtain rfl := Option.some.inj H
  go_enter Try.func14, Try.ntmps14
  go_wp2_with (first | ((with_reducible refine gate_callee (f := 21) rfl ?_); refine goesL_ (some 6) rfl rfl Try.func21 (by kernel_rfl) rfl #[.slice A0 l0.length c0] rfl tq ?_; (with_reducible refine (impl_LogValid.calls k _ _ l0 false _ ?side1 ?side2 A3.out).mono ?_); (case side1 => exact tC HR0.out); (case side2 => exact HC0.out); rintro e w11 ⟨rfl, hb⟩; refine ⟨_, rfl, ?_⟩; replace HB := tBs HB hb; (try clear hb); (try clear hb2); (try clear hk); (try clear hi)))
  go_ret
  exact ⟨by first | rfl | (simp [errW_none, errW_some] <;> rfl) | (simp [*, errW_none, errW_some] <;> rfl), zb⟩

mutual
def spec_KeepSize.j0 : Nat → List (S46) → Int → Bool → Option (Int)
 | 0, _, _, _ => none
 | k + 1, x0, x1, x13 => if x13 = true then (some (-1)) else (spec_KeepSize.l0 k x0 x1 0)
def spec_KeepSize.l0 : Nat → List (S46) → Int → Int → Option (Int)
 | 0, _, _, _ => none
 | k + 1, x0, x1, x5 => if (wrap64 (x5 + 1)) < (x0.length : Int) then (if 0 ≤ x5 then (if x5 ≤ (x0.length : Int) then ((spec_l33Size.f k (x0.drop (x5 : Int).toNat)).bind fun t637 => (if t637 > x1 then (spec_KeepSize.l0 k x0 x1 (wrap64 (x5 + 1))) else (some x5))) else (none)) else (none)) else (some x5)
end
def spec_KeepSize.f (k : Nat) (l0 : List (S46)) (a1 : Int) : Option (Int) := (spec_LogValid.f k l0).bind fun t631 => (if t631 = true then ((spec_l6In.f a1 0 99999).bind fun t632 => (spec_KeepSize.j0 k l0 a1 (!t632))) else (spec_KeepSize.j0 k l0 a1 true))
set_option maxHeartbeats 8000000 in
set_option maxRecDepth 100000 in
theorem spec_KeepSize.calls (k : Nat) (A0 : Option Addr) (c0 : Nat) (l0 : List (S46)) (a1 : Int) (r : Int) (w : World) (hr0 : Kd.C k46 w A0 l0.length l0) (hc0 : l0.length ≤ c0) (h : spec_KeepSize.f k l0 a1 = some r) :
  Calls Try.prog 15 #[.slice A0 l0.length c0, .int .i64 a1] w fun e w' => e = .returned (.int .i64 r) ∧ Below w.heap.size w w' := by
 have HR0 := Aside0.mk hr0
 have HC0 := Aside0.mk hc0
 clear hr0 hc0
 have HB := Aside0.mk (Below.refl w.heap.size w)
 have H : ((spec_LogValid.f k l0).bind fun t631 => (if t631 = true then ((spec_l6In.f a1 0 99999).bind fun t632 => (spec_KeepSize.j0 k l0 a1 (!t632))) else (spec_KeepSize.j0 k l0 a1 true))) = some r := h
 clear h
 have HC3 := Aside0.mk H
 clear H
 go_enter Try.func15, Try.ntmps15
 go_upto_region 1 with (fail)
 go_cut [13] (fun v13 wc => ∃ (kq : Nat) (x13_2 : Bool), v13 = .bool x13_2 ∧ Aside0 (spec_KeepSize.j0 kq l0 a1 x13_2 = some r) ∧ Aside0 (kq ≤ k) ∧ Aside0 (Below w.heap.size w wc))
 case first =>
  have H := HC3.out
  clear HC3
  replace H := tbe H
  obtain ⟨t631, A4, H⟩ := H
  by_cases c5 : t631 = true
  ·subst c5
   rw [if_pos rfl] at H
   replace H := tbe H
   obtain ⟨t632, A6, H⟩ := H
   have H' := Aside0.mk H
   clear H
   go_wp2_with (first | ((with_reducible refine gate_callee (f := 23) rfl ?_); refine goesL_ (some 7) rfl rfl Try.func23 (by kernel_rfl) rfl #[.slice A0 l0.length c0] rfl tq ?_; (with_reducible refine (spec_LogValid.calls k _ _ l0 true _ ?side1 ?side2 A4.out).mono ?_); (case side1 => exact tC (Kd.C_below HR0.out HB.out)); (case side2 => exact HC0.out); rintro e w7 ⟨rfl, hb⟩; refine ⟨_, rfl, ?_⟩; replace HB := tBs HB hb; (try clear hb); (try clear hb2); (try clear hk); (try clear hi)) | (go_at_call 30; (with_reducible refine (spec_l6In.calls a1 0 99999 t632 _ A6.out).mono ?_); rintro e w' ⟨rfl, ⟨nd, rfl⟩⟩))
   go_meet
   case rel => exact ⟨_, (!t632), tr, H', ⟨by first | omega | exact Nat.le_refl _⟩, ⟨zb⟩⟩
  ·replace c5 := Bool.eq_false_iff.mpr c5
   subst c5
   rw [if_neg (show ¬ (false = true) by decide)] at H
   have H' := Aside0.mk H
   clear H
   go_wp2_with (first | ((with_reducible refine gate_callee (f := 23) rfl ?_); refine goesL_ (some 7) rfl rfl Try.func23 (by kernel_rfl) rfl #[.slice A0 l0.length c0] rfl tq ?_; (with_reducible refine (spec_LogValid.calls k _ _ l0 false _ ?side1 ?side2 A4.out).mono ?_); (case side1 => exact tC (Kd.C_below HR0.out HB.out)); (case side2 => exact HC0.out); rintro e w8 ⟨rfl, hb⟩; refine ⟨_, rfl, ?_⟩; replace HB := tBs HB hb; (try clear hb); (try clear hb2); (try clear hk); (try clear hi)))
   go_meet
   case rel => exact ⟨_, (true), tr, H', ⟨by first | omega | exact Nat.le_refl _⟩, ⟨zb⟩⟩
 case rest =>
  clear HC3
  obtain ⟨kq, x13_2, rfl, HA, HJ2, HB⟩ := hcut
  cases kq with
  | zero => exact absurd HA.out (by simp [spec_KeepSize.j0])
  | succ kj2 =>
   have H := HA.out
   clear HA
   simp only [spec_KeepSize.j0] at H
   by_cases c9 : x13_2 = true
   ·subst c9
    rw [if_pos rfl] at H
    obtain rfl := Option.some.inj H
    go_wp2
    go_ret
    exact ⟨by first | rfl | (simp [errW_none, errW_some] <;> rfl) | (simp [*, errW_none, errW_some] <;> rfl), zb⟩
   ·replace c9 := Bool.eq_false_iff.mpr c9
    subst c9
    rw [if_neg (show ¬ (false = true) by decide)] at H
    have H' := Aside0.mk H
    clear H
    go_wp2
    go_loopg [5] kj2 (fun kq v5 w' => ∃ (x5_2 : Int), v5 = .int .i64 x5_2 ∧ Aside0 (spec_KeepSize.l0 kq l0 a1 x5_2 = some r) ∧ Aside0 (kq ≤ kj2) ∧ Aside0 (Below w.heap.size w w'))
    case atStart => exact ⟨(0), tr, H', ⟨Nat.le_refl _⟩, ⟨zb⟩⟩
    case round =>
     clear H'
     try clear c9
     obtain ⟨x5_2, rfl, HA, HK2, HB⟩ := hrel
     cases gk with
     | zero => exact absurd HA.out (by simp [spec_KeepSize.l0])
     | succ k2 =>
      have H := HA.out
      clear HA
      simp only [spec_KeepSize.l0] at H
      by_cases c10 : (wrap64 (x5_2 + 1)) < (l0.length : Int)
      ·rw [if_pos c10] at H
       have c10b0 : decide ((wrap64 (x5_2 + 1)) < (l0.length : Int)) = true := decide_eq_true c10
       clear c10
       by_cases c11 : 0 ≤ x5_2
       ·rw [if_pos c11] at H
        have c11b0 := eq_true c11
        have c11b1 : decide (0 ≤ x5_2) = true := decide_eq_true c11
        clear c11
        by_cases c12 : x5_2 ≤ (l0.length : Int)
        ·rw [if_pos c12] at H
         have c12b0 := eq_true c12
         have c12b1 : decide (x5_2 ≤ (l0.length : Int)) = true := decide_eq_true c12
         clear c12
         obtain ⟨y633, hy633⟩ : ∃ y_ : List (S46), y_ = (l0.drop (x5_2 : Int).toNat) := ⟨_, rfl⟩
         replace H : ((spec_l33Size.f k2 y633).bind fun t637 => (if t637 > a1 then (spec_KeepSize.l0 k2 l0 a1 (wrap64 (x5_2 + 1))) else (some x5_2))) = some r := by first | (rw [hy633]; with_reducible exact H) | (have H2_ := (Option.bind_some _ _).symm.trans H; rw [hy633]; with_reducible exact H2_) | (have H2_ := (Option.bind_some _ _).symm.trans H; with_reducible exact H2_) | with_reducible exact H | (rw [hy633]; exact H) | exact H
         have Ny633 := Aside0.mk hy633
         clear hy633
         replace H := tbe H
         obtain ⟨t637, A13, H⟩ := H
         by_cases c14 : t637 > a1
         ·rw [if_pos c14] at H
          have c14b0 : decide (a1 < t637) = true := decide_eq_true c14
          clear c14
          have H' := Aside0.mk H
          clear H
          have q15 : (x5_2 : Int) ≤ ((l0.length : Int) : Int) := td
          obtain ⟨i015, hi015, _, hsz15, _⟩ := info_parts info46
          have hroom15 : l0.length ≤ c0 := HC0.out
          have hC15 : Kd.C k46 _ A0 l0.length l0 := HR0.out
          have q015 : (0 : Int) ≤ (x5_2 : Int) := td
          have hcut15 := cut_from (P := Try.prog) 23 46 .i64 Try.underlying23 hi015 6 hsz15 A0 l0.length c0 x5_2 q015 q15
          have hr15 := Kd.C_drop (m := (x5_2 : Int).toNat) (c := c0) hC15 (by omega) hroom15
          obtain ⟨A15, hA15⟩ : ∃ A_, A_ = (if c0 = (x5_2 : Int).toNat then A0 else (A0 : Option Addr).map (·.add ((x5_2 : Int).toNat * 6))) := ⟨_, rfl⟩
          obtain ⟨c15, hc15⟩ : ∃ c_, c_ = c0 - (x5_2 : Int).toNat := ⟨_, rfl⟩
          have hy15 : y633.length = l0.length - (x5_2 : Int).toNat := (by rw [Ny633.out, List.length_drop] <;> omega)
          rw [show (l0).drop (x5_2 : Int).toNat = y633 from Ny633.out.symm] at hr15
          replace hr15 : Kd.C k46 _ A15 y633.length y633 := (by rw [hA15]; exact hr15)
          rw [← hy15, ← hA15, ← hc15] at hcut15
          have HR636 := Aside0.mk hr15
          have HC636 := Aside0.mk (show y633.length ≤ c15 from by rw [hy15, hc15]; exact Nat.sub_le_sub_right hroom15 _)
          clear hr15 hC15 hroom15 hi015 hsz15 hc15
          have KY15 := Aside0.mk hy15
          have KA15 := Aside0.mk hA15
          clear hy15 hA15
          replace q15 := eq_true q15
          go_wp2_with (first | (go_at_call 24; (with_reducible refine (spec_l33Size.calls k2 _ _ y633 t637 _ ?side1 ?side2 A13.out).mono ?_); (case side1 => exact tC (Kd.C_below HR636.out HB.out)); (case side2 => exact HC636.out); rintro e w16 ⟨rfl, hb⟩; replace HB := tBs HB hb; (try clear hb); (try clear hb2); (try clear hk); (try clear hi)))
          go_roundg k2
          case measure => have := HJ2.out; have := HK2.out; omega
          case rel => exact ⟨(wrap64 (x5_2 + 1)), tr, H', ⟨by have := HJ2.out; have := HK2.out; omega⟩, ⟨zb⟩⟩
         ·rw [if_neg c14] at H
          have c14b0 : decide (a1 < t637) = false := decide_eq_false c14
          clear c14
          obtain rfl := Option.some.inj H
          have q17 : (x5_2 : Int) ≤ ((l0.length : Int) : Int) := td
          obtain ⟨i017, hi017, _, hsz17, _⟩ := info_parts info46
          have hroom17 : l0.length ≤ c0 := HC0.out
          have hC17 : Kd.C k46 _ A0 l0.length l0 := HR0.out
          have q017 : (0 : Int) ≤ (x5_2 : Int) := td
          have hcut17 := cut_from (P := Try.prog) 23 46 .i64 Try.underlying23 hi017 6 hsz17 A0 l0.length c0 x5_2 q017 q17
          have hr17 := Kd.C_drop (m := (x5_2 : Int).toNat) (c := c0) hC17 (by omega) hroom17
          obtain ⟨A17, hA17⟩ : ∃ A_, A_ = (if c0 = (x5_2 : Int).toNat then A0 else (A0 : Option Addr).map (·.add ((x5_2 : Int).toNat * 6))) := ⟨_, rfl⟩
          obtain ⟨c17, hc17⟩ : ∃ c_, c_ = c0 - (x5_2 : Int).toNat := ⟨_, rfl⟩
          have hy17 : y633.length = l0.length - (x5_2 : Int).toNat := (by rw [Ny633.out, List.length_drop] <;> omega)
          rw [show (l0).drop (x5_2 : Int).toNat = y633 from Ny633.out.symm] at hr17
          replace hr17 : Kd.C k46 _ A17 y633.length y633 := (by rw [hA17]; exact hr17)
          rw [← hy17, ← hA17, ← hc17] at hcut17
          have HR636 := Aside0.mk hr17
          have HC636 := Aside0.mk (show y633.length ≤ c17 from by rw [hy17, hc17]; exact Nat.sub_le_sub_right hroom17 _)
          clear hr17 hC17 hroom17 hi017 hsz17 hc17
          have KY17 := Aside0.mk hy17
          have KA17 := Aside0.mk hA17
          clear hy17 hA17
          replace q17 := eq_true q17
          go_wp2_with (first | (go_at_call 24; (with_reducible refine (spec_l33Size.calls k2 _ _ y633 t637 _ ?side1 ?side2 A13.out).mono ?_); (case side1 => exact tC (Kd.C_below HR636.out HB.out)); (case side2 => exact HC636.out); rintro e w18 ⟨rfl, hb⟩; replace HB := tBs HB hb; (try clear hb); (try clear hb2); (try clear hk); (try clear hi)))
          go_ret
          exact ⟨by first | rfl | (simp [errW_none, errW_some] <;> rfl) | (simp [*, errW_none, errW_some] <;> rfl), zb⟩
        ·rw [if_neg c12] at H
         exact absurd H (by simp)
       ·rw [if_neg c11] at H
        exact absurd H (by simp)
      ·rw [if_neg c10] at H
       have c10b0 : decide ((wrap64 (x5_2 + 1)) < (l0.length : Int)) = false := decide_eq_false c10
       clear c10
       obtain rfl := Option.some.inj H
       go_wp2
       go_ret
       exact ⟨by first | rfl | (simp [errW_none, errW_some] <;> rfl) | (simp [*, errW_none, errW_some] <;> rfl), zb⟩

end Go.Proofs.Ythoioccmnphfgaa.G

namespace Go.Proofs.Ythoioccmnphfgaa.G
open Go.RowKit Go.Proofs.YthoioccmnphfgaaW.PrintWords Go.Proofs.YthoioccmnphfgaaW.PrintLast Go.Proofs.YthoioccmnphfgaaW.PrintMore
attribute [local go_sem] max2_int min2_int max_two min_two max_three min_three max_four min_four   -- for this text's walks alone
set_option linter.unusedVariables false
set_option linter.unusedSimpArgs false

def laws_FnKeep.j0 : Nat → List (S46) → Int → Int → Int → Bool → Option (Bool)
 | 0, _, _, _, _, _ => none
 | k + 1, x3, x4, x5, x6, x33 => if x33 = true then (some (x5 == x6)) else (if x5 ≥ (x3.length : Int) then (some false) else (if 0 ≤ x5 then (if x5 ≤ (x3.length : Int) then ((impl_LogSize.f k (x3.drop (x5 : Int).toNat)).bind fun t656 => (if t656 ≤ x4 then (if x5 = 0 then (some true) else (if 0 ≤ (wrap64 (x5 - 1)) then (if (wrap64 (x5 - 1)) ≤ (x3.length : Int) then ((impl_LogSize.f k (x3.drop ((wrap64 (x5 - 1)) : Int).toNat)).bind fun t662 => (some (decide (t662 > x4)))) else (none)) else (none))) else (if x5 = (wrap64 ((x3.length : Int) - 1)) then (if x5 = 0 then (some true) else (if 0 ≤ (wrap64 (x5 - 1)) then (if (wrap64 (x5 - 1)) ≤ (x3.length : Int) then ((impl_LogSize.f k (x3.drop ((wrap64 (x5 - 1)) : Int).toNat)).bind fun t668 => (some (decide (t668 > x4)))) else (none)) else (none))) else (some false)))) else (none)) else (none)))
def laws_FnKeep.f (k : Nat) (l0 : List Int) : Option (Bool) := if (l0.length : Int) > 1048576 then (some true) else ((spec_DrawKeepSize.f k l0).bind fun bt645 => ((impl_KeepSize.f k bt645.1 bt645.2).bind fun t649 => ((spec_KeepSize.f k bt645.1 bt645.2).bind fun t650 => (if t649 = t650 then (if t650 < 0 then (laws_FnKeep.j0 k bt645.1 bt645.2 t649 t650 true) else (laws_FnKeep.j0 k bt645.1 bt645.2 t649 t650 ((bt645.1.length : Int) == 0))) else (laws_FnKeep.j0 k bt645.1 bt645.2 t649 t650 true)))))
set_option maxHeartbeats 8000000 in
set_option maxRecDepth 100000 in
theorem laws_FnKeep.calls (k : Nat) (A0 : Option Addr) (c0 : Nat) (l0 : List Int) (r : Bool) (w : World) (hr0 : Kd.C (Kd.int .u8) w A0 l0.length l0) (hc0 : l0.length ≤ c0) (h : laws_FnKeep.f k l0 = some r) :
  Calls Try.prog 5 #[.slice A0 l0.length c0] w fun e w' => e = .returned (.bool r) ∧ Below w.heap.size w w' := by
 have HR0 := Aside0.mk hr0
 have HC0 := Aside0.mk hc0
 clear hr0 hc0
 have HB := Aside0.mk (Below.refl w.heap.size w)
 have H : (if (l0.length : Int) > 1048576 then (some true) else ((spec_DrawKeepSize.f k l0).bind fun bt645 => ((impl_KeepSize.f k bt645.1 bt645.2).bind fun t649 => ((spec_KeepSize.f k bt645.1 bt645.2).bind fun t650 => (if t649 = t650 then (if t650 < 0 then (laws_FnKeep.j0 k bt645.1 bt645.2 t649 t650 true) else (laws_FnKeep.j0 k bt645.1 bt645.2 t649 t650 ((bt645.1.length : Int) == 0))) else (laws_FnKeep.j0 k bt645.1 bt645.2 t649 t650 true)))))) = some r := h
 clear h
 by_cases c2 : (l0.length : Int) > 1048576
 ·rw [if_pos c2] at H
  have c2b0 : decide (1048576 < (l0.length : Int)) = true := decide_eq_true c2
  have c2b1 : decide (1048576 < l0.length) = true := decide_eq_true (by omega)
  clear c2
  obtain rfl := Option.some.inj H
  go_enter Try.func5, Try.ntmps5
  go_wp2
  all_goals go_ret
  all_goals exact ⟨by first | rfl | (simp [errW_none, errW_some] <;> rfl) | (simp [*, errW_none, errW_some] <;> rfl), zb⟩
 ·rw [if_neg c2] at H
  have c2b0 : decide (1048576 < (l0.length : Int)) = false := decide_eq_false c2
  have c2b1 : decide (1048576 < l0.length) = false := decide_eq_false (by omega)
  clear c2
  replace H := tbe H
  obtain ⟨⟨t645, t648⟩, A3, H⟩ := H
  dsimp only at H
  replace H := tbe H
  obtain ⟨t649, A4, H⟩ := H
  replace H := tbe H
  obtain ⟨t650, A5, H⟩ := H
  have HC6 := Aside0.mk H
  clear H
  go_enter Try.func5, Try.ntmps5
  go_upto_region 6 with (first | ((with_reducible refine gate_callee (f := 13) rfl ?_); refine goesL_ (some 13) rfl rfl Try.func13 (by kernel_rfl) rfl #[.slice A0 l0.length c0] rfl tq ?_; (with_reducible refine (spec_DrawKeepSize.calls k _ _ l0 t645 t648 _ ?side1 ?side2 A3.out).mono ?_); (case side1 => exact tC HR0.out); (case side2 => exact HC0.out); rintro e w7 ⟨v646, rfl, ho0, hb⟩; have u_v646 := tsv Try.prog v646 ho0; refine ⟨_, rfl, ?_⟩; have HO647 := Aside0.mk (Kd.N_lower (Kd.N_mono (ok' := fun k_ => True) ho0 (fun k_ hk_ => trivial)) (below_size zb)); replace HB := tBs HB hb; (try clear hb); (try clear hb2); (try clear hk); (try clear hi); (try clear ho0); obtain ⟨Ao8, co8, eo8⟩ := Kd.N_slice HO647.out; subst eo8) | ((with_reducible refine gate_callee (f := 14) rfl ?_); refine goesL_ (some 18) rfl rfl Try.func14 (by kernel_rfl) rfl #[.slice Ao8 t645.length co8, .int .i64 t648] rfl tq ?_; (with_reducible refine (impl_KeepSize.calls k _ _ t645 t648 t649 _ ?side1 ?side2 A4.out).mono ?_); (case side1 => repeat (first | exact (Kd.N_reads' HO647.out).2.2 | (with_reducible refine Kd.C_alloc ?_ _) | (with_reducible refine Kd.C_drewN ?_ _) | (with_reducible refine Kd.C_drew ?_))); (case side2 => exact (Kd.N_reads' HO647.out).2.1); rintro e w9 ⟨rfl, hb⟩; refine ⟨_, rfl, ?_⟩; replace HO647 := tNb HO647 hb; replace HB := tBs HB hb; (try clear hb); (try clear hb2); (try clear hk); (try clear hi)) | ((with_reducible refine gate_callee (f := 15) rfl ?_); refine goesL_ (some 21) rfl rfl Try.func15 (by kernel_rfl) rfl #[.slice Ao8 t645.length co8, .int .i64 t648] rfl tq ?_; (with_reducible refine (spec_KeepSize.calls k _ _ t645 t648 t650 _ ?side1 ?side2 A5.out).mono ?_); (case side1 => repeat (first | exact (Kd.N_reads' HO647.out).2.2 | (with_reducible refine Kd.C_alloc ?_ _) | (with_reducible refine Kd.C_drewN ?_ _) | (with_reducible refine Kd.C_drew ?_))); (case side2 => exact (Kd.N_reads' HO647.out).2.1); rintro e w10 ⟨rfl, hb⟩; refine ⟨_, rfl, ?_⟩; replace HO647 := tNb HO647 hb; replace HB := tBs HB hb; (try clear hb); (try clear hb2); (try clear hk); (try clear hi)))
  (try simp only [Act.put, List.setIfInBounds_toArray, List.set_cons_zero, List.set_cons_succ])
  go_cut [33] (fun v33 wc => ∃ (kq : Nat) (x33_5 : Bool), v33 = .bool x33_5 ∧ Aside0 (laws_FnKeep.j0 kq t645 t648 t649 t650 x33_5 = some r) ∧ Aside0 (kq ≤ k) ∧ Aside0 (Kd.N k46 46 wc w.heap.size (fun _ => True) (.slice Ao8 t645.length co8) t645) ∧ Aside0 (Below w.heap.size w wc))
  case first =>
   have H := HC6.out
   clear HC6
   by_cases c11 : t649 = t650
   ·rw [if_pos c11] at H
    have c11b0 : (t649 == t650) = true := beq_iff_eq.mpr c11
    have c11b1 : (t649 != t650) = false := bne_eq_false_iff_eq.mpr c11
    clear c11
    (first | rw [c11b0] | (simp only [i64_w, i32_w]; rw [c11b0]) | skip)
    by_cases c12 : t650 < 0
    ·rw [if_pos c12] at H
     have c12b0 : decide (t650 < 0) = true := decide_eq_true c12
     clear c12
     have H' := Aside0.mk H
     clear H
     go_wp2
     go_meet
     case rel => exact ⟨_, (true), tr, H', ⟨by first | omega | exact Nat.le_refl _⟩, ⟨tN HO647.out⟩, ⟨zb⟩⟩
    ·rw [if_neg c12] at H
     have c12b0 : decide (t650 < 0) = false := decide_eq_false c12
     clear c12
     have H' := Aside0.mk H
     clear H
     go_wp2
     go_meet
     case rel => exact ⟨_, (((t645.length : Int) == 0)), tr, H', ⟨by first | omega | exact Nat.le_refl _⟩, ⟨tN HO647.out⟩, ⟨zb⟩⟩
   ·rw [if_neg c11] at H
    have c11b0 : (t649 == t650) = false := beq_eq_false_iff_ne.mpr c11
    have c11b1 : (t649 != t650) = true := bne_iff_ne.mpr c11
    (first | rw [c11b0] | (simp only [i64_w, i32_w]; rw [c11b0]) | skip)
    have H' := Aside0.mk H
    clear H
    go_wp2
    go_meet
    case rel => exact ⟨_, (true), tr, H', ⟨by first | omega | exact Nat.le_refl _⟩, ⟨tN HO647.out⟩, ⟨zb⟩⟩
  case rest =>
   clear HC6
   try clear c2; try clear c2b0; try clear c2b1
   obtain ⟨kq, x33_5, rfl, HA, HJ5, HO_3, HB⟩ := hcut
   cases kq with
   | zero => exact absurd HA.out (by simp [laws_FnKeep.j0])
   | succ kj5 =>
    have H := HA.out
    clear HA
    simp only [laws_FnKeep.j0] at H
    by_cases c13 : x33_5 = true
    ·subst c13
     rw [if_pos rfl] at H
     obtain rfl := Option.some.inj H
     go_wp2
     all_goals go_ret
     all_goals exact ⟨by first | rfl | (simp [errW_none, errW_some] <;> rfl) | (simp [*, errW_none, errW_some] <;> rfl), zb⟩
    ·replace c13 := Bool.eq_false_iff.mpr c13
     subst c13
     rw [if_neg (show ¬ (false = true) by decide)] at H
     by_cases c14 : t649 ≥ (t645.length : Int)
     ·rw [if_pos c14] at H
      have c14b0 : decide ((t645.length : Int) ≤ t649) = true := decide_eq_true c14
      clear c14
      obtain rfl := Option.some.inj H
      go_wp2
      all_goals go_ret
      all_goals exact ⟨by first | rfl | (simp [errW_none, errW_some] <;> rfl) | (simp [*, errW_none, errW_some] <;> rfl), zb⟩
     ·rw [if_neg c14] at H
      have c14b0 : decide ((t645.length : Int) ≤ t649) = false := decide_eq_false c14
      clear c14
      by_cases c15 : 0 ≤ t649
      ·rw [if_pos c15] at H
       have c15b0 := eq_true c15
       have c15b1 : decide (0 ≤ t649) = true := decide_eq_true c15
       clear c15
       by_cases c16 : t649 ≤ (t645.length : Int)
       ·rw [if_pos c16] at H
        have c16b0 := eq_true c16
        have c16b1 : decide (t649 ≤ (t645.length : Int)) = true := decide_eq_true c16
        clear c16
        obtain ⟨y651, hy651⟩ : ∃ y_ : List (S46), y_ = (t645.drop (t649 : Int).toNat) := ⟨_, rfl⟩
        replace H : ((impl_LogSize.f kj5 y651).bind fun t656 => (if t656 ≤ t648 then (if t649 = 0 then (some true) else (if 0 ≤ (wrap64 (t649 - 1)) then (if (wrap64 (t649 - 1)) ≤ (t645.length : Int) then ((impl_LogSize.f kj5 (t645.drop ((wrap64 (t649 - 1)) : Int).toNat)).bind fun t662 => (some (decide (t662 > t648)))) else (none)) else (none))) else (if t649 = (wrap64 ((t645.length : Int) - 1)) then (if t649 = 0 then (some true) else (if 0 ≤ (wrap64 (t649 - 1)) then (if (wrap64 (t649 - 1)) ≤ (t645.length : Int) then ((impl_LogSize.f kj5 (t645.drop ((wrap64 (t649 - 1)) : Int).toNat)).bind fun t668 => (some (decide (t668 > t648)))) else (none)) else (none))) else (some false)))) = some r := by first | (rw [hy651]; with_reducible exact H) | (have H2_ := (Option.bind_some _ _).symm.trans H; rw [hy651]; with_reducible exact H2_) | (have H2_ := (Option.bind_some _ _).symm.trans H; with_reducible exact H2_) | with_reducible exact H | (rw [hy651]; exact H) | exact H
        have Ny651 := Aside0.mk hy651
        clear hy651
        replace H := tbe H
        obtain ⟨t656, A17, H⟩ := H
        by_cases c18 : t656 ≤ t648
        ·rw [if_pos c18] at H
         have c18b0 : decide (t656 ≤ t648) = true := decide_eq_true c18
         clear c18
         by_cases c19 : t649 = 0
         ·rw [if_pos c19] at H
          have c19b0 : (t649 == 0) = true := beq_iff_eq.mpr c19
          have c19b1 : (t649 != 0) = false := bne_eq_false_iff_eq.mpr c19
          clear c19
          obtain rfl := Option.some.inj H
          have q20 : (t649 : Int) ≤ ((t645.length : Int) : Int) := td
          obtain ⟨i020, hi020, _, hsz20, _⟩ := info_parts info46
          have hroom20 : t645.length ≤ co8 := (Kd.N_reads' HO_3.out).2.1
          have hC20 : Kd.F k46 _ _ Ao8 t645.length t645 := (Kd.V_at (base := w.heap.size) (Kd.N_V HO_3.out)).2.2
          have q020 : (0 : Int) ≤ (t649 : Int) := td
          have hcut20 := cut_from (P := Try.prog) 23 46 .i64 Try.underlying23 hi020 6 hsz20 Ao8 t645.length co8 t649 q020 q20
          have hr20 := Kd.F_cut (m := (t649 : Int).toNat) (c := co8) hC20 (by omega) hroom20
          obtain ⟨A20, hA20⟩ : ∃ A_, A_ = (if co8 = (t649 : Int).toNat then Ao8 else (Ao8 : Option Addr).map (·.add ((t649 : Int).toNat * 6))) := ⟨_, rfl⟩
          obtain ⟨c20, hc20⟩ : ∃ c_, c_ = co8 - (t649 : Int).toNat := ⟨_, rfl⟩
          have hy20 : y651.length = t645.length - (t649 : Int).toNat := (by rw [Ny651.out, List.length_drop] <;> omega)
          rw [show (t645).drop (t649 : Int).toNat = y651 from Ny651.out.symm] at hr20
          replace hr20 : Kd.F k46 _ _ A20 y651.length y651 := (by rw [hA20]; exact hr20)
          rw [← hy20, ← hA20, ← hc20] at hcut20
          have HO655 := Aside0.mk (show Kd.V k46 46 _ w.heap.size _ (.slice A20 y651.length c20) y651 from Kd.V_mk (by rw [hy20, hc20]; exact Nat.sub_le_sub_right hroom20 _) hr20)
          have HC655 := Aside0.mk (show y651.length ≤ c20 from by rw [hy20, hc20]; exact Nat.sub_le_sub_right hroom20 _)
          clear hr20 hC20 hroom20 hi020 hsz20 hc20
          have KY20 := Aside0.mk hy20
          have KA20 := Aside0.mk hA20
          clear hy20 hA20
          replace q20 := eq_true q20
          go_wp2_with (first | ((with_reducible refine gate_callee (f := 10) rfl ?_); refine goesL_ (some 44) rfl rfl Try.func10 (by kernel_rfl) rfl #[.slice A20 y651.length c20] rfl tq ?_; (with_reducible refine (impl_LogSize.calls kj5 _ _ y651 t656 _ ?side1 ?side2 A17.out).mono ?_); (case side1 => repeat (first | exact (Kd.V_reads' HO655.out).2.2 | (with_reducible refine Kd.C_alloc ?_ _) | (with_reducible refine Kd.C_drewN ?_ _) | (with_reducible refine Kd.C_drew ?_))); (case side2 => exact (Kd.V_reads' HO655.out).2.1); rintro e w21 ⟨rfl, hb⟩; refine ⟨_, rfl, ?_⟩; replace HO_3 := tNb HO_3 hb; replace HO655 := tVb HO655 hb; replace HB := tBs HB hb; (try clear hb); (try clear hb2); (try clear hk); (try clear hi)))
          all_goals go_ret
          all_goals exact ⟨by first | rfl | (simp [errW_none, errW_some] <;> rfl) | (simp [*, errW_none, errW_some] <;> rfl), zb⟩
         ·rw [if_neg c19] at H
          have c19b0 : (t649 == 0) = false := beq_eq_false_iff_ne.mpr c19
          have c19b1 : (t649 != 0) = true := bne_iff_ne.mpr c19
          obtain ⟨ji22, hji22⟩ : ∃ j_ : Int, (wrap64 (t649 - 1)) = j_ := ⟨_, rfl⟩
          replace H : (if 0 ≤ (ji22) then (if (ji22) ≤ (t645.length : Int) then ((impl_LogSize.f kj5 (t645.drop ((ji22) : Int).toNat)).bind fun t662 => (some (decide (t662 > t648)))) else (none)) else (none)) = some r := by first | (rw [hji22] at H; exact H) | (simp only [hji22] at H ⊢; exact H)
          (try rw [hji22] at A17)
          have hji22w : (IntKind.i64.wrap (t649 - 1)) = ji22 := (i64_w _).trans hji22
          by_cases c23 : 0 ≤ (ji22)
          ·rw [if_pos c23] at H
           have c23b0 := eq_true c23
           have c23b1 : decide (0 ≤ (ji22)) = true := decide_eq_true c23
           clear c23
           by_cases c24 : (ji22) ≤ (t645.length : Int)
           ·rw [if_pos c24] at H
            have c24b0 := eq_true c24
            have c24b1 : decide ((ji22) ≤ (t645.length : Int)) = true := decide_eq_true c24
            clear c24
            obtain ⟨y657, hy657⟩ : ∃ y_ : List (S46), y_ = (t645.drop ((ji22) : Int).toNat) := ⟨_, rfl⟩
            replace H : ((impl_LogSize.f kj5 y657).bind fun t662 => (some (decide (t662 > t648)))) = some r := by first | (rw [hy657]; with_reducible exact H) | (have H2_ := (Option.bind_some _ _).symm.trans H; rw [hy657]; with_reducible exact H2_) | (have H2_ := (Option.bind_some _ _).symm.trans H; with_reducible exact H2_) | with_reducible exact H | (rw [hy657]; exact H) | exact H
            have Ny657 := Aside0.mk hy657
            clear hy657
            replace H := tbe H
            obtain ⟨t662, A25, H⟩ := H
            obtain rfl := Option.some.inj H
            have q26 : (t649 : Int) ≤ ((t645.length : Int) : Int) := td
            obtain ⟨i026, hi026, _, hsz26, _⟩ := info_parts info46
            have hroom26 : t645.length ≤ co8 := (Kd.N_reads' HO_3.out).2.1
            have hC26 : Kd.F k46 _ _ Ao8 t645.length t645 := (Kd.V_at (base := w.heap.size) (Kd.N_V HO_3.out)).2.2
            have q026 : (0 : Int) ≤ (t649 : Int) := td
            have hcut26 := cut_from (P := Try.prog) 23 46 .i64 Try.underlying23 hi026 6 hsz26 Ao8 t645.length co8 t649 q026 q26
            have hr26 := Kd.F_cut (m := (t649 : Int).toNat) (c := co8) hC26 (by omega) hroom26
            obtain ⟨A26, hA26⟩ : ∃ A_, A_ = (if co8 = (t649 : Int).toNat then Ao8 else (Ao8 : Option Addr).map (·.add ((t649 : Int).toNat * 6))) := ⟨_, rfl⟩
            obtain ⟨c26, hc26⟩ : ∃ c_, c_ = co8 - (t649 : Int).toNat := ⟨_, rfl⟩
            have hy26 : y651.length = t645.length - (t649 : Int).toNat := (by rw [Ny651.out, List.length_drop] <;> omega)
            rw [show (t645).drop (t649 : Int).toNat = y651 from Ny651.out.symm] at hr26
            replace hr26 : Kd.F k46 _ _ A26 y651.length y651 := (by rw [hA26]; exact hr26)
            rw [← hy26, ← hA26, ← hc26] at hcut26
            have HO655 := Aside0.mk (show Kd.V k46 46 _ w.heap.size _ (.slice A26 y651.length c26) y651 from Kd.V_mk (by rw [hy26, hc26]; exact Nat.sub_le_sub_right hroom26 _) hr26)
            have HC655 := Aside0.mk (show y651.length ≤ c26 from by rw [hy26, hc26]; exact Nat.sub_le_sub_right hroom26 _)
            clear hr26 hC26 hroom26 hi026 hsz26 hc26
            have KY26 := Aside0.mk hy26
            have KA26 := Aside0.mk hA26
            clear hy26 hA26
            replace q26 := eq_true q26
            go_wp2_with (first | ((with_reducible refine gate_callee (f := 10) rfl ?_); refine goesL_ (some 44) rfl rfl Try.func10 (by kernel_rfl) rfl #[.slice A26 y651.length c26] rfl tq ?_; (with_reducible refine (impl_LogSize.calls kj5 _ _ y651 t656 _ ?side1 ?side2 A17.out).mono ?_); (case side1 => repeat (first | exact (Kd.V_reads' HO655.out).2.2 | (with_reducible refine Kd.C_alloc ?_ _) | (with_reducible refine Kd.C_drewN ?_ _) | (with_reducible refine Kd.C_drew ?_))); (case side2 => exact (Kd.V_reads' HO655.out).2.1); rintro e w27 ⟨rfl, hb⟩; refine ⟨_, rfl, ?_⟩; replace HO_3 := tNb HO_3 hb; replace HO655 := tVb HO655 hb; replace HB := tBs HB hb; (try clear hb); (try clear hb2); (try clear hk); (try clear hi); have q28 : ((ji22) : Int) ≤ ((t645.length : Int) : Int) := td; obtain ⟨i028, hi028, _, hsz28, _⟩ := info_parts info46; have hroom28 : t645.length ≤ co8 := (Kd.N_reads' HO_3.out).2.1; have hC28 : Kd.F k46 _ _ Ao8 t645.length t645 := (Kd.V_at (base := w.heap.size) (Kd.N_V HO_3.out)).2.2; have q028 : (0 : Int) ≤ ((ji22) : Int) := td; have hcut28 := cut_from (P := Try.prog) 23 46 .i64 Try.underlying23 hi028 6 hsz28 Ao8 t645.length co8 (ji22) q028 q28; have hr28 := Kd.F_cut (m := ((ji22) : Int).toNat) (c := co8) hC28 (by omega) hroom28; obtain ⟨A28, hA28⟩ : ∃ A_, A_ = (if co8 = ((ji22) : Int).toNat then Ao8 else (Ao8 : Option Addr).map (·.add (((ji22) : Int).toNat * 6))) := ⟨_, rfl⟩; obtain ⟨c28, hc28⟩ : ∃ c_, c_ = co8 - ((ji22) : Int).toNat := ⟨_, rfl⟩; have hy28 : y657.length = t645.length - ((ji22) : Int).toNat := (by rw [Ny657.out, List.length_drop] <;> omega); rw [show (t645).drop ((ji22) : Int).toNat = y657 from Ny657.out.symm] at hr28; replace hr28 : Kd.F k46 _ _ A28 y657.length y657 := (by rw [hA28]; exact hr28); rw [← hy28, ← hA28, ← hc28] at hcut28; have HO661 := Aside0.mk (show Kd.V k46 46 _ w.heap.size _ (.slice A28 y657.length c28) y657 from Kd.V_mk (by rw [hy28, hc28]; exact Nat.sub_le_sub_right hroom28 _) hr28); have HC661 := Aside0.mk (show y657.length ≤ c28 from by rw [hy28, hc28]; exact Nat.sub_le_sub_right hroom28 _); clear hr28 hC28 hroom28 hi028 hsz28 hc28; have KY28 := Aside0.mk hy28; have KA28 := Aside0.mk hA28; clear hy28 hA28; replace q28 := eq_true q28) | (go_at_call 10; (with_reducible refine (impl_LogSize.calls kj5 _ _ y657 t662 _ ?side1 ?side2 A25.out).mono ?_); (case side1 => repeat (first | exact (Kd.V_reads' HO661.out).2.2 | (with_reducible refine Kd.C_alloc ?_ _) | (with_reducible refine Kd.C_drewN ?_ _) | (with_reducible refine Kd.C_drew ?_))); (case side2 => exact (Kd.V_reads' HO661.out).2.1); rintro e w29 ⟨rfl, hb⟩; replace HO_3 := tNb HO_3 hb; replace HO655 := tVb HO655 hb; replace HO661 := tVb HO661 hb; replace HB := tBs HB hb; (try clear hb); (try clear hb2); (try clear hk); (try clear hi)))
            all_goals go_ret
            all_goals exact ⟨by first | rfl | (simp [errW_none, errW_some] <;> rfl) | (simp only [← hji22]; first | rfl | (simp [errW_none, errW_some] <;> rfl)) | (simp [*, errW_none, errW_some] <;> rfl), zb⟩
           ·rw [if_neg c24] at H
            exact absurd H (by simp)
          ·rw [if_neg c23] at H
           exact absurd H (by simp)
        ·rw [if_neg c18] at H
         have c18b0 : decide (t656 ≤ t648) = false := decide_eq_false c18
         clear c18
         by_cases c30 : t649 = (wrap64 ((t645.length : Int) - 1))
         ·rw [if_pos c30] at H
          have c30b0 : (t649 == (wrap64 ((t645.length : Int) - 1))) = true := beq_iff_eq.mpr c30
          have c30b1 : (t649 != (wrap64 ((t645.length : Int) - 1))) = false := bne_eq_false_iff_eq.mpr c30
          clear c30
          by_cases c31 : t649 = 0
          ·rw [if_pos c31] at H
           have c31b0 : (t649 == 0) = true := beq_iff_eq.mpr c31
           have c31b1 : (t649 != 0) = false := bne_eq_false_iff_eq.mpr c31
           clear c31
           obtain rfl := Option.some.inj H
           have q32 : (t649 : Int) ≤ ((t645.length : Int) : Int) := td
           obtain ⟨i032, hi032, _, hsz32, _⟩ := info_parts info46
           have hroom32 : t645.length ≤ co8 := (Kd.N_reads' HO_3.out).2.1
           have hC32 : Kd.F k46 _ _ Ao8 t645.length t645 := (Kd.V_at (base := w.heap.size) (Kd.N_V HO_3.out)).2.2
           have q032 : (0 : Int) ≤ (t649 : Int) := td
           have hcut32 := cut_from (P := Try.prog) 23 46 .i64 Try.underlying23 hi032 6 hsz32 Ao8 t645.length co8 t649 q032 q32
           have hr32 := Kd.F_cut (m := (t649 : Int).toNat) (c := co8) hC32 (by omega) hroom32
           obtain ⟨A32, hA32⟩ : ∃ A_, A_ = (if co8 = (t649 : Int).toNat then Ao8 else (Ao8 : Option Addr).map (·.add ((t649 : Int).toNat * 6))) := ⟨_, rfl⟩
           obtain ⟨c32, hc32⟩ : ∃ c_, c_ = co8 - (t649 : Int).toNat := ⟨_, rfl⟩
           have hy32 : y651.length = t645.length - (t649 : Int).toNat := (by rw [Ny651.out, List.length_drop] <;> omega)
           rw [show (t645).drop (t649 : Int).toNat = y651 from Ny651.out.symm] at hr32
           replace hr32 : Kd.F k46 _ _ A32 y651.length y651 := (by rw [hA32]; exact hr32)
           rw [← hy32, ← hA32, ← hc32] at hcut32
           have HO655 := Aside0.mk (show Kd.V k46 46 _ w.heap.size _ (.slice A32 y651.length c32) y651 from Kd.V_mk (by rw [hy32, hc32]; exact Nat.sub_le_sub_right hroom32 _) hr32)
           have HC655 := Aside0.mk (show y651.length ≤ c32 from by rw [hy32, hc32]; exact Nat.sub_le_sub_right hroom32 _)
           clear hr32 hC32 hroom32 hi032 hsz32 hc32
           have KY32 := Aside0.mk hy32
           have KA32 := Aside0.mk hA32
           clear hy32 hA32
           replace q32 := eq_true q32
           go_wp2_with (first | ((with_reducible refine gate_callee (f := 10) rfl ?_); refine goesL_ (some 44) rfl rfl Try.func10 (by kernel_rfl) rfl #[.slice A32 y651.length c32] rfl tq ?_; (with_reducible refine (impl_LogSize.calls kj5 _ _ y651 t656 _ ?side1 ?side2 A17.out).mono ?_); (case side1 => repeat (first | exact (Kd.V_reads' HO655.out).2.2 | (with_reducible refine Kd.C_alloc ?_ _) | (with_reducible refine Kd.C_drewN ?_ _) | (with_reducible refine Kd.C_drew ?_))); (case side2 => exact (Kd.V_reads' HO655.out).2.1); rintro e w33 ⟨rfl, hb⟩; refine ⟨_, rfl, ?_⟩; replace HO_3 := tNb HO_3 hb; replace HO655 := tVb HO655 hb; replace HB := tBs HB hb; (try clear hb); (try clear hb2); (try clear hk); (try clear hi)))
           all_goals go_ret
           all_goals exact ⟨by first | rfl | (simp [errW_none, errW_some] <;> rfl) | (simp [*, errW_none, errW_some] <;> rfl), zb⟩
          ·rw [if_neg c31] at H
           have c31b0 : (t649 == 0) = false := beq_eq_false_iff_ne.mpr c31
           have c31b1 : (t649 != 0) = true := bne_iff_ne.mpr c31
           obtain ⟨ji34, hji34⟩ : ∃ j_ : Int, (wrap64 (t649 - 1)) = j_ := ⟨_, rfl⟩
           replace H : (if 0 ≤ (ji34) then (if (ji34) ≤ (t645.length : Int) then ((impl_LogSize.f kj5 (t645.drop ((ji34) : Int).toNat)).bind fun t668 => (some (decide (t668 > t648)))) else (none)) else (none)) = some r := by first | (rw [hji34] at H; exact H) | (simp only [hji34] at H ⊢; exact H)
           (try rw [hji34] at A17)
           have hji34w : (IntKind.i64.wrap (t649 - 1)) = ji34 := (i64_w _).trans hji34
           by_cases c35 : 0 ≤ (ji34)
           ·rw [if_pos c35] at H
            have c35b0 := eq_true c35
            have c35b1 : decide (0 ≤ (ji34)) = true := decide_eq_true c35
            clear c35
            by_cases c36 : (ji34) ≤ (t645.length : Int)
            ·rw [if_pos c36] at H
             have c36b0 := eq_true c36
             have c36b1 : decide ((ji34) ≤ (t645.length : Int)) = true := decide_eq_true c36
             clear c36
             obtain ⟨y663, hy663⟩ : ∃ y_ : List (S46), y_ = (t645.drop ((ji34) : Int).toNat) := ⟨_, rfl⟩
             replace H : ((impl_LogSize.f kj5 y663).bind fun t668 => (some (decide (t668 > t648)))) = some r := by first | (rw [hy663]; with_reducible exact H) | (have H2_ := (Option.bind_some _ _).symm.trans H; rw [hy663]; with_reducible exact H2_) | (have H2_ := (Option.bind_some _ _).symm.trans H; with_reducible exact H2_) | with_reducible exact H | (rw [hy663]; exact H) | exact H
             have Ny663 := Aside0.mk hy663
             clear hy663
             replace H := tbe H
             obtain ⟨t668, A37, H⟩ := H
             obtain rfl := Option.some.inj H
             have q38 : (t649 : Int) ≤ ((t645.length : Int) : Int) := td
             obtain ⟨i038, hi038, _, hsz38, _⟩ := info_parts info46
             have hroom38 : t645.length ≤ co8 := (Kd.N_reads' HO_3.out).2.1
             have hC38 : Kd.F k46 _ _ Ao8 t645.length t645 := (Kd.V_at (base := w.heap.size) (Kd.N_V HO_3.out)).2.2
             have q038 : (0 : Int) ≤ (t649 : Int) := td
             have hcut38 := cut_from (P := Try.prog) 23 46 .i64 Try.underlying23 hi038 6 hsz38 Ao8 t645.length co8 t649 q038 q38
             have hr38 := Kd.F_cut (m := (t649 : Int).toNat) (c := co8) hC38 (by omega) hroom38
             obtain ⟨A38, hA38⟩ : ∃ A_, A_ = (if co8 = (t649 : Int).toNat then Ao8 else (Ao8 : Option Addr).map (·.add ((t649 : Int).toNat * 6))) := ⟨_, rfl⟩
             obtain ⟨c38, hc38⟩ : ∃ c_, c_ = co8 - (t649 : Int).toNat := ⟨_, rfl⟩
             have hy38 : y651.length = t645.length - (t649 : Int).toNat := (by rw [Ny651.out, List.length_drop] <;> omega)
             rw [show (t645).drop (t649 : Int).toNat = y651 from Ny651.out.symm] at hr38
             replace hr38 : Kd.F k46 _ _ A38 y651.length y651 := (by rw [hA38]; exact hr38)
             rw [← hy38, ← hA38, ← hc38] at hcut38
             have HO655 := Aside0.mk (show Kd.V k46 46 _ w.heap.size _ (.slice A38 y651.length c38) y651 from Kd.V_mk (by rw [hy38, hc38]; exact Nat.sub_le_sub_right hroom38 _) hr38)
             have HC655 := Aside0.mk (show y651.length ≤ c38 from by rw [hy38, hc38]; exact Nat.sub_le_sub_right hroom38 _)
             clear hr38 hC38 hroom38 hi038 hsz38 hc38
             have KY38 := Aside0.mk hy38
             have KA38 := Aside0.mk hA38
             clear hy38 hA38
             replace q38 := eq_true q38
             go_wp2_with (first | ((with_reducible refine gate_callee (f := 10) rfl ?_); refine goesL_ (some 44) rfl rfl Try.func10 (by kernel_rfl) rfl #[.slice A38 y651.length c38] rfl tq ?_; (with_reducible refine (impl_LogSize.calls kj5 _ _ y651 t656 _ ?side1 ?side2 A17.out).mono ?_); (case side1 => repeat (first | exact (Kd.V_reads' HO655.out).2.2 | (with_reducible refine Kd.C_alloc ?_ _) | (with_reducible refine Kd.C_drewN ?_ _) | (with_reducible refine Kd.C_drew ?_))); (case side2 => exact (Kd.V_reads' HO655.out).2.1); rintro e w39 ⟨rfl, hb⟩; refine ⟨_, rfl, ?_⟩; replace HO_3 := tNb HO_3 hb; replace HO655 := tVb HO655 hb; replace HB := tBs HB hb; (try clear hb); (try clear hb2); (try clear hk); (try clear hi); have q40 : ((ji34) : Int) ≤ ((t645.length : Int) : Int) := td; obtain ⟨i040, hi040, _, hsz40, _⟩ := info_parts info46; have hroom40 : t645.length ≤ co8 := (Kd.N_reads' HO_3.out).2.1; have hC40 : Kd.F k46 _ _ Ao8 t645.length t645 := (Kd.V_at (base := w.heap.size) (Kd.N_V HO_3.out)).2.2; have q040 : (0 : Int) ≤ ((ji34) : Int) := td; have hcut40 := cut_from (P := Try.prog) 23 46 .i64 Try.underlying23 hi040 6 hsz40 Ao8 t645.length co8 (ji34) q040 q40; have hr40 := Kd.F_cut (m := ((ji34) : Int).toNat) (c := co8) hC40 (by omega) hroom40; obtain ⟨A40, hA40⟩ : ∃ A_, A_ = (if co8 = ((ji34) : Int).toNat then Ao8 else (Ao8 : Option Addr).map (·.add (((ji34) : Int).toNat * 6))) := ⟨_, rfl⟩; obtain ⟨c40, hc40⟩ : ∃ c_, c_ = co8 - ((ji34) : Int).toNat := ⟨_, rfl⟩; have hy40 : y663.length = t645.length - ((ji34) : Int).toNat := (by rw [Ny663.out, List.length_drop] <;> omega); rw [show (t645).drop ((ji34) : Int).toNat = y663 from Ny663.out.symm] at hr40; replace hr40 : Kd.F k46 _ _ A40 y663.length y663 := (by rw [hA40]; exact hr40); rw [← hy40, ← hA40, ← hc40] at hcut40; have HO667 := Aside0.mk (show Kd.V k46 46 _ w.heap.size _ (.slice A40 y663.length c40) y663 from Kd.V_mk (by rw [hy40, hc40]; exact Nat.sub_le_sub_right hroom40 _) hr40); have HC667 := Aside0.mk (show y663.length ≤ c40 from by rw [hy40, hc40]; exact Nat.sub_le_sub_right hroom40 _); clear hr40 hC40 hroom40 hi040 hsz40 hc40; have KY40 := Aside0.mk hy40; have KA40 := Aside0.mk hA40; clear hy40 hA40; replace q40 := eq_true q40) | (go_at_call 10; (with_reducible refine (impl_LogSize.calls kj5 _ _ y663 t668 _ ?side1 ?side2 A37.out).mono ?_); (case side1 => repeat (first | exact (Kd.V_reads' HO667.out).2.2 | (with_reducible refine Kd.C_alloc ?_ _) | (with_reducible refine Kd.C_drewN ?_ _) | (with_reducible refine Kd.C_drew ?_))); (case side2 => exact (Kd.V_reads' HO667.out).2.1); rintro e w41 ⟨rfl, hb⟩; replace HO_3 := tNb HO_3 hb; replace HO655 := tVb HO655 hb; replace HO667 := tVb HO667 hb; replace HB := tBs HB hb; (try clear hb); (try clear hb2); (try clear hk); (try clear hi)))
             all_goals go_ret
             all_goals exact ⟨by first | rfl | (simp [errW_none, errW_some] <;> rfl) | (simp only [← hji34]; first | rfl | (simp [errW_none, errW_some] <;> rfl)) | (simp [*, errW_none, errW_some] <;> rfl), zb⟩
            ·rw [if_neg c36] at H
             exact absurd H (by simp)
           ·rw [if_neg c35] at H
            exact absurd H (by simp)
         ·rw [if_neg c30] at H
          have c30b0 : (t649 == (wrap64 ((t645.length : Int) - 1))) = false := beq_eq_false_iff_ne.mpr c30
          have c30b1 : (t649 != (wrap64 ((t645.length : Int) - 1))) = true := bne_iff_ne.mpr c30
          obtain rfl := Option.some.inj H
          have q42 : (t649 : Int) ≤ ((t645.length : Int) : Int) := td
          obtain ⟨i042, hi042, _, hsz42, _⟩ := info_parts info46
          have hroom42 : t645.length ≤ co8 := (Kd.N_reads' HO_3.out).2.1
          have hC42 : Kd.F k46 _ _ Ao8 t645.length t645 := (Kd.V_at (base := w.heap.size) (Kd.N_V HO_3.out)).2.2
          have q042 : (0 : Int) ≤ (t649 : Int) := td
          have hcut42 := cut_from (P := Try.prog) 23 46 .i64 Try.underlying23 hi042 6 hsz42 Ao8 t645.length co8 t649 q042 q42
          have hr42 := Kd.F_cut (m := (t649 : Int).toNat) (c := co8) hC42 (by omega) hroom42
          obtain ⟨A42, hA42⟩ : ∃ A_, A_ = (if co8 = (t649 : Int).toNat then Ao8 else (Ao8 : Option Addr).map (·.add ((t649 : Int).toNat * 6))) := ⟨_, rfl⟩
          obtain ⟨c42, hc42⟩ : ∃ c_, c_ = co8 - (t649 : Int).toNat := ⟨_, rfl⟩
          have hy42 : y651.length = t645.length - (t649 : Int).toNat := (by rw [Ny651.out, List.length_drop] <;> omega)
          rw [show (t645).drop (t649 : Int).toNat = y651 from Ny651.out.symm] at hr42
          replace hr42 : Kd.F k46 _ _ A42 y651.length y651 := (by rw [hA42]; exact hr42)
          rw [← hy42, ← hA42, ← hc42] at hcut42
          have HO655 := Aside0.mk (show Kd.V k46 46 _ w.heap.size _ (.slice A42 y651.length c42) y651 from Kd.V_mk (by rw [hy42, hc42]; exact Nat.sub_le_sub_right hroom42 _) hr42)
          have HC655 := Aside0.mk (show y651.length ≤ c42 from by rw [hy42, hc42]; exact Nat.sub_le_sub_right hroom42 _)
          clear hr42 hC42 hroom42 hi042 hsz42 hc42
          have KY42 := Aside0.mk hy42
          have KA42 := Aside0.mk hA42
          clear hy42 hA42
          replace q42 := eq_true q42
          go_wp2_with (first | ((with_reducible refine gate_callee (f := 10) rfl ?_); refine goesL_ (some 44) rfl rfl Try.func10 (by kernel_rfl) rfl #[.slice A42 y651.length c42] rfl tq ?_; (with_reducible refine (impl_LogSize.calls kj5 _ _ y651 t656 _ ?side1 ?side2 A17.out).mono ?_); (case side1 => repeat (first | exact (Kd.V_reads' HO655.out).2.2 | (with_reducible refine Kd.C_alloc ?_ _) | (with_reducible refine Kd.C_drewN ?_ _) | (with_reducible refine Kd.C_drew ?_))); (case side2 => exact (Kd.V_reads' HO655.out).2.1); rintro e w43 ⟨rfl, hb⟩; refine ⟨_, rfl, ?_⟩; replace HO_3 := tNb HO_3 hb; replace HO655 := tVb HO655 hb; replace HB := tBs HB hb; (try clear hb); (try clear hb2); (try clear hk); (try clear hi)))
          all_goals go_ret
          all_goals exact ⟨by first | rfl | (simp [errW_none, errW_some] <;> rfl) | (simp [*, errW_none, errW_some] <;> rfl), zb⟩
       ·rw [if_neg c16] at H
        exact absurd H (by simp)
      ·rw [if_neg c15] at H
       exact absurd H (by simp)

end Go.Proofs.Ythoioccmnphfgaa.G

namespace Go.Proofs.Ythoioccmnphfgaa.Rd
open Go.RowKit Go.Proofs.YthoioccmnphfgaaW.PrintWords
set_option linter.unusedVariables false
section
variable {H : Type} {enc : TypeId × Value → H} {P : Program} {w : World} {base : Nat} {spare : Nat → Bool} {held : Bool}
/-- What a reading of type t gives: a value of the kind, and what is known of it. -/
def Opens (enc : TypeId × Value → H) (P : Program) (w : World) (base : Nat) (spare : Nat → Bool) (held : Bool) {α : Type} (t : TypeId) (d : Kd α) (ok : α → Prop) : Prop :=
  P.cellsOf t = d.sz ∧ ∀ fuel cs x, DataW.trod enc P w base spare held fuel t cs = some x → ∃ v, d.K w v cs ∧ ok v
theorem Opens.imp_ {α : Type} {t : TypeId} {d : Kd α} {ok ok' : α → Prop} (h : Opens enc P w base spare held t d ok) (hi : ∀ v, ok v → ok' v) : Opens enc P w base spare held t d ok' :=
  ⟨h.1, fun fuel cs x hx => by
    obtain ⟨v, hk, ho⟩ := h.2 fuel cs x hx
    exact ⟨v, hk, hi v ho⟩⟩
theorem opens_int {t : TypeId} {k : IntKind} (ht : P.underlying t = some (.int k)) (hc : P.cellsOf t = 1) : Opens enc P w base spare held t (Kd.int k) (fun n => (Lit.int k n).wf = true) := by
  refine ⟨hc, fun fuel cs x h => ?_⟩
  obtain ⟨n, rfl, _, hw⟩ := DataW.trod_int ht h
  exact ⟨n, rfl, hw⟩
theorem cells_len {base : Nat} {a : Addr} {n : Nat} {cs : List Value} (h : w.cells? base a n = some cs) : cs.length = n ∧ ∀ i u, cs[i]? = some u → w.cell? (a.add i) = some u := by
  unfold World.cells? at h
  split at h
  · rename_i hb
    refine ⟨by simpa using mapM_some_length h, fun i u hu => ?_⟩
    have hi : i < n := by
      have := (List.getElem?_eq_some_iff.1 hu).1
      have h2 : cs.length = n := by simpa using mapM_some_length h
      omega
    have := mapM_some_get h i i (by simp [hi])
    rw [hu] at this
    exact this
  · simp at h
theorem opens_row {α : Type} {t e : TypeId} {d : Kd α} {ok : α → Prop} (ht : P.underlying t = some (.slice e)) (hd : Opens enc P w base spare held e d ok) {fuel : Nat} {cs : List Value} {x : DataW H × List MemPlace}
    (h : DataW.trod enc P w base spare held fuel t cs = some x) : ∃ (A : Option Addr) (c : Nat) (xs : List α), cs = [.slice A xs.length c] ∧ xs.length ≤ c ∧ c ≤ maxLen ∧ d.C w A xs.length xs ∧ ∀ y ∈ xs, ok y := by
  rcases Go.Deep.open_slice ht h with ⟨rfl, _⟩ | ⟨a, len, cap, m, n, D, Pl, rfl, hb, hl, hm, hmm, _, hel⟩
  · exact ⟨none, 0, [], rfl, Nat.le_refl _, by unfold maxLen; omega, ⟨rfl, by simp, fun h0 => absurd h0 (by simp)⟩, by simp⟩
  have hlm : len ≤ m := by rw [hmm]; split <;> omega
  have hx : ∀ i, i < len → ∃ y : α, ok y ∧ ∃ c, c.length = d.sz ∧ d.K w y c ∧ ∀ j u, c[j]? = some u → w.cell? (a.add (i * d.sz + j)) = some u := by
    intro i hi
    obtain ⟨cs', h1, h2⟩ := hel i (by omega)
    obtain ⟨y, hk, ho⟩ := hd.2 _ _ _ h2
    obtain ⟨hl', hc'⟩ := cells_len h1
    refine ⟨y, ho, cs', by rw [hl', hd.1], hk, fun j u hu => ?_⟩
    have := hc' j u hu
    rw [Go.Deep.add_add, hd.1] at this
    exact this
  rcases Nat.eq_zero_or_pos len with h0 | h0
  · subst h0
    exact ⟨some a, cap, [], rfl, Nat.zero_le _, hm, ⟨rfl, by simp, fun h1 => absurd h1 (by simp)⟩, by simp⟩
  obtain ⟨y0, _⟩ := hx 0 h0
  haveI : Inhabited α := ⟨y0⟩
  obtain ⟨g, hg⟩ := Go.Deep.choose_lt hx
  have hlen : ((List.range len).map g).length = len := by simp
  refine ⟨some a, cap, (List.range len).map g, by rw [hlen], by rw [hlen]; exact hl, hm, ⟨rfl, by rw [hlen]; unfold maxLen at hm; omega, fun _ => ⟨a, rfl, fun j p hj => ?_⟩⟩, fun y hy => ?_⟩
  · have hj' : j < len := by
      have := (List.getElem?_eq_some_iff.1 hj).1
      omega
    rw [List.getElem?_map, List.getElem?_range hj'] at hj
    simp at hj
    subst hj
    obtain ⟨_, c, hc1, hc2, hc3⟩ := hg j hj'
    exact ⟨c, hc1, hc2, hc3⟩
  · obtain ⟨i, hi, rfl⟩ := List.mem_map.1 hy
    exact (hg i (List.mem_range.1 hi)).1
end
end Go.Proofs.Ythoioccmnphfgaa.Rd

namespace Go.Proofs.Ythoioccmnphfgaa.OFnKeep
open Go.RowKit Go.Proofs.YthoioccmnphfgaaW.PrintWords Go.Proofs.Ythoioccmnphfgaa.G
set_option linter.unusedVariables false
def Pure : Prop := ∀ (l0 : List Int), l0.length ≤ maxLen → (∀ y ∈ l0, (Lit.int .u8 y).wf = true) → ∃ k, laws_FnKeep.f k l0 = some true
end Go.Proofs.Ythoioccmnphfgaa.OFnKeep

namespace Go.Proofs.Ythoioccmnphfgaa.Pu
open Go.RowKit Go.Proofs.YthoioccmnphfgaaW.PrintWords Go.Proofs.YthoioccmnphfgaaW.PrintLast Go.Proofs.YthoioccmnphfgaaW.PrintMore Go.Proofs.Ythoioccmnphfgaa.G
theorem sBatchValid_ev (b : S46) (_ : RowR b.f5) : Ev (fun k => spec_BatchValid.f k b.f0 b.f1 b.f2 b.f3 b.f4 b.f5) (batOk b) := Ev.now _
end Go.Proofs.Ythoioccmnphfgaa.Pu

namespace Go.Proofs.Ythoioccmnphfgaa.Pu
open Go.RowKit Go.Proofs.YthoioccmnphfgaaW.PrintWords Go.Proofs.YthoioccmnphfgaaW.PrintLast Go.Proofs.YthoioccmnphfgaaW.PrintMore Go.Proofs.Ythoioccmnphfgaa.G
theorem LogValid_ev (l : List S46) (_ : RowB l) : Ev (fun k => impl_LogValid.f k l) (logOk l) := Ev.now _
theorem sLogValid_ev (l : List S46) (_ : RowB l) : Ev (fun k => spec_LogValid.f k l) (logOk l) := Ev.now _
end Go.Proofs.Ythoioccmnphfgaa.Pu

namespace Go.Proofs.Ythoioccmnphfgaa.Pu
open Go
theorem i64_mask (m : Nat) (hm : m ≤ 62) (n : Int) (h : (BitVec.ofInt 64 ((2 ^ m - 1 : Nat) : Int)).toNat = 2 ^ m - 1) : bits .and .i64 n ((2 ^ m - 1 : Nat) : Int) = n % (2 ^ m : Nat) := by
  have key : (BitVec.ofInt 64 n &&& BitVec.ofInt 64 ((2 ^ m - 1 : Nat) : Int)).toNat = (n % ((2 ^ 64 : Nat) : Int)).toNat % 2 ^ m := by
    rw [BitVec.toNat_and, BitVec.toNat_ofInt, h, Nat.and_two_pow_sub_one_eq_mod]
  show IntKind.i64.wrap ((BitVec.ofInt 64 n &&& BitVec.ofInt 64 ((2 ^ m - 1 : Nat) : Int)).toNat : Nat) = n % (2 ^ m : Nat)
  have hp : 2 ^ m ≤ 2 ^ 62 := Nat.pow_le_pow_right (by decide) hm
  have hp0 : 0 < 2 ^ m := Nat.pow_pos (by decide)
  have hd : 2 ^ m ∣ 2 ^ 64 := Nat.pow_dvd_pow 2 (by omega)
  have hlt := Nat.mod_lt (n % ((2 ^ 64 : Nat) : Int)).toNat hp0
  rw [key, IntKind.wrap_i64]
  have e1 : (((n % ((2 ^ 64 : Nat) : Int)).toNat % 2 ^ m : Nat) : Int) = n % ((2 ^ m : Nat) : Int) := by
    rw [Int.natCast_emod, Int.toNat_of_nonneg (Int.emod_nonneg _ (by decide))]
    exact Int.emod_emod_of_dvd n (Int.natCast_dvd_natCast.2 hd)
  rw [e1]
  have g1 := Int.emod_nonneg n (b := ((2 ^ m : Nat) : Int)) (by omega)
  have g2 := Int.emod_lt_of_pos n (b := ((2 ^ m : Nat) : Int)) (by omega)
  omega
theorem i64_and127 (n : Int) : bits .and .i64 n 127 = n % 128 := i64_mask 7 (by decide) n (by decide)
end Go.Proofs.Ythoioccmnphfgaa.Pu

