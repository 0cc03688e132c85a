/- A text of seat Ythoioccmnphfgaa: what the law FnKeepAll needs of this repo's texts (by pack.py). Not trusted: Lean checks it. -/
import Derived.Test.YthoioccmnphfgaaKFnKeepAll9
import Derived.Deep.Slices
import Derived.SizedLaws
import Derived.Laws.BitsLemmas
namespace Go.Proofs.Ythoioccmnphfgaa.G
open Go.RowKit Go.Proofs.YthoioccmnphfgaaW.PrintWords Go.Proofs.YthoioccmnphfgaaW.PrintLast Go.Proofs.YthoioccmnphfgaaW.PrintMore
attribute [local go_sem] max2_int min2_int max_two min_two max_three min_three max_four min_four   -- for this text's walks alone
set_option linter.unusedVariables false
set_option linter.unusedSimpArgs false

mutual
def spec_l5Bytes.j0 : Nat → List Int → Int → Bool → Bool → Int → Int → Int → List (S63) → Option (List Int)
 | 0, _, _, _, _, _, _, _, _ => none
 | k + 1, x3, x4, x521000, x521001, x521002, x521003, x521004, x521005 => if x521001 = true then (spec_l5Bytes.j1 k x3 (wrap64 (x4 + 2)) x521000 x521001 x521002 x521003 x521004 x521005) else (spec_l5Bytes.j1 k x3 x4 x521000 x521001 x521002 x521003 x521004 x521005)
def spec_l5Bytes.j1 : Nat → List Int → Int → Bool → Bool → Int → Int → Int → List (S63) → Option (List Int)
 | 0, _, _, _, _, _, _, _, _ => none
 | k + 1, x3, x4, x521000, x521001, x521002, x521003, x521004, x521005 => (some (([x4, x521002, x521003] : List Int) : List Int)).bind fun y527 => ((spec_l2Int.f k x521004 2).bind fun t530 => (if y527.length + t530.length < 17592186044416 then ((some (y527 ++ t530 : List Int)).bind fun y533 => (if 0 < (x521005.length : Int) then ((spec_l2Int.f k ((rd_T63 x521005 0).f1) 3).bind fun t537 => (if y533.length + t537.length < 17592186044416 then ((some (y533 ++ t537 : List Int)).bind fun y540 => ((some (([(x521005.length : Int), 0, 0] : List Int) : List Int)).bind fun y543 => (if y540.length + y543.length < 17592186044416 then ((some (y540 ++ y543 : List Int)).bind fun y546 => (if y546.length + x3.length < 17592186044416 then ((some (y546 ++ x3 : List Int)).bind fun y549 => ((spec_l2Int.f k ((rd_T63 x521005 0).f0) 3).bind fun t553 => ((spec_l2Int.f k (y549.length : Int) 2).bind fun t556 => (if t553.length + t556.length < 17592186044416 then ((some (t553 ++ t556 : List Int)).bind fun y559 => ((spec_l2Sum.f k y549).bind fun t562 => ((spec_l2Int.f k t562 2).bind fun t563 => (if y559.length + t563.length < 17592186044416 then ((some (y559 ++ t563 : List Int)).bind fun y566 => (if y566.length + y549.length < 17592186044416 then (some (y566 ++ y549)) else (none))) else (none))))) else (none))))) else (none))) else (none)))) else (none))) else (none))) else (none)))
end
def spec_l5Bytes.f (k : Nat) (a0_0 : Bool) (a0_1 : Bool) (a0_2 : Int) (a0_3 : Int) (a0_4 : Int) (l0_5 : List (S63)) : Option (List Int) := (spec_l5Body.f k a0_0 a0_1 a0_2 a0_3 a0_4 l0_5).bind fun t521 => (if a0_0 = true then ((spec_l4Pack.f k t521).bind fun t524 => (spec_l5Bytes.j0 k t524 (0 + 1) a0_0 a0_1 a0_2 a0_3 a0_4 l0_5)) else (spec_l5Bytes.j0 k t521 0 a0_0 a0_1 a0_2 a0_3 a0_4 l0_5))
def spec_l5Bytes.T8 : Bool × List (List Nat × List Nat) := (true, [([], []), ([], []), ([1], [1]), ([], []), ([3], [3]), ([0, 2, 4], [0, 2, 4]), ([], []), ([6], [6]), ([7], [7]), ([5, 8, 8], [5, 8]), ([9, 9, 0, 1, 2, 3, 4, 5, 6, 7, 8, 9], [9])])
def spec_l5Bytes.B8 : List Nat := [0, 0, 2, 0, 8, 31, 0, 64, 192, 511, 1023]
theorem spec_l5Bytes.tab8 : rtab .any (opsOf Try.f41 8) = spec_l5Bytes.T8 := by kernel_rfl
theorem spec_l5Bytes.bits8 : waitsOk spec_l5Bytes.T8.2 spec_l5Bytes.B8 = true := by kernel_rfl
set_option maxHeartbeats 8000000 in
set_option maxRecDepth 100000 in
theorem spec_l5Bytes.calls (k : Nat) (a0_0 : Bool) (a0_1 : Bool) (a0_2 : Int) (a0_3 : Int) (a0_4 : Int) (A0_5 : Option Addr) (c0_5 : Nat) (l0_5 : List (S63)) (r : List Int) (w : World) (hr0_5 : Kd.C k63 w A0_5 l0_5.length l0_5) (hc0_5 : l0_5.length ≤ c0_5) (h : spec_l5Bytes.f k a0_0 a0_1 a0_2 a0_3 a0_4 l0_5 = some r) :
  Calls Try.prog 41 #[.agg #[.bool a0_0, .bool a0_1, .int .i64 a0_2, .int .i64 a0_3, .int .i64 a0_4, .slice A0_5 l0_5.length c0_5]] w fun e w' => ∃ v0_ : Value, e = .returned (v0_) ∧ Kd.R (Kd.int .i64) 3 w' w.heap.size (fun _ => True) v0_ r ∧ Below w.heap.size w w' := by
 have hu46 := Try.underlying46
 have HR0_5 := Aside0.mk hr0_5
 have HC0_5 := Aside0.mk hc0_5
 clear hr0_5 hc0_5
 have HB := Aside0.mk (Below.refl w.heap.size w)
 have H : ((spec_l5Body.f k a0_0 a0_1 a0_2 a0_3 a0_4 l0_5).bind fun t521 => (if a0_0 = true then ((spec_l4Pack.f k t521).bind fun t524 => (spec_l5Bytes.j0 k t524 (0 + 1) a0_0 a0_1 a0_2 a0_3 a0_4 l0_5)) else (spec_l5Bytes.j0 k t521 0 a0_0 a0_1 a0_2 a0_3 a0_4 l0_5))) = some r := h
 clear h
 replace H := tbe H
 obtain ⟨t521, A2, H⟩ := H
 have HC3 := Aside0.mk H
 clear H
 go_enter Try.func41, Try.ntmps41
 go_upto_if 10 with (first | ((with_reducible refine gate_dst (N := 1) rfl ?_); refine box_event ?hg (N := 1) ?hd (cs := #[.bool a0_0, .bool a0_1, .int .i64 a0_2, .int .i64 a0_3, .int .i64 a0_4, .slice A0_5 l0_5.length c0_5]) (t := 46) ?hr ?_; (case hd => rfl); (case hg => rfl); (case hr => first | (go_simp; done) | (go_simp; rfl)); intro gb520 hg w4 hbox hb; have BK520 := Aside0.mk (hbox); have GW520 := tge HB hg; have GE520 := tge HB hg; replace HB := tBs HB hb; clear hb hbox hg; obtain ⟨hcz5_0, hcz5_1, hcz5_2, hcz5_3, hcz5_4, hcz5_5, hfz5_0, hfz5_1, hfz5_2, hfz5_3, hfz5_4, hfz5_5⟩ := cells6 BK520.out) | ((with_reducible refine gate_callee (f := 54) rfl ?_); refine goesL_ (some 8) rfl rfl Try.func54 (by kernel_rfl) rfl #[.agg #[.bool a0_0, .bool a0_1, .int .i64 a0_2, .int .i64 a0_3, .int .i64 a0_4, .slice A0_5 l0_5.length c0_5]] rfl tq ?_; (with_reducible refine (spec_l5Body.calls k a0_0 a0_1 a0_2 a0_3 a0_4 _ _ l0_5 t521 _ ?side1 ?side2 A2.out).mono ?_); (case side1 => exact tC (Kd.C_below HR0_5.out HB.out)); (case side2 => exact HC0_5.out); rintro e w6 ⟨v522, rfl, ho0, hb⟩; have u_v522 := tsv Try.prog v522 ho0; refine ⟨_, rfl, ?_⟩; have HO523 := tRl ho0 HB; replace BK520 := tBb BK520 hb; replace HB := tBs HB hb; (try clear hb); (try clear hb2); (try clear hk); (try clear hi); (try clear ho0); obtain ⟨hcz7_0, hcz7_1, hcz7_2, hcz7_3, hcz7_4, hcz7_5, hfz7_0, hfz7_1, hfz7_2, hfz7_3, hfz7_4, hfz7_5⟩ := cells6 BK520.out))
 (try simp only [Act.put, List.setIfInBounds_toArray, List.set_cons_zero, List.set_cons_succ])
 go_cut [3, 4] (fun v3 v4 wc => ∃ (kq : Nat) (x3_2 : List Int) (x4_2 : Int), v4 = .int .i64 x4_2 ∧ Aside0 (spec_l5Bytes.j0 kq x3_2 x4_2 a0_0 a0_1 a0_2 a0_3 a0_4 l0_5 = some r) ∧ Aside0 (kq ≤ k) ∧ Aside0 (Kd.R (Kd.int .i64) 3 wc w.heap.size (fun _ => True) v3 x3_2) ∧ Aside0 (wc.heap[gb520]? = some (.cells #[.bool a0_0, .bool a0_1, .int .i64 a0_2, .int .i64 a0_3, .int .i64 a0_4, (.slice A0_5 l0_5.length c0_5)] 46 (0, 0))) ∧ Aside0 (Below w.heap.size w wc))
 case first =>
  have H := HC3.out
  clear HC3
  by_cases c8 : a0_0 = true
  ·subst c8
   rw [if_pos rfl] at H
   replace H := tbe H
   obtain ⟨t524, A9, H⟩ := H
   have H' := Aside0.mk H
   clear H
   obtain ⟨Ao10, co10, eo10⟩ := Kd.R_slice HO523.out
   subst eo10
   go_wp2_with (first | ((with_reducible refine gate_callee (f := 55) rfl ?_); refine goesL_ (some 12) rfl rfl Try.func55 (by kernel_rfl) rfl #[.slice Ao10 t521.length co10] rfl tq ?_; (with_reducible refine (spec_l4Pack.calls k _ _ t521 t524 _ ?side1 ?side2 A9.out).mono ?_); (case side1 => repeat (first | exact (Kd.R_reads' HO523.out).2.2 | (with_reducible refine Kd.C_alloc ?_ _) | (with_reducible refine Kd.C_drewN ?_ _) | (with_reducible refine Kd.C_drew ?_))); (case side2 => exact (Kd.R_reads' HO523.out).2.1); rintro e w11 ⟨v525, rfl, ho0, hb⟩; have u_v525 := tsv Try.prog v525 ho0; refine ⟨_, rfl, ?_⟩; have HO526 := Aside0.mk (Kd.R_lower (Kd.R_new' ho0 (Kd.R_lt (tR HO523.out))) (below_size zb)); replace HO523 := Aside0.mk (Kd.R_elder' (tR HO523.out) (Kd.R_base ho0) hb); replace BK520 := tBb BK520 hb; replace HB := tBs HB hb; (try clear hb); (try clear hb2); (try clear hk); (try clear hi); (try clear ho0)))
   go_meet
   case rel => exact ⟨_, (t524), (0 + 1), tr, H', ⟨by first | omega | exact Nat.le_refl _⟩, ⟨tRm HO526.out⟩, ⟨tH BK520.out⟩, ⟨zb⟩⟩
  ·replace c8 := Bool.eq_false_iff.mpr c8
   subst c8
   rw [if_neg (show ¬ (false = true) by decide)] at H
   have H' := Aside0.mk H
   clear H
   go_wp2
   go_meet
   case rel => exact ⟨_, (t521), (0), tr, H', ⟨by first | omega | exact Nat.le_refl _⟩, ⟨tR HO523.out⟩, ⟨tH BK520.out⟩, ⟨zb⟩⟩
 case rest =>
  clear HC3
  try clear hcz5_0; try clear hcz5_1; try clear hcz5_2; try clear hcz5_3; try clear hcz5_4; try clear hcz5_5; try clear hcz7_0; try clear hcz7_1; try clear hcz7_2; try clear hcz7_3; try clear hcz7_4; try clear hcz7_5; try clear hfz5_0; try clear hfz5_1; try clear hfz5_2; try clear hfz5_3; try clear hfz5_4; try clear hfz5_5; try clear hfz7_0; try clear hfz7_1; try clear hfz7_2; try clear hfz7_3; try clear hfz7_4; try clear hfz7_5
  obtain ⟨kq, x3_2, x4_2, rfl, HA, HJ2, HO_3, BK520, HB⟩ := hcut
  cases kq with
  | zero => exact absurd HA.out (by simp [spec_l5Bytes.j0])
  | succ kj2 =>
   have H := HA.out
   clear HA
   simp only [spec_l5Bytes.j0] at H
   have HC12 := Aside0.mk H
   clear H
   obtain ⟨hcz13_0, hcz13_1, hcz13_2, hcz13_3, hcz13_4, hcz13_5, hfz13_0, hfz13_1, hfz13_2, hfz13_3, hfz13_4, hfz13_5⟩ := cells6 BK520.out
   go_upto_if 16 with (fail)
   go_cut [4] (fun v4 wc => ∃ (kq : Nat) (x4_11 : Int), v4 = .int .i64 x4_11 ∧ Aside0 (spec_l5Bytes.j1 kq x3_2 x4_11 a0_0 a0_1 a0_2 a0_3 a0_4 l0_5 = some r) ∧ Aside0 (kq ≤ kj2) ∧ Aside0 (Kd.R (Kd.int .i64) 3 wc w.heap.size (fun _ => True) u3 x3_2) ∧ Aside0 (wc.heap[gb520]? = some (.cells #[.bool a0_0, .bool a0_1, .int .i64 a0_2, .int .i64 a0_3, .int .i64 a0_4, (.slice A0_5 l0_5.length c0_5)] 46 (0, 0))) ∧ Aside0 (Below w.heap.size w wc))
   case first =>
    have H := HC12.out
    clear HC12
    by_cases c14 : a0_1 = true
    ·subst c14
     rw [if_pos rfl] at H
     have H' := Aside0.mk H
     clear H
     go_wp2
     go_meet
     case rel => exact ⟨_, (wrap64 (x4_2 + 2)), tr, H', ⟨by have := HJ2.out; first | omega | exact Nat.le_refl _⟩, ⟨tR HO_3.out⟩, ⟨tH BK520.out⟩, ⟨zb⟩⟩
    ·replace c14 := Bool.eq_false_iff.mpr c14
     subst c14
     rw [if_neg (show ¬ (false = true) by decide)] at H
     have H' := Aside0.mk H
     clear H
     go_wp2
     go_meet
     case rel => exact ⟨_, (x4_2), tr, H', ⟨by have := HJ2.out; first | omega | exact Nat.le_refl _⟩, ⟨tR HO_3.out⟩, ⟨tH BK520.out⟩, ⟨zb⟩⟩
   case rest =>
    clear HC12
    try clear hcz13_0; try clear hcz13_1; try clear hcz13_2; try clear hcz13_3; try clear hcz13_4; try clear hcz13_5; try clear hcz5_0; try clear hcz5_1; try clear hcz5_2; try clear hcz5_3; try clear hcz5_4; try clear hcz5_5; try clear hcz7_0; try clear hcz7_1; try clear hcz7_2; try clear hcz7_3; try clear hcz7_4; try clear hcz7_5; try clear hfz13_0; try clear hfz13_1; try clear hfz13_2; try clear hfz13_3; try clear hfz13_4; try clear hfz13_5; try clear hfz5_0; try clear hfz5_1; try clear hfz5_2; try clear hfz5_3; try clear hfz5_4; try clear hfz5_5; try clear hfz7_0; try clear hfz7_1; try clear hfz7_2; try clear hfz7_3; try clear hfz7_4; try clear hfz7_5
    obtain ⟨kq, x4_11, rfl, HA, HJ11, HO_3, BK520, HB⟩ := hcut
    cases kq with
    | zero => exact absurd HA.out (by simp [spec_l5Bytes.j1])
    | succ kj11 =>
     have H := HA.out
     clear HA
     simp only [spec_l5Bytes.j1] at H
     obtain ⟨y527, hy527⟩ : ∃ y_ : List Int, y_ = (([x4_11, a0_2, a0_3] : List Int)) := ⟨_, rfl⟩
     replace H : ((spec_l2Int.f kj11 a0_4 2).bind fun t530 => (if y527.length + t530.length < 17592186044416 then ((some (y527 ++ t530 : List Int)).bind fun y533 => (if 0 < (l0_5.length : Int) then ((spec_l2Int.f kj11 ((rd_T63 l0_5 0).f1) 3).bind fun t537 => (if y533.length + t537.length < 17592186044416 then ((some (y533 ++ t537 : List Int)).bind fun y540 => ((some (([(l0_5.length : Int), 0, 0] : List Int) : List Int)).bind fun y543 => (if y540.length + y543.length < 17592186044416 then ((some (y540 ++ y543 : List Int)).bind fun y546 => (if y546.length + x3_2.length < 17592186044416 then ((some (y546 ++ x3_2 : List Int)).bind fun y549 => ((spec_l2Int.f kj11 ((rd_T63 l0_5 0).f0) 3).bind fun t553 => ((spec_l2Int.f kj11 (y549.length : Int) 2).bind fun t556 => (if t553.length + t556.length < 17592186044416 then ((some (t553 ++ t556 : List Int)).bind fun y559 => ((spec_l2Sum.f kj11 y549).bind fun t562 => ((spec_l2Int.f kj11 t562 2).bind fun t563 => (if y559.length + t563.length < 17592186044416 then ((some (y559 ++ t563 : List Int)).bind fun y566 => (if y566.length + y549.length < 17592186044416 then (some (y566 ++ y549)) else (none))) else (none))))) else (none))))) else (none))) else (none)))) else (none))) else (none))) else (none))) = some r := by first | (rw [hy527]; with_reducible exact H) | (have H2_ := (Option.bind_some _ _).symm.trans H; rw [hy527]; with_reducible exact H2_) | (have H2_ := (Option.bind_some _ _).symm.trans H; with_reducible exact H2_) | with_reducible exact H | (rw [hy527]; exact H) | exact H
     have Ny527 := Aside0.mk hy527
     clear hy527
     replace H := tbe H
     obtain ⟨t530, A15, H⟩ := H
     by_cases c16 : y527.length + t530.length < 17592186044416
     ·rw [if_pos c16] at H
      have LMc16 := Aside0.mk c16
      clear c16
      obtain ⟨y533, hy533⟩ : ∃ y_ : List Int, y_ = (y527 ++ t530) := ⟨_, rfl⟩
      replace H : (if 0 < (l0_5.length : Int) then ((spec_l2Int.f kj11 ((rd_T63 l0_5 0).f1) 3).bind fun t537 => (if y533.length + t537.length < 17592186044416 then ((some (y533 ++ t537 : List Int)).bind fun y540 => ((some (([(l0_5.length : Int), 0, 0] : List Int) : List Int)).bind fun y543 => (if y540.length + y543.length < 17592186044416 then ((some (y540 ++ y543 : List Int)).bind fun y546 => (if y546.length + x3_2.length < 17592186044416 then ((some (y546 ++ x3_2 : List Int)).bind fun y549 => ((spec_l2Int.f kj11 ((rd_T63 l0_5 0).f0) 3).bind fun t553 => ((spec_l2Int.f kj11 (y549.length : Int) 2).bind fun t556 => (if t553.length + t556.length < 17592186044416 then ((some (t553 ++ t556 : List Int)).bind fun y559 => ((spec_l2Sum.f kj11 y549).bind fun t562 => ((spec_l2Int.f kj11 t562 2).bind fun t563 => (if y559.length + t563.length < 17592186044416 then ((some (y559 ++ t563 : List Int)).bind fun y566 => (if y566.length + y549.length < 17592186044416 then (some (y566 ++ y549)) else (none))) else (none))))) else (none))))) else (none))) else (none)))) else (none))) else (none)) = some r := by first | (rw [hy533]; with_reducible exact H) | (have H2_ := (Option.bind_some _ _).symm.trans H; rw [hy533]; with_reducible exact H2_) | (have H2_ := (Option.bind_some _ _).symm.trans H; with_reducible exact H2_) | with_reducible exact H | (rw [hy533]; exact H) | exact H
      have Ny533 := Aside0.mk hy533
      clear hy533
      by_cases c17 : 0 < (l0_5.length : Int)
      ·rw [if_pos c17] at H
       have c17b0 : decide (0 < (l0_5.length : Int)) = true := decide_eq_true c17
       have c17b1 : decide (0 < l0_5.length) = true := decide_eq_true (by omega)
       clear c17
       replace H := tbe H
       obtain ⟨t537, A18, H⟩ := H
       by_cases c19 : y533.length + t537.length < 17592186044416
       ·rw [if_pos c19] at H
        have LMc19 := Aside0.mk c19
        clear c19
        obtain ⟨y540, hy540⟩ : ∃ y_ : List Int, y_ = (y533 ++ t537) := ⟨_, rfl⟩
        replace H : ((some (([(l0_5.length : Int), 0, 0] : List Int) : List Int)).bind fun y543 => (if y540.length + y543.length < 17592186044416 then ((some (y540 ++ y543 : List Int)).bind fun y546 => (if y546.length + x3_2.length < 17592186044416 then ((some (y546 ++ x3_2 : List Int)).bind fun y549 => ((spec_l2Int.f kj11 ((rd_T63 l0_5 0).f0) 3).bind fun t553 => ((spec_l2Int.f kj11 (y549.length : Int) 2).bind fun t556 => (if t553.length + t556.length < 17592186044416 then ((some (t553 ++ t556 : List Int)).bind fun y559 => ((spec_l2Sum.f kj11 y549).bind fun t562 => ((spec_l2Int.f kj11 t562 2).bind fun t563 => (if y559.length + t563.length < 17592186044416 then ((some (y559 ++ t563 : List Int)).bind fun y566 => (if y566.length + y549.length < 17592186044416 then (some (y566 ++ y549)) else (none))) else (none))))) else (none))))) else (none))) else (none))) = some r := by first | (rw [hy540]; with_reducible exact H) | (have H2_ := (Option.bind_some _ _).symm.trans H; rw [hy540]; with_reducible exact H2_) | (have H2_ := (Option.bind_some _ _).symm.trans H; with_reducible exact H2_) | with_reducible exact H | (rw [hy540]; exact H) | exact H
        have Ny540 := Aside0.mk hy540
        clear hy540
        obtain ⟨y543, hy543⟩ : ∃ y_ : List Int, y_ = (([(l0_5.length : Int), 0, 0] : List Int)) := ⟨_, rfl⟩
        replace H : (if y540.length + y543.length < 17592186044416 then ((some (y540 ++ y543 : List Int)).bind fun y546 => (if y546.length + x3_2.length < 17592186044416 then ((some (y546 ++ x3_2 : List Int)).bind fun y549 => ((spec_l2Int.f kj11 ((rd_T63 l0_5 0).f0) 3).bind fun t553 => ((spec_l2Int.f kj11 (y549.length : Int) 2).bind fun t556 => (if t553.length + t556.length < 17592186044416 then ((some (t553 ++ t556 : List Int)).bind fun y559 => ((spec_l2Sum.f kj11 y549).bind fun t562 => ((spec_l2Int.f kj11 t562 2).bind fun t563 => (if y559.length + t563.length < 17592186044416 then ((some (y559 ++ t563 : List Int)).bind fun y566 => (if y566.length + y549.length < 17592186044416 then (some (y566 ++ y549)) else (none))) else (none))))) else (none))))) else (none))) else (none)) = some r := by first | (rw [hy543]; with_reducible exact H) | (have H2_ := (Option.bind_some _ _).symm.trans H; rw [hy543]; with_reducible exact H2_) | (have H2_ := (Option.bind_some _ _).symm.trans H; with_reducible exact H2_) | with_reducible exact H | (rw [hy543]; exact H) | exact H
        have Ny543 := Aside0.mk hy543
        clear hy543
        by_cases c20 : y540.length + y543.length < 17592186044416
        ·rw [if_pos c20] at H
         have LMc20 := Aside0.mk c20
         clear c20
         obtain ⟨y546, hy546⟩ : ∃ y_ : List Int, y_ = (y540 ++ y543) := ⟨_, rfl⟩
         replace H : (if y546.length + x3_2.length < 17592186044416 then ((some (y546 ++ x3_2 : List Int)).bind fun y549 => ((spec_l2Int.f kj11 ((rd_T63 l0_5 0).f0) 3).bind fun t553 => ((spec_l2Int.f kj11 (y549.length : Int) 2).bind fun t556 => (if t553.length + t556.length < 17592186044416 then ((some (t553 ++ t556 : List Int)).bind fun y559 => ((spec_l2Sum.f kj11 y549).bind fun t562 => ((spec_l2Int.f kj11 t562 2).bind fun t563 => (if y559.length + t563.length < 17592186044416 then ((some (y559 ++ t563 : List Int)).bind fun y566 => (if y566.length + y549.length < 17592186044416 then (some (y566 ++ y549)) else (none))) else (none))))) else (none))))) else (none)) = some r := by first | (rw [hy546]; with_reducible exact H) | (have H2_ := (Option.bind_some _ _).symm.trans H; rw [hy546]; with_reducible exact H2_) | (have H2_ := (Option.bind_some _ _).symm.trans H; with_reducible exact H2_) | with_reducible exact H | (rw [hy546]; exact H) | exact H
         have Ny546 := Aside0.mk hy546
         clear hy546
         by_cases c21 : y546.length + x3_2.length < 17592186044416
         ·rw [if_pos c21] at H
          have LMc21 := Aside0.mk c21
          clear c21
          obtain ⟨y549, hy549⟩ : ∃ y_ : List Int, y_ = (y546 ++ x3_2) := ⟨_, rfl⟩
          replace H : ((spec_l2Int.f kj11 ((rd_T63 l0_5 0).f0) 3).bind fun t553 => ((spec_l2Int.f kj11 (y549.length : Int) 2).bind fun t556 => (if t553.length + t556.length < 17592186044416 then ((some (t553 ++ t556 : List Int)).bind fun y559 => ((spec_l2Sum.f kj11 y549).bind fun t562 => ((spec_l2Int.f kj11 t562 2).bind fun t563 => (if y559.length + t563.length < 17592186044416 then ((some (y559 ++ t563 : List Int)).bind fun y566 => (if y566.length + y549.length < 17592186044416 then (some (y566 ++ y549)) else (none))) else (none))))) else (none)))) = some r := by first | (rw [hy549]; with_reducible exact H) | (have H2_ := (Option.bind_some _ _).symm.trans H; rw [hy549]; with_reducible exact H2_) | (have H2_ := (Option.bind_some _ _).symm.trans H; with_reducible exact H2_) | with_reducible exact H | (rw [hy549]; exact H) | exact H
          have Ny549 := Aside0.mk hy549
          clear hy549
          replace H := tbe H
          obtain ⟨t553, A22, H⟩ := H
          replace H := tbe H
          obtain ⟨t556, A23, H⟩ := H
          by_cases c24 : t553.length + t556.length < 17592186044416
          ·rw [if_pos c24] at H
           have LMc24 := Aside0.mk c24
           clear c24
           obtain ⟨y559, hy559⟩ : ∃ y_ : List Int, y_ = (t553 ++ t556) := ⟨_, rfl⟩
           replace H : ((spec_l2Sum.f kj11 y549).bind fun t562 => ((spec_l2Int.f kj11 t562 2).bind fun t563 => (if y559.length + t563.length < 17592186044416 then ((some (y559 ++ t563 : List Int)).bind fun y566 => (if y566.length + y549.length < 17592186044416 then (some (y566 ++ y549)) else (none))) else (none)))) = some r := by first | (rw [hy559]; with_reducible exact H) | (have H2_ := (Option.bind_some _ _).symm.trans H; rw [hy559]; with_reducible exact H2_) | (have H2_ := (Option.bind_some _ _).symm.trans H; with_reducible exact H2_) | with_reducible exact H | (rw [hy559]; exact H) | exact H
           have Ny559 := Aside0.mk hy559
           clear hy559
           replace H := tbe H
           obtain ⟨t562, A25, H⟩ := H
           replace H := tbe H
           obtain ⟨t563, A26, H⟩ := H
           by_cases c27 : y559.length + t563.length < 17592186044416
           ·rw [if_pos c27] at H
            have LMc27 := Aside0.mk c27
            clear c27
            obtain ⟨y566, hy566⟩ : ∃ y_ : List Int, y_ = (y559 ++ t563) := ⟨_, rfl⟩
            replace H : (if y566.length + y549.length < 17592186044416 then (some (y566 ++ y549)) else (none)) = some r := by first | (rw [hy566]; with_reducible exact H) | (have H2_ := (Option.bind_some _ _).symm.trans H; rw [hy566]; with_reducible exact H2_) | (have H2_ := (Option.bind_some _ _).symm.trans H; with_reducible exact H2_) | with_reducible exact H | (rw [hy566]; exact H) | exact H
            have Ny566 := Aside0.mk hy566
            clear hy566
            by_cases c28 : y566.length + y549.length < 17592186044416
            ·rw [if_pos c28] at H
             have LMc28 := Aside0.mk c28
             clear c28
             obtain ⟨y569, hy569⟩ : ∃ y_ : List Int, y_ = (y566 ++ y549) := ⟨_, rfl⟩
             replace H : (some y569) = some r := by first | (rw [hy569]; with_reducible exact H) | (have H2_ := (Option.bind_some _ _).symm.trans H; rw [hy569]; with_reducible exact H2_) | (have H2_ := (Option.bind_some _ _).symm.trans H; with_reducible exact H2_) | with_reducible exact H | (rw [hy569]; exact H) | exact H
             have Ny569 := Aside0.mk hy569
             clear hy569
             obtain rfl := Option.some.inj H
             try go_wp2
             replace HO_3 := Aside0.mk (Kd.R_drew HO_3.out)
             replace BK520 := Aside0.mk (blk_drew BK520.out)
             replace HB := Aside0.mk (below_drew1 HB.out)
             refine start_ (n := 11) (S := fun w' => w'.cell? ⟨gb520, 0, none⟩ = some (.bool a0_0) ∧ w'.cell? ⟨gb520, 1, none⟩ = some (.bool a0_1) ∧ w'.cell? ⟨gb520, 2, none⟩ = some (.int .i64 a0_2) ∧ w'.cell? ⟨gb520, 3, none⟩ = some (.int .i64 a0_3) ∧ w'.cell? ⟨gb520, 4, none⟩ = some (.int .i64 a0_4) ∧ w'.cell? ⟨gb520, 5, none⟩ = some (.slice A0_5 l0_5.length c0_5)) (ds := []) #[false, false, false, false, false, false, false, false, false, false, false] (by kernel_rfl) rfl rfl ⟨(blk_cell BK520.out 0).trans rfl, (blk_cell BK520.out 1).trans rfl, (blk_cell BK520.out 2).trans rfl, (blk_cell BK520.out 3).trans rfl, (blk_cell BK520.out 4).trans rfl, (blk_cell BK520.out 5).trans rfl⟩ (fun hHeld => ?_); refine with_tabW spec_l5Bytes.tab8 spec_l5Bytes.bits8 (fun HT_ HW_ => ?_)
             generalize wc.drew = w29 at HO_3 BK520 HB hHeld ⊢
             refine tpu 0 (some 19) #[true, false, false, false, false, false, false, false, false, false, false] ?_
             refine tpu 1 (some 20) #[true, true, false, false, false, false, false, false, false, false, false] ?_
             refine tpu 3 (some 22) #[true, true, false, true, false, false, false, false, false, false, false] ?_
             refine tpu 6 (some 25) #[true, true, false, true, false, false, true, false, false, false, false] ?_
             refine tta 2 (some 21) #[true, true, true, true, false, false, true, false, false, false, false] hHeld ?_ (hy := by rintro w' ⟨s0, s1, s2, s3, s4, s5⟩; go_simp; with_reducible rfl)
             refine tta 4 (some 23) #[true, true, true, true, true, false, true, false, false, false, false] hHeld ?_ (hy := by rintro w' ⟨s0, s1, s2, s3, s4, s5⟩; go_simp; with_reducible rfl)
             refine tta 7 (some 26) #[true, true, true, true, true, false, true, true, false, false, false] hHeld ?_ (hy := by rintro w' ⟨s0, s1, s2, s3, s4, s5⟩; go_simp; with_reducible rfl)
             refine join_ (σ := Value × Value) 2 #[true, true, true, true, true, true, true, true, true, false, false] (fun s_ => [(24, s_.1), (27, s_.2)]) (fun s_ w' => (w'.cell? ⟨gb520, 0, none⟩ = some (.bool a0_0) ∧ w'.cell? ⟨gb520, 1, none⟩ = some (.bool a0_1) ∧ w'.cell? ⟨gb520, 2, none⟩ = some (.int .i64 a0_2) ∧ w'.cell? ⟨gb520, 3, none⟩ = some (.int .i64 a0_3) ∧ w'.cell? ⟨gb520, 4, none⟩ = some (.int .i64 a0_4) ∧ w'.cell? ⟨gb520, 5, none⟩ = some (.slice A0_5 l0_5.length c0_5)) ∧ (Kd.R (Kd.int .i64) 3 w' w.heap.size (fun k_ => some k_ ≠ (s_.2 : Value).ownBlock ∧ some k_ ≠ (u3 : Value).ownBlock) s_.1 y527) ∧ (Kd.R (Kd.int .i64) 3 w' w.heap.size (fun k_ => some k_ ≠ (s_.1 : Value).ownBlock ∧ some k_ ≠ (u3 : Value).ownBlock) s_.2 t530) ∧ (Kd.R (Kd.int .i64) 3 w' w.heap.size (fun k_ => some k_ ≠ (s_.1 : Value).ownBlock ∧ some k_ ≠ (s_.2 : Value).ownBlock) u3 x3_2) ∧ (w'.heap[gb520]? = some (.cells #[.bool a0_0, .bool a0_1, .int .i64 a0_2, .int .i64 a0_3, .int .i64 a0_4, .slice A0_5 l0_5.length c0_5] 46 (0, 0))) ∧ (Below w.heap.size w w')) ?_ ?_
             rotate_left
             ·intro hCont
              refine two_ (i := 5) (j := 8) (Ni := some 24) (Nj := some 27) #[true, true, true, true, true, true, true, true, false, false, false] #[true, true, true, true, true, false, true, true, true, false, false] rfl rfl rfl rfl (two_of HT_.out (by kernel_rfl)) (by decide) (by decide) (fun K hK => ?_) (fun K hK => ?_)
              ·skip
               refine Kd.R_lit_step (Kd.int .i64) _ 3 ?hg (N := 24) ?hd (xs := ([x4_11, a0_2, a0_3] : List Int)) (inner := [.int .i64 x4_11, .int .i64 a0_2, .int .i64 a0_3]) (ok := fun _ => True) (okp := fun _ => True) ?hr ?hp (fun _ hk => hk) trivial (Below.refl _ _) (Nat.le_refl _) (by simp) ?_; (case hd => rfl); (case hg => rfl); (case hr => first | (go_simp; done) | (go_simp; rfl)); (case hp => exact (Reps.one (show Kd.M (Kd.int .i64) _ _ _ x4_11 [.int .i64 x4_11] from rfl) (Reps.one (show Kd.M (Kd.int .i64) _ _ _ a0_2 [.int .i64 a0_2] from rfl) (Reps.one (show Kd.M (Kd.int .i64) _ _ _ a0_3 [.int .i64 a0_3] from rfl) (Reps.none _ _)))))
               intro v528 w30 ho31 hb hg_ hnew_
               clear hg_ hnew_
               (first | rw [← Ny527.out] at ho31 | (simp only [Int.reduceToNat] at ho31; rw [← Ny527.out] at ho31))
               have HO529 := Aside0.mk (Kd.R_lower (Kd.R_new' ho31 (Kd.R_lt (tR HO_3.out))) (below_size zb))
               replace HO_3 := Aside0.mk (Kd.R_elder' (tR HO_3.out) (Kd.R_base ho31) hb)
               replace BK520 := tBb BK520 hb
               replace HB := tBs HB hb
               clear hb ho31
               refine hK.out _ _ ⟨(blk_cell BK520.out 0).trans rfl, (blk_cell BK520.out 1).trans rfl, (blk_cell BK520.out 2).trans rfl, (blk_cell BK520.out 3).trans rfl, (blk_cell BK520.out 4).trans rfl, (blk_cell BK520.out 5).trans rfl⟩ (fun hHeld => ?_)
               clear hK K
               refine tnm (some 24) ?_
               refine one_ (i := 8) (N := some 27) #[true, true, true, true, true, true, true, true, true, false, false] rfl rfl (one_of HT_.out (by kernel_rfl)) (by decide) (fun K hK => ?_)
               refine goes_ Try.func56 (by kernel_rfl) rfl #[.int .i64 a0_4, .int .i64 2] (by rfl) rfl rfl tq ?_
               with_reducible refine (spec_l2Int.calls kj11 a0_4 2 t530 _ A15.out).mono ?_
               rintro e w32 ⟨v531, rfl, ho0, hb⟩
               refine ⟨_, rfl, ?_⟩
               have HO532 := Aside0.mk (Kd.R_lower (Kd.R_new' (Kd.R_new' ho0 (Kd.R_lt (tR HO_3.out))) (Kd.R_lt (tR HO529.out))) (below_size zb))
               replace HO_3 := Aside0.mk (Kd.R_elder' (tR HO_3.out) (Kd.R_base ho0) hb)
               replace HO529 := Aside0.mk (Kd.R_elder' (tR HO529.out) (Kd.R_base ho0) hb)
               replace BK520 := tBb BK520 hb
               replace HB := tBs HB hb
               (try clear hb)
               (try clear hb2)
               (try clear hk)
               (try clear hi)
               (try clear ho0)
               refine hK.out _ _ ⟨(blk_cell BK520.out 0).trans rfl, (blk_cell BK520.out 1).trans rfl, (blk_cell BK520.out 2).trans rfl, (blk_cell BK520.out 3).trans rfl, (blk_cell BK520.out 4).trans rfl, (blk_cell BK520.out 5).trans rfl⟩ (fun hHeld => ?_)
               clear hK K
               refine tnm (some 27) ?_
               exact tnx (hCont (v528, v531) _ ⟨hHeld, (tRm HO529.out), (tRm HO532.out), (tRm HO_3.out), (tH BK520.out), zb⟩)
              ·skip
               refine goes_ Try.func56 (by kernel_rfl) rfl #[.int .i64 a0_4, .int .i64 2] (by rfl) rfl rfl tq ?_
               with_reducible refine (spec_l2Int.calls kj11 a0_4 2 t530 _ A15.out).mono ?_
               rintro e w30 ⟨v531, rfl, ho0, hb⟩
               refine ⟨_, rfl, ?_⟩
               have HO532 := Aside0.mk (Kd.R_lower (Kd.R_new' ho0 (Kd.R_lt (tR HO_3.out))) (below_size zb))
               replace HO_3 := Aside0.mk (Kd.R_elder' (tR HO_3.out) (Kd.R_base ho0) hb)
               replace BK520 := tBb BK520 hb
               replace HB := tBs HB hb
               (try clear hb)
               (try clear hb2)
               (try clear hk)
               (try clear hi)
               (try clear ho0)
               refine hK.out _ _ ⟨(blk_cell BK520.out 0).trans rfl, (blk_cell BK520.out 1).trans rfl, (blk_cell BK520.out 2).trans rfl, (blk_cell BK520.out 3).trans rfl, (blk_cell BK520.out 4).trans rfl, (blk_cell BK520.out 5).trans rfl⟩ (fun hHeld => ?_)
               clear hK K
               refine tnm (some 27) ?_
               refine one_ (i := 5) (N := some 24) #[true, true, true, true, true, true, true, true, true, false, false] rfl rfl (one_of HT_.out (by kernel_rfl)) (by decide) (fun K hK => ?_)
               refine Kd.R_lit_step (Kd.int .i64) _ 3 ?hg (N := 24) ?hd (xs := ([x4_11, a0_2, a0_3] : List Int)) (inner := [.int .i64 x4_11, .int .i64 a0_2, .int .i64 a0_3]) (ok := fun _ => True) (okp := fun _ => True) ?hr ?hp (fun _ hk => hk) trivial (Below.refl _ _) (Nat.le_refl _) (by simp) ?_; (case hd => rfl); (case hg => rfl); (case hr => first | (go_simp; done) | (go_simp; rfl)); (case hp => exact (Reps.one (show Kd.M (Kd.int .i64) _ _ _ x4_11 [.int .i64 x4_11] from rfl) (Reps.one (show Kd.M (Kd.int .i64) _ _ _ a0_2 [.int .i64 a0_2] from rfl) (Reps.one (show Kd.M (Kd.int .i64) _ _ _ a0_3 [.int .i64 a0_3] from rfl) (Reps.none _ _)))))
               intro v528 w31 ho32 hb hg_ hnew_
               clear hg_ hnew_
               (first | rw [← Ny527.out] at ho32 | (simp only [Int.reduceToNat] at ho32; rw [← Ny527.out] at ho32))
               have HO529 := Aside0.mk (Kd.R_lower (Kd.R_new' (Kd.R_new' ho32 (Kd.R_lt (tR HO_3.out))) (Kd.R_lt (tR HO532.out))) (below_size zb))
               replace HO_3 := Aside0.mk (Kd.R_elder' (tR HO_3.out) (Kd.R_base ho32) hb)
               replace HO532 := Aside0.mk (Kd.R_elder' (tR HO532.out) (Kd.R_base ho32) hb)
               replace BK520 := tBb BK520 hb
               replace HB := tBs HB hb
               clear hb ho32
               refine hK.out _ _ ⟨(blk_cell BK520.out 0).trans rfl, (blk_cell BK520.out 1).trans rfl, (blk_cell BK520.out 2).trans rfl, (blk_cell BK520.out 3).trans rfl, (blk_cell BK520.out 4).trans rfl, (blk_cell BK520.out 5).trans rfl⟩ (fun hHeld => ?_)
               clear hK K
               refine tnm (some 24) ?_
               exact tnx (hCont (v528, v531) _ ⟨hHeld, (tRm HO529.out), (tRm HO532.out), (tRm HO_3.out), (tH BK520.out), zb⟩)
             rintro ⟨v528, v531⟩ w33 ⟨hS_, h0_, h1_, h2_, h3_, h4_⟩
             try dsimp only at hS_ h0_ h1_ h2_ h3_ h4_
             clear HO_3 BK520 HB
             have HO529 := Aside0.mk h0_
             have HO532 := Aside0.mk h1_
             have HO_3 := Aside0.mk h2_
             have BK520 := Aside0.mk h3_
             have HB := Aside0.mk h4_
             clear h0_ h1_ h2_ h3_ h4_
             have hHeld := hS_
             obtain ⟨Ao35, co35, eo35⟩ := Kd.R_slice HO532.out
             (first | subst eo35 | (injection eo35 with f1_ f2_ f3_; have f4_ := f1_.symm; have f5_ := f3_.symm; clear f1_ f2_ f3_; subst f4_; subst f5_))
             refine tnp ?_
             refine one_ (i := 9) (N := some 28) #[true, true, true, true, true, true, true, true, true, true, false] rfl rfl (one_of HT_.out (by kernel_rfl)) (by decide) (fun K hK => ?_)
             refine Kd.R_append_rows_step (Kd.int .i64) (w0 := w) w.heap.size (by rfl) (.tmp 24) (.tmp 27) 26 3 (.int .i64 0) 8 rfl Try.underlying26 info3 rfl (by decide) (by omega) v528 y527 t530 _ _ _ (fun k_ => some k_ ≠ (u3 : Value).ownBlock ∧ some k_ ≠ (.slice Ao35 t530.length co35 : Value).ownBlock) (fun _ => False) rfl rfl ?aO ?aR (fun _ _ h => h) (fun _ h => h.elim) ?aF ?aB ?aS ?aL ?_
             (case aR => repeat (first | exact (Kd.R_reads' HO532.out).2.2 | (with_reducible refine Kd.C_alloc ?_ _) | (with_reducible refine Kd.C_drewN ?_ _) | (with_reducible refine Kd.C_drew ?_)))
             (case aB => exact zb)
             (case aF => exact (fun k_ hk => ⟨Kd.fresh' (Kd.R_lt (tR HO_3.out)) k_ hk, Kd.fresh' (Kd.R_lt (tR HO532.out)) k_ hk⟩))
             (case aO => exact (tRm HO529.out))
             (case aS => exact (below_size zb))
             (case aL => have := LMc16.out; omega)
             intro v534 w34 ho hb hg hat
             rw [← Ny533.out] at ho
             replace HO_3 := Aside0.mk (Kd.R_after (ok := (fun k_ => some k_ ≠ (.slice Ao35 t530.length co35 : Value).ownBlock)) (tRm HO_3.out) hg hat)
             replace BK520 := Aside0.mk (blk_grown (tH BK520.out) hg (Kd.R_ne HO529.out BK520.out (by decide)))
             replace HO532 := Aside0.mk (Kd.R_after (ok := (fun k_ => some k_ ≠ (u3 : Value).ownBlock)) (tRm HO532.out) hg hat)
             replace HB := Aside0.mk (hb)
             have HO535 := Aside0.mk (ho)
             clear HO529
             clear ho hb hg hat
             refine hK.out _ _ ⟨(blk_cell BK520.out 0).trans rfl, (blk_cell BK520.out 1).trans rfl, (blk_cell BK520.out 2).trans rfl, (blk_cell BK520.out 3).trans rfl, (blk_cell BK520.out 4).trans rfl, (blk_cell BK520.out 5).trans rfl⟩ (fun hHeld => ?_)
             clear hK K
             refine tnm (some 28) ?_
             refine tpu 10 (some 5) #[true, true, true, true, true, true, true, true, true, true, true] ?_
             refine done_ (done_of HT_.out (by kernel_rfl)) ?_
             obtain ⟨hcz36_0, hcz36_1, hcz36_2, hcz36_3, hcz36_4, hcz36_5, hfz36_0, hfz36_1, hfz36_2, hfz36_3, hfz36_4, hfz36_5⟩ := cells6 BK520.out
             have p536 : 0 ≤ (0 : Int) := (by omega)
             have q536 : 0 < (l0_5.length : Int) := td
             obtain ⟨ad536, A536_3, c536_3, A536_5, c536_5, e536, hx536_0, hx536_1, hx536_2, hx536_3, hx536_4, hx536_5, hl536_3, hi536_3, hl536_5, hi536_5⟩ := at_T63 HR0_5.out 0 p536 q536
             cases e536
             have qi536 : (0 < l0_5.length) = True := eq_true (by omega)
             (try rw [show ((0 : Int)).toNat = 0 from rfl] at hx536_0)
             (try rw [show 0 * 6 = 0 from rfl] at hx536_0)
             (try rw [Addr.add_zero'] at hx536_0)
             (try rw [show ((0 : Int)).toNat = 0 from rfl] at hx536_1)
             (try rw [show 0 * 6 = 0 from rfl] at hx536_1)
             (try rw [Addr.add_zero'] at hx536_1)
             (try rw [show ((0 : Int)).toNat = 0 from rfl] at hx536_2)
             (try rw [show 0 * 6 = 0 from rfl] at hx536_2)
             (try rw [Addr.add_zero'] at hx536_2)
             (try rw [show ((0 : Int)).toNat = 0 from rfl] at hx536_3)
             (try rw [show 0 * 6 = 0 from rfl] at hx536_3)
             (try rw [Addr.add_zero'] at hx536_3)
             (try rw [show ((0 : Int)).toNat = 0 from rfl] at hx536_4)
             (try rw [show 0 * 6 = 0 from rfl] at hx536_4)
             (try rw [Addr.add_zero'] at hx536_4)
             (try rw [show ((0 : Int)).toNat = 0 from rfl] at hx536_5)
             (try rw [show 0 * 6 = 0 from rfl] at hx536_5)
             (try rw [Addr.add_zero'] at hx536_5)
             replace hx536_0 := tcl HB hx536_0
             replace hx536_1 := tcl HB hx536_1
             replace hx536_2 := tcl HB hx536_2
             replace hx536_3 := tcl HB hx536_3
             replace hx536_4 := tcl HB hx536_4
             replace hx536_5 := tcl HB hx536_5
             have HR536_3 := Aside0.mk hi536_3
             have HC536_3 := Aside0.mk hl536_3
             clear hi536_3 hl536_3
             have HR536_5 := Aside0.mk hi536_5
             have HC536_5 := Aside0.mk hl536_5
             clear hi536_5 hl536_5
             replace p536 := eq_true p536
             replace q536 := eq_true q536
             try go_wp2_with (first | ((with_reducible refine gate_callee (f := 56) rfl ?_); refine goesL_ (some 35) rfl rfl Try.func56 (by kernel_rfl) rfl #[.int .i64 ((rd_T63 l0_5 0).f1), .int .i64 3] rfl tq ?_; (with_reducible refine (spec_l2Int.calls kj11 ((rd_T63 l0_5 0).f1) 3 t537 _ A18.out).mono ?_); rintro e w37 ⟨v538, rfl, ho0, hb⟩; have u_v538 := tsv Try.prog v538 ho0; refine ⟨_, rfl, ?_⟩; have HO539 := Aside0.mk (Kd.R_lower (Kd.R_new' (Kd.R_new' (Kd.R_new' ho0 (Kd.R_lt (tR HO_3.out))) (Kd.R_lt (tR HO532.out))) (Kd.R_lt (tR HO535.out))) (below_size zb)); replace HO_3 := Aside0.mk (Kd.R_elder' (tR HO_3.out) (Kd.R_base ho0) hb); replace HO532 := Aside0.mk (Kd.R_elder' (tR HO532.out) (Kd.R_base ho0) hb); replace HO535 := Aside0.mk (Kd.R_elder' (tR HO535.out) (Kd.R_base ho0) hb); replace BK520 := tBb BK520 hb; replace HB := tBs HB hb; (try clear hb); (try clear hb2); (try clear hk); (try clear hi); (try clear ho0); obtain ⟨Ao39, co39, eo39⟩ := Kd.R_slice HO539.out; subst eo39) | ((with_reducible refine gate_builtin (b := .append) (xs := #[.tmp 29, .tmp 35]) rfl ?_); at_builtin; refine Kd.R_append_rows (Kd.int .i64) (w0 := w) w.heap.size rfl (.tmp 29) (.tmp 35) 26 3 (.int .i64 0) 8 rfl Try.underlying26 info3 rfl (by decide) (by omega) v534 y533 t537 _ _ _ (fun k_ => some k_ ≠ (u3 : Value).ownBlock ∧ some k_ ≠ (.slice Ao35 t530.length co35 : Value).ownBlock ∧ some k_ ≠ (.slice Ao39 t537.length co39 : Value).ownBlock) (fun _ => False) rfl rfl ?aO ?aR (fun _ _ h => h) (fun _ h => h.elim) ?aF ?aB ?aS ?aL ?_; (case aR => repeat (first | exact (Kd.R_reads' HO539.out).2.2 | (with_reducible refine Kd.C_alloc ?_ _) | (with_reducible refine Kd.C_drewN ?_ _) | (with_reducible refine Kd.C_drew ?_))); (case aB => exact zb); (case aF => exact (fun k_ hk => ⟨Kd.fresh' (Kd.R_lt (tR HO_3.out)) k_ hk, Kd.fresh' (Kd.R_lt (tR HO532.out)) k_ hk, Kd.fresh' (Kd.R_lt (tR HO539.out)) k_ hk⟩)); (case aO => exact (tRm HO535.out)); (case aS => exact (below_size zb)); (case aL => have := LMc19.out; omega); intro v541 w38 ho hb hg hat; rw [← Ny540.out] at ho; replace HO_3 := Aside0.mk (Kd.R_after (ok := (fun k_ => some k_ ≠ (.slice Ao35 t530.length co35 : Value).ownBlock ∧ some k_ ≠ (.slice Ao39 t537.length co39 : Value).ownBlock)) (tRm HO_3.out) hg hat); replace BK520 := Aside0.mk (blk_grown (tH BK520.out) hg (Kd.R_ne HO535.out BK520.out (by decide))); replace HO532 := Aside0.mk (Kd.R_after (ok := (fun k_ => some k_ ≠ (u3 : Value).ownBlock ∧ some k_ ≠ (.slice Ao39 t537.length co39 : Value).ownBlock)) (tRm HO532.out) hg hat); replace HO539 := Aside0.mk (Kd.R_after (ok := (fun k_ => some k_ ≠ (u3 : Value).ownBlock ∧ some k_ ≠ (.slice Ao35 t530.length co35 : Value).ownBlock)) (tRm HO539.out) hg hat); replace HB := Aside0.mk (hb); have HO542 := Aside0.mk (ho); clear HO535; clear ho hb hg hat; obtain ⟨hcz40_0, hcz40_1, hcz40_2, hcz40_3, hcz40_4, hcz40_5, hfz40_0, hfz40_1, hfz40_2, hfz40_3, hfz40_4, hfz40_5⟩ := cells6 BK520.out) | ((with_reducible refine gate_dst (N := 41) rfl ?_); refine Kd.R_lit (Kd.int .i64) _ 3 ?hg (N := 41) ?hd (xs := ([(l0_5.length : Int), 0, 0] : List Int)) (inner := [.int .i64 (l0_5.length : Int), .int .i64 0, .int .i64 0]) (ok := fun _ => True) (okp := fun _ => True) ?hr ?hp (fun _ hk => hk) trivial (Below.refl _ _) (Nat.le_refl _) (by simp) ?_; (case hd => rfl); (case hg => rfl); (case hr => first | (go_simp; done) | (go_simp; rfl)); (case hp => exact (Reps.one (show Kd.M (Kd.int .i64) _ _ _ (l0_5.length : Int) [.int .i64 (l0_5.length : Int)] from rfl) (Reps.one (show Kd.M (Kd.int .i64) _ _ _ 0 [.int .i64 0] from rfl) (Reps.one (show Kd.M (Kd.int .i64) _ _ _ 0 [.int .i64 0] from rfl) (Reps.none _ _))))); intro v544 w41 ho42 hb hg_ hnew_; clear hg_ hnew_; (first | rw [← Ny543.out] at ho42 | (simp only [Int.reduceToNat] at ho42; rw [← Ny543.out] at ho42)); have HO545 := Aside0.mk (Kd.R_lower (Kd.R_new' (Kd.R_new' (Kd.R_new' (Kd.R_new' ho42 (Kd.R_lt (tR HO_3.out))) (Kd.R_lt (tR HO532.out))) (Kd.R_lt (tR HO539.out))) (Kd.R_lt (tR HO542.out))) (below_size zb)); replace HO_3 := Aside0.mk (Kd.R_elder' (tR HO_3.out) (Kd.R_base ho42) hb); replace HO532 := Aside0.mk (Kd.R_elder' (tR HO532.out) (Kd.R_base ho42) hb); replace HO539 := Aside0.mk (Kd.R_elder' (tR HO539.out) (Kd.R_base ho42) hb); replace HO542 := Aside0.mk (Kd.R_elder' (tR HO542.out) (Kd.R_base ho42) hb); replace BK520 := tBb BK520 hb; replace HB := tBs HB hb; clear hb ho42; obtain ⟨Ao44, co44, eo44⟩ := Kd.R_slice HO545.out; subst eo44) | ((with_reducible refine gate_builtin (b := .append) (xs := #[.tmp 37, .tmp 41]) rfl ?_); at_builtin; refine Kd.R_append_rows (Kd.int .i64) (w0 := w) w.heap.size rfl (.tmp 37) (.tmp 41) 26 3 (.int .i64 0) 8 rfl Try.underlying26 info3 rfl (by decide) (by omega) v541 y540 y543 _ _ _ (fun k_ => some k_ ≠ (u3 : Value).ownBlock ∧ some k_ ≠ (.slice Ao35 t530.length co35 : Value).ownBlock ∧ some k_ ≠ (.slice Ao39 t537.length co39 : Value).ownBlock ∧ some k_ ≠ (.slice Ao44 y543.length co44 : Value).ownBlock) (fun _ => False) rfl rfl ?aO ?aR (fun _ _ h => h) (fun _ h => h.elim) ?aF ?aB ?aS ?aL ?_; (case aR => repeat (first | exact (Kd.R_reads' HO545.out).2.2 | (with_reducible refine Kd.C_alloc ?_ _) | (with_reducible refine Kd.C_drewN ?_ _) | (with_reducible refine Kd.C_drew ?_))); (case aB => exact zb); (case aF => exact (fun k_ hk => ⟨Kd.fresh' (Kd.R_lt (tR HO_3.out)) k_ hk, Kd.fresh' (Kd.R_lt (tR HO532.out)) k_ hk, Kd.fresh' (Kd.R_lt (tR HO539.out)) k_ hk, Kd.fresh' (Kd.R_lt (tR HO545.out)) k_ hk⟩)); (case aO => exact (tRm HO542.out)); (case aS => exact (below_size zb)); (case aL => have := LMc20.out; omega); intro v547 w43 ho hb hg hat; rw [← Ny546.out] at ho; replace HO_3 := Aside0.mk (Kd.R_after (ok := (fun k_ => some k_ ≠ (.slice Ao35 t530.length co35 : Value).ownBlock ∧ some k_ ≠ (.slice Ao39 t537.length co39 : Value).ownBlock ∧ some k_ ≠ (.slice Ao44 y543.length co44 : Value).ownBlock)) (tRm HO_3.out) hg hat); replace BK520 := Aside0.mk (blk_grown (tH BK520.out) hg (Kd.R_ne HO542.out BK520.out (by decide))); replace HO532 := Aside0.mk (Kd.R_after (ok := (fun k_ => some k_ ≠ (u3 : Value).ownBlock ∧ some k_ ≠ (.slice Ao39 t537.length co39 : Value).ownBlock ∧ some k_ ≠ (.slice Ao44 y543.length co44 : Value).ownBlock)) (tRm HO532.out) hg hat); replace HO539 := Aside0.mk (Kd.R_after (ok := (fun k_ => some k_ ≠ (u3 : Value).ownBlock ∧ some k_ ≠ (.slice Ao35 t530.length co35 : Value).ownBlock ∧ some k_ ≠ (.slice Ao44 y543.length co44 : Value).ownBlock)) (tRm HO539.out) hg hat); replace HO545 := Aside0.mk (Kd.R_after (ok := (fun k_ => some k_ ≠ (u3 : Value).ownBlock ∧ some k_ ≠ (.slice Ao35 t530.length co35 : Value).ownBlock ∧ some k_ ≠ (.slice Ao39 t537.length co39 : Value).ownBlock)) (tRm HO545.out) hg hat); replace HB := Aside0.mk (hb); have HO548 := Aside0.mk (ho); clear HO542; clear ho hb hg hat; obtain ⟨Ao46, co46, eo46⟩ := Kd.R_slice HO_3.out; subst eo46) | ((with_reducible refine gate_builtin (b := .append) (xs := #[.tmp 43, .tmp 44]) rfl ?_); at_builtin; refine Kd.R_append_rows (Kd.int .i64) (w0 := w) w.heap.size rfl (.tmp 43) (.tmp 44) 26 3 (.int .i64 0) 8 rfl Try.underlying26 info3 rfl (by decide) (by omega) v547 y546 x3_2 _ _ _ (fun k_ => some k_ ≠ (.slice Ao46 x3_2.length co46 : Value).ownBlock ∧ some k_ ≠ (.slice Ao35 t530.length co35 : Value).ownBlock ∧ some k_ ≠ (.slice Ao39 t537.length co39 : Value).ownBlock ∧ some k_ ≠ (.slice Ao44 y543.length co44 : Value).ownBlock) (fun _ => False) rfl rfl ?aO ?aR (fun _ _ h => h) (fun _ h => h.elim) ?aF ?aB ?aS ?aL ?_; (case aR => repeat (first | exact (Kd.R_reads' HO_3.out).2.2 | (with_reducible refine Kd.C_alloc ?_ _) | (with_reducible refine Kd.C_drewN ?_ _) | (with_reducible refine Kd.C_drew ?_))); (case aB => exact zb); (case aF => exact (fun k_ hk => ⟨Kd.fresh' (Kd.R_lt (tR HO_3.out)) k_ hk, Kd.fresh' (Kd.R_lt (tR HO532.out)) k_ hk, Kd.fresh' (Kd.R_lt (tR HO539.out)) k_ hk, Kd.fresh' (Kd.R_lt (tR HO545.out)) k_ hk⟩)); (case aO => exact (tR HO548.out)); (case aS => exact (below_size zb)); (case aL => have := LMc21.out; omega); intro v550 w45 ho hb hg hat; rw [← Ny549.out] at ho; replace HO_3 := Aside0.mk (Kd.R_after (ok := (fun k_ => some k_ ≠ (.slice Ao35 t530.length co35 : Value).ownBlock ∧ some k_ ≠ (.slice Ao39 t537.length co39 : Value).ownBlock ∧ some k_ ≠ (.slice Ao44 y543.length co44 : Value).ownBlock)) (tR HO_3.out) hg hat); replace BK520 := Aside0.mk (blk_grown (tH BK520.out) hg (Kd.R_ne HO548.out BK520.out (by decide))); replace HO532 := Aside0.mk (Kd.R_after (ok := (fun k_ => some k_ ≠ (.slice Ao46 x3_2.length co46 : Value).ownBlock ∧ some k_ ≠ (.slice Ao39 t537.length co39 : Value).ownBlock ∧ some k_ ≠ (.slice Ao44 y543.length co44 : Value).ownBlock)) (tR HO532.out) hg hat); replace HO539 := Aside0.mk (Kd.R_after (ok := (fun k_ => some k_ ≠ (.slice Ao46 x3_2.length co46 : Value).ownBlock ∧ some k_ ≠ (.slice Ao35 t530.length co35 : Value).ownBlock ∧ some k_ ≠ (.slice Ao44 y543.length co44 : Value).ownBlock)) (tR HO539.out) hg hat); replace HO545 := Aside0.mk (Kd.R_after (ok := (fun k_ => some k_ ≠ (.slice Ao46 x3_2.length co46 : Value).ownBlock ∧ some k_ ≠ (.slice Ao35 t530.length co35 : Value).ownBlock ∧ some k_ ≠ (.slice Ao39 t537.length co39 : Value).ownBlock)) (tR HO545.out) hg hat); replace HB := Aside0.mk (hb); have HO551 := Aside0.mk (ho); clear HO548; clear ho hb hg hat; obtain ⟨hcz47_0, hcz47_1, hcz47_2, hcz47_3, hcz47_4, hcz47_5, hfz47_0, hfz47_1, hfz47_2, hfz47_3, hfz47_4, hfz47_5⟩ := cells6 BK520.out; have p552 : 0 ≤ (0 : Int) := (by omega); have q552 : 0 < (l0_5.length : Int) := td; obtain ⟨ad552, A552_3, c552_3, A552_5, c552_5, e552, hx552_0, hx552_1, hx552_2, hx552_3, hx552_4, hx552_5, hl552_3, hi552_3, hl552_5, hi552_5⟩ := at_T63 HR0_5.out 0 p552 q552; obtain rfl : ad536 = ad552 := (by injection e552); have qi552 : (0 < l0_5.length) = True := eq_true (by omega); (try rw [show ((0 : Int)).toNat = 0 from rfl] at hx552_0); (try rw [show 0 * 6 = 0 from rfl] at hx552_0); (try rw [Addr.add_zero'] at hx552_0); (try rw [show ((0 : Int)).toNat = 0 from rfl] at hx552_1); (try rw [show 0 * 6 = 0 from rfl] at hx552_1); (try rw [Addr.add_zero'] at hx552_1); (try rw [show ((0 : Int)).toNat = 0 from rfl] at hx552_2); (try rw [show 0 * 6 = 0 from rfl] at hx552_2); (try rw [Addr.add_zero'] at hx552_2); (try rw [show ((0 : Int)).toNat = 0 from rfl] at hx552_3); (try rw [show 0 * 6 = 0 from rfl] at hx552_3); (try rw [Addr.add_zero'] at hx552_3); (try rw [show ((0 : Int)).toNat = 0 from rfl] at hx552_4); (try rw [show 0 * 6 = 0 from rfl] at hx552_4); (try rw [Addr.add_zero'] at hx552_4); (try rw [show ((0 : Int)).toNat = 0 from rfl] at hx552_5); (try rw [show 0 * 6 = 0 from rfl] at hx552_5); (try rw [Addr.add_zero'] at hx552_5); replace hx552_0 := tcl HB hx552_0; replace hx552_1 := tcl HB hx552_1; replace hx552_2 := tcl HB hx552_2; replace hx552_3 := tcl HB hx552_3; replace hx552_4 := tcl HB hx552_4; replace hx552_5 := tcl HB hx552_5; have HR552_3 := Aside0.mk hi552_3; have HC552_3 := Aside0.mk hl552_3; clear hi552_3 hl552_3; have HR552_5 := Aside0.mk hi552_5; have HC552_5 := Aside0.mk hl552_5; clear hi552_5 hl552_5; replace p552 := eq_true p552; replace q552 := eq_true q552) | ((with_reducible refine gate_callee (f := 56) rfl ?_); refine goesL_ (some 51) rfl rfl Try.func56 (by kernel_rfl) rfl #[.int .i64 ((rd_T63 l0_5 0).f0), .int .i64 3] rfl tq ?_; (with_reducible refine (spec_l2Int.calls kj11 ((rd_T63 l0_5 0).f0) 3 t553 _ A22.out).mono ?_); rintro e w48 ⟨v554, rfl, ho0, hb⟩; have u_v554 := tsv Try.prog v554 ho0; refine ⟨_, rfl, ?_⟩; have HO555 := Aside0.mk (Kd.R_lower (Kd.R_new' (Kd.R_new' (Kd.R_new' (Kd.R_new' (Kd.R_new' ho0 (Kd.R_lt (tR HO_3.out))) (Kd.R_lt (tR HO532.out))) (Kd.R_lt (tR HO539.out))) (Kd.R_lt (tR HO545.out))) (Kd.R_lt (tR HO551.out))) (below_size zb)); replace HO_3 := Aside0.mk (Kd.R_elder' (tR HO_3.out) (Kd.R_base ho0) hb); replace HO532 := Aside0.mk (Kd.R_elder' (tR HO532.out) (Kd.R_base ho0) hb); replace HO539 := Aside0.mk (Kd.R_elder' (tR HO539.out) (Kd.R_base ho0) hb); replace HO545 := Aside0.mk (Kd.R_elder' (tR HO545.out) (Kd.R_base ho0) hb); replace HO551 := Aside0.mk (Kd.R_elder' (tR HO551.out) (Kd.R_base ho0) hb); replace BK520 := tBb BK520 hb; replace HB := tBs HB hb; (try clear hb); (try clear hb2); (try clear hk); (try clear hi); (try clear ho0); obtain ⟨Ao49, co49, eo49⟩ := Kd.R_slice HO551.out; subst eo49) | ((with_reducible refine gate_callee (f := 56) rfl ?_); refine goesL_ (some 54) rfl rfl Try.func56 (by kernel_rfl) rfl #[.int .i64 (y549.length : Int), .int .i64 2] rfl tq ?_; (with_reducible refine (spec_l2Int.calls kj11 (y549.length : Int) 2 t556 _ A23.out).mono ?_); rintro e w50 ⟨v557, rfl, ho0, hb⟩; have u_v557 := tsv Try.prog v557 ho0; refine ⟨_, rfl, ?_⟩; have HO558 := Aside0.mk (Kd.R_lower (Kd.R_new' (Kd.R_new' (Kd.R_new' (Kd.R_new' (Kd.R_new' (Kd.R_new' ho0 (Kd.R_lt (tR HO_3.out))) (Kd.R_lt (tR HO532.out))) (Kd.R_lt (tR HO539.out))) (Kd.R_lt (tR HO545.out))) (Kd.R_lt (tR HO551.out))) (Kd.R_lt (tR HO555.out))) (below_size zb)); replace HO_3 := Aside0.mk (Kd.R_elder' (tR HO_3.out) (Kd.R_base ho0) hb); replace HO532 := Aside0.mk (Kd.R_elder' (tR HO532.out) (Kd.R_base ho0) hb); replace HO539 := Aside0.mk (Kd.R_elder' (tR HO539.out) (Kd.R_base ho0) hb); replace HO545 := Aside0.mk (Kd.R_elder' (tR HO545.out) (Kd.R_base ho0) hb); replace HO551 := Aside0.mk (Kd.R_elder' (tR HO551.out) (Kd.R_base ho0) hb); replace HO555 := Aside0.mk (Kd.R_elder' (tR HO555.out) (Kd.R_base ho0) hb); replace BK520 := tBb BK520 hb; replace HB := tBs HB hb; (try clear hb); (try clear hb2); (try clear hk); (try clear hi); (try clear ho0); obtain ⟨Ao52, co52, eo52⟩ := Kd.R_slice HO558.out; subst eo52) | ((with_reducible refine gate_builtin (b := .append) (xs := #[.tmp 51, .tmp 54]) rfl ?_); at_builtin; refine Kd.R_append_rows (Kd.int .i64) (w0 := w) w.heap.size rfl (.tmp 51) (.tmp 54) 26 3 (.int .i64 0) 8 rfl Try.underlying26 info3 rfl (by decide) (by omega) v554 t553 t556 _ _ _ (fun k_ => some k_ ≠ (.slice Ao46 x3_2.length co46 : Value).ownBlock ∧ some k_ ≠ (.slice Ao35 t530.length co35 : Value).ownBlock ∧ some k_ ≠ (.slice Ao39 t537.length co39 : Value).ownBlock ∧ some k_ ≠ (.slice Ao44 y543.length co44 : Value).ownBlock ∧ some k_ ≠ (.slice Ao49 y549.length co49 : Value).ownBlock ∧ some k_ ≠ (.slice Ao52 t556.length co52 : Value).ownBlock) (fun _ => False) rfl rfl ?aO ?aR (fun _ _ h => h) (fun _ h => h.elim) ?aF ?aB ?aS ?aL ?_; (case aR => repeat (first | exact (Kd.R_reads' HO558.out).2.2 | (with_reducible refine Kd.C_alloc ?_ _) | (with_reducible refine Kd.C_drewN ?_ _) | (with_reducible refine Kd.C_drew ?_))); (case aB => exact zb); (case aF => exact (fun k_ hk => ⟨Kd.fresh' (Kd.R_lt (tR HO_3.out)) k_ hk, Kd.fresh' (Kd.R_lt (tR HO532.out)) k_ hk, Kd.fresh' (Kd.R_lt (tR HO539.out)) k_ hk, Kd.fresh' (Kd.R_lt (tR HO545.out)) k_ hk, Kd.fresh' (Kd.R_lt (tR HO551.out)) k_ hk, Kd.fresh' (Kd.R_lt (tR HO558.out)) k_ hk⟩)); (case aO => exact (tRm HO555.out)); (case aS => exact (below_size zb)); (case aL => have := LMc24.out; omega); intro v560 w51 ho hb hg hat; rw [← Ny559.out] at ho; replace HO_3 := Aside0.mk (Kd.R_after (ok := (fun k_ => some k_ ≠ (.slice Ao35 t530.length co35 : Value).ownBlock ∧ some k_ ≠ (.slice Ao39 t537.length co39 : Value).ownBlock ∧ some k_ ≠ (.slice Ao44 y543.length co44 : Value).ownBlock ∧ some k_ ≠ (.slice Ao49 y549.length co49 : Value).ownBlock ∧ some k_ ≠ (.slice Ao52 t556.length co52 : Value).ownBlock)) (tRm HO_3.out) hg hat); replace BK520 := Aside0.mk (blk_grown (tH BK520.out) hg (Kd.R_ne HO555.out BK520.out (by decide))); replace HO532 := Aside0.mk (Kd.R_after (ok := (fun k_ => some k_ ≠ (.slice Ao46 x3_2.length co46 : Value).ownBlock ∧ some k_ ≠ (.slice Ao39 t537.length co39 : Value).ownBlock ∧ some k_ ≠ (.slice Ao44 y543.length co44 : Value).ownBlock ∧ some k_ ≠ (.slice Ao49 y549.length co49 : Value).ownBlock ∧ some k_ ≠ (.slice Ao52 t556.length co52 : Value).ownBlock)) (tRm HO532.out) hg hat); replace HO539 := Aside0.mk (Kd.R_after (ok := (fun k_ => some k_ ≠ (.slice Ao46 x3_2.length co46 : Value).ownBlock ∧ some k_ ≠ (.slice Ao35 t530.length co35 : Value).ownBlock ∧ some k_ ≠ (.slice Ao44 y543.length co44 : Value).ownBlock ∧ some k_ ≠ (.slice Ao49 y549.length co49 : Value).ownBlock ∧ some k_ ≠ (.slice Ao52 t556.length co52 : Value).ownBlock)) (tRm HO539.out) hg hat); replace HO545 := Aside0.mk (Kd.R_after (ok := (fun k_ => some k_ ≠ (.slice Ao46 x3_2.length co46 : Value).ownBlock ∧ some k_ ≠ (.slice Ao35 t530.length co35 : Value).ownBlock ∧ some k_ ≠ (.slice Ao39 t537.length co39 : Value).ownBlock ∧ some k_ ≠ (.slice Ao49 y549.length co49 : Value).ownBlock ∧ some k_ ≠ (.slice Ao52 t556.length co52 : Value).ownBlock)) (tRm HO545.out) hg hat); replace HO551 := Aside0.mk (Kd.R_after (ok := (fun k_ => some k_ ≠ (.slice Ao46 x3_2.length co46 : Value).ownBlock ∧ some k_ ≠ (.slice Ao35 t530.length co35 : Value).ownBlock ∧ some k_ ≠ (.slice Ao39 t537.length co39 : Value).ownBlock ∧ some k_ ≠ (.slice Ao44 y543.length co44 : Value).ownBlock ∧ some k_ ≠ (.slice Ao52 t556.length co52 : Value).ownBlock)) (tRm HO551.out) hg hat); replace HO558 := Aside0.mk (Kd.R_after (ok := (fun k_ => some k_ ≠ (.slice Ao46 x3_2.length co46 : Value).ownBlock ∧ some k_ ≠ (.slice Ao35 t530.length co35 : Value).ownBlock ∧ some k_ ≠ (.slice Ao39 t537.length co39 : Value).ownBlock ∧ some k_ ≠ (.slice Ao44 y543.length co44 : Value).ownBlock ∧ some k_ ≠ (.slice Ao49 y549.length co49 : Value).ownBlock)) (tRm HO558.out) hg hat); replace HB := Aside0.mk (hb); have HO561 := Aside0.mk (ho); clear HO555; clear ho hb hg hat) | ((with_reducible refine gate_callee (f := 57) rfl ?_); refine goesL_ (some 58) rfl rfl Try.func57 (by kernel_rfl) rfl #[.slice Ao49 y549.length co49] rfl tq ?_; (with_reducible refine (spec_l2Sum.calls kj11 _ _ y549 t562 _ ?side1 ?side2 A25.out).mono ?_); (case side1 => repeat (first | exact (Kd.R_reads' HO551.out).2.2 | (with_reducible refine Kd.C_alloc ?_ _) | (with_reducible refine Kd.C_drewN ?_ _) | (with_reducible refine Kd.C_drew ?_))); (case side2 => exact (Kd.R_reads' HO551.out).2.1); rintro e w' ⟨rfl, ⟨nd, rfl⟩⟩; refine ⟨_, rfl, ?_⟩) | ((with_reducible refine gate_callee (f := 56) rfl ?_); refine goesL_ (some 59) rfl rfl Try.func56 (by kernel_rfl) rfl #[.int .i64 t562, .int .i64 2] rfl tq ?_; (with_reducible refine (spec_l2Int.calls kj11 t562 2 t563 _ A26.out).mono ?_); rintro e w53 ⟨v564, rfl, ho0, hb⟩; have u_v564 := tsv Try.prog v564 ho0; refine ⟨_, rfl, ?_⟩; have HO565 := Aside0.mk (Kd.R_lower (Kd.R_new' (Kd.R_new' (Kd.R_new' (Kd.R_new' (Kd.R_new' (Kd.R_new' (Kd.R_new' ho0 (Kd.R_lt (tR HO_3.out))) (Kd.R_lt (tR HO532.out))) (Kd.R_lt (tR HO539.out))) (Kd.R_lt (tR HO545.out))) (Kd.R_lt (tR HO551.out))) (Kd.R_lt (tR HO558.out))) (Kd.R_lt (tR HO561.out))) (below_size zb)); replace HO_3 := Aside0.mk (Kd.R_elder' (tR HO_3.out) (Kd.R_base ho0) hb); replace HO532 := Aside0.mk (Kd.R_elder' (tR HO532.out) (Kd.R_base ho0) hb); replace HO539 := Aside0.mk (Kd.R_elder' (tR HO539.out) (Kd.R_base ho0) hb); replace HO545 := Aside0.mk (Kd.R_elder' (tR HO545.out) (Kd.R_base ho0) hb); replace HO551 := Aside0.mk (Kd.R_elder' (tR HO551.out) (Kd.R_base ho0) hb); replace HO558 := Aside0.mk (Kd.R_elder' (tR HO558.out) (Kd.R_base ho0) hb); replace HO561 := Aside0.mk (Kd.R_elder' (tR HO561.out) (Kd.R_base ho0) hb); replace BK520 := tBb BK520 hb; replace HB := tBs HB hb; (try clear hb); (try clear hb2); (try clear hk); (try clear hi); (try clear ho0); obtain ⟨Ao55, co55, eo55⟩ := Kd.R_slice HO565.out; subst eo55) | ((with_reducible refine gate_builtin (b := .append) (xs := #[.tmp 56, .tmp 59]) rfl ?_); at_builtin; refine Kd.R_append_rows (Kd.int .i64) (w0 := w) w.heap.size rfl (.tmp 56) (.tmp 59) 26 3 (.int .i64 0) 8 rfl Try.underlying26 info3 rfl (by decide) (by omega) v560 y559 t563 _ _ _ (fun k_ => some k_ ≠ (.slice Ao46 x3_2.length co46 : Value).ownBlock ∧ some k_ ≠ (.slice Ao35 t530.length co35 : Value).ownBlock ∧ some k_ ≠ (.slice Ao39 t537.length co39 : Value).ownBlock ∧ some k_ ≠ (.slice Ao44 y543.length co44 : Value).ownBlock ∧ some k_ ≠ (.slice Ao49 y549.length co49 : Value).ownBlock ∧ some k_ ≠ (.slice Ao52 t556.length co52 : Value).ownBlock ∧ some k_ ≠ (.slice Ao55 t563.length co55 : Value).ownBlock) (fun _ => False) rfl rfl ?aO ?aR (fun _ _ h => h) (fun _ h => h.elim) ?aF ?aB ?aS ?aL ?_; (case aR => repeat (first | exact (Kd.R_reads' HO565.out).2.2 | (with_reducible refine Kd.C_alloc ?_ _) | (with_reducible refine Kd.C_drewN ?_ _) | (with_reducible refine Kd.C_drew ?_))); (case aB => exact zb); (case aF => exact (fun k_ hk => ⟨Kd.fresh' (Kd.R_lt (tR HO_3.out)) k_ hk, Kd.fresh' (Kd.R_lt (tR HO532.out)) k_ hk, Kd.fresh' (Kd.R_lt (tR HO539.out)) k_ hk, Kd.fresh' (Kd.R_lt (tR HO545.out)) k_ hk, Kd.fresh' (Kd.R_lt (tR HO551.out)) k_ hk, Kd.fresh' (Kd.R_lt (tR HO558.out)) k_ hk, Kd.fresh' (Kd.R_lt (tR HO565.out)) k_ hk⟩)); (case aO => exact (tRm HO561.out)); (case aS => exact (below_size zb)); (case aL => have := LMc27.out; omega); intro v567 w54 ho hb hg hat; rw [← Ny566.out] at ho; replace HO_3 := Aside0.mk (Kd.R_after (ok := (fun k_ => some k_ ≠ (.slice Ao35 t530.length co35 : Value).ownBlock ∧ some k_ ≠ (.slice Ao39 t537.length co39 : Value).ownBlock ∧ some k_ ≠ (.slice Ao44 y543.length co44 : Value).ownBlock ∧ some k_ ≠ (.slice Ao49 y549.length co49 : Value).ownBlock ∧ some k_ ≠ (.slice Ao52 t556.length co52 : Value).ownBlock ∧ some k_ ≠ (.slice Ao55 t563.length co55 : Value).ownBlock)) (tRm HO_3.out) hg hat); replace BK520 := Aside0.mk (blk_grown (tH BK520.out) hg (Kd.R_ne HO561.out BK520.out (by decide))); replace HO532 := Aside0.mk (Kd.R_after (ok := (fun k_ => some k_ ≠ (.slice Ao46 x3_2.length co46 : Value).ownBlock ∧ some k_ ≠ (.slice Ao39 t537.length co39 : Value).ownBlock ∧ some k_ ≠ (.slice Ao44 y543.length co44 : Value).ownBlock ∧ some k_ ≠ (.slice Ao49 y549.length co49 : Value).ownBlock ∧ some k_ ≠ (.slice Ao52 t556.length co52 : Value).ownBlock ∧ some k_ ≠ (.slice Ao55 t563.length co55 : Value).ownBlock)) (tRm HO532.out) hg hat); replace HO539 := Aside0.mk (Kd.R_after (ok := (fun k_ => some k_ ≠ (.slice Ao46 x3_2.length co46 : Value).ownBlock ∧ some k_ ≠ (.slice Ao35 t530.length co35 : Value).ownBlock ∧ some k_ ≠ (.slice Ao44 y543.length co44 : Value).ownBlock ∧ some k_ ≠ (.slice Ao49 y549.length co49 : Value).ownBlock ∧ some k_ ≠ (.slice Ao52 t556.length co52 : Value).ownBlock ∧ some k_ ≠ (.slice Ao55 t563.length co55 : Value).ownBlock)) (tRm HO539.out) hg hat); replace HO545 := Aside0.mk (Kd.R_after (ok := (fun k_ => some k_ ≠ (.slice Ao46 x3_2.length co46 : Value).ownBlock ∧ some k_ ≠ (.slice Ao35 t530.length co35 : Value).ownBlock ∧ some k_ ≠ (.slice Ao39 t537.length co39 : Value).ownBlock ∧ some k_ ≠ (.slice Ao49 y549.length co49 : Value).ownBlock ∧ some k_ ≠ (.slice Ao52 t556.length co52 : Value).ownBlock ∧ some k_ ≠ (.slice Ao55 t563.length co55 : Value).ownBlock)) (tRm HO545.out) hg hat); replace HO551 := Aside0.mk (Kd.R_after (ok := (fun k_ => some k_ ≠ (.slice Ao46 x3_2.length co46 : Value).ownBlock ∧ some k_ ≠ (.slice Ao35 t530.length co35 : Value).ownBlock ∧ some k_ ≠ (.slice Ao39 t537.length co39 : Value).ownBlock ∧ some k_ ≠ (.slice Ao44 y543.length co44 : Value).ownBlock ∧ some k_ ≠ (.slice Ao52 t556.length co52 : Value).ownBlock ∧ some k_ ≠ (.slice Ao55 t563.length co55 : Value).ownBlock)) (tRm HO551.out) hg hat); replace HO558 := Aside0.mk (Kd.R_after (ok := (fun k_ => some k_ ≠ (.slice Ao46 x3_2.length co46 : Value).ownBlock ∧ some k_ ≠ (.slice Ao35 t530.length co35 : Value).ownBlock ∧ some k_ ≠ (.slice Ao39 t537.length co39 : Value).ownBlock ∧ some k_ ≠ (.slice Ao44 y543.length co44 : Value).ownBlock ∧ some k_ ≠ (.slice Ao49 y549.length co49 : Value).ownBlock ∧ some k_ ≠ (.slice Ao55 t563.length co55 : Value).ownBlock)) (tRm HO558.out) hg hat); replace HO565 := Aside0.mk (Kd.R_after (ok := (fun k_ => some k_ ≠ (.slice Ao46 x3_2.length co46 : Value).ownBlock ∧ some k_ ≠ (.slice Ao35 t530.length co35 : Value).ownBlock ∧ some k_ ≠ (.slice Ao39 t537.length co39 : Value).ownBlock ∧ some k_ ≠ (.slice Ao44 y543.length co44 : Value).ownBlock ∧ some k_ ≠ (.slice Ao49 y549.length co49 : Value).ownBlock ∧ some k_ ≠ (.slice Ao52 t556.length co52 : Value).ownBlock)) (tRm HO565.out) hg hat); replace HB := Aside0.mk (hb); have HO568 := Aside0.mk (ho); clear HO561; clear ho hb hg hat) | ((with_reducible refine gate_builtin (b := .append) (xs := #[.tmp 61, .tmp 62]) rfl ?_); at_builtin; refine Kd.R_append_rows (Kd.int .i64) (w0 := w) w.heap.size rfl (.tmp 61) (.tmp 62) 26 3 (.int .i64 0) 8 rfl Try.underlying26 info3 rfl (by decide) (by omega) v567 y566 y549 _ _ _ (fun k_ => some k_ ≠ (.slice Ao46 x3_2.length co46 : Value).ownBlock ∧ some k_ ≠ (.slice Ao35 t530.length co35 : Value).ownBlock ∧ some k_ ≠ (.slice Ao39 t537.length co39 : Value).ownBlock ∧ some k_ ≠ (.slice Ao44 y543.length co44 : Value).ownBlock ∧ some k_ ≠ (.slice Ao49 y549.length co49 : Value).ownBlock ∧ some k_ ≠ (.slice Ao52 t556.length co52 : Value).ownBlock ∧ some k_ ≠ (.slice Ao55 t563.length co55 : Value).ownBlock) (fun _ => False) rfl rfl ?aO ?aR (fun _ _ h => h) (fun _ h => h.elim) ?aF ?aB ?aS ?aL ?_; (case aR => repeat (first | exact (Kd.R_reads' HO551.out).2.2 | (with_reducible refine Kd.C_alloc ?_ _) | (with_reducible refine Kd.C_drewN ?_ _) | (with_reducible refine Kd.C_drew ?_))); (case aB => exact zb); (case aF => exact (fun k_ hk => ⟨Kd.fresh' (Kd.R_lt (tR HO_3.out)) k_ hk, Kd.fresh' (Kd.R_lt (tR HO532.out)) k_ hk, Kd.fresh' (Kd.R_lt (tR HO539.out)) k_ hk, Kd.fresh' (Kd.R_lt (tR HO545.out)) k_ hk, Kd.fresh' (Kd.R_lt (tR HO551.out)) k_ hk, Kd.fresh' (Kd.R_lt (tR HO558.out)) k_ hk, Kd.fresh' (Kd.R_lt (tR HO565.out)) k_ hk⟩)); (case aO => exact (tR HO568.out)); (case aS => exact (below_size zb)); (case aL => have := LMc28.out; omega); intro v570 w56 ho hb hg hat; rw [← Ny569.out] at ho; replace HO_3 := Aside0.mk (Kd.R_after (ok := (fun k_ => some k_ ≠ (.slice Ao35 t530.length co35 : Value).ownBlock ∧ some k_ ≠ (.slice Ao39 t537.length co39 : Value).ownBlock ∧ some k_ ≠ (.slice Ao44 y543.length co44 : Value).ownBlock ∧ some k_ ≠ (.slice Ao49 y549.length co49 : Value).ownBlock ∧ some k_ ≠ (.slice Ao52 t556.length co52 : Value).ownBlock ∧ some k_ ≠ (.slice Ao55 t563.length co55 : Value).ownBlock)) (tR HO_3.out) hg hat); replace BK520 := Aside0.mk (blk_grown (tH BK520.out) hg (Kd.R_ne HO568.out BK520.out (by decide))); replace HO532 := Aside0.mk (Kd.R_after (ok := (fun k_ => some k_ ≠ (.slice Ao46 x3_2.length co46 : Value).ownBlock ∧ some k_ ≠ (.slice Ao39 t537.length co39 : Value).ownBlock ∧ some k_ ≠ (.slice Ao44 y543.length co44 : Value).ownBlock ∧ some k_ ≠ (.slice Ao49 y549.length co49 : Value).ownBlock ∧ some k_ ≠ (.slice Ao52 t556.length co52 : Value).ownBlock ∧ some k_ ≠ (.slice Ao55 t563.length co55 : Value).ownBlock)) (tR HO532.out) hg hat); replace HO539 := Aside0.mk (Kd.R_after (ok := (fun k_ => some k_ ≠ (.slice Ao46 x3_2.length co46 : Value).ownBlock ∧ some k_ ≠ (.slice Ao35 t530.length co35 : Value).ownBlock ∧ some k_ ≠ (.slice Ao44 y543.length co44 : Value).ownBlock ∧ some k_ ≠ (.slice Ao49 y549.length co49 : Value).ownBlock ∧ some k_ ≠ (.slice Ao52 t556.length co52 : Value).ownBlock ∧ some k_ ≠ (.slice Ao55 t563.length co55 : Value).ownBlock)) (tR HO539.out) hg hat); replace HO545 := Aside0.mk (Kd.R_after (ok := (fun k_ => some k_ ≠ (.slice Ao46 x3_2.length co46 : Value).ownBlock ∧ some k_ ≠ (.slice Ao35 t530.length co35 : Value).ownBlock ∧ some k_ ≠ (.slice Ao39 t537.length co39 : Value).ownBlock ∧ some k_ ≠ (.slice Ao49 y549.length co49 : Value).ownBlock ∧ some k_ ≠ (.slice Ao52 t556.length co52 : Value).ownBlock ∧ some k_ ≠ (.slice Ao55 t563.length co55 : Value).ownBlock)) (tR HO545.out) hg hat); replace HO551 := Aside0.mk (Kd.R_after (ok := (fun k_ => some k_ ≠ (.slice Ao46 x3_2.length co46 : Value).ownBlock ∧ some k_ ≠ (.slice Ao35 t530.length co35 : Value).ownBlock ∧ some k_ ≠ (.slice Ao39 t537.length co39 : Value).ownBlock ∧ some k_ ≠ (.slice Ao44 y543.length co44 : Value).ownBlock ∧ some k_ ≠ (.slice Ao52 t556.length co52 : Value).ownBlock ∧ some k_ ≠ (.slice Ao55 t563.length co55 : Value).ownBlock)) (tR HO551.out) hg hat); replace HO558 := Aside0.mk (Kd.R_after (ok := (fun k_ => some k_ ≠ (.slice Ao46 x3_2.length co46 : Value).ownBlock ∧ some k_ ≠ (.slice Ao35 t530.length co35 : Value).ownBlock ∧ some k_ ≠ (.slice Ao39 t537.length co39 : Value).ownBlock ∧ some k_ ≠ (.slice Ao44 y543.length co44 : Value).ownBlock ∧ some k_ ≠ (.slice Ao49 y549.length co49 : Value).ownBlock ∧ some k_ ≠ (.slice Ao55 t563.length co55 : Value).ownBlock)) (tR HO558.out) hg hat); replace HO565 := Aside0.mk (Kd.R_after (ok := (fun k_ => some k_ ≠ (.slice Ao46 x3_2.length co46 : Value).ownBlock ∧ some k_ ≠ (.slice Ao35 t530.length co35 : Value).ownBlock ∧ some k_ ≠ (.slice Ao39 t537.length co39 : Value).ownBlock ∧ some k_ ≠ (.slice Ao44 y543.length co44 : Value).ownBlock ∧ some k_ ≠ (.slice Ao49 y549.length co49 : Value).ownBlock ∧ some k_ ≠ (.slice Ao52 t556.length co52 : Value).ownBlock)) (tR HO565.out) hg hat); replace HB := Aside0.mk (hb); have HO571 := Aside0.mk (ho); clear HO568; clear ho hb hg hat))
             go_ret
             exact ⟨_, by first | rfl | (simp [errW_none, errW_some] <;> rfl) | (simp [*, errW_none, errW_some] <;> rfl), tRm HO571.out, zb⟩
            ·rw [if_neg c28] at H
             exact absurd H (by simp)
           ·rw [if_neg c27] at H
            exact absurd H (by simp)
          ·rw [if_neg c24] at H
           exact absurd H (by simp)
         ·rw [if_neg c21] at H
          exact absurd H (by simp)
        ·rw [if_neg c20] at H
         exact absurd H (by simp)
       ·rw [if_neg c19] at H
        exact absurd H (by simp)
      ·rw [if_neg c17] at H
       exact absurd H (by simp)
     ·rw [if_neg c16] at H
      exact absurd H (by simp)

def spec_l33Size.l0 : Nat → List (S46) → Int → Int → Option (Int)
 | 0, _, _, _ => none
 | k + 1, x0, x3, x4 => if x4 < (x0.length : Int) then (if 0 ≤ x4 then ((spec_l5Bytes.f k ((rd_T46 x0 x4).f0) ((rd_T46 x0 x4).f1) ((rd_T46 x0 x4).f2) ((rd_T46 x0 x4).f3) ((rd_T46 x0 x4).f4) ((rd_T46 x0 x4).f5)).bind fun t573 => (spec_l33Size.l0 k x0 (wrap64 (x3 + (t573.length : Int))) (wrap64 (x4 + 1)))) else (none)) else (some x3)
def spec_l33Size.f (k : Nat) (l0 : List (S46)) : Option (Int) := spec_l33Size.l0 k l0 0 0
set_option maxHeartbeats 8000000 in
set_option maxRecDepth 100000 in
theorem spec_l33Size.calls (k : Nat) (A0 : Option Addr) (c0 : Nat) (l0 : List (S46)) (r : Int) (w : World) (hr0 : Kd.C k46 w A0 l0.length l0) (hc0 : l0.length ≤ c0) (h : spec_l33Size.f k l0 = some r) :
  Calls Try.prog 24 #[.slice A0 l0.length c0] w fun e w' => e = .returned (.int .i64 r) ∧ Below w.heap.size w w' := by
 have hu46 := Try.underlying46
 have HR0 := Aside0.mk hr0
 have HC0 := Aside0.mk hc0
 clear hr0 hc0
 have HB := Aside0.mk (Below.refl w.heap.size w)
 have H : (spec_l33Size.l0 k l0 0 0) = some r := h
 clear h
 have H' := Aside0.mk H
 clear H
 go_enter Try.func24, Try.ntmps24
 go_wp2
 go_loopg [3, 4] k (fun kq v3 v4 w' => ∃ (x3_1 : Int) (x4_1 : Int), v3 = .int .i64 x3_1 ∧ v4 = .int .i64 x4_1 ∧ Aside0 (spec_l33Size.l0 kq l0 x3_1 x4_1 = some r) ∧ Aside0 (kq ≤ k) ∧ Aside0 (Below w.heap.size w w'))
 case atStart => exact ⟨(0), (0), tr, tr, H', ⟨Nat.le_refl _⟩, ⟨zb⟩⟩
 case round =>
  clear H'
  obtain ⟨x3_1, x4_1, rfl, rfl, HA, HK1, HB⟩ := hrel
  cases gk with
  | zero => exact absurd HA.out (by simp [spec_l33Size.l0])
  | succ k1 =>
   have H := HA.out
   clear HA
   simp only [spec_l33Size.l0] at H
   by_cases c2 : x4_1 < (l0.length : Int)
   ·rw [if_pos c2] at H
    have c2b0 : decide (x4_1 < (l0.length : Int)) = true := decide_eq_true c2
    clear c2
    by_cases c3 : 0 ≤ x4_1
    ·rw [if_pos c3] at H
     have c3b0 : decide (0 ≤ x4_1) = true := decide_eq_true c3
     clear c3
     replace H := tbe H
     obtain ⟨t573, A4, H⟩ := H
     have H' := Aside0.mk H
     clear H
     have p572 : 0 ≤ (x4_1 : Int) := td
     have q572 : x4_1 < (l0.length : Int) := td
     obtain ⟨ad572, A572_5, c572_5, e572, hx572_0, hx572_1, hx572_2, hx572_3, hx572_4, hx572_5, hl572_5, hi572_5⟩ := at_T46 HR0.out x4_1 p572 q572
     cases e572
     replace hx572_0 := tcl HB hx572_0
     replace hx572_1 := tcl HB hx572_1
     replace hx572_2 := tcl HB hx572_2
     replace hx572_3 := tcl HB hx572_3
     replace hx572_4 := tcl HB hx572_4
     replace hx572_5 := tcl HB hx572_5
     have HR572_5 := Aside0.mk hi572_5
     have HC572_5 := Aside0.mk hl572_5
     clear hi572_5 hl572_5
     replace p572 := eq_true p572
     replace q572 := eq_true q572
     go_wp2_with (first | ((with_reducible refine gate_callee (f := 41) rfl ?_); refine goesL_ (some 16) rfl rfl Try.func41 (by kernel_rfl) rfl #[.agg #[.bool ((rd_T46 l0 x4_1).f0), .bool ((rd_T46 l0 x4_1).f1), .int .i64 ((rd_T46 l0 x4_1).f2), .int .i64 ((rd_T46 l0 x4_1).f3), .int .i64 ((rd_T46 l0 x4_1).f4), .slice A572_5 ((rd_T46 l0 x4_1).f5).length c572_5]] rfl tq ?_; (with_reducible refine (spec_l5Bytes.calls k1 ((rd_T46 l0 x4_1).f0) ((rd_T46 l0 x4_1).f1) ((rd_T46 l0 x4_1).f2) ((rd_T46 l0 x4_1).f3) ((rd_T46 l0 x4_1).f4) _ _ ((rd_T46 l0 x4_1).f5) t573 _ ?side1 ?side2 A4.out).mono ?_); (case side1 => exact tC (Kd.C_below HR572_5.out HB.out)); (case side2 => exact HC572_5.out); rintro e w5 ⟨v574, rfl, ho0, hb⟩; have u_v574 := tsv Try.prog v574 ho0; refine ⟨_, rfl, ?_⟩; have HO575 := tRl ho0 HB; replace HB := tBs HB hb; (try clear hb); (try clear hb2); (try clear hk); (try clear hi); (try clear ho0); obtain ⟨Ao6, co6, eo6⟩ := Kd.R_slice HO575.out; subst eo6))
     go_roundg k1
     case measure => have := HK1.out; omega
     case rel => exact ⟨(wrap64 (x3_1 + (t573.length : Int))), (wrap64 (x4_1 + 1)), tr, tr, H', ⟨by have := HK1.out; omega⟩, ⟨zb⟩⟩
    ·rw [if_neg c3] at H
     exact absurd H (by simp)
   ·rw [if_neg c2] at H
    have c2b0 : decide (x4_1 < (l0.length : Int)) = false := decide_eq_false c2
    clear c2
    obtain rfl := Option.some.inj H
    go_wp2
    go_ret
    exact ⟨by first | rfl | (simp [errW_none, errW_some] <;> rfl) | (simp [*, errW_none, errW_some] <;> rfl), zb⟩

end Go.Proofs.Ythoioccmnphfgaa.G

namespace Go.Proofs.Ythoioccmnphfgaa.G
open Go.RowKit Go.Proofs.YthoioccmnphfgaaW.PrintWords Go.Proofs.YthoioccmnphfgaaW.PrintLast Go.Proofs.YthoioccmnphfgaaW.PrintMore
attribute [local go_sem] max2_int min2_int max_two min_two max_three min_three max_four min_four   -- for this text's walks alone
set_option linter.unusedVariables false
set_option linter.unusedSimpArgs false

def spec_DrawKeepSize.f (k : Nat) (l0 : List Int) : Option ((List (S46)) × Int) := (spec_l6Open.f l0).bind fun bt611 => ((spec_l92Log.f k bt611.1 bt611.2).bind fun bt614 => ((spec_l6Rd_pick.f k bt611.1 bt614.2 250).bind fun bt618 => ((spec_l6Rd_pick.f k bt611.1 bt618.2 30).bind fun bt620 => (some (bt614.1, wrap64 (bt618.1 - (wrap64 ((wrap64 (Int.tdiv bt620.1 29)) * 251))))))))
set_option maxHeartbeats 8000000 in
set_option maxRecDepth 100000 in
theorem spec_DrawKeepSize.calls (k : Nat) (A0 : Option Addr) (c0 : Nat) (l0 : List Int) (r1 : List (S46)) (r2 : Int) (w : World) (hr0 : Kd.C (Kd.int .u8) w A0 l0.length l0) (hc0 : l0.length ≤ c0) (h : spec_DrawKeepSize.f k l0 = some (r1, r2)) :
  Calls Try.prog 13 #[.slice A0 l0.length c0] w fun e w' => ∃ v0_ : Value, e = .returned (.tuple #[v0_, .int .i64 r2]) ∧ Kd.N k46 46 w' w.heap.size (fun k_ => (w.heap.size ≤ k_)) v0_ r1 ∧ Below w.heap.size w w' := by
 have HR0 := Aside0.mk hr0
 have HC0 := Aside0.mk hc0
 clear hr0 hc0
 have HB := Aside0.mk (Below.refl w.heap.size w)
 have H : ((spec_l6Open.f l0).bind fun bt611 => ((spec_l92Log.f k bt611.1 bt611.2).bind fun bt614 => ((spec_l6Rd_pick.f k bt611.1 bt614.2 250).bind fun bt618 => ((spec_l6Rd_pick.f k bt611.1 bt618.2 30).bind fun bt620 => (some (bt614.1, wrap64 (bt618.1 - (wrap64 ((wrap64 (Int.tdiv bt620.1 29)) * 251))))))))) = some (r1, r2) := h
 clear h
 replace H := tbe H
 obtain ⟨⟨t611, t612⟩, A2, H⟩ := H
 dsimp only at H
 replace H := tbe H
 obtain ⟨⟨t614, t617⟩, A3, H⟩ := H
 dsimp only at H
 replace H := tbe H
 obtain ⟨⟨t618, t619⟩, A4, H⟩ := H
 dsimp only at H
 replace H := tbe H
 obtain ⟨⟨t620, t621⟩, A5, H⟩ := H
 dsimp only at H
 simp only [Option.some.injEq, Prod.mk.injEq] at H
 obtain ⟨rfl, rfl⟩ := H
 go_enter Try.func13, Try.ntmps13
 go_wp2_with (first | ((with_reducible refine gate_callee (f := 20) rfl ?_); refine goesL_ (some 7) rfl rfl Try.func20 (by kernel_rfl) rfl #[.slice A0 l0.length c0] rfl tq ?_; (with_reducible refine (spec_l6Open.calls _ _ l0 t611 t612 w _ ?side1 ?side2 ?side3 A2.out).mono ?_); (case side1 => exact zb); (case side2 => exact HR0.out); (case side3 => exact HC0.out); rintro e w6 ⟨g613, rfl, hi, hb, hb2⟩; refine ⟨_, rfl, ?_⟩; replace HB := Aside0.mk (hb); have HI613 := Aside0.mk (hi); (try clear hb); (try clear hb2); (try clear hk); (try clear hi)) | ((with_reducible refine gate_callee (f := 19) rfl ?_); refine goesL_ (some 9) rfl rfl Try.func19 (by kernel_rfl) rfl #[.pointer (some ⟨g613, 0, none⟩)] rfl tq ?_; (with_reducible refine (spec_l92Log.calls k g613 t611 t612 t614 t617 w _ ?side1 ?side2 A3.out).mono ?_); (case side1 => repeat (first | (with_reducible first | exact HI613.out | apply IsS65.alloc | apply IsS65.drewN | apply IsS65.drew | apply IsS65.set_1) | exact HI613.out)); (case side2 => repeat (first | (with_reducible first | exact HB.out | apply below_alloc | apply pw_below_drewN | apply below_drew1 | refine below_set ?_ (IsS65.ge HI613.out)) | exact HB.out)); rintro e w7 ⟨v615, rfl, ho0, hi, hb, hk⟩; have u_v615 := tsv Try.prog v615 ho0; refine ⟨_, rfl, ?_⟩; have HO616 := Aside0.mk (Kd.N_lower (Kd.N_mono (ok' := fun k_ => (w.heap.size ≤ k_) ∧ k_ ≠ g613) ho0 (fun k_ hk_ => ⟨(Nat.le_trans (below_size (by repeat (first | (with_reducible first | exact HB.out | apply below_alloc | apply pw_below_drewN | apply below_drew1 | refine below_set ?_ (IsS65.ge HI613.out)) | exact HB.out))) hk_), (IsS65.fresh (by repeat (first | (with_reducible first | exact HI613.out | apply IsS65.alloc | apply IsS65.drewN | apply IsS65.drew | apply IsS65.set_1) | exact HI613.out)) k_ hk_)⟩)) (below_size (by repeat (first | (with_reducible first | exact HB.out | apply below_alloc | apply pw_below_drewN | apply below_drew1 | refine below_set ?_ (IsS65.ge HI613.out)) | exact HB.out)))); replace HB := Aside0.mk (hb); replace HI613 := Aside0.mk (hi); (try clear hb); (try clear hb2); (try clear hk); (try clear hi); (try clear ho0)) | ((with_reducible refine gate_callee (f := 26) rfl ?_); refine goesL_ (some 12) rfl rfl Try.func26 (by kernel_rfl) rfl #[.pointer (some ⟨g613, 0, none⟩), .int .i64 250] rfl tq ?_; (with_reducible refine (spec_l6Rd_pick.calls k g613 t611 t617 250 t618 t619 w _ ?side1 ?side2 A4.out).mono ?_); (case side1 => repeat (first | (with_reducible first | exact HI613.out | apply IsS65.alloc | apply IsS65.drewN | apply IsS65.drew | apply IsS65.set_1) | exact HI613.out)); (case side2 => repeat (first | (with_reducible first | exact HB.out | apply below_alloc | apply pw_below_drewN | apply below_drew1 | refine below_set ?_ (IsS65.ge HI613.out)) | exact HB.out)); rintro e w8 ⟨rfl, hi, hb, hk⟩; refine ⟨_, rfl, ?_⟩; replace HO616 := tNk HO616 hk; replace HB := Aside0.mk (hb); replace HI613 := Aside0.mk (hi); (try clear hb); (try clear hb2); (try clear hk); (try clear hi)) | ((with_reducible refine gate_callee (f := 26) rfl ?_); refine goesL_ (some 14) rfl rfl Try.func26 (by kernel_rfl) rfl #[.pointer (some ⟨g613, 0, none⟩), .int .i64 30] rfl tq ?_; (with_reducible refine (spec_l6Rd_pick.calls k g613 t611 t619 30 t620 t621 w _ ?side1 ?side2 A5.out).mono ?_); (case side1 => repeat (first | (with_reducible first | exact HI613.out | apply IsS65.alloc | apply IsS65.drewN | apply IsS65.drew | apply IsS65.set_1) | exact HI613.out)); (case side2 => repeat (first | (with_reducible first | exact HB.out | apply below_alloc | apply pw_below_drewN | apply below_drew1 | refine below_set ?_ (IsS65.ge HI613.out)) | exact HB.out)); rintro e w9 ⟨rfl, hi, hb, hk⟩; refine ⟨_, rfl, ?_⟩; replace HO616 := tNk HO616 hk; replace HB := Aside0.mk (hb); replace HI613 := Aside0.mk (hi); (try clear hb); (try clear hb2); (try clear hk); (try clear hi)))
 go_ret2
 exact ⟨_, by first | rfl | (simp [errW_none, errW_some] <;> rfl) | (simp [*, errW_none, errW_some] <;> rfl), tNm HO616.out, by repeat (first | (with_reducible first | exact HB.out | apply below_alloc | apply pw_below_drewN | apply below_drew1 | refine below_set ?_ (IsS65.ge HI613.out)) | exact HB.out)⟩

def impl_room_fits.f (k : Nat) (a0 : Int) (l1 : List (S46)) (a2 : Int) : Option (Bool) := if 0 ≤ a2 then (if a2 ≤ (l1.length : Int) then ((impl_sizeOf.f k (l1.drop (a2 : Int).toNat)).bind fun t626 => (some (decide (t626 ≤ a0)))) else (none)) else (none)
set_option maxHeartbeats 8000000 in
set_option maxRecDepth 100000 in
theorem impl_room_fits.calls (k : Nat) (a0 : Int) (A1 : Option Addr) (c1 : Nat) (l1 : List (S46)) (a2 : Int) (r : Bool) (w : World) (hr1 : Kd.C k46 w A1 l1.length l1) (hc1 : l1.length ≤ c1) (h : impl_room_fits.f k a0 l1 a2 = some r) :
  Calls Try.prog 29 #[.int .i64 a0, .slice A1 l1.length c1, .int .i64 a2] w fun e w' => e = .returned (.bool r) ∧ Below w.heap.size w w' := by
 have HR1 := Aside0.mk hr1
 have HC1 := Aside0.mk hc1
 clear hr1 hc1
 have HB := Aside0.mk (Below.refl w.heap.size w)
 have H : (if 0 ≤ a2 then (if a2 ≤ (l1.length : Int) then ((impl_sizeOf.f k (l1.drop (a2 : Int).toNat)).bind fun t626 => (some (decide (t626 ≤ a0)))) else (none)) else (none)) = some r := h
 clear h
 by_cases c4 : 0 ≤ a2
 ·rw [if_pos c4] at H
  have c4b0 := eq_true c4
  have c4b1 : decide (0 ≤ a2) = true := decide_eq_true c4
  clear c4
  by_cases c5 : a2 ≤ (l1.length : Int)
  ·rw [if_pos c5] at H
   have c5b0 := eq_true c5
   have c5b1 : decide (a2 ≤ (l1.length : Int)) = true := decide_eq_true c5
   clear c5
   obtain ⟨y622, hy622⟩ : ∃ y_ : List (S46), y_ = (l1.drop (a2 : Int).toNat) := ⟨_, rfl⟩
   replace H : ((impl_sizeOf.f k y622).bind fun t626 => (some (decide (t626 ≤ a0)))) = some r := by first | (rw [hy622]; with_reducible exact H) | (have H2_ := (Option.bind_some _ _).symm.trans H; rw [hy622]; with_reducible exact H2_) | (have H2_ := (Option.bind_some _ _).symm.trans H; with_reducible exact H2_) | with_reducible exact H | (rw [hy622]; exact H) | exact H
   have Ny622 := Aside0.mk hy622
   clear hy622
   replace H := tbe H
   obtain ⟨t626, A6, H⟩ := H
   obtain rfl := Option.some.inj H
   have q7 : (a2 : Int) ≤ ((l1.length : Int) : Int) := td
   obtain ⟨i07, hi07, _, hsz7, _⟩ := info_parts info46
   have hroom7 : l1.length ≤ c1 := HC1.out
   have hC7 : Kd.C k46 _ A1 l1.length l1 := HR1.out
   have q07 : (0 : Int) ≤ (a2 : Int) := td
   have hcut7 := cut_from (P := Try.prog) 23 46 .i64 Try.underlying23 hi07 6 hsz7 A1 l1.length c1 a2 q07 q7
   have hr7 := Kd.C_drop (m := (a2 : Int).toNat) (c := c1) hC7 (by omega) hroom7
   obtain ⟨A7, hA7⟩ : ∃ A_, A_ = (if c1 = (a2 : Int).toNat then A1 else (A1 : Option Addr).map (·.add ((a2 : Int).toNat * 6))) := ⟨_, rfl⟩
   obtain ⟨c7, hc7⟩ : ∃ c_, c_ = c1 - (a2 : Int).toNat := ⟨_, rfl⟩
   have hy7 : y622.length = l1.length - (a2 : Int).toNat := (by rw [Ny622.out, List.length_drop] <;> omega)
   rw [show (l1).drop (a2 : Int).toNat = y622 from Ny622.out.symm] at hr7
   replace hr7 : Kd.C k46 _ A7 y622.length y622 := (by rw [hA7]; exact hr7)
   rw [← hy7, ← hA7, ← hc7] at hcut7
   have HR625 := Aside0.mk hr7
   have HC625 := Aside0.mk (show y622.length ≤ c7 from by rw [hy7, hc7]; exact Nat.sub_le_sub_right hroom7 _)
   clear hr7 hC7 hroom7 hi07 hsz7 hc7
   have KY7 := Aside0.mk hy7
   have KA7 := Aside0.mk hA7
   clear hy7 hA7
   replace q7 := eq_true q7
   go_enter Try.func29, Try.ntmps29
   go_wp2_with (first | ((with_reducible refine gate_callee (f := 22) rfl ?_); refine goesL_ (some 10) rfl rfl Try.func22 (by kernel_rfl) rfl #[.slice A7 y622.length c7] rfl tq ?_; (with_reducible refine (impl_sizeOf.calls k _ _ y622 t626 _ ?side1 ?side2 A6.out).mono ?_); (case side1 => exact tC HR625.out); (case side2 => exact HC625.out); rintro e w8 ⟨rfl, hb⟩; refine ⟨_, rfl, ?_⟩; replace HB := tBs HB hb; (try clear hb); (try clear hb2); (try clear hk); (try clear hi)))
   go_ret
   exact ⟨by first | rfl | (simp [errW_none, errW_some] <;> rfl) | (simp [*, errW_none, errW_some] <;> rfl), zb⟩
  ·rw [if_neg c5] at H
   exact absurd H (by simp)
 ·rw [if_neg c4] at H
  exact absurd H (by simp)

def impl_keptFrom.l0 : Nat → List (S46) → Int → Int → Int → Option (Int)
 | 0, _, _, _, _ => none
 | k + 1, x0, x1, x7, x8 => if x8 < x7 then ((impl_room_fits.f k x1 x0 x8).bind fun t627 => (if t627 = true then (some x8) else (impl_keptFrom.l0 k x0 x1 x7 (wrap64 (x8 + 1))))) else (some (mx (wrap64 ((x0.length : Int) - 1)) 0))
def impl_keptFrom.f (k : Nat) (l0 : List (S46)) (a1 : Int) : Option (Int) := impl_keptFrom.l0 k l0 a1 (l0.length : Int) 0
set_option maxHeartbeats 8000000 in
set_option maxRecDepth 100000 in
theorem impl_keptFrom.calls (k : Nat) (A0 : Option Addr) (c0 : Nat) (l0 : List (S46)) (a1 : Int) (r : Int) (w : World) (hr0 : Kd.C k46 w A0 l0.length l0) (hc0 : l0.length ≤ c0) (h : impl_keptFrom.f k l0 a1 = some r) :
  Calls Try.prog 28 #[.slice A0 l0.length c0, .func (.func 29) #[.int .i64 a1] #[]] w fun e w' => e = .returned (.int .i64 r) ∧ Below w.heap.size w w' := by
 have HR0 := Aside0.mk hr0
 have HC0 := Aside0.mk hc0
 clear hr0 hc0
 have HB := Aside0.mk (Below.refl w.heap.size w)
 have H : (impl_keptFrom.l0 k l0 a1 (l0.length : Int) 0) = some r := h
 clear h
 have H' := Aside0.mk H
 clear H
 go_enter Try.func28, Try.ntmps28
 go_wp2
 go_loopg [8] k (fun kq v8 w' => ∃ (x8_1 : Int), v8 = .int .i64 x8_1 ∧ Aside0 (impl_keptFrom.l0 kq l0 a1 (l0.length : Int) x8_1 = some r) ∧ Aside0 (kq ≤ k) ∧ Aside0 (Below w.heap.size w w'))
 case atStart => exact ⟨(0), tr, H', ⟨Nat.le_refl _⟩, ⟨zb⟩⟩
 case round =>
  clear H'
  obtain ⟨x8_1, rfl, HA, HK1, HB⟩ := hrel
  cases gk with
  | zero => exact absurd HA.out (by simp [impl_keptFrom.l0])
  | succ k1 =>
   have H := HA.out
   clear HA
   simp only [impl_keptFrom.l0] at H
   by_cases c3 : x8_1 < (l0.length : Int)
   ·rw [if_pos c3] at H
    have c3b0 : decide (x8_1 < (l0.length : Int)) = true := decide_eq_true c3
    clear c3
    replace H := tbe H
    obtain ⟨t627, A4, H⟩ := H
    by_cases c5 : t627 = true
    ·subst c5
     rw [if_pos rfl] at H
     obtain rfl := Option.some.inj H
     go_wp2_with (first | ((with_reducible refine gate_val (x := 11) rfl ?_); refine goesC_ (some 14) rfl rfl 11 rfl Try.func29 (by kernel_rfl) rfl #[.int .i64 a1, .slice A0 l0.length c0, .int .i64 x8_1] rfl tq ?_; (with_reducible refine (impl_room_fits.calls k1 a1 _ _ l0 x8_1 true _ ?side1 ?side2 A4.out).mono ?_); (case side1 => exact tC (Kd.C_below HR0.out HB.out)); (case side2 => exact HC0.out); rintro e w6 ⟨rfl, hb⟩; refine ⟨_, rfl, ?_⟩; replace HB := tBs HB hb; (try clear hb); (try clear hb2); (try clear hk); (try clear hi)))
     go_ret
     exact ⟨by first | rfl | (simp [errW_none, errW_some] <;> rfl) | (simp [*, errW_none, errW_some] <;> rfl), zb⟩
    ·replace c5 := Bool.eq_false_iff.mpr c5
     subst c5
     rw [if_neg (show ¬ (false = true) by decide)] at H
     have H' := Aside0.mk H
     clear H
     go_wp2_with (first | ((with_reducible refine gate_val (x := 11) rfl ?_); refine goesC_ (some 14) rfl rfl 11 rfl Try.func29 (by kernel_rfl) rfl #[.int .i64 a1, .slice A0 l0.length c0, .int .i64 x8_1] rfl tq ?_; (with_reducible refine (impl_room_fits.calls k1 a1 _ _ l0 x8_1 false _ ?side1 ?side2 A4.out).mono ?_); (case side1 => exact tC (Kd.C_below HR0.out HB.out)); (case side2 => exact HC0.out); rintro e w7 ⟨rfl, hb⟩; refine ⟨_, rfl, ?_⟩; replace HB := tBs HB hb; (try clear hb); (try clear hb2); (try clear hk); (try clear hi)))
     go_roundg k1
     case measure => have := HK1.out; omega
     case rel => exact ⟨(wrap64 (x8_1 + 1)), tr, H', ⟨by have := HK1.out; omega⟩, ⟨zb⟩⟩
   ·rw [if_neg c3] at H
    have c3b0 : decide (x8_1 < (l0.length : Int)) = false := decide_eq_false c3
    clear c3
    obtain ⟨ji8, hji8⟩ : ∃ j_ : Int, (mx (wrap64 ((l0.length : Int) - 1)) 0) = j_ := ⟨_, rfl⟩
    replace H : (some ji8) = some r := by first | (rw [hji8] at H; exact H) | (simp only [hji8] at H ⊢; exact H)
    have hji8_ : (if (wrap64 ((l0.length : Int) - 1)) < 0 then 0 else (wrap64 ((l0.length : Int) - 1))) = ji8 := hji8
    obtain rfl := Option.some.inj H
    go_wp2
    go_ret
    exact ⟨by first | rfl | (simp [errW_none, errW_some] <;> rfl) | (simp only [← hji8]; first | rfl | (simp [errW_none, errW_some] <;> rfl)) | (simp [*, errW_none, errW_some] <;> rfl), zb⟩

def impl_KeepSize.f (k : Nat) (l0 : List (S46)) (a1 : Int) : Option (Int) := (impl_LogValid.f k l0).bind fun t628 => (if t628 = true then ((impl_within.f a1 0 99999).bind fun t629 => (if t629 = true then ((impl_keptFrom.f k l0 a1).bind fun t630 => (some t630)) else (some (-1)))) else (some (-1)))
set_option maxHeartbeats 8000000 in
set_option maxRecDepth 100000 in
theorem impl_KeepSize.calls (k : Nat) (A0 : Option Addr) (c0 : Nat) (l0 : List (S46)) (a1 : Int) (r : Int) (w : World) (hr0 : Kd.C k46 w A0 l0.length l0) (hc0 : l0.length ≤ c0) (h : impl_KeepSize.f k l0 a1 = some r) :
  Calls Try.prog 14 #[.slice A0 l0.length c0, .int .i64 a1] w fun e w' => e = .returned (.int .i64 r) ∧ Below w.heap.size w w' := by
 have HR0 := Aside0.mk hr0
 have HC0 := Aside0.mk hc0
 clear hr0 hc0
 have HB := Aside0.mk (Below.refl w.heap.size w)
 have H : ((impl_LogValid.f k l0).bind fun t628 => (if t628 = true then ((impl_within.f a1 0 99999).bind fun t629 => (if t629 = true then ((impl_keptFrom.f k l0 a1).bind fun t630 => (some t630)) else (some (-1)))) else (some (-1)))) = some r := h
 clear h
 replace H := tbe H
 obtain ⟨t628, A3, H⟩ := H
 by_cases c4 : t628 = true
 ·subst c4
  rw [if_pos rfl] at H
  replace H := tbe H
  obtain ⟨t629, A5, H⟩ := H
  by_cases c6 : t629 = true
  ·subst c6
   rw [if_pos rfl] at H
   replace H := tbe H
   obtain ⟨t630, A7, H⟩ := H
   obtain rfl := Option.some.inj H
   go_enter Try.func14, Try.ntmps14
   go_wp2_with (first | ((with_reducible refine gate_callee (f := 21) rfl ?_); refine goesL_ (some 6) rfl rfl Try.func21 (by kernel_rfl) rfl #[.slice A0 l0.length c0] rfl tq ?_; (with_reducible refine (impl_LogValid.calls k _ _ l0 true _ ?side1 ?side2 A3.out).mono ?_); (case side1 => exact tC HR0.out); (case side2 => exact HC0.out); rintro e w8 ⟨rfl, hb⟩; refine ⟨_, rfl, ?_⟩; replace HB := tBs HB hb; (try clear hb); (try clear hb2); (try clear hk); (try clear hi)) | (go_at_call 27; (with_reducible refine (impl_within.calls a1 0 99999 true _ A5.out).mono ?_); rintro e w' ⟨rfl, ⟨nd, rfl⟩⟩) | ((with_reducible refine gate_callee (f := 28) rfl ?_); refine goesL_ (some 16) rfl rfl Try.func28 (by kernel_rfl) rfl #[.slice A0 l0.length c0, .func (.func 29) #[.int .i64 a1] #[]] rfl tq ?_; (with_reducible refine (impl_keptFrom.calls k _ _ l0 a1 t630 _ ?side1 ?side2 A7.out).mono ?_); (case side1 => exact tC (Kd.C_below HR0.out zb)); (case side2 => exact HC0.out); rintro e w9 ⟨rfl, hb⟩; refine ⟨_, rfl, ?_⟩; replace HB := tBs HB hb; (try clear hb); (try clear hb2); (try clear hk); (try clear hi)))
   go_ret
   exact ⟨by first | rfl | (simp [errW_none, errW_some] <;> rfl) | (simp [*, errW_none, errW_some] <;> rfl), zb⟩
  ·replace c6 := Bool.eq_false_iff.mpr c6
   subst c6
   rw [if_neg (show ¬ (false = true) by decide)] at H
   obtain rfl := Option.some.inj H
   go_enter Try.func14, Try.ntmps14
   go_wp2_with (first | ((with_reducible refine gate_callee (f := 21) rfl ?_); refine goesL_ (some 6) rfl rfl Try.func21 (by kernel_rfl) rfl #[.slice A0 l0.length c0] rfl tq ?_; (with_reducible refine (impl_LogValid.calls k _ _ l0 true _ ?side1 ?side2 A3.out).mono ?_); (case side1 => exact tC HR0.out); (case side2 => exact HC0.out); rintro e w10 ⟨rfl, hb⟩; refine ⟨_, rfl, ?_⟩; replace HB := tBs HB hb; (try clear hb); (try clear hb2); (try clear hk); (try clear hi)) | (go_at_call 27; (with_reducible refine (impl_within.calls a1 0 99999 false _ A5.out).mono ?_); rintro e w' ⟨rfl, ⟨nd, rfl⟩⟩))
   go_ret
   exact ⟨by first | rfl | (simp [errW_none, errW_some] <;> rfl) | (simp [*, errW_none, errW_some] <;> rfl), zb⟩
 ·replace c4 := Bool.eq_false_iff.mpr c4
  subst c4
  rw [if_neg (show ¬ (false = true) by decide)] at H
  obtain rfl := Option.some.inj H
  go_enter Try.func14, Try.ntmps14
  go_wp2_with (first | ((with_reducible refine gate_callee (f := 21) rfl ?_); refine goesL_ (some 6) rfl rfl Try.func21 (by kernel_rfl) rfl #[.slice A0 l0.length c0] rfl tq ?_; (with_reducible refine (impl_LogValid.calls k _ _ l0 false _ ?side1 ?side2 A3.out).mono ?_); (case side1 => exact tC HR0.out); (case side2 => exact HC0.out); rintro e w11 ⟨rfl, hb⟩; refine ⟨_, rfl, ?_⟩; replace HB := tBs HB hb; (try clear hb); (try clear hb2); (try clear hk); (try clear hi)))
  go_ret
  exact ⟨by first | rfl | (simp [errW_none, errW_some] <;> rfl) | (simp [*, errW_none, errW_some] <;> rfl), zb⟩

mutual
def spec_KeepSize.j0 : Nat → List (S46) → Int → Bool → Option (Int)
 | 0, _, _, _ => none
 | k + 1, x0, x1, x13 => if x13 = true then (some (-1)) else (spec_KeepSize.l0 k x0 x1 0)
def spec_KeepSize.l0 : Nat → List (S46) → Int → Int → Option (Int)
 | 0, _, _, _ => none
 | k + 1, x0, x1, x5 => if (wrap64 (x5 + 1)) < (x0.length : Int) then (if 0 ≤ x5 then (if x5 ≤ (x0.length : Int) then ((spec_l33Size.f k (x0.drop (x5 : Int).toNat)).bind fun t637 => (if t637 > x1 then (spec_KeepSize.l0 k x0 x1 (wrap64 (x5 + 1))) else (some x5))) else (none)) else (none)) else (some x5)
end
def spec_KeepSize.f (k : Nat) (l0 : List (S46)) (a1 : Int) : Option (Int) := (spec_LogValid.f k l0).bind fun t631 => (if t631 = true then ((spec_l6In.f a1 0 99999).bind fun t632 => (spec_KeepSize.j0 k l0 a1 (!t632))) else (spec_KeepSize.j0 k l0 a1 true))
set_option maxHeartbeats 8000000 in
set_option maxRecDepth 100000 in
theorem spec_KeepSize.calls (k : Nat) (A0 : Option Addr) (c0 : Nat) (l0 : List (S46)) (a1 : Int) (r : Int) (w : World) (hr0 : Kd.C k46 w A0 l0.length l0) (hc0 : l0.length ≤ c0) (h : spec_KeepSize.f k l0 a1 = some r) :
  Calls Try.prog 15 #[.slice A0 l0.length c0, .int .i64 a1] w fun e w' => e = .returned (.int .i64 r) ∧ Below w.heap.size w w' := by
 have HR0 := Aside0.mk hr0
 have HC0 := Aside0.mk hc0
 clear hr0 hc0
 have HB := Aside0.mk (Below.refl w.heap.size w)
 have H : ((spec_LogValid.f k l0).bind fun t631 => (if t631 = true then ((spec_l6In.f a1 0 99999).bind fun t632 => (spec_KeepSize.j0 k l0 a1 (!t632))) else (spec_KeepSize.j0 k l0 a1 true))) = some r := h
 clear h
 have HC3 := Aside0.mk H
 clear H
 go_enter Try.func15, Try.ntmps15
 go_upto_region 1 with (fail)
 go_cut [13] (fun v13 wc => ∃ (kq : Nat) (x13_2 : Bool), v13 = .bool x13_2 ∧ Aside0 (spec_KeepSize.j0 kq l0 a1 x13_2 = some r) ∧ Aside0 (kq ≤ k) ∧ Aside0 (Below w.heap.size w wc))
 case first =>
  have H := HC3.out
  clear HC3
  replace H := tbe H
  obtain ⟨t631, A4, H⟩ := H
  by_cases c5 : t631 = true
  ·subst c5
   rw [if_pos rfl] at H
   replace H := tbe H
   obtain ⟨t632, A6, H⟩ := H
   have H' := Aside0.mk H
   clear H
   go_wp2_with (first | ((with_reducible refine gate_callee (f := 23) rfl ?_); refine goesL_ (some 7) rfl rfl Try.func23 (by kernel_rfl) rfl #[.slice A0 l0.length c0] rfl tq ?_; (with_reducible refine (spec_LogValid.calls k _ _ l0 true _ ?side1 ?side2 A4.out).mono ?_); (case side1 => exact tC (Kd.C_below HR0.out HB.out)); (case side2 => exact HC0.out); rintro e w7 ⟨rfl, hb⟩; refine ⟨_, rfl, ?_⟩; replace HB := tBs HB hb; (try clear hb); (try clear hb2); (try clear hk); (try clear hi)) | (go_at_call 30; (with_reducible refine (spec_l6In.calls a1 0 99999 t632 _ A6.out).mono ?_); rintro e w' ⟨rfl, ⟨nd, rfl⟩⟩))
   go_meet
   case rel => exact ⟨_, (!t632), tr, H', ⟨by first | omega | exact Nat.le_refl _⟩, ⟨zb⟩⟩
  ·replace c5 := Bool.eq_false_iff.mpr c5
   subst c5
   rw [if_neg (show ¬ (false = true) by decide)] at H
   have H' := Aside0.mk H
   clear H
   go_wp2_with (first | ((with_reducible refine gate_callee (f := 23) rfl ?_); refine goesL_ (some 7) rfl rfl Try.func23 (by kernel_rfl) rfl #[.slice A0 l0.length c0] rfl tq ?_; (with_reducible refine (spec_LogValid.calls k _ _ l0 false _ ?side1 ?side2 A4.out).mono ?_); (case side1 => exact tC (Kd.C_below HR0.out HB.out)); (case side2 => exact HC0.out); rintro e w8 ⟨rfl, hb⟩; refine ⟨_, rfl, ?_⟩; replace HB := tBs HB hb; (try clear hb); (try clear hb2); (try clear hk); (try clear hi)))
   go_meet
   case rel => exact ⟨_, (true), tr, H', ⟨by first | omega | exact Nat.le_refl _⟩, ⟨zb⟩⟩
 case rest =>
  clear HC3
  obtain ⟨kq, x13_2, rfl, HA, HJ2, HB⟩ := hcut
  cases kq with
  | zero => exact absurd HA.out (by simp [spec_KeepSize.j0])
  | succ kj2 =>
   have H := HA.out
   clear HA
   simp only [spec_KeepSize.j0] at H
   by_cases c9 : x13_2 = true
   ·subst c9
    rw [if_pos rfl] at H
    obtain rfl := Option.some.inj H
    go_wp2
    go_ret
    exact ⟨by first | rfl | (simp [errW_none, errW_some] <;> rfl) | (simp [*, errW_none, errW_some] <;> rfl), zb⟩
   ·replace c9 := Bool.eq_false_iff.mpr c9
    subst c9
    rw [if_neg (show ¬ (false = true) by decide)] at H
    have H' := Aside0.mk H
    clear H
    go_wp2
    go_loopg [5] kj2 (fun kq v5 w' => ∃ (x5_2 : Int), v5 = .int .i64 x5_2 ∧ Aside0 (spec_KeepSize.l0 kq l0 a1 x5_2 = some r) ∧ Aside0 (kq ≤ kj2) ∧ Aside0 (Below w.heap.size w w'))
    case atStart => exact ⟨(0), tr, H', ⟨Nat.le_refl _⟩, ⟨zb⟩⟩
    case round =>
     clear H'
     try clear c9
     obtain ⟨x5_2, rfl, HA, HK2, HB⟩ := hrel
     cases gk with
     | zero => exact absurd HA.out (by simp [spec_KeepSize.l0])
     | succ k2 =>
      have H := HA.out
      clear HA
      simp only [spec_KeepSize.l0] at H
      by_cases c10 : (wrap64 (x5_2 + 1)) < (l0.length : Int)
      ·rw [if_pos c10] at H
       have c10b0 : decide ((wrap64 (x5_2 + 1)) < (l0.length : Int)) = true := decide_eq_true c10
       clear c10
       by_cases c11 : 0 ≤ x5_2
       ·rw [if_pos c11] at H
        have c11b0 := eq_true c11
        have c11b1 : decide (0 ≤ x5_2) = true := decide_eq_true c11
        clear c11
        by_cases c12 : x5_2 ≤ (l0.length : Int)
        ·rw [if_pos c12] at H
         have c12b0 := eq_true c12
         have c12b1 : decide (x5_2 ≤ (l0.length : Int)) = true := decide_eq_true c12
         clear c12
         obtain ⟨y633, hy633⟩ : ∃ y_ : List (S46), y_ = (l0.drop (x5_2 : Int).toNat) := ⟨_, rfl⟩
         replace H : ((spec_l33Size.f k2 y633).bind fun t637 => (if t637 > a1 then (spec_KeepSize.l0 k2 l0 a1 (wrap64 (x5_2 + 1))) else (some x5_2))) = some r := by first | (rw [hy633]; with_reducible exact H) | (have H2_ := (Option.bind_some _ _).symm.trans H; rw [hy633]; with_reducible exact H2_) | (have H2_ := (Option.bind_some _ _).symm.trans H; with_reducible exact H2_) | with_reducible exact H | (rw [hy633]; exact H) | exact H
         have Ny633 := Aside0.mk hy633
         clear hy633
         replace H := tbe H
         obtain ⟨t637, A13, H⟩ := H
         by_cases c14 : t637 > a1
         ·rw [if_pos c14] at H
          have c14b0 : decide (a1 < t637) = true := decide_eq_true c14
          clear c14
          have H' := Aside0.mk H
          clear H
          have q15 : (x5_2 : Int) ≤ ((l0.length : Int) : Int) := td
          obtain ⟨i015, hi015, _, hsz15, _⟩ := info_parts info46
          have hroom15 : l0.length ≤ c0 := HC0.out
          have hC15 : Kd.C k46 _ A0 l0.length l0 := HR0.out
          have q015 : (0 : Int) ≤ (x5_2 : Int) := td
          have hcut15 := cut_from (P := Try.prog) 23 46 .i64 Try.underlying23 hi015 6 hsz15 A0 l0.length c0 x5_2 q015 q15
          have hr15 := Kd.C_drop (m := (x5_2 : Int).toNat) (c := c0) hC15 (by omega) hroom15
          obtain ⟨A15, hA15⟩ : ∃ A_, A_ = (if c0 = (x5_2 : Int).toNat then A0 else (A0 : Option Addr).map (·.add ((x5_2 : Int).toNat * 6))) := ⟨_, rfl⟩
          obtain ⟨c15, hc15⟩ : ∃ c_, c_ = c0 - (x5_2 : Int).toNat := ⟨_, rfl⟩
          have hy15 : y633.length = l0.length - (x5_2 : Int).toNat := (by rw [Ny633.out, List.length_drop] <;> omega)
          rw [show (l0).drop (x5_2 : Int).toNat = y633 from Ny633.out.symm] at hr15
          replace hr15 : Kd.C k46 _ A15 y633.length y633 := (by rw [hA15]; exact hr15)
          rw [← hy15, ← hA15, ← hc15] at hcut15
          have HR636 := Aside0.mk hr15
          have HC636 := Aside0.mk (show y633.length ≤ c15 from by rw [hy15, hc15]; exact Nat.sub_le_sub_right hroom15 _)
          clear hr15 hC15 hroom15 hi015 hsz15 hc15
          have KY15 := Aside0.mk hy15
          have KA15 := Aside0.mk hA15
          clear hy15 hA15
          replace q15 := eq_true q15
          go_wp2_with (first | (go_at_call 24; (with_reducible refine (spec_l33Size.calls k2 _ _ y633 t637 _ ?side1 ?side2 A13.out).mono ?_); (case side1 => exact tC (Kd.C_below HR636.out HB.out)); (case side2 => exact HC636.out); rintro e w16 ⟨rfl, hb⟩; replace HB := tBs HB hb; (try clear hb); (try clear hb2); (try clear hk); (try clear hi)))
          go_roundg k2
          case measure => have := HJ2.out; have := HK2.out; omega
          case rel => exact ⟨(wrap64 (x5_2 + 1)), tr, H', ⟨by have := HJ2.out; have := HK2.out; omega⟩, ⟨zb⟩⟩
         ·rw [if_neg c14] at H
          have c14b0 : decide (a1 < t637) = false := decide_eq_false c14
          clear c14
          obtain rfl := Option.some.inj H
          have q17 : (x5_2 : Int) ≤ ((l0.length : Int) : Int) := td
          obtain ⟨i017, hi017, _, hsz17, _⟩ := info_parts info46
          have hroom17 : l0.length ≤ c0 := HC0.out
          have hC17 : Kd.C k46 _ A0 l0.length l0 := HR0.out
          have q017 : (0 : Int) ≤ (x5_2 : Int) := td
          have hcut17 := cut_from (P := Try.prog) 23 46 .i64 Try.underlying23 hi017 6 hsz17 A0 l0.length c0 x5_2 q017 q17
          have hr17 := Kd.C_drop (m := (x5_2 : Int).toNat) (c := c0) hC17 (by omega) hroom17
          obtain ⟨A17, hA17⟩ : ∃ A_, A_ = (if c0 = (x5_2 : Int).toNat then A0 else (A0 : Option Addr).map (·.add ((x5_2 : Int).toNat * 6))) := ⟨_, rfl⟩
          obtain ⟨c17, hc17⟩ : ∃ c_, c_ = c0 - (x5_2 : Int).toNat := ⟨_, rfl⟩
          have hy17 : y633.length = l0.length - (x5_2 : Int).toNat := (by rw [Ny633.out, List.length_drop] <;> omega)
          rw [show (l0).drop (x5_2 : Int).toNat = y633 from Ny633.out.symm] at hr17
          replace hr17 : Kd.C k46 _ A17 y633.length y633 := (by rw [hA17]; exact hr17)
          rw [← hy17, ← hA17, ← hc17] at hcut17
          have HR636 := Aside0.mk hr17
          have HC636 := Aside0.mk (show y633.length ≤ c17 from by rw [hy17, hc17]; exact Nat.sub_le_sub_right hroom17 _)
          clear hr17 hC17 hroom17 hi017 hsz17 hc17
          have KY17 := Aside0.mk hy17
          have KA17 := Aside0.mk hA17
          clear hy17 hA17
          replace q17 := eq_true q17
          go_wp2_with (first | (go_at_call 24; (with_reducible refine (spec_l33Size.calls k2 _ _ y633 t637 _ ?side1 ?side2 A13.out).mono ?_); (case side1 => exact tC (Kd.C_below HR636.out HB.out)); (case side2 => exact HC636.out); rintro e w18 ⟨rfl, hb⟩; replace HB := tBs HB hb; (try clear hb); (try clear hb2); (try clear hk); (try clear hi)))
          go_ret
          exact ⟨by first | rfl | (simp [errW_none, errW_some] <;> rfl) | (simp [*, errW_none, errW_some] <;> rfl), zb⟩
        ·rw [if_neg c12] at H
         exact absurd H (by simp)
       ·rw [if_neg c11] at H
        exact absurd H (by simp)
      ·rw [if_neg c10] at H
       have c10b0 : decide ((wrap64 (x5_2 + 1)) < (l0.length : Int)) = false := decide_eq_false c10
       clear c10
       obtain rfl := Option.some.inj H
       go_wp2
       go_ret
       exact ⟨by first | rfl | (simp [errW_none, errW_some] <;> rfl) | (simp [*, errW_none, errW_some] <;> rfl), zb⟩

end Go.Proofs.Ythoioccmnphfgaa.G

namespace Go.Proofs.Ythoioccmnphfgaa.G
open Go.RowKit Go.Proofs.YthoioccmnphfgaaW.PrintWords Go.Proofs.YthoioccmnphfgaaW.PrintLast Go.Proofs.YthoioccmnphfgaaW.PrintMore
attribute [local go_sem] max2_int min2_int max_two min_two max_three min_three max_four min_four   -- for this text's walks alone
set_option linter.unusedVariables false
set_option linter.unusedSimpArgs false

def laws_FnKeepAll.j0 : Nat → List (S46) → Int → Int → Bool → Option (Bool)
 | 0, _, _, _, _ => none
 | k + 1, x3, x5, x6, x32 => if x32 = true then (some (x5 == x6)) else ((impl_LogSize.f k x3).bind fun t675 => ((impl_KeepSize.f k x3 t675).bind fun t676 => (if t676 = 0 then ((impl_KeepSize.f k x3 0).bind fun t677 => (some (t677 == (wrap64 ((x3.length : Int) - 1))))) else (some false))))
def laws_FnKeepAll.f (k : Nat) (l0 : List Int) : Option (Bool) := if (l0.length : Int) > 1048576 then (some true) else ((spec_DrawKeepSize.f k l0).bind fun bt669 => ((impl_KeepSize.f k bt669.1 bt669.2).bind fun t673 => ((spec_KeepSize.f k bt669.1 bt669.2).bind fun t674 => (if t673 = t674 then (if t674 < 0 then (laws_FnKeepAll.j0 k bt669.1 t673 t674 true) else (laws_FnKeepAll.j0 k bt669.1 t673 t674 ((bt669.1.length : Int) == 0))) else (laws_FnKeepAll.j0 k bt669.1 t673 t674 true)))))
set_option maxHeartbeats 8000000 in
set_option maxRecDepth 100000 in
theorem laws_FnKeepAll.calls (k : Nat) (A0 : Option Addr) (c0 : Nat) (l0 : List Int) (r : Bool) (w : World) (hr0 : Kd.C (Kd.int .u8) w A0 l0.length l0) (hc0 : l0.length ≤ c0) (h : laws_FnKeepAll.f k l0 = some r) :
  Calls Try.prog 6 #[.slice A0 l0.length c0] w fun e w' => e = .returned (.bool r) ∧ Below w.heap.size w w' := by
 have HR0 := Aside0.mk hr0
 have HC0 := Aside0.mk hc0
 clear hr0 hc0
 have HB := Aside0.mk (Below.refl w.heap.size w)
 have H : (if (l0.length : Int) > 1048576 then (some true) else ((spec_DrawKeepSize.f k l0).bind fun bt669 => ((impl_KeepSize.f k bt669.1 bt669.2).bind fun t673 => ((spec_KeepSize.f k bt669.1 bt669.2).bind fun t674 => (if t673 = t674 then (if t674 < 0 then (laws_FnKeepAll.j0 k bt669.1 t673 t674 true) else (laws_FnKeepAll.j0 k bt669.1 t673 t674 ((bt669.1.length : Int) == 0))) else (laws_FnKeepAll.j0 k bt669.1 t673 t674 true)))))) = some r := h
 clear h
 by_cases c2 : (l0.length : Int) > 1048576
 ·rw [if_pos c2] at H
  have c2b0 : decide (1048576 < (l0.length : Int)) = true := decide_eq_true c2
  have c2b1 : decide (1048576 < l0.length) = true := decide_eq_true (by omega)
  clear c2
  obtain rfl := Option.some.inj H
  go_enter Try.func6, Try.ntmps6
  go_wp2
  all_goals go_ret
  all_goals exact ⟨by first | rfl | (simp [errW_none, errW_some] <;> rfl) | (simp [*, errW_none, errW_some] <;> rfl), zb⟩
 ·rw [if_neg c2] at H
  have c2b0 : decide (1048576 < (l0.length : Int)) = false := decide_eq_false c2
  have c2b1 : decide (1048576 < l0.length) = false := decide_eq_false (by omega)
  clear c2
  replace H := tbe H
  obtain ⟨⟨t669, t672⟩, A3, H⟩ := H
  dsimp only at H
  replace H := tbe H
  obtain ⟨t673, A4, H⟩ := H
  replace H := tbe H
  obtain ⟨t674, A5, H⟩ := H
  have HC6 := Aside0.mk H
  clear H
  go_enter Try.func6, Try.ntmps6
  go_upto_region 6 with (first | ((with_reducible refine gate_callee (f := 13) rfl ?_); refine goesL_ (some 12) rfl rfl Try.func13 (by kernel_rfl) rfl #[.slice A0 l0.length c0] rfl tq ?_; (with_reducible refine (spec_DrawKeepSize.calls k _ _ l0 t669 t672 _ ?side1 ?side2 A3.out).mono ?_); (case side1 => exact tC HR0.out); (case side2 => exact HC0.out); rintro e w7 ⟨v670, rfl, ho0, hb⟩; have u_v670 := tsv Try.prog v670 ho0; refine ⟨_, rfl, ?_⟩; have HO671 := Aside0.mk (Kd.N_lower (Kd.N_mono (ok' := fun k_ => True) ho0 (fun k_ hk_ => trivial)) (below_size zb)); replace HB := tBs HB hb; (try clear hb); (try clear hb2); (try clear hk); (try clear hi); (try clear ho0); obtain ⟨Ao8, co8, eo8⟩ := Kd.N_slice HO671.out; subst eo8) | ((with_reducible refine gate_callee (f := 14) rfl ?_); refine goesL_ (some 17) rfl rfl Try.func14 (by kernel_rfl) rfl #[.slice Ao8 t669.length co8, .int .i64 t672] rfl tq ?_; (with_reducible refine (impl_KeepSize.calls k _ _ t669 t672 t673 _ ?side1 ?side2 A4.out).mono ?_); (case side1 => repeat (first | exact (Kd.N_reads' HO671.out).2.2 | (with_reducible refine Kd.C_alloc ?_ _) | (with_reducible refine Kd.C_drewN ?_ _) | (with_reducible refine Kd.C_drew ?_))); (case side2 => exact (Kd.N_reads' HO671.out).2.1); rintro e w9 ⟨rfl, hb⟩; refine ⟨_, rfl, ?_⟩; replace HO671 := tNb HO671 hb; replace HB := tBs HB hb; (try clear hb); (try clear hb2); (try clear hk); (try clear hi)) | ((with_reducible refine gate_callee (f := 15) rfl ?_); refine goesL_ (some 20) rfl rfl Try.func15 (by kernel_rfl) rfl #[.slice Ao8 t669.length co8, .int .i64 t672] rfl tq ?_; (with_reducible refine (spec_KeepSize.calls k _ _ t669 t672 t674 _ ?side1 ?side2 A5.out).mono ?_); (case side1 => repeat (first | exact (Kd.N_reads' HO671.out).2.2 | (with_reducible refine Kd.C_alloc ?_ _) | (with_reducible refine Kd.C_drewN ?_ _) | (with_reducible refine Kd.C_drew ?_))); (case side2 => exact (Kd.N_reads' HO671.out).2.1); rintro e w10 ⟨rfl, hb⟩; refine ⟨_, rfl, ?_⟩; replace HO671 := tNb HO671 hb; replace HB := tBs HB hb; (try clear hb); (try clear hb2); (try clear hk); (try clear hi)))
  (try simp only [Act.put, List.setIfInBounds_toArray, List.set_cons_zero, List.set_cons_succ])
  go_cut [32] (fun v32 wc => ∃ (kq : Nat) (x32_5 : Bool), v32 = .bool x32_5 ∧ Aside0 (laws_FnKeepAll.j0 kq t669 t673 t674 x32_5 = some r) ∧ Aside0 (kq ≤ k) ∧ Aside0 (Kd.N k46 46 wc w.heap.size (fun _ => True) (.slice Ao8 t669.length co8) t669) ∧ Aside0 (Below w.heap.size w wc))
  case first =>
   have H := HC6.out
   clear HC6
   by_cases c11 : t673 = t674
   ·rw [if_pos c11] at H
    have c11b0 : (t673 == t674) = true := beq_iff_eq.mpr c11
    have c11b1 : (t673 != t674) = false := bne_eq_false_iff_eq.mpr c11
    clear c11
    (first | rw [c11b0] | (simp only [i64_w, i32_w]; rw [c11b0]) | skip)
    by_cases c12 : t674 < 0
    ·rw [if_pos c12] at H
     have c12b0 : decide (t674 < 0) = true := decide_eq_true c12
     clear c12
     have H' := Aside0.mk H
     clear H
     go_wp2
     go_meet
     case rel => exact ⟨_, (true), tr, H', ⟨by first | omega | exact Nat.le_refl _⟩, ⟨tN HO671.out⟩, ⟨zb⟩⟩
    ·rw [if_neg c12] at H
     have c12b0 : decide (t674 < 0) = false := decide_eq_false c12
     clear c12
     have H' := Aside0.mk H
     clear H
     go_wp2
     go_meet
     case rel => exact ⟨_, (((t669.length : Int) == 0)), tr, H', ⟨by first | omega | exact Nat.le_refl _⟩, ⟨tN HO671.out⟩, ⟨zb⟩⟩
   ·rw [if_neg c11] at H
    have c11b0 : (t673 == t674) = false := beq_eq_false_iff_ne.mpr c11
    have c11b1 : (t673 != t674) = true := bne_iff_ne.mpr c11
    (first | rw [c11b0] | (simp only [i64_w, i32_w]; rw [c11b0]) | skip)
    have H' := Aside0.mk H
    clear H
    go_wp2
    go_meet
    case rel => exact ⟨_, (true), tr, H', ⟨by first | omega | exact Nat.le_refl _⟩, ⟨tN HO671.out⟩, ⟨zb⟩⟩
  case rest =>
   clear HC6
   try clear c2; try clear c2b0; try clear c2b1
   obtain ⟨kq, x32_5, rfl, HA, HJ5, HO_3, HB⟩ := hcut
   cases kq with
   | zero => exact absurd HA.out (by simp [laws_FnKeepAll.j0])
   | succ kj5 =>
    have H := HA.out
    clear HA
    simp only [laws_FnKeepAll.j0] at H
    by_cases c13 : x32_5 = true
    ·subst c13
     rw [if_pos rfl] at H
     obtain rfl := Option.some.inj H
     go_wp2
     all_goals go_ret
     all_goals exact ⟨by first | rfl | (simp [errW_none, errW_some] <;> rfl) | (simp [*, errW_none, errW_some] <;> rfl), zb⟩
    ·replace c13 := Bool.eq_false_iff.mpr c13
     subst c13
     rw [if_neg (show ¬ (false = true) by decide)] at H
     replace H := tbe H
     obtain ⟨t675, A14, H⟩ := H
     replace H := tbe H
     obtain ⟨t676, A15, H⟩ := H
     by_cases c16 : t676 = 0
     ·rw [if_pos c16] at H
      have c16b0 : (t676 == 0) = true := beq_iff_eq.mpr c16
      have c16b1 : (t676 != 0) = false := bne_eq_false_iff_eq.mpr c16
      clear c16
      replace H := tbe H
      obtain ⟨t677, A17, H⟩ := H
      obtain rfl := Option.some.inj H
      go_wp2_with (first | ((with_reducible refine gate_callee (f := 10) rfl ?_); refine goesL_ (some 38) rfl rfl Try.func10 (by kernel_rfl) rfl #[.slice Ao8 t669.length co8] rfl tq ?_; (with_reducible refine (impl_LogSize.calls kj5 _ _ t669 t675 _ ?side1 ?side2 A14.out).mono ?_); (case side1 => repeat (first | exact (Kd.N_reads' HO_3.out).2.2 | (with_reducible refine Kd.C_alloc ?_ _) | (with_reducible refine Kd.C_drewN ?_ _) | (with_reducible refine Kd.C_drew ?_))); (case side2 => exact (Kd.N_reads' HO_3.out).2.1); rintro e w18 ⟨rfl, hb⟩; refine ⟨_, rfl, ?_⟩; replace HO_3 := tNb HO_3 hb; replace HB := tBs HB hb; (try clear hb); (try clear hb2); (try clear hk); (try clear hi)) | ((with_reducible refine gate_callee (f := 14) rfl ?_); refine goesL_ (some 39) rfl rfl Try.func14 (by kernel_rfl) rfl #[.slice Ao8 t669.length co8, .int .i64 t675] rfl tq ?_; (with_reducible refine (impl_KeepSize.calls kj5 _ _ t669 t675 t676 _ ?side1 ?side2 A15.out).mono ?_); (case side1 => repeat (first | exact (Kd.N_reads' HO_3.out).2.2 | (with_reducible refine Kd.C_alloc ?_ _) | (with_reducible refine Kd.C_drewN ?_ _) | (with_reducible refine Kd.C_drew ?_))); (case side2 => exact (Kd.N_reads' HO_3.out).2.1); rintro e w19 ⟨rfl, hb⟩; refine ⟨_, rfl, ?_⟩; replace HO_3 := tNb HO_3 hb; replace HB := tBs HB hb; (try clear hb); (try clear hb2); (try clear hk); (try clear hi)) | (go_at_call 14; (with_reducible refine (impl_KeepSize.calls kj5 _ _ t669 0 t677 _ ?side1 ?side2 A17.out).mono ?_); (case side1 => repeat (first | exact (Kd.N_reads' HO_3.out).2.2 | (with_reducible refine Kd.C_alloc ?_ _) | (with_reducible refine Kd.C_drewN ?_ _) | (with_reducible refine Kd.C_drew ?_))); (case side2 => exact (Kd.N_reads' HO_3.out).2.1); rintro e w20 ⟨rfl, hb⟩; replace HO_3 := tNb HO_3 hb; replace HB := tBs HB hb; (try clear hb); (try clear hb2); (try clear hk); (try clear hi)))
      all_goals go_ret
      all_goals exact ⟨by first | rfl | (simp [errW_none, errW_some] <;> rfl) | (simp [*, errW_none, errW_some] <;> rfl), zb⟩
     ·rw [if_neg c16] at H
      have c16b0 : (t676 == 0) = false := beq_eq_false_iff_ne.mpr c16
      have c16b1 : (t676 != 0) = true := bne_iff_ne.mpr c16
      obtain rfl := Option.some.inj H
      go_wp2_with (first | ((with_reducible refine gate_callee (f := 10) rfl ?_); refine goesL_ (some 38) rfl rfl Try.func10 (by kernel_rfl) rfl #[.slice Ao8 t669.length co8] rfl tq ?_; (with_reducible refine (impl_LogSize.calls kj5 _ _ t669 t675 _ ?side1 ?side2 A14.out).mono ?_); (case side1 => repeat (first | exact (Kd.N_reads' HO_3.out).2.2 | (with_reducible refine Kd.C_alloc ?_ _) | (with_reducible refine Kd.C_drewN ?_ _) | (with_reducible refine Kd.C_drew ?_))); (case side2 => exact (Kd.N_reads' HO_3.out).2.1); rintro e w21 ⟨rfl, hb⟩; refine ⟨_, rfl, ?_⟩; replace HO_3 := tNb HO_3 hb; replace HB := tBs HB hb; (try clear hb); (try clear hb2); (try clear hk); (try clear hi)) | ((with_reducible refine gate_callee (f := 14) rfl ?_); refine goesL_ (some 39) rfl rfl Try.func14 (by kernel_rfl) rfl #[.slice Ao8 t669.length co8, .int .i64 t675] rfl tq ?_; (with_reducible refine (impl_KeepSize.calls kj5 _ _ t669 t675 t676 _ ?side1 ?side2 A15.out).mono ?_); (case side1 => repeat (first | exact (Kd.N_reads' HO_3.out).2.2 | (with_reducible refine Kd.C_alloc ?_ _) | (with_reducible refine Kd.C_drewN ?_ _) | (with_reducible refine Kd.C_drew ?_))); (case side2 => exact (Kd.N_reads' HO_3.out).2.1); rintro e w22 ⟨rfl, hb⟩; refine ⟨_, rfl, ?_⟩; replace HO_3 := tNb HO_3 hb; replace HB := tBs HB hb; (try clear hb); (try clear hb2); (try clear hk); (try clear hi)))
      all_goals go_ret
      all_goals exact ⟨by first | rfl | (simp [errW_none, errW_some] <;> rfl) | (simp [*, errW_none, errW_some] <;> rfl), zb⟩

end Go.Proofs.Ythoioccmnphfgaa.G

namespace Go.Proofs.Ythoioccmnphfgaa.Rd
open Go.RowKit Go.Proofs.YthoioccmnphfgaaW.PrintWords
set_option linter.unusedVariables false
section
variable {H : Type} {enc : TypeId × Value → H} {P : Program} {w : World} {base : Nat} {spare : Nat → Bool} {held : Bool}
/-- What a reading of type t gives: a value of the kind, and what is known of it. -/
def Opens (enc : TypeId × Value → H) (P : Program) (w : World) (base : Nat) (spare : Nat → Bool) (held : Bool) {α : Type} (t : TypeId) (d : Kd α) (ok : α → Prop) : Prop :=
  P.cellsOf t = d.sz ∧ ∀ fuel cs x, DataW.trod enc P w base spare held fuel t cs = some x → ∃ v, d.K w v cs ∧ ok v
theorem Opens.imp_ {α : Type} {t : TypeId} {d : Kd α} {ok ok' : α → Prop} (h : Opens enc P w base spare held t d ok) (hi : ∀ v, ok v → ok' v) : Opens enc P w base spare held t d ok' :=
  ⟨h.1, fun fuel cs x hx => by
    obtain ⟨v, hk, ho⟩ := h.2 fuel cs x hx
    exact ⟨v, hk, hi v ho⟩⟩
theorem opens_int {t : TypeId} {k : IntKind} (ht : P.underlying t = some (.int k)) (hc : P.cellsOf t = 1) : Opens enc P w base spare held t (Kd.int k) (fun n => (Lit.int k n).wf = true) := by
  refine ⟨hc, fun fuel cs x h => ?_⟩
  obtain ⟨n, rfl, _, hw⟩ := DataW.trod_int ht h
  exact ⟨n, rfl, hw⟩
theorem cells_len {base : Nat} {a : Addr} {n : Nat} {cs : List Value} (h : w.cells? base a n = some cs) : cs.length = n ∧ ∀ i u, cs[i]? = some u → w.cell? (a.add i) = some u := by
  unfold World.cells? at h
  split at h
  · rename_i hb
    refine ⟨by simpa using mapM_some_length h, fun i u hu => ?_⟩
    have hi : i < n := by
      have := (List.getElem?_eq_some_iff.1 hu).1
      have h2 : cs.length = n := by simpa using mapM_some_length h
      omega
    have := mapM_some_get h i i (by simp [hi])
    rw [hu] at this
    exact this
  · simp at h
theorem opens_row {α : Type} {t e : TypeId} {d : Kd α} {ok : α → Prop} (ht : P.underlying t = some (.slice e)) (hd : Opens enc P w base spare held e d ok) {fuel : Nat} {cs : List Value} {x : DataW H × List MemPlace}
    (h : DataW.trod enc P w base spare held fuel t cs = some x) : ∃ (A : Option Addr) (c : Nat) (xs : List α), cs = [.slice A xs.length c] ∧ xs.length ≤ c ∧ c ≤ maxLen ∧ d.C w A xs.length xs ∧ ∀ y ∈ xs, ok y := by
  rcases Go.Deep.open_slice ht h with ⟨rfl, _⟩ | ⟨a, len, cap, m, n, D, Pl, rfl, hb, hl, hm, hmm, _, hel⟩
  · exact ⟨none, 0, [], rfl, Nat.le_refl _, by unfold maxLen; omega, ⟨rfl, by simp, fun h0 => absurd h0 (by simp)⟩, by simp⟩
  have hlm : len ≤ m := by rw [hmm]; split <;> omega
  have hx : ∀ i, i < len → ∃ y : α, ok y ∧ ∃ c, c.length = d.sz ∧ d.K w y c ∧ ∀ j u, c[j]? = some u → w.cell? (a.add (i * d.sz + j)) = some u := by
    intro i hi
    obtain ⟨cs', h1, h2⟩ := hel i (by omega)
    obtain ⟨y, hk, ho⟩ := hd.2 _ _ _ h2
    obtain ⟨hl', hc'⟩ := cells_len h1
    refine ⟨y, ho, cs', by rw [hl', hd.1], hk, fun j u hu => ?_⟩
    have := hc' j u hu
    rw [Go.Deep.add_add, hd.1] at this
    exact this
  rcases Nat.eq_zero_or_pos len with h0 | h0
  · subst h0
    exact ⟨some a, cap, [], rfl, Nat.zero_le _, hm, ⟨rfl, by simp, fun h1 => absurd h1 (by simp)⟩, by simp⟩
  obtain ⟨y0, _⟩ := hx 0 h0
  haveI : Inhabited α := ⟨y0⟩
  obtain ⟨g, hg⟩ := Go.Deep.choose_lt hx
  have hlen : ((List.range len).map g).length = len := by simp
  refine ⟨some a, cap, (List.range len).map g, by rw [hlen], by rw [hlen]; exact hl, hm, ⟨rfl, by rw [hlen]; unfold maxLen at hm; omega, fun _ => ⟨a, rfl, fun j p hj => ?_⟩⟩, fun y hy => ?_⟩
  · have hj' : j < len := by
      have := (List.getElem?_eq_some_iff.1 hj).1
      omega
    rw [List.getElem?_map, List.getElem?_range hj'] at hj
    simp at hj
    subst hj
    obtain ⟨_, c, hc1, hc2, hc3⟩ := hg j hj'
    exact ⟨c, hc1, hc2, hc3⟩
  · obtain ⟨i, hi, rfl⟩ := List.mem_map.1 hy
    exact (hg i (List.mem_range.1 hi)).1
end
end Go.Proofs.Ythoioccmnphfgaa.Rd

namespace Go.Proofs.Ythoioccmnphfgaa.OFnKeepAll
open Go.RowKit Go.Proofs.YthoioccmnphfgaaW.PrintWords Go.Proofs.Ythoioccmnphfgaa.G
set_option linter.unusedVariables false
def Pure : Prop := ∀ (l0 : List Int), l0.length ≤ maxLen → (∀ y ∈ l0, (Lit.int .u8 y).wf = true) → ∃ k, laws_FnKeepAll.f k l0 = some true
end Go.Proofs.Ythoioccmnphfgaa.OFnKeepAll

namespace Go.Proofs.Ythoioccmnphfgaa.Pu
open Go.RowKit Go.Proofs.YthoioccmnphfgaaW.PrintWords Go.Proofs.YthoioccmnphfgaaW.PrintLast Go.Proofs.YthoioccmnphfgaaW.PrintMore Go.Proofs.Ythoioccmnphfgaa.G
theorem sBatchValid_ev (b : S46) (_ : RowR b.f5) : Ev (fun k => spec_BatchValid.f k b.f0 b.f1 b.f2 b.f3 b.f4 b.f5) (batOk b) := Ev.now _
end Go.Proofs.Ythoioccmnphfgaa.Pu

namespace Go.Proofs.Ythoioccmnphfgaa.Pu
open Go.RowKit Go.Proofs.YthoioccmnphfgaaW.PrintWords Go.Proofs.YthoioccmnphfgaaW.PrintLast Go.Proofs.YthoioccmnphfgaaW.PrintMore Go.Proofs.Ythoioccmnphfgaa.G
theorem LogValid_ev (l : List S46) (_ : RowB l) : Ev (fun k => impl_LogValid.f k l) (logOk l) := Ev.now _
theorem sLogValid_ev (l : List S46) (_ : RowB l) : Ev (fun k => spec_LogValid.f k l) (logOk l) := Ev.now _
end Go.Proofs.Ythoioccmnphfgaa.Pu

namespace Go.Proofs.Ythoioccmnphfgaa.Pu
open Go
theorem i64_mask (m : Nat) (hm : m ≤ 62) (n : Int) (h : (BitVec.ofInt 64 ((2 ^ m - 1 : Nat) : Int)).toNat = 2 ^ m - 1) : bits .and .i64 n ((2 ^ m - 1 : Nat) : Int) = n % (2 ^ m : Nat) := by
  have key : (BitVec.ofInt 64 n &&& BitVec.ofInt 64 ((2 ^ m - 1 : Nat) : Int)).toNat = (n % ((2 ^ 64 : Nat) : Int)).toNat % 2 ^ m := by
    rw [BitVec.toNat_and, BitVec.toNat_ofInt, h, Nat.and_two_pow_sub_one_eq_mod]
  show IntKind.i64.wrap ((BitVec.ofInt 64 n &&& BitVec.ofInt 64 ((2 ^ m - 1 : Nat) : Int)).toNat : Nat) = n % (2 ^ m : Nat)
  have hp : 2 ^ m ≤ 2 ^ 62 := Nat.pow_le_pow_right (by decide) hm
  have hp0 : 0 < 2 ^ m := Nat.pow_pos (by decide)
  have hd : 2 ^ m ∣ 2 ^ 64 := Nat.pow_dvd_pow 2 (by omega)
  have hlt := Nat.mod_lt (n % ((2 ^ 64 : Nat) : Int)).toNat hp0
  rw [key, IntKind.wrap_i64]
  have e1 : (((n % ((2 ^ 64 : Nat) : Int)).toNat % 2 ^ m : Nat) : Int) = n % ((2 ^ m : Nat) : Int) := by
    rw [Int.natCast_emod, Int.toNat_of_nonneg (Int.emod_nonneg _ (by decide))]
    exact Int.emod_emod_of_dvd n (Int.natCast_dvd_natCast.2 hd)
  rw [e1]
  have g1 := Int.emod_nonneg n (b := ((2 ^ m : Nat) : Int)) (by omega)
  have g2 := Int.emod_lt_of_pos n (b := ((2 ^ m : Nat) : Int)) (by omega)
  omega
theorem i64_and127 (n : Int) : bits .and .i64 n 127 = n % 128 := i64_mask 7 (by decide) n (by decide)
end Go.Proofs.Ythoioccmnphfgaa.Pu

namespace Go.Proofs.Ythoioccmnphfgaa.Pu
open Go.RowKit Go.Proofs.YthoioccmnphfgaaW.PrintWords Go.Proofs.YthoioccmnphfgaaW.PrintLast Go.Proofs.YthoioccmnphfgaaW.PrintMore Go.Proofs.Ythoioccmnphfgaa.G
set_option linter.unusedVariables false
set_option linter.unusedSimpArgs false
theorem or128 (r : Int) (h0 : 0 ≤ r) (h1 : r < 128) : bits .or .i64 r 128 = 128 + r := by
  have h : ∀ x : Fin 128, bits .or .i64 ((x.val : Nat) : Int) 128 = 128 + ((x.val : Nat) : Int) := by decide
  have := h ⟨r.toNat, by omega⟩
  simp only at this
  rwa [show ((r.toNat : Nat) : Int) = r by omega] at this
def varF : Nat → Int → List Int
  | 0, x => [x]
  | n + 1, x => if x < 128 then [x] else (128 + x % 128) :: varF n (x / 128)
def foldI (x : Int) : Int := if x < 0 then -2 * x - 1 else 2 * x
def varV (x : Int) : List Int := varF 10 (foldI x)
theorem varF_len : ∀ (n : Nat) (x : Int), (varF n x).length ≤ n + 1
  | 0, x => by simp [varF]
  | n + 1, x => by
    unfold varF
    have := varF_len n (x / 128)
    split <;> simp <;> omega
theorem varV_len (x : Int) : (varV x).length ≤ 11 := varF_len 10 _
theorem varF_in : ∀ (n : Nat) (x : Int), 0 ≤ x → x ≤ 1000000000000000 → (varF n x).all inI = true
  | 0, x, h0, h1 => by
    simp [varF, inI]
    omega
  | n + 1, x, h0, h1 => by
    unfold varF
    split
    · simp [inI]
      omega
    · have := varF_in n (x / 128) (by omega) (by omega)
      rw [List.all_cons, this, Bool.and_true]
      simp [inI]
      omega
theorem var_loop : ∀ (n : Nat) (x : Int) (acc : List Int), 0 ≤ x → x < 128 * 128 ^ n → acc.length + n ≤ 1000 → Ev (fun k => impl_varOf.l0 k acc x) (acc ++ varF n x)
  | 0, x, acc, h0, h1, h2 => by
    refine Ev.step (fun k => by rw [impl_varOf.l0]) ?_
    simp only [if_pos (show x < 128 by simpa using h1), if_pos (show acc.length < 17592186044416 by omega), varF]
    exact Ev.now _
  | n + 1, x, acc, h0, h1, h2 => by
    refine Ev.step (fun k => by rw [impl_varOf.l0]) ?_
    unfold varF
    by_cases h : x < 128
    · simp only [if_pos h, if_pos (show acc.length < 17592186044416 by omega)]
      exact Ev.now _
    · simp only [if_neg h, if_pos (show acc.length < 17592186044416 by omega), i64_and127, or128 (x % 128) (by omega) (by omega)]
      have h3 : x / 128 < 128 * 128 ^ n := by
        rw [Int.pow_succ, ← Int.mul_assoc] at h1
        exact Int.ediv_lt_of_lt_mul (by omega) h1
      have := var_loop n (x / 128) (acc ++ [128 + x % 128]) (by omega) h3 (by simp; omega)
      rw [List.append_assoc, List.singleton_append] at this
      exact this
theorem svar_loop : ∀ (n : Nat) (x : Int) (acc : List Int), 0 ≤ x → x < 128 * 128 ^ n → x ≤ 1000000000000000 → acc.length + n ≤ 1000 → Ev (fun k => spec_l1Bytes.l0 k x acc) (acc ++ varF n x)
  | 0, x, acc, h0, h1, h4, h2 => by
    refine Ev.step (fun k => by rw [spec_l1Bytes.l0]) ?_
    simp only [if_neg (show ¬ x > 127 by have : x < 128 := by simpa using h1
                                         omega), if_pos (show acc.length < 17592186044416 by omega), varF]
    exact Ev.now _
  | n + 1, x, acc, h0, h1, h4, h2 => by
    refine Ev.step (fun k => by rw [spec_l1Bytes.l0]) ?_
    unfold varF
    by_cases h : x < 128
    · simp only [if_pos h, if_neg (show ¬ x > 127 by omega), if_pos (show acc.length < 17592186044416 by omega)]
      exact Ev.now _
    · have e1 : Int.tdiv x 128 = x / 128 := Int.tdiv_eq_ediv_of_nonneg h0
      have e2 : Int.tmod x 128 = x % 128 := Int.tmod_eq_emod_of_nonneg h0
      simp only [if_neg h, if_pos (show x > 127 by omega), if_pos (show acc.length < 17592186044416 by omega), e1, e2, w64 (a := x / 128) (by omega) (by omega), w64 (a := 128 + x % 128) (by omega) (by omega)]
      have h3 : x / 128 < 128 * 128 ^ n := by
        rw [Int.pow_succ, ← Int.mul_assoc] at h1
        exact Int.ediv_lt_of_lt_mul (by omega) h1
      have := svar_loop n (x / 128) (acc ++ [128 + x % 128]) (by omega) h3 (by omega) (by simp; omega)
      rw [List.append_assoc, List.singleton_append] at this
      exact this
theorem foldI_in {x : Int} (h0 : -1000000 ≤ x) (h1 : x ≤ 1000000) : 0 ≤ foldI x ∧ foldI x ≤ 2000000 := by
  unfold foldI
  split <;> omega
theorem varV_in {x : Int} (h0 : -1000000 ≤ x) (h1 : x ≤ 1000000) : (varV x).all inI = true := varF_in _ _ (foldI_in h0 h1).1 (by have := foldI_in h0 h1; omega)
theorem varOf_ev {x : Int} (h0 : -1000000 ≤ x) (h1 : x ≤ 1000000) : Ev (fun k => impl_varOf.f k x) (varV x) := by
  have hf := foldI_in h0 h1
  have hF : Ev (fun k => impl_FoldNumber.f k x) (foldI x) := by
    unfold impl_FoldNumber.f
    simp only [if_neg (show ¬ x < -1000000 by omega), decide_eq_false (show ¬ x > 1000000 by omega)]
    refine Ev.step (fun k => by rw [impl_FoldNumber.j0]) ?_
    simp only [Bool.false_eq_true, if_false]
    unfold foldI
    by_cases h : x < 0
    · simp only [if_pos h, w64 (a := -2 * x) (by omega) (by omega), w64 (a := -2 * x - 1) (by omega) (by omega)]
      exact Ev.now _
    · simp only [if_neg h, w64 (a := 2 * x) (by omega) (by omega)]
      exact Ev.now _
  unfold impl_varOf.f
  refine Ev.bind hF ?_
  · have := var_loop 10 (foldI x) [] hf.1 (by omega) (by simp)
    exact this
theorem l1Bytes_ev {x : Int} (h0 : -1000000 ≤ x) (h1 : x ≤ 1000000) : Ev (fun k => spec_l1Bytes.f k x) (varV x) := by
  have hf := foldI_in h0 h1
  have e : spec_l1Fold.f x = some (foldI x) := by
    unfold spec_l1Fold.f foldI
    by_cases h : x < 0
    · rw [if_pos h, if_pos h, w64 (a := -2 * x) (by omega) (by omega), w64 (a := -2 * x - 1) (by omega) (by omega)]
    · rw [if_neg h, if_neg h, w64 (a := 2 * x) (by omega) (by omega)]
  unfold spec_l1Bytes.f
  simp only [e, bindS]
  have := svar_loop 10 (foldI x) [] hf.1 (by omega) (by omega) (by simp)
  exact this
def partV (has : Bool) (l : List Int) : List Int := if has = true then varV l.length ++ l else varV (-1)
theorem partV_len (has : Bool) (l : List Int) : (partV has l).length ≤ 11 + l.length := by
  unfold partV
  have := varV_len l.length
  have := varV_len (-1)
  split <;> simp <;> omega
theorem part_ev (has : Bool) (l : List Int) (hl : l.length ≤ 1000) : Ev (fun k => impl_partBytes.f k has l) (partV has l) := by
  unfold impl_partBytes.f partV
  have := varV_len l.length
  cases has
  · simp only [Bool.false_eq_true, if_false]
    exact Ev.bind (varOf_ev (by omega) (by omega)) (Ev.now _)
  · simp only [if_true]
    refine Ev.bind (varOf_ev (by omega) (by omega)) ?_
    simp only [if_pos (show (varV (l.length : Int)).length + l.length < 17592186044416 by omega)]
    exact Ev.now _
theorem spart_ev (has : Bool) (l : List Int) (hl : l.length ≤ 1000) : Ev (fun k => spec_l3Put.f k has l) (partV has l) := by
  unfold spec_l3Put.f partV
  have := varV_len l.length
  cases has
  · simp only [Bool.false_eq_true, if_false]
    exact Ev.bind (l1Bytes_ev (by omega) (by omega)) (Ev.now _)
  · simp only [if_true]
    refine Ev.bind (l1Bytes_ev (by omega) (by omega)) ?_
    simp only [if_pos (show (varV (l.length : Int)).length + l.length < 17592186044416 by omega)]
    exact Ev.now _
def recB (r : S63) (o t : Int) : List Int := varV (r.f1 - t) ++ varV (r.f0 - o) ++ partV r.f2 r.f3 ++ partV r.f4 r.f5
def recV (r : S63) (o t : Int) : List Int := varV (recB r o t).length ++ recB r o t
/-- A record of a valid batch. -/
structure RecS (r : S63) : Prop where
  a0 : 0 ≤ r.f0
  a1 : r.f0 ≤ 99999
  b0 : 0 ≤ r.f1
  b1 : r.f1 ≤ 99999
  k : r.f3.length ≤ 12
  v : r.f5.length ≤ 12
  ki : r.f3.all inI = true
  vi : r.f5.all inI = true
theorem recB_len {r : S63} (h : RecS r) (o t : Int) : (recB r o t).length ≤ 68 := by
  unfold recB
  have := h.k
  have := h.v
  have := varV_len (r.f1 - t)
  have := varV_len (r.f0 - o)
  have := partV_len r.f2 r.f3
  have := partV_len r.f4 r.f5
  simp only [List.length_append]
  omega
theorem recV_len {r : S63} (h : RecS r) (o t : Int) : (recV r o t).length ≤ 79 := by
  unfold recV
  have := recB_len h o t
  have := varV_len (recB r o t).length
  rw [List.length_append]
  omega
theorem partV_in {has : Bool} {l : List Int} (hl : l.length ≤ 12) (h : l.all inI = true) : (partV has l).all inI = true := by
  unfold partV
  split
  · rw [List.all_append, h, varV_in (by omega) (by omega)]
    rfl
  · exact varV_in (by omega) (by omega)
theorem recV_in {r : S63} (h : RecS r) {o t : Int} (ho : 0 ≤ o ∧ o ≤ 99999) (ht : 0 ≤ t ∧ t ≤ 99999) : (recV r o t).all inI = true := by
  have h1 := recB_len h o t
  obtain ⟨a0, a1, b0, b1, k, v, ki, vi⟩ := h
  unfold recV
  rw [List.all_append, varV_in (by omega) (by omega)]
  unfold recB
  simp only [List.all_append, varV_in (x := r.f1 - t) (by omega) (by omega), varV_in (x := r.f0 - o) (by omega) (by omega), partV_in k ki, partV_in v vi, Bool.and_self]
theorem rec_ev {r : S63} (h : RecS r) {o t : Int} (ho : 0 ≤ o ∧ o ≤ 99999) (ht : 0 ≤ t ∧ t ≤ 99999) : Ev (fun k => impl_Record_bytesFor.f k r.f0 r.f1 r.f2 r.f3 r.f4 r.f5 o t) (recV r o t) := by
  have h1 := recB_len h o t
  have h2 := varV_len (recB r o t).length
  obtain ⟨a0, a1, b0, b1, k, v, ki, vi⟩ := h
  unfold impl_Record_bytesFor.f
  have e1 := varV_len (r.f1 - t)
  have e2 := varV_len (r.f0 - o)
  have e3 := partV_len r.f2 r.f3
  have e4 := partV_len r.f4 r.f5
  simp only [w64 (a := r.f1 - t) (by omega) (by omega), w64 (a := r.f0 - o) (by omega) (by omega)]
  refine Ev.bind (varOf_ev (by omega) (by omega)) (Ev.bind (varOf_ev (by omega) (by omega)) ?_)
  simp only [if_pos (show (varV (r.f1 - t)).length + (varV (r.f0 - o)).length < 17592186044416 by omega), bindS]
  refine Ev.bind (part_ev _ _ (by omega)) ?_
  simp only [if_pos (show (varV (r.f1 - t) ++ varV (r.f0 - o)).length + (partV r.f2 r.f3).length < 17592186044416 by simp only [List.length_append]; omega), bindS]
  refine Ev.bind (part_ev _ _ (by omega)) ?_
  simp only [if_pos (show (varV (r.f1 - t) ++ varV (r.f0 - o) ++ partV r.f2 r.f3).length + (partV r.f4 r.f5).length < 17592186044416 by simp only [List.length_append]; omega), bindS]
  refine Ev.bind (varOf_ev (x := ((recB r o t).length : Int)) (by omega) (by omega)) ?_
  change Ev (fun k => if (varV ((recB r o t).length : Int)).length + (recB r o t).length < 17592186044416 then some (varV ((recB r o t).length : Int) ++ recB r o t) else none) _
  simp only [if_pos (show (varV ((recB r o t).length : Int)).length + (recB r o t).length < 17592186044416 by omega)]
  exact Ev.now _
theorem srec_ev {r : S63} (h : RecS r) {o t : Int} (ho : 0 ≤ o ∧ o ≤ 99999) (ht : 0 ≤ t ∧ t ≤ 99999) : Ev (fun k => spec_l3Bytes.f k r.f0 r.f1 r.f2 r.f3 r.f4 r.f5 o t) (recV r o t) := by
  have h1 := recB_len h o t
  have h2 := varV_len (recB r o t).length
  obtain ⟨a0, a1, b0, b1, k, v, ki, vi⟩ := h
  unfold spec_l3Bytes.f
  have e1 := varV_len (r.f1 - t)
  have e2 := varV_len (r.f0 - o)
  have e3 := partV_len r.f2 r.f3
  have e4 := partV_len r.f4 r.f5
  simp only [w64 (a := r.f1 - t) (by omega) (by omega), w64 (a := r.f0 - o) (by omega) (by omega)]
  refine Ev.bind (l1Bytes_ev (by omega) (by omega)) (Ev.bind (l1Bytes_ev (by omega) (by omega)) ?_)
  simp only [if_pos (show (varV (r.f1 - t)).length + (varV (r.f0 - o)).length < 17592186044416 by omega), bindS]
  refine Ev.bind (spart_ev _ _ (by omega)) ?_
  simp only [if_pos (show (varV (r.f1 - t) ++ varV (r.f0 - o)).length + (partV r.f2 r.f3).length < 17592186044416 by simp only [List.length_append]; omega), bindS]
  refine Ev.bind (spart_ev _ _ (by omega)) ?_
  simp only [if_pos (show (varV (r.f1 - t) ++ varV (r.f0 - o) ++ partV r.f2 r.f3).length + (partV r.f4 r.f5).length < 17592186044416 by simp only [List.length_append]; omega), bindS]
  refine Ev.bind (l1Bytes_ev (x := ((recB r o t).length : Int)) (by omega) (by omega)) ?_
  change Ev (fun k => if (varV ((recB r o t).length : Int)).length + (recB r o t).length < 17592186044416 then some (varV ((recB r o t).length : Int) ++ recB r o t) else none) _
  simp only [if_pos (show (varV ((recB r o t).length : Int)).length + (recB r o t).length < 17592186044416 by omega)]
  exact Ev.now _
end Go.Proofs.Ythoioccmnphfgaa.Pu

namespace Go.Proofs.Ythoioccmnphfgaa.Pu
open Go.RowKit Go.Proofs.YthoioccmnphfgaaW.PrintWords Go.Proofs.YthoioccmnphfgaaW.PrintLast Go.Proofs.YthoioccmnphfgaaW.PrintMore Go.Proofs.Ythoioccmnphfgaa.G
set_option linter.unusedVariables false
set_option linter.unusedSimpArgs false
theorem getD_nat (l : List Int) (i : Nat) (h : i < l.length) : l.getD i 0 = rd l (i : Int) := by rw [rdi_nat l i h, getD_lt l i h]
theorem long_loop (l : List Int) (hl : l.length ≤ 1000) (z b : Nat) (hb : b ≤ z) (hz : z < l.length) : ∀ (d n : Nat), 66 - n = d → n ≤ 66 → Ev (fun k => spec_l4Long.l0 k l (z : Int) (b : Int) (n : Int)) ((n + alike (66 - n) (l.drop (z - b + n)) (l.drop (z + n)) : Nat) : Int) := by
  intro d
  induction d with
  | zero =>
    intro n hd hn
    obtain rfl : n = 66 := by omega
    refine Ev.step (fun k => by rw [spec_l4Long.l0]) ?_
    simp only [w64 (a := (z : Int) + (66 : Nat)) (by omega) (by omega)]
    have e : alike (66 - 66) (l.drop (z - b + 66)) (l.drop (z + 66)) = 0 := (alike_at l (z - b) z 66 (by omega)).2 (by omega) (by omega)
    rw [e]
    by_cases h : ((z : Int) + (66 : Nat)) < (l.length : Int)
    · simp only [if_pos h, if_neg (show ¬ (((66 : Nat) : Int) < 66) by omega)]
      exact Ev.now _
    · simp only [if_neg h]
      exact Ev.now _
  | succ d ih =>
    intro n hd hn
    obtain ⟨h1, h2⟩ := alike_at l (z - b) z n hn
    refine Ev.step (fun k => by rw [spec_l4Long.l0]) ?_
    simp only [w64 (a := (z : Int) + (n : Int)) (by omega) (by omega), w64 (a := (z : Int) + (n : Int) - (b : Int)) (by omega) (by omega), w64 (a := (n : Int) + 1) (by omega) (by omega), if_pos (show (n : Int) < 66 by omega)]
    by_cases h : z + n < l.length
    · have e1 : (z : Int) + (n : Int) = ((z + n : Nat) : Int) := by omega
      have e2 : ((z + n : Nat) : Int) - (b : Int) = ((z - b + n : Nat) : Int) := by omega
      simp only [e1, e2, if_pos (show ((z + n : Nat) : Int) < (l.length : Int) by omega), if_pos (show (0 : Int) ≤ ((z + n : Nat) : Int) by omega), if_pos (show (0 : Int) ≤ ((z - b + n : Nat) : Int) by omega), if_pos (show ((z - b + n : Nat) : Int) < (l.length : Int) by omega)]
      rw [← getD_nat l (z + n) h, ← getD_nat l (z - b + n) (by omega)]
      by_cases he : l.getD (z - b + n) 0 = l.getD (z + n) 0
      · simp only [if_pos he.symm]
        rw [h1 ⟨by omega, h, he, by omega⟩]
        have := ih (n + 1) (by omega) (by omega)
        rw [show n + (alike (66 - (n + 1)) (l.drop (z - b + (n + 1))) (l.drop (z + (n + 1))) + 1) = n + 1 + alike (66 - (n + 1)) (l.drop (z - b + (n + 1))) (l.drop (z + (n + 1))) by omega]
        exact_mod_cast this
      · simp only [if_neg (fun e => he (Eq.symm e))]
        rw [h2 (fun h => he h.2.2) (by omega)]
        exact Ev.now _
    · simp only [if_neg (show ¬ ((z : Int) + (n : Int) < (l.length : Int)) by omega)]
      rw [h2 (fun h' => h h'.2.1) (by omega)]
      exact Ev.now _
theorem long_ev (l : List Int) (hl : l.length ≤ 1000) (z b : Nat) (hb : b ≤ z) (hz : z < l.length) : Ev (fun k => spec_l4Long.f k l (z : Int) (b : Int)) ((nAt l z b : Nat) : Int) := by
  unfold spec_l4Long.f nAt
  have := long_loop l hl z b hb hz 66 0 (by omega) (by omega)
  simpa using this
theorem best_loop (l : List Int) (hl : l.length ≤ 1000) (z : Nat) (hz : z < l.length) : ∀ (d c : Nat) (s : Nat × Nat), min z 200 + 1 - c = d → 1 ≤ c → c ≤ min z 200 + 1 → Ev (fun k => spec_l4Best.l0 k l (z : Int) (s.2 : Int) (s.1 : Int) (c : Int)) (((best (nAt l z) (List.range' c (min z 200 + 1 - c)) s).1 : Int), ((best (nAt l z) (List.range' c (min z 200 + 1 - c)) s).2 : Int)) := by
  have hm : mn (z : Int) 200 = ((min z 200 : Nat) : Int) := by unfold mn; split <;> omega
  intro d
  induction d with
  | zero =>
    intro c s hd h1 hc
    refine Ev.step (fun k => by rw [spec_l4Best.l0]) ?_
    simp only [hm, if_neg (show ¬ ((c : Int) ≤ ((min z 200 : Nat) : Int)) by omega), hd, List.range'_zero, best]
    exact Ev.now _
  | succ d ih =>
    intro c s hd h1 hc
    refine Ev.step (fun k => by rw [spec_l4Best.l0]) ?_
    simp only [hm, if_pos (show (c : Int) ≤ ((min z 200 : Nat) : Int) by omega), w64 (a := (c : Int) + 1) (by omega) (by omega)]
    refine Ev.bind (long_ev l hl z c (by omega) hz) ?_
    rw [hd, List.range'_succ, best]
    have hd2 : min z 200 + 1 - (c + 1) = d := by omega
    by_cases h : s.1 < nAt l z c
    · simp only [if_pos (show ((nAt l z c : Nat) : Int) > (s.1 : Int) by omega), if_pos h]
      have := ih (c + 1) (nAt l z c, c) hd2 (by omega) (by omega)
      rw [hd2] at this
      exact_mod_cast this
    · simp only [if_neg (show ¬ ((nAt l z c : Nat) : Int) > (s.1 : Int) by omega), if_neg h]
      have := ih (c + 1) s hd2 (by omega) (by omega)
      rw [hd2] at this
      exact_mod_cast this
theorem best_ev (l : List Int) (hl : l.length ≤ 1000) (z : Nat) (hz : z < l.length) : Ev (fun k => spec_l4Best.f k l (z : Int)) (((specM l z).1 : Int), ((specM l z).2 : Int)) := by
  unfold spec_l4Best.f specM
  have := best_loop l hl z hz (min z 200) 1 (0, 0) (by omega) (by omega) (by omega)
  simpa using this
theorem plain_loop (l : List Int) (hl : l.length ≤ 1000) : ∀ (f from_ : Nat) (acc : List Int), l.length - from_ ≤ f → from_ ≤ 2000 → acc.length ≤ 2000 + 70 * from_ → Ev (fun k => spec_l4Plain.l0 k l acc (from_ : Int)) (acc ++ plainF f (l.drop from_)) := by
  intro f
  induction f with
  | zero =>
    intro i acc hf hi ha
    refine Ev.step (fun k => by rw [spec_l4Plain.l0]) ?_
    simp only [if_neg (show ¬ ((i : Int) < (l.length : Int)) by omega), plainF, List.append_nil]
    exact Ev.now _
  | succ f ih =>
    intro i acc hf hi ha
    refine Ev.step (fun k => by rw [spec_l4Plain.l0]) ?_
    by_cases h : i < l.length
    · have hne : l.drop i ≠ [] := fun e => by
        have := congrArg List.length e
        simp at this
        omega
      obtain ⟨t, ht⟩ : ∃ t, t = min (i + 64) l.length := ⟨_, rfl⟩
      have hm : mn ((i : Int) + 64) (l.length : Int) = (t : Int) := by unfold mn; split <;> omega
      have hlt : ((l.take t).drop i) = (l.drop i).take 64 := by
        rw [List.drop_take]
        rcases Nat.lt_or_ge (i + 64) l.length with h1 | h1
        · rw [show t - i = 64 by omega]
        · rw [List.take_of_length_le (by rw [List.length_drop]; omega), List.take_of_length_le (by rw [List.length_drop]; omega)]
      have hlen : ((l.drop i).take 64).length = t - i := by rw [List.length_take, List.length_drop]; omega
      simp only [if_pos (show (i : Int) < (l.length : Int) by omega), if_pos (show acc.length < 17592186044416 by omega), bindS, w64 (a := (i : Int) + 64) (by omega) (by omega), hm, w64 (a := (t : Int) - (i : Int)) (by omega) (by omega), w64 (a := (t : Int) - (i : Int) - 1) (by omega) (by omega), if_pos (show (0 : Int) ≤ (i : Int) by omega), if_pos (show (i : Int) ≤ (t : Int) by omega), if_pos (show (t : Int) ≤ (l.length : Int) by omega), Int.toNat_natCast, hlt, hlen]
      simp only [if_pos (show (acc ++ [(t : Int) - (i : Int) - 1]).length + (t - i) < 17592186044416 by rw [List.length_append]; simp; omega)]
      have := ih (i + 64) (acc ++ [(t : Int) - (i : Int) - 1] ++ (l.drop i).take 64) (by omega) (by omega) (by rw [List.length_append, List.length_append, hlen]; simp; omega)
      rw [plainF, if_neg hne, hlen, List.drop_drop]
      rw [show ((t - i : Nat) : Int) = (t : Int) - (i : Int) by omega]
      rw [Int.natCast_add] at this
      have e5 : acc ++ [(t : Int) - (i : Int) - 1] ++ (l.drop i).take 64 ++ plainF f (l.drop (i + 64)) = acc ++ (((t : Int) - (i : Int) - 1) :: ((l.drop i).take 64 ++ plainF f (l.drop (i + 64)))) := by simp
      rw [e5] at this
      exact this
    · simp only [if_neg (show ¬ ((i : Int) < (l.length : Int)) by omega)]
      rw [List.drop_of_length_le (by omega), plainF, if_pos rfl, List.append_nil]
      exact Ev.now _
theorem plain_ev (l : List Int) (hl : l.length ≤ 1000) : Ev (fun k => spec_l4Plain.f k l) (plainV l) := by
  unfold spec_l4Plain.f plainV
  have := plain_loop l hl l.length 0 [] (by omega) (by omega) (by simp)
  simpa using this
theorem specM_le (l : List Int) (z : Nat) : (specM l z).1 ≤ 66 := by
  unfold specM
  have : ∀ (ps : List Nat) (s : Nat × Nat), s.1 ≤ 66 → (best (nAt l z) ps s).1 ≤ 66 := by
    intro ps
    induction ps with
    | nil => intro s h; exact h
    | cons p ps ih =>
      intro s h
      unfold best
      refine ih _ ?_
      split
      · exact alike_le_m 66 _ _
      · exact h
  exact this _ _ (Nat.zero_le _)
theorem pack_loop (l : List Int) (hl : l.length ≤ 1000) : ∀ (f z : Nat) (out plain : List Int), l.length + 1 ≤ f + z → z ≤ l.length + 66 → out.length + 2 * plain.length ≤ 2 * z → plain.length ≤ 1000 → (z < l.length → plain.length ≤ z) → Ev (fun k => spec_l4Pack.l0 k l out plain (z : Int)) (packW (specM l) l f z out plain) := by
  intro f
  induction f with
  | zero =>
    intro z out plain hf hz hb hp hpz
    have hpl := plainV_len plain
    refine Ev.step (fun k => by rw [spec_l4Pack.l0]) ?_
    simp only [if_neg (show ¬ ((z : Int) < (l.length : Int)) by omega)]
    refine Ev.bind (plain_ev plain hp) ?_
    simp only [if_pos (show out.length + (plainV plain).length < 17592186044416 by omega), packW]
    exact Ev.now _
  | succ f ih =>
    intro z out plain hf hz hb hp hpz
    have hpl := plainV_len plain
    refine Ev.step (fun k => by rw [spec_l4Pack.l0]) ?_
    by_cases h : z < l.length
    · have hM := specM_le l z
      simp only [if_pos (show (z : Int) < (l.length : Int) by omega)]
      refine Ev.bind (best_ev l hl z h) ?_
      have hpz2 := hpz h
      by_cases h3 : (specM l z).1 < 3
      · rw [packW_lt _ _ _ _ _ _ h h3]
        simp only [if_pos (show ((specM l z).1 : Int) < 3 by omega), if_pos (show (0 : Int) ≤ (z : Int) by omega), if_pos (show plain.length < 17592186044416 by omega), w64 (a := (z : Int) + 1) (by omega) (by omega), ← getD_nat l z h]
        have := ih (z + 1) out (plain ++ [l.getD z 0]) (by omega) (by omega) (by rw [List.length_append]; simp; omega) (by rw [List.length_append]; simp; omega) (fun _ => by rw [List.length_append]; simp; omega)
        exact_mod_cast this
      · rw [packW_ge _ _ _ _ _ _ h h3]
        simp only [if_neg (show ¬ ((specM l z).1 : Int) < 3 by omega)]
        refine Ev.bind (plain_ev plain hp) ?_
        simp only [if_pos (show out.length + (plainV plain).length < 17592186044416 by omega), bindS, w64 (a := 64 + ((specM l z).1 : Int)) (by omega) (by omega), w64 (a := 64 + ((specM l z).1 : Int) - 3) (by omega) (by omega), w64 (a := (z : Int) + ((specM l z).1 : Int)) (by omega) (by omega)]
        rw [show 64 + ((specM l z).1 : Int) - 3 = ((specM l z).1 : Int) + 61 by omega]
        have hlen : (out ++ plainV plain).length + [((specM l z).1 : Int) + 61, ((specM l z).2 : Int)].length < 17592186044416 := by rw [List.length_append]; simp; omega
        simp only [if_pos hlen]
        have := ih (z + (specM l z).1) (out ++ plainV plain ++ [((specM l z).1 : Int) + 61, ((specM l z).2 : Int)]) [] (by omega) (by omega) (by rw [List.length_append, List.length_append]; simp; omega) (by simp) (fun _ => by simp)
        exact_mod_cast this
    · have e : packW (specM l) l (f + 1) z out plain = out ++ plainV plain := by rw [packW, if_neg h]
      simp only [if_neg (show ¬ ((z : Int) < (l.length : Int)) by omega), e]
      refine Ev.bind (plain_ev plain hp) ?_
      simp only [if_pos (show out.length + (plainV plain).length < 17592186044416 by omega)]
      exact Ev.now _
def PK (l : List Int) : List Int := packW (implM l) l (l.length + 1) 0 [] []
theorem spack_ev (l : List Int) (hl : l.length ≤ 1000) : Ev (fun k => spec_l4Pack.f k l) (PK l) := by
  unfold spec_l4Pack.f PK
  have := pack_loop l hl (l.length + 1) 0 [] [] (by omega) (by omega) (by simp) (by simp) (fun _ => by simp)
  rw [pack_same] at this
  exact this
theorem pack_ev (l : List Int) (hl : l.length ≤ 1000) (hi : l.all inI = true) : Ev (fun k => impl_pack.f k l) (PK l) := by
  unfold impl_pack.f PK
  simp only [if_pos (And.intro hl hi)]
  exact Ev.now _
theorem packW_len (M : Nat → Nat × Nat) (l : List Int) : ∀ k z (out plain : List Int), (packW M l k z out plain).length ≤ out.length + 2 * plain.length + 2 * k
  | 0, z, out, plain => by
    have := plainV_len plain
    rw [packW, List.length_append]
    omega
  | k + 1, z, out, plain => by
    have hp := plainV_len plain
    rw [packW]
    split
    · split
      · have := packW_len M l k (z + 1) out (plain ++ [l.getD z 0])
        rw [List.length_append] at this
        simp at this ⊢
        omega
      · have := packW_len M l k (z + (M z).1) (out ++ plainV plain ++ [((M z).1 : Int) + 61, ((M z).2 : Int)]) []
        rw [List.length_append, List.length_append] at this
        simp at this ⊢
        omega
    · rw [List.length_append]
      omega
theorem PK_len (l : List Int) (hl : l.length ≤ 1000) : (PK l).length ≤ 2002 := by
  have := packW_len (implM l) l (l.length + 1) 0 [] []
  unfold PK
  simp at this
  omega
end Go.Proofs.Ythoioccmnphfgaa.Pu

