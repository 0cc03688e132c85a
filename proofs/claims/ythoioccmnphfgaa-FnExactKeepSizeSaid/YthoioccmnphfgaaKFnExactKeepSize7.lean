/- A text of seat Ythoioccmnphfgaa: what the law FnExactKeepSize needs of this repo's texts (by pack.py). Not trusted: Lean checks it. -/
import Derived.Test.YthoioccmnphfgaaKFnExactKeepSize6
namespace Go.Proofs.Ythoioccmnphfgaa.G
open Go.RowKit Go.Proofs.YthoioccmnphfgaaW.PrintWords Go.Proofs.YthoioccmnphfgaaW.PrintLast Go.Proofs.YthoioccmnphfgaaW.PrintMore
attribute [local go_sem] max2_int min2_int max_two min_two max_three min_three max_four min_four   -- for this text's walks alone
set_option linter.unusedVariables false
set_option linter.unusedSimpArgs false

def impl_sum_with.f (a0 : Int) (a1 : Int) : Option (Int) := some (Int.tmod (wrap64 ((wrap64 (257 * a0)) + a1)) 65521)
set_option maxHeartbeats 8000000 in
set_option maxRecDepth 100000 in
theorem impl_sum_with.calls (a0 : Int) (a1 : Int) (r : Int) (w : World) (h : impl_sum_with.f a0 a1 = some r) :
  Calls Try.prog 65 #[.int .i64 a0, .int .i64 a1] w fun e w' => e = .returned (.int .i64 r) ∧ Drawn0 w w' := by
 have H : (some (Int.tmod (wrap64 ((wrap64 (257 * a0)) + a1)) 65521)) = some r := h
 clear h
 obtain rfl := Option.some.inj H
 go_enter Try.func65, Try.ntmps65
 go_wp2
 go_ret
 exact ⟨by first | rfl | (simp; done) | (simp [*]; done), by repeat (first | exact Drawn0.refl _ | apply Drawn0.step)⟩

def impl_sum_over.l0 : Nat → Int → List Int → Int → Int → Option (Int)
 | 0, _, _, _, _ => none
 | k + 1, x0, x7, x8, x9 => if x9 < x8 then (if 0 ≤ x9 then (if x9 < (x7.length : Int) then ((impl_sum_with.f x0 (rd x7 x9)).bind fun t342 => (impl_sum_over.l0 k t342 x7 x8 (wrap64 (x9 + 1)))) else (none)) else (none)) else (some x0)
def impl_sum_over.f (k : Nat) (a0 : Int) (l1 : List Int) : Option (Int) := impl_sum_over.l0 k a0 l1 (l1.length : Int) 0
set_option maxHeartbeats 8000000 in
set_option maxRecDepth 100000 in
theorem impl_sum_over.calls (k : Nat) (a0 : Int) (A1 : Option Addr) (c1 : Nat) (l1 : List Int) (r : Int) (w : World) (hr1 : Kd.C (Kd.int .i64) w A1 l1.length l1) (hc1 : l1.length ≤ c1) (h : impl_sum_over.f k a0 l1 = some r) :
  Calls Try.prog 46 #[.int .i64 a0, .slice A1 l1.length c1] w fun e w' => e = .returned (.int .i64 r) ∧ Drawn0 w w' := by
 have HR1 := Aside0.mk hr1
 have HC1 := Aside0.mk hc1
 clear hr1 hc1
 have H : (impl_sum_over.l0 k a0 l1 (l1.length : Int) 0) = some r := h
 clear h
 have H' := Aside0.mk H
 clear H
 go_enter Try.func46, Try.ntmps46
 go_wp2
 go_loopg [0, 9] k (fun kq v0 v9 w' => ∃ (x0_1 : Int) (x9_1 : Int), v0 = .int .i64 x0_1 ∧ v9 = .int .i64 x9_1 ∧ Aside0 (impl_sum_over.l0 kq x0_1 l1 (l1.length : Int) x9_1 = some r) ∧ Aside0 (kq ≤ k) ∧ Drawn0 w w')
 case atStart => exact ⟨(a0), (0), tr, tr, H', ⟨Nat.le_refl _⟩, by repeat (first | exact Drawn0.refl _ | apply Drawn0.step)⟩
 case round =>
  clear H'
  try clear c1
  obtain ⟨x0_1, x9_1, rfl, rfl, HA, HK1, ⟨m1, rfl⟩⟩ := hrel
  cases gk with
  | zero => exact absurd HA.out (by simp [impl_sum_over.l0])
  | succ k1 =>
   have H := HA.out
   clear HA
   simp only [impl_sum_over.l0] at H
   by_cases c3 : x9_1 < (l1.length : Int)
   ·rw [if_pos c3] at H
    have c3b0 : decide (x9_1 < (l1.length : Int)) = true := decide_eq_true c3
    clear c3
    by_cases c4 : 0 ≤ x9_1
    ·rw [if_pos c4] at H
     have c4b0 : decide (0 ≤ x9_1) = true := decide_eq_true c4
     clear c4
     by_cases c5 : x9_1 < (l1.length : Int)
     ·rw [if_pos c5] at H
      have c5b0 : decide (x9_1 < (l1.length : Int)) = true := decide_eq_true c5
      clear c5
      replace H := tbe H
      obtain ⟨t342, A6, H⟩ := H
      have H' := Aside0.mk H
      clear H
      have p341 : 0 ≤ (x9_1 : Int) := td
      have q341 : x9_1 < (l1.length : Int) := td
      obtain ⟨ad341, e341, hx341_0⟩ := Kd.at_int HR1.out x9_1 p341 q341
      cases e341
      replace p341 := eq_true p341
      replace q341 := eq_true q341
      go_wp2_with (first | ((with_reducible refine gate_callee (f := 65) rfl ?_); refine goesL_ (some 15) rfl rfl Try.func65 (by kernel_rfl) rfl #[.int .i64 x0_1, .int .i64 (rd l1 x9_1)] rfl tq ?_; (with_reducible refine (impl_sum_with.calls x0_1 (rd l1 x9_1) t342 _ A6.out).mono ?_); rintro e w' ⟨rfl, ⟨nd, rfl⟩⟩; refine ⟨_, rfl, ?_⟩))
      go_roundg k1
      case measure => have := HK1.out; omega
      case rel => exact ⟨(t342), (wrap64 (x9_1 + 1)), tr, tr, H', ⟨by have := HK1.out; omega⟩, by repeat (first | exact Drawn0.refl _ | apply Drawn0.step)⟩
     ·rw [if_neg c5] at H
      exact absurd H (by simp)
    ·rw [if_neg c4] at H
     exact absurd H (by simp)
   ·rw [if_neg c3] at H
    have c3b0 : decide (x9_1 < (l1.length : Int)) = false := decide_eq_false c3
    clear c3
    obtain rfl := Option.some.inj H
    go_wp2
    go_ret
    exact ⟨by first | rfl | (simp; done) | (simp [*]; done), by repeat (first | exact Drawn0.refl _ | apply Drawn0.step)⟩

mutual
def impl_Batch_bytesOf.l0 : Nat → List Int → List (S63) → Int → Int → Bool → Bool → Int → Int → Int → List (S63) → Int → Int → Bool → List Int → Bool → List Int → Option (List Int)
 | 0, _, _, _, _, _, _, _, _, _, _, _, _, _, _, _, _ => none
 | k + 1, x4, x15, x16, x17, x344000, x344001, x344002, x344003, x344004, x344005, x346000, x346001, x346002, x346003, x346004, x346005 => if x17 < x16 then (if 0 ≤ x17 then (if x17 < (x15.length : Int) then ((impl_Record_bytesFor.f k ((rd_T63 x15 x17).f0) ((rd_T63 x15 x17).f1) ((rd_T63 x15 x17).f2) ((rd_T63 x15 x17).f3) ((rd_T63 x15 x17).f4) ((rd_T63 x15 x17).f5) x346000 x346001).bind fun t351 => (if x4.length + t351.length < 17592186044416 then (impl_Batch_bytesOf.l0 k (x4 ++ t351) x15 x16 (wrap64 (x17 + 1)) x344000 x344001 x344002 x344003 x344004 x344005 x346000 x346001 x346002 x346003 x346004 x346005) else (none))) else (none)) else (none)) else (if x344000 = true then ((impl_pack.f k x4).bind fun t357 => (impl_Batch_bytesOf.j1 k t357 (0 + 1) x344000 x344001 x344002 x344003 x344004 x344005 x346000 x346001 x346002 x346003 x346004 x346005)) else (impl_Batch_bytesOf.j1 k x4 0 x344000 x344001 x344002 x344003 x344004 x344005 x346000 x346001 x346002 x346003 x346004 x346005))
def impl_Batch_bytesOf.j1 : Nat → List Int → Int → Bool → Bool → Int → Int → Int → List (S63) → Int → Int → Bool → List Int → Bool → List Int → Option (List Int)
 | 0, _, _, _, _, _, _, _, _, _, _, _, _, _, _ => none
 | k + 1, x4, x7, x344000, x344001, x344002, x344003, x344004, x344005, x346000, x346001, x346002, x346003, x346004, x346005 => if x344001 = true then (impl_Batch_bytesOf.j2 k x4 (wrap64 (x7 + 2)) x344000 x344001 x344002 x344003 x344004 x344005 x346000 x346001 x346002 x346003 x346004 x346005) else (impl_Batch_bytesOf.j2 k x4 x7 x344000 x344001 x344002 x344003 x344004 x344005 x346000 x346001 x346002 x346003 x346004 x346005)
def impl_Batch_bytesOf.j2 : Nat → List Int → Int → Bool → Bool → Int → Int → Int → List (S63) → Int → Int → Bool → List Int → Bool → List Int → Option (List Int)
 | 0, _, _, _, _, _, _, _, _, _, _, _, _, _, _ => none
 | k + 1, x4, x7, x344000, x344001, x344002, x344003, x344004, x344005, x346000, x346001, x346002, x346003, x346004, x346005 => (some (([x7, x344002, x344003] : List Int) : List Int)).bind fun y360 => ((impl_intOf.f k x344004 2).bind fun t363 => (if y360.length + t363.length < 17592186044416 then ((some (y360 ++ t363 : List Int)).bind fun y366 => ((impl_intOf.f k x346001 3).bind fun t369 => (if y366.length + t369.length < 17592186044416 then ((some (y366 ++ t369 : List Int)).bind fun y372 => ((some (([(x344005.length : Int), 0, 0] : List Int) : List Int)).bind fun y375 => (if y372.length + y375.length < 17592186044416 then ((some (y372 ++ y375 : List Int)).bind fun y378 => (if y378.length + x4.length < 17592186044416 then ((some (y378 ++ x4 : List Int)).bind fun y381 => ((impl_intOf.f k x346000 3).bind fun t384 => ((impl_intOf.f k (y381.length : Int) 2).bind fun t387 => ((impl_sum_over.f k 1 y381).bind fun t390 => ((impl_intOf.f k t390 2).bind fun t391 => ((slices_Concat_int_int.f (([t384, t387, t391, y381] : List (List Int)))).bind fun t397 => (some t397))))))) else (none))) else (none)))) else (none)))) else (none)))
end
def impl_Batch_bytesOf.f (k : Nat) (a0_0 : Bool) (a0_1 : Bool) (a0_2 : Int) (a0_3 : Int) (a0_4 : Int) (l0_5 : List (S63)) : Option (List Int) := if 0 < (l0_5.length : Int) then (impl_Batch_bytesOf.l0 k (([] : List Int)) l0_5 (l0_5.length : Int) 0 a0_0 a0_1 a0_2 a0_3 a0_4 l0_5 ((rd_T63 l0_5 0).f0) ((rd_T63 l0_5 0).f1) ((rd_T63 l0_5 0).f2) ((rd_T63 l0_5 0).f3) ((rd_T63 l0_5 0).f4) ((rd_T63 l0_5 0).f5)) else (none)
set_option maxHeartbeats 8000000 in
set_option maxRecDepth 100000 in
theorem impl_Batch_bytesOf.calls (k : Nat) (a0_0 : Bool) (a0_1 : Bool) (a0_2 : Int) (a0_3 : Int) (a0_4 : Int) (A0_5 : Option Addr) (c0_5 : Nat) (l0_5 : List (S63)) (r : List Int) (w : World) (hr0_5 : Kd.C k63 w A0_5 l0_5.length l0_5) (hc0_5 : l0_5.length ≤ c0_5) (h : impl_Batch_bytesOf.f k a0_0 a0_1 a0_2 a0_3 a0_4 l0_5 = some r) :
  Calls Try.prog 25 #[.agg #[.bool a0_0, .bool a0_1, .int .i64 a0_2, .int .i64 a0_3, .int .i64 a0_4, .slice A0_5 l0_5.length c0_5]] w fun e w' => ∃ v0_ : Value, e = .returned (v0_) ∧ Kd.R (Kd.int .i64) 3 w' w.heap.size (fun _ => True) v0_ r ∧ Below w.heap.size w w' := by
 have hu46 := Try.underlying46
 have hu63 := Try.underlying63
 have HR0_5 := Aside0.mk hr0_5
 have HC0_5 := Aside0.mk hc0_5
 clear hr0_5 hc0_5
 have HB := Aside0.mk (Below.refl w.heap.size w)
 have H : (if 0 < (l0_5.length : Int) then (impl_Batch_bytesOf.l0 k (([] : List Int)) l0_5 (l0_5.length : Int) 0 a0_0 a0_1 a0_2 a0_3 a0_4 l0_5 ((rd_T63 l0_5 0).f0) ((rd_T63 l0_5 0).f1) ((rd_T63 l0_5 0).f2) ((rd_T63 l0_5 0).f3) ((rd_T63 l0_5 0).f4) ((rd_T63 l0_5 0).f5)) else (none)) = some r := h
 clear h
 by_cases c2 : 0 < (l0_5.length : Int)
 ·rw [if_pos c2] at H
  have c2b0 : decide (0 < (l0_5.length : Int)) = true := decide_eq_true c2
  have c2b1 : decide (0 < l0_5.length) = true := decide_eq_true (by omega)
  clear c2
  obtain ⟨y346, hy346⟩ : ∃ y_ : List Int, y_ = (([] : List Int)) := ⟨_, rfl⟩
  replace H : (impl_Batch_bytesOf.l0 k y346 l0_5 (l0_5.length : Int) 0 a0_0 a0_1 a0_2 a0_3 a0_4 l0_5 ((rd_T63 l0_5 0).f0) ((rd_T63 l0_5 0).f1) ((rd_T63 l0_5 0).f2) ((rd_T63 l0_5 0).f3) ((rd_T63 l0_5 0).f4) ((rd_T63 l0_5 0).f5)) = some r := by first | (rw [hy346]; with_reducible exact H) | (have H2_ := (Option.bind_some _ _).symm.trans H; rw [hy346]; with_reducible exact H2_) | (have H2_ := (Option.bind_some _ _).symm.trans H; with_reducible exact H2_) | with_reducible exact H | (rw [hy346]; exact H) | exact H
  have Ny346 := Aside0.mk hy346
  clear hy346
  have H' := Aside0.mk H
  clear H
  go_enter Try.func25, Try.ntmps25
  go_wp2_with (first | ((with_reducible refine gate_dst (N := 1) rfl ?_); refine box_event ?hg (N := 1) ?hd (cs := #[.bool a0_0, .bool a0_1, .int .i64 a0_2, .int .i64 a0_3, .int .i64 a0_4, .slice A0_5 l0_5.length c0_5]) (t := 46) ?hr ?_; (case hd => rfl); (case hg => rfl); (case hr => first | (go_simp; done) | (go_simp; rfl)); intro gb343 hg w3 hbox hb; have BK343 := Aside0.mk (hbox); have GW343 := tge HB hg; have GE343 := tge HB hg; replace HB := tBs HB hb; clear hb hbox hg; obtain ⟨hcz4_0, hcz4_1, hcz4_2, hcz4_3, hcz4_4, hcz4_5, hfz4_0, hfz4_1, hfz4_2, hfz4_3, hfz4_4, hfz4_5⟩ := cells6 BK343.out; have p344 : 0 ≤ (0 : Int) := (by omega); have q344 : 0 < (l0_5.length : Int) := td; obtain ⟨ad344, A344_3, c344_3, A344_5, c344_5, e344, hx344_0, hx344_1, hx344_2, hx344_3, hx344_4, hx344_5, hl344_3, hi344_3, hl344_5, hi344_5⟩ := at_T63 HR0_5.out 0 p344 q344; cases e344; have qi344 : (0 < l0_5.length) = True := eq_true (by omega); (try rw [show ((0 : Int)).toNat = 0 from rfl] at hx344_0); (try rw [show 0 * 6 = 0 from rfl] at hx344_0); (try rw [Addr.add_zero'] at hx344_0); (try rw [show ((0 : Int)).toNat = 0 from rfl] at hx344_1); (try rw [show 0 * 6 = 0 from rfl] at hx344_1); (try rw [Addr.add_zero'] at hx344_1); (try rw [show ((0 : Int)).toNat = 0 from rfl] at hx344_2); (try rw [show 0 * 6 = 0 from rfl] at hx344_2); (try rw [Addr.add_zero'] at hx344_2); (try rw [show ((0 : Int)).toNat = 0 from rfl] at hx344_3); (try rw [show 0 * 6 = 0 from rfl] at hx344_3); (try rw [Addr.add_zero'] at hx344_3); (try rw [show ((0 : Int)).toNat = 0 from rfl] at hx344_4); (try rw [show 0 * 6 = 0 from rfl] at hx344_4); (try rw [Addr.add_zero'] at hx344_4); (try rw [show ((0 : Int)).toNat = 0 from rfl] at hx344_5); (try rw [show 0 * 6 = 0 from rfl] at hx344_5); (try rw [Addr.add_zero'] at hx344_5); replace hx344_0 := tcl HB hx344_0; replace hx344_1 := tcl HB hx344_1; replace hx344_2 := tcl HB hx344_2; replace hx344_3 := tcl HB hx344_3; replace hx344_4 := tcl HB hx344_4; replace hx344_5 := tcl HB hx344_5; have HR344_3 := Aside0.mk hi344_3; have HC344_3 := Aside0.mk hl344_3; clear hi344_3 hl344_3; have HR344_5 := Aside0.mk hi344_5; have HC344_5 := Aside0.mk hl344_5; clear hi344_5 hl344_5; replace p344 := eq_true p344; replace q344 := eq_true q344) | ((with_reducible refine gate_dst (N := 3) rfl ?_); refine box_event ?hg (N := 3) ?hd (cs := #[.int .i64 0, .int .i64 0, .bool false, .slice none 0 0, .bool false, .slice none 0 0]) (t := 63) ?hr ?_; (case hd => rfl); (case hg => rfl); (case hr => first | (go_simp; done) | (go_simp; rfl)); intro gb345 hg w5 hbox hb; have BK345 := Aside0.mk (hbox); have GW345 := tge HB hg; have GE345 := tge HB hg; replace HB := tBs HB hb; have NB343_345 := tlt BK343 hg; have NB345_343 := tgt BK343 hg; replace BK343 := tBb BK343 hb; clear hb hbox hg; have hnb6 := NB345_343.out; have hnc6 := NB343_345.out; obtain ⟨hcz7_0, hcz7_1, hcz7_2, hcz7_3, hcz7_4, hcz7_5, hfz7_0, hfz7_1, hfz7_2, hfz7_3, hfz7_4, hfz7_5⟩ := cells6 BK345.out) | ((with_reducible refine gate_dst (N := 13) rfl ?_); refine Kd.R_lit (Kd.int .i64) _ 3 ?hg (N := 13) ?hd (xs := ([] : List Int)) (inner := []) (ok := fun _ => True) (okp := fun _ => True) ?hr ?hp (fun _ hk => hk) trivial (Below.refl _ _) (Nat.le_refl _) (by simp) ?_; (case hd => rfl); (case hg => rfl); (case hr => first | (go_simp; done) | (go_simp; rfl)); (case hp => exact (Reps.none _ _)); intro v347 w8 ho9 hb hg_ hnew_; clear hg_ hnew_; (first | rw [← Ny346.out] at ho9 | (simp only [Int.reduceToNat] at ho9; rw [← Ny346.out] at ho9)); have HO348 := tRl ho9 HB; replace BK343 := tBb BK343 hb; replace BK345 := tBp (o' := .cells #[.int .i64 ((rd_T63 l0_5 0).f0), .int .i64 ((rd_T63 l0_5 0).f1), .bool ((rd_T63 l0_5 0).f2), .slice A344_3 ((rd_T63 l0_5 0).f3).length c344_3, .bool ((rd_T63 l0_5 0).f4), .slice A344_5 ((rd_T63 l0_5 0).f5).length c344_5] 63 (0, 0)) BK345 hb; replace HB := tBs HB hb; clear hb ho9; obtain ⟨hcz10_0, hcz10_1, hcz10_2, hcz10_3, hcz10_4, hcz10_5, hfz10_0, hfz10_1, hfz10_2, hfz10_3, hfz10_4, hfz10_5⟩ := cells6 BK343.out))
  go_loopg [4, 17] k (fun kq v4 v17 w' => ∃ (x4_1 : List Int) (x17_1 : Int), v17 = .int .i64 x17_1 ∧ Aside0 (impl_Batch_bytesOf.l0 kq x4_1 l0_5 (l0_5.length : Int) x17_1 a0_0 a0_1 a0_2 a0_3 a0_4 l0_5 ((rd_T63 l0_5 0).f0) ((rd_T63 l0_5 0).f1) ((rd_T63 l0_5 0).f2) ((rd_T63 l0_5 0).f3) ((rd_T63 l0_5 0).f4) ((rd_T63 l0_5 0).f5) = some r) ∧ Aside0 (kq ≤ k) ∧ Aside0 (Kd.R (Kd.int .i64) 3 w' w.heap.size (fun _ => True) v4 x4_1) ∧ Aside0 (w'.heap[gb343]? = some (.cells #[.bool a0_0, .bool a0_1, .int .i64 a0_2, .int .i64 a0_3, .int .i64 a0_4, (.slice (some ad344) l0_5.length c0_5)] 46 (0, 0))) ∧ Aside0 (w'.heap[gb345]? = some (.cells #[.int .i64 ((rd_T63 l0_5 0).f0), .int .i64 ((rd_T63 l0_5 0).f1), .bool ((rd_T63 l0_5 0).f2), (.slice A344_3 ((rd_T63 l0_5 0).f3).length c344_3), .bool ((rd_T63 l0_5 0).f4), (.slice A344_5 ((rd_T63 l0_5 0).f5).length c344_5)] 63 (0, 0))) ∧ Aside0 (Below w.heap.size w w'))
  case atStart => exact ⟨(y346), (0), tr, H', ⟨Nat.le_refl _⟩, ⟨tR HO348.out⟩, ⟨tH BK343.out⟩, ⟨tH BK345.out⟩, ⟨zb⟩⟩
  case round =>
   clear H'
   try clear c2; try clear c2b0; try clear c2b1; try clear hcz10_0; try clear hcz10_1; try clear hcz10_2; try clear hcz10_3; try clear hcz10_4; try clear hcz10_5; try clear hcz4_0; try clear hcz4_1; try clear hcz4_2; try clear hcz4_3; try clear hcz4_4; try clear hcz4_5; try clear hcz7_0; try clear hcz7_1; try clear hcz7_2; try clear hcz7_3; try clear hcz7_4; try clear hcz7_5; try clear hfz10_0; try clear hfz10_1; try clear hfz10_2; try clear hfz10_3; try clear hfz10_4; try clear hfz10_5; try clear hfz4_0; try clear hfz4_1; try clear hfz4_2; try clear hfz4_3; try clear hfz4_4; try clear hfz4_5; try clear hfz7_0; try clear hfz7_1; try clear hfz7_2; try clear hfz7_3; try clear hfz7_4; try clear hfz7_5; try clear hx344_0; try clear hx344_1; try clear hx344_2; try clear hx344_3; try clear hx344_4; try clear hx344_5; try clear p344; try clear q344
   obtain ⟨x4_1, x17_1, rfl, HA, HK1, HO_4, BK343, BK345, HB⟩ := hrel
   cases gk with
   | zero => exact absurd HA.out (by simp [impl_Batch_bytesOf.l0])
   | succ k1 =>
    have H := HA.out
    clear HA
    simp only [impl_Batch_bytesOf.l0] at H
    by_cases c11 : x17_1 < (l0_5.length : Int)
    ·rw [if_pos c11] at H
     have c11b0 : decide (x17_1 < (l0_5.length : Int)) = true := decide_eq_true c11
     clear c11
     by_cases c12 : 0 ≤ x17_1
     ·rw [if_pos c12] at H
      have c12b0 : decide (0 ≤ x17_1) = true := decide_eq_true c12
      clear c12
      by_cases c13 : x17_1 < (l0_5.length : Int)
      ·rw [if_pos c13] at H
       have c13b0 : decide (x17_1 < (l0_5.length : Int)) = true := decide_eq_true c13
       clear c13
       replace H := tbe H
       obtain ⟨t351, A14, H⟩ := H
       by_cases c15 : x4_1.length + t351.length < 17592186044416
       ·rw [if_pos c15] at H
        have LMc15 := Aside0.mk c15
        clear c15
        obtain ⟨y354, hy354⟩ : ∃ y_ : List Int, y_ = (x4_1 ++ t351) := ⟨_, rfl⟩
        replace H : (impl_Batch_bytesOf.l0 k1 y354 l0_5 (l0_5.length : Int) (wrap64 (x17_1 + 1)) a0_0 a0_1 a0_2 a0_3 a0_4 l0_5 ((rd_T63 l0_5 0).f0) ((rd_T63 l0_5 0).f1) ((rd_T63 l0_5 0).f2) ((rd_T63 l0_5 0).f3) ((rd_T63 l0_5 0).f4) ((rd_T63 l0_5 0).f5)) = some r := by first | (rw [hy354]; with_reducible exact H) | (have H2_ := (Option.bind_some _ _).symm.trans H; rw [hy354]; with_reducible exact H2_) | (have H2_ := (Option.bind_some _ _).symm.trans H; with_reducible exact H2_) | with_reducible exact H | (rw [hy354]; exact H) | exact H
        have Ny354 := Aside0.mk hy354
        clear hy354
        have H' := Aside0.mk H
        clear H
        have p349 : 0 ≤ (x17_1 : Int) := td
        have q349 : x17_1 < (l0_5.length : Int) := td
        obtain ⟨ad349, A349_3, c349_3, A349_5, c349_5, e349, hx349_0, hx349_1, hx349_2, hx349_3, hx349_4, hx349_5, hl349_3, hi349_3, hl349_5, hi349_5⟩ := at_T63 HR0_5.out x17_1 p349 q349
        obtain rfl : ad344 = ad349 := (by injection e349)
        replace hx349_0 := tcl HB hx349_0
        replace hx349_1 := tcl HB hx349_1
        replace hx349_2 := tcl HB hx349_2
        replace hx349_3 := tcl HB hx349_3
        replace hx349_4 := tcl HB hx349_4
        replace hx349_5 := tcl HB hx349_5
        have HR349_3 := Aside0.mk hi349_3
        have HC349_3 := Aside0.mk hl349_3
        clear hi349_3 hl349_3
        have HR349_5 := Aside0.mk hi349_5
        have HC349_5 := Aside0.mk hl349_5
        clear hi349_5 hl349_5
        replace p349 := eq_true p349
        replace q349 := eq_true q349
        go_wp2_with (first | ((with_reducible refine gate_dst (N := 6) rfl ?_); refine box_event ?hg (N := 6) ?hd (cs := #[.int .i64 0, .int .i64 0, .bool false, .slice none 0 0, .bool false, .slice none 0 0]) (t := 63) ?hr ?_; (case hd => rfl); (case hg => rfl); (case hr => first | (go_simp; done) | (go_simp; rfl)); intro gb350 hg w16 hbox hb; replace HO_4 := tRb HO_4 hb; have BK350 := Aside0.mk (hbox); have GW350 := tge HB hg; have GE350 := tge HB hg; replace HB := tBs HB hb; have NB343_350 := tlt BK343 hg; have NB350_343 := tgt BK343 hg; replace BK343 := tBb BK343 hb; have NB345_350 := tlt BK345 hg; have NB350_345 := tgt BK345 hg; replace BK345 := tBb BK345 hb; clear hb hbox hg; have hnb17 := NB350_343.out; have hnc17 := NB343_350.out; have hnb18 := NB350_345.out; have hnc18 := NB345_350.out; obtain ⟨hcz19_0, hcz19_1, hcz19_2, hcz19_3, hcz19_4, hcz19_5, hfz19_0, hfz19_1, hfz19_2, hfz19_3, hfz19_4, hfz19_5⟩ := cells6 BK350.out; have hnb20 := NB345_343.out; have hnc20 := NB343_345.out; obtain ⟨hcz21_0, hcz21_1, hcz21_2, hcz21_3, hcz21_4, hcz21_5, hfz21_0, hfz21_1, hfz21_2, hfz21_3, hfz21_4, hfz21_5⟩ := cells6 BK345.out) | ((with_reducible refine gate_callee (f := 42) rfl ?_); refine goesL_ (some 27) rfl rfl Try.func42 (by kernel_rfl) rfl #[.agg #[.int .i64 ((rd_T63 l0_5 x17_1).f0), .int .i64 ((rd_T63 l0_5 x17_1).f1), .bool ((rd_T63 l0_5 x17_1).f2), .slice A349_3 ((rd_T63 l0_5 x17_1).f3).length c349_3, .bool ((rd_T63 l0_5 x17_1).f4), .slice A349_5 ((rd_T63 l0_5 x17_1).f5).length c349_5], .int .i64 ((rd_T63 l0_5 0).f0), .int .i64 ((rd_T63 l0_5 0).f1)] rfl tq ?_; (with_reducible refine (impl_Record_bytesFor.calls k1 ((rd_T63 l0_5 x17_1).f0) ((rd_T63 l0_5 x17_1).f1) ((rd_T63 l0_5 x17_1).f2) _ _ ((rd_T63 l0_5 x17_1).f3) ((rd_T63 l0_5 x17_1).f4) _ _ ((rd_T63 l0_5 x17_1).f5) ((rd_T63 l0_5 0).f0) ((rd_T63 l0_5 0).f1) t351 _ ?side1 ?side2 ?side3 ?side4 A14.out).mono ?_); (case side1 => exact Kd.C_below HR349_3.out zb); (case side2 => exact HC349_3.out); (case side3 => exact Kd.C_below HR349_5.out zb); (case side4 => exact HC349_5.out); rintro e w22 ⟨v352, rfl, ho0, hb⟩; have u_v352 := tsv Try.prog v352 ho0; refine ⟨_, rfl, ?_⟩; have HO353 := Aside0.mk (Kd.R_lower (Kd.R_new' ho0 (Kd.R_lt (tRt HO_4.out BK350.out))) (below_size zb)); replace HO_4 := Aside0.mk (Kd.R_elder' (tRt HO_4.out BK350.out) (Kd.R_base ho0) hb); replace BK343 := tBb BK343 hb; replace BK345 := tBb BK345 hb; replace BK350 := tBp (o' := .cells #[.int .i64 ((rd_T63 l0_5 x17_1).f0), .int .i64 ((rd_T63 l0_5 x17_1).f1), .bool ((rd_T63 l0_5 x17_1).f2), .slice A349_3 ((rd_T63 l0_5 x17_1).f3).length c349_3, .bool ((rd_T63 l0_5 x17_1).f4), .slice A349_5 ((rd_T63 l0_5 x17_1).f5).length c349_5] 63 (0, 0)) BK350 hb; replace HB := tBs HB hb; (try clear hb); (try clear hb2); (try clear hk); (try clear hi); (try clear ho0); obtain ⟨Ao24, co24, eo24⟩ := Kd.R_slice HO353.out; subst eo24) | ((with_reducible refine gate_builtin (b := .append) (xs := #[.tmp 21, .tmp 27]) rfl ?_); at_builtin; refine Kd.R_append_rows (Kd.int .i64) (w0 := w) w.heap.size rfl (.tmp 21) (.tmp 27) 26 3 (.int .i64 0) 8 rfl Try.underlying26 info3 rfl (by decide) (by omega) u4 x4_1 t351 _ _ _ (fun k_ => some k_ ≠ (.slice Ao24 t351.length co24 : Value).ownBlock) (fun _ => False) rfl rfl ?aO ?aR (fun _ _ h => h) (fun _ h => h.elim) ?aF ?aB ?aS ?aL ?_; (case aR => repeat (first | exact (Kd.R_reads' HO353.out).2.2 | (with_reducible refine Kd.C_alloc ?_ _) | (with_reducible refine Kd.C_drewN ?_ _) | (with_reducible refine Kd.C_drew ?_))); (case aB => exact zb); (case aF => exact (fun k_ hk => Kd.fresh' (Kd.R_lt (tR HO353.out)) k_ hk)); (case aO => exact (tRm HO_4.out)); (case aS => exact (below_size zb)); (case aL => have := LMc15.out; omega); intro v355 w23 ho hb hg hat; rw [← Ny354.out] at ho; replace BK343 := Aside0.mk (blk_grown (tH BK343.out) hg (Kd.R_ne HO_4.out BK343.out (by decide))); replace BK345 := Aside0.mk (blk_grown (tH BK345.out) hg (Kd.R_ne HO_4.out BK345.out (by decide))); replace BK350 := Aside0.mk (blk_grown (tH BK350.out) hg (Kd.R_ne HO_4.out BK350.out (by decide))); replace HO353 := Aside0.mk (Kd.R_after (ok := (fun _ => True)) (tR HO353.out) hg hat); replace HB := Aside0.mk (hb); have HO356 := Aside0.mk (ho); clear HO_4; clear ho hb hg hat))
        go_roundg k1
        case measure => have := HK1.out; omega
        case rel => exact ⟨(y354), (wrap64 (x17_1 + 1)), tr, H', ⟨by have := HK1.out; omega⟩, ⟨tRm HO356.out⟩, ⟨tH BK343.out⟩, ⟨tH BK345.out⟩, ⟨zb⟩⟩
       ·rw [if_neg c15] at H
        exact absurd H (by simp)
      ·rw [if_neg c13] at H
       exact absurd H (by simp)
     ·rw [if_neg c12] at H
      exact absurd H (by simp)
    ·rw [if_neg c11] at H
     have c11b0 : decide (x17_1 < (l0_5.length : Int)) = false := decide_eq_false c11
     clear c11
     have HC25 := Aside0.mk H
     clear H
     have hnb26 := NB343_345.out
     have hnc26 := NB345_343.out
     obtain ⟨hcz27_0, hcz27_1, hcz27_2, hcz27_3, hcz27_4, hcz27_5, hfz27_0, hfz27_1, hfz27_2, hfz27_3, hfz27_4, hfz27_5⟩ := cells6 BK343.out
     go_upto_if 31 with (fail)
     go_cut [4, 7] (fun v4 v7 wc => ∃ (kq : Nat) (x4_24 : List Int) (x7_24 : Int), v7 = .int .i64 x7_24 ∧ Aside0 (impl_Batch_bytesOf.j1 kq x4_24 x7_24 a0_0 a0_1 a0_2 a0_3 a0_4 l0_5 ((rd_T63 l0_5 0).f0) ((rd_T63 l0_5 0).f1) ((rd_T63 l0_5 0).f2) ((rd_T63 l0_5 0).f3) ((rd_T63 l0_5 0).f4) ((rd_T63 l0_5 0).f5) = some r) ∧ Aside0 (kq ≤ k1) ∧ Aside0 (Kd.R (Kd.int .i64) 3 wc w.heap.size (fun _ => True) v4 x4_24) ∧ Aside0 (wc.heap[gb343]? = some (.cells #[.bool a0_0, .bool a0_1, .int .i64 a0_2, .int .i64 a0_3, .int .i64 a0_4, (.slice (some ad344) l0_5.length c0_5)] 46 (0, 0))) ∧ Aside0 (wc.heap[gb345]? = some (.cells #[.int .i64 ((rd_T63 l0_5 0).f0), .int .i64 ((rd_T63 l0_5 0).f1), .bool ((rd_T63 l0_5 0).f2), (.slice A344_3 ((rd_T63 l0_5 0).f3).length c344_3), .bool ((rd_T63 l0_5 0).f4), (.slice A344_5 ((rd_T63 l0_5 0).f5).length c344_5)] 63 (0, 0))) ∧ Aside0 (Below w.heap.size w wc))
     case first =>
      have H := HC25.out
      clear HC25
      by_cases c28 : a0_0 = true
      ·subst c28
       rw [if_pos rfl] at H
       replace H := tbe H
       obtain ⟨t357, A29, H⟩ := H
       have H' := Aside0.mk H
       clear H
       obtain ⟨Ao30, co30, eo30⟩ := Kd.R_slice HO_4.out
       subst eo30
       go_wp2_with (first | ((with_reducible refine gate_callee (f := 43) rfl ?_); refine goesL_ (some 35) rfl rfl Try.func43 (by kernel_rfl) rfl #[.slice Ao30 x4_1.length co30] rfl tq ?_; (with_reducible refine (impl_pack.calls k1 _ _ x4_1 t357 _ ?side1 ?side2 A29.out).mono ?_); (case side1 => repeat (first | exact (Kd.R_reads' HO_4.out).2.2 | (with_reducible refine Kd.C_alloc ?_ _) | (with_reducible refine Kd.C_drewN ?_ _) | (with_reducible refine Kd.C_drew ?_))); (case side2 => exact (Kd.R_reads' HO_4.out).2.1); rintro e w31 ⟨v358, rfl, ho0, hb⟩; have u_v358 := tsv Try.prog v358 ho0; refine ⟨_, rfl, ?_⟩; have HO359 := Aside0.mk (Kd.R_lower (Kd.R_new' ho0 (Kd.R_lt (tR HO_4.out))) (below_size zb)); replace HO_4 := Aside0.mk (Kd.R_elder' (tR HO_4.out) (Kd.R_base ho0) hb); replace BK343 := tBb BK343 hb; replace BK345 := tBb BK345 hb; replace HB := tBs HB hb; (try clear hb); (try clear hb2); (try clear hk); (try clear hi); (try clear ho0)))
       go_meet
       case rel => exact ⟨_, (t357), (0 + 1), tr, H', ⟨by have := HK1.out; first | omega | exact Nat.le_refl _⟩, ⟨tRm HO359.out⟩, ⟨tH BK343.out⟩, ⟨tH BK345.out⟩, ⟨zb⟩⟩
      ·replace c28 := Bool.eq_false_iff.mpr c28
       subst c28
       rw [if_neg (show ¬ (false = true) by decide)] at H
       have H' := Aside0.mk H
       clear H
       go_wp2
       go_meet
       case rel => exact ⟨_, (x4_1), (0), tr, H', ⟨by have := HK1.out; first | omega | exact Nat.le_refl _⟩, ⟨tR HO_4.out⟩, ⟨tH BK343.out⟩, ⟨tH BK345.out⟩, ⟨zb⟩⟩
     case rest =>
      clear HC25
      try clear c2; try clear c2b0; try clear c2b1; try clear c11; try clear c11b0; try clear hcz10_0; try clear hcz10_1; try clear hcz10_2; try clear hcz10_3; try clear hcz10_4; try clear hcz10_5; try clear hcz27_0; try clear hcz27_1; try clear hcz27_2; try clear hcz27_3; try clear hcz27_4; try clear hcz27_5; try clear hcz4_0; try clear hcz4_1; try clear hcz4_2; try clear hcz4_3; try clear hcz4_4; try clear hcz4_5; try clear hcz7_0; try clear hcz7_1; try clear hcz7_2; try clear hcz7_3; try clear hcz7_4; try clear hcz7_5; try clear hfz10_0; try clear hfz10_1; try clear hfz10_2; try clear hfz10_3; try clear hfz10_4; try clear hfz10_5; try clear hfz27_0; try clear hfz27_1; try clear hfz27_2; try clear hfz27_3; try clear hfz27_4; try clear hfz27_5; try clear hfz4_0; try clear hfz4_1; try clear hfz4_2; try clear hfz4_3; try clear hfz4_4; try clear hfz4_5; try clear hfz7_0; try clear hfz7_1; try clear hfz7_2; try clear hfz7_3; try clear hfz7_4; try clear hfz7_5; try clear hx344_0; try clear hx344_1; try clear hx344_2; try clear hx344_3; try clear hx344_4; try clear hx344_5; try clear p344; try clear q344
      obtain ⟨kq, x4_24, x7_24, rfl, HA, HJ24, HO_4, BK343, BK345, HB⟩ := hcut
      cases kq with
      | zero => exact absurd HA.out (by simp [impl_Batch_bytesOf.j1])
      | succ kj24 =>
       have H := HA.out
       clear HA
       simp only [impl_Batch_bytesOf.j1] at H
       have HC32 := Aside0.mk H
       clear H
       have hnb33 := NB343_345.out
       have hnc33 := NB345_343.out
       obtain ⟨hcz34_0, hcz34_1, hcz34_2, hcz34_3, hcz34_4, hcz34_5, hfz34_0, hfz34_1, hfz34_2, hfz34_3, hfz34_4, hfz34_5⟩ := cells6 BK343.out
       go_upto_if 37 with (fail)
       go_cut [7] (fun v7 wc => ∃ (kq : Nat) (x7_31 : Int), v7 = .int .i64 x7_31 ∧ Aside0 (impl_Batch_bytesOf.j2 kq x4_24 x7_31 a0_0 a0_1 a0_2 a0_3 a0_4 l0_5 ((rd_T63 l0_5 0).f0) ((rd_T63 l0_5 0).f1) ((rd_T63 l0_5 0).f2) ((rd_T63 l0_5 0).f3) ((rd_T63 l0_5 0).f4) ((rd_T63 l0_5 0).f5) = some r) ∧ Aside0 (kq ≤ kj24) ∧ Aside0 (Kd.R (Kd.int .i64) 3 wc w.heap.size (fun _ => True) u4 x4_24) ∧ Aside0 (wc.heap[gb343]? = some (.cells #[.bool a0_0, .bool a0_1, .int .i64 a0_2, .int .i64 a0_3, .int .i64 a0_4, (.slice (some ad344) l0_5.length c0_5)] 46 (0, 0))) ∧ Aside0 (wc.heap[gb345]? = some (.cells #[.int .i64 ((rd_T63 l0_5 0).f0), .int .i64 ((rd_T63 l0_5 0).f1), .bool ((rd_T63 l0_5 0).f2), (.slice A344_3 ((rd_T63 l0_5 0).f3).length c344_3), .bool ((rd_T63 l0_5 0).f4), (.slice A344_5 ((rd_T63 l0_5 0).f5).length c344_5)] 63 (0, 0))) ∧ Aside0 (Below w.heap.size w wc))
       case first =>
        have H := HC32.out
        clear HC32
        by_cases c35 : a0_1 = true
        ·subst c35
         rw [if_pos rfl] at H
         have H' := Aside0.mk H
         clear H
         go_wp2
         go_meet
         case rel => exact ⟨_, (wrap64 (x7_24 + 2)), tr, H', ⟨by have := HK1.out; have := HJ24.out; first | omega | exact Nat.le_refl _⟩, ⟨tR HO_4.out⟩, ⟨tH BK343.out⟩, ⟨tH BK345.out⟩, ⟨zb⟩⟩
        ·replace c35 := Bool.eq_false_iff.mpr c35
         subst c35
         rw [if_neg (show ¬ (false = true) by decide)] at H
         have H' := Aside0.mk H
         clear H
         go_wp2
         go_meet
         case rel => exact ⟨_, (x7_24), tr, H', ⟨by have := HK1.out; have := HJ24.out; first | omega | exact Nat.le_refl _⟩, ⟨tR HO_4.out⟩, ⟨tH BK343.out⟩, ⟨tH BK345.out⟩, ⟨zb⟩⟩
       case rest =>
        clear HC32
        try clear c2; try clear c2b0; try clear c2b1; try clear c11; try clear c11b0; try clear hcz10_0; try clear hcz10_1; try clear hcz10_2; try clear hcz10_3; try clear hcz10_4; try clear hcz10_5; try clear hcz27_0; try clear hcz27_1; try clear hcz27_2; try clear hcz27_3; try clear hcz27_4; try clear hcz27_5; try clear hcz34_0; try clear hcz34_1; try clear hcz34_2; try clear hcz34_3; try clear hcz34_4; try clear hcz34_5; try clear hcz4_0; try clear hcz4_1; try clear hcz4_2; try clear hcz4_3; try clear hcz4_4; try clear hcz4_5; try clear hcz7_0; try clear hcz7_1; try clear hcz7_2; try clear hcz7_3; try clear hcz7_4; try clear hcz7_5; try clear hfz10_0; try clear hfz10_1; try clear hfz10_2; try clear hfz10_3; try clear hfz10_4; try clear hfz10_5; try clear hfz27_0; try clear hfz27_1; try clear hfz27_2; try clear hfz27_3; try clear hfz27_4; try clear hfz27_5; try clear hfz34_0; try clear hfz34_1; try clear hfz34_2; try clear hfz34_3; try clear hfz34_4; try clear hfz34_5; try clear hfz4_0; try clear hfz4_1; try clear hfz4_2; try clear hfz4_3; try clear hfz4_4; try clear hfz4_5; try clear hfz7_0; try clear hfz7_1; try clear hfz7_2; try clear hfz7_3; try clear hfz7_4; try clear hfz7_5; try clear hx344_0; try clear hx344_1; try clear hx344_2; try clear hx344_3; try clear hx344_4; try clear hx344_5; try clear p344; try clear q344
        obtain ⟨kq, x7_31, rfl, HA, HJ31, HO_4, BK343, BK345, HB⟩ := hcut
        cases kq with
        | zero => exact absurd HA.out (by simp [impl_Batch_bytesOf.j2])
        | succ kj31 =>
         have H := HA.out
         clear HA
         simp only [impl_Batch_bytesOf.j2] at H
         obtain ⟨y360, hy360⟩ : ∃ y_ : List Int, y_ = (([x7_31, a0_2, a0_3] : List Int)) := ⟨_, rfl⟩
         replace H : ((impl_intOf.f kj31 a0_4 2).bind fun t363 => (if y360.length + t363.length < 17592186044416 then ((some (y360 ++ t363 : List Int)).bind fun y366 => ((impl_intOf.f kj31 ((rd_T63 l0_5 0).f1) 3).bind fun t369 => (if y366.length + t369.length < 17592186044416 then ((some (y366 ++ t369 : List Int)).bind fun y372 => ((some (([(l0_5.length : Int), 0, 0] : List Int) : List Int)).bind fun y375 => (if y372.length + y375.length < 17592186044416 then ((some (y372 ++ y375 : List Int)).bind fun y378 => (if y378.length + x4_24.length < 17592186044416 then ((some (y378 ++ x4_24 : List Int)).bind fun y381 => ((impl_intOf.f kj31 ((rd_T63 l0_5 0).f0) 3).bind fun t384 => ((impl_intOf.f kj31 (y381.length : Int) 2).bind fun t387 => ((impl_sum_over.f kj31 1 y381).bind fun t390 => ((impl_intOf.f kj31 t390 2).bind fun t391 => ((slices_Concat_int_int.f (([t384, t387, t391, y381] : List (List Int)))).bind fun t397 => (some t397))))))) else (none))) else (none)))) else (none)))) else (none))) = some r := by first | (rw [hy360]; with_reducible exact H) | (have H2_ := (Option.bind_some _ _).symm.trans H; rw [hy360]; with_reducible exact H2_) | (have H2_ := (Option.bind_some _ _).symm.trans H; with_reducible exact H2_) | with_reducible exact H | (rw [hy360]; exact H) | exact H
         have Ny360 := Aside0.mk hy360
         clear hy360
         replace H := tbe H
         obtain ⟨t363, A36, H⟩ := H
         by_cases c37 : y360.length + t363.length < 17592186044416
         ·rw [if_pos c37] at H
          have LMc37 := Aside0.mk c37
          clear c37
          obtain ⟨y366, hy366⟩ : ∃ y_ : List Int, y_ = (y360 ++ t363) := ⟨_, rfl⟩
          replace H : ((impl_intOf.f kj31 ((rd_T63 l0_5 0).f1) 3).bind fun t369 => (if y366.length + t369.length < 17592186044416 then ((some (y366 ++ t369 : List Int)).bind fun y372 => ((some (([(l0_5.length : Int), 0, 0] : List Int) : List Int)).bind fun y375 => (if y372.length + y375.length < 17592186044416 then ((some (y372 ++ y375 : List Int)).bind fun y378 => (if y378.length + x4_24.length < 17592186044416 then ((some (y378 ++ x4_24 : List Int)).bind fun y381 => ((impl_intOf.f kj31 ((rd_T63 l0_5 0).f0) 3).bind fun t384 => ((impl_intOf.f kj31 (y381.length : Int) 2).bind fun t387 => ((impl_sum_over.f kj31 1 y381).bind fun t390 => ((impl_intOf.f kj31 t390 2).bind fun t391 => ((slices_Concat_int_int.f (([t384, t387, t391, y381] : List (List Int)))).bind fun t397 => (some t397))))))) else (none))) else (none)))) else (none))) = some r := by first | (rw [hy366]; with_reducible exact H) | (have H2_ := (Option.bind_some _ _).symm.trans H; rw [hy366]; with_reducible exact H2_) | (have H2_ := (Option.bind_some _ _).symm.trans H; with_reducible exact H2_) | with_reducible exact H | (rw [hy366]; exact H) | exact H
          have Ny366 := Aside0.mk hy366
          clear hy366
          replace H := tbe H
          obtain ⟨t369, A38, H⟩ := H
          by_cases c39 : y366.length + t369.length < 17592186044416
          ·rw [if_pos c39] at H
           have LMc39 := Aside0.mk c39
           clear c39
           obtain ⟨y372, hy372⟩ : ∃ y_ : List Int, y_ = (y366 ++ t369) := ⟨_, rfl⟩
           replace H : ((some (([(l0_5.length : Int), 0, 0] : List Int) : List Int)).bind fun y375 => (if y372.length + y375.length < 17592186044416 then ((some (y372 ++ y375 : List Int)).bind fun y378 => (if y378.length + x4_24.length < 17592186044416 then ((some (y378 ++ x4_24 : List Int)).bind fun y381 => ((impl_intOf.f kj31 ((rd_T63 l0_5 0).f0) 3).bind fun t384 => ((impl_intOf.f kj31 (y381.length : Int) 2).bind fun t387 => ((impl_sum_over.f kj31 1 y381).bind fun t390 => ((impl_intOf.f kj31 t390 2).bind fun t391 => ((slices_Concat_int_int.f (([t384, t387, t391, y381] : List (List Int)))).bind fun t397 => (some t397))))))) else (none))) else (none))) = some r := by first | (rw [hy372]; with_reducible exact H) | (have H2_ := (Option.bind_some _ _).symm.trans H; rw [hy372]; with_reducible exact H2_) | (have H2_ := (Option.bind_some _ _).symm.trans H; with_reducible exact H2_) | with_reducible exact H | (rw [hy372]; exact H) | exact H
           have Ny372 := Aside0.mk hy372
           clear hy372
           obtain ⟨y375, hy375⟩ : ∃ y_ : List Int, y_ = (([(l0_5.length : Int), 0, 0] : List Int)) := ⟨_, rfl⟩
           replace H : (if y372.length + y375.length < 17592186044416 then ((some (y372 ++ y375 : List Int)).bind fun y378 => (if y378.length + x4_24.length < 17592186044416 then ((some (y378 ++ x4_24 : List Int)).bind fun y381 => ((impl_intOf.f kj31 ((rd_T63 l0_5 0).f0) 3).bind fun t384 => ((impl_intOf.f kj31 (y381.length : Int) 2).bind fun t387 => ((impl_sum_over.f kj31 1 y381).bind fun t390 => ((impl_intOf.f kj31 t390 2).bind fun t391 => ((slices_Concat_int_int.f (([t384, t387, t391, y381] : List (List Int)))).bind fun t397 => (some t397))))))) else (none))) else (none)) = some r := by first | (rw [hy375]; with_reducible exact H) | (have H2_ := (Option.bind_some _ _).symm.trans H; rw [hy375]; with_reducible exact H2_) | (have H2_ := (Option.bind_some _ _).symm.trans H; with_reducible exact H2_) | with_reducible exact H | (rw [hy375]; exact H) | exact H
           have Ny375 := Aside0.mk hy375
           clear hy375
           by_cases c40 : y372.length + y375.length < 17592186044416
           ·rw [if_pos c40] at H
            have LMc40 := Aside0.mk c40
            clear c40
            obtain ⟨y378, hy378⟩ : ∃ y_ : List Int, y_ = (y372 ++ y375) := ⟨_, rfl⟩
            replace H : (if y378.length + x4_24.length < 17592186044416 then ((some (y378 ++ x4_24 : List Int)).bind fun y381 => ((impl_intOf.f kj31 ((rd_T63 l0_5 0).f0) 3).bind fun t384 => ((impl_intOf.f kj31 (y381.length : Int) 2).bind fun t387 => ((impl_sum_over.f kj31 1 y381).bind fun t390 => ((impl_intOf.f kj31 t390 2).bind fun t391 => ((slices_Concat_int_int.f (([t384, t387, t391, y381] : List (List Int)))).bind fun t397 => (some t397))))))) else (none)) = some r := by first | (rw [hy378]; with_reducible exact H) | (have H2_ := (Option.bind_some _ _).symm.trans H; rw [hy378]; with_reducible exact H2_) | (have H2_ := (Option.bind_some _ _).symm.trans H; with_reducible exact H2_) | with_reducible exact H | (rw [hy378]; exact H) | exact H
            have Ny378 := Aside0.mk hy378
            clear hy378
            by_cases c41 : y378.length + x4_24.length < 17592186044416
            ·rw [if_pos c41] at H
             have LMc41 := Aside0.mk c41
             clear c41
             obtain ⟨y381, hy381⟩ : ∃ y_ : List Int, y_ = (y378 ++ x4_24) := ⟨_, rfl⟩
             replace H : ((impl_intOf.f kj31 ((rd_T63 l0_5 0).f0) 3).bind fun t384 => ((impl_intOf.f kj31 (y381.length : Int) 2).bind fun t387 => ((impl_sum_over.f kj31 1 y381).bind fun t390 => ((impl_intOf.f kj31 t390 2).bind fun t391 => ((slices_Concat_int_int.f (([t384, t387, t391, y381] : List (List Int)))).bind fun t397 => (some t397)))))) = some r := by first | (rw [hy381]; with_reducible exact H) | (have H2_ := (Option.bind_some _ _).symm.trans H; rw [hy381]; with_reducible exact H2_) | (have H2_ := (Option.bind_some _ _).symm.trans H; with_reducible exact H2_) | with_reducible exact H | (rw [hy381]; exact H) | exact H
             have Ny381 := Aside0.mk hy381
             clear hy381
             replace H := tbe H
             obtain ⟨t384, A42, H⟩ := H
             replace H := tbe H
             obtain ⟨t387, A43, H⟩ := H
             replace H := tbe H
             obtain ⟨t390, A44, H⟩ := H
             replace H := tbe H
             obtain ⟨t391, A45, H⟩ := H
             obtain ⟨y394, hy394⟩ : ∃ y_ : List (List Int), y_ = (([t384, t387, t391, y381] : List (List Int))) := ⟨_, rfl⟩
             replace H : ((slices_Concat_int_int.f y394).bind fun t397 => (some t397)) = some r := by first | (rw [hy394]; with_reducible exact H) | (have H2_ := (Option.bind_some _ _).symm.trans H; rw [hy394]; with_reducible exact H2_) | (have H2_ := (Option.bind_some _ _).symm.trans H; with_reducible exact H2_) | with_reducible exact H | (rw [hy394]; exact H) | exact H
             have Ny394 := Aside0.mk hy394
             clear hy394
             replace H := tbe H
             obtain ⟨t397, A46, H⟩ := H
             obtain rfl := Option.some.inj H
             have hnb47 := NB343_345.out
             have hnc47 := NB345_343.out
             obtain ⟨hcz48_0, hcz48_1, hcz48_2, hcz48_3, hcz48_4, hcz48_5, hfz48_0, hfz48_1, hfz48_2, hfz48_3, hfz48_4, hfz48_5⟩ := cells6 BK343.out
             go_wp2_with (first | ((with_reducible refine gate_dst (N := 45) rfl ?_); refine Kd.R_lit (Kd.int .i64) _ 3 ?hg (N := 45) ?hd (xs := ([x7_31, a0_2, a0_3] : List Int)) (inner := [.int .i64 x7_31, .int .i64 a0_2, .int .i64 a0_3]) (ok := fun _ => True) (okp := fun _ => True) ?hr ?hp (fun _ hk => hk) trivial (Below.refl _ _) (Nat.le_refl _) (by simp) ?_; (case hd => rfl); (case hg => rfl); (case hr => first | (go_simp; done) | (go_simp; rfl)); (case hp => exact (Reps.one (show Kd.M (Kd.int .i64) _ _ _ x7_31 [.int .i64 x7_31] from rfl) (Reps.one (show Kd.M (Kd.int .i64) _ _ _ a0_2 [.int .i64 a0_2] from rfl) (Reps.one (show Kd.M (Kd.int .i64) _ _ _ a0_3 [.int .i64 a0_3] from rfl) (Reps.none _ _))))); intro v361 w49 ho50 hb hg_ hnew_; clear hg_ hnew_; (first | rw [← Ny360.out] at ho50 | (simp only [Int.reduceToNat] at ho50; rw [← Ny360.out] at ho50)); have HO362 := Aside0.mk (Kd.R_lower (Kd.R_new' ho50 (Kd.R_lt (tR HO_4.out))) (below_size zb)); replace HO_4 := Aside0.mk (Kd.R_elder' (tR HO_4.out) (Kd.R_base ho50) hb); replace BK343 := tBb BK343 hb; replace BK345 := tBb BK345 hb; replace HB := tBs HB hb; clear hb ho50; obtain ⟨hcz51_0, hcz51_1, hcz51_2, hcz51_3, hcz51_4, hcz51_5, hfz51_0, hfz51_1, hfz51_2, hfz51_3, hfz51_4, hfz51_5⟩ := cells6 BK343.out) | ((with_reducible refine gate_callee (f := 44) rfl ?_); refine goesL_ (some 49) rfl rfl Try.func44 (by kernel_rfl) rfl #[.int .i64 a0_4, .int .i64 2] rfl tq ?_; (with_reducible refine (impl_intOf.calls kj31 a0_4 2 t363 _ A36.out).mono ?_); rintro e w52 ⟨v364, rfl, ho0, hb⟩; have u_v364 := tsv Try.prog v364 ho0; refine ⟨_, rfl, ?_⟩; have HO365 := Aside0.mk (Kd.R_lower (Kd.R_new' (Kd.R_new' ho0 (Kd.R_lt (tR HO_4.out))) (Kd.R_lt (tR HO362.out))) (below_size zb)); replace HO_4 := Aside0.mk (Kd.R_elder' (tR HO_4.out) (Kd.R_base ho0) hb); replace HO362 := Aside0.mk (Kd.R_elder' (tR HO362.out) (Kd.R_base ho0) hb); replace BK343 := tBb BK343 hb; replace BK345 := tBb BK345 hb; replace HB := tBs HB hb; (try clear hb); (try clear hb2); (try clear hk); (try clear hi); (try clear ho0); obtain ⟨Ao54, co54, eo54⟩ := Kd.R_slice HO365.out; subst eo54) | ((with_reducible refine gate_builtin (b := .append) (xs := #[.tmp 46, .tmp 49]) rfl ?_); at_builtin; refine Kd.R_append_rows (Kd.int .i64) (w0 := w) w.heap.size rfl (.tmp 46) (.tmp 49) 26 3 (.int .i64 0) 8 rfl Try.underlying26 info3 rfl (by decide) (by omega) v361 y360 t363 _ _ _ (fun k_ => some k_ ≠ (u4 : Value).ownBlock ∧ some k_ ≠ (.slice Ao54 t363.length co54 : Value).ownBlock) (fun _ => False) rfl rfl ?aO ?aR (fun _ _ h => h) (fun _ h => h.elim) ?aF ?aB ?aS ?aL ?_; (case aR => repeat (first | exact (Kd.R_reads' HO365.out).2.2 | (with_reducible refine Kd.C_alloc ?_ _) | (with_reducible refine Kd.C_drewN ?_ _) | (with_reducible refine Kd.C_drew ?_))); (case aB => exact zb); (case aF => exact (fun k_ hk => ⟨Kd.fresh' (Kd.R_lt (tR HO_4.out)) k_ hk, Kd.fresh' (Kd.R_lt (tR HO365.out)) k_ hk⟩)); (case aO => exact (tRm HO362.out)); (case aS => exact (below_size zb)); (case aL => have := LMc37.out; omega); intro v367 w53 ho hb hg hat; rw [← Ny366.out] at ho; replace HO_4 := Aside0.mk (Kd.R_after (ok := (fun k_ => some k_ ≠ (.slice Ao54 t363.length co54 : Value).ownBlock)) (tRm HO_4.out) hg hat); replace BK343 := Aside0.mk (blk_grown (tH BK343.out) hg (Kd.R_ne HO362.out BK343.out (by decide))); replace BK345 := Aside0.mk (blk_grown (tH BK345.out) hg (Kd.R_ne HO362.out BK345.out (by decide))); replace HO365 := Aside0.mk (Kd.R_after (ok := (fun k_ => some k_ ≠ (u4 : Value).ownBlock)) (tRm HO365.out) hg hat); replace HB := Aside0.mk (hb); have HO368 := Aside0.mk (ho); clear HO362; clear ho hb hg hat; obtain ⟨hcz55_0, hcz55_1, hcz55_2, hcz55_3, hcz55_4, hcz55_5, hfz55_0, hfz55_1, hfz55_2, hfz55_3, hfz55_4, hfz55_5⟩ := cells6 BK345.out) | ((with_reducible refine gate_callee (f := 44) rfl ?_); refine goesL_ (some 54) rfl rfl Try.func44 (by kernel_rfl) rfl #[.int .i64 ((rd_T63 l0_5 0).f1), .int .i64 3] rfl tq ?_; (with_reducible refine (impl_intOf.calls kj31 ((rd_T63 l0_5 0).f1) 3 t369 _ A38.out).mono ?_); rintro e w56 ⟨v370, rfl, ho0, hb⟩; have u_v370 := tsv Try.prog v370 ho0; refine ⟨_, rfl, ?_⟩; have HO371 := Aside0.mk (Kd.R_lower (Kd.R_new' (Kd.R_new' (Kd.R_new' ho0 (Kd.R_lt (tR HO_4.out))) (Kd.R_lt (tR HO365.out))) (Kd.R_lt (tR HO368.out))) (below_size zb)); replace HO_4 := Aside0.mk (Kd.R_elder' (tR HO_4.out) (Kd.R_base ho0) hb); replace HO365 := Aside0.mk (Kd.R_elder' (tR HO365.out) (Kd.R_base ho0) hb); replace HO368 := Aside0.mk (Kd.R_elder' (tR HO368.out) (Kd.R_base ho0) hb); replace BK343 := tBb BK343 hb; replace BK345 := tBb BK345 hb; replace HB := tBs HB hb; (try clear hb); (try clear hb2); (try clear hk); (try clear hi); (try clear ho0); obtain ⟨Ao58, co58, eo58⟩ := Kd.R_slice HO371.out; subst eo58) | ((with_reducible refine gate_builtin (b := .append) (xs := #[.tmp 51, .tmp 54]) rfl ?_); at_builtin; refine Kd.R_append_rows (Kd.int .i64) (w0 := w) w.heap.size rfl (.tmp 51) (.tmp 54) 26 3 (.int .i64 0) 8 rfl Try.underlying26 info3 rfl (by decide) (by omega) v367 y366 t369 _ _ _ (fun k_ => some k_ ≠ (u4 : Value).ownBlock ∧ some k_ ≠ (.slice Ao54 t363.length co54 : Value).ownBlock ∧ some k_ ≠ (.slice Ao58 t369.length co58 : Value).ownBlock) (fun _ => False) rfl rfl ?aO ?aR (fun _ _ h => h) (fun _ h => h.elim) ?aF ?aB ?aS ?aL ?_; (case aR => repeat (first | exact (Kd.R_reads' HO371.out).2.2 | (with_reducible refine Kd.C_alloc ?_ _) | (with_reducible refine Kd.C_drewN ?_ _) | (with_reducible refine Kd.C_drew ?_))); (case aB => exact zb); (case aF => exact (fun k_ hk => ⟨Kd.fresh' (Kd.R_lt (tR HO_4.out)) k_ hk, Kd.fresh' (Kd.R_lt (tR HO365.out)) k_ hk, Kd.fresh' (Kd.R_lt (tR HO371.out)) k_ hk⟩)); (case aO => exact (tRm HO368.out)); (case aS => exact (below_size zb)); (case aL => have := LMc39.out; omega); intro v373 w57 ho hb hg hat; rw [← Ny372.out] at ho; replace HO_4 := Aside0.mk (Kd.R_after (ok := (fun k_ => some k_ ≠ (.slice Ao54 t363.length co54 : Value).ownBlock ∧ some k_ ≠ (.slice Ao58 t369.length co58 : Value).ownBlock)) (tRm HO_4.out) hg hat); replace BK343 := Aside0.mk (blk_grown (tH BK343.out) hg (Kd.R_ne HO368.out BK343.out (by decide))); replace BK345 := Aside0.mk (blk_grown (tH BK345.out) hg (Kd.R_ne HO368.out BK345.out (by decide))); replace HO365 := Aside0.mk (Kd.R_after (ok := (fun k_ => some k_ ≠ (u4 : Value).ownBlock ∧ some k_ ≠ (.slice Ao58 t369.length co58 : Value).ownBlock)) (tRm HO365.out) hg hat); replace HO371 := Aside0.mk (Kd.R_after (ok := (fun k_ => some k_ ≠ (u4 : Value).ownBlock ∧ some k_ ≠ (.slice Ao54 t363.length co54 : Value).ownBlock)) (tRm HO371.out) hg hat); replace HB := Aside0.mk (hb); have HO374 := Aside0.mk (ho); clear HO368; clear ho hb hg hat; obtain ⟨hcz59_0, hcz59_1, hcz59_2, hcz59_3, hcz59_4, hcz59_5, hfz59_0, hfz59_1, hfz59_2, hfz59_3, hfz59_4, hfz59_5⟩ := cells6 BK343.out) | ((with_reducible refine gate_dst (N := 60) rfl ?_); refine Kd.R_lit (Kd.int .i64) _ 3 ?hg (N := 60) ?hd (xs := ([(l0_5.length : Int), 0, 0] : List Int)) (inner := [.int .i64 (l0_5.length : Int), .int .i64 0, .int .i64 0]) (ok := fun _ => True) (okp := fun _ => True) ?hr ?hp (fun _ hk => hk) trivial (Below.refl _ _) (Nat.le_refl _) (by simp) ?_; (case hd => rfl); (case hg => rfl); (case hr => first | (go_simp; done) | (go_simp; rfl)); (case hp => exact (Reps.one (show Kd.M (Kd.int .i64) _ _ _ (l0_5.length : Int) [.int .i64 (l0_5.length : Int)] from rfl) (Reps.one (show Kd.M (Kd.int .i64) _ _ _ 0 [.int .i64 0] from rfl) (Reps.one (show Kd.M (Kd.int .i64) _ _ _ 0 [.int .i64 0] from rfl) (Reps.none _ _))))); intro v376 w60 ho61 hb hg_ hnew_; clear hg_ hnew_; (first | rw [← Ny375.out] at ho61 | (simp only [Int.reduceToNat] at ho61; rw [← Ny375.out] at ho61)); have HO377 := Aside0.mk (Kd.R_lower (Kd.R_new' (Kd.R_new' (Kd.R_new' (Kd.R_new' ho61 (Kd.R_lt (tR HO_4.out))) (Kd.R_lt (tR HO365.out))) (Kd.R_lt (tR HO371.out))) (Kd.R_lt (tR HO374.out))) (below_size zb)); replace HO_4 := Aside0.mk (Kd.R_elder' (tR HO_4.out) (Kd.R_base ho61) hb); replace HO365 := Aside0.mk (Kd.R_elder' (tR HO365.out) (Kd.R_base ho61) hb); replace HO371 := Aside0.mk (Kd.R_elder' (tR HO371.out) (Kd.R_base ho61) hb); replace HO374 := Aside0.mk (Kd.R_elder' (tR HO374.out) (Kd.R_base ho61) hb); replace BK343 := tBb BK343 hb; replace BK345 := tBb BK345 hb; replace HB := tBs HB hb; clear hb ho61; obtain ⟨Ao63, co63, eo63⟩ := Kd.R_slice HO377.out; subst eo63) | ((with_reducible refine gate_builtin (b := .append) (xs := #[.tmp 56, .tmp 60]) rfl ?_); at_builtin; refine Kd.R_append_rows (Kd.int .i64) (w0 := w) w.heap.size rfl (.tmp 56) (.tmp 60) 26 3 (.int .i64 0) 8 rfl Try.underlying26 info3 rfl (by decide) (by omega) v373 y372 y375 _ _ _ (fun k_ => some k_ ≠ (u4 : Value).ownBlock ∧ some k_ ≠ (.slice Ao54 t363.length co54 : Value).ownBlock ∧ some k_ ≠ (.slice Ao58 t369.length co58 : Value).ownBlock ∧ some k_ ≠ (.slice Ao63 y375.length co63 : Value).ownBlock) (fun _ => False) rfl rfl ?aO ?aR (fun _ _ h => h) (fun _ h => h.elim) ?aF ?aB ?aS ?aL ?_; (case aR => repeat (first | exact (Kd.R_reads' HO377.out).2.2 | (with_reducible refine Kd.C_alloc ?_ _) | (with_reducible refine Kd.C_drewN ?_ _) | (with_reducible refine Kd.C_drew ?_))); (case aB => exact zb); (case aF => exact (fun k_ hk => ⟨Kd.fresh' (Kd.R_lt (tR HO_4.out)) k_ hk, Kd.fresh' (Kd.R_lt (tR HO365.out)) k_ hk, Kd.fresh' (Kd.R_lt (tR HO371.out)) k_ hk, Kd.fresh' (Kd.R_lt (tR HO377.out)) k_ hk⟩)); (case aO => exact (tRm HO374.out)); (case aS => exact (below_size zb)); (case aL => have := LMc40.out; omega); intro v379 w62 ho hb hg hat; rw [← Ny378.out] at ho; replace HO_4 := Aside0.mk (Kd.R_after (ok := (fun k_ => some k_ ≠ (.slice Ao54 t363.length co54 : Value).ownBlock ∧ some k_ ≠ (.slice Ao58 t369.length co58 : Value).ownBlock ∧ some k_ ≠ (.slice Ao63 y375.length co63 : Value).ownBlock)) (tRm HO_4.out) hg hat); replace BK343 := Aside0.mk (blk_grown (tH BK343.out) hg (Kd.R_ne HO374.out BK343.out (by decide))); replace BK345 := Aside0.mk (blk_grown (tH BK345.out) hg (Kd.R_ne HO374.out BK345.out (by decide))); replace HO365 := Aside0.mk (Kd.R_after (ok := (fun k_ => some k_ ≠ (u4 : Value).ownBlock ∧ some k_ ≠ (.slice Ao58 t369.length co58 : Value).ownBlock ∧ some k_ ≠ (.slice Ao63 y375.length co63 : Value).ownBlock)) (tRm HO365.out) hg hat); replace HO371 := Aside0.mk (Kd.R_after (ok := (fun k_ => some k_ ≠ (u4 : Value).ownBlock ∧ some k_ ≠ (.slice Ao54 t363.length co54 : Value).ownBlock ∧ some k_ ≠ (.slice Ao63 y375.length co63 : Value).ownBlock)) (tRm HO371.out) hg hat); replace HO377 := Aside0.mk (Kd.R_after (ok := (fun k_ => some k_ ≠ (u4 : Value).ownBlock ∧ some k_ ≠ (.slice Ao54 t363.length co54 : Value).ownBlock ∧ some k_ ≠ (.slice Ao58 t369.length co58 : Value).ownBlock)) (tRm HO377.out) hg hat); replace HB := Aside0.mk (hb); have HO380 := Aside0.mk (ho); clear HO374; clear ho hb hg hat; obtain ⟨Ao65, co65, eo65⟩ := Kd.R_slice HO_4.out; subst eo65) | ((with_reducible refine gate_builtin (b := .append) (xs := #[.tmp 62, .tmp 63]) rfl ?_); at_builtin; refine Kd.R_append_rows (Kd.int .i64) (w0 := w) w.heap.size rfl (.tmp 62) (.tmp 63) 26 3 (.int .i64 0) 8 rfl Try.underlying26 info3 rfl (by decide) (by omega) v379 y378 x4_24 _ _ _ (fun k_ => some k_ ≠ (.slice Ao65 x4_24.length co65 : Value).ownBlock ∧ some k_ ≠ (.slice Ao54 t363.length co54 : Value).ownBlock ∧ some k_ ≠ (.slice Ao58 t369.length co58 : Value).ownBlock ∧ some k_ ≠ (.slice Ao63 y375.length co63 : Value).ownBlock) (fun _ => False) rfl rfl ?aO ?aR (fun _ _ h => h) (fun _ h => h.elim) ?aF ?aB ?aS ?aL ?_; (case aR => repeat (first | exact (Kd.R_reads' HO_4.out).2.2 | (with_reducible refine Kd.C_alloc ?_ _) | (with_reducible refine Kd.C_drewN ?_ _) | (with_reducible refine Kd.C_drew ?_))); (case aB => exact zb); (case aF => exact (fun k_ hk => ⟨Kd.fresh' (Kd.R_lt (tR HO_4.out)) k_ hk, Kd.fresh' (Kd.R_lt (tR HO365.out)) k_ hk, Kd.fresh' (Kd.R_lt (tR HO371.out)) k_ hk, Kd.fresh' (Kd.R_lt (tR HO377.out)) k_ hk⟩)); (case aO => exact (tR HO380.out)); (case aS => exact (below_size zb)); (case aL => have := LMc41.out; omega); intro v382 w64 ho hb hg hat; rw [← Ny381.out] at ho; replace HO_4 := Aside0.mk (Kd.R_after (ok := (fun k_ => some k_ ≠ (.slice Ao54 t363.length co54 : Value).ownBlock ∧ some k_ ≠ (.slice Ao58 t369.length co58 : Value).ownBlock ∧ some k_ ≠ (.slice Ao63 y375.length co63 : Value).ownBlock)) (tR HO_4.out) hg hat); replace BK343 := Aside0.mk (blk_grown (tH BK343.out) hg (Kd.R_ne HO380.out BK343.out (by decide))); replace BK345 := Aside0.mk (blk_grown (tH BK345.out) hg (Kd.R_ne HO380.out BK345.out (by decide))); replace HO365 := Aside0.mk (Kd.R_after (ok := (fun k_ => some k_ ≠ (.slice Ao65 x4_24.length co65 : Value).ownBlock ∧ some k_ ≠ (.slice Ao58 t369.length co58 : Value).ownBlock ∧ some k_ ≠ (.slice Ao63 y375.length co63 : Value).ownBlock)) (tR HO365.out) hg hat); replace HO371 := Aside0.mk (Kd.R_after (ok := (fun k_ => some k_ ≠ (.slice Ao65 x4_24.length co65 : Value).ownBlock ∧ some k_ ≠ (.slice Ao54 t363.length co54 : Value).ownBlock ∧ some k_ ≠ (.slice Ao63 y375.length co63 : Value).ownBlock)) (tR HO371.out) hg hat); replace HO377 := Aside0.mk (Kd.R_after (ok := (fun k_ => some k_ ≠ (.slice Ao65 x4_24.length co65 : Value).ownBlock ∧ some k_ ≠ (.slice Ao54 t363.length co54 : Value).ownBlock ∧ some k_ ≠ (.slice Ao58 t369.length co58 : Value).ownBlock)) (tR HO377.out) hg hat); replace HB := Aside0.mk (hb); have HO383 := Aside0.mk (ho); clear HO380; clear ho hb hg hat; obtain ⟨hcz66_0, hcz66_1, hcz66_2, hcz66_3, hcz66_4, hcz66_5, hfz66_0, hfz66_1, hfz66_2, hfz66_3, hfz66_4, hfz66_5⟩ := cells6 BK345.out) | ((with_reducible refine gate_callee (f := 44) rfl ?_); refine goesL_ (some 67) rfl rfl Try.func44 (by kernel_rfl) rfl #[.int .i64 ((rd_T63 l0_5 0).f0), .int .i64 3] rfl tq ?_; (with_reducible refine (impl_intOf.calls kj31 ((rd_T63 l0_5 0).f0) 3 t384 _ A42.out).mono ?_); rintro e w67 ⟨v385, rfl, ho0, hb⟩; have u_v385 := tsv Try.prog v385 ho0; refine ⟨_, rfl, ?_⟩; have HO386 := Aside0.mk (Kd.R_lower (Kd.R_new' (Kd.R_new' (Kd.R_new' (Kd.R_new' (Kd.R_new' ho0 (Kd.R_lt (tR HO_4.out))) (Kd.R_lt (tR HO365.out))) (Kd.R_lt (tR HO371.out))) (Kd.R_lt (tR HO377.out))) (Kd.R_lt (tR HO383.out))) (below_size zb)); replace HO_4 := Aside0.mk (Kd.R_elder' (tR HO_4.out) (Kd.R_base ho0) hb); replace HO365 := Aside0.mk (Kd.R_elder' (tR HO365.out) (Kd.R_base ho0) hb); replace HO371 := Aside0.mk (Kd.R_elder' (tR HO371.out) (Kd.R_base ho0) hb); replace HO377 := Aside0.mk (Kd.R_elder' (tR HO377.out) (Kd.R_base ho0) hb); replace HO383 := Aside0.mk (Kd.R_elder' (tR HO383.out) (Kd.R_base ho0) hb); replace BK343 := tBb BK343 hb; replace BK345 := tBb BK345 hb; replace HB := tBs HB hb; (try clear hb); (try clear hb2); (try clear hk); (try clear hi); (try clear ho0); obtain ⟨Ao68, co68, eo68⟩ := Kd.R_slice HO383.out; subst eo68) | ((with_reducible refine gate_callee (f := 44) rfl ?_); refine goesL_ (some 70) rfl rfl Try.func44 (by kernel_rfl) rfl #[.int .i64 (y381.length : Int), .int .i64 2] rfl tq ?_; (with_reducible refine (impl_intOf.calls kj31 (y381.length : Int) 2 t387 _ A43.out).mono ?_); rintro e w69 ⟨v388, rfl, ho0, hb⟩; have u_v388 := tsv Try.prog v388 ho0; refine ⟨_, rfl, ?_⟩; have HO389 := Aside0.mk (Kd.R_lower (Kd.R_new' (Kd.R_new' (Kd.R_new' (Kd.R_new' (Kd.R_new' (Kd.R_new' ho0 (Kd.R_lt (tR HO_4.out))) (Kd.R_lt (tR HO365.out))) (Kd.R_lt (tR HO371.out))) (Kd.R_lt (tR HO377.out))) (Kd.R_lt (tR HO383.out))) (Kd.R_lt (tR HO386.out))) (below_size zb)); replace HO_4 := Aside0.mk (Kd.R_elder' (tR HO_4.out) (Kd.R_base ho0) hb); replace HO365 := Aside0.mk (Kd.R_elder' (tR HO365.out) (Kd.R_base ho0) hb); replace HO371 := Aside0.mk (Kd.R_elder' (tR HO371.out) (Kd.R_base ho0) hb); replace HO377 := Aside0.mk (Kd.R_elder' (tR HO377.out) (Kd.R_base ho0) hb); replace HO383 := Aside0.mk (Kd.R_elder' (tR HO383.out) (Kd.R_base ho0) hb); replace HO386 := Aside0.mk (Kd.R_elder' (tR HO386.out) (Kd.R_base ho0) hb); replace BK343 := tBb BK343 hb; replace BK345 := tBb BK345 hb; replace HB := tBs HB hb; (try clear hb); (try clear hb2); (try clear hk); (try clear hi); (try clear ho0)) | ((with_reducible refine gate_callee (f := 46) rfl ?_); refine goesL_ (some 72) rfl rfl Try.func46 (by kernel_rfl) rfl #[.int .i64 1, .slice Ao68 y381.length co68] rfl tq ?_; (with_reducible refine (impl_sum_over.calls kj31 1 _ _ y381 t390 _ ?side1 ?side2 A44.out).mono ?_); (case side1 => repeat (first | exact (Kd.R_reads' HO383.out).2.2 | (with_reducible refine Kd.C_alloc ?_ _) | (with_reducible refine Kd.C_drewN ?_ _) | (with_reducible refine Kd.C_drew ?_))); (case side2 => exact (Kd.R_reads' HO383.out).2.1); rintro e w' ⟨rfl, ⟨nd, rfl⟩⟩; refine ⟨_, rfl, ?_⟩) | ((with_reducible refine gate_callee (f := 44) rfl ?_); refine goesL_ (some 73) rfl rfl Try.func44 (by kernel_rfl) rfl #[.int .i64 t390, .int .i64 2] rfl tq ?_; (with_reducible refine (impl_intOf.calls kj31 t390 2 t391 _ A45.out).mono ?_); rintro e w70 ⟨v392, rfl, ho0, hb⟩; have u_v392 := tsv Try.prog v392 ho0; refine ⟨_, rfl, ?_⟩; have HO393 := Aside0.mk (Kd.R_lower (Kd.R_new' (Kd.R_new' (Kd.R_new' (Kd.R_new' (Kd.R_new' (Kd.R_new' (Kd.R_new' ho0 (Kd.R_lt (tR HO_4.out))) (Kd.R_lt (tR HO365.out))) (Kd.R_lt (tR HO371.out))) (Kd.R_lt (tR HO377.out))) (Kd.R_lt (tR HO383.out))) (Kd.R_lt (tR HO386.out))) (Kd.R_lt (tR HO389.out))) (below_size zb)); replace HO_4 := Aside0.mk (Kd.R_elder' (tR HO_4.out) (Kd.R_base ho0) hb); replace HO365 := Aside0.mk (Kd.R_elder' (tR HO365.out) (Kd.R_base ho0) hb); replace HO371 := Aside0.mk (Kd.R_elder' (tR HO371.out) (Kd.R_base ho0) hb); replace HO377 := Aside0.mk (Kd.R_elder' (tR HO377.out) (Kd.R_base ho0) hb); replace HO383 := Aside0.mk (Kd.R_elder' (tR HO383.out) (Kd.R_base ho0) hb); replace HO386 := Aside0.mk (Kd.R_elder' (tR HO386.out) (Kd.R_base ho0) hb); replace HO389 := Aside0.mk (Kd.R_elder' (tR HO389.out) (Kd.R_base ho0) hb); replace BK343 := tBb BK343 hb; replace BK345 := tBb BK345 hb; replace HB := tBs HB hb; (try clear hb); (try clear hb2); (try clear hk); (try clear hi); (try clear ho0); obtain ⟨Ao71, co71, eo71⟩ := Kd.R_slice HO386.out; subst eo71; obtain ⟨Ao72, co72, eo72⟩ := Kd.R_slice HO389.out; subst eo72; obtain ⟨Ao73, co73, eo73⟩ := Kd.R_slice HO393.out; subst eo73) | ((with_reducible refine gate_dst (N := 75) rfl ?_); refine Kd.N_lit (Kd.slice 3 (Kd.int .i64)) _ 26 ?hg (N' := 75) ?hd (xs := ([t384, t387, t391, y381] : List (List Int))) (inner := [.slice Ao71 t384.length co71, .slice Ao72 t387.length co72, .slice Ao73 t391.length co73, .slice Ao68 y381.length co68]) (ok := (fun k_ => some k_ ≠ (.slice Ao65 x4_24.length co65 : Value).ownBlock ∧ some k_ ≠ (.slice Ao54 t363.length co54 : Value).ownBlock ∧ some k_ ≠ (.slice Ao58 t369.length co58 : Value).ownBlock ∧ some k_ ≠ (.slice Ao63 y375.length co63 : Value).ownBlock ∧ k_ ≠ gb343 ∧ k_ ≠ gb345)) (okp := (fun k_ => some k_ ≠ (.slice Ao65 x4_24.length co65 : Value).ownBlock ∧ some k_ ≠ (.slice Ao54 t363.length co54 : Value).ownBlock ∧ some k_ ≠ (.slice Ao58 t369.length co58 : Value).ownBlock ∧ some k_ ≠ (.slice Ao63 y375.length co63 : Value).ownBlock ∧ k_ ≠ gb343 ∧ k_ ≠ gb345)) ?hr ?hp (fun _ hk => hk) ((show ∀ k_, w70.heap.size ≤ k_ → (fun k_ => some k_ ≠ (.slice Ao65 x4_24.length co65 : Value).ownBlock ∧ some k_ ≠ (.slice Ao54 t363.length co54 : Value).ownBlock ∧ some k_ ≠ (.slice Ao58 t369.length co58 : Value).ownBlock ∧ some k_ ≠ (.slice Ao63 y375.length co63 : Value).ownBlock ∧ k_ ≠ gb343 ∧ k_ ≠ gb345) k_ from fun k_ hk => ⟨Kd.fresh' (Kd.R_lt (tR HO_4.out)) k_ hk, Kd.fresh' (Kd.R_lt (tR HO365.out)) k_ hk, Kd.fresh' (Kd.R_lt (tR HO371.out)) k_ hk, Kd.fresh' (Kd.R_lt (tR HO377.out)) k_ hk, tfB BK343 k_ hk, tfB BK345 k_ hk⟩) _ (Nat.le_refl _)) (Below.refl _ _) (Nat.le_refl _) (by simp) ?_; (case hd => rfl); (case hg => rfl); (case hr => first | (go_simp; done) | (go_simp; rfl)); (case hp => exact (Reps.one (show Kd.FK (Kd.slice 3 (Kd.int .i64)) _ _ t384 [.slice Ao71 t384.length co71] from (Kd.FK_slice_mk (Kd.R_reads' (Kd.R_mono (ok' := (fun k_ => some k_ ≠ (.slice Ao65 x4_24.length co65 : Value).ownBlock ∧ some k_ ≠ (.slice Ao54 t363.length co54 : Value).ownBlock ∧ some k_ ≠ (.slice Ao58 t369.length co58 : Value).ownBlock ∧ some k_ ≠ (.slice Ao63 y375.length co63 : Value).ownBlock ∧ k_ ≠ gb343 ∧ k_ ≠ gb345)) (Kd.R_types (Kd.R_types (HO386.out) BK343.out (by decide)) BK345.out (by decide)) (fun k_ hk => ⟨hk.1.1.1.1.1.1.1.1.2, ⟨hk.1.1.1.1.1.1.1.2, ⟨hk.1.1.1.1.1.1.2, ⟨hk.1.1.1.1.1.2, ⟨hk.1.2, hk.2⟩⟩⟩⟩⟩))).2.1 (Kd.R_F (Kd.R_mono (ok' := (fun k_ => some k_ ≠ (.slice Ao65 x4_24.length co65 : Value).ownBlock ∧ some k_ ≠ (.slice Ao54 t363.length co54 : Value).ownBlock ∧ some k_ ≠ (.slice Ao58 t369.length co58 : Value).ownBlock ∧ some k_ ≠ (.slice Ao63 y375.length co63 : Value).ownBlock ∧ k_ ≠ gb343 ∧ k_ ≠ gb345)) (Kd.R_types (Kd.R_types (HO386.out) BK343.out (by decide)) BK345.out (by decide)) (fun k_ hk => ⟨hk.1.1.1.1.1.1.1.1.2, ⟨hk.1.1.1.1.1.1.1.2, ⟨hk.1.1.1.1.1.1.2, ⟨hk.1.1.1.1.1.2, ⟨hk.1.2, hk.2⟩⟩⟩⟩⟩))))) (Reps.one (show Kd.FK (Kd.slice 3 (Kd.int .i64)) _ _ t387 [.slice Ao72 t387.length co72] from (Kd.FK_slice_mk (Kd.R_reads' (Kd.R_mono (ok' := (fun k_ => some k_ ≠ (.slice Ao65 x4_24.length co65 : Value).ownBlock ∧ some k_ ≠ (.slice Ao54 t363.length co54 : Value).ownBlock ∧ some k_ ≠ (.slice Ao58 t369.length co58 : Value).ownBlock ∧ some k_ ≠ (.slice Ao63 y375.length co63 : Value).ownBlock ∧ k_ ≠ gb343 ∧ k_ ≠ gb345)) (Kd.R_types (Kd.R_types (HO389.out) BK343.out (by decide)) BK345.out (by decide)) (fun k_ hk => ⟨hk.1.1.1.1.1.1.1.1.2, ⟨hk.1.1.1.1.1.1.1.2, ⟨hk.1.1.1.1.1.1.2, ⟨hk.1.1.1.1.1.2, ⟨hk.1.2, hk.2⟩⟩⟩⟩⟩))).2.1 (Kd.R_F (Kd.R_mono (ok' := (fun k_ => some k_ ≠ (.slice Ao65 x4_24.length co65 : Value).ownBlock ∧ some k_ ≠ (.slice Ao54 t363.length co54 : Value).ownBlock ∧ some k_ ≠ (.slice Ao58 t369.length co58 : Value).ownBlock ∧ some k_ ≠ (.slice Ao63 y375.length co63 : Value).ownBlock ∧ k_ ≠ gb343 ∧ k_ ≠ gb345)) (Kd.R_types (Kd.R_types (HO389.out) BK343.out (by decide)) BK345.out (by decide)) (fun k_ hk => ⟨hk.1.1.1.1.1.1.1.1.2, ⟨hk.1.1.1.1.1.1.1.2, ⟨hk.1.1.1.1.1.1.2, ⟨hk.1.1.1.1.1.2, ⟨hk.1.2, hk.2⟩⟩⟩⟩⟩))))) (Reps.one (show Kd.FK (Kd.slice 3 (Kd.int .i64)) _ _ t391 [.slice Ao73 t391.length co73] from (Kd.FK_slice_mk (Kd.R_reads' (Kd.R_mono (ok' := (fun k_ => some k_ ≠ (.slice Ao65 x4_24.length co65 : Value).ownBlock ∧ some k_ ≠ (.slice Ao54 t363.length co54 : Value).ownBlock ∧ some k_ ≠ (.slice Ao58 t369.length co58 : Value).ownBlock ∧ some k_ ≠ (.slice Ao63 y375.length co63 : Value).ownBlock ∧ k_ ≠ gb343 ∧ k_ ≠ gb345)) (Kd.R_types (Kd.R_types (HO393.out) BK343.out (by decide)) BK345.out (by decide)) (fun k_ hk => ⟨hk.1.1.1.1.1.1.1.1.2, ⟨hk.1.1.1.1.1.1.1.2, ⟨hk.1.1.1.1.1.1.2, ⟨hk.1.1.1.1.1.2, ⟨hk.1.2, hk.2⟩⟩⟩⟩⟩))).2.1 (Kd.R_F (Kd.R_mono (ok' := (fun k_ => some k_ ≠ (.slice Ao65 x4_24.length co65 : Value).ownBlock ∧ some k_ ≠ (.slice Ao54 t363.length co54 : Value).ownBlock ∧ some k_ ≠ (.slice Ao58 t369.length co58 : Value).ownBlock ∧ some k_ ≠ (.slice Ao63 y375.length co63 : Value).ownBlock ∧ k_ ≠ gb343 ∧ k_ ≠ gb345)) (Kd.R_types (Kd.R_types (HO393.out) BK343.out (by decide)) BK345.out (by decide)) (fun k_ hk => ⟨hk.1.1.1.1.1.1.1.1.2, ⟨hk.1.1.1.1.1.1.1.2, ⟨hk.1.1.1.1.1.1.2, ⟨hk.1.1.1.1.1.2, ⟨hk.1.2, hk.2⟩⟩⟩⟩⟩))))) (Reps.one (show Kd.FK (Kd.slice 3 (Kd.int .i64)) _ _ y381 [.slice Ao68 y381.length co68] from (Kd.FK_slice_mk (Kd.R_reads' (Kd.R_mono (ok' := (fun k_ => some k_ ≠ (.slice Ao65 x4_24.length co65 : Value).ownBlock ∧ some k_ ≠ (.slice Ao54 t363.length co54 : Value).ownBlock ∧ some k_ ≠ (.slice Ao58 t369.length co58 : Value).ownBlock ∧ some k_ ≠ (.slice Ao63 y375.length co63 : Value).ownBlock ∧ k_ ≠ gb343 ∧ k_ ≠ gb345)) (Kd.R_types (Kd.R_types (HO383.out) BK343.out (by decide)) BK345.out (by decide)) (fun k_ hk => ⟨hk.1.1.1.1.1.1, ⟨hk.1.1.1.1.1.2.1, ⟨hk.1.1.1.1.1.2.2.1, ⟨hk.1.1.1.1.1.2.2.2, ⟨hk.1.2, hk.2⟩⟩⟩⟩⟩))).2.1 (Kd.R_F (Kd.R_mono (ok' := (fun k_ => some k_ ≠ (.slice Ao65 x4_24.length co65 : Value).ownBlock ∧ some k_ ≠ (.slice Ao54 t363.length co54 : Value).ownBlock ∧ some k_ ≠ (.slice Ao58 t369.length co58 : Value).ownBlock ∧ some k_ ≠ (.slice Ao63 y375.length co63 : Value).ownBlock ∧ k_ ≠ gb343 ∧ k_ ≠ gb345)) (Kd.R_types (Kd.R_types (HO383.out) BK343.out (by decide)) BK345.out (by decide)) (fun k_ hk => ⟨hk.1.1.1.1.1.1, ⟨hk.1.1.1.1.1.2.1, ⟨hk.1.1.1.1.1.2.2.1, ⟨hk.1.1.1.1.1.2.2.2, ⟨hk.1.2, hk.2⟩⟩⟩⟩⟩))))) (Reps.none _ _)))))); intro v395 w74 ho75 hb hg_ hnew_; clear hg_ hnew_; (first | rw [← Ny394.out] at ho75 | (simp only [Int.reduceToNat] at ho75; rw [← Ny394.out] at ho75)); replace HO_4 := tRb HO_4 hb; replace HO365 := tRb HO365 hb; replace HO371 := tRb HO371 hb; replace HO377 := tRb HO377 hb; have HO396 := tNl ho75 HB; replace BK343 := tBb BK343 hb; replace BK345 := tBb BK345 hb; replace HB := tBs HB hb; clear HO383 HO386 HO389 HO393; clear hb ho75; obtain ⟨Ao76, co76, eo76⟩ := Kd.N_slice HO396.out; subst eo76) | ((with_reducible refine gate_callee (f := 45) rfl ?_); refine goesL_ (some 76) rfl rfl Try.func45 (by kernel_rfl) rfl #[.slice Ao76 y394.length co76] rfl tq ?_; (with_reducible refine (slices_Concat_int_int.calls _ _ y394 t397 _ ?side1 ?side2 A46.out).mono ?_); (case side1 => repeat (first | exact (Kd.N_reads' HO396.out).2.2 | (with_reducible refine Kd.C_alloc ?_ _) | (with_reducible refine Kd.C_drewN ?_ _) | (with_reducible refine Kd.C_drew ?_))); (case side2 => exact (Kd.N_reads' HO396.out).2.1); rintro e w77 ⟨v398, rfl, ho0, hb⟩; have u_v398 := tsv Try.prog v398 ho0; refine ⟨_, rfl, ?_⟩; replace HO396 := Aside0.mk (Kd.N_elder' (tN HO396.out) (Kd.R_base ho0) hb); have HO399 := Aside0.mk (Kd.R_lower (Kd.R_new' (Kd.R_new' (Kd.R_new' (Kd.R_new' ho0 (Kd.R_lt (tR HO_4.out))) (Kd.R_lt (tR HO365.out))) (Kd.R_lt (tR HO371.out))) (Kd.R_lt (tR HO377.out))) (below_size zb)); replace HO_4 := Aside0.mk (Kd.R_elder' (tR HO_4.out) (Kd.R_base ho0) hb); replace HO365 := Aside0.mk (Kd.R_elder' (tR HO365.out) (Kd.R_base ho0) hb); replace HO371 := Aside0.mk (Kd.R_elder' (tR HO371.out) (Kd.R_base ho0) hb); replace HO377 := Aside0.mk (Kd.R_elder' (tR HO377.out) (Kd.R_base ho0) hb); replace BK343 := tBb BK343 hb; replace BK345 := tBb BK345 hb; replace HB := tBs HB hb; (try clear hb); (try clear hb2); (try clear hk); (try clear hi); (try clear ho0)))
             go_ret
             exact ⟨_, by first | rfl | (simp [errW_none, errW_some] <;> rfl) | (simp [*, errW_none, errW_some] <;> rfl), tRm HO399.out, zb⟩
            ·rw [if_neg c41] at H
             exact absurd H (by simp)
           ·rw [if_neg c40] at H
            exact absurd H (by simp)
          ·rw [if_neg c39] at H
           exact absurd H (by simp)
         ·rw [if_neg c37] at H
          exact absurd H (by simp)
 ·rw [if_neg c2] at H
  exact absurd H (by simp)

end Go.Proofs.Ythoioccmnphfgaa.G

namespace Go.Proofs.Ythoioccmnphfgaa.G
open Go.RowKit Go.Proofs.YthoioccmnphfgaaW.PrintWords Go.Proofs.YthoioccmnphfgaaW.PrintLast Go.Proofs.YthoioccmnphfgaaW.PrintMore
attribute [local go_sem] max2_int min2_int max_two min_two max_three min_three max_four min_four   -- for this text's walks alone
set_option linter.unusedVariables false
set_option linter.unusedSimpArgs false

def impl_sizeOf.l0 : Nat → Int → List (S46) → Int → Int → Option (Int)
 | 0, _, _, _, _ => none
 | k + 1, x3, x6, x7, x8 => if x8 < x7 then (if 0 ≤ x8 then (if x8 < (x6.length : Int) then ((impl_Batch_bytesOf.f k ((rd_T46 x6 x8).f0) ((rd_T46 x6 x8).f1) ((rd_T46 x6 x8).f2) ((rd_T46 x6 x8).f3) ((rd_T46 x6 x8).f4) ((rd_T46 x6 x8).f5)).bind fun t402 => (impl_sizeOf.l0 k (wrap64 (x3 + (t402.length : Int))) x6 x7 (wrap64 (x8 + 1)))) else (none)) else (none)) else (some x3)
def impl_sizeOf.f (k : Nat) (l0 : List (S46)) : Option (Int) := impl_sizeOf.l0 k 0 l0 (l0.length : Int) 0
set_option maxHeartbeats 8000000 in
set_option maxRecDepth 100000 in
theorem impl_sizeOf.calls (k : Nat) (A0 : Option Addr) (c0 : Nat) (l0 : List (S46)) (r : Int) (w : World) (hr0 : Kd.C k46 w A0 l0.length l0) (hc0 : l0.length ≤ c0) (h : impl_sizeOf.f k l0 = some r) :
  Calls Try.prog 22 #[.slice A0 l0.length c0] w fun e w' => e = .returned (.int .i64 r) ∧ Below w.heap.size w w' := by
 have hu46 := Try.underlying46
 have HR0 := Aside0.mk hr0
 have HC0 := Aside0.mk hc0
 clear hr0 hc0
 have HB := Aside0.mk (Below.refl w.heap.size w)
 have H : (impl_sizeOf.l0 k 0 l0 (l0.length : Int) 0) = some r := h
 clear h
 have H' := Aside0.mk H
 clear H
 go_enter Try.func22, Try.ntmps22
 go_wp2
 go_loopg [3, 8] k (fun kq v3 v8 w' => ∃ (x3_1 : Int) (x8_1 : Int), v3 = .int .i64 x3_1 ∧ v8 = .int .i64 x8_1 ∧ Aside0 (impl_sizeOf.l0 kq x3_1 l0 (l0.length : Int) x8_1 = some r) ∧ Aside0 (kq ≤ k) ∧ Aside0 (Below w.heap.size w w'))
 case atStart => exact ⟨(0), (0), tr, tr, H', ⟨Nat.le_refl _⟩, ⟨zb⟩⟩
 case round =>
  clear H'
  obtain ⟨x3_1, x8_1, rfl, rfl, HA, HK1, HB⟩ := hrel
  cases gk with
  | zero => exact absurd HA.out (by simp [impl_sizeOf.l0])
  | succ k1 =>
   have H := HA.out
   clear HA
   simp only [impl_sizeOf.l0] at H
   by_cases c2 : x8_1 < (l0.length : Int)
   ·rw [if_pos c2] at H
    have c2b0 : decide (x8_1 < (l0.length : Int)) = true := decide_eq_true c2
    clear c2
    by_cases c3 : 0 ≤ x8_1
    ·rw [if_pos c3] at H
     have c3b0 : decide (0 ≤ x8_1) = true := decide_eq_true c3
     clear c3
     by_cases c4 : x8_1 < (l0.length : Int)
     ·rw [if_pos c4] at H
      have c4b0 : decide (x8_1 < (l0.length : Int)) = true := decide_eq_true c4
      clear c4
      replace H := tbe H
      obtain ⟨t402, A5, H⟩ := H
      have H' := Aside0.mk H
      clear H
      have p400 : 0 ≤ (x8_1 : Int) := td
      have q400 : x8_1 < (l0.length : Int) := td
      obtain ⟨ad400, A400_5, c400_5, e400, hx400_0, hx400_1, hx400_2, hx400_3, hx400_4, hx400_5, hl400_5, hi400_5⟩ := at_T46 HR0.out x8_1 p400 q400
      cases e400
      replace hx400_0 := tcl HB hx400_0
      replace hx400_1 := tcl HB hx400_1
      replace hx400_2 := tcl HB hx400_2
      replace hx400_3 := tcl HB hx400_3
      replace hx400_4 := tcl HB hx400_4
      replace hx400_5 := tcl HB hx400_5
      have HR400_5 := Aside0.mk hi400_5
      have HC400_5 := Aside0.mk hl400_5
      clear hi400_5 hl400_5
      replace p400 := eq_true p400
      replace q400 := eq_true q400
      go_wp2_with (first | ((with_reducible refine gate_dst (N := 5) rfl ?_); refine box_event ?hg (N := 5) ?hd (cs := #[.bool false, .bool false, .int .i64 0, .int .i64 0, .int .i64 0, .slice none 0 0]) (t := 46) ?hr ?_; (case hd => rfl); (case hg => rfl); (case hr => first | (go_simp; done) | (go_simp; rfl)); intro gb401 hg w6 hbox hb; have BK401 := Aside0.mk (hbox); have GW401 := tge HB hg; have GE401 := tge HB hg; replace HB := tBs HB hb; clear hb hbox hg; obtain ⟨hcz7_0, hcz7_1, hcz7_2, hcz7_3, hcz7_4, hcz7_5, hfz7_0, hfz7_1, hfz7_2, hfz7_3, hfz7_4, hfz7_5⟩ := cells6 BK401.out) | ((with_reducible refine gate_callee (f := 25) rfl ?_); refine goesL_ (some 14) rfl rfl Try.func25 (by kernel_rfl) rfl #[.agg #[.bool ((rd_T46 l0 x8_1).f0), .bool ((rd_T46 l0 x8_1).f1), .int .i64 ((rd_T46 l0 x8_1).f2), .int .i64 ((rd_T46 l0 x8_1).f3), .int .i64 ((rd_T46 l0 x8_1).f4), .slice A400_5 ((rd_T46 l0 x8_1).f5).length c400_5]] rfl tq ?_; (with_reducible refine (impl_Batch_bytesOf.calls k1 ((rd_T46 l0 x8_1).f0) ((rd_T46 l0 x8_1).f1) ((rd_T46 l0 x8_1).f2) ((rd_T46 l0 x8_1).f3) ((rd_T46 l0 x8_1).f4) _ _ ((rd_T46 l0 x8_1).f5) t402 _ ?side1 ?side2 A5.out).mono ?_); (case side1 => exact Kd.C_below HR400_5.out zb); (case side2 => exact HC400_5.out); rintro e w8 ⟨v403, rfl, ho0, hb⟩; have u_v403 := tsv Try.prog v403 ho0; refine ⟨_, rfl, ?_⟩; have HO404 := tRl ho0 HB; replace BK401 := tBp (o' := .cells #[.bool ((rd_T46 l0 x8_1).f0), .bool ((rd_T46 l0 x8_1).f1), .int .i64 ((rd_T46 l0 x8_1).f2), .int .i64 ((rd_T46 l0 x8_1).f3), .int .i64 ((rd_T46 l0 x8_1).f4), .slice A400_5 ((rd_T46 l0 x8_1).f5).length c400_5] 46 (0, 0)) BK401 hb; replace HB := tBs HB hb; (try clear hb); (try clear hb2); (try clear hk); (try clear hi); (try clear ho0); obtain ⟨Ao9, co9, eo9⟩ := Kd.R_slice HO404.out; subst eo9))
      go_roundg k1
      case measure => have := HK1.out; omega
      case rel => exact ⟨(wrap64 (x3_1 + (t402.length : Int))), (wrap64 (x8_1 + 1)), tr, tr, H', ⟨by have := HK1.out; omega⟩, ⟨zb⟩⟩
     ·rw [if_neg c4] at H
      exact absurd H (by simp)
    ·rw [if_neg c3] at H
     exact absurd H (by simp)
   ·rw [if_neg c2] at H
    have c2b0 : decide (x8_1 < (l0.length : Int)) = false := decide_eq_false c2
    clear c2
    obtain rfl := Option.some.inj H
    go_wp2
    go_ret
    exact ⟨by first | rfl | (simp [errW_none, errW_some] <;> rfl) | (simp [*, errW_none, errW_some] <;> rfl), zb⟩

end Go.Proofs.Ythoioccmnphfgaa.G

namespace Go.Proofs.Ythoioccmnphfgaa.G
open Go.RowKit Go.Proofs.YthoioccmnphfgaaW.PrintWords Go.Proofs.YthoioccmnphfgaaW.PrintLast Go.Proofs.YthoioccmnphfgaaW.PrintMore
attribute [local go_sem] max2_int min2_int max_two min_two max_three min_three max_four min_four   -- for this text's walks alone
set_option linter.unusedVariables false
set_option linter.unusedSimpArgs false

def spec_l1Fold.f (a0 : Int) : Option (Int) := if a0 < 0 then (some (wrap64 ((wrap64 ((-2) * a0)) - 1))) else (some (wrap64 (2 * a0)))
set_option maxHeartbeats 8000000 in
set_option maxRecDepth 100000 in
theorem spec_l1Fold.calls (a0 : Int) (r : Int) (w : World) (h : spec_l1Fold.f a0 = some r) :
  Calls Try.prog 89 #[.int .i64 a0] w fun e w' => e = .returned (.int .i64 r) ∧ Drawn0 w w' := by
 have H : (if a0 < 0 then (some (wrap64 ((wrap64 ((-2) * a0)) - 1))) else (some (wrap64 (2 * a0)))) = some r := h
 clear h
 by_cases c2 : a0 < 0
 ·rw [if_pos c2] at H
  have c2b0 : decide (a0 < 0) = true := decide_eq_true c2
  clear c2
  obtain rfl := Option.some.inj H
  go_enter Try.func89, Try.ntmps89
  go_wp2
  go_ret
  exact ⟨by first | rfl | (simp; done) | (simp [*]; done), by repeat (first | exact Drawn0.refl _ | apply Drawn0.step)⟩
 ·rw [if_neg c2] at H
  have c2b0 : decide (a0 < 0) = false := decide_eq_false c2
  clear c2
  obtain rfl := Option.some.inj H
  go_enter Try.func89, Try.ntmps89
  go_wp2
  go_ret
  exact ⟨by first | rfl | (simp; done) | (simp [*]; done), by repeat (first | exact Drawn0.refl _ | apply Drawn0.step)⟩

def spec_l1Bytes.l0 : Nat → Int → List Int → Option (List Int)
 | 0, _, _ => none
 | k + 1, x3, x4 => if x3 > 127 then (if x4.length < 17592186044416 then (spec_l1Bytes.l0 k (wrap64 (Int.tdiv x3 128)) (x4 ++ [wrap64 (128 + (Int.tmod x3 128))])) else (none)) else (if x4.length < 17592186044416 then (some (x4 ++ [x3])) else (none))
def spec_l1Bytes.f (k : Nat) (a0 : Int) : Option (List Int) := (spec_l1Fold.f a0).bind fun t409 => (spec_l1Bytes.l0 k t409 (([] : List Int)))
set_option maxHeartbeats 8000000 in
set_option maxRecDepth 100000 in
theorem spec_l1Bytes.calls (k : Nat) (a0 : Int) (r : List Int) (w : World) (h : spec_l1Bytes.f k a0 = some r) :
  Calls Try.prog 83 #[.int .i64 a0] w fun e w' => ∃ v0_ : Value, e = .returned (v0_) ∧ Kd.R (Kd.int .i64) 3 w' w.heap.size (fun _ => True) v0_ r ∧ Below w.heap.size w w' := by
 have HB := Aside0.mk (Below.refl w.heap.size w)
 have H : ((spec_l1Fold.f a0).bind fun t409 => (spec_l1Bytes.l0 k t409 (([] : List Int)))) = some r := h
 clear h
 replace H := tbe H
 obtain ⟨t409, A2, H⟩ := H
 obtain ⟨y410, hy410⟩ : ∃ y_ : List Int, y_ = (([] : List Int)) := ⟨_, rfl⟩
 replace H : (spec_l1Bytes.l0 k t409 y410) = some r := by first | (rw [hy410]; with_reducible exact H) | (have H2_ := (Option.bind_some _ _).symm.trans H; rw [hy410]; with_reducible exact H2_) | (have H2_ := (Option.bind_some _ _).symm.trans H; with_reducible exact H2_) | with_reducible exact H | (rw [hy410]; exact H) | exact H
 have Ny410 := Aside0.mk hy410
 clear hy410
 have H' := Aside0.mk H
 clear H
 go_enter Try.func83, Try.ntmps83
 go_wp2_with (first | ((with_reducible refine gate_callee (f := 89) rfl ?_); refine goesL_ (some 6) rfl rfl Try.func89 (by kernel_rfl) rfl #[.int .i64 a0] rfl tq ?_; (with_reducible refine (spec_l1Fold.calls a0 t409 _ A2.out).mono ?_); rintro e w' ⟨rfl, ⟨nd, rfl⟩⟩; refine ⟨_, rfl, ?_⟩) | ((with_reducible refine gate_dst (N := 7) rfl ?_); refine Kd.R_lit (Kd.int .i64) _ 3 ?hg (N := 7) ?hd (xs := ([] : List Int)) (inner := []) (ok := fun _ => True) (okp := fun _ => True) ?hr ?hp (fun _ hk => hk) trivial (Below.refl _ _) (Nat.le_refl _) (by simp) ?_; (case hd => rfl); (case hg => rfl); (case hr => first | (go_simp; done) | (go_simp; rfl)); (case hp => exact (Reps.none _ _)); intro v411 w3 ho4 hb hg_ hnew_; clear hg_ hnew_; (first | rw [← Ny410.out] at ho4 | (simp only [Int.reduceToNat] at ho4; rw [← Ny410.out] at ho4)); have HO412 := tRl ho4 HB; replace HB := tBs HB hb; clear hb ho4))
 go_loopg [3, 4] k (fun kq v3 v4 w' => ∃ (x3_1 : Int) (x4_1 : List Int), v3 = .int .i64 x3_1 ∧ Aside0 (spec_l1Bytes.l0 kq x3_1 x4_1 = some r) ∧ Aside0 (kq ≤ k) ∧ Aside0 (Kd.R (Kd.int .i64) 3 w' w.heap.size (fun _ => True) v4 x4_1) ∧ Aside0 (Below w.heap.size w w'))
 case atStart => exact ⟨(t409), (y410), tr, H', ⟨Nat.le_refl _⟩, ⟨tR HO412.out⟩, ⟨zb⟩⟩
 case round =>
  clear H'
  obtain ⟨x3_1, x4_1, rfl, HA, HK1, HO_4, HB⟩ := hrel
  cases gk with
  | zero => exact absurd HA.out (by simp [spec_l1Bytes.l0])
  | succ k1 =>
   have H := HA.out
   clear HA
   simp only [spec_l1Bytes.l0] at H
   by_cases c5 : x3_1 > 127
   ·rw [if_pos c5] at H
    have c5b0 : decide (127 < x3_1) = true := decide_eq_true c5
    clear c5
    by_cases c6 : x4_1.length < 17592186044416
    ·rw [if_pos c6] at H
     have LMc6 := Aside0.mk c6
     clear c6
     obtain ⟨y413, hy413⟩ : ∃ y_ : List Int, y_ = (x4_1 ++ [wrap64 (128 + (Int.tmod x3_1 128))]) := ⟨_, rfl⟩
     replace H : (spec_l1Bytes.l0 k1 (wrap64 (Int.tdiv x3_1 128)) y413) = some r := by first | (rw [hy413]; with_reducible exact H) | (have H2_ := (Option.bind_some _ _).symm.trans H; rw [hy413]; with_reducible exact H2_) | (have H2_ := (Option.bind_some _ _).symm.trans H; with_reducible exact H2_) | with_reducible exact H | (rw [hy413]; exact H) | exact H
     have Ny413 := Aside0.mk hy413
     clear hy413
     have H' := Aside0.mk H
     clear H
     go_wp2_with (first | ((with_reducible refine gate_builtin (b := .append) (xs := #[.tmp 10, .tmp 14]) rfl ?_); at_builtin; refine Kd.R_append (Kd.int .i64) (w0 := w) w.heap.size rfl (.tmp 10) (.tmp 14) 26 3 (.int .i64 0) 8 rfl Try.underlying26 info3 rfl (by decide) (by omega) u4 x4_1 (wrap64 (128 + (Int.tmod x3_1 128))) [.int .i64 (wrap64 (128 + (Int.tmod x3_1 128)))] (fun _ => True) (fun _ => False) rfl rfl ?aP (fun _ hk => hk.elim) ?aF ?aO ?aB ?aS ?aL ?_; (case aP => exact rfl); (case aB => exact zb); (case aF => exact (fun _ _ => trivial)); (case aO => exact (tR HO_4.out)); (case aS => exact (below_size zb)); (case aL => have := LMc6.out; omega); intro v414 w7 ho hb hg hat; rw [← Ny413.out] at ho; replace HB := Aside0.mk (hb); have HO415 := Aside0.mk (ho); clear HO_4; clear ho hb hg hat))
     go_roundg k1
     case measure => have := HK1.out; omega
     case rel => exact ⟨(wrap64 (Int.tdiv x3_1 128)), (y413), tr, H', ⟨by have := HK1.out; omega⟩, ⟨tR HO415.out⟩, ⟨zb⟩⟩
    ·rw [if_neg c6] at H
     exact absurd H (by simp)
   ·rw [if_neg c5] at H
    have c5b0 : decide (127 < x3_1) = false := decide_eq_false c5
    clear c5
    by_cases c8 : x4_1.length < 17592186044416
    ·rw [if_pos c8] at H
     have LMc8 := Aside0.mk c8
     clear c8
     obtain ⟨y416, hy416⟩ : ∃ y_ : List Int, y_ = (x4_1 ++ [x3_1]) := ⟨_, rfl⟩
     replace H : (some y416) = some r := by first | (rw [hy416]; with_reducible exact H) | (have H2_ := (Option.bind_some _ _).symm.trans H; rw [hy416]; with_reducible exact H2_) | (have H2_ := (Option.bind_some _ _).symm.trans H; with_reducible exact H2_) | with_reducible exact H | (rw [hy416]; exact H) | exact H
     have Ny416 := Aside0.mk hy416
     clear hy416
     obtain rfl := Option.some.inj H
     go_wp2_with (first | ((with_reducible refine gate_builtin (b := .append) (xs := #[.tmp 18, .tmp 20]) rfl ?_); at_builtin; refine Kd.R_append (Kd.int .i64) (w0 := w) w.heap.size rfl (.tmp 18) (.tmp 20) 26 3 (.int .i64 0) 8 rfl Try.underlying26 info3 rfl (by decide) (by omega) u4 x4_1 x3_1 [.int .i64 x3_1] (fun _ => True) (fun _ => False) rfl rfl ?aP (fun _ hk => hk.elim) ?aF ?aO ?aB ?aS ?aL ?_; (case aP => exact rfl); (case aB => exact zb); (case aF => exact (fun _ _ => trivial)); (case aO => exact (tR HO_4.out)); (case aS => exact (below_size zb)); (case aL => have := LMc8.out; omega); intro v417 w9 ho hb hg hat; rw [← Ny416.out] at ho; replace HB := Aside0.mk (hb); have HO418 := Aside0.mk (ho); clear HO_4; clear ho hb hg hat))
     go_ret
     exact ⟨_, by first | rfl | (simp [errW_none, errW_some] <;> rfl) | (simp [*, errW_none, errW_some] <;> rfl), tR HO418.out, zb⟩
    ·rw [if_neg c8] at H
     exact absurd H (by simp)

def spec_l3Put.f (k : Nat) (a0 : Bool) (l1 : List Int) : Option (List Int) := if a0 = true then ((spec_l1Bytes.f k (l1.length : Int)).bind fun t419 => (if t419.length + l1.length < 17592186044416 then (some (t419 ++ l1)) else (none))) else ((spec_l1Bytes.f k (-1)).bind fun t425 => (some t425))
set_option maxHeartbeats 8000000 in
set_option maxRecDepth 100000 in
theorem spec_l3Put.calls (k : Nat) (a0 : Bool) (A1 : Option Addr) (c1 : Nat) (l1 : List Int) (r : List Int) (w : World) (hr1 : Kd.C (Kd.int .i64) w A1 l1.length l1) (hc1 : l1.length ≤ c1) (h : spec_l3Put.f k a0 l1 = some r) :
  Calls Try.prog 84 #[.bool a0, .slice A1 l1.length c1] w fun e w' => ∃ v0_ : Value, e = .returned (v0_) ∧ Kd.R (Kd.int .i64) 3 w' w.heap.size (fun _ => True) v0_ r ∧ Below w.heap.size w w' := by
 have HR1 := Aside0.mk hr1
 have HC1 := Aside0.mk hc1
 clear hr1 hc1
 have HB := Aside0.mk (Below.refl w.heap.size w)
 have H : (if a0 = true then ((spec_l1Bytes.f k (l1.length : Int)).bind fun t419 => (if t419.length + l1.length < 17592186044416 then (some (t419 ++ l1)) else (none))) else ((spec_l1Bytes.f k (-1)).bind fun t425 => (some t425))) = some r := h
 clear h
 by_cases c3 : a0 = true
 ·subst c3
  rw [if_pos rfl] at H
  replace H := tbe H
  obtain ⟨t419, A4, H⟩ := H
  by_cases c5 : t419.length + l1.length < 17592186044416
  ·rw [if_pos c5] at H
   have LMc5 := Aside0.mk c5
   clear c5
   obtain ⟨y422, hy422⟩ : ∃ y_ : List Int, y_ = (t419 ++ l1) := ⟨_, rfl⟩
   replace H : (some y422) = some r := by first | (rw [hy422]; with_reducible exact H) | (have H2_ := (Option.bind_some _ _).symm.trans H; rw [hy422]; with_reducible exact H2_) | (have H2_ := (Option.bind_some _ _).symm.trans H; with_reducible exact H2_) | with_reducible exact H | (rw [hy422]; exact H) | exact H
   have Ny422 := Aside0.mk hy422
   clear hy422
   obtain rfl := Option.some.inj H
   go_enter Try.func84, Try.ntmps84
   go_wp2_with (first | ((with_reducible refine gate_callee (f := 83) rfl ?_); refine goesL_ (some 10) rfl rfl Try.func83 (by kernel_rfl) rfl #[.int .i64 (l1.length : Int)] rfl tq ?_; (with_reducible refine (spec_l1Bytes.calls k (l1.length : Int) t419 _ A4.out).mono ?_); rintro e w6 ⟨v420, rfl, ho0, hb⟩; have u_v420 := tsv Try.prog v420 ho0; refine ⟨_, rfl, ?_⟩; have HO421 := tRl ho0 HB; replace HB := tBs HB hb; (try clear hb); (try clear hb2); (try clear hk); (try clear hi); (try clear ho0)) | ((with_reducible refine gate_builtin (b := .append) (xs := #[.tmp 10, .tmp 11]) rfl ?_); at_builtin; refine Kd.R_append_rows (Kd.int .i64) (w0 := w) w.heap.size rfl (.tmp 10) (.tmp 11) 26 3 (.int .i64 0) 8 rfl Try.underlying26 info3 rfl (by decide) (by omega) v420 t419 l1 _ _ _ (fun _ => True) (fun _ => False) rfl rfl ?aO ?aR (fun _ _ h => h) (fun _ h => h.elim) ?aF ?aB ?aS ?aL ?_; (case aR => exact tC (Kd.C_below HR1.out HB.out)); (case aB => exact zb); (case aF => exact (fun _ _ => trivial)); (case aO => exact (tR HO421.out)); (case aS => exact (below_size zb)); (case aL => have := LMc5.out; omega); intro v423 w7 ho hb hg hat; rw [← Ny422.out] at ho; replace HB := Aside0.mk (hb); have HO424 := Aside0.mk (ho); clear HO421; clear ho hb hg hat))
   go_ret
   exact ⟨_, by first | rfl | (simp [errW_none, errW_some] <;> rfl) | (simp [*, errW_none, errW_some] <;> rfl), tR HO424.out, zb⟩
  ·rw [if_neg c5] at H
   exact absurd H (by simp)
 ·replace c3 := Bool.eq_false_iff.mpr c3
  subst c3
  rw [if_neg (show ¬ (false = true) by decide)] at H
  replace H := tbe H
  obtain ⟨t425, A8, H⟩ := H
  obtain rfl := Option.some.inj H
  go_enter Try.func84, Try.ntmps84
  go_wp2_with (first | ((with_reducible refine gate_callee (f := 83) rfl ?_); refine goesL_ (some 7) rfl rfl Try.func83 (by kernel_rfl) rfl #[.int .i64 (-1)] rfl tq ?_; (with_reducible refine (spec_l1Bytes.calls k (-1) t425 _ A8.out).mono ?_); rintro e w9 ⟨v426, rfl, ho0, hb⟩; have u_v426 := tsv Try.prog v426 ho0; refine ⟨_, rfl, ?_⟩; have HO427 := tRl ho0 HB; replace HB := tBs HB hb; (try clear hb); (try clear hb2); (try clear hk); (try clear hi); (try clear ho0)))
  go_ret
  exact ⟨_, by first | rfl | (simp [errW_none, errW_some] <;> rfl) | (simp [*, errW_none, errW_some] <;> rfl), tR HO427.out, zb⟩

def spec_l3Bytes.f (k : Nat) (a0_0 : Int) (a0_1 : Int) (a0_2 : Bool) (l0_3 : List Int) (a0_4 : Bool) (l0_5 : List Int) (a1 : Int) (a2 : Int) : Option (List Int) := (spec_l1Bytes.f k (wrap64 (a0_1 - a2))).bind fun t429 => ((spec_l1Bytes.f k (wrap64 (a0_0 - a1))).bind fun t432 => (if t429.length + t432.length < 17592186044416 then ((some (t429 ++ t432 : List Int)).bind fun y435 => ((spec_l3Put.f k a0_2 l0_3).bind fun t438 => (if y435.length + t438.length < 17592186044416 then ((some (y435 ++ t438 : List Int)).bind fun y441 => ((spec_l3Put.f k a0_4 l0_5).bind fun t444 => (if y441.length + t444.length < 17592186044416 then ((some (y441 ++ t444 : List Int)).bind fun y447 => ((spec_l1Bytes.f k (y447.length : Int)).bind fun t450 => (if t450.length + y447.length < 17592186044416 then (some (t450 ++ y447)) else (none)))) else (none)))) else (none)))) else (none)))
def spec_l3Bytes.T1 : Bool × List (List Nat × List Nat) := (true, [([], []), ([0], [0]), ([], []), ([1, 2], [1, 2]), ([3], [3]), ([], []), ([5], [5]), ([], []), ([6, 7], [6, 7]), ([8, 4], [8]), ([4, 9, 9], [4, 9]), ([10, 10, 0, 1, 2, 3, 4, 5, 6, 7, 8, 9, 10], [10])])
def spec_l3Bytes.B1 : List Nat := [0, 1, 0, 7, 15, 0, 32, 0, 224, 511, 1023, 2047]
theorem spec_l3Bytes.tab1 : rtab .any (opsOf Try.f72 1) = spec_l3Bytes.T1 := by kernel_rfl
theorem spec_l3Bytes.bits1 : waitsOk spec_l3Bytes.T1.2 spec_l3Bytes.B1 = true := by kernel_rfl
set_option maxHeartbeats 8000000 in
set_option maxRecDepth 100000 in
theorem spec_l3Bytes.calls (k : Nat) (a0_0 : Int) (a0_1 : Int) (a0_2 : Bool) (A0_3 : Option Addr) (c0_3 : Nat) (l0_3 : List Int) (a0_4 : Bool) (A0_5 : Option Addr) (c0_5 : Nat) (l0_5 : List Int) (a1 : Int) (a2 : Int) (r : List Int) (w : World) (hr0_3 : Kd.C (Kd.int .i64) w A0_3 l0_3.length l0_3) (hc0_3 : l0_3.length ≤ c0_3) (hr0_5 : Kd.C (Kd.int .i64) w A0_5 l0_5.length l0_5) (hc0_5 : l0_5.length ≤ c0_5) (h : spec_l3Bytes.f k a0_0 a0_1 a0_2 l0_3 a0_4 l0_5 a1 a2 = some r) :
  Calls Try.prog 72 #[.agg #[.int .i64 a0_0, .int .i64 a0_1, .bool a0_2, .slice A0_3 l0_3.length c0_3, .bool a0_4, .slice A0_5 l0_5.length c0_5], .int .i64 a1, .int .i64 a2] w fun e w' => ∃ v0_ : Value, e = .returned (v0_) ∧ Kd.R (Kd.int .i64) 3 w' w.heap.size (fun _ => True) v0_ r ∧ Below w.heap.size w w' := by
 have hu63 := Try.underlying63
 have HR0_3 := Aside0.mk hr0_3
 have HC0_3 := Aside0.mk hc0_3
 clear hr0_3 hc0_3
 have HR0_5 := Aside0.mk hr0_5
 have HC0_5 := Aside0.mk hc0_5
 clear hr0_5 hc0_5
 have HB := Aside0.mk (Below.refl w.heap.size w)
 have H : ((spec_l1Bytes.f k (wrap64 (a0_1 - a2))).bind fun t429 => ((spec_l1Bytes.f k (wrap64 (a0_0 - a1))).bind fun t432 => (if t429.length + t432.length < 17592186044416 then ((some (t429 ++ t432 : List Int)).bind fun y435 => ((spec_l3Put.f k a0_2 l0_3).bind fun t438 => (if y435.length + t438.length < 17592186044416 then ((some (y435 ++ t438 : List Int)).bind fun y441 => ((spec_l3Put.f k a0_4 l0_5).bind fun t444 => (if y441.length + t444.length < 17592186044416 then ((some (y441 ++ t444 : List Int)).bind fun y447 => ((spec_l1Bytes.f k (y447.length : Int)).bind fun t450 => (if t450.length + y447.length < 17592186044416 then (some (t450 ++ y447)) else (none)))) else (none)))) else (none)))) else (none)))) = some r := h
 clear h
 replace H := tbe H
 obtain ⟨t429, A4, H⟩ := H
 replace H := tbe H
 obtain ⟨t432, A5, H⟩ := H
 by_cases c6 : t429.length + t432.length < 17592186044416
 ·rw [if_pos c6] at H
  have LMc6 := Aside0.mk c6
  clear c6
  obtain ⟨y435, hy435⟩ : ∃ y_ : List Int, y_ = (t429 ++ t432) := ⟨_, rfl⟩
  replace H : ((spec_l3Put.f k a0_2 l0_3).bind fun t438 => (if y435.length + t438.length < 17592186044416 then ((some (y435 ++ t438 : List Int)).bind fun y441 => ((spec_l3Put.f k a0_4 l0_5).bind fun t444 => (if y441.length + t444.length < 17592186044416 then ((some (y441 ++ t444 : List Int)).bind fun y447 => ((spec_l1Bytes.f k (y447.length : Int)).bind fun t450 => (if t450.length + y447.length < 17592186044416 then (some (t450 ++ y447)) else (none)))) else (none)))) else (none))) = some r := by first | (rw [hy435]; with_reducible exact H) | (have H2_ := (Option.bind_some _ _).symm.trans H; rw [hy435]; with_reducible exact H2_) | (have H2_ := (Option.bind_some _ _).symm.trans H; with_reducible exact H2_) | with_reducible exact H | (rw [hy435]; exact H) | exact H
  have Ny435 := Aside0.mk hy435
  clear hy435
  replace H := tbe H
  obtain ⟨t438, A7, H⟩ := H
  by_cases c8 : y435.length + t438.length < 17592186044416
  ·rw [if_pos c8] at H
   have LMc8 := Aside0.mk c8
   clear c8
   obtain ⟨y441, hy441⟩ : ∃ y_ : List Int, y_ = (y435 ++ t438) := ⟨_, rfl⟩
   replace H : ((spec_l3Put.f k a0_4 l0_5).bind fun t444 => (if y441.length + t444.length < 17592186044416 then ((some (y441 ++ t444 : List Int)).bind fun y447 => ((spec_l1Bytes.f k (y447.length : Int)).bind fun t450 => (if t450.length + y447.length < 17592186044416 then (some (t450 ++ y447)) else (none)))) else (none))) = some r := by first | (rw [hy441]; with_reducible exact H) | (have H2_ := (Option.bind_some _ _).symm.trans H; rw [hy441]; with_reducible exact H2_) | (have H2_ := (Option.bind_some _ _).symm.trans H; with_reducible exact H2_) | with_reducible exact H | (rw [hy441]; exact H) | exact H
   have Ny441 := Aside0.mk hy441
   clear hy441
   replace H := tbe H
   obtain ⟨t444, A9, H⟩ := H
   by_cases c10 : y441.length + t444.length < 17592186044416
   ·rw [if_pos c10] at H
    have LMc10 := Aside0.mk c10
    clear c10
    obtain ⟨y447, hy447⟩ : ∃ y_ : List Int, y_ = (y441 ++ t444) := ⟨_, rfl⟩
    replace H : ((spec_l1Bytes.f k (y447.length : Int)).bind fun t450 => (if t450.length + y447.length < 17592186044416 then (some (t450 ++ y447)) else (none))) = some r := by first | (rw [hy447]; with_reducible exact H) | (have H2_ := (Option.bind_some _ _).symm.trans H; rw [hy447]; with_reducible exact H2_) | (have H2_ := (Option.bind_some _ _).symm.trans H; with_reducible exact H2_) | with_reducible exact H | (rw [hy447]; exact H) | exact H
    have Ny447 := Aside0.mk hy447
    clear hy447
    replace H := tbe H
    obtain ⟨t450, A11, H⟩ := H
    by_cases c12 : t450.length + y447.length < 17592186044416
    ·rw [if_pos c12] at H
     have LMc12 := Aside0.mk c12
     clear c12
     obtain ⟨y453, hy453⟩ : ∃ y_ : List Int, y_ = (t450 ++ y447) := ⟨_, rfl⟩
     replace H : (some y453) = some r := by first | (rw [hy453]; with_reducible exact H) | (have H2_ := (Option.bind_some _ _).symm.trans H; rw [hy453]; with_reducible exact H2_) | (have H2_ := (Option.bind_some _ _).symm.trans H; with_reducible exact H2_) | with_reducible exact H | (rw [hy453]; exact H) | exact H
     have Ny453 := Aside0.mk hy453
     clear hy453
     obtain rfl := Option.some.inj H
     go_enter Try.func72, Try.ntmps72
     try go_wp2_with (first | ((with_reducible refine gate_dst (N := 3) rfl ?_); refine box_event ?hg (N := 3) ?hd (cs := #[.int .i64 a0_0, .int .i64 a0_1, .bool a0_2, .slice A0_3 l0_3.length c0_3, .bool a0_4, .slice A0_5 l0_5.length c0_5]) (t := 63) ?hr ?_; (case hd => rfl); (case hg => rfl); (case hr => first | (go_simp; done) | (go_simp; rfl)); intro gb428 hg w13 hbox hb; have BK428 := Aside0.mk (hbox); have GW428 := tge HB hg; have GE428 := tge HB hg; replace HB := tBs HB hb; clear hb hbox hg))
     replace BK428 := Aside0.mk (blk_drew BK428.out)
     replace HB := Aside0.mk (below_drew1 HB.out)
     refine start_ (n := 12) (S := fun w' => w'.cell? ⟨gb428, 0, none⟩ = some (.int .i64 a0_0) ∧ w'.cell? ⟨gb428, 1, none⟩ = some (.int .i64 a0_1) ∧ w'.cell? ⟨gb428, 2, none⟩ = some (.bool a0_2) ∧ w'.cell? ⟨gb428, 3, none⟩ = some (.slice A0_3 l0_3.length c0_3) ∧ w'.cell? ⟨gb428, 4, none⟩ = some (.bool a0_4) ∧ w'.cell? ⟨gb428, 5, none⟩ = some (.slice A0_5 l0_5.length c0_5)) (ds := []) #[false, false, false, false, false, false, false, false, false, false, false, false] (by kernel_rfl) rfl rfl ⟨(blk_cell BK428.out 0).trans rfl, (blk_cell BK428.out 1).trans rfl, (blk_cell BK428.out 2).trans rfl, (blk_cell BK428.out 3).trans rfl, (blk_cell BK428.out 4).trans rfl, (blk_cell BK428.out 5).trans rfl⟩ (fun hHeld => ?_); refine with_tabW spec_l3Bytes.tab1 spec_l3Bytes.bits1 (fun HT_ HW_ => ?_)
     generalize w13.drew = w14 at BK428 HB hHeld ⊢
     refine tpu 0 (some 8) #[true, false, false, false, false, false, false, false, false, false, false, false] ?_
     refine tpu 2 (some 10) #[true, false, true, false, false, false, false, false, false, false, false, false] ?_
     refine tpu 5 (some 13) #[true, false, true, false, false, true, false, false, false, false, false, false] ?_
     refine tpu 7 (some 15) #[true, false, true, false, false, true, false, true, false, false, false, false] ?_
     refine tta 1 (some 9) #[true, true, true, false, false, true, false, true, false, false, false, false] hHeld ?_ (hy := by rintro w' ⟨s0, s1, s2, s3, s4, s5⟩; go_simp; with_reducible rfl)
     refine tpu 3 (some 11) #[true, true, true, true, false, true, false, true, false, false, false, false] ?_
     refine tta 6 (some 14) #[true, true, true, true, false, true, true, true, false, false, false, false] hHeld ?_ (hy := by rintro w' ⟨s0, s1, s2, s3, s4, s5⟩; go_simp; with_reducible rfl)
     refine tpu 8 (some 16) #[true, true, true, true, false, true, true, true, true, false, false, false] ?_
     refine one_ (i := 4) (N := some 12) #[true, true, true, true, true, true, true, true, true, false, false, false] rfl rfl (one_of HT_.out (by kernel_rfl)) (by decide) (fun K hK => ?_)
     refine goes_ Try.func83 (by kernel_rfl) rfl #[.int .i64 (wrap64 (a0_1 - a2))] (by rfl) rfl rfl tq ?_
     with_reducible refine (spec_l1Bytes.calls k (wrap64 (a0_1 - a2)) t429 _ A4.out).mono ?_
     rintro e w15 ⟨v430, rfl, ho0, hb⟩
     refine ⟨_, rfl, ?_⟩
     have HO431 := tRl ho0 HB
     replace BK428 := tBb BK428 hb
     replace HB := tBs HB hb
     (try clear hb)
     (try clear hb2)
     (try clear hk)
     (try clear hi)
     (try clear ho0)
     refine hK.out _ _ ⟨(blk_cell BK428.out 0).trans rfl, (blk_cell BK428.out 1).trans rfl, (blk_cell BK428.out 2).trans rfl, (blk_cell BK428.out 3).trans rfl, (blk_cell BK428.out 4).trans rfl, (blk_cell BK428.out 5).trans rfl⟩ (fun hHeld => ?_)
     clear hK K
     refine tnm (some 12) ?_
     refine one_ (i := 9) (N := some 17) #[true, true, true, true, true, true, true, true, true, true, false, false] rfl rfl (one_of HT_.out (by kernel_rfl)) (by decide) (fun K hK => ?_)
     refine goes_ Try.func83 (by kernel_rfl) rfl #[.int .i64 (wrap64 (a0_0 - a1))] (by rfl) rfl rfl tq ?_
     with_reducible refine (spec_l1Bytes.calls k (wrap64 (a0_0 - a1)) t432 _ A5.out).mono ?_
     rintro e w16 ⟨v433, rfl, ho0, hb⟩
     refine ⟨_, rfl, ?_⟩
     have HO434 := Aside0.mk (Kd.R_lower (Kd.R_new' ho0 (Kd.R_lt (tR HO431.out))) (below_size zb))
     replace HO431 := Aside0.mk (Kd.R_elder' (tR HO431.out) (Kd.R_base ho0) hb)
     replace BK428 := tBb BK428 hb
     replace HB := tBs HB hb
     (try clear hb)
     (try clear hb2)
     (try clear hk)
     (try clear hi)
     (try clear ho0)
     obtain ⟨Ao18, co18, eo18⟩ := Kd.R_slice HO434.out
     (first | subst eo18 | (injection eo18 with f1_ f2_ f3_; have f4_ := f1_.symm; have f5_ := f3_.symm; clear f1_ f2_ f3_; subst f4_; subst f5_))
     refine hK.out _ _ ⟨(blk_cell BK428.out 0).trans rfl, (blk_cell BK428.out 1).trans rfl, (blk_cell BK428.out 2).trans rfl, (blk_cell BK428.out 3).trans rfl, (blk_cell BK428.out 4).trans rfl, (blk_cell BK428.out 5).trans rfl⟩ (fun hHeld => ?_)
     clear hK K
     refine tnm (some 17) ?_
     refine one_ (i := 10) (N := some 18) #[true, true, true, true, true, true, true, true, true, true, true, false] rfl rfl (one_of HT_.out (by kernel_rfl)) (by decide) (fun K hK => ?_)
     refine Kd.R_append_rows_step (Kd.int .i64) (w0 := w) w.heap.size (by rfl) (.tmp 12) (.tmp 17) 26 3 (.int .i64 0) 8 rfl Try.underlying26 info3 rfl (by decide) (by omega) v430 t429 t432 _ _ _ (fun k_ => some k_ ≠ (.slice Ao18 t432.length co18 : Value).ownBlock) (fun _ => False) rfl rfl ?aO ?aR (fun _ _ h => h) (fun _ h => h.elim) ?aF ?aB ?aS ?aL ?_
     (case aR => repeat (first | exact (Kd.R_reads' HO434.out).2.2 | (with_reducible refine Kd.C_alloc ?_ _) | (with_reducible refine Kd.C_drewN ?_ _) | (with_reducible refine Kd.C_drew ?_)))
     (case aB => exact zb)
     (case aF => exact (fun k_ hk => Kd.fresh' (Kd.R_lt (tR HO434.out)) k_ hk))
     (case aO => exact (tRm HO431.out))
     (case aS => exact (below_size zb))
     (case aL => have := LMc6.out; omega)
     intro v436 w17 ho hb hg hat
     rw [← Ny435.out] at ho
     replace BK428 := Aside0.mk (blk_grown (tH BK428.out) hg (Kd.R_ne HO431.out BK428.out (by decide)))
     replace HO434 := Aside0.mk (Kd.R_after (ok := (fun _ => True)) (tR HO434.out) hg hat)
     replace HB := Aside0.mk (hb)
     have HO437 := Aside0.mk (ho)
     clear HO431
     clear ho hb hg hat
     refine hK.out _ _ ⟨(blk_cell BK428.out 0).trans rfl, (blk_cell BK428.out 1).trans rfl, (blk_cell BK428.out 2).trans rfl, (blk_cell BK428.out 3).trans rfl, (blk_cell BK428.out 4).trans rfl, (blk_cell BK428.out 5).trans rfl⟩ (fun hHeld => ?_)
     clear hK K
     refine tnm (some 18) ?_
     refine tpu 11 (some 7) #[true, true, true, true, true, true, true, true, true, true, true, true] ?_
     refine done_ (done_of HT_.out (by kernel_rfl)) ?_
     obtain ⟨hcz19_0, hcz19_1, hcz19_2, hcz19_3, hcz19_4, hcz19_5, hfz19_0, hfz19_1, hfz19_2, hfz19_3, hfz19_4, hfz19_5⟩ := cells6 BK428.out
     try go_wp2_with (first | ((with_reducible refine gate_callee (f := 84) rfl ?_); refine goesL_ (some 24) rfl rfl Try.func84 (by kernel_rfl) rfl #[.bool a0_2, .slice A0_3 l0_3.length c0_3] rfl tq ?_; (with_reducible refine (spec_l3Put.calls k a0_2 _ _ l0_3 t438 _ ?side1 ?side2 A7.out).mono ?_); (case side1 => exact tC (Kd.C_below HR0_3.out HB.out)); (case side2 => exact HC0_3.out); rintro e w20 ⟨v439, rfl, ho0, hb⟩; have u_v439 := tsv Try.prog v439 ho0; refine ⟨_, rfl, ?_⟩; have HO440 := Aside0.mk (Kd.R_lower (Kd.R_new' (Kd.R_new' ho0 (Kd.R_lt (tR HO434.out))) (Kd.R_lt (tR HO437.out))) (below_size zb)); replace HO434 := Aside0.mk (Kd.R_elder' (tR HO434.out) (Kd.R_base ho0) hb); replace HO437 := Aside0.mk (Kd.R_elder' (tR HO437.out) (Kd.R_base ho0) hb); replace BK428 := tBb BK428 hb; replace HB := tBs HB hb; (try clear hb); (try clear hb2); (try clear hk); (try clear hi); (try clear ho0); obtain ⟨Ao22, co22, eo22⟩ := Kd.R_slice HO440.out; subst eo22) | ((with_reducible refine gate_builtin (b := .append) (xs := #[.tmp 19, .tmp 24]) rfl ?_); at_builtin; refine Kd.R_append_rows (Kd.int .i64) (w0 := w) w.heap.size rfl (.tmp 19) (.tmp 24) 26 3 (.int .i64 0) 8 rfl Try.underlying26 info3 rfl (by decide) (by omega) v436 y435 t438 _ _ _ (fun k_ => some k_ ≠ (.slice Ao18 t432.length co18 : Value).ownBlock ∧ some k_ ≠ (.slice Ao22 t438.length co22 : Value).ownBlock) (fun _ => False) rfl rfl ?aO ?aR (fun _ _ h => h) (fun _ h => h.elim) ?aF ?aB ?aS ?aL ?_; (case aR => repeat (first | exact (Kd.R_reads' HO440.out).2.2 | (with_reducible refine Kd.C_alloc ?_ _) | (with_reducible refine Kd.C_drewN ?_ _) | (with_reducible refine Kd.C_drew ?_))); (case aB => exact zb); (case aF => exact (fun k_ hk => ⟨Kd.fresh' (Kd.R_lt (tR HO434.out)) k_ hk, Kd.fresh' (Kd.R_lt (tR HO440.out)) k_ hk⟩)); (case aO => exact (tR HO437.out)); (case aS => exact (below_size zb)); (case aL => have := LMc8.out; omega); intro v442 w21 ho hb hg hat; rw [← Ny441.out] at ho; replace BK428 := Aside0.mk (blk_grown (tH BK428.out) hg (Kd.R_ne HO437.out BK428.out (by decide))); replace HO434 := Aside0.mk (Kd.R_after (ok := (fun k_ => some k_ ≠ (.slice Ao22 t438.length co22 : Value).ownBlock)) (tRm HO434.out) hg hat); replace HO440 := Aside0.mk (Kd.R_after (ok := (fun k_ => some k_ ≠ (.slice Ao18 t432.length co18 : Value).ownBlock)) (tRm HO440.out) hg hat); replace HB := Aside0.mk (hb); have HO443 := Aside0.mk (ho); clear HO437; clear ho hb hg hat; obtain ⟨hcz23_0, hcz23_1, hcz23_2, hcz23_3, hcz23_4, hcz23_5, hfz23_0, hfz23_1, hfz23_2, hfz23_3, hfz23_4, hfz23_5⟩ := cells6 BK428.out) | ((with_reducible refine gate_callee (f := 84) rfl ?_); refine goesL_ (some 31) rfl rfl Try.func84 (by kernel_rfl) rfl #[.bool a0_4, .slice A0_5 l0_5.length c0_5] rfl tq ?_; (with_reducible refine (spec_l3Put.calls k a0_4 _ _ l0_5 t444 _ ?side1 ?side2 A9.out).mono ?_); (case side1 => exact tC (Kd.C_below HR0_5.out HB.out)); (case side2 => exact HC0_5.out); rintro e w24 ⟨v445, rfl, ho0, hb⟩; have u_v445 := tsv Try.prog v445 ho0; refine ⟨_, rfl, ?_⟩; have HO446 := Aside0.mk (Kd.R_lower (Kd.R_new' (Kd.R_new' (Kd.R_new' ho0 (Kd.R_lt (tR HO434.out))) (Kd.R_lt (tR HO440.out))) (Kd.R_lt (tR HO443.out))) (below_size zb)); replace HO434 := Aside0.mk (Kd.R_elder' (tR HO434.out) (Kd.R_base ho0) hb); replace HO440 := Aside0.mk (Kd.R_elder' (tR HO440.out) (Kd.R_base ho0) hb); replace HO443 := Aside0.mk (Kd.R_elder' (tR HO443.out) (Kd.R_base ho0) hb); replace BK428 := tBb BK428 hb; replace HB := tBs HB hb; (try clear hb); (try clear hb2); (try clear hk); (try clear hi); (try clear ho0); obtain ⟨Ao26, co26, eo26⟩ := Kd.R_slice HO446.out; subst eo26) | ((with_reducible refine gate_builtin (b := .append) (xs := #[.tmp 26, .tmp 31]) rfl ?_); at_builtin; refine Kd.R_append_rows (Kd.int .i64) (w0 := w) w.heap.size rfl (.tmp 26) (.tmp 31) 26 3 (.int .i64 0) 8 rfl Try.underlying26 info3 rfl (by decide) (by omega) v442 y441 t444 _ _ _ (fun k_ => some k_ ≠ (.slice Ao18 t432.length co18 : Value).ownBlock ∧ some k_ ≠ (.slice Ao22 t438.length co22 : Value).ownBlock ∧ some k_ ≠ (.slice Ao26 t444.length co26 : Value).ownBlock) (fun _ => False) rfl rfl ?aO ?aR (fun _ _ h => h) (fun _ h => h.elim) ?aF ?aB ?aS ?aL ?_; (case aR => repeat (first | exact (Kd.R_reads' HO446.out).2.2 | (with_reducible refine Kd.C_alloc ?_ _) | (with_reducible refine Kd.C_drewN ?_ _) | (with_reducible refine Kd.C_drew ?_))); (case aB => exact zb); (case aF => exact (fun k_ hk => ⟨Kd.fresh' (Kd.R_lt (tR HO434.out)) k_ hk, Kd.fresh' (Kd.R_lt (tR HO440.out)) k_ hk, Kd.fresh' (Kd.R_lt (tR HO446.out)) k_ hk⟩)); (case aO => exact (tRm HO443.out)); (case aS => exact (below_size zb)); (case aL => have := LMc10.out; omega); intro v448 w25 ho hb hg hat; rw [← Ny447.out] at ho; replace BK428 := Aside0.mk (blk_grown (tH BK428.out) hg (Kd.R_ne HO443.out BK428.out (by decide))); replace HO434 := Aside0.mk (Kd.R_after (ok := (fun k_ => some k_ ≠ (.slice Ao22 t438.length co22 : Value).ownBlock ∧ some k_ ≠ (.slice Ao26 t444.length co26 : Value).ownBlock)) (tRm HO434.out) hg hat); replace HO440 := Aside0.mk (Kd.R_after (ok := (fun k_ => some k_ ≠ (.slice Ao18 t432.length co18 : Value).ownBlock ∧ some k_ ≠ (.slice Ao26 t444.length co26 : Value).ownBlock)) (tRm HO440.out) hg hat); replace HO446 := Aside0.mk (Kd.R_after (ok := (fun k_ => some k_ ≠ (.slice Ao18 t432.length co18 : Value).ownBlock ∧ some k_ ≠ (.slice Ao22 t438.length co22 : Value).ownBlock)) (tRm HO446.out) hg hat); replace HB := Aside0.mk (hb); have HO449 := Aside0.mk (ho); clear HO443; clear ho hb hg hat; obtain ⟨Ao27, co27, eo27⟩ := Kd.R_slice HO449.out; subst eo27) | ((with_reducible refine gate_callee (f := 83) rfl ?_); refine goesL_ (some 35) rfl rfl Try.func83 (by kernel_rfl) rfl #[.int .i64 (y447.length : Int)] rfl tq ?_; (with_reducible refine (spec_l1Bytes.calls k (y447.length : Int) t450 _ A11.out).mono ?_); rintro e w28 ⟨v451, rfl, ho0, hb⟩; have u_v451 := tsv Try.prog v451 ho0; refine ⟨_, rfl, ?_⟩; have HO452 := Aside0.mk (Kd.R_lower (Kd.R_new' (Kd.R_new' (Kd.R_new' (Kd.R_new' ho0 (Kd.R_lt (tR HO434.out))) (Kd.R_lt (tR HO440.out))) (Kd.R_lt (tR HO446.out))) (Kd.R_lt (tR HO449.out))) (below_size zb)); replace HO434 := Aside0.mk (Kd.R_elder' (tR HO434.out) (Kd.R_base ho0) hb); replace HO440 := Aside0.mk (Kd.R_elder' (tR HO440.out) (Kd.R_base ho0) hb); replace HO446 := Aside0.mk (Kd.R_elder' (tR HO446.out) (Kd.R_base ho0) hb); replace HO449 := Aside0.mk (Kd.R_elder' (tR HO449.out) (Kd.R_base ho0) hb); replace BK428 := tBb BK428 hb; replace HB := tBs HB hb; (try clear hb); (try clear hb2); (try clear hk); (try clear hi); (try clear ho0)) | ((with_reducible refine gate_builtin (b := .append) (xs := #[.tmp 35, .tmp 36]) rfl ?_); at_builtin; refine Kd.R_append_rows (Kd.int .i64) (w0 := w) w.heap.size rfl (.tmp 35) (.tmp 36) 26 3 (.int .i64 0) 8 rfl Try.underlying26 info3 rfl (by decide) (by omega) v451 t450 y447 _ _ _ (fun k_ => some k_ ≠ (.slice Ao18 t432.length co18 : Value).ownBlock ∧ some k_ ≠ (.slice Ao22 t438.length co22 : Value).ownBlock ∧ some k_ ≠ (.slice Ao26 t444.length co26 : Value).ownBlock ∧ some k_ ≠ (.slice Ao27 y447.length co27 : Value).ownBlock) (fun _ => False) rfl rfl ?aO ?aR (fun _ _ h => h) (fun _ h => h.elim) ?aF ?aB ?aS ?aL ?_; (case aR => repeat (first | exact (Kd.R_reads' HO449.out).2.2 | (with_reducible refine Kd.C_alloc ?_ _) | (with_reducible refine Kd.C_drewN ?_ _) | (with_reducible refine Kd.C_drew ?_))); (case aB => exact zb); (case aF => exact (fun k_ hk => ⟨Kd.fresh' (Kd.R_lt (tR HO434.out)) k_ hk, Kd.fresh' (Kd.R_lt (tR HO440.out)) k_ hk, Kd.fresh' (Kd.R_lt (tR HO446.out)) k_ hk, Kd.fresh' (Kd.R_lt (tR HO449.out)) k_ hk⟩)); (case aO => exact (tRm HO452.out)); (case aS => exact (below_size zb)); (case aL => have := LMc12.out; omega); intro v454 w29 ho hb hg hat; rw [← Ny453.out] at ho; replace BK428 := Aside0.mk (blk_grown (tH BK428.out) hg (Kd.R_ne HO452.out BK428.out (by decide))); replace HO434 := Aside0.mk (Kd.R_after (ok := (fun k_ => some k_ ≠ (.slice Ao22 t438.length co22 : Value).ownBlock ∧ some k_ ≠ (.slice Ao26 t444.length co26 : Value).ownBlock ∧ some k_ ≠ (.slice Ao27 y447.length co27 : Value).ownBlock)) (tRm HO434.out) hg hat); replace HO440 := Aside0.mk (Kd.R_after (ok := (fun k_ => some k_ ≠ (.slice Ao18 t432.length co18 : Value).ownBlock ∧ some k_ ≠ (.slice Ao26 t444.length co26 : Value).ownBlock ∧ some k_ ≠ (.slice Ao27 y447.length co27 : Value).ownBlock)) (tRm HO440.out) hg hat); replace HO446 := Aside0.mk (Kd.R_after (ok := (fun k_ => some k_ ≠ (.slice Ao18 t432.length co18 : Value).ownBlock ∧ some k_ ≠ (.slice Ao22 t438.length co22 : Value).ownBlock ∧ some k_ ≠ (.slice Ao27 y447.length co27 : Value).ownBlock)) (tRm HO446.out) hg hat); replace HO449 := Aside0.mk (Kd.R_after (ok := (fun k_ => some k_ ≠ (.slice Ao18 t432.length co18 : Value).ownBlock ∧ some k_ ≠ (.slice Ao22 t438.length co22 : Value).ownBlock ∧ some k_ ≠ (.slice Ao26 t444.length co26 : Value).ownBlock)) (tR HO449.out) hg hat); replace HB := Aside0.mk (hb); have HO455 := Aside0.mk (ho); clear HO452; clear ho hb hg hat))
     go_ret
     exact ⟨_, by first | rfl | (simp [errW_none, errW_some] <;> rfl) | (simp [*, errW_none, errW_some] <;> rfl), tRm HO455.out, zb⟩
    ·rw [if_neg c12] at H
     exact absurd H (by simp)
   ·rw [if_neg c10] at H
    exact absurd H (by simp)
  ·rw [if_neg c8] at H
   exact absurd H (by simp)
 ·rw [if_neg c6] at H
  exact absurd H (by simp)

end Go.Proofs.Ythoioccmnphfgaa.G

namespace Go.Proofs.Ythoioccmnphfgaa.G
open Go.RowKit Go.Proofs.YthoioccmnphfgaaW.PrintWords Go.Proofs.YthoioccmnphfgaaW.PrintLast Go.Proofs.YthoioccmnphfgaaW.PrintMore
attribute [local go_sem] max2_int min2_int max_two min_two max_three min_three max_four min_four   -- for this text's walks alone
set_option linter.unusedVariables false
set_option linter.unusedSimpArgs false

def spec_l5Body.l0 : Nat → List Int → Int → Bool → Bool → Int → Int → Int → List (S63) → Option (List Int)
 | 0, _, _, _, _, _, _, _, _ => none
 | k + 1, x3, x4, x457000, x457001, x457002, x457003, x457004, x457005 => if x4 < (x457005.length : Int) then (if 0 ≤ x4 then (if 0 < (x457005.length : Int) then ((spec_l3Bytes.f k ((rd_T63 x457005 x4).f0) ((rd_T63 x457005 x4).f1) ((rd_T63 x457005 x4).f2) ((rd_T63 x457005 x4).f3) ((rd_T63 x457005 x4).f4) ((rd_T63 x457005 x4).f5) ((rd_T63 x457005 0).f0) ((rd_T63 x457005 0).f1)).bind fun t463 => (if x3.length + t463.length < 17592186044416 then (spec_l5Body.l0 k (x3 ++ t463) (wrap64 (x4 + 1)) x457000 x457001 x457002 x457003 x457004 x457005) else (none))) else (none)) else (none)) else (some x3)
def spec_l5Body.f (k : Nat) (a0_0 : Bool) (a0_1 : Bool) (a0_2 : Int) (a0_3 : Int) (a0_4 : Int) (l0_5 : List (S63)) : Option (List Int) := spec_l5Body.l0 k (([] : List Int)) 0 a0_0 a0_1 a0_2 a0_3 a0_4 l0_5
def spec_l5Body.T5 : Bool × List (List Nat × List Nat) := (true, [([], []), ([], []), ([1], [1]), ([], []), ([2, 3], [2, 3]), ([4], [4]), ([], []), ([6], [6]), ([7], [7]), ([8], [8]), ([9], [9]), ([], []), ([11], [11]), ([12], [12]), ([13], [13]), ([14], [14]), ([5, 10, 15], [5, 10, 15]), ([0, 16, 16], [0, 16]), ([17, 17, 0, 1, 2, 3, 4, 5, 6, 7, 8, 9, 10, 11, 12, 13, 14, 15, 16, 17], [0, 17])])
def spec_l5Body.B5 : List Nat := [0, 0, 2, 0, 14, 30, 0, 64, 192, 448, 960, 0, 2048, 6144, 14336, 30720, 65534, 131071, 262143]
theorem spec_l5Body.tab5 : rtab .any (opsOf Try.f54 5) = spec_l5Body.T5 := by kernel_rfl
theorem spec_l5Body.bits5 : waitsOk spec_l5Body.T5.2 spec_l5Body.B5 = true := by kernel_rfl
set_option maxHeartbeats 8000000 in
set_option maxRecDepth 100000 in
theorem spec_l5Body.calls (k : Nat) (a0_0 : Bool) (a0_1 : Bool) (a0_2 : Int) (a0_3 : Int) (a0_4 : Int) (A0_5 : Option Addr) (c0_5 : Nat) (l0_5 : List (S63)) (r : List Int) (w : World) (hr0_5 : Kd.C k63 w A0_5 l0_5.length l0_5) (hc0_5 : l0_5.length ≤ c0_5) (h : spec_l5Body.f k a0_0 a0_1 a0_2 a0_3 a0_4 l0_5 = some r) :
  Calls Try.prog 54 #[.agg #[.bool a0_0, .bool a0_1, .int .i64 a0_2, .int .i64 a0_3, .int .i64 a0_4, .slice A0_5 l0_5.length c0_5]] w fun e w' => ∃ v0_ : Value, e = .returned (v0_) ∧ Kd.R (Kd.int .i64) 3 w' w.heap.size (fun _ => True) v0_ r ∧ Below w.heap.size w w' := by
 have hu46 := Try.underlying46
 have hu63 := Try.underlying63
 have HR0_5 := Aside0.mk hr0_5
 have HC0_5 := Aside0.mk hc0_5
 clear hr0_5 hc0_5
 have HB := Aside0.mk (Below.refl w.heap.size w)
 have H : (spec_l5Body.l0 k (([] : List Int)) 0 a0_0 a0_1 a0_2 a0_3 a0_4 l0_5) = some r := h
 clear h
 obtain ⟨y457, hy457⟩ : ∃ y_ : List Int, y_ = (([] : List Int)) := ⟨_, rfl⟩
 replace H : (spec_l5Body.l0 k y457 0 a0_0 a0_1 a0_2 a0_3 a0_4 l0_5) = some r := by first | (rw [hy457]; with_reducible exact H) | (have H2_ := (Option.bind_some _ _).symm.trans H; rw [hy457]; with_reducible exact H2_) | (have H2_ := (Option.bind_some _ _).symm.trans H; with_reducible exact H2_) | with_reducible exact H | (rw [hy457]; exact H) | exact H
 have Ny457 := Aside0.mk hy457
 clear hy457
 have H' := Aside0.mk H
 clear H
 go_enter Try.func54, Try.ntmps54
 go_wp2_with (first | ((with_reducible refine gate_dst (N := 1) rfl ?_); refine box_event ?hg (N := 1) ?hd (cs := #[.bool a0_0, .bool a0_1, .int .i64 a0_2, .int .i64 a0_3, .int .i64 a0_4, .slice A0_5 l0_5.length c0_5]) (t := 46) ?hr ?_; (case hd => rfl); (case hg => rfl); (case hr => first | (go_simp; done) | (go_simp; rfl)); intro gb456 hg w2 hbox hb; have BK456 := Aside0.mk (hbox); have GW456 := tge HB hg; have GE456 := tge HB hg; replace HB := tBs HB hb; clear hb hbox hg) | ((with_reducible refine gate_dst (N := 5) rfl ?_); refine Kd.R_lit (Kd.int .i64) _ 3 ?hg (N := 5) ?hd (xs := ([] : List Int)) (inner := []) (ok := fun _ => True) (okp := fun _ => True) ?hr ?hp (fun _ hk => hk) trivial (Below.refl _ _) (Nat.le_refl _) (by simp) ?_; (case hd => rfl); (case hg => rfl); (case hr => first | (go_simp; done) | (go_simp; rfl)); (case hp => exact (Reps.none _ _)); intro v458 w3 ho4 hb hg_ hnew_; clear hg_ hnew_; (first | rw [← Ny457.out] at ho4 | (simp only [Int.reduceToNat] at ho4; rw [← Ny457.out] at ho4)); have HO459 := tRl ho4 HB; replace BK456 := tBb BK456 hb; replace HB := tBs HB hb; clear hb ho4))
 go_loopg [3, 4] k (fun kq v3 v4 w' => ∃ (x3_1 : List Int) (x4_1 : Int), v4 = .int .i64 x4_1 ∧ Aside0 (spec_l5Body.l0 kq x3_1 x4_1 a0_0 a0_1 a0_2 a0_3 a0_4 l0_5 = some r) ∧ Aside0 (kq ≤ k) ∧ Aside0 (Kd.R (Kd.int .i64) 3 w' w.heap.size (fun _ => True) v3 x3_1) ∧ Aside0 (w'.heap[gb456]? = some (.cells #[.bool a0_0, .bool a0_1, .int .i64 a0_2, .int .i64 a0_3, .int .i64 a0_4, (.slice A0_5 l0_5.length c0_5)] 46 (0, 0))) ∧ Aside0 (Below w.heap.size w w'))
 case atStart => exact ⟨(y457), (0), tr, H', ⟨Nat.le_refl _⟩, ⟨tR HO459.out⟩, ⟨tH BK456.out⟩, ⟨zb⟩⟩
 case round =>
  clear H'
  obtain ⟨x3_1, x4_1, rfl, HA, HK1, HO_3, BK456, HB⟩ := hrel
  cases gk with
  | zero => exact absurd HA.out (by simp [spec_l5Body.l0])
  | succ k1 =>
   have H := HA.out
   clear HA
   simp only [spec_l5Body.l0] at H
   by_cases c5 : x4_1 < (l0_5.length : Int)
   ·rw [if_pos c5] at H
    have c5b0 : decide (x4_1 < (l0_5.length : Int)) = true := decide_eq_true c5
    clear c5
    by_cases c6 : 0 ≤ x4_1
    ·rw [if_pos c6] at H
     have c6b0 : decide (0 ≤ x4_1) = true := decide_eq_true c6
     clear c6
     by_cases c7 : 0 < (l0_5.length : Int)
     ·rw [if_pos c7] at H
      have c7b0 : decide (0 < (l0_5.length : Int)) = true := decide_eq_true c7
      have c7b1 : decide (0 < l0_5.length) = true := decide_eq_true (by omega)
      clear c7
      replace H := tbe H
      obtain ⟨t463, A8, H⟩ := H
      by_cases c9 : x3_1.length + t463.length < 17592186044416
      ·rw [if_pos c9] at H
       have LMc9 := Aside0.mk c9
       clear c9
       obtain ⟨y466, hy466⟩ : ∃ y_ : List Int, y_ = (x3_1 ++ t463) := ⟨_, rfl⟩
       replace H : (spec_l5Body.l0 k1 y466 (wrap64 (x4_1 + 1)) a0_0 a0_1 a0_2 a0_3 a0_4 l0_5) = some r := by first | (rw [hy466]; with_reducible exact H) | (have H2_ := (Option.bind_some _ _).symm.trans H; rw [hy466]; with_reducible exact H2_) | (have H2_ := (Option.bind_some _ _).symm.trans H; with_reducible exact H2_) | with_reducible exact H | (rw [hy466]; exact H) | exact H
       have Ny466 := Aside0.mk hy466
       clear hy466
       have H' := Aside0.mk H
       clear H
       obtain ⟨hcz10_0, hcz10_1, hcz10_2, hcz10_3, hcz10_4, hcz10_5, hfz10_0, hfz10_1, hfz10_2, hfz10_3, hfz10_4, hfz10_5⟩ := cells6 BK456.out
       try go_wp2
       replace HO_3 := Aside0.mk (Kd.R_drew HO_3.out)
       replace BK456 := Aside0.mk (blk_drew BK456.out)
       replace HB := Aside0.mk (below_drew1 HB.out)
       have p460 : 0 ≤ (x4_1 : Int) := td
       have q460 : x4_1 < (l0_5.length : Int) := td
       obtain ⟨ad460, A460_3, c460_3, A460_5, c460_5, e460, hx460_0, hx460_1, hx460_2, hx460_3, hx460_4, hx460_5, hl460_3, hi460_3, hl460_5, hi460_5⟩ := at_T63 HR0_5.out x4_1 p460 q460
       have hw460_5 := hx460_5
       have hw460_4 := hx460_4
       have hw460_3 := hx460_3
       have hw460_2 := hx460_2
       have hw460_1 := hx460_1
       have hw460_0 := hx460_0
       cases e460
       replace hx460_0 := tcl HB hx460_0
       replace hx460_1 := tcl HB hx460_1
       replace hx460_2 := tcl HB hx460_2
       replace hx460_3 := tcl HB hx460_3
       replace hx460_4 := tcl HB hx460_4
       replace hx460_5 := tcl HB hx460_5
       have HR460_3 := Aside0.mk hi460_3
       have HC460_3 := Aside0.mk hl460_3
       clear hi460_3 hl460_3
       have HR460_5 := Aside0.mk hi460_5
       have HC460_5 := Aside0.mk hl460_5
       clear hi460_5 hl460_5
       replace p460 := eq_true p460
       replace q460 := eq_true q460
       have p461 : 0 ≤ (0 : Int) := (by omega)
       have q461 : 0 < (l0_5.length : Int) := td
       obtain ⟨ad461, A461_3, c461_3, A461_5, c461_5, e461, hx461_0, hx461_1, hx461_2, hx461_3, hx461_4, hx461_5, hl461_3, hi461_3, hl461_5, hi461_5⟩ := at_T63 HR0_5.out 0 p461 q461
       have hw461_5 := hx461_5
       (try rw [show ((0 : Int)).toNat = 0 from rfl] at hw461_5)
       (try rw [show 0 * 6 = 0 from rfl] at hw461_5)
       (try rw [Addr.add_zero'] at hw461_5)
       have hw461_4 := hx461_4
       (try rw [show ((0 : Int)).toNat = 0 from rfl] at hw461_4)
       (try rw [show 0 * 6 = 0 from rfl] at hw461_4)
       (try rw [Addr.add_zero'] at hw461_4)
       have hw461_3 := hx461_3
       (try rw [show ((0 : Int)).toNat = 0 from rfl] at hw461_3)
       (try rw [show 0 * 6 = 0 from rfl] at hw461_3)
       (try rw [Addr.add_zero'] at hw461_3)
       have hw461_2 := hx461_2
       (try rw [show ((0 : Int)).toNat = 0 from rfl] at hw461_2)
       (try rw [show 0 * 6 = 0 from rfl] at hw461_2)
       (try rw [Addr.add_zero'] at hw461_2)
       have hw461_1 := hx461_1
       (try rw [show ((0 : Int)).toNat = 0 from rfl] at hw461_1)
       (try rw [show 0 * 6 = 0 from rfl] at hw461_1)
       (try rw [Addr.add_zero'] at hw461_1)
       have hw461_0 := hx461_0
       (try rw [show ((0 : Int)).toNat = 0 from rfl] at hw461_0)
       (try rw [show 0 * 6 = 0 from rfl] at hw461_0)
       (try rw [Addr.add_zero'] at hw461_0)
       obtain rfl : ad460 = ad461 := (by injection e461)
       have qi461 : (0 < l0_5.length) = True := eq_true (by omega)
       (try rw [show ((0 : Int)).toNat = 0 from rfl] at hx461_0)
       (try rw [show 0 * 6 = 0 from rfl] at hx461_0)
       (try rw [Addr.add_zero'] at hx461_0)
       (try rw [show ((0 : Int)).toNat = 0 from rfl] at hx461_1)
       (try rw [show 0 * 6 = 0 from rfl] at hx461_1)
       (try rw [Addr.add_zero'] at hx461_1)
       (try rw [show ((0 : Int)).toNat = 0 from rfl] at hx461_2)
       (try rw [show 0 * 6 = 0 from rfl] at hx461_2)
       (try rw [Addr.add_zero'] at hx461_2)
       (try rw [show ((0 : Int)).toNat = 0 from rfl] at hx461_3)
       (try rw [show 0 * 6 = 0 from rfl] at hx461_3)
       (try rw [Addr.add_zero'] at hx461_3)
       (try rw [show ((0 : Int)).toNat = 0 from rfl] at hx461_4)
       (try rw [show 0 * 6 = 0 from rfl] at hx461_4)
       (try rw [Addr.add_zero'] at hx461_4)
       (try rw [show ((0 : Int)).toNat = 0 from rfl] at hx461_5)
       (try rw [show 0 * 6 = 0 from rfl] at hx461_5)
       (try rw [Addr.add_zero'] at hx461_5)
       replace hx461_0 := tcl HB hx461_0
       replace hx461_1 := tcl HB hx461_1
       replace hx461_2 := tcl HB hx461_2
       replace hx461_3 := tcl HB hx461_3
       replace hx461_4 := tcl HB hx461_4
       replace hx461_5 := tcl HB hx461_5
       have HR461_3 := Aside0.mk hi461_3
       have HC461_3 := Aside0.mk hl461_3
       clear hi461_3 hl461_3
       have HR461_5 := Aside0.mk hi461_5
       have HC461_5 := Aside0.mk hl461_5
       clear hi461_5 hl461_5
       replace p461 := eq_true p461
       replace q461 := eq_true q461
       have p462 : 0 ≤ (0 : Int) := (by omega)
       have q462 : 0 < (l0_5.length : Int) := td
       obtain ⟨ad462, A462_3, c462_3, A462_5, c462_5, e462, hx462_0, hx462_1, hx462_2, hx462_3, hx462_4, hx462_5, hl462_3, hi462_3, hl462_5, hi462_5⟩ := at_T63 HR0_5.out 0 p462 q462
       have hw462_5 := hx462_5
       (try rw [show ((0 : Int)).toNat = 0 from rfl] at hw462_5)
       (try rw [show 0 * 6 = 0 from rfl] at hw462_5)
       (try rw [Addr.add_zero'] at hw462_5)
       have hw462_4 := hx462_4
       (try rw [show ((0 : Int)).toNat = 0 from rfl] at hw462_4)
       (try rw [show 0 * 6 = 0 from rfl] at hw462_4)
       (try rw [Addr.add_zero'] at hw462_4)
       have hw462_3 := hx462_3
       (try rw [show ((0 : Int)).toNat = 0 from rfl] at hw462_3)
       (try rw [show 0 * 6 = 0 from rfl] at hw462_3)
       (try rw [Addr.add_zero'] at hw462_3)
       have hw462_2 := hx462_2
       (try rw [show ((0 : Int)).toNat = 0 from rfl] at hw462_2)
       (try rw [show 0 * 6 = 0 from rfl] at hw462_2)
       (try rw [Addr.add_zero'] at hw462_2)
       have hw462_1 := hx462_1
       (try rw [show ((0 : Int)).toNat = 0 from rfl] at hw462_1)
       (try rw [show 0 * 6 = 0 from rfl] at hw462_1)
       (try rw [Addr.add_zero'] at hw462_1)
       have hw462_0 := hx462_0
       (try rw [show ((0 : Int)).toNat = 0 from rfl] at hw462_0)
       (try rw [show 0 * 6 = 0 from rfl] at hw462_0)
       (try rw [Addr.add_zero'] at hw462_0)
       obtain rfl : ad460 = ad462 := (by injection e462)
       have qi462 : (0 < l0_5.length) = True := eq_true (by omega)
       (try rw [show ((0 : Int)).toNat = 0 from rfl] at hx462_0)
       (try rw [show 0 * 6 = 0 from rfl] at hx462_0)
       (try rw [Addr.add_zero'] at hx462_0)
       (try rw [show ((0 : Int)).toNat = 0 from rfl] at hx462_1)
       (try rw [show 0 * 6 = 0 from rfl] at hx462_1)
       (try rw [Addr.add_zero'] at hx462_1)
       (try rw [show ((0 : Int)).toNat = 0 from rfl] at hx462_2)
       (try rw [show 0 * 6 = 0 from rfl] at hx462_2)
       (try rw [Addr.add_zero'] at hx462_2)
       (try rw [show ((0 : Int)).toNat = 0 from rfl] at hx462_3)
       (try rw [show 0 * 6 = 0 from rfl] at hx462_3)
       (try rw [Addr.add_zero'] at hx462_3)
       (try rw [show ((0 : Int)).toNat = 0 from rfl] at hx462_4)
       (try rw [show 0 * 6 = 0 from rfl] at hx462_4)
       (try rw [Addr.add_zero'] at hx462_4)
       (try rw [show ((0 : Int)).toNat = 0 from rfl] at hx462_5)
       (try rw [show 0 * 6 = 0 from rfl] at hx462_5)
       (try rw [Addr.add_zero'] at hx462_5)
       replace hx462_0 := tcl HB hx462_0
       replace hx462_1 := tcl HB hx462_1
       replace hx462_2 := tcl HB hx462_2
       replace hx462_3 := tcl HB hx462_3
       replace hx462_4 := tcl HB hx462_4
       replace hx462_5 := tcl HB hx462_5
       have HR462_3 := Aside0.mk hi462_3
       have HC462_3 := Aside0.mk hl462_3
       clear hi462_3 hl462_3
       have HR462_5 := Aside0.mk hi462_5
       have HC462_5 := Aside0.mk hl462_5
       clear hi462_5 hl462_5
       replace p462 := eq_true p462
       replace q462 := eq_true q462
       have ea_ := Option.some.inj (hx461_3.symm.trans hx462_3)
       injection ea_ with ea_ en_ ec_
       subst ea_
       subst ec_
       clear en_
       have ea_ := Option.some.inj (hx461_5.symm.trans hx462_5)
       injection ea_ with ea_ en_ ec_
       subst ea_
       subst ec_
       clear en_
       refine start_ (n := 19) (S := fun w' => w'.cell? ⟨gb456, 0, none⟩ = some (.bool a0_0) ∧ w'.cell? ⟨gb456, 1, none⟩ = some (.bool a0_1) ∧ w'.cell? ⟨gb456, 2, none⟩ = some (.int .i64 a0_2) ∧ w'.cell? ⟨gb456, 3, none⟩ = some (.int .i64 a0_3) ∧ w'.cell? ⟨gb456, 4, none⟩ = some (.int .i64 a0_4) ∧ w'.cell? ⟨gb456, 5, none⟩ = some (.slice (some ad460) l0_5.length c0_5) ∧ w'.cell? (ad460.add ((x4_1).toNat * 6)) = some (.int .i64 ((rd_T63 l0_5 x4_1).f0)) ∧ w'.cell? ⟨(ad460.add ((x4_1).toNat * 6)).block, (ad460.add ((x4_1).toNat * 6)).off + 1, none⟩ = some (.int .i64 ((rd_T63 l0_5 x4_1).f1)) ∧ w'.cell? ⟨(ad460.add ((x4_1).toNat * 6)).block, (ad460.add ((x4_1).toNat * 6)).off + 2, none⟩ = some (.bool ((rd_T63 l0_5 x4_1).f2)) ∧ w'.cell? ⟨(ad460.add ((x4_1).toNat * 6)).block, (ad460.add ((x4_1).toNat * 6)).off + 3, none⟩ = some (.slice A460_3 ((rd_T63 l0_5 x4_1).f3).length c460_3) ∧ w'.cell? ⟨(ad460.add ((x4_1).toNat * 6)).block, (ad460.add ((x4_1).toNat * 6)).off + 4, none⟩ = some (.bool ((rd_T63 l0_5 x4_1).f4)) ∧ w'.cell? ⟨(ad460.add ((x4_1).toNat * 6)).block, (ad460.add ((x4_1).toNat * 6)).off + 5, none⟩ = some (.slice A460_5 ((rd_T63 l0_5 x4_1).f5).length c460_5) ∧ w'.cell? ad460 = some (.int .i64 ((rd_T63 l0_5 0).f0)) ∧ w'.cell? ⟨ad460.block, ad460.off + 1, none⟩ = some (.int .i64 ((rd_T63 l0_5 0).f1)) ∧ w'.cell? ⟨ad460.block, ad460.off + 2, none⟩ = some (.bool ((rd_T63 l0_5 0).f2)) ∧ w'.cell? ⟨ad460.block, ad460.off + 3, none⟩ = some (.slice A461_3 ((rd_T63 l0_5 0).f3).length c461_3) ∧ w'.cell? ⟨ad460.block, ad460.off + 4, none⟩ = some (.bool ((rd_T63 l0_5 0).f4)) ∧ w'.cell? ⟨ad460.block, ad460.off + 5, none⟩ = some (.slice A461_5 ((rd_T63 l0_5 0).f5).length c461_5) ∧ w'.cell? ad460 = some (.int .i64 ((rd_T63 l0_5 0).f0)) ∧ w'.cell? ⟨ad460.block, ad460.off + 1, none⟩ = some (.int .i64 ((rd_T63 l0_5 0).f1)) ∧ w'.cell? ⟨ad460.block, ad460.off + 2, none⟩ = some (.bool ((rd_T63 l0_5 0).f2)) ∧ w'.cell? ⟨ad460.block, ad460.off + 3, none⟩ = some (.slice A461_3 ((rd_T63 l0_5 0).f3).length c461_3) ∧ w'.cell? ⟨ad460.block, ad460.off + 4, none⟩ = some (.bool ((rd_T63 l0_5 0).f4)) ∧ w'.cell? ⟨ad460.block, ad460.off + 5, none⟩ = some (.slice A461_5 ((rd_T63 l0_5 0).f5).length c461_5)) (ds := []) #[false, false, false, false, false, false, false, false, false, false, false, false, false, false, false, false, false, false, false] (by kernel_rfl) rfl rfl ⟨(blk_cell BK456.out 0).trans rfl, (blk_cell BK456.out 1).trans rfl, (blk_cell BK456.out 2).trans rfl, (blk_cell BK456.out 3).trans rfl, (blk_cell BK456.out 4).trans rfl, (blk_cell BK456.out 5).trans rfl, (tcl HB hw460_0), (tcl HB hw460_1), (tcl HB hw460_2), (tcl HB hw460_3), (tcl HB hw460_4), (tcl HB hw460_5), (tcl HB hw461_0), (tcl HB hw461_1), (tcl HB hw461_2), (tcl HB hw461_3), (tcl HB hw461_4), (tcl HB hw461_5), (tcl HB hw462_0), (tcl HB hw462_1), (tcl HB hw462_2), (tcl HB hw462_3), (tcl HB hw462_4), (tcl HB hw462_5)⟩ (fun hHeld => ?_); refine with_tabW spec_l5Body.tab5 spec_l5Body.bits5 (fun HT_ HW_ => ?_)
       generalize wr.drew = w11 at HO_3 BK456 HB HR460_3 HR460_5 HR461_3 HR461_5 HR462_3 HR462_5 hx460_0 hx460_1 hx460_2 hx460_3 hx460_4 hx460_5 hx461_0 hx461_1 hx461_2 hx461_3 hx461_4 hx461_5 hx462_0 hx462_1 hx462_2 hx462_3 hx462_4 hx462_5 hHeld ⊢
       refine tpu 0 (some 13) #[true, false, false, false, false, false, false, false, false, false, false, false, false, false, false, false, false, false, false] ?_
       refine tpu 1 (some 14) #[true, true, false, false, false, false, false, false, false, false, false, false, false, false, false, false, false, false, false] ?_
       refine tpu 3 (some 16) #[true, true, false, true, false, false, false, false, false, false, false, false, false, false, false, false, false, false, false] ?_
       refine tpu 6 (some 19) #[true, true, false, true, false, false, true, false, false, false, false, false, false, false, false, false, false, false, false] ?_
       refine tpu 11 (some 24) #[true, true, false, true, false, false, true, false, false, false, false, true, false, false, false, false, false, false, false] ?_
       refine tta 2 (some 15) #[true, true, true, true, false, false, true, false, false, false, false, true, false, false, false, false, false, false, false] hHeld ?_ (hy := by rintro w' ⟨s0, s1, s2, s3, s4, s5, s6, s7, s8, s9, s10, s11, s12, s13, s14, s15, s16, s17, s18, s19, s20, s21, s22, s23⟩; go_simp; with_reducible rfl)
       refine tpu 4 (some 17) #[true, true, true, true, true, false, true, false, false, false, false, true, false, false, false, false, false, false, false] ?_
       refine tta 5 (some 18) #[true, true, true, true, true, true, true, false, false, false, false, true, false, false, false, false, false, false, false] hHeld ?_ (hy := by rintro w' ⟨s0, s1, s2, s3, s4, s5, s6, s7, s8, s9, s10, s11, s12, s13, s14, s15, s16, s17, s18, s19, s20, s21, s22, s23⟩; go_simp; with_reducible rfl)
       refine tta 7 (some 20) #[true, true, true, true, true, true, true, true, false, false, false, true, false, false, false, false, false, false, false] hHeld ?_ (hy := by rintro w' ⟨s0, s1, s2, s3, s4, s5, s6, s7, s8, s9, s10, s11, s12, s13, s14, s15, s16, s17, s18, s19, s20, s21, s22, s23⟩; go_simp; with_reducible rfl)
       refine tpu 8 (some 21) #[true, true, true, true, true, true, true, true, true, false, false, true, false, false, false, false, false, false, false] ?_
       refine tpu 9 (some 22) #[true, true, true, true, true, true, true, true, true, true, false, true, false, false, false, false, false, false, false] ?_
       refine tta 10 (some 23) #[true, true, true, true, true, true, true, true, true, true, true, true, false, false, false, false, false, false, false] hHeld ?_ (hy := by rintro w' ⟨s0, s1, s2, s3, s4, s5, s6, s7, s8, s9, s10, s11, s12, s13, s14, s15, s16, s17, s18, s19, s20, s21, s22, s23⟩; go_simp; with_reducible rfl)
       refine tta 12 (some 25) #[true, true, true, true, true, true, true, true, true, true, true, true, true, false, false, false, false, false, false] hHeld ?_ (hy := by rintro w' ⟨s0, s1, s2, s3, s4, s5, s6, s7, s8, s9, s10, s11, s12, s13, s14, s15, s16, s17, s18, s19, s20, s21, s22, s23⟩; go_simp; with_reducible rfl)
       refine tpu 13 (some 26) #[true, true, true, true, true, true, true, true, true, true, true, true, true, true, false, false, false, false, false] ?_
       refine tpu 14 (some 27) #[true, true, true, true, true, true, true, true, true, true, true, true, true, true, true, false, false, false, false] ?_
       refine tta 15 (some 28) #[true, true, true, true, true, true, true, true, true, true, true, true, true, true, true, true, false, false, false] hHeld ?_ (hy := by rintro w' ⟨s0, s1, s2, s3, s4, s5, s6, s7, s8, s9, s10, s11, s12, s13, s14, s15, s16, s17, s18, s19, s20, s21, s22, s23⟩; go_simp; with_reducible rfl)
       refine one_ (i := 16) (N := some 29) #[true, true, true, true, true, true, true, true, true, true, true, true, true, true, true, true, true, false, false] rfl rfl (one_of HT_.out (by kernel_rfl)) (by decide) (fun K hK => ?_)
       refine goes_ Try.func72 (by kernel_rfl) rfl #[.agg #[.int .i64 ((rd_T63 l0_5 x4_1).f0), .int .i64 ((rd_T63 l0_5 x4_1).f1), .bool ((rd_T63 l0_5 x4_1).f2), .slice A460_3 ((rd_T63 l0_5 x4_1).f3).length c460_3, .bool ((rd_T63 l0_5 x4_1).f4), .slice A460_5 ((rd_T63 l0_5 x4_1).f5).length c460_5], .int .i64 ((rd_T63 l0_5 0).f0), .int .i64 ((rd_T63 l0_5 0).f1)] (by rfl) rfl rfl tq ?_
       with_reducible refine (spec_l3Bytes.calls k1 ((rd_T63 l0_5 x4_1).f0) ((rd_T63 l0_5 x4_1).f1) ((rd_T63 l0_5 x4_1).f2) _ _ ((rd_T63 l0_5 x4_1).f3) ((rd_T63 l0_5 x4_1).f4) _ _ ((rd_T63 l0_5 x4_1).f5) ((rd_T63 l0_5 0).f0) ((rd_T63 l0_5 0).f1) t463 _ ?side1 ?side2 ?side3 ?side4 A8.out).mono ?_
       (case side1 => exact tC (Kd.C_below HR460_3.out HB.out))
       (case side2 => exact HC460_3.out)
       (case side3 => exact tC (Kd.C_below HR460_5.out HB.out))
       (case side4 => exact HC460_5.out)
       rintro e w12 ⟨v464, rfl, ho0, hb⟩
       refine ⟨_, rfl, ?_⟩
       have HO465 := Aside0.mk (Kd.R_lower (Kd.R_new' ho0 (Kd.R_lt (tR HO_3.out))) (below_size zb))
       replace HO_3 := Aside0.mk (Kd.R_elder' (tR HO_3.out) (Kd.R_base ho0) hb)
       replace BK456 := tBb BK456 hb
       replace HB := tBs HB hb
       (try clear hb)
       (try clear hb2)
       (try clear hk)
       (try clear hi)
       (try clear ho0)
       obtain ⟨Ao14, co14, eo14⟩ := Kd.R_slice HO465.out
       (first | subst eo14 | (injection eo14 with f1_ f2_ f3_; have f4_ := f1_.symm; have f5_ := f3_.symm; clear f1_ f2_ f3_; subst f4_; subst f5_))
       refine hK.out _ _ ⟨(blk_cell BK456.out 0).trans rfl, (blk_cell BK456.out 1).trans rfl, (blk_cell BK456.out 2).trans rfl, (blk_cell BK456.out 3).trans rfl, (blk_cell BK456.out 4).trans rfl, (blk_cell BK456.out 5).trans rfl, (tcl HB hw460_0), (tcl HB hw460_1), (tcl HB hw460_2), (tcl HB hw460_3), (tcl HB hw460_4), (tcl HB hw460_5), (tcl HB hw461_0), (tcl HB hw461_1), (tcl HB hw461_2), (tcl HB hw461_3), (tcl HB hw461_4), (tcl HB hw461_5), (tcl HB hw462_0), (tcl HB hw462_1), (tcl HB hw462_2), (tcl HB hw462_3), (tcl HB hw462_4), (tcl HB hw462_5)⟩ (fun hHeld => ?_)
       clear hK K
       refine tnm (some 29) ?_
       refine one_ (i := 17) (N := some 30) #[true, true, true, true, true, true, true, true, true, true, true, true, true, true, true, true, true, true, false] rfl rfl (one_of HT_.out (by kernel_rfl)) (by decide) (fun K hK => ?_)
       refine Kd.R_append_rows_step (Kd.int .i64) (w0 := w) w.heap.size (by rfl) (.tmp 13) (.tmp 29) 26 3 (.int .i64 0) 8 rfl Try.underlying26 info3 rfl (by decide) (by omega) u3 x3_1 t463 _ _ _ (fun k_ => some k_ ≠ (.slice Ao14 t463.length co14 : Value).ownBlock) (fun _ => False) rfl rfl ?aO ?aR (fun _ _ h => h) (fun _ h => h.elim) ?aF ?aB ?aS ?aL ?_
       (case aR => repeat (first | exact (Kd.R_reads' HO465.out).2.2 | (with_reducible refine Kd.C_alloc ?_ _) | (with_reducible refine Kd.C_drewN ?_ _) | (with_reducible refine Kd.C_drew ?_)))
       (case aB => exact zb)
       (case aF => exact (fun k_ hk => Kd.fresh' (Kd.R_lt (tR HO465.out)) k_ hk))
       (case aO => exact (tRm HO_3.out))
       (case aS => exact (below_size zb))
       (case aL => have := LMc9.out; omega)
       intro v467 w13 ho hb hg hat
       rw [← Ny466.out] at ho
       replace BK456 := Aside0.mk (blk_grown (tH BK456.out) hg (Kd.R_ne HO_3.out BK456.out (by decide)))
       replace HO465 := Aside0.mk (Kd.R_after (ok := (fun _ => True)) (tR HO465.out) hg hat)
       replace HB := Aside0.mk (hb)
       have HO468 := Aside0.mk (ho)
       clear HO_3
       clear ho hb hg hat
       refine hK.out _ _ ⟨(blk_cell BK456.out 0).trans rfl, (blk_cell BK456.out 1).trans rfl, (blk_cell BK456.out 2).trans rfl, (blk_cell BK456.out 3).trans rfl, (blk_cell BK456.out 4).trans rfl, (blk_cell BK456.out 5).trans rfl, (tcl HB hw460_0), (tcl HB hw460_1), (tcl HB hw460_2), (tcl HB hw460_3), (tcl HB hw460_4), (tcl HB hw460_5), (tcl HB hw461_0), (tcl HB hw461_1), (tcl HB hw461_2), (tcl HB hw461_3), (tcl HB hw461_4), (tcl HB hw461_5), (tcl HB hw462_0), (tcl HB hw462_1), (tcl HB hw462_2), (tcl HB hw462_3), (tcl HB hw462_4), (tcl HB hw462_5)⟩ (fun hHeld => ?_)
       clear hK K
       refine tnm (some 30) ?_
       refine tpu 18 (some 3) #[true, true, true, true, true, true, true, true, true, true, true, true, true, true, true, true, true, true, true] ?_
       refine done_ (done_of HT_.out (by kernel_rfl)) ?_
       try go_wp2
       go_roundg k1
       case measure => have := HK1.out; omega
       case rel => exact ⟨(y466), (wrap64 (x4_1 + 1)), tr, H', ⟨by have := HK1.out; omega⟩, ⟨tRm HO468.out⟩, ⟨tH BK456.out⟩, ⟨zb⟩⟩
      ·rw [if_neg c9] at H
       exact absurd H (by simp)
     ·rw [if_neg c7] at H
      exact absurd H (by simp)
    ·rw [if_neg c6] at H
     exact absurd H (by simp)
   ·rw [if_neg c5] at H
    have c5b0 : decide (x4_1 < (l0_5.length : Int)) = false := decide_eq_false c5
    clear c5
    obtain rfl := Option.some.inj H
    obtain ⟨hcz15_0, hcz15_1, hcz15_2, hcz15_3, hcz15_4, hcz15_5, hfz15_0, hfz15_1, hfz15_2, hfz15_3, hfz15_4, hfz15_5⟩ := cells6 BK456.out
    go_wp2
    go_ret
    exact ⟨_, by first | rfl | (simp [errW_none, errW_some] <;> rfl) | (simp [*, errW_none, errW_some] <;> rfl), tR HO_3.out, zb⟩

def spec_l4Long.l0 : Nat → List Int → Int → Int → Int → Option (Int)
 | 0, _, _, _, _ => none
 | k + 1, x0, x1, x2, x7 => if (wrap64 (x1 + x7)) < (x0.length : Int) then (if x7 < 66 then (if 0 ≤ (wrap64 (x1 + x7)) then (if 0 ≤ (wrap64 ((wrap64 (x1 + x7)) - x2)) then (if (wrap64 ((wrap64 (x1 + x7)) - x2)) < (x0.length : Int) then (if (rd x0 (wrap64 (x1 + x7))) = (rd x0 (wrap64 ((wrap64 (x1 + x7)) - x2))) then (spec_l4Long.l0 k x0 x1 x2 (wrap64 (x7 + 1))) else (some x7)) else (none)) else (none)) else (none)) else (some x7)) else (some x7)
def spec_l4Long.f (k : Nat) (l0 : List Int) (a1 : Int) (a2 : Int) : Option (Int) := spec_l4Long.l0 k l0 a1 a2 0
set_option maxHeartbeats 8000000 in
set_option maxRecDepth 100000 in
theorem spec_l4Long.calls (k : Nat) (A0 : Option Addr) (c0 : Nat) (l0 : List Int) (a1 : Int) (a2 : Int) (r : Int) (w : World) (hr0 : Kd.C (Kd.int .i64) w A0 l0.length l0) (hc0 : l0.length ≤ c0) (h : spec_l4Long.f k l0 a1 a2 = some r) :
  Calls Try.prog 85 #[.slice A0 l0.length c0, .int .i64 a1, .int .i64 a2] w fun e w' => e = .returned (.int .i64 r) ∧ Drawn0 w w' := by
 have HR0 := Aside0.mk hr0
 have HC0 := Aside0.mk hc0
 clear hr0 hc0
 have H : (spec_l4Long.l0 k l0 a1 a2 0) = some r := h
 clear h
 have H' := Aside0.mk H
 clear H
 go_enter Try.func85, Try.ntmps85
 go_wp2
 repeat (go_quiet (fail); try go_wp2)
 go_loopg [7] k (fun kq v7 w' => ∃ (x7_1 : Int), v7 = .int .i64 x7_1 ∧ Aside0 (spec_l4Long.l0 kq l0 a1 a2 x7_1 = some r) ∧ Aside0 (kq ≤ k) ∧ Drawn0 w w')
 case atStart => exact ⟨(0), tr, H', ⟨Nat.le_refl _⟩, by repeat (first | exact Drawn0.refl _ | apply Drawn0.step)⟩
 case round =>
  clear H'
  obtain ⟨x7_1, rfl, HA, HK1, ⟨m1, rfl⟩⟩ := hrel
  cases gk with
  | zero => exact absurd HA.out (by simp [spec_l4Long.l0])
  | succ k1 =>
   have H := HA.out
   clear HA
   simp only [spec_l4Long.l0] at H
   by_cases c4 : (wrap64 (a1 + x7_1)) < (l0.length : Int)
   ·rw [if_pos c4] at H
    have c4b0 : decide ((wrap64 (a1 + x7_1)) < (l0.length : Int)) = true := decide_eq_true c4
    clear c4
    by_cases c5 : x7_1 < 66
    ·rw [if_pos c5] at H
     have c5b0 : decide (x7_1 < 66) = true := decide_eq_true c5
     clear c5
     obtain ⟨ji6, hji6⟩ : ∃ j_ : Int, (wrap64 (a1 + x7_1)) = j_ := ⟨_, rfl⟩
     replace H : (if 0 ≤ (ji6) then (if 0 ≤ (wrap64 ((ji6) - a2)) then (if (wrap64 ((ji6) - a2)) < (l0.length : Int) then (if (rd l0 (ji6)) = (rd l0 (wrap64 ((ji6) - a2))) then (spec_l4Long.l0 k1 l0 a1 a2 (wrap64 (x7_1 + 1))) else (some x7_1)) else (none)) else (none)) else (none)) = some r := by first | (rw [hji6] at H; exact H) | (simp only [hji6] at H ⊢; exact H)
     (try rw [hji6] at c4b0)
     have hji6w : (IntKind.i64.wrap (a1 + x7_1)) = ji6 := (i64_w _).trans hji6
     by_cases c7 : 0 ≤ (ji6)
     ·rw [if_pos c7] at H
      have c7b0 : decide (0 ≤ (ji6)) = true := decide_eq_true c7
      clear c7
      obtain ⟨ji8, hji8⟩ : ∃ j_ : Int, (wrap64 ((ji6) - a2)) = j_ := ⟨_, rfl⟩
      replace H : (if 0 ≤ (ji8) then (if (ji8) < (l0.length : Int) then (if (rd l0 (ji6)) = (rd l0 (ji8)) then (spec_l4Long.l0 k1 l0 a1 a2 (wrap64 (x7_1 + 1))) else (some x7_1)) else (none)) else (none)) = some r := by first | (rw [hji8] at H; exact H) | (simp only [hji8] at H ⊢; exact H)
      have hji8w : (IntKind.i64.wrap ((ji6) - a2)) = ji8 := (i64_w _).trans hji8
      by_cases c9 : 0 ≤ (ji8)
      ·rw [if_pos c9] at H
       have c9b0 : decide (0 ≤ (ji8)) = true := decide_eq_true c9
       clear c9
       by_cases c10 : (ji8) < (l0.length : Int)
       ·rw [if_pos c10] at H
        have c10b0 : decide ((ji8) < (l0.length : Int)) = true := decide_eq_true c10
        clear c10
        by_cases c11 : (rd l0 (ji6)) = (rd l0 (ji8))
        ·rw [if_pos c11] at H
         have c11b0 : ((rd l0 (ji6)) == (rd l0 (ji8))) = true := beq_iff_eq.mpr c11
         have c11b1 : ((rd l0 (ji6)) != (rd l0 (ji8))) = false := bne_eq_false_iff_eq.mpr c11
         clear c11
         have H' := Aside0.mk H
         clear H
         have p469 : 0 ≤ ((ji6) : Int) := td
         have q469 : (ji6) < (l0.length : Int) := td
         obtain ⟨ad469, e469, hx469_0⟩ := Kd.at_int HR0.out (ji6) p469 q469
         cases e469
         replace p469 := eq_true p469
         replace q469 := eq_true q469
         have p470 : 0 ≤ ((ji8) : Int) := td
         have q470 : (ji8) < (l0.length : Int) := td
         obtain ⟨ad470, e470, hx470_0⟩ := Kd.at_int HR0.out (ji8) p470 q470
         obtain rfl : ad469 = ad470 := (by injection e470)
         replace p470 := eq_true p470
         replace q470 := eq_true q470
         go_wp2
         repeat (go_quiet (fail); try go_wp2)
         go_roundg k1
         case measure => have := HK1.out; omega
         case rel => exact ⟨(wrap64 (x7_1 + 1)), tr, H', ⟨by have := HK1.out; omega⟩, by repeat (first | exact Drawn0.refl _ | apply Drawn0.step)⟩
        ·rw [if_neg c11] at H
         have c11b0 : ((rd l0 (ji6)) == (rd l0 (ji8))) = false := beq_eq_false_iff_ne.mpr c11
         have c11b1 : ((rd l0 (ji6)) != (rd l0 (ji8))) = true := bne_iff_ne.mpr c11
         obtain rfl := Option.some.inj H
         have p469 : 0 ≤ ((ji6) : Int) := td
         have q469 : (ji6) < (l0.length : Int) := td
         obtain ⟨ad469, e469, hx469_0⟩ := Kd.at_int HR0.out (ji6) p469 q469
         cases e469
         replace p469 := eq_true p469
         replace q469 := eq_true q469
         have p470 : 0 ≤ ((ji8) : Int) := td
         have q470 : (ji8) < (l0.length : Int) := td
         obtain ⟨ad470, e470, hx470_0⟩ := Kd.at_int HR0.out (ji8) p470 q470
         obtain rfl : ad469 = ad470 := (by injection e470)
         replace p470 := eq_true p470
         replace q470 := eq_true q470
         go_wp2
         repeat (go_quiet (fail); try go_wp2)
         go_ret
         exact ⟨by first | rfl | (simp; done) | (simp only [← hji6, ← hji8] <;> (first | rfl | simp)) | (simp [*]; done), by repeat (first | exact Drawn0.refl _ | apply Drawn0.step)⟩
       ·rw [if_neg c10] at H
        exact absurd H (by simp)
      ·rw [if_neg c9] at H
       exact absurd H (by simp)
     ·rw [if_neg c7] at H
      exact absurd H (by simp)
    ·rw [if_neg c5] at H
     have c5b0 : decide (x7_1 < 66) = false := decide_eq_false c5
     clear c5
     obtain rfl := Option.some.inj H
     go_wp2
     repeat (go_quiet (fail); try go_wp2)
     go_ret
     exact ⟨by first | rfl | (simp; done) | (simp [*]; done), by repeat (first | exact Drawn0.refl _ | apply Drawn0.step)⟩
   ·rw [if_neg c4] at H
    have c4b0 : decide ((wrap64 (a1 + x7_1)) < (l0.length : Int)) = false := decide_eq_false c4
    clear c4
    obtain rfl := Option.some.inj H
    go_wp2
    repeat (go_quiet (fail); try go_wp2)
    go_ret
    exact ⟨by first | rfl | (simp; done) | (simp [*]; done), by repeat (first | exact Drawn0.refl _ | apply Drawn0.step)⟩

def spec_l4Best.l0 : Nat → List Int → Int → Int → Int → Int → Option (Int × Int)
 | 0, _, _, _, _, _ => none
 | k + 1, x0, x1, x6, x7, x8 => if x8 ≤ (mn x1 200) then ((spec_l4Long.f k x0 x1 x8).bind fun t471 => (if t471 > x7 then (spec_l4Best.l0 k x0 x1 x8 t471 (wrap64 (x8 + 1))) else (spec_l4Best.l0 k x0 x1 x6 x7 (wrap64 (x8 + 1))))) else (some (x7, x6))
def spec_l4Best.f (k : Nat) (l0 : List Int) (a1 : Int) : Option (Int × Int) := spec_l4Best.l0 k l0 a1 0 0 1
set_option maxHeartbeats 8000000 in
set_option maxRecDepth 100000 in
theorem spec_l4Best.calls (k : Nat) (A0 : Option Addr) (c0 : Nat) (l0 : List Int) (a1 : Int) (r1 : Int) (r2 : Int) (w : World) (hr0 : Kd.C (Kd.int .i64) w A0 l0.length l0) (hc0 : l0.length ≤ c0) (h : spec_l4Best.f k l0 a1 = some (r1, r2)) :
  Calls Try.prog 73 #[.slice A0 l0.length c0, .int .i64 a1] w fun e w' => e = .returned (.tuple #[.int .i64 r1, .int .i64 r2]) ∧ Below w.heap.size w w' := by
 have HR0 := Aside0.mk hr0
 have HC0 := Aside0.mk hc0
 clear hr0 hc0
 have HB := Aside0.mk (Below.refl w.heap.size w)
 have H : (spec_l4Best.l0 k l0 a1 0 0 1) = some (r1, r2) := h
 clear h
 have H' := Aside0.mk H
 clear H
 go_enter Try.func73, Try.ntmps73
 go_wp2
 go_loopg [6, 7, 8] k (fun kq v6 v7 v8 w' => ∃ (x6_1 : Int) (x7_1 : Int) (x8_1 : Int), v6 = .int .i64 x6_1 ∧ v7 = .int .i64 x7_1 ∧ v8 = .int .i64 x8_1 ∧ Aside0 (spec_l4Best.l0 kq l0 a1 x6_1 x7_1 x8_1 = some (r1, r2)) ∧ Aside0 (kq ≤ k) ∧ Aside0 (Below w.heap.size w w'))
 case atStart => exact ⟨(0), (0), (1), tr, tr, tr, H', ⟨Nat.le_refl _⟩, ⟨zb⟩⟩
 case round =>
  clear H'
  obtain ⟨x6_1, x7_1, x8_1, rfl, rfl, rfl, HA, HK1, HB⟩ := hrel
  cases gk with
  | zero => exact absurd HA.out (by simp [spec_l4Best.l0])
  | succ k1 =>
   have H := HA.out
   clear HA
   simp only [spec_l4Best.l0] at H
   obtain ⟨ji3, hji3⟩ : ∃ j_ : Int, (mn a1 200) = j_ := ⟨_, rfl⟩
   replace H : (if x8_1 ≤ (ji3) then ((spec_l4Long.f k1 l0 a1 x8_1).bind fun t471 => (if t471 > x7_1 then (spec_l4Best.l0 k1 l0 a1 x8_1 t471 (wrap64 (x8_1 + 1))) else (spec_l4Best.l0 k1 l0 a1 x6_1 x7_1 (wrap64 (x8_1 + 1))))) else (some (x7_1, x6_1))) = some (r1, r2) := by first | (rw [hji3] at H; exact H) | (simp only [hji3] at H ⊢; exact H)
   have hji3_ : (if 200 < a1 then 200 else a1) = ji3 := hji3
   by_cases c4 : x8_1 ≤ (ji3)
   ·rw [if_pos c4] at H
    have c4b0 : decide (x8_1 ≤ (ji3)) = true := decide_eq_true c4
    clear c4
    replace H := tbe H
    obtain ⟨t471, A5, H⟩ := H
    by_cases c6 : t471 > x7_1
    ·rw [if_pos c6] at H
     have c6b0 : decide (x7_1 < t471) = true := decide_eq_true c6
     clear c6
     have H' := Aside0.mk H
     clear H
     go_wp2_with (first | ((with_reducible refine gate_callee (f := 85) rfl ?_); refine goesL_ (some 19) rfl rfl Try.func85 (by kernel_rfl) rfl #[.slice A0 l0.length c0, .int .i64 a1, .int .i64 x8_1] rfl tq ?_; (with_reducible refine (spec_l4Long.calls k1 _ _ l0 a1 x8_1 t471 _ ?side1 ?side2 A5.out).mono ?_); (case side1 => exact tC (Kd.C_below HR0.out HB.out)); (case side2 => exact HC0.out); rintro e w' ⟨rfl, ⟨nd, rfl⟩⟩; refine ⟨_, rfl, ?_⟩))
     go_roundg k1
     case measure => have := HK1.out; omega
     case rel => exact ⟨(x8_1), (t471), (wrap64 (x8_1 + 1)), tr, tr, tr, H', ⟨by have := HK1.out; omega⟩, ⟨zb⟩⟩
    ·rw [if_neg c6] at H
     have c6b0 : decide (x7_1 < t471) = false := decide_eq_false c6
     clear c6
     have H' := Aside0.mk H
     clear H
     go_wp2_with (first | ((with_reducible refine gate_callee (f := 85) rfl ?_); refine goesL_ (some 19) rfl rfl Try.func85 (by kernel_rfl) rfl #[.slice A0 l0.length c0, .int .i64 a1, .int .i64 x8_1] rfl tq ?_; (with_reducible refine (spec_l4Long.calls k1 _ _ l0 a1 x8_1 t471 _ ?side1 ?side2 A5.out).mono ?_); (case side1 => exact tC (Kd.C_below HR0.out HB.out)); (case side2 => exact HC0.out); rintro e w' ⟨rfl, ⟨nd, rfl⟩⟩; refine ⟨_, rfl, ?_⟩))
     go_roundg k1
     case measure => have := HK1.out; omega
     case rel => exact ⟨(x6_1), (x7_1), (wrap64 (x8_1 + 1)), tr, tr, tr, H', ⟨by have := HK1.out; omega⟩, ⟨zb⟩⟩
   ·rw [if_neg c4] at H
    have c4b0 : decide (x8_1 ≤ (ji3)) = false := decide_eq_false c4
    clear c4
    simp only [Option.some.injEq, Prod.mk.injEq] at H
    obtain ⟨rfl, rfl⟩ := H
    go_wp2
    go_ret2
    exact ⟨by first | rfl | (simp [errW_none, errW_some] <;> rfl) | (simp only [← hji3]; first | rfl | (simp [errW_none, errW_some] <;> rfl)) | (simp [*, errW_none, errW_some] <;> rfl), zb⟩

end Go.Proofs.Ythoioccmnphfgaa.G

