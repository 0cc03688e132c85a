/- A text of seat Ythoioccmnphfgaa: what the law FnExactLogSize needs of this repo's texts (by pack.py). Not trusted: Lean checks it. -/
import Derived.Test.YthoioccmnphfgaaKFnExactLogSize6
namespace Go.Proofs.Ythoioccmnphfgaa.G
open Go.RowKit Go.Proofs.YthoioccmnphfgaaW.PrintWords Go.Proofs.YthoioccmnphfgaaW.PrintLast Go.Proofs.YthoioccmnphfgaaW.PrintMore
attribute [local go_sem] max2_int min2_int max_two min_two max_three min_three max_four min_four   -- for this text's walks alone
set_option linter.unusedVariables false
set_option linter.unusedSimpArgs false

def spec_l1Fold.f (a0 : Int) : Option (Int) := if a0 < 0 then (some (wrap64 ((wrap64 ((-2) * a0)) - 1))) else (some (wrap64 (2 * a0)))
set_option maxHeartbeats 8000000 in
set_option maxRecDepth 100000 in
theorem spec_l1Fold.calls (a0 : Int) (r : Int) (w : World) (h : spec_l1Fold.f a0 = some r) :
  Calls Try.prog 89 #[.int .i64 a0] w fun e w' => e = .returned (.int .i64 r) ∧ Drawn0 w w' := by
 have H : (if a0 < 0 then (some (wrap64 ((wrap64 ((-2) * a0)) - 1))) else (some (wrap64 (2 * a0)))) = some r := h
 clear h
 by_cases c2 : a0 < 0
 ·rw [if_pos c2] at H
  have c2b0 : decide (a0 < 0) = true := decide_eq_true c2
  clear c2
  obtain rfl := Option.some.inj H
  go_enter Try.func89, Try.ntmps89
  go_wp2
  go_ret
  exact ⟨by first | rfl | (simp; done) | (simp [*]; done), by repeat (first | exact Drawn0.refl _ | apply Drawn0.step)⟩
 ·rw [if_neg c2] at H
  have c2b0 : decide (a0 < 0) = false := decide_eq_false c2
  clear c2
  obtain rfl := Option.some.inj H
  go_enter Try.func89, Try.ntmps89
  go_wp2
  go_ret
  exact ⟨by first | rfl | (simp; done) | (simp [*]; done), by repeat (first | exact Drawn0.refl _ | apply Drawn0.step)⟩

def spec_l1Bytes.l0 : Nat → Int → List Int → Option (List Int)
 | 0, _, _ => none
 | k + 1, x3, x4 => if x3 > 127 then (if x4.length < 17592186044416 then (spec_l1Bytes.l0 k (wrap64 (Int.tdiv x3 128)) (x4 ++ [wrap64 (128 + (Int.tmod x3 128))])) else (none)) else (if x4.length < 17592186044416 then (some (x4 ++ [x3])) else (none))
def spec_l1Bytes.f (k : Nat) (a0 : Int) : Option (List Int) := (spec_l1Fold.f a0).bind fun t409 => (spec_l1Bytes.l0 k t409 (([] : List Int)))
set_option maxHeartbeats 8000000 in
set_option maxRecDepth 100000 in
theorem spec_l1Bytes.calls (k : Nat) (a0 : Int) (r : List Int) (w : World) (h : spec_l1Bytes.f k a0 = some r) :
  Calls Try.prog 83 #[.int .i64 a0] w fun e w' => ∃ v0_ : Value, e = .returned (v0_) ∧ Kd.R (Kd.int .i64) 3 w' w.heap.size (fun _ => True) v0_ r ∧ Below w.heap.size w w' := by
 have HB := Aside0.mk (Below.refl w.heap.size w)
 have H : ((spec_l1Fold.f a0).bind fun t409 => (spec_l1Bytes.l0 k t409 (([] : List Int)))) = some r := h
 clear h
 replace H := tbe H
 obtain ⟨t409, A2, H⟩ := H
 obtain ⟨y410, hy410⟩ : ∃ y_ : List Int, y_ = (([] : List Int)) := ⟨_, rfl⟩
 replace H : (spec_l1Bytes.l0 k t409 y410) = some r := by first | (rw [hy410]; with_reducible exact H) | (have H2_ := (Option.bind_some _ _).symm.trans H; rw [hy410]; with_reducible exact H2_) | (have H2_ := (Option.bind_some _ _).symm.trans H; with_reducible exact H2_) | with_reducible exact H | (rw [hy410]; exact H) | exact H
 have Ny410 := Aside0.mk hy410
 clear hy410
 have H' := Aside0.mk H
 clear H
 go_enter Try.func83, Try.ntmps83
 go_wp2_with (first | ((with_reducible refine gate_callee (f := 89) rfl ?_); refine goesL_ (some 6) rfl rfl Try.func89 (by kernel_rfl) rfl #[.int .i64 a0] rfl tq ?_; (with_reducible refine (spec_l1Fold.calls a0 t409 _ A2.out).mono ?_); rintro e w' ⟨rfl, ⟨nd, rfl⟩⟩; refine ⟨_, rfl, ?_⟩) | ((with_reducible refine gate_dst (N := 7) rfl ?_); refine Kd.R_lit (Kd.int .i64) _ 3 ?hg (N := 7) ?hd (xs := ([] : List Int)) (inner := []) (ok := fun _ => True) (okp := fun _ => True) ?hr ?hp (fun _ hk => hk) trivial (Below.refl _ _) (Nat.le_refl _) (by simp) ?_; (case hd => rfl); (case hg => rfl); (case hr => first | (go_simp; done) | (go_simp; rfl)); (case hp => exact (Reps.none _ _)); intro v411 w3 ho4 hb hg_ hnew_; clear hg_ hnew_; (first | rw [← Ny410.out] at ho4 | (simp only [Int.reduceToNat] at ho4; rw [← Ny410.out] at ho4)); have HO412 := tRl ho4 HB; replace HB := tBs HB hb; clear hb ho4))
 go_loopg [3, 4] k (fun kq v3 v4 w' => ∃ (x3_1 : Int) (x4_1 : List Int), v3 = .int .i64 x3_1 ∧ Aside0 (spec_l1Bytes.l0 kq x3_1 x4_1 = some r) ∧ Aside0 (kq ≤ k) ∧ Aside0 (Kd.R (Kd.int .i64) 3 w' w.heap.size (fun _ => True) v4 x4_1) ∧ Aside0 (Below w.heap.size w w'))
 case atStart => exact ⟨(t409), (y410), tr, H', ⟨Nat.le_refl _⟩, ⟨tR HO412.out⟩, ⟨zb⟩⟩
 case round =>
  clear H'
  obtain ⟨x3_1, x4_1, rfl, HA, HK1, HO_4, HB⟩ := hrel
  cases gk with
  | zero => exact absurd HA.out (by simp [spec_l1Bytes.l0])
  | succ k1 =>
   have H := HA.out
   clear HA
   simp only [spec_l1Bytes.l0] at H
   by_cases c5 : x3_1 > 127
   ·rw [if_pos c5] at H
    have c5b0 : decide (127 < x3_1) = true := decide_eq_true c5
    clear c5
    by_cases c6 : x4_1.length < 17592186044416
    ·rw [if_pos c6] at H
     have LMc6 := Aside0.mk c6
     clear c6
     obtain ⟨y413, hy413⟩ : ∃ y_ : List Int, y_ = (x4_1 ++ [wrap64 (128 + (Int.tmod x3_1 128))]) := ⟨_, rfl⟩
     replace H : (spec_l1Bytes.l0 k1 (wrap64 (Int.tdiv x3_1 128)) y413) = some r := by first | (rw [hy413]; with_reducible exact H) | (have H2_ := (Option.bind_some _ _).symm.trans H; rw [hy413]; with_reducible exact H2_) | (have H2_ := (Option.bind_some _ _).symm.trans H; with_reducible exact H2_) | with_reducible exact H | (rw [hy413]; exact H) | exact H
     have Ny413 := Aside0.mk hy413
     clear hy413
     have H' := Aside0.mk H
     clear H
     go_wp2_with (first | ((with_reducible refine gate_builtin (b := .append) (xs := #[.tmp 10, .tmp 14]) rfl ?_); at_builtin; refine Kd.R_append (Kd.int .i64) (w0 := w) w.heap.size rfl (.tmp 10) (.tmp 14) 26 3 (.int .i64 0) 8 rfl Try.underlying26 info3 rfl (by decide) (by omega) u4 x4_1 (wrap64 (128 + (Int.tmod x3_1 128))) [.int .i64 (wrap64 (128 + (Int.tmod x3_1 128)))] (fun _ => True) (fun _ => False) rfl rfl ?aP (fun _ hk => hk.elim) ?aF ?aO ?aB ?aS ?aL ?_; (case aP => exact rfl); (case aB => exact zb); (case aF => exact (fun _ _ => trivial)); (case aO => exact (tR HO_4.out)); (case aS => exact (below_size zb)); (case aL => have := LMc6.out; omega); intro v414 w7 ho hb hg hat; rw [← Ny413.out] at ho; replace HB := Aside0.mk (hb); have HO415 := Aside0.mk (ho); clear HO_4; clear ho hb hg hat))
     go_roundg k1
     case measure => have := HK1.out; omega
     case rel => exact ⟨(wrap64 (Int.tdiv x3_1 128)), (y413), tr, H', ⟨by have := HK1.out; omega⟩, ⟨tR HO415.out⟩, ⟨zb⟩⟩
    ·rw [if_neg c6] at H
     exact absurd H (by simp)
   ·rw [if_neg c5] at H
    have c5b0 : decide (127 < x3_1) = false := decide_eq_false c5
    clear c5
    by_cases c8 : x4_1.length < 17592186044416
    ·rw [if_pos c8] at H
     have LMc8 := Aside0.mk c8
     clear c8
     obtain ⟨y416, hy416⟩ : ∃ y_ : List Int, y_ = (x4_1 ++ [x3_1]) := ⟨_, rfl⟩
     replace H : (some y416) = some r := by first | (rw [hy416]; with_reducible exact H) | (have H2_ := (Option.bind_some _ _).symm.trans H; rw [hy416]; with_reducible exact H2_) | (have H2_ := (Option.bind_some _ _).symm.trans H; with_reducible exact H2_) | with_reducible exact H | (rw [hy416]; exact H) | exact H
     have Ny416 := Aside0.mk hy416
     clear hy416
     obtain rfl := Option.some.inj H
     go_wp2_with (first | ((with_reducible refine gate_builtin (b := .append) (xs := #[.tmp 18, .tmp 20]) rfl ?_); at_builtin; refine Kd.R_append (Kd.int .i64) (w0 := w) w.heap.size rfl (.tmp 18) (.tmp 20) 26 3 (.int .i64 0) 8 rfl Try.underlying26 info3 rfl (by decide) (by omega) u4 x4_1 x3_1 [.int .i64 x3_1] (fun _ => True) (fun _ => False) rfl rfl ?aP (fun _ hk => hk.elim) ?aF ?aO ?aB ?aS ?aL ?_; (case aP => exact rfl); (case aB => exact zb); (case aF => exact (fun _ _ => trivial)); (case aO => exact (tR HO_4.out)); (case aS => exact (below_size zb)); (case aL => have := LMc8.out; omega); intro v417 w9 ho hb hg hat; rw [← Ny416.out] at ho; replace HB := Aside0.mk (hb); have HO418 := Aside0.mk (ho); clear HO_4; clear ho hb hg hat))
     go_ret
     exact ⟨_, by first | rfl | (simp [errW_none, errW_some] <;> rfl) | (simp [*, errW_none, errW_some] <;> rfl), tR HO418.out, zb⟩
    ·rw [if_neg c8] at H
     exact absurd H (by simp)

def spec_l3Put.f (k : Nat) (a0 : Bool) (l1 : List Int) : Option (List Int) := if a0 = true then ((spec_l1Bytes.f k (l1.length : Int)).bind fun t419 => (if t419.length + l1.length < 17592186044416 then (some (t419 ++ l1)) else (none))) else ((spec_l1Bytes.f k (-1)).bind fun t425 => (some t425))
set_option maxHeartbeats 8000000 in
set_option maxRecDepth 100000 in
theorem spec_l3Put.calls (k : Nat) (a0 : Bool) (A1 : Option Addr) (c1 : Nat) (l1 : List Int) (r : List Int) (w : World) (hr1 : Kd.C (Kd.int .i64) w A1 l1.length l1) (hc1 : l1.length ≤ c1) (h : spec_l3Put.f k a0 l1 = some r) :
  Calls Try.prog 84 #[.bool a0, .slice A1 l1.length c1] w fun e w' => ∃ v0_ : Value, e = .returned (v0_) ∧ Kd.R (Kd.int .i64) 3 w' w.heap.size (fun _ => True) v0_ r ∧ Below w.heap.size w w' := by
 have HR1 := Aside0.mk hr1
 have HC1 := Aside0.mk hc1
 clear hr1 hc1
 have HB := Aside0.mk (Below.refl w.heap.size w)
 have H : (if a0 = true then ((spec_l1Bytes.f k (l1.length : Int)).bind fun t419 => (if t419.length + l1.length < 17592186044416 then (some (t419 ++ l1)) else (none))) else ((spec_l1Bytes.f k (-1)).bind fun t425 => (some t425))) = some r := h
 clear h
 by_cases c3 : a0 = true
 ·subst c3
  rw [if_pos rfl] at H
  replace H := tbe H
  obtain ⟨t419, A4, H⟩ := H
  by_cases c5 : t419.length + l1.length < 17592186044416
  ·rw [if_pos c5] at H
   have LMc5 := Aside0.mk c5
   clear c5
   obtain ⟨y422, hy422⟩ : ∃ y_ : List Int, y_ = (t419 ++ l1) := ⟨_, rfl⟩
   replace H : (some y422) = some r := by first | (rw [hy422]; with_reducible exact H) | (have H2_ := (Option.bind_some _ _).symm.trans H; rw [hy422]; with_reducible exact H2_) | (have H2_ := (Option.bind_some _ _).symm.trans H; with_reducible exact H2_) | with_reducible exact H | (rw [hy422]; exact H) | exact H
   have Ny422 := Aside0.mk hy422
   clear hy422
   obtain rfl := Option.some.inj H
   go_enter Try.func84, Try.ntmps84
   go_wp2_with (first | ((with_reducible refine gate_callee (f := 83) rfl ?_); refine goesL_ (some 10) rfl rfl Try.func83 (by kernel_rfl) rfl #[.int .i64 (l1.length : Int)] rfl tq ?_; (with_reducible refine (spec_l1Bytes.calls k (l1.length : Int) t419 _ A4.out).mono ?_); rintro e w6 ⟨v420, rfl, ho0, hb⟩; have u_v420 := tsv Try.prog v420 ho0; refine ⟨_, rfl, ?_⟩; have HO421 := tRl ho0 HB; replace HB := tBs HB hb; (try clear hb); (try clear hb2); (try clear hk); (try clear hi); (try clear ho0)) | ((with_reducible refine gate_builtin (b := .append) (xs := #[.tmp 10, .tmp 11]) rfl ?_); at_builtin; refine Kd.R_append_rows (Kd.int .i64) (w0 := w) w.heap.size rfl (.tmp 10) (.tmp 11) 26 3 (.int .i64 0) 8 rfl Try.underlying26 info3 rfl (by decide) (by omega) v420 t419 l1 _ _ _ (fun _ => True) (fun _ => False) rfl rfl ?aO ?aR (fun _ _ h => h) (fun _ h => h.elim) ?aF ?aB ?aS ?aL ?_; (case aR => exact tC (Kd.C_below HR1.out HB.out)); (case aB => exact zb); (case aF => exact (fun _ _ => trivial)); (case aO => exact (tR HO421.out)); (case aS => exact (below_size zb)); (case aL => have := LMc5.out; omega); intro v423 w7 ho hb hg hat; rw [← Ny422.out] at ho; replace HB := Aside0.mk (hb); have HO424 := Aside0.mk (ho); clear HO421; clear ho hb hg hat))
   go_ret
   exact ⟨_, by first | rfl | (simp [errW_none, errW_some] <;> rfl) | (simp [*, errW_none, errW_some] <;> rfl), tR HO424.out, zb⟩
  ·rw [if_neg c5] at H
   exact absurd H (by simp)
 ·replace c3 := Bool.eq_false_iff.mpr c3
  subst c3
  rw [if_neg (show ¬ (false = true) by decide)] at H
  replace H := tbe H
  obtain ⟨t425, A8, H⟩ := H
  obtain rfl := Option.some.inj H
  go_enter Try.func84, Try.ntmps84
  go_wp2_with (first | ((with_reducible refine gate_callee (f := 83) rfl ?_); refine goesL_ (some 7) rfl rfl Try.func83 (by kernel_rfl) rfl #[.int .i64 (-1)] rfl tq ?_; (with_reducible refine (spec_l1Bytes.calls k (-1) t425 _ A8.out).mono ?_); rintro e w9 ⟨v426, rfl, ho0, hb⟩; have u_v426 := tsv Try.prog v426 ho0; refine ⟨_, rfl, ?_⟩; have HO427 := tRl ho0 HB; replace HB := tBs HB hb; (try clear hb); (try clear hb2); (try clear hk); (try clear hi); (try clear ho0)))
  go_ret
  exact ⟨_, by first | rfl | (simp [errW_none, errW_some] <;> rfl) | (simp [*, errW_none, errW_some] <;> rfl), tR HO427.out, zb⟩

def spec_l3Bytes.f (k : Nat) (a0_0 : Int) (a0_1 : Int) (a0_2 : Bool) (l0_3 : List Int) (a0_4 : Bool) (l0_5 : List Int) (a1 : Int) (a2 : Int) : Option (List Int) := (spec_l1Bytes.f k (wrap64 (a0_1 - a2))).bind fun t429 => ((spec_l1Bytes.f k (wrap64 (a0_0 - a1))).bind fun t432 => (if t429.length + t432.length < 17592186044416 then ((some (t429 ++ t432 : List Int)).bind fun y435 => ((spec_l3Put.f k a0_2 l0_3).bind fun t438 => (if y435.length + t438.length < 17592186044416 then ((some (y435 ++ t438 : List Int)).bind fun y441 => ((spec_l3Put.f k a0_4 l0_5).bind fun t444 => (if y441.length + t444.length < 17592186044416 then ((some (y441 ++ t444 : List Int)).bind fun y447 => ((spec_l1Bytes.f k (y447.length : Int)).bind fun t450 => (if t450.length + y447.length < 17592186044416 then (some (t450 ++ y447)) else (none)))) else (none)))) else (none)))) else (none)))
def spec_l3Bytes.T1 : Bool × List (List Nat × List Nat) := (true, [([], []), ([0], [0]), ([], []), ([1, 2], [1, 2]), ([3], [3]), ([], []), ([5], [5]), ([], []), ([6, 7], [6, 7]), ([8, 4], [8]), ([4, 9, 9], [4, 9]), ([10, 10, 0, 1, 2, 3, 4, 5, 6, 7, 8, 9, 10], [10])])
def spec_l3Bytes.B1 : List Nat := [0, 1, 0, 7, 15, 0, 32, 0, 224, 511, 1023, 2047]
theorem spec_l3Bytes.tab1 : rtab .any (opsOf Try.f72 1) = spec_l3Bytes.T1 := by kernel_rfl
theorem spec_l3Bytes.bits1 : waitsOk spec_l3Bytes.T1.2 spec_l3Bytes.B1 = true := by kernel_rfl
set_option maxHeartbeats 8000000 in
set_option maxRecDepth 100000 in
theorem spec_l3Bytes.calls (k : Nat) (a0_0 : Int) (a0_1 : Int) (a0_2 : Bool) (A0_3 : Option Addr) (c0_3 : Nat) (l0_3 : List Int) (a0_4 : Bool) (A0_5 : Option Addr) (c0_5 : Nat) (l0_5 : List Int) (a1 : Int) (a2 : Int) (r : List Int) (w : World) (hr0_3 : Kd.C (Kd.int .i64) w A0_3 l0_3.length l0_3) (hc0_3 : l0_3.length ≤ c0_3) (hr0_5 : Kd.C (Kd.int .i64) w A0_5 l0_5.length l0_5) (hc0_5 : l0_5.length ≤ c0_5) (h : spec_l3Bytes.f k a0_0 a0_1 a0_2 l0_3 a0_4 l0_5 a1 a2 = some r) :
  Calls Try.prog 72 #[.agg #[.int .i64 a0_0, .int .i64 a0_1, .bool a0_2, .slice A0_3 l0_3.length c0_3, .bool a0_4, .slice A0_5 l0_5.length c0_5], .int .i64 a1, .int .i64 a2] w fun e w' => ∃ v0_ : Value, e = .returned (v0_) ∧ Kd.R (Kd.int .i64) 3 w' w.heap.size (fun _ => True) v0_ r ∧ Below w.heap.size w w' := by
 have hu63 := Try.underlying63
 have HR0_3 := Aside0.mk hr0_3
 have HC0_3 := Aside0.mk hc0_3
 clear hr0_3 hc0_3
 have HR0_5 := Aside0.mk hr0_5
 have HC0_5 := Aside0.mk hc0_5
 clear hr0_5 hc0_5
 have HB := Aside0.mk (Below.refl w.heap.size w)
 have H : ((spec_l1Bytes.f k (wrap64 (a0_1 - a2))).bind fun t429 => ((spec_l1Bytes.f k (wrap64 (a0_0 - a1))).bind fun t432 => (if t429.length + t432.length < 17592186044416 then ((some (t429 ++ t432 : List Int)).bind fun y435 => ((spec_l3Put.f k a0_2 l0_3).bind fun t438 => (if y435.length + t438.length < 17592186044416 then ((some (y435 ++ t438 : List Int)).bind fun y441 => ((spec_l3Put.f k a0_4 l0_5).bind fun t444 => (if y441.length + t444.length < 17592186044416 then ((some (y441 ++ t444 : List Int)).bind fun y447 => ((spec_l1Bytes.f k (y447.length : Int)).bind fun t450 => (if t450.length + y447.length < 17592186044416 then (some (t450 ++ y447)) else (none)))) else (none)))) else (none)))) else (none)))) = some r := h
 clear h
 replace H := tbe H
 obtain ⟨t429, A4, H⟩ := H
 replace H := tbe H
 obtain ⟨t432, A5, H⟩ := H
 by_cases c6 : t429.length + t432.length < 17592186044416
 ·rw [if_pos c6] at H
  have LMc6 := Aside0.mk c6
  clear c6
  obtain ⟨y435, hy435⟩ : ∃ y_ : List Int, y_ = (t429 ++ t432) := ⟨_, rfl⟩
  replace H : ((spec_l3Put.f k a0_2 l0_3).bind fun t438 => (if y435.length + t438.length < 17592186044416 then ((some (y435 ++ t438 : List Int)).bind fun y441 => ((spec_l3Put.f k a0_4 l0_5).bind fun t444 => (if y441.length + t444.length < 17592186044416 then ((some (y441 ++ t444 : List Int)).bind fun y447 => ((spec_l1Bytes.f k (y447.length : Int)).bind fun t450 => (if t450.length + y447.length < 17592186044416 then (some (t450 ++ y447)) else (none)))) else (none)))) else (none))) = some r := by first | (rw [hy435]; with_reducible exact H) | (have H2_ := (Option.bind_some _ _).symm.trans H; rw [hy435]; with_reducible exact H2_) | (have H2_ := (Option.bind_some _ _).symm.trans H; with_reducible exact H2_) | with_reducible exact H | (rw [hy435]; exact H) | exact H
  have Ny435 := Aside0.mk hy435
  clear hy435
  replace H := tbe H
  obtain ⟨t438, A7, H⟩ := H
  by_cases c8 : y435.length + t438.length < 17592186044416
  ·rw [if_pos c8] at H
   have LMc8 := Aside0.mk c8
   clear c8
   obtain ⟨y441, hy441⟩ : ∃ y_ : List Int, y_ = (y435 ++ t438) := ⟨_, rfl⟩
   replace H : ((spec_l3Put.f k a0_4 l0_5).bind fun t444 => (if y441.length + t444.length < 17592186044416 then ((some (y441 ++ t444 : List Int)).bind fun y447 => ((spec_l1Bytes.f k (y447.length : Int)).bind fun t450 => (if t450.length + y447.length < 17592186044416 then (some (t450 ++ y447)) else (none)))) else (none))) = some r := by first | (rw [hy441]; with_reducible exact H) | (have H2_ := (Option.bind_some _ _).symm.trans H; rw [hy441]; with_reducible exact H2_) | (have H2_ := (Option.bind_some _ _).symm.trans H; with_reducible exact H2_) | with_reducible exact H | (rw [hy441]; exact H) | exact H
   have Ny441 := Aside0.mk hy441
   clear hy441
   replace H := tbe H
   obtain ⟨t444, A9, H⟩ := H
   by_cases c10 : y441.length + t444.length < 17592186044416
   ·rw [if_pos c10] at H
    have LMc10 := Aside0.mk c10
    clear c10
    obtain ⟨y447, hy447⟩ : ∃ y_ : List Int, y_ = (y441 ++ t444) := ⟨_, rfl⟩
    replace H : ((spec_l1Bytes.f k (y447.length : Int)).bind fun t450 => (if t450.length + y447.length < 17592186044416 then (some (t450 ++ y447)) else (none))) = some r := by first | (rw [hy447]; with_reducible exact H) | (have H2_ := (Option.bind_some _ _).symm.trans H; rw [hy447]; with_reducible exact H2_) | (have H2_ := (Option.bind_some _ _).symm.trans H; with_reducible exact H2_) | with_reducible exact H | (rw [hy447]; exact H) | exact H
    have Ny447 := Aside0.mk hy447
    clear hy447
    replace H := tbe H
    obtain ⟨t450, A11, H⟩ := H
    by_cases c12 : t450.length + y447.length < 17592186044416
    ·rw [if_pos c12] at H
     have LMc12 := Aside0.mk c12
     clear c12
     obtain ⟨y453, hy453⟩ : ∃ y_ : List Int, y_ = (t450 ++ y447) := ⟨_, rfl⟩
     replace H : (some y453) = some r := by first | (rw [hy453]; with_reducible exact H) | (have H2_ := (Option.bind_some _ _).symm.trans H; rw [hy453]; with_reducible exact H2_) | (have H2_ := (Option.bind_some _ _).symm.trans H; with_reducible exact H2_) | with_reducible exact H | (rw [hy453]; exact H) | exact H
     have Ny453 := Aside0.mk hy453
     clear hy453
     obtain rfl := Option.some.inj H
     go_enter Try.func72, Try.ntmps72
     try go_wp2_with (first | ((with_reducible refine gate_dst (N := 3) rfl ?_); refine box_event ?hg (N := 3) ?hd (cs := #[.int .i64 a0_0, .int .i64 a0_1, .bool a0_2, .slice A0_3 l0_3.length c0_3, .bool a0_4, .slice A0_5 l0_5.length c0_5]) (t := 63) ?hr ?_; (case hd => rfl); (case hg => rfl); (case hr => first | (go_simp; done) | (go_simp; rfl)); intro gb428 hg w13 hbox hb; have BK428 := Aside0.mk (hbox); have GW428 := tge HB hg; have GE428 := tge HB hg; replace HB := tBs HB hb; clear hb hbox hg))
     replace BK428 := Aside0.mk (blk_drew BK428.out)
     replace HB := Aside0.mk (below_drew1 HB.out)
     refine start_ (n := 12) (S := fun w' => w'.cell? ⟨gb428, 0, none⟩ = some (.int .i64 a0_0) ∧ w'.cell? ⟨gb428, 1, none⟩ = some (.int .i64 a0_1) ∧ w'.cell? ⟨gb428, 2, none⟩ = some (.bool a0_2) ∧ w'.cell? ⟨gb428, 3, none⟩ = some (.slice A0_3 l0_3.length c0_3) ∧ w'.cell? ⟨gb428, 4, none⟩ = some (.bool a0_4) ∧ w'.cell? ⟨gb428, 5, none⟩ = some (.slice A0_5 l0_5.length c0_5)) (ds := []) #[false, false, false, false, false, false, false, false, false, false, false, false] (by kernel_rfl) rfl rfl ⟨(blk_cell BK428.out 0).trans rfl, (blk_cell BK428.out 1).trans rfl, (blk_cell BK428.out 2).trans rfl, (blk_cell BK428.out 3).trans rfl, (blk_cell BK428.out 4).trans rfl, (blk_cell BK428.out 5).trans rfl⟩ (fun hHeld => ?_); refine with_tabW spec_l3Bytes.tab1 spec_l3Bytes.bits1 (fun HT_ HW_ => ?_)
     generalize w13.drew = w14 at BK428 HB hHeld ⊢
     refine tpu 0 (some 8) #[true, false, false, false, false, false, false, false, false, false, false, false] ?_
     refine tpu 2 (some 10) #[true, false, true, false, false, false, false, false, false, false, false, false] ?_
     refine tpu 5 (some 13) #[true, false, true, false, false, true, false, false, false, false, false, false] ?_
     refine tpu 7 (some 15) #[true, false, true, false, false, true, false, true, false, false, false, false] ?_
     refine tta 1 (some 9) #[true, true, true, false, false, true, false, true, false, false, false, false] hHeld ?_ (hy := by rintro w' ⟨s0, s1, s2, s3, s4, s5⟩; go_simp; with_reducible rfl)
     refine tpu 3 (some 11) #[true, true, true, true, false, true, false, true, false, false, false, false] ?_
     refine tta 6 (some 14) #[true, true, true, true, false, true, true, true, false, false, false, false] hHeld ?_ (hy := by rintro w' ⟨s0, s1, s2, s3, s4, s5⟩; go_simp; with_reducible rfl)
     refine tpu 8 (some 16) #[true, true, true, true, false, true, true, true, true, false, false, false] ?_
     refine one_ (i := 4) (N := some 12) #[true, true, true, true, true, true, true, true, true, false, false, false] rfl rfl (one_of HT_.out (by kernel_rfl)) (by decide) (fun K hK => ?_)
     refine goes_ Try.func83 (by kernel_rfl) rfl #[.int .i64 (wrap64 (a0_1 - a2))] (by rfl) rfl rfl tq ?_
     with_reducible refine (spec_l1Bytes.calls k (wrap64 (a0_1 - a2)) t429 _ A4.out).mono ?_
     rintro e w15 ⟨v430, rfl, ho0, hb⟩
     refine ⟨_, rfl, ?_⟩
     have HO431 := tRl ho0 HB
     replace BK428 := tBb BK428 hb
     replace HB := tBs HB hb
     (try clear hb)
     (try clear hb2)
     (try clear hk)
     (try clear hi)
     (try clear ho0)
     refine hK.out _ _ ⟨(blk_cell BK428.out 0).trans rfl, (blk_cell BK428.out 1).trans rfl, (blk_cell BK428.out 2).trans rfl, (blk_cell BK428.out 3).trans rfl, (blk_cell BK428.out 4).trans rfl, (blk_cell BK428.out 5).trans rfl⟩ (fun hHeld => ?_)
     clear hK K
     refine tnm (some 12) ?_
     refine one_ (i := 9) (N := some 17) #[true, true, true, true, true, true, true, true, true, true, false, false] rfl rfl (one_of HT_.out (by kernel_rfl)) (by decide) (fun K hK => ?_)
     refine goes_ Try.func83 (by kernel_rfl) rfl #[.int .i64 (wrap64 (a0_0 - a1))] (by rfl) rfl rfl tq ?_
     with_reducible refine (spec_l1Bytes.calls k (wrap64 (a0_0 - a1)) t432 _ A5.out).mono ?_
     rintro e w16 ⟨v433, rfl, ho0, hb⟩
     refine ⟨_, rfl, ?_⟩
     have HO434 := Aside0.mk (Kd.R_lower (Kd.R_new' ho0 (Kd.R_lt (tR HO431.out))) (below_size zb))
     replace HO431 := Aside0.mk (Kd.R_elder' (tR HO431.out) (Kd.R_base ho0) hb)
     replace BK428 := tBb BK428 hb
     replace HB := tBs HB hb
     (try clear hb)
     (try clear hb2)
     (try clear hk)
     (try clear hi)
     (try clear ho0)
     obtain ⟨Ao18, co18, eo18⟩ := Kd.R_slice HO434.out
     (first | subst eo18 | (injection eo18 with f1_ f2_ f3_; have f4_ := f1_.symm; have f5_ := f3_.symm; clear f1_ f2_ f3_; subst f4_; subst f5_))
     refine hK.out _ _ ⟨(blk_cell BK428.out 0).trans rfl, (blk_cell BK428.out 1).trans rfl, (blk_cell BK428.out 2).trans rfl, (blk_cell BK428.out 3).trans rfl, (blk_cell BK428.out 4).trans rfl, (blk_cell BK428.out 5).trans rfl⟩ (fun hHeld => ?_)
     clear hK K
     refine tnm (some 17) ?_
     refine one_ (i := 10) (N := some 18) #[true, true, true, true, true, true, true, true, true, true, true, false] rfl rfl (one_of HT_.out (by kernel_rfl)) (by decide) (fun K hK => ?_)
     refine Kd.R_append_rows_step (Kd.int .i64) (w0 := w) w.heap.size (by rfl) (.tmp 12) (.tmp 17) 26 3 (.int .i64 0) 8 rfl Try.underlying26 info3 rfl (by decide) (by omega) v430 t429 t432 _ _ _ (fun k_ => some k_ ≠ (.slice Ao18 t432.length co18 : Value).ownBlock) (fun _ => False) rfl rfl ?aO ?aR (fun _ _ h => h) (fun _ h => h.elim) ?aF ?aB ?aS ?aL ?_
     (case aR => repeat (first | exact (Kd.R_reads' HO434.out).2.2 | (with_reducible refine Kd.C_alloc ?_ _) | (with_reducible refine Kd.C_drewN ?_ _) | (with_reducible refine Kd.C_drew ?_)))
     (case aB => exact zb)
     (case aF => exact (fun k_ hk => Kd.fresh' (Kd.R_lt (tR HO434.out)) k_ hk))
     (case aO => exact (tRm HO431.out))
     (case aS => exact (below_size zb))
     (case aL => have := LMc6.out; omega)
     intro v436 w17 ho hb hg hat
     rw [← Ny435.out] at ho
     replace BK428 := Aside0.mk (blk_grown (tH BK428.out) hg (Kd.R_ne HO431.out BK428.out (by decide)))
     replace HO434 := Aside0.mk (Kd.R_after (ok := (fun _ => True)) (tR HO434.out) hg hat)
     replace HB := Aside0.mk (hb)
     have HO437 := Aside0.mk (ho)
     clear HO431
     clear ho hb hg hat
     refine hK.out _ _ ⟨(blk_cell BK428.out 0).trans rfl, (blk_cell BK428.out 1).trans rfl, (blk_cell BK428.out 2).trans rfl, (blk_cell BK428.out 3).trans rfl, (blk_cell BK428.out 4).trans rfl, (blk_cell BK428.out 5).trans rfl⟩ (fun hHeld => ?_)
     clear hK K
     refine tnm (some 18) ?_
     refine tpu 11 (some 7) #[true, true, true, true, true, true, true, true, true, true, true, true] ?_
     refine done_ (done_of HT_.out (by kernel_rfl)) ?_
     obtain ⟨hcz19_0, hcz19_1, hcz19_2, hcz19_3, hcz19_4, hcz19_5, hfz19_0, hfz19_1, hfz19_2, hfz19_3, hfz19_4, hfz19_5⟩ := cells6 BK428.out
     try go_wp2_with (first | ((with_reducible refine gate_callee (f := 84) rfl ?_); refine goesL_ (some 24) rfl rfl Try.func84 (by kernel_rfl) rfl #[.bool a0_2, .slice A0_3 l0_3.length c0_3] rfl tq ?_; (with_reducible refine (spec_l3Put.calls k a0_2 _ _ l0_3 t438 _ ?side1 ?side2 A7.out).mono ?_); (case side1 => exact tC (Kd.C_below HR0_3.out HB.out)); (case side2 => exact HC0_3.out); rintro e w20 ⟨v439, rfl, ho0, hb⟩; have u_v439 := tsv Try.prog v439 ho0; refine ⟨_, rfl, ?_⟩; have HO440 := Aside0.mk (Kd.R_lower (Kd.R_new' (Kd.R_new' ho0 (Kd.R_lt (tR HO434.out))) (Kd.R_lt (tR HO437.out))) (below_size zb)); replace HO434 := Aside0.mk (Kd.R_elder' (tR HO434.out) (Kd.R_base ho0) hb); replace HO437 := Aside0.mk (Kd.R_elder' (tR HO437.out) (Kd.R_base ho0) hb); replace BK428 := tBb BK428 hb; replace HB := tBs HB hb; (try clear hb); (try clear hb2); (try clear hk); (try clear hi); (try clear ho0); obtain ⟨Ao22, co22, eo22⟩ := Kd.R_slice HO440.out; subst eo22) | ((with_reducible refine gate_builtin (b := .append) (xs := #[.tmp 19, .tmp 24]) rfl ?_); at_builtin; refine Kd.R_append_rows (Kd.int .i64) (w0 := w) w.heap.size rfl (.tmp 19) (.tmp 24) 26 3 (.int .i64 0) 8 rfl Try.underlying26 info3 rfl (by decide) (by omega) v436 y435 t438 _ _ _ (fun k_ => some k_ ≠ (.slice Ao18 t432.length co18 : Value).ownBlock ∧ some k_ ≠ (.slice Ao22 t438.length co22 : Value).ownBlock) (fun _ => False) rfl rfl ?aO ?aR (fun _ _ h => h) (fun _ h => h.elim) ?aF ?aB ?aS ?aL ?_; (case aR => repeat (first | exact (Kd.R_reads' HO440.out).2.2 | (with_reducible refine Kd.C_alloc ?_ _) | (with_reducible refine Kd.C_drewN ?_ _) | (with_reducible refine Kd.C_drew ?_))); (case aB => exact zb); (case aF => exact (fun k_ hk => ⟨Kd.fresh' (Kd.R_lt (tR HO434.out)) k_ hk, Kd.fresh' (Kd.R_lt (tR HO440.out)) k_ hk⟩)); (case aO => exact (tR HO437.out)); (case aS => exact (below_size zb)); (case aL => have := LMc8.out; omega); intro v442 w21 ho hb hg hat; rw [← Ny441.out] at ho; replace BK428 := Aside0.mk (blk_grown (tH BK428.out) hg (Kd.R_ne HO437.out BK428.out (by decide))); replace HO434 := Aside0.mk (Kd.R_after (ok := (fun k_ => some k_ ≠ (.slice Ao22 t438.length co22 : Value).ownBlock)) (tRm HO434.out) hg hat); replace HO440 := Aside0.mk (Kd.R_after (ok := (fun k_ => some k_ ≠ (.slice Ao18 t432.length co18 : Value).ownBlock)) (tRm HO440.out) hg hat); replace HB := Aside0.mk (hb); have HO443 := Aside0.mk (ho); clear HO437; clear ho hb hg hat; obtain ⟨hcz23_0, hcz23_1, hcz23_2, hcz23_3, hcz23_4, hcz23_5, hfz23_0, hfz23_1, hfz23_2, hfz23_3, hfz23_4, hfz23_5⟩ := cells6 BK428.out) | ((with_reducible refine gate_callee (f := 84) rfl ?_); refine goesL_ (some 31) rfl rfl Try.func84 (by kernel_rfl) rfl #[.bool a0_4, .slice A0_5 l0_5.length c0_5] rfl tq ?_; (with_reducible refine (spec_l3Put.calls k a0_4 _ _ l0_5 t444 _ ?side1 ?side2 A9.out).mono ?_); (case side1 => exact tC (Kd.C_below HR0_5.out HB.out)); (case side2 => exact HC0_5.out); rintro e w24 ⟨v445, rfl, ho0, hb⟩; have u_v445 := tsv Try.prog v445 ho0; refine ⟨_, rfl, ?_⟩; have HO446 := Aside0.mk (Kd.R_lower (Kd.R_new' (Kd.R_new' (Kd.R_new' ho0 (Kd.R_lt (tR HO434.out))) (Kd.R_lt (tR HO440.out))) (Kd.R_lt (tR HO443.out))) (below_size zb)); replace HO434 := Aside0.mk (Kd.R_elder' (tR HO434.out) (Kd.R_base ho0) hb); replace HO440 := Aside0.mk (Kd.R_elder' (tR HO440.out) (Kd.R_base ho0) hb); replace HO443 := Aside0.mk (Kd.R_elder' (tR HO443.out) (Kd.R_base ho0) hb); replace BK428 := tBb BK428 hb; replace HB := tBs HB hb; (try clear hb); (try clear hb2); (try clear hk); (try clear hi); (try clear ho0); obtain ⟨Ao26, co26, eo26⟩ := Kd.R_slice HO446.out; subst eo26) | ((with_reducible refine gate_builtin (b := .append) (xs := #[.tmp 26, .tmp 31]) rfl ?_); at_builtin; refine Kd.R_append_rows (Kd.int .i64) (w0 := w) w.heap.size rfl (.tmp 26) (.tmp 31) 26 3 (.int .i64 0) 8 rfl Try.underlying26 info3 rfl (by decide) (by omega) v442 y441 t444 _ _ _ (fun k_ => some k_ ≠ (.slice Ao18 t432.length co18 : Value).ownBlock ∧ some k_ ≠ (.slice Ao22 t438.length co22 : Value).ownBlock ∧ some k_ ≠ (.slice Ao26 t444.length co26 : Value).ownBlock) (fun _ => False) rfl rfl ?aO ?aR (fun _ _ h => h) (fun _ h => h.elim) ?aF ?aB ?aS ?aL ?_; (case aR => repeat (first | exact (Kd.R_reads' HO446.out).2.2 | (with_reducible refine Kd.C_alloc ?_ _) | (with_reducible refine Kd.C_drewN ?_ _) | (with_reducible refine Kd.C_drew ?_))); (case aB => exact zb); (case aF => exact (fun k_ hk => ⟨Kd.fresh' (Kd.R_lt (tR HO434.out)) k_ hk, Kd.fresh' (Kd.R_lt (tR HO440.out)) k_ hk, Kd.fresh' (Kd.R_lt (tR HO446.out)) k_ hk⟩)); (case aO => exact (tRm HO443.out)); (case aS => exact (below_size zb)); (case aL => have := LMc10.out; omega); intro v448 w25 ho hb hg hat; rw [← Ny447.out] at ho; replace BK428 := Aside0.mk (blk_grown (tH BK428.out) hg (Kd.R_ne HO443.out BK428.out (by decide))); replace HO434 := Aside0.mk (Kd.R_after (ok := (fun k_ => some k_ ≠ (.slice Ao22 t438.length co22 : Value).ownBlock ∧ some k_ ≠ (.slice Ao26 t444.length co26 : Value).ownBlock)) (tRm HO434.out) hg hat); replace HO440 := Aside0.mk (Kd.R_after (ok := (fun k_ => some k_ ≠ (.slice Ao18 t432.length co18 : Value).ownBlock ∧ some k_ ≠ (.slice Ao26 t444.length co26 : Value).ownBlock)) (tRm HO440.out) hg hat); replace HO446 := Aside0.mk (Kd.R_after (ok := (fun k_ => some k_ ≠ (.slice Ao18 t432.length co18 : Value).ownBlock ∧ some k_ ≠ (.slice Ao22 t438.length co22 : Value).ownBlock)) (tRm HO446.out) hg hat); replace HB := Aside0.mk (hb); have HO449 := Aside0.mk (ho); clear HO443; clear ho hb hg hat; obtain ⟨Ao27, co27, eo27⟩ := Kd.R_slice HO449.out; subst eo27) | ((with_reducible refine gate_callee (f := 83) rfl ?_); refine goesL_ (some 35) rfl rfl Try.func83 (by kernel_rfl) rfl #[.int .i64 (y447.length : Int)] rfl tq ?_; (with_reducible refine (spec_l1Bytes.calls k (y447.length : Int) t450 _ A11.out).mono ?_); rintro e w28 ⟨v451, rfl, ho0, hb⟩; have u_v451 := tsv Try.prog v451 ho0; refine ⟨_, rfl, ?_⟩; have HO452 := Aside0.mk (Kd.R_lower (Kd.R_new' (Kd.R_new' (Kd.R_new' (Kd.R_new' ho0 (Kd.R_lt (tR HO434.out))) (Kd.R_lt (tR HO440.out))) (Kd.R_lt (tR HO446.out))) (Kd.R_lt (tR HO449.out))) (below_size zb)); replace HO434 := Aside0.mk (Kd.R_elder' (tR HO434.out) (Kd.R_base ho0) hb); replace HO440 := Aside0.mk (Kd.R_elder' (tR HO440.out) (Kd.R_base ho0) hb); replace HO446 := Aside0.mk (Kd.R_elder' (tR HO446.out) (Kd.R_base ho0) hb); replace HO449 := Aside0.mk (Kd.R_elder' (tR HO449.out) (Kd.R_base ho0) hb); replace BK428 := tBb BK428 hb; replace HB := tBs HB hb; (try clear hb); (try clear hb2); (try clear hk); (try clear hi); (try clear ho0)) | ((with_reducible refine gate_builtin (b := .append) (xs := #[.tmp 35, .tmp 36]) rfl ?_); at_builtin; refine Kd.R_append_rows (Kd.int .i64) (w0 := w) w.heap.size rfl (.tmp 35) (.tmp 36) 26 3 (.int .i64 0) 8 rfl Try.underlying26 info3 rfl (by decide) (by omega) v451 t450 y447 _ _ _ (fun k_ => some k_ ≠ (.slice Ao18 t432.length co18 : Value).ownBlock ∧ some k_ ≠ (.slice Ao22 t438.length co22 : Value).ownBlock ∧ some k_ ≠ (.slice Ao26 t444.length co26 : Value).ownBlock ∧ some k_ ≠ (.slice Ao27 y447.length co27 : Value).ownBlock) (fun _ => False) rfl rfl ?aO ?aR (fun _ _ h => h) (fun _ h => h.elim) ?aF ?aB ?aS ?aL ?_; (case aR => repeat (first | exact (Kd.R_reads' HO449.out).2.2 | (with_reducible refine Kd.C_alloc ?_ _) | (with_reducible refine Kd.C_drewN ?_ _) | (with_reducible refine Kd.C_drew ?_))); (case aB => exact zb); (case aF => exact (fun k_ hk => ⟨Kd.fresh' (Kd.R_lt (tR HO434.out)) k_ hk, Kd.fresh' (Kd.R_lt (tR HO440.out)) k_ hk, Kd.fresh' (Kd.R_lt (tR HO446.out)) k_ hk, Kd.fresh' (Kd.R_lt (tR HO449.out)) k_ hk⟩)); (case aO => exact (tRm HO452.out)); (case aS => exact (below_size zb)); (case aL => have := LMc12.out; omega); intro v454 w29 ho hb hg hat; rw [← Ny453.out] at ho; replace BK428 := Aside0.mk (blk_grown (tH BK428.out) hg (Kd.R_ne HO452.out BK428.out (by decide))); replace HO434 := Aside0.mk (Kd.R_after (ok := (fun k_ => some k_ ≠ (.slice Ao22 t438.length co22 : Value).ownBlock ∧ some k_ ≠ (.slice Ao26 t444.length co26 : Value).ownBlock ∧ some k_ ≠ (.slice Ao27 y447.length co27 : Value).ownBlock)) (tRm HO434.out) hg hat); replace HO440 := Aside0.mk (Kd.R_after (ok := (fun k_ => some k_ ≠ (.slice Ao18 t432.length co18 : Value).ownBlock ∧ some k_ ≠ (.slice Ao26 t444.length co26 : Value).ownBlock ∧ some k_ ≠ (.slice Ao27 y447.length co27 : Value).ownBlock)) (tRm HO440.out) hg hat); replace HO446 := Aside0.mk (Kd.R_after (ok := (fun k_ => some k_ ≠ (.slice Ao18 t432.length co18 : Value).ownBlock ∧ some k_ ≠ (.slice Ao22 t438.length co22 : Value).ownBlock ∧ some k_ ≠ (.slice Ao27 y447.length co27 : Value).ownBlock)) (tRm HO446.out) hg hat); replace HO449 := Aside0.mk (Kd.R_after (ok := (fun k_ => some k_ ≠ (.slice Ao18 t432.length co18 : Value).ownBlock ∧ some k_ ≠ (.slice Ao22 t438.length co22 : Value).ownBlock ∧ some k_ ≠ (.slice Ao26 t444.length co26 : Value).ownBlock)) (tR HO449.out) hg hat); replace HB := Aside0.mk (hb); have HO455 := Aside0.mk (ho); clear HO452; clear ho hb hg hat))
     go_ret
     exact ⟨_, by first | rfl | (simp [errW_none, errW_some] <;> rfl) | (simp [*, errW_none, errW_some] <;> rfl), tRm HO455.out, zb⟩
    ·rw [if_neg c12] at H
     exact absurd H (by simp)
   ·rw [if_neg c10] at H
    exact absurd H (by simp)
  ·rw [if_neg c8] at H
   exact absurd H (by simp)
 ·rw [if_neg c6] at H
  exact absurd H (by simp)

end Go.Proofs.Ythoioccmnphfgaa.G

namespace Go.Proofs.Ythoioccmnphfgaa.G
open Go.RowKit Go.Proofs.YthoioccmnphfgaaW.PrintWords Go.Proofs.YthoioccmnphfgaaW.PrintLast Go.Proofs.YthoioccmnphfgaaW.PrintMore
attribute [local go_sem] max2_int min2_int max_two min_two max_three min_three max_four min_four   -- for this text's walks alone
set_option linter.unusedVariables false
set_option linter.unusedSimpArgs false

def spec_l5Body.l0 : Nat → List Int → Int → Bool → Bool → Int → Int → Int → List (S63) → Option (List Int)
 | 0, _, _, _, _, _, _, _, _ => none
 | k + 1, x3, x4, x457000, x457001, x457002, x457003, x457004, x457005 => if x4 < (x457005.length : Int) then (if 0 ≤ x4 then (if 0 < (x457005.length : Int) then ((spec_l3Bytes.f k ((rd_T63 x457005 x4).f0) ((rd_T63 x457005 x4).f1) ((rd_T63 x457005 x4).f2) ((rd_T63 x457005 x4).f3) ((rd_T63 x457005 x4).f4) ((rd_T63 x457005 x4).f5) ((rd_T63 x457005 0).f0) ((rd_T63 x457005 0).f1)).bind fun t463 => (if x3.length + t463.length < 17592186044416 then (spec_l5Body.l0 k (x3 ++ t463) (wrap64 (x4 + 1)) x457000 x457001 x457002 x457003 x457004 x457005) else (none))) else (none)) else (none)) else (some x3)
def spec_l5Body.f (k : Nat) (a0_0 : Bool) (a0_1 : Bool) (a0_2 : Int) (a0_3 : Int) (a0_4 : Int) (l0_5 : List (S63)) : Option (List Int) := spec_l5Body.l0 k (([] : List Int)) 0 a0_0 a0_1 a0_2 a0_3 a0_4 l0_5
def spec_l5Body.T5 : Bool × List (List Nat × List Nat) := (true, [([], []), ([], []), ([1], [1]), ([], []), ([2, 3], [2, 3]), ([4], [4]), ([], []), ([6], [6]), ([7], [7]), ([8], [8]), ([9], [9]), ([], []), ([11], [11]), ([12], [12]), ([13], [13]), ([14], [14]), ([5, 10, 15], [5, 10, 15]), ([0, 16, 16], [0, 16]), ([17, 17, 0, 1, 2, 3, 4, 5, 6, 7, 8, 9, 10, 11, 12, 13, 14, 15, 16, 17], [0, 17])])
def spec_l5Body.B5 : List Nat := [0, 0, 2, 0, 14, 30, 0, 64, 192, 448, 960, 0, 2048, 6144, 14336, 30720, 65534, 131071, 262143]
theorem spec_l5Body.tab5 : rtab .any (opsOf Try.f54 5) = spec_l5Body.T5 := by kernel_rfl
theorem spec_l5Body.bits5 : waitsOk spec_l5Body.T5.2 spec_l5Body.B5 = true := by kernel_rfl
set_option maxHeartbeats 8000000 in
set_option maxRecDepth 100000 in
theorem spec_l5Body.calls (k : Nat) (a0_0 : Bool) (a0_1 : Bool) (a0_2 : Int) (a0_3 : Int) (a0_4 : Int) (A0_5 : Option Addr) (c0_5 : Nat) (l0_5 : List (S63)) (r : List Int) (w : World) (hr0_5 : Kd.C k63 w A0_5 l0_5.length l0_5) (hc0_5 : l0_5.length ≤ c0_5) (h : spec_l5Body.f k a0_0 a0_1 a0_2 a0_3 a0_4 l0_5 = some r) :
  Calls Try.prog 54 #[.agg #[.bool a0_0, .bool a0_1, .int .i64 a0_2, .int .i64 a0_3, .int .i64 a0_4, .slice A0_5 l0_5.length c0_5]] w fun e w' => ∃ v0_ : Value, e = .returned (v0_) ∧ Kd.R (Kd.int .i64) 3 w' w.heap.size (fun _ => True) v0_ r ∧ Below w.heap.size w w' := by
 have hu46 := Try.underlying46
 have hu63 := Try.underlying63
 have HR0_5 := Aside0.mk hr0_5
 have HC0_5 := Aside0.mk hc0_5
 clear hr0_5 hc0_5
 have HB := Aside0.mk (Below.refl w.heap.size w)
 have H : (spec_l5Body.l0 k (([] : List Int)) 0 a0_0 a0_1 a0_2 a0_3 a0_4 l0_5) = some r := h
 clear h
 obtain ⟨y457, hy457⟩ : ∃ y_ : List Int, y_ = (([] : List Int)) := ⟨_, rfl⟩
 replace H : (spec_l5Body.l0 k y457 0 a0_0 a0_1 a0_2 a0_3 a0_4 l0_5) = some r := by first | (rw [hy457]; with_reducible exact H) | (have H2_ := (Option.bind_some _ _).symm.trans H; rw [hy457]; with_reducible exact H2_) | (have H2_ := (Option.bind_some _ _).symm.trans H; with_reducible exact H2_) | with_reducible exact H | (rw [hy457]; exact H) | exact H
 have Ny457 := Aside0.mk hy457
 clear hy457
 have H' := Aside0.mk H
 clear H
 go_enter Try.func54, Try.ntmps54
 go_wp2_with (first | ((with_reducible refine gate_dst (N := 1) rfl ?_); refine box_event ?hg (N := 1) ?hd (cs := #[.bool a0_0, .bool a0_1, .int .i64 a0_2, .int .i64 a0_3, .int .i64 a0_4, .slice A0_5 l0_5.length c0_5]) (t := 46) ?hr ?_; (case hd => rfl); (case hg => rfl); (case hr => first | (go_simp; done) | (go_simp; rfl)); intro gb456 hg w2 hbox hb; have BK456 := Aside0.mk (hbox); have GW456 := tge HB hg; have GE456 := tge HB hg; replace HB := tBs HB hb; clear hb hbox hg) | ((with_reducible refine gate_dst (N := 5) rfl ?_); refine Kd.R_lit (Kd.int .i64) _ 3 ?hg (N := 5) ?hd (xs := ([] : List Int)) (inner := []) (ok := fun _ => True) (okp := fun _ => True) ?hr ?hp (fun _ hk => hk) trivial (Below.refl _ _) (Nat.le_refl _) (by simp) ?_; (case hd => rfl); (case hg => rfl); (case hr => first | (go_simp; done) | (go_simp; rfl)); (case hp => exact (Reps.none _ _)); intro v458 w3 ho4 hb hg_ hnew_; clear hg_ hnew_; (first | rw [← Ny457.out] at ho4 | (simp only [Int.reduceToNat] at ho4; rw [← Ny457.out] at ho4)); have HO459 := tRl ho4 HB; replace BK456 := tBb BK456 hb; replace HB := tBs HB hb; clear hb ho4))
 go_loopg [3, 4] k (fun kq v3 v4 w' => ∃ (x3_1 : List Int) (x4_1 : Int), v4 = .int .i64 x4_1 ∧ Aside0 (spec_l5Body.l0 kq x3_1 x4_1 a0_0 a0_1 a0_2 a0_3 a0_4 l0_5 = some r) ∧ Aside0 (kq ≤ k) ∧ Aside0 (Kd.R (Kd.int .i64) 3 w' w.heap.size (fun _ => True) v3 x3_1) ∧ Aside0 (w'.heap[gb456]? = some (.cells #[.bool a0_0, .bool a0_1, .int .i64 a0_2, .int .i64 a0_3, .int .i64 a0_4, (.slice A0_5 l0_5.length c0_5)] 46 (0, 0))) ∧ Aside0 (Below w.heap.size w w'))
 case atStart => exact ⟨(y457), (0), tr, H', ⟨Nat.le_refl _⟩, ⟨tR HO459.out⟩, ⟨tH BK456.out⟩, ⟨zb⟩⟩
 case round =>
  clear H'
  obtain ⟨x3_1, x4_1, rfl, HA, HK1, HO_3, BK456, HB⟩ := hrel
  cases gk with
  | zero => exact absurd HA.out (by simp [spec_l5Body.l0])
  | succ k1 =>
   have H := HA.out
   clear HA
   simp only [spec_l5Body.l0] at H
   by_cases c5 : x4_1 < (l0_5.length : Int)
   ·rw [if_pos c5] at H
    have c5b0 : decide (x4_1 < (l0_5.length : Int)) = true := decide_eq_true c5
    clear c5
    by_cases c6 : 0 ≤ x4_1
    ·rw [if_pos c6] at H
     have c6b0 : decide (0 ≤ x4_1) = true := decide_eq_true c6
     clear c6
     by_cases c7 : 0 < (l0_5.length : Int)
     ·rw [if_pos c7] at H
      have c7b0 : decide (0 < (l0_5.length : Int)) = true := decide_eq_true c7
      have c7b1 : decide (0 < l0_5.length) = true := decide_eq_true (by omega)
      clear c7
      replace H := tbe H
      obtain ⟨t463, A8, H⟩ := H
      by_cases c9 : x3_1.length + t463.length < 17592186044416
      ·rw [if_pos c9] at H
       have LMc9 := Aside0.mk c9
       clear c9
       obtain ⟨y466, hy466⟩ : ∃ y_ : List Int, y_ = (x3_1 ++ t463) := ⟨_, rfl⟩
       replace H : (spec_l5Body.l0 k1 y466 (wrap64 (x4_1 + 1)) a0_0 a0_1 a0_2 a0_3 a0_4 l0_5) = some r := by first | (rw [hy466]; with_reducible exact H) | (have H2_ := (Option.bind_some _ _).symm.trans H; rw [hy466]; with_reducible exact H2_) | (have H2_ := (Option.bind_some _ _).symm.trans H; with_reducible exact H2_) | with_reducible exact H | (rw [hy466]; exact H) | exact H
       have Ny466 := Aside0.mk hy466
       clear hy466
       have H' := Aside0.mk H
       clear H
       obtain ⟨hcz10_0, hcz10_1, hcz10_2, hcz10_3, hcz10_4, hcz10_5, hfz10_0, hfz10_1, hfz10_2, hfz10_3, hfz10_4, hfz10_5⟩ := cells6 BK456.out
       try go_wp2
       replace HO_3 := Aside0.mk (Kd.R_drew HO_3.out)
       replace BK456 := Aside0.mk (blk_drew BK456.out)
       replace HB := Aside0.mk (below_drew1 HB.out)
       have p460 : 0 ≤ (x4_1 : Int) := td
       have q460 : x4_1 < (l0_5.length : Int) := td
       obtain ⟨ad460, A460_3, c460_3, A460_5, c460_5, e460, hx460_0, hx460_1, hx460_2, hx460_3, hx460_4, hx460_5, hl460_3, hi460_3, hl460_5, hi460_5⟩ := at_T63 HR0_5.out x4_1 p460 q460
       have hw460_5 := hx460_5
       have hw460_4 := hx460_4
       have hw460_3 := hx460_3
       have hw460_2 := hx460_2
       have hw460_1 := hx460_1
       have hw460_0 := hx460_0
       cases e460
       replace hx460_0 := tcl HB hx460_0
       replace hx460_1 := tcl HB hx460_1
       replace hx460_2 := tcl HB hx460_2
       replace hx460_3 := tcl HB hx460_3
       replace hx460_4 := tcl HB hx460_4
       replace hx460_5 := tcl HB hx460_5
       have HR460_3 := Aside0.mk hi460_3
       have HC460_3 := Aside0.mk hl460_3
       clear hi460_3 hl460_3
       have HR460_5 := Aside0.mk hi460_5
       have HC460_5 := Aside0.mk hl460_5
       clear hi460_5 hl460_5
       replace p460 := eq_true p460
       replace q460 := eq_true q460
       have p461 : 0 ≤ (0 : Int) := (by omega)
       have q461 : 0 < (l0_5.length : Int) := td
       obtain ⟨ad461, A461_3, c461_3, A461_5, c461_5, e461, hx461_0, hx461_1, hx461_2, hx461_3, hx461_4, hx461_5, hl461_3, hi461_3, hl461_5, hi461_5⟩ := at_T63 HR0_5.out 0 p461 q461
       have hw461_5 := hx461_5
       (try rw [show ((0 : Int)).toNat = 0 from rfl] at hw461_5)
       (try rw [show 0 * 6 = 0 from rfl] at hw461_5)
       (try rw [Addr.add_zero'] at hw461_5)
       have hw461_4 := hx461_4
       (try rw [show ((0 : Int)).toNat = 0 from rfl] at hw461_4)
       (try rw [show 0 * 6 = 0 from rfl] at hw461_4)
       (try rw [Addr.add_zero'] at hw461_4)
       have hw461_3 := hx461_3
       (try rw [show ((0 : Int)).toNat = 0 from rfl] at hw461_3)
       (try rw [show 0 * 6 = 0 from rfl] at hw461_3)
       (try rw [Addr.add_zero'] at hw461_3)
       have hw461_2 := hx461_2
       (try rw [show ((0 : Int)).toNat = 0 from rfl] at hw461_2)
       (try rw [show 0 * 6 = 0 from rfl] at hw461_2)
       (try rw [Addr.add_zero'] at hw461_2)
       have hw461_1 := hx461_1
       (try rw [show ((0 : Int)).toNat = 0 from rfl] at hw461_1)
       (try rw [show 0 * 6 = 0 from rfl] at hw461_1)
       (try rw [Addr.add_zero'] at hw461_1)
       have hw461_0 := hx461_0
       (try rw [show ((0 : Int)).toNat = 0 from rfl] at hw461_0)
       (try rw [show 0 * 6 = 0 from rfl] at hw461_0)
       (try rw [Addr.add_zero'] at hw461_0)
       obtain rfl : ad460 = ad461 := (by injection e461)
       have qi461 : (0 < l0_5.length) = True := eq_true (by omega)
       (try rw [show ((0 : Int)).toNat = 0 from rfl] at hx461_0)
       (try rw [show 0 * 6 = 0 from rfl] at hx461_0)
       (try rw [Addr.add_zero'] at hx461_0)
       (try rw [show ((0 : Int)).toNat = 0 from rfl] at hx461_1)
       (try rw [show 0 * 6 = 0 from rfl] at hx461_1)
       (try rw [Addr.add_zero'] at hx461_1)
       (try rw [show ((0 : Int)).toNat = 0 from rfl] at hx461_2)
       (try rw [show 0 * 6 = 0 from rfl] at hx461_2)
       (try rw [Addr.add_zero'] at hx461_2)
       (try rw [show ((0 : Int)).toNat = 0 from rfl] at hx461_3)
       (try rw [show 0 * 6 = 0 from rfl] at hx461_3)
       (try rw [Addr.add_zero'] at hx461_3)
       (try rw [show ((0 : Int)).toNat = 0 from rfl] at hx461_4)
       (try rw [show 0 * 6 = 0 from rfl] at hx461_4)
       (try rw [Addr.add_zero'] at hx461_4)
       (try rw [show ((0 : Int)).toNat = 0 from rfl] at hx461_5)
       (try rw [show 0 * 6 = 0 from rfl] at hx461_5)
       (try rw [Addr.add_zero'] at hx461_5)
       replace hx461_0 := tcl HB hx461_0
       replace hx461_1 := tcl HB hx461_1
       replace hx461_2 := tcl HB hx461_2
       replace hx461_3 := tcl HB hx461_3
       replace hx461_4 := tcl HB hx461_4
       replace hx461_5 := tcl HB hx461_5
       have HR461_3 := Aside0.mk hi461_3
       have HC461_3 := Aside0.mk hl461_3
       clear hi461_3 hl461_3
       have HR461_5 := Aside0.mk hi461_5
       have HC461_5 := Aside0.mk hl461_5
       clear hi461_5 hl461_5
       replace p461 := eq_true p461
       replace q461 := eq_true q461
       have p462 : 0 ≤ (0 : Int) := (by omega)
       have q462 : 0 < (l0_5.length : Int) := td
       obtain ⟨ad462, A462_3, c462_3, A462_5, c462_5, e462, hx462_0, hx462_1, hx462_2, hx462_3, hx462_4, hx462_5, hl462_3, hi462_3, hl462_5, hi462_5⟩ := at_T63 HR0_5.out 0 p462 q462
       have hw462_5 := hx462_5
       (try rw [show ((0 : Int)).toNat = 0 from rfl] at hw462_5)
       (try rw [show 0 * 6 = 0 from rfl] at hw462_5)
       (try rw [Addr.add_zero'] at hw462_5)
       have hw462_4 := hx462_4
       (try rw [show ((0 : Int)).toNat = 0 from rfl] at hw462_4)
       (try rw [show 0 * 6 = 0 from rfl] at hw462_4)
       (try rw [Addr.add_zero'] at hw462_4)
       have hw462_3 := hx462_3
       (try rw [show ((0 : Int)).toNat = 0 from rfl] at hw462_3)
       (try rw [show 0 * 6 = 0 from rfl] at hw462_3)
       (try rw [Addr.add_zero'] at hw462_3)
       have hw462_2 := hx462_2
       (try rw [show ((0 : Int)).toNat = 0 from rfl] at hw462_2)
       (try rw [show 0 * 6 = 0 from rfl] at hw462_2)
       (try rw [Addr.add_zero'] at hw462_2)
       have hw462_1 := hx462_1
       (try rw [show ((0 : Int)).toNat = 0 from rfl] at hw462_1)
       (try rw [show 0 * 6 = 0 from rfl] at hw462_1)
       (try rw [Addr.add_zero'] at hw462_1)
       have hw462_0 := hx462_0
       (try rw [show ((0 : Int)).toNat = 0 from rfl] at hw462_0)
       (try rw [show 0 * 6 = 0 from rfl] at hw462_0)
       (try rw [Addr.add_zero'] at hw462_0)
       obtain rfl : ad460 = ad462 := (by injection e462)
       have qi462 : (0 < l0_5.length) = True := eq_true (by omega)
       (try rw [show ((0 : Int)).toNat = 0 from rfl] at hx462_0)
       (try rw [show 0 * 6 = 0 from rfl] at hx462_0)
       (try rw [Addr.add_zero'] at hx462_0)
       (try rw [show ((0 : Int)).toNat = 0 from rfl] at hx462_1)
       (try rw [show 0 * 6 = 0 from rfl] at hx462_1)
       (try rw [Addr.add_zero'] at hx462_1)
       (try rw [show ((0 : Int)).toNat = 0 from rfl] at hx462_2)
       (try rw [show 0 * 6 = 0 from rfl] at hx462_2)
       (try rw [Addr.add_zero'] at hx462_2)
       (try rw [show ((0 : Int)).toNat = 0 from rfl] at hx462_3)
       (try rw [show 0 * 6 = 0 from rfl] at hx462_3)
       (try rw [Addr.add_zero'] at hx462_3)
       (try rw [show ((0 : Int)).toNat = 0 from rfl] at hx462_4)
       (try rw [show 0 * 6 = 0 from rfl] at hx462_4)
       (try rw [Addr.add_zero'] at hx462_4)
       (try rw [show ((0 : Int)).toNat = 0 from rfl] at hx462_5)
       (try rw [show 0 * 6 = 0 from rfl] at hx462_5)
       (try rw [Addr.add_zero'] at hx462_5)
       replace hx462_0 := tcl HB hx462_0
       replace hx462_1 := tcl HB hx462_1
       replace hx462_2 := tcl HB hx462_2
       replace hx462_3 := tcl HB hx462_3
       replace hx462_4 := tcl HB hx462_4
       replace hx462_5 := tcl HB hx462_5
       have HR462_3 := Aside0.mk hi462_3
       have HC462_3 := Aside0.mk hl462_3
       clear hi462_3 hl462_3
       have HR462_5 := Aside0.mk hi462_5
       have HC462_5 := Aside0.mk hl462_5
       clear hi462_5 hl462_5
       replace p462 := eq_true p462
       replace q462 := eq_true q462
       have ea_ := Option.some.inj (hx461_3.symm.trans hx462_3)
       injection ea_ with ea_ en_ ec_
       subst ea_
       subst ec_
       clear en_
       have ea_ := Option.some.inj (hx461_5.symm.trans hx462_5)
       injection ea_ with ea_ en_ ec_
       subst ea_
       subst ec_
       clear en_
       refine start_ (n := 19) (S := fun w' => w'.cell? ⟨gb456, 0, none⟩ = some (.bool a0_0) ∧ w'.cell? ⟨gb456, 1, none⟩ = some (.bool a0_1) ∧ w'.cell? ⟨gb456, 2, none⟩ = some (.int .i64 a0_2) ∧ w'.cell? ⟨gb456, 3, none⟩ = some (.int .i64 a0_3) ∧ w'.cell? ⟨gb456, 4, none⟩ = some (.int .i64 a0_4) ∧ w'.cell? ⟨gb456, 5, none⟩ = some (.slice (some ad460) l0_5.length c0_5) ∧ w'.cell? (ad460.add ((x4_1).toNat * 6)) = some (.int .i64 ((rd_T63 l0_5 x4_1).f0)) ∧ w'.cell? ⟨(ad460.add ((x4_1).toNat * 6)).block, (ad460.add ((x4_1).toNat * 6)).off + 1, none⟩ = some (.int .i64 ((rd_T63 l0_5 x4_1).f1)) ∧ w'.cell? ⟨(ad460.add ((x4_1).toNat * 6)).block, (ad460.add ((x4_1).toNat * 6)).off + 2, none⟩ = some (.bool ((rd_T63 l0_5 x4_1).f2)) ∧ w'.cell? ⟨(ad460.add ((x4_1).toNat * 6)).block, (ad460.add ((x4_1).toNat * 6)).off + 3, none⟩ = some (.slice A460_3 ((rd_T63 l0_5 x4_1).f3).length c460_3) ∧ w'.cell? ⟨(ad460.add ((x4_1).toNat * 6)).block, (ad460.add ((x4_1).toNat * 6)).off + 4, none⟩ = some (.bool ((rd_T63 l0_5 x4_1).f4)) ∧ w'.cell? ⟨(ad460.add ((x4_1).toNat * 6)).block, (ad460.add ((x4_1).toNat * 6)).off + 5, none⟩ = some (.slice A460_5 ((rd_T63 l0_5 x4_1).f5).length c460_5) ∧ w'.cell? ad460 = some (.int .i64 ((rd_T63 l0_5 0).f0)) ∧ w'.cell? ⟨ad460.block, ad460.off + 1, none⟩ = some (.int .i64 ((rd_T63 l0_5 0).f1)) ∧ w'.cell? ⟨ad460.block, ad460.off + 2, none⟩ = some (.bool ((rd_T63 l0_5 0).f2)) ∧ w'.cell? ⟨ad460.block, ad460.off + 3, none⟩ = some (.slice A461_3 ((rd_T63 l0_5 0).f3).length c461_3) ∧ w'.cell? ⟨ad460.block, ad460.off + 4, none⟩ = some (.bool ((rd_T63 l0_5 0).f4)) ∧ w'.cell? ⟨ad460.block, ad460.off + 5, none⟩ = some (.slice A461_5 ((rd_T63 l0_5 0).f5).length c461_5) ∧ w'.cell? ad460 = some (.int .i64 ((rd_T63 l0_5 0).f0)) ∧ w'.cell? ⟨ad460.block, ad460.off + 1, none⟩ = some (.int .i64 ((rd_T63 l0_5 0).f1)) ∧ w'.cell? ⟨ad460.block, ad460.off + 2, none⟩ = some (.bool ((rd_T63 l0_5 0).f2)) ∧ w'.cell? ⟨ad460.block, ad460.off + 3, none⟩ = some (.slice A461_3 ((rd_T63 l0_5 0).f3).length c461_3) ∧ w'.cell? ⟨ad460.block, ad460.off + 4, none⟩ = some (.bool ((rd_T63 l0_5 0).f4)) ∧ w'.cell? ⟨ad460.block, ad460.off + 5, none⟩ = some (.slice A461_5 ((rd_T63 l0_5 0).f5).length c461_5)) (ds := []) #[false, false, false, false, false, false, false, false, false, false, false, false, false, false, false, false, false, false, false] (by kernel_rfl) rfl rfl ⟨(blk_cell BK456.out 0).trans rfl, (blk_cell BK456.out 1).trans rfl, (blk_cell BK456.out 2).trans rfl, (blk_cell BK456.out 3).trans rfl, (blk_cell BK456.out 4).trans rfl, (blk_cell BK456.out 5).trans rfl, (tcl HB hw460_0), (tcl HB hw460_1), (tcl HB hw460_2), (tcl HB hw460_3), (tcl HB hw460_4), (tcl HB hw460_5), (tcl HB hw461_0), (tcl HB hw461_1), (tcl HB hw461_2), (tcl HB hw461_3), (tcl HB hw461_4), (tcl HB hw461_5), (tcl HB hw462_0), (tcl HB hw462_1), (tcl HB hw462_2), (tcl HB hw462_3), (tcl HB hw462_4), (tcl HB hw462_5)⟩ (fun hHeld => ?_); refine with_tabW spec_l5Body.tab5 spec_l5Body.bits5 (fun HT_ HW_ => ?_)
       generalize wr.drew = w11 at HO_3 BK456 HB HR460_3 HR460_5 HR461_3 HR461_5 HR462_3 HR462_5 hx460_0 hx460_1 hx460_2 hx460_3 hx460_4 hx460_5 hx461_0 hx461_1 hx461_2 hx461_3 hx461_4 hx461_5 hx462_0 hx462_1 hx462_2 hx462_3 hx462_4 hx462_5 hHeld ⊢
       refine tpu 0 (some 13) #[true, false, false, false, false, false, false, false, false, false, false, false, false, false, false, false, false, false, false] ?_
       refine tpu 1 (some 14) #[true, true, false, false, false, false, false, false, false, false, false, false, false, false, false, false, false, false, false] ?_
       refine tpu 3 (some 16) #[true, true, false, true, false, false, false, false, false, false, false, false, false, false, false, false, false, false, false] ?_
       refine tpu 6 (some 19) #[true, true, false, true, false, false, true, false, false, false, false, false, false, false, false, false, false, false, false] ?_
       refine tpu 11 (some 24) #[true, true, false, true, false, false, true, false, false, false, false, true, false, false, false, false, false, false, false] ?_
       refine tta 2 (some 15) #[true, true, true, true, false, false, true, false, false, false, false, true, false, false, false, false, false, false, false] hHeld ?_ (hy := by rintro w' ⟨s0, s1, s2, s3, s4, s5, s6, s7, s8, s9, s10, s11, s12, s13, s14, s15, s16, s17, s18, s19, s20, s21, s22, s23⟩; go_simp; with_reducible rfl)
       refine tpu 4 (some 17) #[true, true, true, true, true, false, true, false, false, false, false, true, false, false, false, false, false, false, false] ?_
       refine tta 5 (some 18) #[true, true, true, true, true, true, true, false, false, false, false, true, false, false, false, false, false, false, false] hHeld ?_ (hy := by rintro w' ⟨s0, s1, s2, s3, s4, s5, s6, s7, s8, s9, s10, s11, s12, s13, s14, s15, s16, s17, s18, s19, s20, s21, s22, s23⟩; go_simp; with_reducible rfl)
       refine tta 7 (some 20) #[true, true, true, true, true, true, true, true, false, false, false, true, false, false, false, false, false, false, false] hHeld ?_ (hy := by rintro w' ⟨s0, s1, s2, s3, s4, s5, s6, s7, s8, s9, s10, s11, s12, s13, s14, s15, s16, s17, s18, s19, s20, s21, s22, s23⟩; go_simp; with_reducible rfl)
       refine tpu 8 (some 21) #[true, true, true, true, true, true, true, true, true, false, false, true, false, false, false, false, false, false, false] ?_
       refine tpu 9 (some 22) #[true, true, true, true, true, true, true, true, true, true, false, true, false, false, false, false, false, false, false] ?_
       refine tta 10 (some 23) #[true, true, true, true, true, true, true, true, true, true, true, true, false, false, false, false, false, false, false] hHeld ?_ (hy := by rintro w' ⟨s0, s1, s2, s3, s4, s5, s6, s7, s8, s9, s10, s11, s12, s13, s14, s15, s16, s17, s18, s19, s20, s21, s22, s23⟩; go_simp; with_reducible rfl)
       refine tta 12 (some 25) #[true, true, true, true, true, true, true, true, true, true, true, true, true, false, false, false, false, false, false] hHeld ?_ (hy := by rintro w' ⟨s0, s1, s2, s3, s4, s5, s6, s7, s8, s9, s10, s11, s12, s13, s14, s15, s16, s17, s18, s19, s20, s21, s22, s23⟩; go_simp; with_reducible rfl)
       refine tpu 13 (some 26) #[true, true, true, true, true, true, true, true, true, true, true, true, true, true, false, false, false, false, false] ?_
       refine tpu 14 (some 27) #[true, true, true, true, true, true, true, true, true, true, true, true, true, true, true, false, false, false, false] ?_
       refine tta 15 (some 28) #[true, true, true, true, true, true, true, true, true, true, true, true, true, true, true, true, false, false, false] hHeld ?_ (hy := by rintro w' ⟨s0, s1, s2, s3, s4, s5, s6, s7, s8, s9, s10, s11, s12, s13, s14, s15, s16, s17, s18, s19, s20, s21, s22, s23⟩; go_simp; with_reducible rfl)
       refine one_ (i := 16) (N := some 29) #[true, true, true, true, true, true, true, true, true, true, true, true, true, true, true, true, true, false, false] rfl rfl (one_of HT_.out (by kernel_rfl)) (by decide) (fun K hK => ?_)
       refine goes_ Try.func72 (by kernel_rfl) rfl #[.agg #[.int .i64 ((rd_T63 l0_5 x4_1).f0), .int .i64 ((rd_T63 l0_5 x4_1).f1), .bool ((rd_T63 l0_5 x4_1).f2), .slice A460_3 ((rd_T63 l0_5 x4_1).f3).length c460_3, .bool ((rd_T63 l0_5 x4_1).f4), .slice A460_5 ((rd_T63 l0_5 x4_1).f5).length c460_5], .int .i64 ((rd_T63 l0_5 0).f0), .int .i64 ((rd_T63 l0_5 0).f1)] (by rfl) rfl rfl tq ?_
       with_reducible refine (spec_l3Bytes.calls k1 ((rd_T63 l0_5 x4_1).f0) ((rd_T63 l0_5 x4_1).f1) ((rd_T63 l0_5 x4_1).f2) _ _ ((rd_T63 l0_5 x4_1).f3) ((rd_T63 l0_5 x4_1).f4) _ _ ((rd_T63 l0_5 x4_1).f5) ((rd_T63 l0_5 0).f0) ((rd_T63 l0_5 0).f1) t463 _ ?side1 ?side2 ?side3 ?side4 A8.out).mono ?_
       (case side1 => exact tC (Kd.C_below HR460_3.out HB.out))
       (case side2 => exact HC460_3.out)
       (case side3 => exact tC (Kd.C_below HR460_5.out HB.out))
       (case side4 => exact HC460_5.out)
       rintro e w12 ⟨v464, rfl, ho0, hb⟩
       refine ⟨_, rfl, ?_⟩
       have HO465 := Aside0.mk (Kd.R_lower (Kd.R_new' ho0 (Kd.R_lt (tR HO_3.out))) (below_size zb))
       replace HO_3 := Aside0.mk (Kd.R_elder' (tR HO_3.out) (Kd.R_base ho0) hb)
       replace BK456 := tBb BK456 hb
       replace HB := tBs HB hb
       (try clear hb)
       (try clear hb2)
       (try clear hk)
       (try clear hi)
       (try clear ho0)
       obtain ⟨Ao14, co14, eo14⟩ := Kd.R_slice HO465.out
       (first | subst eo14 | (injection eo14 with f1_ f2_ f3_; have f4_ := f1_.symm; have f5_ := f3_.symm; clear f1_ f2_ f3_; subst f4_; subst f5_))
       refine hK.out _ _ ⟨(blk_cell BK456.out 0).trans rfl, (blk_cell BK456.out 1).trans rfl, (blk_cell BK456.out 2).trans rfl, (blk_cell BK456.out 3).trans rfl, (blk_cell BK456.out 4).trans rfl, (blk_cell BK456.out 5).trans rfl, (tcl HB hw460_0), (tcl HB hw460_1), (tcl HB hw460_2), (tcl HB hw460_3), (tcl HB hw460_4), (tcl HB hw460_5), (tcl HB hw461_0), (tcl HB hw461_1), (tcl HB hw461_2), (tcl HB hw461_3), (tcl HB hw461_4), (tcl HB hw461_5), (tcl HB hw462_0), (tcl HB hw462_1), (tcl HB hw462_2), (tcl HB hw462_3), (tcl HB hw462_4), (tcl HB hw462_5)⟩ (fun hHeld => ?_)
       clear hK K
       refine tnm (some 29) ?_
       refine one_ (i := 17) (N := some 30) #[true, true, true, true, true, true, true, true, true, true, true, true, true, true, true, true, true, true, false] rfl rfl (one_of HT_.out (by kernel_rfl)) (by decide) (fun K hK => ?_)
       refine Kd.R_append_rows_step (Kd.int .i64) (w0 := w) w.heap.size (by rfl) (.tmp 13) (.tmp 29) 26 3 (.int .i64 0) 8 rfl Try.underlying26 info3 rfl (by decide) (by omega) u3 x3_1 t463 _ _ _ (fun k_ => some k_ ≠ (.slice Ao14 t463.length co14 : Value).ownBlock) (fun _ => False) rfl rfl ?aO ?aR (fun _ _ h => h) (fun _ h => h.elim) ?aF ?aB ?aS ?aL ?_
       (case aR => repeat (first | exact (Kd.R_reads' HO465.out).2.2 | (with_reducible refine Kd.C_alloc ?_ _) | (with_reducible refine Kd.C_drewN ?_ _) | (with_reducible refine Kd.C_drew ?_)))
       (case aB => exact zb)
       (case aF => exact (fun k_ hk => Kd.fresh' (Kd.R_lt (tR HO465.out)) k_ hk))
       (case aO => exact (tRm HO_3.out))
       (case aS => exact (below_size zb))
       (case aL => have := LMc9.out; omega)
       intro v467 w13 ho hb hg hat
       rw [← Ny466.out] at ho
       replace BK456 := Aside0.mk (blk_grown (tH BK456.out) hg (Kd.R_ne HO_3.out BK456.out (by decide)))
       replace HO465 := Aside0.mk (Kd.R_after (ok := (fun _ => True)) (tR HO465.out) hg hat)
       replace HB := Aside0.mk (hb)
       have HO468 := Aside0.mk (ho)
       clear HO_3
       clear ho hb hg hat
       refine hK.out _ _ ⟨(blk_cell BK456.out 0).trans rfl, (blk_cell BK456.out 1).trans rfl, (blk_cell BK456.out 2).trans rfl, (blk_cell BK456.out 3).trans rfl, (blk_cell BK456.out 4).trans rfl, (blk_cell BK456.out 5).trans rfl, (tcl HB hw460_0), (tcl HB hw460_1), (tcl HB hw460_2), (tcl HB hw460_3), (tcl HB hw460_4), (tcl HB hw460_5), (tcl HB hw461_0), (tcl HB hw461_1), (tcl HB hw461_2), (tcl HB hw461_3), (tcl HB hw461_4), (tcl HB hw461_5), (tcl HB hw462_0), (tcl HB hw462_1), (tcl HB hw462_2), (tcl HB hw462_3), (tcl HB hw462_4), (tcl HB hw462_5)⟩ (fun hHeld => ?_)
       clear hK K
       refine tnm (some 30) ?_
       refine tpu 18 (some 3) #[true, true, true, true, true, true, true, true, true, true, true, true, true, true, true, true, true, true, true] ?_
       refine done_ (done_of HT_.out (by kernel_rfl)) ?_
       try go_wp2
       go_roundg k1
       case measure => have := HK1.out; omega
       case rel => exact ⟨(y466), (wrap64 (x4_1 + 1)), tr, H', ⟨by have := HK1.out; omega⟩, ⟨tRm HO468.out⟩, ⟨tH BK456.out⟩, ⟨zb⟩⟩
      ·rw [if_neg c9] at H
       exact absurd H (by simp)
     ·rw [if_neg c7] at H
      exact absurd H (by simp)
    ·rw [if_neg c6] at H
     exact absurd H (by simp)
   ·rw [if_neg c5] at H
    have c5b0 : decide (x4_1 < (l0_5.length : Int)) = false := decide_eq_false c5
    clear c5
    obtain rfl := Option.some.inj H
    obtain ⟨hcz15_0, hcz15_1, hcz15_2, hcz15_3, hcz15_4, hcz15_5, hfz15_0, hfz15_1, hfz15_2, hfz15_3, hfz15_4, hfz15_5⟩ := cells6 BK456.out
    go_wp2
    go_ret
    exact ⟨_, by first | rfl | (simp [errW_none, errW_some] <;> rfl) | (simp [*, errW_none, errW_some] <;> rfl), tR HO_3.out, zb⟩

def spec_l4Long.l0 : Nat → List Int → Int → Int → Int → Option (Int)
 | 0, _, _, _, _ => none
 | k + 1, x0, x1, x2, x7 => if (wrap64 (x1 + x7)) < (x0.length : Int) then (if x7 < 66 then (if 0 ≤ (wrap64 (x1 + x7)) then (if 0 ≤ (wrap64 ((wrap64 (x1 + x7)) - x2)) then (if (wrap64 ((wrap64 (x1 + x7)) - x2)) < (x0.length : Int) then (if (rd x0 (wrap64 (x1 + x7))) = (rd x0 (wrap64 ((wrap64 (x1 + x7)) - x2))) then (spec_l4Long.l0 k x0 x1 x2 (wrap64 (x7 + 1))) else (some x7)) else (none)) else (none)) else (none)) else (some x7)) else (some x7)
def spec_l4Long.f (k : Nat) (l0 : List Int) (a1 : Int) (a2 : Int) : Option (Int) := spec_l4Long.l0 k l0 a1 a2 0
set_option maxHeartbeats 8000000 in
set_option maxRecDepth 100000 in
theorem spec_l4Long.calls (k : Nat) (A0 : Option Addr) (c0 : Nat) (l0 : List Int) (a1 : Int) (a2 : Int) (r : Int) (w : World) (hr0 : Kd.C (Kd.int .i64) w A0 l0.length l0) (hc0 : l0.length ≤ c0) (h : spec_l4Long.f k l0 a1 a2 = some r) :
  Calls Try.prog 85 #[.slice A0 l0.length c0, .int .i64 a1, .int .i64 a2] w fun e w' => e = .returned (.int .i64 r) ∧ Drawn0 w w' := by
 have HR0 := Aside0.mk hr0
 have HC0 := Aside0.mk hc0
 clear hr0 hc0
 have H : (spec_l4Long.l0 k l0 a1 a2 0) = some r := h
 clear h
 have H' := Aside0.mk H
 clear H
 go_enter Try.func85, Try.ntmps85
 go_wp2
 repeat (go_quiet (fail); try go_wp2)
 go_loopg [7] k (fun kq v7 w' => ∃ (x7_1 : Int), v7 = .int .i64 x7_1 ∧ Aside0 (spec_l4Long.l0 kq l0 a1 a2 x7_1 = some r) ∧ Aside0 (kq ≤ k) ∧ Drawn0 w w')
 case atStart => exact ⟨(0), tr, H', ⟨Nat.le_refl _⟩, by repeat (first | exact Drawn0.refl _ | apply Drawn0.step)⟩
 case round =>
  clear H'
  obtain ⟨x7_1, rfl, HA, HK1, ⟨m1, rfl⟩⟩ := hrel
  cases gk with
  | zero => exact absurd HA.out (by simp [spec_l4Long.l0])
  | succ k1 =>
   have H := HA.out
   clear HA
   simp only [spec_l4Long.l0] at H
   by_cases c4 : (wrap64 (a1 + x7_1)) < (l0.length : Int)
   ·rw [if_pos c4] at H
    have c4b0 : decide ((wrap64 (a1 + x7_1)) < (l0.length : Int)) = true := decide_eq_true c4
    clear c4
    by_cases c5 : x7_1 < 66
    ·rw [if_pos c5] at H
     have c5b0 : decide (x7_1 < 66) = true := decide_eq_true c5
     clear c5
     obtain ⟨ji6, hji6⟩ : ∃ j_ : Int, (wrap64 (a1 + x7_1)) = j_ := ⟨_, rfl⟩
     replace H : (if 0 ≤ (ji6) then (if 0 ≤ (wrap64 ((ji6) - a2)) then (if (wrap64 ((ji6) - a2)) < (l0.length : Int) then (if (rd l0 (ji6)) = (rd l0 (wrap64 ((ji6) - a2))) then (spec_l4Long.l0 k1 l0 a1 a2 (wrap64 (x7_1 + 1))) else (some x7_1)) else (none)) else (none)) else (none)) = some r := by first | (rw [hji6] at H; exact H) | (simp only [hji6] at H ⊢; exact H)
     (try rw [hji6] at c4b0)
     have hji6w : (IntKind.i64.wrap (a1 + x7_1)) = ji6 := (i64_w _).trans hji6
     by_cases c7 : 0 ≤ (ji6)
     ·rw [if_pos c7] at H
      have c7b0 : decide (0 ≤ (ji6)) = true := decide_eq_true c7
      clear c7
      obtain ⟨ji8, hji8⟩ : ∃ j_ : Int, (wrap64 ((ji6) - a2)) = j_ := ⟨_, rfl⟩
      replace H : (if 0 ≤ (ji8) then (if (ji8) < (l0.length : Int) then (if (rd l0 (ji6)) = (rd l0 (ji8)) then (spec_l4Long.l0 k1 l0 a1 a2 (wrap64 (x7_1 + 1))) else (some x7_1)) else (none)) else (none)) = some r := by first | (rw [hji8] at H; exact H) | (simp only [hji8] at H ⊢; exact H)
      have hji8w : (IntKind.i64.wrap ((ji6) - a2)) = ji8 := (i64_w _).trans hji8
      by_cases c9 : 0 ≤ (ji8)
      ·rw [if_pos c9] at H
       have c9b0 : decide (0 ≤ (ji8)) = true := decide_eq_true c9
       clear c9
       by_cases c10 : (ji8) < (l0.length : Int)
       ·rw [if_pos c10] at H
        have c10b0 : decide ((ji8) < (l0.length : Int)) = true := decide_eq_true c10
        clear c10
        by_cases c11 : (rd l0 (ji6)) = (rd l0 (ji8))
        ·rw [if_pos c11] at H
         have c11b0 : ((rd l0 (ji6)) == (rd l0 (ji8))) = true := beq_iff_eq.mpr c11
         have c11b1 : ((rd l0 (ji6)) != (rd l0 (ji8))) = false := bne_eq_false_iff_eq.mpr c11
         clear c11
         have H' := Aside0.mk H
         clear H
         have p469 : 0 ≤ ((ji6) : Int) := td
         have q469 : (ji6) < (l0.length : Int) := td
         obtain ⟨ad469, e469, hx469_0⟩ := Kd.at_int HR0.out (ji6) p469 q469
         cases e469
         replace p469 := eq_true p469
         replace q469 := eq_true q469
         have p470 : 0 ≤ ((ji8) : Int) := td
         have q470 : (ji8) < (l0.length : Int) := td
         obtain ⟨ad470, e470, hx470_0⟩ := Kd.at_int HR0.out (ji8) p470 q470
         obtain rfl : ad469 = ad470 := (by injection e470)
         replace p470 := eq_true p470
         replace q470 := eq_true q470
         go_wp2
         repeat (go_quiet (fail); try go_wp2)
         go_roundg k1
         case measure => have := HK1.out; omega
         case rel => exact ⟨(wrap64 (x7_1 + 1)), tr, H', ⟨by have := HK1.out; omega⟩, by repeat (first | exact Drawn0.refl _ | apply Drawn0.step)⟩
        ·rw [if_neg c11] at H
         have c11b0 : ((rd l0 (ji6)) == (rd l0 (ji8))) = false := beq_eq_false_iff_ne.mpr c11
         have c11b1 : ((rd l0 (ji6)) != (rd l0 (ji8))) = true := bne_iff_ne.mpr c11
         obtain rfl := Option.some.inj H
         have p469 : 0 ≤ ((ji6) : Int) := td
         have q469 : (ji6) < (l0.length : Int) := td
         obtain ⟨ad469, e469, hx469_0⟩ := Kd.at_int HR0.out (ji6) p469 q469
         cases e469
         replace p469 := eq_true p469
         replace q469 := eq_true q469
         have p470 : 0 ≤ ((ji8) : Int) := td
         have q470 : (ji8) < (l0.length : Int) := td
         obtain ⟨ad470, e470, hx470_0⟩ := Kd.at_int HR0.out (ji8) p470 q470
         obtain rfl : ad469 = ad470 := (by injection e470)
         replace p470 := eq_true p470
         replace q470 := eq_true q470
         go_wp2
         repeat (go_quiet (fail); try go_wp2)
         go_ret
         exact ⟨by first | rfl | (simp; done) | (simp only [← hji6, ← hji8] <;> (first | rfl | simp)) | (simp [*]; done), by repeat (first | exact Drawn0.refl _ | apply Drawn0.step)⟩
       ·rw [if_neg c10] at H
        exact absurd H (by simp)
      ·rw [if_neg c9] at H
       exact absurd H (by simp)
     ·rw [if_neg c7] at H
      exact absurd H (by simp)
    ·rw [if_neg c5] at H
     have c5b0 : decide (x7_1 < 66) = false := decide_eq_false c5
     clear c5
     obtain rfl := Option.some.inj H
     go_wp2
     repeat (go_quiet (fail); try go_wp2)
     go_ret
     exact ⟨by first | rfl | (simp; done) | (simp [*]; done), by repeat (first | exact Drawn0.refl _ | apply Drawn0.step)⟩
   ·rw [if_neg c4] at H
    have c4b0 : decide ((wrap64 (a1 + x7_1)) < (l0.length : Int)) = false := decide_eq_false c4
    clear c4
    obtain rfl := Option.some.inj H
    go_wp2
    repeat (go_quiet (fail); try go_wp2)
    go_ret
    exact ⟨by first | rfl | (simp; done) | (simp [*]; done), by repeat (first | exact Drawn0.refl _ | apply Drawn0.step)⟩

def spec_l4Best.l0 : Nat → List Int → Int → Int → Int → Int → Option (Int × Int)
 | 0, _, _, _, _, _ => none
 | k + 1, x0, x1, x6, x7, x8 => if x8 ≤ (mn x1 200) then ((spec_l4Long.f k x0 x1 x8).bind fun t471 => (if t471 > x7 then (spec_l4Best.l0 k x0 x1 x8 t471 (wrap64 (x8 + 1))) else (spec_l4Best.l0 k x0 x1 x6 x7 (wrap64 (x8 + 1))))) else (some (x7, x6))
def spec_l4Best.f (k : Nat) (l0 : List Int) (a1 : Int) : Option (Int × Int) := spec_l4Best.l0 k l0 a1 0 0 1
set_option maxHeartbeats 8000000 in
set_option maxRecDepth 100000 in
theorem spec_l4Best.calls (k : Nat) (A0 : Option Addr) (c0 : Nat) (l0 : List Int) (a1 : Int) (r1 : Int) (r2 : Int) (w : World) (hr0 : Kd.C (Kd.int .i64) w A0 l0.length l0) (hc0 : l0.length ≤ c0) (h : spec_l4Best.f k l0 a1 = some (r1, r2)) :
  Calls Try.prog 73 #[.slice A0 l0.length c0, .int .i64 a1] w fun e w' => e = .returned (.tuple #[.int .i64 r1, .int .i64 r2]) ∧ Below w.heap.size w w' := by
 have HR0 := Aside0.mk hr0
 have HC0 := Aside0.mk hc0
 clear hr0 hc0
 have HB := Aside0.mk (Below.refl w.heap.size w)
 have H : (spec_l4Best.l0 k l0 a1 0 0 1) = some (r1, r2) := h
 clear h
 have H' := Aside0.mk H
 clear H
 go_enter Try.func73, Try.ntmps73
 go_wp2
 go_loopg [6, 7, 8] k (fun kq v6 v7 v8 w' => ∃ (x6_1 : Int) (x7_1 : Int) (x8_1 : Int), v6 = .int .i64 x6_1 ∧ v7 = .int .i64 x7_1 ∧ v8 = .int .i64 x8_1 ∧ Aside0 (spec_l4Best.l0 kq l0 a1 x6_1 x7_1 x8_1 = some (r1, r2)) ∧ Aside0 (kq ≤ k) ∧ Aside0 (Below w.heap.size w w'))
 case atStart => exact ⟨(0), (0), (1), tr, tr, tr, H', ⟨Nat.le_refl _⟩, ⟨zb⟩⟩
 case round =>
  clear H'
  obtain ⟨x6_1, x7_1, x8_1, rfl, rfl, rfl, HA, HK1, HB⟩ := hrel
  cases gk with
  | zero => exact absurd HA.out (by simp [spec_l4Best.l0])
  | succ k1 =>
   have H := HA.out
   clear HA
   simp only [spec_l4Best.l0] at H
   obtain ⟨ji3, hji3⟩ : ∃ j_ : Int, (mn a1 200) = j_ := ⟨_, rfl⟩
   replace H : (if x8_1 ≤ (ji3) then ((spec_l4Long.f k1 l0 a1 x8_1).bind fun t471 => (if t471 > x7_1 then (spec_l4Best.l0 k1 l0 a1 x8_1 t471 (wrap64 (x8_1 + 1))) else (spec_l4Best.l0 k1 l0 a1 x6_1 x7_1 (wrap64 (x8_1 + 1))))) else (some (x7_1, x6_1))) = some (r1, r2) := by first | (rw [hji3] at H; exact H) | (simp only [hji3] at H ⊢; exact H)
   have hji3_ : (if 200 < a1 then 200 else a1) = ji3 := hji3
   by_cases c4 : x8_1 ≤ (ji3)
   ·rw [if_pos c4] at H
    have c4b0 : decide (x8_1 ≤ (ji3)) = true := decide_eq_true c4
    clear c4
    replace H := tbe H
    obtain ⟨t471, A5, H⟩ := H
    by_cases c6 : t471 > x7_1
    ·rw [if_pos c6] at H
     have c6b0 : decide (x7_1 < t471) = true := decide_eq_true c6
     clear c6
     have H' := Aside0.mk H
     clear H
     go_wp2_with (first | ((with_reducible refine gate_callee (f := 85) rfl ?_); refine goesL_ (some 19) rfl rfl Try.func85 (by kernel_rfl) rfl #[.slice A0 l0.length c0, .int .i64 a1, .int .i64 x8_1] rfl tq ?_; (with_reducible refine (spec_l4Long.calls k1 _ _ l0 a1 x8_1 t471 _ ?side1 ?side2 A5.out).mono ?_); (case side1 => exact tC (Kd.C_below HR0.out HB.out)); (case side2 => exact HC0.out); rintro e w' ⟨rfl, ⟨nd, rfl⟩⟩; refine ⟨_, rfl, ?_⟩))
     go_roundg k1
     case measure => have := HK1.out; omega
     case rel => exact ⟨(x8_1), (t471), (wrap64 (x8_1 + 1)), tr, tr, tr, H', ⟨by have := HK1.out; omega⟩, ⟨zb⟩⟩
    ·rw [if_neg c6] at H
     have c6b0 : decide (x7_1 < t471) = false := decide_eq_false c6
     clear c6
     have H' := Aside0.mk H
     clear H
     go_wp2_with (first | ((with_reducible refine gate_callee (f := 85) rfl ?_); refine goesL_ (some 19) rfl rfl Try.func85 (by kernel_rfl) rfl #[.slice A0 l0.length c0, .int .i64 a1, .int .i64 x8_1] rfl tq ?_; (with_reducible refine (spec_l4Long.calls k1 _ _ l0 a1 x8_1 t471 _ ?side1 ?side2 A5.out).mono ?_); (case side1 => exact tC (Kd.C_below HR0.out HB.out)); (case side2 => exact HC0.out); rintro e w' ⟨rfl, ⟨nd, rfl⟩⟩; refine ⟨_, rfl, ?_⟩))
     go_roundg k1
     case measure => have := HK1.out; omega
     case rel => exact ⟨(x6_1), (x7_1), (wrap64 (x8_1 + 1)), tr, tr, tr, H', ⟨by have := HK1.out; omega⟩, ⟨zb⟩⟩
   ·rw [if_neg c4] at H
    have c4b0 : decide (x8_1 ≤ (ji3)) = false := decide_eq_false c4
    clear c4
    simp only [Option.some.injEq, Prod.mk.injEq] at H
    obtain ⟨rfl, rfl⟩ := H
    go_wp2
    go_ret2
    exact ⟨by first | rfl | (simp [errW_none, errW_some] <;> rfl) | (simp only [← hji3]; first | rfl | (simp [errW_none, errW_some] <;> rfl)) | (simp [*, errW_none, errW_some] <;> rfl), zb⟩

end Go.Proofs.Ythoioccmnphfgaa.G

namespace Go.Proofs.Ythoioccmnphfgaa.G
open Go.RowKit Go.Proofs.YthoioccmnphfgaaW.PrintWords Go.Proofs.YthoioccmnphfgaaW.PrintLast Go.Proofs.YthoioccmnphfgaaW.PrintMore
attribute [local go_sem] max2_int min2_int max_two min_two max_three min_three max_four min_four   -- for this text's walks alone
set_option linter.unusedVariables false
set_option linter.unusedSimpArgs false

def spec_l4Plain.l0 : Nat → List Int → List Int → Int → Option (List Int)
 | 0, _, _, _ => none
 | k + 1, x0, x3, x4 => if x4 < (x0.length : Int) then (if x3.length < 17592186044416 then ((some (x3 ++ [wrap64 ((wrap64 ((mn (wrap64 (x4 + 64)) (x0.length : Int)) - x4)) - 1)] : List Int)).bind fun y475 => (if 0 ≤ x4 then (if x4 ≤ (mn (wrap64 (x4 + 64)) (x0.length : Int)) then (if (mn (wrap64 (x4 + 64)) (x0.length : Int)) ≤ (x0.length : Int) then (if y475.length + ((x0.take ((mn (wrap64 (x4 + 64)) (x0.length : Int)) : Int).toNat).drop (x4 : Int).toNat).length < 17592186044416 then (spec_l4Plain.l0 k x0 (y475 ++ ((x0.take ((mn (wrap64 (x4 + 64)) (x0.length : Int)) : Int).toNat).drop (x4 : Int).toNat)) (wrap64 (x4 + 64))) else (none)) else (none)) else (none)) else (none))) else (none)) else (some x3)
def spec_l4Plain.f (k : Nat) (l0 : List Int) : Option (List Int) := spec_l4Plain.l0 k l0 (([] : List Int)) 0
def spec_l4Plain.T6 : Bool × List (List Nat × List Nat) := (true, [([], []), ([], []), ([], []), ([1, 2], [1, 2]), ([3], [3]), ([4], [4]), ([0, 5], [0, 5]), ([], []), ([], []), ([], []), ([7, 8, 9], [7, 8, 9]), ([6, 10, 6], [6, 10]), ([11, 11, 0, 1, 2, 3, 4, 5, 6, 7, 8, 9, 10, 11], [0, 11])])
def spec_l4Plain.B6 : List Nat := [0, 0, 0, 6, 14, 30, 63, 0, 0, 0, 896, 2047, 4095]
theorem spec_l4Plain.tab6 : rtab .any (opsOf Try.f74 6) = spec_l4Plain.T6 := by kernel_rfl
theorem spec_l4Plain.bits6 : waitsOk spec_l4Plain.T6.2 spec_l4Plain.B6 = true := by kernel_rfl
set_option maxHeartbeats 8000000 in
set_option maxRecDepth 100000 in
theorem spec_l4Plain.calls (k : Nat) (A0 : Option Addr) (c0 : Nat) (l0 : List Int) (r : List Int) (w : World) (hr0 : Kd.C (Kd.int .i64) w A0 l0.length l0) (hc0 : l0.length ≤ c0) (h : spec_l4Plain.f k l0 = some r) :
  Calls Try.prog 74 #[.slice A0 l0.length c0] w fun e w' => ∃ v0_ : Value, e = .returned (v0_) ∧ Kd.R (Kd.int .i64) 3 w' w.heap.size (fun _ => True) v0_ r ∧ Below w.heap.size w w' := by
 have HR0 := Aside0.mk hr0
 have HC0 := Aside0.mk hc0
 clear hr0 hc0
 have HB := Aside0.mk (Below.refl w.heap.size w)
 have H : (spec_l4Plain.l0 k l0 (([] : List Int)) 0) = some r := h
 clear h
 obtain ⟨y472, hy472⟩ : ∃ y_ : List Int, y_ = (([] : List Int)) := ⟨_, rfl⟩
 replace H : (spec_l4Plain.l0 k l0 y472 0) = some r := by first | (rw [hy472]; with_reducible exact H) | (have H2_ := (Option.bind_some _ _).symm.trans H; rw [hy472]; with_reducible exact H2_) | (have H2_ := (Option.bind_some _ _).symm.trans H; with_reducible exact H2_) | with_reducible exact H | (rw [hy472]; exact H) | exact H
 have Ny472 := Aside0.mk hy472
 clear hy472
 have H' := Aside0.mk H
 clear H
 go_enter Try.func74, Try.ntmps74
 go_wp2_with (first | ((with_reducible refine gate_dst (N := 6) rfl ?_); refine Kd.R_lit (Kd.int .i64) _ 3 ?hg (N := 6) ?hd (xs := ([] : List Int)) (inner := []) (ok := fun _ => True) (okp := fun _ => True) ?hr ?hp (fun _ hk => hk) trivial (Below.refl _ _) (Nat.le_refl _) (by simp) ?_; (case hd => rfl); (case hg => rfl); (case hr => first | (go_simp; done) | (go_simp; rfl)); (case hp => exact (Reps.none _ _)); intro v473 w2 ho3 hb hg_ hnew_; clear hg_ hnew_; (first | rw [← Ny472.out] at ho3 | (simp only [Int.reduceToNat] at ho3; rw [← Ny472.out] at ho3)); have HO474 := tRl ho3 HB; replace HB := tBs HB hb; clear hb ho3))
 go_loopg [3, 4] k (fun kq v3 v4 w' => ∃ (x3_1 : List Int) (x4_1 : Int), v4 = .int .i64 x4_1 ∧ Aside0 (spec_l4Plain.l0 kq l0 x3_1 x4_1 = some r) ∧ Aside0 (kq ≤ k) ∧ Aside0 (Kd.R (Kd.int .i64) 3 w' w.heap.size (fun _ => True) v3 x3_1) ∧ Aside0 (Below w.heap.size w w'))
 case atStart => exact ⟨(y472), (0), tr, H', ⟨Nat.le_refl _⟩, ⟨tR HO474.out⟩, ⟨zb⟩⟩
 case round =>
  clear H'
  obtain ⟨x3_1, x4_1, rfl, HA, HK1, HO_3, HB⟩ := hrel
  cases gk with
  | zero => exact absurd HA.out (by simp [spec_l4Plain.l0])
  | succ k1 =>
   have H := HA.out
   clear HA
   simp only [spec_l4Plain.l0] at H
   by_cases c4 : x4_1 < (l0.length : Int)
   ·rw [if_pos c4] at H
    have c4b0 : decide (x4_1 < (l0.length : Int)) = true := decide_eq_true c4
    clear c4
    obtain ⟨ji5, hji5⟩ : ∃ j_ : Int, (mn (wrap64 (x4_1 + 64)) (l0.length : Int)) = j_ := ⟨_, rfl⟩
    replace H : (if x3_1.length < 17592186044416 then ((some (x3_1 ++ [wrap64 ((wrap64 ((ji5) - x4_1)) - 1)] : List Int)).bind fun y475 => (if 0 ≤ x4_1 then (if x4_1 ≤ (ji5) then (if (ji5) ≤ (l0.length : Int) then (if y475.length + ((l0.take ((ji5) : Int).toNat).drop (x4_1 : Int).toNat).length < 17592186044416 then (spec_l4Plain.l0 k1 l0 (y475 ++ ((l0.take ((ji5) : Int).toNat).drop (x4_1 : Int).toNat)) (wrap64 (x4_1 + 64))) else (none)) else (none)) else (none)) else (none))) else (none)) = some r := by first | (rw [hji5] at H; exact H) | (simp only [hji5] at H ⊢; exact H)
    have hji5_ : (if (l0.length : Int) < (wrap64 (x4_1 + 64)) then (l0.length : Int) else (wrap64 (x4_1 + 64))) = ji5 := hji5
    by_cases c6 : x3_1.length < 17592186044416
    ·rw [if_pos c6] at H
     have LMc6 := Aside0.mk c6
     clear c6
     obtain ⟨y475, hy475⟩ : ∃ y_ : List Int, y_ = (x3_1 ++ [wrap64 ((wrap64 ((ji5) - x4_1)) - 1)]) := ⟨_, rfl⟩
     replace H : (if 0 ≤ x4_1 then (if x4_1 ≤ (ji5) then (if (ji5) ≤ (l0.length : Int) then (if y475.length + ((l0.take ((ji5) : Int).toNat).drop (x4_1 : Int).toNat).length < 17592186044416 then (spec_l4Plain.l0 k1 l0 (y475 ++ ((l0.take ((ji5) : Int).toNat).drop (x4_1 : Int).toNat)) (wrap64 (x4_1 + 64))) else (none)) else (none)) else (none)) else (none)) = some r := by first | (rw [hy475]; with_reducible exact H) | (have H2_ := (Option.bind_some _ _).symm.trans H; rw [hy475]; with_reducible exact H2_) | (have H2_ := (Option.bind_some _ _).symm.trans H; with_reducible exact H2_) | with_reducible exact H | (rw [hy475]; exact H) | exact H
     have Ny475 := Aside0.mk hy475
     clear hy475
     by_cases c7 : 0 ≤ x4_1
     ·rw [if_pos c7] at H
      have c7b0 := eq_true c7
      have c7b1 : decide (0 ≤ x4_1) = true := decide_eq_true c7
      clear c7
      by_cases c8 : x4_1 ≤ (ji5)
      ·rw [if_pos c8] at H
       have c8b0 := eq_true c8
       have c8b1 : decide (x4_1 ≤ (ji5)) = true := decide_eq_true c8
       clear c8
       by_cases c9 : (ji5) ≤ (l0.length : Int)
       ·rw [if_pos c9] at H
        have c9b0 := eq_true c9
        have c9b1 : decide ((ji5) ≤ (l0.length : Int)) = true := decide_eq_true c9
        clear c9
        by_cases c10 : y475.length + ((l0.take ((ji5) : Int).toNat).drop (x4_1 : Int).toNat).length < 17592186044416
        ·rw [if_pos c10] at H
         have LMc10 := Aside0.mk c10
         clear c10
         obtain ⟨y479, hy479⟩ : ∃ y_ : List Int, y_ = (y475 ++ ((l0.take ((ji5) : Int).toNat).drop (x4_1 : Int).toNat)) := ⟨_, rfl⟩
         replace H : (spec_l4Plain.l0 k1 l0 y479 (wrap64 (x4_1 + 64))) = some r := by first | (rw [hy479]; with_reducible exact H) | (have H2_ := (Option.bind_some _ _).symm.trans H; rw [hy479]; with_reducible exact H2_) | (have H2_ := (Option.bind_some _ _).symm.trans H; with_reducible exact H2_) | with_reducible exact H | (rw [hy479]; exact H) | exact H
         have Ny479 := Aside0.mk hy479
         clear hy479
         have H' := Aside0.mk H
         clear H
         try go_wp2
         replace HO_3 := Aside0.mk (Kd.R_drew HO_3.out)
         replace HB := Aside0.mk (below_drew1 HB.out)
         obtain ⟨i012, hi012, _, hsz12, _⟩ := info_parts info3
         obtain ⟨A12, hcut12, hA12, hC12⟩ := print_mid_of (P := Try.prog) (Value.int .i64) 0 26 3 .i64 .i64 Try.underlying26 hi012 hsz12 A0 c0 l0 x4_1 (ji5) (td) (by first | omega | exact td) (td) HC0.out
         have HR478 := Aside0.mk (Kd.C_of_reads (h1 := fun _ => rfl) (hA12 _ (Kd.reads_of_C HR0.out)))
         have HC478 := Aside0.mk hC12
         clear hA12 hC12 hi012 hsz12
         refine start_ (n := 13) (S := fun w' => True) (ds := []) #[false, false, false, false, false, false, false, false, false, false, false, false, false] (by kernel_rfl) rfl rfl trivial (fun hHeld => ?_); refine with_tabW spec_l4Plain.tab6 spec_l4Plain.bits6 (fun HT_ HW_ => ?_)
         generalize wr.drew = w11 at HO_3 HB HR478 hHeld ⊢
         refine tpu 0 (some 18) #[true, false, false, false, false, false, false, false, false, false, false, false, false] ?_
         refine tpu 1 (some 19) #[true, true, false, false, false, false, false, false, false, false, false, false, false] ?_
         refine tpu 2 (some 20) #[true, true, true, false, false, false, false, false, false, false, false, false, false] ?_
         refine tpu 3 (some 21) #[true, true, true, true, false, false, false, false, false, false, false, false, false] ?_
         refine tpu 4 (some 22) #[true, true, true, true, true, false, false, false, false, false, false, false, false] ?_
         refine tpu 7 (some 25) #[true, true, true, true, true, false, false, true, false, false, false, false, false] ?_
         refine tpu 8 (some 26) #[true, true, true, true, true, false, false, true, true, false, false, false, false] ?_
         refine tpu 9 (some 27) #[true, true, true, true, true, false, false, true, true, true, false, false, false] ?_
         refine tpu 10 (some 28) #[true, true, true, true, true, false, false, true, true, true, true, false, false] ?_
         refine one_ (i := 5) (N := some 23) #[true, true, true, true, true, true, false, true, true, true, true, false, false] rfl rfl (one_of HT_.out (by kernel_rfl)) (by decide) (fun K hK => ?_)
         refine value_ (w1 := ?_) (v := ?_) (by rfl) rfl ?_ ?_
         rotate_left 2
         ·go_simp
          constructor
          ·rfl
          ·rfl
         refine hK.out _ _ trivial (fun hHeld => ?_)
         clear hK K
         refine tnm (some 23) ?_
         refine one_ (i := 6) (N := some 24) #[true, true, true, true, true, true, true, true, true, true, true, false, false] rfl rfl (one_of HT_.out (by kernel_rfl)) (by decide) (fun K hK => ?_)
         refine Kd.R_append_step (Kd.int .i64) (w0 := w) w.heap.size (by rfl) (.tmp 18) (.tmp 23) 26 3 (.int .i64 0) 8 rfl Try.underlying26 info3 rfl (by decide) (by omega) u3 x3_1 (wrap64 ((wrap64 ((ji5) - x4_1)) - 1)) [.int .i64 (wrap64 ((wrap64 ((ji5) - x4_1)) - 1))] (fun _ => True) (fun _ => False) rfl rfl ?aP (fun _ hk => hk.elim) ?aF ?aO ?aB ?aS ?aL ?_
         (case aP => exact rfl)
         (case aB => exact zb)
         (case aF => exact (fun _ _ => trivial))
         (case aO => exact (tR HO_3.out))
         (case aS => exact (below_size zb))
         (case aL => have := LMc6.out; omega)
         intro v476 w13 ho hb hg hat
         rw [← Ny475.out] at ho
         replace HB := Aside0.mk (hb)
         have HO477 := Aside0.mk (ho)
         clear HO_3
         clear ho hb hg hat
         refine hK.out _ _ trivial (fun hHeld => ?_)
         clear hK K
         refine tnm (some 24) ?_
         refine one_ (i := 11) (N := some 29) #[true, true, true, true, true, true, true, true, true, true, true, true, false] rfl rfl (one_of HT_.out (by kernel_rfl)) (by decide) (fun K hK => ?_)
         refine Kd.R_append_rows_step (Kd.int .i64) (w0 := w) w.heap.size (by rfl) (.tmp 24) (.tmp 28) 26 3 (.int .i64 0) 8 rfl Try.underlying26 info3 rfl (by decide) (by omega) v476 y475 ((l0.take ((ji5) : Int).toNat).drop (x4_1 : Int).toNat) _ _ _ (fun _ => True) (fun _ => False) rfl rfl ?aO ?aR (fun _ _ h => h) (fun _ h => h.elim) ?aF ?aB ?aS ?aL ?_
         (case aR => first | (rw [← show ((l0.take ((ji5) : Int).toNat).drop (x4_1 : Int).toNat).length = ((ji5).toNat - x4_1.toNat) from (by rw [List.length_drop, List.length_take]; have h_ : ((ji5) : Int) ≤ (l0.length : Int) := td; omega)]; exact tC (Kd.C_below HR478.out HB.out)) | (exact tC (Kd.C_below HR478.out HB.out)))
         (case aB => exact zb)
         (case aF => exact (fun _ _ => trivial))
         (case aO => exact (tR HO477.out))
         (case aS => exact (below_size zb))
         (case aL => have := LMc10.out; have hlx_ := (show ((l0.take ((ji5) : Int).toNat).drop (x4_1 : Int).toNat).length = ((ji5).toNat - x4_1.toNat) from (by rw [List.length_drop, List.length_take]; have h_ : ((ji5) : Int) ≤ (l0.length : Int) := td; omega)); omega)
         intro v480 w14 ho hb hg hat
         rw [← Ny479.out] at ho
         replace HB := Aside0.mk (hb)
         have HO481 := Aside0.mk (ho)
         clear HO477
         clear ho hb hg hat
         refine hK.out _ _ trivial (fun hHeld => ?_)
         clear hK K
         refine tnm (some 29) ?_
         refine tpu 12 (some 3) #[true, true, true, true, true, true, true, true, true, true, true, true, true] ?_
         refine done_ (done_of HT_.out (by kernel_rfl)) ?_
         try go_wp2
         go_roundg k1
         case measure => have := HK1.out; omega
         case rel => exact ⟨(y479), (wrap64 (x4_1 + 64)), tr, H', ⟨by have := HK1.out; omega⟩, ⟨tR HO481.out⟩, ⟨zb⟩⟩
        ·rw [if_neg c10] at H
         exact absurd H (by simp)
       ·rw [if_neg c9] at H
        exact absurd H (by simp)
      ·rw [if_neg c8] at H
       exact absurd H (by simp)
     ·rw [if_neg c7] at H
      exact absurd H (by simp)
    ·rw [if_neg c6] at H
     exact absurd H (by simp)
   ·rw [if_neg c4] at H
    have c4b0 : decide (x4_1 < (l0.length : Int)) = false := decide_eq_false c4
    clear c4
    obtain rfl := Option.some.inj H
    go_wp2
    go_ret
    exact ⟨_, by first | rfl | (simp [errW_none, errW_some] <;> rfl) | (simp [*, errW_none, errW_some] <;> rfl), tR HO_3.out, zb⟩

def spec_l4Pack.l0 : Nat → List Int → List Int → List Int → Int → Option (List Int)
 | 0, _, _, _, _ => none
 | k + 1, x0, x3, x4, x5 => if x5 < (x0.length : Int) then ((spec_l4Best.f k x0 x5).bind fun bt494 => (if bt494.1 < 3 then (if 0 ≤ x5 then (if x4.length < 17592186044416 then (spec_l4Pack.l0 k x0 x3 (x4 ++ [rd x0 x5]) (wrap64 (x5 + 1))) else (none)) else (none)) else ((spec_l4Plain.f k x4).bind fun t500 => (if x3.length + t500.length < 17592186044416 then ((some (x3 ++ t500 : List Int)).bind fun y503 => ((some (([wrap64 ((wrap64 (64 + bt494.1)) - 3), bt494.2] : List Int) : List Int)).bind fun y506 => (if y503.length + y506.length < 17592186044416 then (spec_l4Pack.l0 k x0 (y503 ++ y506) (([] : List Int)) (wrap64 (x5 + bt494.1))) else (none)))) else (none))))) else ((spec_l4Plain.f k x4).bind fun t488 => (if x3.length + t488.length < 17592186044416 then (some (x3 ++ t488)) else (none)))
def spec_l4Pack.f (k : Nat) (l0 : List Int) : Option (List Int) := spec_l4Pack.l0 k l0 (([] : List Int)) (([] : List Int)) 0
set_option maxHeartbeats 8000000 in
set_option maxRecDepth 100000 in
theorem spec_l4Pack.calls (k : Nat) (A0 : Option Addr) (c0 : Nat) (l0 : List Int) (r : List Int) (w : World) (hr0 : Kd.C (Kd.int .i64) w A0 l0.length l0) (hc0 : l0.length ≤ c0) (h : spec_l4Pack.f k l0 = some r) :
  Calls Try.prog 55 #[.slice A0 l0.length c0] w fun e w' => ∃ v0_ : Value, e = .returned (v0_) ∧ Kd.R (Kd.int .i64) 3 w' w.heap.size (fun _ => True) v0_ r ∧ Below w.heap.size w w' := by
 have HR0 := Aside0.mk hr0
 have HC0 := Aside0.mk hc0
 clear hr0 hc0
 have HB := Aside0.mk (Below.refl w.heap.size w)
 have H : (spec_l4Pack.l0 k l0 (([] : List Int)) (([] : List Int)) 0) = some r := h
 clear h
 obtain ⟨y482, hy482⟩ : ∃ y_ : List Int, y_ = (([] : List Int)) := ⟨_, rfl⟩
 replace H : (spec_l4Pack.l0 k l0 y482 (([] : List Int)) 0) = some r := by first | (rw [hy482]; with_reducible exact H) | (have H2_ := (Option.bind_some _ _).symm.trans H; rw [hy482]; with_reducible exact H2_) | (have H2_ := (Option.bind_some _ _).symm.trans H; with_reducible exact H2_) | with_reducible exact H | (rw [hy482]; exact H) | exact H
 have Ny482 := Aside0.mk hy482
 clear hy482
 obtain ⟨y485, hy485⟩ : ∃ y_ : List Int, y_ = (([] : List Int)) := ⟨_, rfl⟩
 replace H : (spec_l4Pack.l0 k l0 y482 y485 0) = some r := by first | (rw [hy485]; with_reducible exact H) | (have H2_ := (Option.bind_some _ _).symm.trans H; rw [hy485]; with_reducible exact H2_) | (have H2_ := (Option.bind_some _ _).symm.trans H; with_reducible exact H2_) | with_reducible exact H | (rw [hy485]; exact H) | exact H
 have Ny485 := Aside0.mk hy485
 clear hy485
 have H' := Aside0.mk H
 clear H
 go_enter Try.func55, Try.ntmps55
 go_wp2_with (first | ((with_reducible refine gate_dst (N := 8) rfl ?_); refine Kd.R_lit (Kd.int .i64) _ 3 ?hg (N := 8) ?hd (xs := ([] : List Int)) (inner := []) (ok := fun _ => True) (okp := fun _ => True) ?hr ?hp (fun _ hk => hk) trivial (Below.refl _ _) (Nat.le_refl _) (by simp) ?_; (case hd => rfl); (case hg => rfl); (case hr => first | (go_simp; done) | (go_simp; rfl)); (case hp => exact (Reps.none _ _)); intro v483 w2 ho3 hb hg_ hnew_; clear hg_ hnew_; (first | rw [← Ny482.out] at ho3 | (simp only [Int.reduceToNat] at ho3; rw [← Ny482.out] at ho3)); have HO484 := tRl ho3 HB; replace HB := tBs HB hb; clear hb ho3) | ((with_reducible refine gate_dst (N := 9) rfl ?_); refine Kd.R_lit (Kd.int .i64) _ 3 ?hg (N := 9) ?hd (xs := ([] : List Int)) (inner := []) (ok := fun _ => True) (okp := fun _ => True) ?hr ?hp (fun _ hk => hk) trivial (Below.refl _ _) (Nat.le_refl _) (by simp) ?_; (case hd => rfl); (case hg => rfl); (case hr => first | (go_simp; done) | (go_simp; rfl)); (case hp => exact (Reps.none _ _)); intro v486 w4 ho5 hb hg_ hnew_; clear hg_ hnew_; (first | rw [← Ny485.out] at ho5 | (simp only [Int.reduceToNat] at ho5; rw [← Ny485.out] at ho5)); have HO487 := Aside0.mk (Kd.R_lower (Kd.R_new' ho5 (Kd.R_lt (tR HO484.out))) (below_size zb)); replace HO484 := Aside0.mk (Kd.R_elder' (tR HO484.out) (Kd.R_base ho5) hb); replace HB := tBs HB hb; clear hb ho5))
 go_loopg [3, 4, 5] k (fun kq v3 v4 v5 w' => ∃ (x3_1 : List Int) (x4_1 : List Int) (x5_1 : Int), v5 = .int .i64 x5_1 ∧ Aside0 (spec_l4Pack.l0 kq l0 x3_1 x4_1 x5_1 = some r) ∧ Aside0 (kq ≤ k) ∧ Aside0 (Kd.R (Kd.int .i64) 3 w' w.heap.size (fun k_ => some k_ ≠ (v4 : Value).ownBlock) v3 x3_1) ∧ Aside0 (Kd.R (Kd.int .i64) 3 w' w.heap.size (fun k_ => some k_ ≠ (v3 : Value).ownBlock) v4 x4_1) ∧ Aside0 (Below w.heap.size w w'))
 case atStart => exact ⟨(y482), (y485), (0), tr, H', ⟨Nat.le_refl _⟩, ⟨tRm HO484.out⟩, ⟨tRm HO487.out⟩, ⟨zb⟩⟩
 case round =>
  clear H'
  obtain ⟨x3_1, x4_1, x5_1, rfl, HA, HK1, HO_3, HO_4, HB⟩ := hrel
  cases gk with
  | zero => exact absurd HA.out (by simp [spec_l4Pack.l0])
  | succ k1 =>
   have H := HA.out
   clear HA
   simp only [spec_l4Pack.l0] at H
   by_cases c6 : x5_1 < (l0.length : Int)
   ·rw [if_pos c6] at H
    have c6b0 : decide (x5_1 < (l0.length : Int)) = true := decide_eq_true c6
    clear c6
    replace H := tbe H
    obtain ⟨⟨t494, t495⟩, A7, H⟩ := H
    dsimp only at H
    by_cases c8 : t494 < 3
    ·rw [if_pos c8] at H
     have c8b0 : decide (t494 < 3) = true := decide_eq_true c8
     clear c8
     by_cases c9 : 0 ≤ x5_1
     ·rw [if_pos c9] at H
      have c9b0 : decide (0 ≤ x5_1) = true := decide_eq_true c9
      clear c9
      by_cases c10 : x4_1.length < 17592186044416
      ·rw [if_pos c10] at H
       have LMc10 := Aside0.mk c10
       clear c10
       obtain ⟨y497, hy497⟩ : ∃ y_ : List Int, y_ = (x4_1 ++ [rd l0 x5_1]) := ⟨_, rfl⟩
       replace H : (spec_l4Pack.l0 k1 l0 x3_1 y497 (wrap64 (x5_1 + 1))) = some r := by first | (rw [hy497]; with_reducible exact H) | (have H2_ := (Option.bind_some _ _).symm.trans H; rw [hy497]; with_reducible exact H2_) | (have H2_ := (Option.bind_some _ _).symm.trans H; with_reducible exact H2_) | with_reducible exact H | (rw [hy497]; exact H) | exact H
       have Ny497 := Aside0.mk hy497
       clear hy497
       have H' := Aside0.mk H
       clear H
       go_wp2_with (first | ((with_reducible refine gate_callee (f := 73) rfl ?_); refine goesL_ (some 17) rfl rfl Try.func73 (by kernel_rfl) rfl #[.slice A0 l0.length c0, .int .i64 x5_1] rfl tq ?_; (with_reducible refine (spec_l4Best.calls k1 _ _ l0 x5_1 t494 t495 _ ?side1 ?side2 A7.out).mono ?_); (case side1 => exact tC (Kd.C_below HR0.out HB.out)); (case side2 => exact HC0.out); rintro e w11 ⟨rfl, hb⟩; refine ⟨_, rfl, ?_⟩; replace HO_3 := tRb HO_3 hb; replace HO_4 := tRb HO_4 hb; replace HB := tBs HB hb; (try clear hb); (try clear hb2); (try clear hk); (try clear hi); have p496 : 0 ≤ (x5_1 : Int) := td; have q496 : x5_1 < (l0.length : Int) := td; obtain ⟨ad496, e496, hx496_0⟩ := Kd.at_int HR0.out x5_1 p496 q496; cases e496; replace hx496_0 := tcl HB hx496_0; replace p496 := eq_true p496; replace q496 := eq_true q496) | ((with_reducible refine gate_builtin (b := .append) (xs := #[.tmp 22, .tmp 27]) rfl ?_); at_builtin; refine Kd.R_append (Kd.int .i64) (w0 := w) w.heap.size rfl (.tmp 22) (.tmp 27) 26 3 (.int .i64 0) 8 rfl Try.underlying26 info3 rfl (by decide) (by omega) u4 x4_1 (rd l0 x5_1) [.int .i64 (rd l0 x5_1)] (fun k_ => some k_ ≠ (u3 : Value).ownBlock) (fun _ => False) rfl rfl ?aP (fun _ hk => hk.elim) ?aF ?aO ?aB ?aS ?aL ?_; (case aP => exact rfl); (case aB => exact zb); (case aF => exact (fun k_ hk => Kd.fresh' (Kd.R_lt (tR HO_3.out)) k_ hk)); (case aO => exact (tR HO_4.out)); (case aS => exact (below_size zb)); (case aL => have := LMc10.out; omega); intro v498 w12 ho hb hg hat; rw [← Ny497.out] at ho; replace HO_3 := Aside0.mk (Kd.R_after (ok := (fun _ => True)) (tRm HO_3.out) hg hat); replace HB := Aside0.mk (hb); have HO499 := Aside0.mk (ho); clear HO_4; clear ho hb hg hat))
       go_roundg k1
       case measure => have := HK1.out; omega
       case rel => exact ⟨(x3_1), (y497), (wrap64 (x5_1 + 1)), tr, H', ⟨by have := HK1.out; omega⟩, ⟨tRm HO_3.out⟩, ⟨tR HO499.out⟩, ⟨zb⟩⟩
      ·rw [if_neg c10] at H
       exact absurd H (by simp)
     ·rw [if_neg c9] at H
      exact absurd H (by simp)
    ·rw [if_neg c8] at H
     have c8b0 : decide (t494 < 3) = false := decide_eq_false c8
     clear c8
     replace H := tbe H
     obtain ⟨t500, A13, H⟩ := H
     by_cases c14 : x3_1.length + t500.length < 17592186044416
     ·rw [if_pos c14] at H
      have LMc14 := Aside0.mk c14
      clear c14
      obtain ⟨y503, hy503⟩ : ∃ y_ : List Int, y_ = (x3_1 ++ t500) := ⟨_, rfl⟩
      replace H : ((some (([wrap64 ((wrap64 (64 + t494)) - 3), t495] : List Int) : List Int)).bind fun y506 => (if y503.length + y506.length < 17592186044416 then (spec_l4Pack.l0 k1 l0 (y503 ++ y506) (([] : List Int)) (wrap64 (x5_1 + t494))) else (none))) = some r := by first | (rw [hy503]; with_reducible exact H) | (have H2_ := (Option.bind_some _ _).symm.trans H; rw [hy503]; with_reducible exact H2_) | (have H2_ := (Option.bind_some _ _).symm.trans H; with_reducible exact H2_) | with_reducible exact H | (rw [hy503]; exact H) | exact H
      have Ny503 := Aside0.mk hy503
      clear hy503
      obtain ⟨y506, hy506⟩ : ∃ y_ : List Int, y_ = (([wrap64 ((wrap64 (64 + t494)) - 3), t495] : List Int)) := ⟨_, rfl⟩
      replace H : (if y503.length + y506.length < 17592186044416 then (spec_l4Pack.l0 k1 l0 (y503 ++ y506) (([] : List Int)) (wrap64 (x5_1 + t494))) else (none)) = some r := by first | (rw [hy506]; with_reducible exact H) | (have H2_ := (Option.bind_some _ _).symm.trans H; rw [hy506]; with_reducible exact H2_) | (have H2_ := (Option.bind_some _ _).symm.trans H; with_reducible exact H2_) | with_reducible exact H | (rw [hy506]; exact H) | exact H
      have Ny506 := Aside0.mk hy506
      clear hy506
      by_cases c15 : y503.length + y506.length < 17592186044416
      ·rw [if_pos c15] at H
       have LMc15 := Aside0.mk c15
       clear c15
       obtain ⟨y509, hy509⟩ : ∃ y_ : List Int, y_ = (y503 ++ y506) := ⟨_, rfl⟩
       replace H : (spec_l4Pack.l0 k1 l0 y509 (([] : List Int)) (wrap64 (x5_1 + t494))) = some r := by first | (rw [hy509]; with_reducible exact H) | (have H2_ := (Option.bind_some _ _).symm.trans H; rw [hy509]; with_reducible exact H2_) | (have H2_ := (Option.bind_some _ _).symm.trans H; with_reducible exact H2_) | with_reducible exact H | (rw [hy509]; exact H) | exact H
       have Ny509 := Aside0.mk hy509
       clear hy509
       obtain ⟨y512, hy512⟩ : ∃ y_ : List Int, y_ = (([] : List Int)) := ⟨_, rfl⟩
       replace H : (spec_l4Pack.l0 k1 l0 y509 y512 (wrap64 (x5_1 + t494))) = some r := by first | (rw [hy512]; with_reducible exact H) | (have H2_ := (Option.bind_some _ _).symm.trans H; rw [hy512]; with_reducible exact H2_) | (have H2_ := (Option.bind_some _ _).symm.trans H; with_reducible exact H2_) | with_reducible exact H | (rw [hy512]; exact H) | exact H
       have Ny512 := Aside0.mk hy512
       clear hy512
       have H' := Aside0.mk H
       clear H
       go_wp2_with (first | ((with_reducible refine gate_callee (f := 73) rfl ?_); refine goesL_ (some 17) rfl rfl Try.func73 (by kernel_rfl) rfl #[.slice A0 l0.length c0, .int .i64 x5_1] rfl tq ?_; (with_reducible refine (spec_l4Best.calls k1 _ _ l0 x5_1 t494 t495 _ ?side1 ?side2 A7.out).mono ?_); (case side1 => exact tC (Kd.C_below HR0.out HB.out)); (case side2 => exact HC0.out); rintro e w16 ⟨rfl, hb⟩; refine ⟨_, rfl, ?_⟩; replace HO_3 := tRb HO_3 hb; replace HO_4 := tRb HO_4 hb; replace HB := tBs HB hb; (try clear hb); (try clear hb2); (try clear hk); (try clear hi); obtain ⟨Ao17, co17, eo17⟩ := Kd.R_slice HO_4.out; subst eo17) | ((with_reducible refine gate_callee (f := 74) rfl ?_); refine goesL_ (some 33) rfl rfl Try.func74 (by kernel_rfl) rfl #[.slice Ao17 x4_1.length co17] rfl tq ?_; (with_reducible refine (spec_l4Plain.calls k1 _ _ x4_1 t500 _ ?side1 ?side2 A13.out).mono ?_); (case side1 => repeat (first | exact (Kd.R_reads' HO_4.out).2.2 | (with_reducible refine Kd.C_alloc ?_ _) | (with_reducible refine Kd.C_drewN ?_ _) | (with_reducible refine Kd.C_drew ?_))); (case side2 => exact (Kd.R_reads' HO_4.out).2.1); rintro e w18 ⟨v501, rfl, ho0, hb⟩; have u_v501 := tsv Try.prog v501 ho0; refine ⟨_, rfl, ?_⟩; have HO502 := Aside0.mk (Kd.R_lower (Kd.R_new' (Kd.R_new' ho0 (Kd.R_lt (tR HO_3.out))) (Kd.R_lt (tR HO_4.out))) (below_size zb)); replace HO_3 := Aside0.mk (Kd.R_elder' (tR HO_3.out) (Kd.R_base ho0) hb); replace HO_4 := Aside0.mk (Kd.R_elder' (tR HO_4.out) (Kd.R_base ho0) hb); replace HB := tBs HB hb; (try clear hb); (try clear hb2); (try clear hk); (try clear hi); (try clear ho0); obtain ⟨Ao20, co20, eo20⟩ := Kd.R_slice HO502.out; subst eo20) | ((with_reducible refine gate_builtin (b := .append) (xs := #[.tmp 31, .tmp 33]) rfl ?_); at_builtin; refine Kd.R_append_rows (Kd.int .i64) (w0 := w) w.heap.size rfl (.tmp 31) (.tmp 33) 26 3 (.int .i64 0) 8 rfl Try.underlying26 info3 rfl (by decide) (by omega) u3 x3_1 t500 _ _ _ (fun k_ => some k_ ≠ (.slice Ao17 x4_1.length co17 : Value).ownBlock ∧ some k_ ≠ (.slice Ao20 t500.length co20 : Value).ownBlock) (fun _ => False) rfl rfl ?aO ?aR (fun _ _ h => h) (fun _ h => h.elim) ?aF ?aB ?aS ?aL ?_; (case aR => repeat (first | exact (Kd.R_reads' HO502.out).2.2 | (with_reducible refine Kd.C_alloc ?_ _) | (with_reducible refine Kd.C_drewN ?_ _) | (with_reducible refine Kd.C_drew ?_))); (case aB => exact zb); (case aF => exact (fun k_ hk => ⟨Kd.fresh' (Kd.R_lt (tR HO_4.out)) k_ hk, Kd.fresh' (Kd.R_lt (tR HO502.out)) k_ hk⟩)); (case aO => exact (tR HO_3.out)); (case aS => exact (below_size zb)); (case aL => have := LMc14.out; omega); intro v504 w19 ho hb hg hat; rw [← Ny503.out] at ho; replace HO_4 := Aside0.mk (Kd.R_after (ok := (fun k_ => some k_ ≠ (.slice Ao20 t500.length co20 : Value).ownBlock)) (tRm HO_4.out) hg hat); replace HO502 := Aside0.mk (Kd.R_after (ok := (fun k_ => some k_ ≠ (.slice Ao17 x4_1.length co17 : Value).ownBlock)) (tRm HO502.out) hg hat); replace HB := Aside0.mk (hb); have HO505 := Aside0.mk (ho); clear HO_3; clear ho hb hg hat) | ((with_reducible refine gate_dst (N := 39) rfl ?_); refine Kd.R_lit (Kd.int .i64) _ 3 ?hg (N := 39) ?hd (xs := ([wrap64 ((wrap64 (64 + t494)) - 3), t495] : List Int)) (inner := [.int .i64 (wrap64 ((wrap64 (64 + t494)) - 3)), .int .i64 t495]) (ok := fun _ => True) (okp := fun _ => True) ?hr ?hp (fun _ hk => hk) trivial (Below.refl _ _) (Nat.le_refl _) (by simp) ?_; (case hd => rfl); (case hg => rfl); (case hr => first | (go_simp; done) | (go_simp; rfl)); (case hp => exact (Reps.one (show Kd.M (Kd.int .i64) _ _ _ (wrap64 ((wrap64 (64 + t494)) - 3)) [.int .i64 (wrap64 ((wrap64 (64 + t494)) - 3))] from rfl) (Reps.one (show Kd.M (Kd.int .i64) _ _ _ t495 [.int .i64 t495] from rfl) (Reps.none _ _)))); intro v507 w21 ho22 hb hg_ hnew_; clear hg_ hnew_; (first | rw [← Ny506.out] at ho22 | (simp only [Int.reduceToNat] at ho22; rw [← Ny506.out] at ho22)); have HO508 := Aside0.mk (Kd.R_lower (Kd.R_new' (Kd.R_new' (Kd.R_new' ho22 (Kd.R_lt (tR HO_4.out))) (Kd.R_lt (tR HO502.out))) (Kd.R_lt (tR HO505.out))) (below_size zb)); replace HO_4 := Aside0.mk (Kd.R_elder' (tR HO_4.out) (Kd.R_base ho22) hb); replace HO502 := Aside0.mk (Kd.R_elder' (tR HO502.out) (Kd.R_base ho22) hb); replace HO505 := Aside0.mk (Kd.R_elder' (tR HO505.out) (Kd.R_base ho22) hb); replace HB := tBs HB hb; clear hb ho22; obtain ⟨Ao24, co24, eo24⟩ := Kd.R_slice HO508.out; subst eo24) | ((with_reducible refine gate_builtin (b := .append) (xs := #[.tmp 34, .tmp 39]) rfl ?_); at_builtin; refine Kd.R_append_rows (Kd.int .i64) (w0 := w) w.heap.size rfl (.tmp 34) (.tmp 39) 26 3 (.int .i64 0) 8 rfl Try.underlying26 info3 rfl (by decide) (by omega) v504 y503 y506 _ _ _ (fun k_ => some k_ ≠ (.slice Ao17 x4_1.length co17 : Value).ownBlock ∧ some k_ ≠ (.slice Ao20 t500.length co20 : Value).ownBlock ∧ some k_ ≠ (.slice Ao24 y506.length co24 : Value).ownBlock) (fun _ => False) rfl rfl ?aO ?aR (fun _ _ h => h) (fun _ h => h.elim) ?aF ?aB ?aS ?aL ?_; (case aR => repeat (first | exact (Kd.R_reads' HO508.out).2.2 | (with_reducible refine Kd.C_alloc ?_ _) | (with_reducible refine Kd.C_drewN ?_ _) | (with_reducible refine Kd.C_drew ?_))); (case aB => exact zb); (case aF => exact (fun k_ hk => ⟨Kd.fresh' (Kd.R_lt (tR HO_4.out)) k_ hk, Kd.fresh' (Kd.R_lt (tR HO502.out)) k_ hk, Kd.fresh' (Kd.R_lt (tR HO508.out)) k_ hk⟩)); (case aO => exact (tRm HO505.out)); (case aS => exact (below_size zb)); (case aL => have := LMc15.out; omega); intro v510 w23 ho hb hg hat; rw [← Ny509.out] at ho; replace HO_4 := Aside0.mk (Kd.R_after (ok := (fun k_ => some k_ ≠ (.slice Ao20 t500.length co20 : Value).ownBlock ∧ some k_ ≠ (.slice Ao24 y506.length co24 : Value).ownBlock)) (tRm HO_4.out) hg hat); replace HO502 := Aside0.mk (Kd.R_after (ok := (fun k_ => some k_ ≠ (.slice Ao17 x4_1.length co17 : Value).ownBlock ∧ some k_ ≠ (.slice Ao24 y506.length co24 : Value).ownBlock)) (tRm HO502.out) hg hat); replace HO508 := Aside0.mk (Kd.R_after (ok := (fun k_ => some k_ ≠ (.slice Ao17 x4_1.length co17 : Value).ownBlock ∧ some k_ ≠ (.slice Ao20 t500.length co20 : Value).ownBlock)) (tRm HO508.out) hg hat); replace HB := Aside0.mk (hb); have HO511 := Aside0.mk (ho); clear HO505; clear ho hb hg hat) | ((with_reducible refine gate_dst (N := 41) rfl ?_); refine Kd.R_lit (Kd.int .i64) _ 3 ?hg (N := 41) ?hd (xs := ([] : List Int)) (inner := []) (ok := fun _ => True) (okp := fun _ => True) ?hr ?hp (fun _ hk => hk) trivial (Below.refl _ _) (Nat.le_refl _) (by simp) ?_; (case hd => rfl); (case hg => rfl); (case hr => first | (go_simp; done) | (go_simp; rfl)); (case hp => exact (Reps.none _ _)); intro v513 w25 ho26 hb hg_ hnew_; clear hg_ hnew_; (first | rw [← Ny512.out] at ho26 | (simp only [Int.reduceToNat] at ho26; rw [← Ny512.out] at ho26)); have HO514 := Aside0.mk (Kd.R_lower (Kd.R_new' (Kd.R_new' (Kd.R_new' (Kd.R_new' ho26 (Kd.R_lt (tR HO_4.out))) (Kd.R_lt (tR HO502.out))) (Kd.R_lt (tR HO508.out))) (Kd.R_lt (tR HO511.out))) (below_size zb)); replace HO_4 := Aside0.mk (Kd.R_elder' (tR HO_4.out) (Kd.R_base ho26) hb); replace HO502 := Aside0.mk (Kd.R_elder' (tR HO502.out) (Kd.R_base ho26) hb); replace HO508 := Aside0.mk (Kd.R_elder' (tR HO508.out) (Kd.R_base ho26) hb); replace HO511 := Aside0.mk (Kd.R_elder' (tR HO511.out) (Kd.R_base ho26) hb); replace HB := tBs HB hb; clear hb ho26))
       go_roundg k1
       case measure => have := HK1.out; omega
       case rel => exact ⟨(y509), (y512), (wrap64 (x5_1 + t494)), tr, H', ⟨by have := HK1.out; omega⟩, ⟨tRm HO511.out⟩, ⟨tRm HO514.out⟩, ⟨zb⟩⟩
      ·rw [if_neg c15] at H
       exact absurd H (by simp)
     ·rw [if_neg c14] at H
      exact absurd H (by simp)
   ·rw [if_neg c6] at H
    have c6b0 : decide (x5_1 < (l0.length : Int)) = false := decide_eq_false c6
    clear c6
    replace H := tbe H
    obtain ⟨t488, A27, H⟩ := H
    by_cases c28 : x3_1.length + t488.length < 17592186044416
    ·rw [if_pos c28] at H
     have LMc28 := Aside0.mk c28
     clear c28
     obtain ⟨y491, hy491⟩ : ∃ y_ : List Int, y_ = (x3_1 ++ t488) := ⟨_, rfl⟩
     replace H : (some y491) = some r := by first | (rw [hy491]; with_reducible exact H) | (have H2_ := (Option.bind_some _ _).symm.trans H; rw [hy491]; with_reducible exact H2_) | (have H2_ := (Option.bind_some _ _).symm.trans H; with_reducible exact H2_) | with_reducible exact H | (rw [hy491]; exact H) | exact H
     have Ny491 := Aside0.mk hy491
     clear hy491
     obtain rfl := Option.some.inj H
     obtain ⟨Ao29, co29, eo29⟩ := Kd.R_slice HO_4.out
     subst eo29
     go_wp2_with (first | ((with_reducible refine gate_callee (f := 74) rfl ?_); refine goesL_ (some 47) rfl rfl Try.func74 (by kernel_rfl) rfl #[.slice Ao29 x4_1.length co29] rfl tq ?_; (with_reducible refine (spec_l4Plain.calls k1 _ _ x4_1 t488 _ ?side1 ?side2 A27.out).mono ?_); (case side1 => repeat (first | exact (Kd.R_reads' HO_4.out).2.2 | (with_reducible refine Kd.C_alloc ?_ _) | (with_reducible refine Kd.C_drewN ?_ _) | (with_reducible refine Kd.C_drew ?_))); (case side2 => exact (Kd.R_reads' HO_4.out).2.1); rintro e w30 ⟨v489, rfl, ho0, hb⟩; have u_v489 := tsv Try.prog v489 ho0; refine ⟨_, rfl, ?_⟩; have HO490 := Aside0.mk (Kd.R_lower (Kd.R_new' (Kd.R_new' ho0 (Kd.R_lt (tR HO_3.out))) (Kd.R_lt (tR HO_4.out))) (below_size zb)); replace HO_3 := Aside0.mk (Kd.R_elder' (tR HO_3.out) (Kd.R_base ho0) hb); replace HO_4 := Aside0.mk (Kd.R_elder' (tR HO_4.out) (Kd.R_base ho0) hb); replace HB := tBs HB hb; (try clear hb); (try clear hb2); (try clear hk); (try clear hi); (try clear ho0); obtain ⟨Ao32, co32, eo32⟩ := Kd.R_slice HO490.out; subst eo32) | ((with_reducible refine gate_builtin (b := .append) (xs := #[.tmp 45, .tmp 47]) rfl ?_); at_builtin; refine Kd.R_append_rows (Kd.int .i64) (w0 := w) w.heap.size rfl (.tmp 45) (.tmp 47) 26 3 (.int .i64 0) 8 rfl Try.underlying26 info3 rfl (by decide) (by omega) u3 x3_1 t488 _ _ _ (fun k_ => some k_ ≠ (.slice Ao29 x4_1.length co29 : Value).ownBlock ∧ some k_ ≠ (.slice Ao32 t488.length co32 : Value).ownBlock) (fun _ => False) rfl rfl ?aO ?aR (fun _ _ h => h) (fun _ h => h.elim) ?aF ?aB ?aS ?aL ?_; (case aR => repeat (first | exact (Kd.R_reads' HO490.out).2.2 | (with_reducible refine Kd.C_alloc ?_ _) | (with_reducible refine Kd.C_drewN ?_ _) | (with_reducible refine Kd.C_drew ?_))); (case aB => exact zb); (case aF => exact (fun k_ hk => ⟨Kd.fresh' (Kd.R_lt (tR HO_4.out)) k_ hk, Kd.fresh' (Kd.R_lt (tR HO490.out)) k_ hk⟩)); (case aO => exact (tR HO_3.out)); (case aS => exact (below_size zb)); (case aL => have := LMc28.out; omega); intro v492 w31 ho hb hg hat; rw [← Ny491.out] at ho; replace HO_4 := Aside0.mk (Kd.R_after (ok := (fun k_ => some k_ ≠ (.slice Ao32 t488.length co32 : Value).ownBlock)) (tRm HO_4.out) hg hat); replace HO490 := Aside0.mk (Kd.R_after (ok := (fun k_ => some k_ ≠ (.slice Ao29 x4_1.length co29 : Value).ownBlock)) (tRm HO490.out) hg hat); replace HB := Aside0.mk (hb); have HO493 := Aside0.mk (ho); clear HO_3; clear ho hb hg hat))
     go_ret
     exact ⟨_, by first | rfl | (simp [errW_none, errW_some] <;> rfl) | (simp [*, errW_none, errW_some] <;> rfl), tRm HO493.out, zb⟩
    ·rw [if_neg c28] at H
     exact absurd H (by simp)

def spec_l2Int.l0 : Nat → Int → List Int → Int → Option (List Int)
 | 0, _, _, _ => none
 | k + 1, x0, x5, x6 => if x6 ≥ 0 then (if 0 ≤ x6 then (if x6 < (x5.length : Int) then (spec_l2Int.l0 k (wrap64 (Int.tdiv x0 256)) (x5.set (x6 : Int).toNat (Int.tmod x0 256)) (wrap64 (x6 - 1))) else (none)) else (none)) else (some x5)
def spec_l2Int.f (k : Nat) (a0 : Int) (a1 : Int) : Option (List Int) := if 0 ≤ a1 then (if (a1 : Int).toNat ≤ 35184372088832 then (spec_l2Int.l0 k a0 (List.replicate (a1 : Int).toNat 0) (wrap64 (a1 - 1))) else (none)) else (none)
set_option maxHeartbeats 8000000 in
set_option maxRecDepth 100000 in
theorem spec_l2Int.calls (k : Nat) (a0 : Int) (a1 : Int) (r : List Int) (w : World) (h : spec_l2Int.f k a0 a1 = some r) :
  Calls Try.prog 56 #[.int .i64 a0, .int .i64 a1] w fun e w' => ∃ v0_ : Value, e = .returned (v0_) ∧ Kd.R (Kd.int .i64) 3 w' w.heap.size (fun _ => True) v0_ r ∧ Below w.heap.size w w' := by
 have HB := Aside0.mk (Below.refl w.heap.size w)
 have H : (if 0 ≤ a1 then (if (a1 : Int).toNat ≤ 35184372088832 then (spec_l2Int.l0 k a0 (List.replicate (a1 : Int).toNat 0) (wrap64 (a1 - 1))) else (none)) else (none)) = some r := h
 clear h
 by_cases c3 : 0 ≤ a1
 ·rw [if_pos c3] at H
  have c3b0 := eq_true c3
  have c3b1 : decide (0 ≤ a1) = true := decide_eq_true c3
  clear c3
  by_cases c4 : (a1 : Int).toNat ≤ 35184372088832
  ·rw [if_pos c4] at H
   have c4b0 := eq_true c4
   have c4b1 : decide ((a1 : Int).toNat ≤ 35184372088832) = true := decide_eq_true c4
   clear c4
   obtain ⟨y515, hy515⟩ : ∃ y_ : List Int, y_ = (List.replicate (a1 : Int).toNat 0) := ⟨_, rfl⟩
   replace H : (spec_l2Int.l0 k a0 y515 (wrap64 (a1 - 1))) = some r := by first | (rw [hy515]; with_reducible exact H) | (have H2_ := (Option.bind_some _ _).symm.trans H; rw [hy515]; with_reducible exact H2_) | (have H2_ := (Option.bind_some _ _).symm.trans H; with_reducible exact H2_) | with_reducible exact H | (rw [hy515]; exact H) | exact H
   have Ny515 := Aside0.mk hy515
   clear hy515
   have H' := Aside0.mk H
   clear H
   go_enter Try.func56, Try.ntmps56
   go_wp2_with (first | ((with_reducible refine gate_dst (N := 8) rfl ?_); refine Kd.R_make (Kd.int .i64) _ 3 rfl (N := 8) rfl 26 _ _ rfl a1 rfl rfl Try.underlying26 (.int .i64 0) 8 info3 rfl (by decide) (by omega) 0 (ok := fun _ => True) (okp := fun _ => True) rfl (fun _ hk => hk) trivial (td) (Nat.le_trans (Nat.mul_le_mul_right _ (td : a1.toNat ≤ 35184372088832)) (by omega)) (Below.refl _ _) (Nat.le_refl _) ?_; intro v516 w5 ho6 hb hg_ hnew_; clear hg_ hnew_; (first | rw [← Ny515.out] at ho6 | (simp only [Int.reduceToNat] at ho6; rw [← Ny515.out] at ho6)); have HO517 := tRl ho6 HB; replace HB := tBs HB hb; clear hb ho6))
   go_loopg [0, 6] k (fun kq v0 v6 w' => ∃ (x0_1 : Int) (x5_1 : List Int) (x6_1 : Int), v0 = .int .i64 x0_1 ∧ v6 = .int .i64 x6_1 ∧ Aside0 (spec_l2Int.l0 kq x0_1 x5_1 x6_1 = some r) ∧ Aside0 (kq ≤ k) ∧ Aside0 (Kd.R (Kd.int .i64) 3 w' w.heap.size (fun _ => True) v516 x5_1) ∧ Aside0 (Below w.heap.size w w'))
   case atStart => exact ⟨(a0), (y515), (wrap64 (a1 - 1)), tr, tr, H', ⟨Nat.le_refl _⟩, ⟨tR HO517.out⟩, ⟨zb⟩⟩
   case round =>
    clear H'
    try clear c3; try clear c3b0; try clear c3b1; try clear c4; try clear c4b0; try clear c4b1
    obtain ⟨x0_1, x5_1, x6_1, rfl, rfl, HA, HK1, HO_5, HB⟩ := hrel
    cases gk with
    | zero => exact absurd HA.out (by simp [spec_l2Int.l0])
    | succ k1 =>
     have H := HA.out
     clear HA
     simp only [spec_l2Int.l0] at H
     by_cases c7 : x6_1 ≥ 0
     ·rw [if_pos c7] at H
      have c7b0 : decide (0 ≤ x6_1) = true := decide_eq_true c7
      clear c7
      by_cases c8 : 0 ≤ x6_1
      ·rw [if_pos c8] at H
       have c8b0 : decide (0 ≤ x6_1) = true := decide_eq_true c8
       clear c8
       by_cases c9 : x6_1 < (x5_1.length : Int)
       ·rw [if_pos c9] at H
        have c9b0 : decide (x6_1 < (x5_1.length : Int)) = true := decide_eq_true c9
        clear c9
        obtain ⟨y518, hy518⟩ : ∃ y_ : List Int, y_ = (x5_1.set (x6_1 : Int).toNat (Int.tmod x0_1 256)) := ⟨_, rfl⟩
        replace H : (spec_l2Int.l0 k1 (wrap64 (Int.tdiv x0_1 256)) y518 (wrap64 (x6_1 - 1))) = some r := by first | (rw [hy518]; with_reducible exact H) | (have H2_ := (Option.bind_some _ _).symm.trans H; rw [hy518]; with_reducible exact H2_) | (have H2_ := (Option.bind_some _ _).symm.trans H; with_reducible exact H2_) | with_reducible exact H | (rw [hy518]; exact H) | exact H
        have Ny518 := Aside0.mk hy518
        clear hy518
        have H' := Aside0.mk H
        clear H
        have p10 : 0 ≤ (x6_1 : Int) := td
        have q10 : (x6_1 : Int) < ((x5_1.length : Int) : Int) := td
        obtain ⟨go10, co10, eo10, gb10, gl10, cl10, HG10⟩ := Kd.R_form HO_5.out (by omega)
        (first | cases eo10 | (injection eo10 with ea_ en_ ec_; (first | subst ea_ | (injection ea_ with ea_; subst ea_)); subst ec_; clear en_))
        have GB10 := Aside0.mk gb10
        have GG10 := Aside0.mk HG10
        clear gb10 gl10 HG10
        obtain ⟨hx10_0, hf10_0⟩ := Kd.R_celln 0 HO_5.out (x6_1 : Int) p10 q10
        replace p10 := eq_true p10
        replace q10 := eq_true q10
        have HP11 := Kd.R_putg HO_5.out (x6_1 : Int) (Int.tmod x0_1 256)
        go_wp2_with (first | ((with_reducible refine gate_store (t := 3) (p := 19) rfl ?_); refine store_event (t := 3) (p := 19) (v := ?vo_w12) (w1 := (wr.setCell ⟨go10, (x6_1 : Int).toNat, none⟩ (.int .i64 (Int.tmod x0_1 256)))) ?hg ?ho ?hn ?hr ?_; (case ho => rfl); (case hg => rfl); (case hn => rfl); (case hr => first | (go_simp; done) | (go_simp; rfl)); intro w12 hw; have hg : wr.grownBy w12 (some go10) := (by rw [hw]; exact HP11.2); have hp_ : Kd.R (Kd.int .i64) 3 w12 w.heap.size (fun _ => True) (.slice (some ⟨go10, 0, none⟩) x5_1.length co10) y518 := (by rw [hw, Ny518.out]; exact HP11.1); clear HP11; replace HO_5 := Aside0.mk (hp_); replace HB := Aside0.mk ((by rw [hw]; exact below_set (HB.out) GB10.out : Below w.heap.size w w12)); clear hg hw hp_))
        go_roundg k1
        case measure => have := HK1.out; omega
        case rel => exact ⟨(wrap64 (Int.tdiv x0_1 256)), (y518), (wrap64 (x6_1 - 1)), tr, tr, H', ⟨by have := HK1.out; omega⟩, ⟨tR HO_5.out⟩, ⟨zb⟩⟩
       ·rw [if_neg c9] at H
        exact absurd H (by simp)
      ·rw [if_neg c8] at H
       exact absurd H (by simp)
     ·rw [if_neg c7] at H
      have c7b0 : decide (0 ≤ x6_1) = false := decide_eq_false c7
      clear c7
      obtain rfl := Option.some.inj H
      go_wp2
      go_ret
      exact ⟨_, by first | rfl | (simp [errW_none, errW_some] <;> rfl) | (simp [*, errW_none, errW_some] <;> rfl), tR HO_5.out, zb⟩
  ·rw [if_neg c4] at H
   exact absurd H (by simp)
 ·rw [if_neg c3] at H
  exact absurd H (by simp)

def spec_l2Sum.l0 : Nat → List Int → Int → Int → Option (Int)
 | 0, _, _, _ => none
 | k + 1, x0, x3, x4 => if x4 < (x0.length : Int) then (if 0 ≤ x4 then (spec_l2Sum.l0 k x0 (Int.tmod (wrap64 ((wrap64 (257 * x3)) + (rd x0 x4))) 65521) (wrap64 (x4 + 1))) else (none)) else (some x3)
def spec_l2Sum.f (k : Nat) (l0 : List Int) : Option (Int) := spec_l2Sum.l0 k l0 1 0
set_option maxHeartbeats 8000000 in
set_option maxRecDepth 100000 in
theorem spec_l2Sum.calls (k : Nat) (A0 : Option Addr) (c0 : Nat) (l0 : List Int) (r : Int) (w : World) (hr0 : Kd.C (Kd.int .i64) w A0 l0.length l0) (hc0 : l0.length ≤ c0) (h : spec_l2Sum.f k l0 = some r) :
  Calls Try.prog 57 #[.slice A0 l0.length c0] w fun e w' => e = .returned (.int .i64 r) ∧ Drawn0 w w' := by
 have HR0 := Aside0.mk hr0
 have HC0 := Aside0.mk hc0
 clear hr0 hc0
 have H : (spec_l2Sum.l0 k l0 1 0) = some r := h
 clear h
 have H' := Aside0.mk H
 clear H
 go_enter Try.func57, Try.ntmps57
 go_wp2
 go_loopg [3, 4] k (fun kq v3 v4 w' => ∃ (x3_1 : Int) (x4_1 : Int), v3 = .int .i64 x3_1 ∧ v4 = .int .i64 x4_1 ∧ Aside0 (spec_l2Sum.l0 kq l0 x3_1 x4_1 = some r) ∧ Aside0 (kq ≤ k) ∧ Drawn0 w w')
 case atStart => exact ⟨(1), (0), tr, tr, H', ⟨Nat.le_refl _⟩, by repeat (first | exact Drawn0.refl _ | apply Drawn0.step)⟩
 case round =>
  clear H'
  obtain ⟨x3_1, x4_1, rfl, rfl, HA, HK1, ⟨m1, rfl⟩⟩ := hrel
  cases gk with
  | zero => exact absurd HA.out (by simp [spec_l2Sum.l0])
  | succ k1 =>
   have H := HA.out
   clear HA
   simp only [spec_l2Sum.l0] at H
   by_cases c2 : x4_1 < (l0.length : Int)
   ·rw [if_pos c2] at H
    have c2b0 : decide (x4_1 < (l0.length : Int)) = true := decide_eq_true c2
    clear c2
    by_cases c3 : 0 ≤ x4_1
    ·rw [if_pos c3] at H
     have c3b0 : decide (0 ≤ x4_1) = true := decide_eq_true c3
     clear c3
     have H' := Aside0.mk H
     clear H
     have p519 : 0 ≤ (x4_1 : Int) := td
     have q519 : x4_1 < (l0.length : Int) := td
     obtain ⟨ad519, e519, hx519_0⟩ := Kd.at_int HR0.out x4_1 p519 q519
     cases e519
     replace p519 := eq_true p519
     replace q519 := eq_true q519
     go_wp2
     go_roundg k1
     case measure => have := HK1.out; omega
     case rel => exact ⟨(Int.tmod (wrap64 ((wrap64 (257 * x3_1)) + (rd l0 x4_1))) 65521), (wrap64 (x4_1 + 1)), tr, tr, H', ⟨by have := HK1.out; omega⟩, by repeat (first | exact Drawn0.refl _ | apply Drawn0.step)⟩
    ·rw [if_neg c3] at H
     exact absurd H (by simp)
   ·rw [if_neg c2] at H
    have c2b0 : decide (x4_1 < (l0.length : Int)) = false := decide_eq_false c2
    clear c2
    obtain rfl := Option.some.inj H
    go_wp2
    go_ret
    exact ⟨by first | rfl | (simp; done) | (simp [*]; done), by repeat (first | exact Drawn0.refl _ | apply Drawn0.step)⟩

end Go.Proofs.Ythoioccmnphfgaa.G

