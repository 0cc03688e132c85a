/- A text of seat Ythoioccmnphfgaa: what the law FnKeepAll needs of this repo's texts (by pack.py). Not trusted: Lean checks it. -/
import Derived.Test.YthoioccmnphfgaaKFnKeepAll5
import Derived.OwnWalkIn
namespace Go.Proofs.Ythoioccmnphfgaa.G
open Go.RowKit Go.Proofs.YthoioccmnphfgaaW.PrintWords Go.Proofs.YthoioccmnphfgaaW.PrintLast Go.Proofs.YthoioccmnphfgaaW.PrintMore
attribute [local go_sem] max2_int min2_int max_two min_two max_three min_three max_four min_four   -- for this text's walks alone
set_option linter.unusedVariables false
set_option linter.unusedSimpArgs false

def impl_FoldNumber.j0 : Nat → Int → Bool → Option (Int)
 | 0, _, _ => none
 | k + 1, x0, x3 => if x3 = true then (some (-1)) else (if x0 < 0 then (some (wrap64 ((wrap64 ((-2) * x0)) - 1))) else (some (wrap64 (2 * x0))))
def impl_FoldNumber.f (k : Nat) (a0 : Int) : Option (Int) := if a0 < (-1000000) then (impl_FoldNumber.j0 k a0 true) else (impl_FoldNumber.j0 k a0 (decide (a0 > 1000000)))
set_option maxHeartbeats 8000000 in
set_option maxRecDepth 100000 in
theorem impl_FoldNumber.calls (k : Nat) (a0 : Int) (r : Int) (w : World) (h : impl_FoldNumber.f k a0 = some r) :
  Calls Try.prog 75 #[.int .i64 a0] w fun e w' => e = .returned (.int .i64 r) ∧ Drawn0 w w' := by
 have H : (if a0 < (-1000000) then (impl_FoldNumber.j0 k a0 true) else (impl_FoldNumber.j0 k a0 (decide (a0 > 1000000)))) = some r := h
 clear h
 have HC2 := Aside0.mk H
 clear H
 go_enter Try.func75, Try.ntmps75
 go_upto_region 1 with (fail)
 go_cut [3] (fun v3 wc => ∃ (kq : Nat) (x3_1 : Bool), v3 = .bool x3_1 ∧ Aside0 (impl_FoldNumber.j0 kq a0 x3_1 = some r) ∧ Aside0 (kq ≤ k) ∧ Drawn0 w wc)
 case first =>
  have H := HC2.out
  clear HC2
  by_cases c3 : a0 < (-1000000)
  ·rw [if_pos c3] at H
   have c3b0 : decide (a0 < (-1000000)) = true := decide_eq_true c3
   clear c3
   (first | rw [c3b0] | (simp only [i64_w, i32_w]; rw [c3b0]) | skip)
   have H' := Aside0.mk H
   clear H
   go_wp2
   go_meet
   case rel => exact ⟨_, (true), tr, H', ⟨by first | omega | exact Nat.le_refl _⟩, by repeat (first | exact Drawn0.refl _ | apply Drawn0.step)⟩
  ·rw [if_neg c3] at H
   have c3b0 : decide (a0 < (-1000000)) = false := decide_eq_false c3
   clear c3
   (first | rw [c3b0] | (simp only [i64_w, i32_w]; rw [c3b0]) | skip)
   have H' := Aside0.mk H
   clear H
   go_wp2
   go_meet
   case rel => exact ⟨_, (decide (a0 > 1000000)), tr, H', ⟨by first | omega | exact Nat.le_refl _⟩, by repeat (first | exact Drawn0.refl _ | apply Drawn0.step)⟩
 case rest =>
  clear HC2
  obtain ⟨kq, x3_1, rfl, HA, HJ1, ⟨mc1, rfl⟩⟩ := hcut
  cases kq with
  | zero => exact absurd HA.out (by simp [impl_FoldNumber.j0])
  | succ kj1 =>
   have H := HA.out
   clear HA
   simp only [impl_FoldNumber.j0] at H
   by_cases c4 : x3_1 = true
   ·subst c4
    rw [if_pos rfl] at H
    obtain rfl := Option.some.inj H
    go_wp2
    go_ret
    exact ⟨by first | rfl | (simp; done) | (simp [*]; done), by repeat (first | exact Drawn0.refl _ | apply Drawn0.step)⟩
   ·replace c4 := Bool.eq_false_iff.mpr c4
    subst c4
    rw [if_neg (show ¬ (false = true) by decide)] at H
    by_cases c5 : a0 < 0
    ·rw [if_pos c5] at H
     have c5b0 : decide (a0 < 0) = true := decide_eq_true c5
     clear c5
     obtain rfl := Option.some.inj H
     go_wp2
     go_ret
     exact ⟨by first | rfl | (simp; done) | (simp [*]; done), by repeat (first | exact Drawn0.refl _ | apply Drawn0.step)⟩
    ·rw [if_neg c5] at H
     have c5b0 : decide (a0 < 0) = false := decide_eq_false c5
     clear c5
     obtain rfl := Option.some.inj H
     go_wp2
     go_ret
     exact ⟨by first | rfl | (simp; done) | (simp [*]; done), by repeat (first | exact Drawn0.refl _ | apply Drawn0.step)⟩

def impl_varOf.l0 : Nat → List Int → Int → Option (List Int)
 | 0, _, _ => none
 | k + 1, x3, x4 => if x4 < 128 then (if x3.length < 17592186044416 then (some (x3 ++ [x4])) else (none)) else (if x3.length < 17592186044416 then (impl_varOf.l0 k (x3 ++ [Go.bits .or .i64 (Go.bits .and .i64 x4 127) 128]) (x4 / 128)) else (none))
def impl_varOf.f (k : Nat) (a0 : Int) : Option (List Int) := (impl_FoldNumber.f k a0).bind fun t293 => (impl_varOf.l0 k (([] : List Int)) t293)
set_option maxHeartbeats 8000000 in
set_option maxRecDepth 100000 in
theorem impl_varOf.calls (k : Nat) (a0 : Int) (r : List Int) (w : World) (h : impl_varOf.f k a0 = some r) :
  Calls Try.prog 58 #[.int .i64 a0] w fun e w' => ∃ v0_ : Value, e = .returned (v0_) ∧ Kd.R (Kd.int .i64) 3 w' w.heap.size (fun _ => True) v0_ r ∧ Below w.heap.size w w' := by
 have HB := Aside0.mk (Below.refl w.heap.size w)
 have H : ((impl_FoldNumber.f k a0).bind fun t293 => (impl_varOf.l0 k (([] : List Int)) t293)) = some r := h
 clear h
 obtain ⟨y290, hy290⟩ : ∃ y_ : List Int, y_ = (([] : List Int)) := ⟨_, rfl⟩
 replace H : ((impl_FoldNumber.f k a0).bind fun t293 => (impl_varOf.l0 k y290 t293)) = some r := by first | (rw [hy290]; with_reducible exact H) | (have H2_ := (Option.bind_some _ _).symm.trans H; rw [hy290]; with_reducible exact H2_) | (have H2_ := (Option.bind_some _ _).symm.trans H; with_reducible exact H2_) | with_reducible exact H | (rw [hy290]; exact H) | exact H
 have Ny290 := Aside0.mk hy290
 clear hy290
 replace H := tbe H
 obtain ⟨t293, A2, H⟩ := H
 have H' := Aside0.mk H
 clear H
 go_enter Try.func58, Try.ntmps58
 go_wp2_with (first | ((with_reducible refine gate_dst (N := 5) rfl ?_); refine Kd.R_lit (Kd.int .i64) _ 3 ?hg (N := 5) ?hd (xs := ([] : List Int)) (inner := []) (ok := fun _ => True) (okp := fun _ => True) ?hr ?hp (fun _ hk => hk) trivial (Below.refl _ _) (Nat.le_refl _) (by simp) ?_; (case hd => rfl); (case hg => rfl); (case hr => first | (go_simp; done) | (go_simp; rfl)); (case hp => exact (Reps.none _ _)); intro v291 w3 ho4 hb hg_ hnew_; clear hg_ hnew_; (first | rw [← Ny290.out] at ho4 | (simp only [Int.reduceToNat] at ho4; rw [← Ny290.out] at ho4)); have HO292 := tRl ho4 HB; replace HB := tBs HB hb; clear hb ho4) | ((with_reducible refine gate_callee (f := 75) rfl ?_); refine goesL_ (some 7) rfl rfl Try.func75 (by kernel_rfl) rfl #[.int .i64 a0] rfl tq ?_; (with_reducible refine (impl_FoldNumber.calls k a0 t293 _ A2.out).mono ?_); rintro e w' ⟨rfl, ⟨nd, rfl⟩⟩; refine ⟨_, rfl, ?_⟩))
 go_loopg [3, 4] k (fun kq v3 v4 w' => ∃ (x3_1 : List Int) (x4_1 : Int), v4 = .int .i64 x4_1 ∧ Aside0 (impl_varOf.l0 kq x3_1 x4_1 = some r) ∧ Aside0 (kq ≤ k) ∧ Aside0 (Kd.R (Kd.int .i64) 3 w' w.heap.size (fun _ => True) v3 x3_1) ∧ Aside0 (Below w.heap.size w w'))
 case atStart => exact ⟨(y290), (t293), tr, H', ⟨Nat.le_refl _⟩, ⟨tR HO292.out⟩, ⟨zb⟩⟩
 case round =>
  clear H'
  obtain ⟨x3_1, x4_1, rfl, HA, HK1, HO_3, HB⟩ := hrel
  cases gk with
  | zero => exact absurd HA.out (by simp [impl_varOf.l0])
  | succ k1 =>
   have H := HA.out
   clear HA
   simp only [impl_varOf.l0] at H
   by_cases c5 : x4_1 < 128
   ·rw [if_pos c5] at H
    have c5b0 : decide (x4_1 < 128) = true := decide_eq_true c5
    clear c5
    by_cases c6 : x3_1.length < 17592186044416
    ·rw [if_pos c6] at H
     have LMc6 := Aside0.mk c6
     clear c6
     obtain ⟨y294, hy294⟩ : ∃ y_ : List Int, y_ = (x3_1 ++ [x4_1]) := ⟨_, rfl⟩
     replace H : (some y294) = some r := by first | (rw [hy294]; with_reducible exact H) | (have H2_ := (Option.bind_some _ _).symm.trans H; rw [hy294]; with_reducible exact H2_) | (have H2_ := (Option.bind_some _ _).symm.trans H; with_reducible exact H2_) | with_reducible exact H | (rw [hy294]; exact H) | exact H
     have Ny294 := Aside0.mk hy294
     clear hy294
     obtain rfl := Option.some.inj H
     go_wp2_with (first | ((with_reducible refine gate_builtin (b := .append) (xs := #[.tmp 12, .tmp 14]) rfl ?_); at_builtin; refine Kd.R_append (Kd.int .i64) (w0 := w) w.heap.size rfl (.tmp 12) (.tmp 14) 26 3 (.int .i64 0) 8 rfl Try.underlying26 info3 rfl (by decide) (by omega) u3 x3_1 x4_1 [.int .i64 x4_1] (fun _ => True) (fun _ => False) rfl rfl ?aP (fun _ hk => hk.elim) ?aF ?aO ?aB ?aS ?aL ?_; (case aP => exact rfl); (case aB => exact zb); (case aF => exact (fun _ _ => trivial)); (case aO => exact (tR HO_3.out)); (case aS => exact (below_size zb)); (case aL => have := LMc6.out; omega); intro v295 w7 ho hb hg hat; rw [← Ny294.out] at ho; replace HB := Aside0.mk (hb); have HO296 := Aside0.mk (ho); clear HO_3; clear ho hb hg hat))
     go_ret
     exact ⟨_, by first | rfl | (simp [errW_none, errW_some] <;> rfl) | (simp [*, errW_none, errW_some] <;> rfl), tR HO296.out, zb⟩
    ·rw [if_neg c6] at H
     exact absurd H (by simp)
   ·rw [if_neg c5] at H
    have c5b0 : decide (x4_1 < 128) = false := decide_eq_false c5
    clear c5
    by_cases c8 : x3_1.length < 17592186044416
    ·rw [if_pos c8] at H
     have LMc8 := Aside0.mk c8
     clear c8
     obtain ⟨y297, hy297⟩ : ∃ y_ : List Int, y_ = (x3_1 ++ [Go.bits .or .i64 (Go.bits .and .i64 x4_1 127) 128]) := ⟨_, rfl⟩
     replace H : (impl_varOf.l0 k1 y297 (x4_1 / 128)) = some r := by first | (rw [hy297]; with_reducible exact H) | (have H2_ := (Option.bind_some _ _).symm.trans H; rw [hy297]; with_reducible exact H2_) | (have H2_ := (Option.bind_some _ _).symm.trans H; with_reducible exact H2_) | with_reducible exact H | (rw [hy297]; exact H) | exact H
     have Ny297 := Aside0.mk hy297
     clear hy297
     have H' := Aside0.mk H
     clear H
     go_wp2_with (first | ((with_reducible refine gate_builtin (b := .append) (xs := #[.tmp 16, .tmp 20]) rfl ?_); at_builtin; refine Kd.R_append (Kd.int .i64) (w0 := w) w.heap.size rfl (.tmp 16) (.tmp 20) 26 3 (.int .i64 0) 8 rfl Try.underlying26 info3 rfl (by decide) (by omega) u3 x3_1 (Go.bits .or .i64 (Go.bits .and .i64 x4_1 127) 128) [.int .i64 (Go.bits .or .i64 (Go.bits .and .i64 x4_1 127) 128)] (fun _ => True) (fun _ => False) rfl rfl ?aP (fun _ hk => hk.elim) ?aF ?aO ?aB ?aS ?aL ?_; (case aP => exact rfl); (case aB => exact zb); (case aF => exact (fun _ _ => trivial)); (case aO => exact (tR HO_3.out)); (case aS => exact (below_size zb)); (case aL => have := LMc8.out; omega); intro v298 w9 ho hb hg hat; rw [← Ny297.out] at ho; replace HB := Aside0.mk (hb); have HO299 := Aside0.mk (ho); clear HO_3; clear ho hb hg hat))
     go_roundg k1
     case measure => have := HK1.out; omega
     case rel => exact ⟨(y297), (x4_1 / 128), tr, H', ⟨by have := HK1.out; omega⟩, ⟨tR HO299.out⟩, ⟨zb⟩⟩
    ·rw [if_neg c8] at H
     exact absurd H (by simp)

def impl_partBytes.f (k : Nat) (a0 : Bool) (l1 : List Int) : Option (List Int) := if a0 = true then ((impl_varOf.f k (l1.length : Int)).bind fun t300 => (if t300.length + l1.length < 17592186044416 then (some (t300 ++ l1)) else (none))) else ((impl_varOf.f k (-1)).bind fun t306 => (some t306))
set_option maxHeartbeats 8000000 in
set_option maxRecDepth 100000 in
theorem impl_partBytes.calls (k : Nat) (a0 : Bool) (A1 : Option Addr) (c1 : Nat) (l1 : List Int) (r : List Int) (w : World) (hr1 : Kd.C (Kd.int .i64) w A1 l1.length l1) (hc1 : l1.length ≤ c1) (h : impl_partBytes.f k a0 l1 = some r) :
  Calls Try.prog 59 #[.bool a0, .slice A1 l1.length c1] w fun e w' => ∃ v0_ : Value, e = .returned (v0_) ∧ Kd.R (Kd.int .i64) 3 w' w.heap.size (fun _ => True) v0_ r ∧ Below w.heap.size w w' := by
 have HR1 := Aside0.mk hr1
 have HC1 := Aside0.mk hc1
 clear hr1 hc1
 have HB := Aside0.mk (Below.refl w.heap.size w)
 have H : (if a0 = true then ((impl_varOf.f k (l1.length : Int)).bind fun t300 => (if t300.length + l1.length < 17592186044416 then (some (t300 ++ l1)) else (none))) else ((impl_varOf.f k (-1)).bind fun t306 => (some t306))) = some r := h
 clear h
 by_cases c3 : a0 = true
 ·subst c3
  rw [if_pos rfl] at H
  replace H := tbe H
  obtain ⟨t300, A4, H⟩ := H
  by_cases c5 : t300.length + l1.length < 17592186044416
  ·rw [if_pos c5] at H
   have LMc5 := Aside0.mk c5
   clear c5
   obtain ⟨y303, hy303⟩ : ∃ y_ : List Int, y_ = (t300 ++ l1) := ⟨_, rfl⟩
   replace H : (some y303) = some r := by first | (rw [hy303]; with_reducible exact H) | (have H2_ := (Option.bind_some _ _).symm.trans H; rw [hy303]; with_reducible exact H2_) | (have H2_ := (Option.bind_some _ _).symm.trans H; with_reducible exact H2_) | with_reducible exact H | (rw [hy303]; exact H) | exact H
   have Ny303 := Aside0.mk hy303
   clear hy303
   obtain rfl := Option.some.inj H
   go_enter Try.func59, Try.ntmps59
   go_wp2_with (first | ((with_reducible refine gate_callee (f := 58) rfl ?_); refine goesL_ (some 10) rfl rfl Try.func58 (by kernel_rfl) rfl #[.int .i64 (l1.length : Int)] rfl tq ?_; (with_reducible refine (impl_varOf.calls k (l1.length : Int) t300 _ A4.out).mono ?_); rintro e w6 ⟨v301, rfl, ho0, hb⟩; have u_v301 := tsv Try.prog v301 ho0; refine ⟨_, rfl, ?_⟩; have HO302 := tRl ho0 HB; replace HB := tBs HB hb; (try clear hb); (try clear hb2); (try clear hk); (try clear hi); (try clear ho0)) | ((with_reducible refine gate_builtin (b := .append) (xs := #[.tmp 10, .tmp 11]) rfl ?_); at_builtin; refine Kd.R_append_rows (Kd.int .i64) (w0 := w) w.heap.size rfl (.tmp 10) (.tmp 11) 26 3 (.int .i64 0) 8 rfl Try.underlying26 info3 rfl (by decide) (by omega) v301 t300 l1 _ _ _ (fun _ => True) (fun _ => False) rfl rfl ?aO ?aR (fun _ _ h => h) (fun _ h => h.elim) ?aF ?aB ?aS ?aL ?_; (case aR => exact tC (Kd.C_below HR1.out HB.out)); (case aB => exact zb); (case aF => exact (fun _ _ => trivial)); (case aO => exact (tR HO302.out)); (case aS => exact (below_size zb)); (case aL => have := LMc5.out; omega); intro v304 w7 ho hb hg hat; rw [← Ny303.out] at ho; replace HB := Aside0.mk (hb); have HO305 := Aside0.mk (ho); clear HO302; clear ho hb hg hat))
   go_ret
   exact ⟨_, by first | rfl | (simp [errW_none, errW_some] <;> rfl) | (simp [*, errW_none, errW_some] <;> rfl), tR HO305.out, zb⟩
  ·rw [if_neg c5] at H
   exact absurd H (by simp)
 ·replace c3 := Bool.eq_false_iff.mpr c3
  subst c3
  rw [if_neg (show ¬ (false = true) by decide)] at H
  replace H := tbe H
  obtain ⟨t306, A8, H⟩ := H
  obtain rfl := Option.some.inj H
  go_enter Try.func59, Try.ntmps59
  go_wp2_with (first | ((with_reducible refine gate_callee (f := 58) rfl ?_); refine goesL_ (some 7) rfl rfl Try.func58 (by kernel_rfl) rfl #[.int .i64 (-1)] rfl tq ?_; (with_reducible refine (impl_varOf.calls k (-1) t306 _ A8.out).mono ?_); rintro e w9 ⟨v307, rfl, ho0, hb⟩; have u_v307 := tsv Try.prog v307 ho0; refine ⟨_, rfl, ?_⟩; have HO308 := tRl ho0 HB; replace HB := tBs HB hb; (try clear hb); (try clear hb2); (try clear hk); (try clear hi); (try clear ho0)))
  go_ret
  exact ⟨_, by first | rfl | (simp [errW_none, errW_some] <;> rfl) | (simp [*, errW_none, errW_some] <;> rfl), tR HO308.out, zb⟩

def impl_Record_bytesFor.f (k : Nat) (a0_0 : Int) (a0_1 : Int) (a0_2 : Bool) (l0_3 : List Int) (a0_4 : Bool) (l0_5 : List Int) (a1 : Int) (a2 : Int) : Option (List Int) := (impl_varOf.f k (wrap64 (a0_1 - a2))).bind fun t310 => ((impl_varOf.f k (wrap64 (a0_0 - a1))).bind fun t313 => (if t310.length + t313.length < 17592186044416 then ((some (t310 ++ t313 : List Int)).bind fun y316 => ((impl_partBytes.f k a0_2 l0_3).bind fun t319 => (if y316.length + t319.length < 17592186044416 then ((some (y316 ++ t319 : List Int)).bind fun y322 => ((impl_partBytes.f k a0_4 l0_5).bind fun t325 => (if y322.length + t325.length < 17592186044416 then ((some (y322 ++ t325 : List Int)).bind fun y328 => ((impl_varOf.f k (y328.length : Int)).bind fun t331 => (if t331.length + y328.length < 17592186044416 then (some (t331 ++ y328)) else (none)))) else (none)))) else (none)))) else (none)))
def impl_Record_bytesFor.T1 : Bool × List (List Nat × List Nat) := (true, [([], []), ([0], [0]), ([], []), ([1, 2], [1, 2]), ([3], [3]), ([], []), ([5], [5]), ([], []), ([6, 7], [6, 7]), ([8, 4], [8]), ([4, 9, 9], [4, 9]), ([10, 10, 0, 1, 2, 3, 4, 5, 6, 7, 8, 9, 10], [10])])
def impl_Record_bytesFor.B1 : List Nat := [0, 1, 0, 7, 15, 0, 32, 0, 224, 511, 1023, 2047]
theorem impl_Record_bytesFor.tab1 : rtab .any (opsOf Try.f42 1) = impl_Record_bytesFor.T1 := by kernel_rfl
theorem impl_Record_bytesFor.bits1 : waitsOk impl_Record_bytesFor.T1.2 impl_Record_bytesFor.B1 = true := by kernel_rfl
set_option maxHeartbeats 8000000 in
set_option maxRecDepth 100000 in
theorem impl_Record_bytesFor.calls (k : Nat) (a0_0 : Int) (a0_1 : Int) (a0_2 : Bool) (A0_3 : Option Addr) (c0_3 : Nat) (l0_3 : List Int) (a0_4 : Bool) (A0_5 : Option Addr) (c0_5 : Nat) (l0_5 : List Int) (a1 : Int) (a2 : Int) (r : List Int) (w : World) (hr0_3 : Kd.C (Kd.int .i64) w A0_3 l0_3.length l0_3) (hc0_3 : l0_3.length ≤ c0_3) (hr0_5 : Kd.C (Kd.int .i64) w A0_5 l0_5.length l0_5) (hc0_5 : l0_5.length ≤ c0_5) (h : impl_Record_bytesFor.f k a0_0 a0_1 a0_2 l0_3 a0_4 l0_5 a1 a2 = some r) :
  Calls Try.prog 42 #[.agg #[.int .i64 a0_0, .int .i64 a0_1, .bool a0_2, .slice A0_3 l0_3.length c0_3, .bool a0_4, .slice A0_5 l0_5.length c0_5], .int .i64 a1, .int .i64 a2] w fun e w' => ∃ v0_ : Value, e = .returned (v0_) ∧ Kd.R (Kd.int .i64) 3 w' w.heap.size (fun _ => True) v0_ r ∧ Below w.heap.size w w' := by
 have hu63 := Try.underlying63
 have HR0_3 := Aside0.mk hr0_3
 have HC0_3 := Aside0.mk hc0_3
 clear hr0_3 hc0_3
 have HR0_5 := Aside0.mk hr0_5
 have HC0_5 := Aside0.mk hc0_5
 clear hr0_5 hc0_5
 have HB := Aside0.mk (Below.refl w.heap.size w)
 have H : ((impl_varOf.f k (wrap64 (a0_1 - a2))).bind fun t310 => ((impl_varOf.f k (wrap64 (a0_0 - a1))).bind fun t313 => (if t310.length + t313.length < 17592186044416 then ((some (t310 ++ t313 : List Int)).bind fun y316 => ((impl_partBytes.f k a0_2 l0_3).bind fun t319 => (if y316.length + t319.length < 17592186044416 then ((some (y316 ++ t319 : List Int)).bind fun y322 => ((impl_partBytes.f k a0_4 l0_5).bind fun t325 => (if y322.length + t325.length < 17592186044416 then ((some (y322 ++ t325 : List Int)).bind fun y328 => ((impl_varOf.f k (y328.length : Int)).bind fun t331 => (if t331.length + y328.length < 17592186044416 then (some (t331 ++ y328)) else (none)))) else (none)))) else (none)))) else (none)))) = some r := h
 clear h
 replace H := tbe H
 obtain ⟨t310, A4, H⟩ := H
 replace H := tbe H
 obtain ⟨t313, A5, H⟩ := H
 by_cases c6 : t310.length + t313.length < 17592186044416
 ·rw [if_pos c6] at H
  have LMc6 := Aside0.mk c6
  clear c6
  obtain ⟨y316, hy316⟩ : ∃ y_ : List Int, y_ = (t310 ++ t313) := ⟨_, rfl⟩
  replace H : ((impl_partBytes.f k a0_2 l0_3).bind fun t319 => (if y316.length + t319.length < 17592186044416 then ((some (y316 ++ t319 : List Int)).bind fun y322 => ((impl_partBytes.f k a0_4 l0_5).bind fun t325 => (if y322.length + t325.length < 17592186044416 then ((some (y322 ++ t325 : List Int)).bind fun y328 => ((impl_varOf.f k (y328.length : Int)).bind fun t331 => (if t331.length + y328.length < 17592186044416 then (some (t331 ++ y328)) else (none)))) else (none)))) else (none))) = some r := by first | (rw [hy316]; with_reducible exact H) | (have H2_ := (Option.bind_some _ _).symm.trans H; rw [hy316]; with_reducible exact H2_) | (have H2_ := (Option.bind_some _ _).symm.trans H; with_reducible exact H2_) | with_reducible exact H | (rw [hy316]; exact H) | exact H
  have Ny316 := Aside0.mk hy316
  clear hy316
  replace H := tbe H
  obtain ⟨t319, A7, H⟩ := H
  by_cases c8 : y316.length + t319.length < 17592186044416
  ·rw [if_pos c8] at H
   have LMc8 := Aside0.mk c8
   clear c8
   obtain ⟨y322, hy322⟩ : ∃ y_ : List Int, y_ = (y316 ++ t319) := ⟨_, rfl⟩
   replace H : ((impl_partBytes.f k a0_4 l0_5).bind fun t325 => (if y322.length + t325.length < 17592186044416 then ((some (y322 ++ t325 : List Int)).bind fun y328 => ((impl_varOf.f k (y328.length : Int)).bind fun t331 => (if t331.length + y328.length < 17592186044416 then (some (t331 ++ y328)) else (none)))) else (none))) = some r := by first | (rw [hy322]; with_reducible exact H) | (have H2_ := (Option.bind_some _ _).symm.trans H; rw [hy322]; with_reducible exact H2_) | (have H2_ := (Option.bind_some _ _).symm.trans H; with_reducible exact H2_) | with_reducible exact H | (rw [hy322]; exact H) | exact H
   have Ny322 := Aside0.mk hy322
   clear hy322
   replace H := tbe H
   obtain ⟨t325, A9, H⟩ := H
   by_cases c10 : y322.length + t325.length < 17592186044416
   ·rw [if_pos c10] at H
    have LMc10 := Aside0.mk c10
    clear c10
    obtain ⟨y328, hy328⟩ : ∃ y_ : List Int, y_ = (y322 ++ t325) := ⟨_, rfl⟩
    replace H : ((impl_varOf.f k (y328.length : Int)).bind fun t331 => (if t331.length + y328.length < 17592186044416 then (some (t331 ++ y328)) else (none))) = some r := by first | (rw [hy328]; with_reducible exact H) | (have H2_ := (Option.bind_some _ _).symm.trans H; rw [hy328]; with_reducible exact H2_) | (have H2_ := (Option.bind_some _ _).symm.trans H; with_reducible exact H2_) | with_reducible exact H | (rw [hy328]; exact H) | exact H
    have Ny328 := Aside0.mk hy328
    clear hy328
    replace H := tbe H
    obtain ⟨t331, A11, H⟩ := H
    by_cases c12 : t331.length + y328.length < 17592186044416
    ·rw [if_pos c12] at H
     have LMc12 := Aside0.mk c12
     clear c12
     obtain ⟨y334, hy334⟩ : ∃ y_ : List Int, y_ = (t331 ++ y328) := ⟨_, rfl⟩
     replace H : (some y334) = some r := by first | (rw [hy334]; with_reducible exact H) | (have H2_ := (Option.bind_some _ _).symm.trans H; rw [hy334]; with_reducible exact H2_) | (have H2_ := (Option.bind_some _ _).symm.trans H; with_reducible exact H2_) | with_reducible exact H | (rw [hy334]; exact H) | exact H
     have Ny334 := Aside0.mk hy334
     clear hy334
     obtain rfl := Option.some.inj H
     go_enter Try.func42, Try.ntmps42
     try go_wp2_with (first | ((with_reducible refine gate_dst (N := 3) rfl ?_); refine box_event ?hg (N := 3) ?hd (cs := #[.int .i64 a0_0, .int .i64 a0_1, .bool a0_2, .slice A0_3 l0_3.length c0_3, .bool a0_4, .slice A0_5 l0_5.length c0_5]) (t := 63) ?hr ?_; (case hd => rfl); (case hg => rfl); (case hr => first | (go_simp; done) | (go_simp; rfl)); intro gb309 hg w13 hbox hb; have BK309 := Aside0.mk (hbox); have GW309 := tge HB hg; have GE309 := tge HB hg; replace HB := tBs HB hb; clear hb hbox hg))
     replace BK309 := Aside0.mk (blk_drew BK309.out)
     replace HB := Aside0.mk (below_drew1 HB.out)
     refine start_ (n := 12) (S := fun w' => w'.cell? ⟨gb309, 0, none⟩ = some (.int .i64 a0_0) ∧ w'.cell? ⟨gb309, 1, none⟩ = some (.int .i64 a0_1) ∧ w'.cell? ⟨gb309, 2, none⟩ = some (.bool a0_2) ∧ w'.cell? ⟨gb309, 3, none⟩ = some (.slice A0_3 l0_3.length c0_3) ∧ w'.cell? ⟨gb309, 4, none⟩ = some (.bool a0_4) ∧ w'.cell? ⟨gb309, 5, none⟩ = some (.slice A0_5 l0_5.length c0_5)) (ds := []) #[false, false, false, false, false, false, false, false, false, false, false, false] (by kernel_rfl) rfl rfl ⟨(blk_cell BK309.out 0).trans rfl, (blk_cell BK309.out 1).trans rfl, (blk_cell BK309.out 2).trans rfl, (blk_cell BK309.out 3).trans rfl, (blk_cell BK309.out 4).trans rfl, (blk_cell BK309.out 5).trans rfl⟩ (fun hHeld => ?_); refine with_tabW impl_Record_bytesFor.tab1 impl_Record_bytesFor.bits1 (fun HT_ HW_ => ?_)
     generalize w13.drew = w14 at BK309 HB hHeld ⊢
     refine tpu 0 (some 8) #[true, false, false, false, false, false, false, false, false, false, false, false] ?_
     refine tpu 2 (some 10) #[true, false, true, false, false, false, false, false, false, false, false, false] ?_
     refine tpu 5 (some 13) #[true, false, true, false, false, true, false, false, false, false, false, false] ?_
     refine tpu 7 (some 15) #[true, false, true, false, false, true, false, true, false, false, false, false] ?_
     refine tta 1 (some 9) #[true, true, true, false, false, true, false, true, false, false, false, false] hHeld ?_ (hy := by rintro w' ⟨s0, s1, s2, s3, s4, s5⟩; go_simp; with_reducible rfl)
     refine tpu 3 (some 11) #[true, true, true, true, false, true, false, true, false, false, false, false] ?_
     refine tta 6 (some 14) #[true, true, true, true, false, true, true, true, false, false, false, false] hHeld ?_ (hy := by rintro w' ⟨s0, s1, s2, s3, s4, s5⟩; go_simp; with_reducible rfl)
     refine tpu 8 (some 16) #[true, true, true, true, false, true, true, true, true, false, false, false] ?_
     refine one_ (i := 4) (N := some 12) #[true, true, true, true, true, true, true, true, true, false, false, false] rfl rfl (one_of HT_.out (by kernel_rfl)) (by decide) (fun K hK => ?_)
     refine goes_ Try.func58 (by kernel_rfl) rfl #[.int .i64 (wrap64 (a0_1 - a2))] (by rfl) rfl rfl tq ?_
     with_reducible refine (impl_varOf.calls k (wrap64 (a0_1 - a2)) t310 _ A4.out).mono ?_
     rintro e w15 ⟨v311, rfl, ho0, hb⟩
     refine ⟨_, rfl, ?_⟩
     have HO312 := tRl ho0 HB
     replace BK309 := tBb BK309 hb
     replace HB := tBs HB hb
     (try clear hb)
     (try clear hb2)
     (try clear hk)
     (try clear hi)
     (try clear ho0)
     refine hK.out _ _ ⟨(blk_cell BK309.out 0).trans rfl, (blk_cell BK309.out 1).trans rfl, (blk_cell BK309.out 2).trans rfl, (blk_cell BK309.out 3).trans rfl, (blk_cell BK309.out 4).trans rfl, (blk_cell BK309.out 5).trans rfl⟩ (fun hHeld => ?_)
     clear hK K
     refine tnm (some 12) ?_
     refine one_ (i := 9) (N := some 17) #[true, true, true, true, true, true, true, true, true, true, false, false] rfl rfl (one_of HT_.out (by kernel_rfl)) (by decide) (fun K hK => ?_)
     refine goes_ Try.func58 (by kernel_rfl) rfl #[.int .i64 (wrap64 (a0_0 - a1))] (by rfl) rfl rfl tq ?_
     with_reducible refine (impl_varOf.calls k (wrap64 (a0_0 - a1)) t313 _ A5.out).mono ?_
     rintro e w16 ⟨v314, rfl, ho0, hb⟩
     refine ⟨_, rfl, ?_⟩
     have HO315 := Aside0.mk (Kd.R_lower (Kd.R_new' ho0 (Kd.R_lt (tR HO312.out))) (below_size zb))
     replace HO312 := Aside0.mk (Kd.R_elder' (tR HO312.out) (Kd.R_base ho0) hb)
     replace BK309 := tBb BK309 hb
     replace HB := tBs HB hb
     (try clear hb)
     (try clear hb2)
     (try clear hk)
     (try clear hi)
     (try clear ho0)
     obtain ⟨Ao18, co18, eo18⟩ := Kd.R_slice HO315.out
     (first | subst eo18 | (injection eo18 with f1_ f2_ f3_; have f4_ := f1_.symm; have f5_ := f3_.symm; clear f1_ f2_ f3_; subst f4_; subst f5_))
     refine hK.out _ _ ⟨(blk_cell BK309.out 0).trans rfl, (blk_cell BK309.out 1).trans rfl, (blk_cell BK309.out 2).trans rfl, (blk_cell BK309.out 3).trans rfl, (blk_cell BK309.out 4).trans rfl, (blk_cell BK309.out 5).trans rfl⟩ (fun hHeld => ?_)
     clear hK K
     refine tnm (some 17) ?_
     refine one_ (i := 10) (N := some 18) #[true, true, true, true, true, true, true, true, true, true, true, false] rfl rfl (one_of HT_.out (by kernel_rfl)) (by decide) (fun K hK => ?_)
     refine Kd.R_append_rows_step (Kd.int .i64) (w0 := w) w.heap.size (by rfl) (.tmp 12) (.tmp 17) 26 3 (.int .i64 0) 8 rfl Try.underlying26 info3 rfl (by decide) (by omega) v311 t310 t313 _ _ _ (fun k_ => some k_ ≠ (.slice Ao18 t313.length co18 : Value).ownBlock) (fun _ => False) rfl rfl ?aO ?aR (fun _ _ h => h) (fun _ h => h.elim) ?aF ?aB ?aS ?aL ?_
     (case aR => repeat (first | exact (Kd.R_reads' HO315.out).2.2 | (with_reducible refine Kd.C_alloc ?_ _) | (with_reducible refine Kd.C_drewN ?_ _) | (with_reducible refine Kd.C_drew ?_)))
     (case aB => exact zb)
     (case aF => exact (fun k_ hk => Kd.fresh' (Kd.R_lt (tR HO315.out)) k_ hk))
     (case aO => exact (tRm HO312.out))
     (case aS => exact (below_size zb))
     (case aL => have := LMc6.out; omega)
     intro v317 w17 ho hb hg hat
     rw [← Ny316.out] at ho
     replace BK309 := Aside0.mk (blk_grown (tH BK309.out) hg (Kd.R_ne HO312.out BK309.out (by decide)))
     replace HO315 := Aside0.mk (Kd.R_after (ok := (fun _ => True)) (tR HO315.out) hg hat)
     replace HB := Aside0.mk (hb)
     have HO318 := Aside0.mk (ho)
     clear HO312
     clear ho hb hg hat
     refine hK.out _ _ ⟨(blk_cell BK309.out 0).trans rfl, (blk_cell BK309.out 1).trans rfl, (blk_cell BK309.out 2).trans rfl, (blk_cell BK309.out 3).trans rfl, (blk_cell BK309.out 4).trans rfl, (blk_cell BK309.out 5).trans rfl⟩ (fun hHeld => ?_)
     clear hK K
     refine tnm (some 18) ?_
     refine tpu 11 (some 7) #[true, true, true, true, true, true, true, true, true, true, true, true] ?_
     refine done_ (done_of HT_.out (by kernel_rfl)) ?_
     obtain ⟨hcz19_0, hcz19_1, hcz19_2, hcz19_3, hcz19_4, hcz19_5, hfz19_0, hfz19_1, hfz19_2, hfz19_3, hfz19_4, hfz19_5⟩ := cells6 BK309.out
     try go_wp2_with (first | ((with_reducible refine gate_callee (f := 59) rfl ?_); refine goesL_ (some 24) rfl rfl Try.func59 (by kernel_rfl) rfl #[.bool a0_2, .slice A0_3 l0_3.length c0_3] rfl tq ?_; (with_reducible refine (impl_partBytes.calls k a0_2 _ _ l0_3 t319 _ ?side1 ?side2 A7.out).mono ?_); (case side1 => exact tC (Kd.C_below HR0_3.out HB.out)); (case side2 => exact HC0_3.out); rintro e w20 ⟨v320, rfl, ho0, hb⟩; have u_v320 := tsv Try.prog v320 ho0; refine ⟨_, rfl, ?_⟩; have HO321 := Aside0.mk (Kd.R_lower (Kd.R_new' (Kd.R_new' ho0 (Kd.R_lt (tR HO315.out))) (Kd.R_lt (tR HO318.out))) (below_size zb)); replace HO315 := Aside0.mk (Kd.R_elder' (tR HO315.out) (Kd.R_base ho0) hb); replace HO318 := Aside0.mk (Kd.R_elder' (tR HO318.out) (Kd.R_base ho0) hb); replace BK309 := tBb BK309 hb; replace HB := tBs HB hb; (try clear hb); (try clear hb2); (try clear hk); (try clear hi); (try clear ho0); obtain ⟨Ao22, co22, eo22⟩ := Kd.R_slice HO321.out; subst eo22) | ((with_reducible refine gate_builtin (b := .append) (xs := #[.tmp 19, .tmp 24]) rfl ?_); at_builtin; refine Kd.R_append_rows (Kd.int .i64) (w0 := w) w.heap.size rfl (.tmp 19) (.tmp 24) 26 3 (.int .i64 0) 8 rfl Try.underlying26 info3 rfl (by decide) (by omega) v317 y316 t319 _ _ _ (fun k_ => some k_ ≠ (.slice Ao18 t313.length co18 : Value).ownBlock ∧ some k_ ≠ (.slice Ao22 t319.length co22 : Value).ownBlock) (fun _ => False) rfl rfl ?aO ?aR (fun _ _ h => h) (fun _ h => h.elim) ?aF ?aB ?aS ?aL ?_; (case aR => repeat (first | exact (Kd.R_reads' HO321.out).2.2 | (with_reducible refine Kd.C_alloc ?_ _) | (with_reducible refine Kd.C_drewN ?_ _) | (with_reducible refine Kd.C_drew ?_))); (case aB => exact zb); (case aF => exact (fun k_ hk => ⟨Kd.fresh' (Kd.R_lt (tR HO315.out)) k_ hk, Kd.fresh' (Kd.R_lt (tR HO321.out)) k_ hk⟩)); (case aO => exact (tR HO318.out)); (case aS => exact (below_size zb)); (case aL => have := LMc8.out; omega); intro v323 w21 ho hb hg hat; rw [← Ny322.out] at ho; replace BK309 := Aside0.mk (blk_grown (tH BK309.out) hg (Kd.R_ne HO318.out BK309.out (by decide))); replace HO315 := Aside0.mk (Kd.R_after (ok := (fun k_ => some k_ ≠ (.slice Ao22 t319.length co22 : Value).ownBlock)) (tRm HO315.out) hg hat); replace HO321 := Aside0.mk (Kd.R_after (ok := (fun k_ => some k_ ≠ (.slice Ao18 t313.length co18 : Value).ownBlock)) (tRm HO321.out) hg hat); replace HB := Aside0.mk (hb); have HO324 := Aside0.mk (ho); clear HO318; clear ho hb hg hat; obtain ⟨hcz23_0, hcz23_1, hcz23_2, hcz23_3, hcz23_4, hcz23_5, hfz23_0, hfz23_1, hfz23_2, hfz23_3, hfz23_4, hfz23_5⟩ := cells6 BK309.out) | ((with_reducible refine gate_callee (f := 59) rfl ?_); refine goesL_ (some 31) rfl rfl Try.func59 (by kernel_rfl) rfl #[.bool a0_4, .slice A0_5 l0_5.length c0_5] rfl tq ?_; (with_reducible refine (impl_partBytes.calls k a0_4 _ _ l0_5 t325 _ ?side1 ?side2 A9.out).mono ?_); (case side1 => exact tC (Kd.C_below HR0_5.out HB.out)); (case side2 => exact HC0_5.out); rintro e w24 ⟨v326, rfl, ho0, hb⟩; have u_v326 := tsv Try.prog v326 ho0; refine ⟨_, rfl, ?_⟩; have HO327 := Aside0.mk (Kd.R_lower (Kd.R_new' (Kd.R_new' (Kd.R_new' ho0 (Kd.R_lt (tR HO315.out))) (Kd.R_lt (tR HO321.out))) (Kd.R_lt (tR HO324.out))) (below_size zb)); replace HO315 := Aside0.mk (Kd.R_elder' (tR HO315.out) (Kd.R_base ho0) hb); replace HO321 := Aside0.mk (Kd.R_elder' (tR HO321.out) (Kd.R_base ho0) hb); replace HO324 := Aside0.mk (Kd.R_elder' (tR HO324.out) (Kd.R_base ho0) hb); replace BK309 := tBb BK309 hb; replace HB := tBs HB hb; (try clear hb); (try clear hb2); (try clear hk); (try clear hi); (try clear ho0); obtain ⟨Ao26, co26, eo26⟩ := Kd.R_slice HO327.out; subst eo26) | ((with_reducible refine gate_builtin (b := .append) (xs := #[.tmp 26, .tmp 31]) rfl ?_); at_builtin; refine Kd.R_append_rows (Kd.int .i64) (w0 := w) w.heap.size rfl (.tmp 26) (.tmp 31) 26 3 (.int .i64 0) 8 rfl Try.underlying26 info3 rfl (by decide) (by omega) v323 y322 t325 _ _ _ (fun k_ => some k_ ≠ (.slice Ao18 t313.length co18 : Value).ownBlock ∧ some k_ ≠ (.slice Ao22 t319.length co22 : Value).ownBlock ∧ some k_ ≠ (.slice Ao26 t325.length co26 : Value).ownBlock) (fun _ => False) rfl rfl ?aO ?aR (fun _ _ h => h) (fun _ h => h.elim) ?aF ?aB ?aS ?aL ?_; (case aR => repeat (first | exact (Kd.R_reads' HO327.out).2.2 | (with_reducible refine Kd.C_alloc ?_ _) | (with_reducible refine Kd.C_drewN ?_ _) | (with_reducible refine Kd.C_drew ?_))); (case aB => exact zb); (case aF => exact (fun k_ hk => ⟨Kd.fresh' (Kd.R_lt (tR HO315.out)) k_ hk, Kd.fresh' (Kd.R_lt (tR HO321.out)) k_ hk, Kd.fresh' (Kd.R_lt (tR HO327.out)) k_ hk⟩)); (case aO => exact (tRm HO324.out)); (case aS => exact (below_size zb)); (case aL => have := LMc10.out; omega); intro v329 w25 ho hb hg hat; rw [← Ny328.out] at ho; replace BK309 := Aside0.mk (blk_grown (tH BK309.out) hg (Kd.R_ne HO324.out BK309.out (by decide))); replace HO315 := Aside0.mk (Kd.R_after (ok := (fun k_ => some k_ ≠ (.slice Ao22 t319.length co22 : Value).ownBlock ∧ some k_ ≠ (.slice Ao26 t325.length co26 : Value).ownBlock)) (tRm HO315.out) hg hat); replace HO321 := Aside0.mk (Kd.R_after (ok := (fun k_ => some k_ ≠ (.slice Ao18 t313.length co18 : Value).ownBlock ∧ some k_ ≠ (.slice Ao26 t325.length co26 : Value).ownBlock)) (tRm HO321.out) hg hat); replace HO327 := Aside0.mk (Kd.R_after (ok := (fun k_ => some k_ ≠ (.slice Ao18 t313.length co18 : Value).ownBlock ∧ some k_ ≠ (.slice Ao22 t319.length co22 : Value).ownBlock)) (tRm HO327.out) hg hat); replace HB := Aside0.mk (hb); have HO330 := Aside0.mk (ho); clear HO324; clear ho hb hg hat; obtain ⟨Ao27, co27, eo27⟩ := Kd.R_slice HO330.out; subst eo27) | ((with_reducible refine gate_callee (f := 58) rfl ?_); refine goesL_ (some 35) rfl rfl Try.func58 (by kernel_rfl) rfl #[.int .i64 (y328.length : Int)] rfl tq ?_; (with_reducible refine (impl_varOf.calls k (y328.length : Int) t331 _ A11.out).mono ?_); rintro e w28 ⟨v332, rfl, ho0, hb⟩; have u_v332 := tsv Try.prog v332 ho0; refine ⟨_, rfl, ?_⟩; have HO333 := Aside0.mk (Kd.R_lower (Kd.R_new' (Kd.R_new' (Kd.R_new' (Kd.R_new' ho0 (Kd.R_lt (tR HO315.out))) (Kd.R_lt (tR HO321.out))) (Kd.R_lt (tR HO327.out))) (Kd.R_lt (tR HO330.out))) (below_size zb)); replace HO315 := Aside0.mk (Kd.R_elder' (tR HO315.out) (Kd.R_base ho0) hb); replace HO321 := Aside0.mk (Kd.R_elder' (tR HO321.out) (Kd.R_base ho0) hb); replace HO327 := Aside0.mk (Kd.R_elder' (tR HO327.out) (Kd.R_base ho0) hb); replace HO330 := Aside0.mk (Kd.R_elder' (tR HO330.out) (Kd.R_base ho0) hb); replace BK309 := tBb BK309 hb; replace HB := tBs HB hb; (try clear hb); (try clear hb2); (try clear hk); (try clear hi); (try clear ho0)) | ((with_reducible refine gate_builtin (b := .append) (xs := #[.tmp 35, .tmp 36]) rfl ?_); at_builtin; refine Kd.R_append_rows (Kd.int .i64) (w0 := w) w.heap.size rfl (.tmp 35) (.tmp 36) 26 3 (.int .i64 0) 8 rfl Try.underlying26 info3 rfl (by decide) (by omega) v332 t331 y328 _ _ _ (fun k_ => some k_ ≠ (.slice Ao18 t313.length co18 : Value).ownBlock ∧ some k_ ≠ (.slice Ao22 t319.length co22 : Value).ownBlock ∧ some k_ ≠ (.slice Ao26 t325.length co26 : Value).ownBlock ∧ some k_ ≠ (.slice Ao27 y328.length co27 : Value).ownBlock) (fun _ => False) rfl rfl ?aO ?aR (fun _ _ h => h) (fun _ h => h.elim) ?aF ?aB ?aS ?aL ?_; (case aR => repeat (first | exact (Kd.R_reads' HO330.out).2.2 | (with_reducible refine Kd.C_alloc ?_ _) | (with_reducible refine Kd.C_drewN ?_ _) | (with_reducible refine Kd.C_drew ?_))); (case aB => exact zb); (case aF => exact (fun k_ hk => ⟨Kd.fresh' (Kd.R_lt (tR HO315.out)) k_ hk, Kd.fresh' (Kd.R_lt (tR HO321.out)) k_ hk, Kd.fresh' (Kd.R_lt (tR HO327.out)) k_ hk, Kd.fresh' (Kd.R_lt (tR HO330.out)) k_ hk⟩)); (case aO => exact (tRm HO333.out)); (case aS => exact (below_size zb)); (case aL => have := LMc12.out; omega); intro v335 w29 ho hb hg hat; rw [← Ny334.out] at ho; replace BK309 := Aside0.mk (blk_grown (tH BK309.out) hg (Kd.R_ne HO333.out BK309.out (by decide))); replace HO315 := Aside0.mk (Kd.R_after (ok := (fun k_ => some k_ ≠ (.slice Ao22 t319.length co22 : Value).ownBlock ∧ some k_ ≠ (.slice Ao26 t325.length co26 : Value).ownBlock ∧ some k_ ≠ (.slice Ao27 y328.length co27 : Value).ownBlock)) (tRm HO315.out) hg hat); replace HO321 := Aside0.mk (Kd.R_after (ok := (fun k_ => some k_ ≠ (.slice Ao18 t313.length co18 : Value).ownBlock ∧ some k_ ≠ (.slice Ao26 t325.length co26 : Value).ownBlock ∧ some k_ ≠ (.slice Ao27 y328.length co27 : Value).ownBlock)) (tRm HO321.out) hg hat); replace HO327 := Aside0.mk (Kd.R_after (ok := (fun k_ => some k_ ≠ (.slice Ao18 t313.length co18 : Value).ownBlock ∧ some k_ ≠ (.slice Ao22 t319.length co22 : Value).ownBlock ∧ some k_ ≠ (.slice Ao27 y328.length co27 : Value).ownBlock)) (tRm HO327.out) hg hat); replace HO330 := Aside0.mk (Kd.R_after (ok := (fun k_ => some k_ ≠ (.slice Ao18 t313.length co18 : Value).ownBlock ∧ some k_ ≠ (.slice Ao22 t319.length co22 : Value).ownBlock ∧ some k_ ≠ (.slice Ao26 t325.length co26 : Value).ownBlock)) (tR HO330.out) hg hat); replace HB := Aside0.mk (hb); have HO336 := Aside0.mk (ho); clear HO333; clear ho hb hg hat))
     go_ret
     exact ⟨_, by first | rfl | (simp [errW_none, errW_some] <;> rfl) | (simp [*, errW_none, errW_some] <;> rfl), tRm HO336.out, zb⟩
    ·rw [if_neg c12] at H
     exact absurd H (by simp)
   ·rw [if_neg c10] at H
    exact absurd H (by simp)
  ·rw [if_neg c8] at H
   exact absurd H (by simp)
 ·rw [if_neg c6] at H
  exact absurd H (by simp)

end Go.Proofs.Ythoioccmnphfgaa.G

namespace Go.Proofs.Ythoioccmnphfgaa.G
open Go.RowKit Go.Proofs.YthoioccmnphfgaaW.PrintWords Go.Proofs.YthoioccmnphfgaaW.PrintLast Go.Proofs.YthoioccmnphfgaaW.PrintMore
attribute [local go_sem] max2_int min2_int max_two min_two max_three min_three max_four min_four   -- for this text's walks alone
set_option linter.unusedVariables false
set_option linter.unusedSimpArgs false

def impl_sum_with.f (a0 : Int) (a1 : Int) : Option (Int) := some (Int.tmod (wrap64 ((wrap64 (257 * a0)) + a1)) 65521)
set_option maxHeartbeats 8000000 in
set_option maxRecDepth 100000 in
theorem impl_sum_with.calls (a0 : Int) (a1 : Int) (r : Int) (w : World) (h : impl_sum_with.f a0 a1 = some r) :
  Calls Try.prog 65 #[.int .i64 a0, .int .i64 a1] w fun e w' => e = .returned (.int .i64 r) ∧ Drawn0 w w' := by
 have H : (some (Int.tmod (wrap64 ((wrap64 (257 * a0)) + a1)) 65521)) = some r := h
 clear h
 obtain rfl := Option.some.inj H
 go_enter Try.func65, Try.ntmps65
 go_wp2
 go_ret
 exact ⟨by first | rfl | (simp; done) | (simp [*]; done), by repeat (first | exact Drawn0.refl _ | apply Drawn0.step)⟩

def impl_sum_over.l0 : Nat → Int → List Int → Int → Int → Option (Int)
 | 0, _, _, _, _ => none
 | k + 1, x0, x7, x8, x9 => if x9 < x8 then (if 0 ≤ x9 then (if x9 < (x7.length : Int) then ((impl_sum_with.f x0 (rd x7 x9)).bind fun t342 => (impl_sum_over.l0 k t342 x7 x8 (wrap64 (x9 + 1)))) else (none)) else (none)) else (some x0)
def impl_sum_over.f (k : Nat) (a0 : Int) (l1 : List Int) : Option (Int) := impl_sum_over.l0 k a0 l1 (l1.length : Int) 0
set_option maxHeartbeats 8000000 in
set_option maxRecDepth 100000 in
theorem impl_sum_over.calls (k : Nat) (a0 : Int) (A1 : Option Addr) (c1 : Nat) (l1 : List Int) (r : Int) (w : World) (hr1 : Kd.C (Kd.int .i64) w A1 l1.length l1) (hc1 : l1.length ≤ c1) (h : impl_sum_over.f k a0 l1 = some r) :
  Calls Try.prog 46 #[.int .i64 a0, .slice A1 l1.length c1] w fun e w' => e = .returned (.int .i64 r) ∧ Drawn0 w w' := by
 have HR1 := Aside0.mk hr1
 have HC1 := Aside0.mk hc1
 clear hr1 hc1
 have H : (impl_sum_over.l0 k a0 l1 (l1.length : Int) 0) = some r := h
 clear h
 have H' := Aside0.mk H
 clear H
 go_enter Try.func46, Try.ntmps46
 go_wp2
 go_loopg [0, 9] k (fun kq v0 v9 w' => ∃ (x0_1 : Int) (x9_1 : Int), v0 = .int .i64 x0_1 ∧ v9 = .int .i64 x9_1 ∧ Aside0 (impl_sum_over.l0 kq x0_1 l1 (l1.length : Int) x9_1 = some r) ∧ Aside0 (kq ≤ k) ∧ Drawn0 w w')
 case atStart => exact ⟨(a0), (0), tr, tr, H', ⟨Nat.le_refl _⟩, by repeat (first | exact Drawn0.refl _ | apply Drawn0.step)⟩
 case round =>
  clear H'
  try clear c1
  obtain ⟨x0_1, x9_1, rfl, rfl, HA, HK1, ⟨m1, rfl⟩⟩ := hrel
  cases gk with
  | zero => exact absurd HA.out (by simp [impl_sum_over.l0])
  | succ k1 =>
   have H := HA.out
   clear HA
   simp only [impl_sum_over.l0] at H
   by_cases c3 : x9_1 < (l1.length : Int)
   ·rw [if_pos c3] at H
    have c3b0 : decide (x9_1 < (l1.length : Int)) = true := decide_eq_true c3
    clear c3
    by_cases c4 : 0 ≤ x9_1
    ·rw [if_pos c4] at H
     have c4b0 : decide (0 ≤ x9_1) = true := decide_eq_true c4
     clear c4
     by_cases c5 : x9_1 < (l1.length : Int)
     ·rw [if_pos c5] at H
      have c5b0 : decide (x9_1 < (l1.length : Int)) = true := decide_eq_true c5
      clear c5
      replace H := tbe H
      obtain ⟨t342, A6, H⟩ := H
      have H' := Aside0.mk H
      clear H
      have p341 : 0 ≤ (x9_1 : Int) := td
      have q341 : x9_1 < (l1.length : Int) := td
      obtain ⟨ad341, e341, hx341_0⟩ := Kd.at_int HR1.out x9_1 p341 q341
      cases e341
      replace p341 := eq_true p341
      replace q341 := eq_true q341
      go_wp2_with (first | ((with_reducible refine gate_callee (f := 65) rfl ?_); refine goesL_ (some 15) rfl rfl Try.func65 (by kernel_rfl) rfl #[.int .i64 x0_1, .int .i64 (rd l1 x9_1)] rfl tq ?_; (with_reducible refine (impl_sum_with.calls x0_1 (rd l1 x9_1) t342 _ A6.out).mono ?_); rintro e w' ⟨rfl, ⟨nd, rfl⟩⟩; refine ⟨_, rfl, ?_⟩))
      go_roundg k1
      case measure => have := HK1.out; omega
      case rel => exact ⟨(t342), (wrap64 (x9_1 + 1)), tr, tr, H', ⟨by have := HK1.out; omega⟩, by repeat (first | exact Drawn0.refl _ | apply Drawn0.step)⟩
     ·rw [if_neg c5] at H
      exact absurd H (by simp)
    ·rw [if_neg c4] at H
     exact absurd H (by simp)
   ·rw [if_neg c3] at H
    have c3b0 : decide (x9_1 < (l1.length : Int)) = false := decide_eq_false c3
    clear c3
    obtain rfl := Option.some.inj H
    go_wp2
    go_ret
    exact ⟨by first | rfl | (simp; done) | (simp [*]; done), by repeat (first | exact Drawn0.refl _ | apply Drawn0.step)⟩

mutual
def impl_Batch_bytesOf.l0 : Nat → List Int → List (S63) → Int → Int → Bool → Bool → Int → Int → Int → List (S63) → Int → Int → Bool → List Int → Bool → List Int → Option (List Int)
 | 0, _, _, _, _, _, _, _, _, _, _, _, _, _, _, _, _ => none
 | k + 1, x4, x15, x16, x17, x344000, x344001, x344002, x344003, x344004, x344005, x346000, x346001, x346002, x346003, x346004, x346005 => if x17 < x16 then (if 0 ≤ x17 then (if x17 < (x15.length : Int) then ((impl_Record_bytesFor.f k ((rd_T63 x15 x17).f0) ((rd_T63 x15 x17).f1) ((rd_T63 x15 x17).f2) ((rd_T63 x15 x17).f3) ((rd_T63 x15 x17).f4) ((rd_T63 x15 x17).f5) x346000 x346001).bind fun t351 => (if x4.length + t351.length < 17592186044416 then (impl_Batch_bytesOf.l0 k (x4 ++ t351) x15 x16 (wrap64 (x17 + 1)) x344000 x344001 x344002 x344003 x344004 x344005 x346000 x346001 x346002 x346003 x346004 x346005) else (none))) else (none)) else (none)) else (if x344000 = true then ((impl_pack.f k x4).bind fun t357 => (impl_Batch_bytesOf.j1 k t357 (0 + 1) x344000 x344001 x344002 x344003 x344004 x344005 x346000 x346001 x346002 x346003 x346004 x346005)) else (impl_Batch_bytesOf.j1 k x4 0 x344000 x344001 x344002 x344003 x344004 x344005 x346000 x346001 x346002 x346003 x346004 x346005))
def impl_Batch_bytesOf.j1 : Nat → List Int → Int → Bool → Bool → Int → Int → Int → List (S63) → Int → Int → Bool → List Int → Bool → List Int → Option (List Int)
 | 0, _, _, _, _, _, _, _, _, _, _, _, _, _, _ => none
 | k + 1, x4, x7, x344000, x344001, x344002, x344003, x344004, x344005, x346000, x346001, x346002, x346003, x346004, x346005 => if x344001 = true then (impl_Batch_bytesOf.j2 k x4 (wrap64 (x7 + 2)) x344000 x344001 x344002 x344003 x344004 x344005 x346000 x346001 x346002 x346003 x346004 x346005) else (impl_Batch_bytesOf.j2 k x4 x7 x344000 x344001 x344002 x344003 x344004 x344005 x346000 x346001 x346002 x346003 x346004 x346005)
def impl_Batch_bytesOf.j2 : Nat → List Int → Int → Bool → Bool → Int → Int → Int → List (S63) → Int → Int → Bool → List Int → Bool → List Int → Option (List Int)
 | 0, _, _, _, _, _, _, _, _, _, _, _, _, _, _ => none
 | k + 1, x4, x7, x344000, x344001, x344002, x344003, x344004, x344005, x346000, x346001, x346002, x346003, x346004, x346005 => (some (([x7, x344002, x344003] : List Int) : List Int)).bind fun y360 => ((impl_intOf.f k x344004 2).bind fun t363 => (if y360.length + t363.length < 17592186044416 then ((some (y360 ++ t363 : List Int)).bind fun y366 => ((impl_intOf.f k x346001 3).bind fun t369 => (if y366.length + t369.length < 17592186044416 then ((some (y366 ++ t369 : List Int)).bind fun y372 => ((some (([(x344005.length : Int), 0, 0] : List Int) : List Int)).bind fun y375 => (if y372.length + y375.length < 17592186044416 then ((some (y372 ++ y375 : List Int)).bind fun y378 => (if y378.length + x4.length < 17592186044416 then ((some (y378 ++ x4 : List Int)).bind fun y381 => ((impl_intOf.f k x346000 3).bind fun t384 => ((impl_intOf.f k (y381.length : Int) 2).bind fun t387 => ((impl_sum_over.f k 1 y381).bind fun t390 => ((impl_intOf.f k t390 2).bind fun t391 => ((slices_Concat_int_int.f (([t384, t387, t391, y381] : List (List Int)))).bind fun t397 => (some t397))))))) else (none))) else (none)))) else (none)))) else (none)))
end
def impl_Batch_bytesOf.f (k : Nat) (a0_0 : Bool) (a0_1 : Bool) (a0_2 : Int) (a0_3 : Int) (a0_4 : Int) (l0_5 : List (S63)) : Option (List Int) := if 0 < (l0_5.length : Int) then (impl_Batch_bytesOf.l0 k (([] : List Int)) l0_5 (l0_5.length : Int) 0 a0_0 a0_1 a0_2 a0_3 a0_4 l0_5 ((rd_T63 l0_5 0).f0) ((rd_T63 l0_5 0).f1) ((rd_T63 l0_5 0).f2) ((rd_T63 l0_5 0).f3) ((rd_T63 l0_5 0).f4) ((rd_T63 l0_5 0).f5)) else (none)
set_option maxHeartbeats 8000000 in
set_option maxRecDepth 100000 in
theorem impl_Batch_bytesOf.calls (k : Nat) (a0_0 : Bool) (a0_1 : Bool) (a0_2 : Int) (a0_3 : Int) (a0_4 : Int) (A0_5 : Option Addr) (c0_5 : Nat) (l0_5 : List (S63)) (r : List Int) (w : World) (hr0_5 : Kd.C k63 w A0_5 l0_5.length l0_5) (hc0_5 : l0_5.length ≤ c0_5) (h : impl_Batch_bytesOf.f k a0_0 a0_1 a0_2 a0_3 a0_4 l0_5 = some r) :
  Calls Try.prog 25 #[.agg #[.bool a0_0, .bool a0_1, .int .i64 a0_2, .int .i64 a0_3, .int .i64 a0_4, .slice A0_5 l0_5.length c0_5]] w fun e w' => ∃ v0_ : Value, e = .returned (v0_) ∧ Kd.R (Kd.int .i64) 3 w' w.heap.size (fun _ => True) v0_ r ∧ Below w.heap.size w w' := by
 have hu46 := Try.underlying46
 have hu63 := Try.underlying63
 have HR0_5 := Aside0.mk hr0_5
 have HC0_5 := Aside0.mk hc0_5
 clear hr0_5 hc0_5
 have HB := Aside0.mk (Below.refl w.heap.size w)
 have H : (if 0 < (l0_5.length : Int) then (impl_Batch_bytesOf.l0 k (([] : List Int)) l0_5 (l0_5.length : Int) 0 a0_0 a0_1 a0_2 a0_3 a0_4 l0_5 ((rd_T63 l0_5 0).f0) ((rd_T63 l0_5 0).f1) ((rd_T63 l0_5 0).f2) ((rd_T63 l0_5 0).f3) ((rd_T63 l0_5 0).f4) ((rd_T63 l0_5 0).f5)) else (none)) = some r := h
 clear h
 by_cases c2 : 0 < (l0_5.length : Int)
 ·rw [if_pos c2] at H
  have c2b0 : decide (0 < (l0_5.length : Int)) = true := decide_eq_true c2
  have c2b1 : decide (0 < l0_5.length) = true := decide_eq_true (by omega)
  clear c2
  obtain ⟨y346, hy346⟩ : ∃ y_ : List Int, y_ = (([] : List Int)) := ⟨_, rfl⟩
  replace H : (impl_Batch_bytesOf.l0 k y346 l0_5 (l0_5.length : Int) 0 a0_0 a0_1 a0_2 a0_3 a0_4 l0_5 ((rd_T63 l0_5 0).f0) ((rd_T63 l0_5 0).f1) ((rd_T63 l0_5 0).f2) ((rd_T63 l0_5 0).f3) ((rd_T63 l0_5 0).f4) ((rd_T63 l0_5 0).f5)) = some r := by first | (rw [hy346]; with_reducible exact H) | (have H2_ := (Option.bind_some _ _).symm.trans H; rw [hy346]; with_reducible exact H2_) | (have H2_ := (Option.bind_some _ _).symm.trans H; with_reducible exact H2_) | with_reducible exact H | (rw [hy346]; exact H) | exact H
  have Ny346 := Aside0.mk hy346
  clear hy346
  have H' := Aside0.mk H
  clear H
  go_enter Try.func25, Try.ntmps25
  go_wp2_with (first | ((with_reducible refine gate_dst (N := 1) rfl ?_); refine box_event ?hg (N := 1) ?hd (cs := #[.bool a0_0, .bool a0_1, .int .i64 a0_2, .int .i64 a0_3, .int .i64 a0_4, .slice A0_5 l0_5.length c0_5]) (t := 46) ?hr ?_; (case hd => rfl); (case hg => rfl); (case hr => first | (go_simp; done) | (go_simp; rfl)); intro gb343 hg w3 hbox hb; have BK343 := Aside0.mk (hbox); have GW343 := tge HB hg; have GE343 := tge HB hg; replace HB := tBs HB hb; clear hb hbox hg; obtain ⟨hcz4_0, hcz4_1, hcz4_2, hcz4_3, hcz4_4, hcz4_5, hfz4_0, hfz4_1, hfz4_2, hfz4_3, hfz4_4, hfz4_5⟩ := cells6 BK343.out; have p344 : 0 ≤ (0 : Int) := (by omega); have q344 : 0 < (l0_5.length : Int) := td; obtain ⟨ad344, A344_3, c344_3, A344_5, c344_5, e344, hx344_0, hx344_1, hx344_2, hx344_3, hx344_4, hx344_5, hl344_3, hi344_3, hl344_5, hi344_5⟩ := at_T63 HR0_5.out 0 p344 q344; cases e344; have qi344 : (0 < l0_5.length) = True := eq_true (by omega); (try rw [show ((0 : Int)).toNat = 0 from rfl] at hx344_0); (try rw [show 0 * 6 = 0 from rfl] at hx344_0); (try rw [Addr.add_zero'] at hx344_0); (try rw [show ((0 : Int)).toNat = 0 from rfl] at hx344_1); (try rw [show 0 * 6 = 0 from rfl] at hx344_1); (try rw [Addr.add_zero'] at hx344_1); (try rw [show ((0 : Int)).toNat = 0 from rfl] at hx344_2); (try rw [show 0 * 6 = 0 from rfl] at hx344_2); (try rw [Addr.add_zero'] at hx344_2); (try rw [show ((0 : Int)).toNat = 0 from rfl] at hx344_3); (try rw [show 0 * 6 = 0 from rfl] at hx344_3); (try rw [Addr.add_zero'] at hx344_3); (try rw [show ((0 : Int)).toNat = 0 from rfl] at hx344_4); (try rw [show 0 * 6 = 0 from rfl] at hx344_4); (try rw [Addr.add_zero'] at hx344_4); (try rw [show ((0 : Int)).toNat = 0 from rfl] at hx344_5); (try rw [show 0 * 6 = 0 from rfl] at hx344_5); (try rw [Addr.add_zero'] at hx344_5); replace hx344_0 := tcl HB hx344_0; replace hx344_1 := tcl HB hx344_1; replace hx344_2 := tcl HB hx344_2; replace hx344_3 := tcl HB hx344_3; replace hx344_4 := tcl HB hx344_4; replace hx344_5 := tcl HB hx344_5; have HR344_3 := Aside0.mk hi344_3; have HC344_3 := Aside0.mk hl344_3; clear hi344_3 hl344_3; have HR344_5 := Aside0.mk hi344_5; have HC344_5 := Aside0.mk hl344_5; clear hi344_5 hl344_5; replace p344 := eq_true p344; replace q344 := eq_true q344) | ((with_reducible refine gate_dst (N := 3) rfl ?_); refine box_event ?hg (N := 3) ?hd (cs := #[.int .i64 0, .int .i64 0, .bool false, .slice none 0 0, .bool false, .slice none 0 0]) (t := 63) ?hr ?_; (case hd => rfl); (case hg => rfl); (case hr => first | (go_simp; done) | (go_simp; rfl)); intro gb345 hg w5 hbox hb; have BK345 := Aside0.mk (hbox); have GW345 := tge HB hg; have GE345 := tge HB hg; replace HB := tBs HB hb; have NB343_345 := tlt BK343 hg; have NB345_343 := tgt BK343 hg; replace BK343 := tBb BK343 hb; clear hb hbox hg; have hnb6 := NB345_343.out; have hnc6 := NB343_345.out; obtain ⟨hcz7_0, hcz7_1, hcz7_2, hcz7_3, hcz7_4, hcz7_5, hfz7_0, hfz7_1, hfz7_2, hfz7_3, hfz7_4, hfz7_5⟩ := cells6 BK345.out) | ((with_reducible refine gate_dst (N := 13) rfl ?_); refine Kd.R_lit (Kd.int .i64) _ 3 ?hg (N := 13) ?hd (xs := ([] : List Int)) (inner := []) (ok := fun _ => True) (okp := fun _ => True) ?hr ?hp (fun _ hk => hk) trivial (Below.refl _ _) (Nat.le_refl _) (by simp) ?_; (case hd => rfl); (case hg => rfl); (case hr => first | (go_simp; done) | (go_simp; rfl)); (case hp => exact (Reps.none _ _)); intro v347 w8 ho9 hb hg_ hnew_; clear hg_ hnew_; (first | rw [← Ny346.out] at ho9 | (simp only [Int.reduceToNat] at ho9; rw [← Ny346.out] at ho9)); have HO348 := tRl ho9 HB; replace BK343 := tBb BK343 hb; replace BK345 := tBp (o' := .cells #[.int .i64 ((rd_T63 l0_5 0).f0), .int .i64 ((rd_T63 l0_5 0).f1), .bool ((rd_T63 l0_5 0).f2), .slice A344_3 ((rd_T63 l0_5 0).f3).length c344_3, .bool ((rd_T63 l0_5 0).f4), .slice A344_5 ((rd_T63 l0_5 0).f5).length c344_5] 63 (0, 0)) BK345 hb; replace HB := tBs HB hb; clear hb ho9; obtain ⟨hcz10_0, hcz10_1, hcz10_2, hcz10_3, hcz10_4, hcz10_5, hfz10_0, hfz10_1, hfz10_2, hfz10_3, hfz10_4, hfz10_5⟩ := cells6 BK343.out))
  go_loopg [4, 17] k (fun kq v4 v17 w' => ∃ (x4_1 : List Int) (x17_1 : Int), v17 = .int .i64 x17_1 ∧ Aside0 (impl_Batch_bytesOf.l0 kq x4_1 l0_5 (l0_5.length : Int) x17_1 a0_0 a0_1 a0_2 a0_3 a0_4 l0_5 ((rd_T63 l0_5 0).f0) ((rd_T63 l0_5 0).f1) ((rd_T63 l0_5 0).f2) ((rd_T63 l0_5 0).f3) ((rd_T63 l0_5 0).f4) ((rd_T63 l0_5 0).f5) = some r) ∧ Aside0 (kq ≤ k) ∧ Aside0 (Kd.R (Kd.int .i64) 3 w' w.heap.size (fun _ => True) v4 x4_1) ∧ Aside0 (w'.heap[gb343]? = some (.cells #[.bool a0_0, .bool a0_1, .int .i64 a0_2, .int .i64 a0_3, .int .i64 a0_4, (.slice (some ad344) l0_5.length c0_5)] 46 (0, 0))) ∧ Aside0 (w'.heap[gb345]? = some (.cells #[.int .i64 ((rd_T63 l0_5 0).f0), .int .i64 ((rd_T63 l0_5 0).f1), .bool ((rd_T63 l0_5 0).f2), (.slice A344_3 ((rd_T63 l0_5 0).f3).length c344_3), .bool ((rd_T63 l0_5 0).f4), (.slice A344_5 ((rd_T63 l0_5 0).f5).length c344_5)] 63 (0, 0))) ∧ Aside0 (Below w.heap.size w w'))
  case atStart => exact ⟨(y346), (0), tr, H', ⟨Nat.le_refl _⟩, ⟨tR HO348.out⟩, ⟨tH BK343.out⟩, ⟨tH BK345.out⟩, ⟨zb⟩⟩
  case round =>
   clear H'
   try clear c2; try clear c2b0; try clear c2b1; try clear hcz10_0; try clear hcz10_1; try clear hcz10_2; try clear hcz10_3; try clear hcz10_4; try clear hcz10_5; try clear hcz4_0; try clear hcz4_1; try clear hcz4_2; try clear hcz4_3; try clear hcz4_4; try clear hcz4_5; try clear hcz7_0; try clear hcz7_1; try clear hcz7_2; try clear hcz7_3; try clear hcz7_4; try clear hcz7_5; try clear hfz10_0; try clear hfz10_1; try clear hfz10_2; try clear hfz10_3; try clear hfz10_4; try clear hfz10_5; try clear hfz4_0; try clear hfz4_1; try clear hfz4_2; try clear hfz4_3; try clear hfz4_4; try clear hfz4_5; try clear hfz7_0; try clear hfz7_1; try clear hfz7_2; try clear hfz7_3; try clear hfz7_4; try clear hfz7_5; try clear hx344_0; try clear hx344_1; try clear hx344_2; try clear hx344_3; try clear hx344_4; try clear hx344_5; try clear p344; try clear q344
   obtain ⟨x4_1, x17_1, rfl, HA, HK1, HO_4, BK343, BK345, HB⟩ := hrel
   cases gk with
   | zero => exact absurd HA.out (by simp [impl_Batch_bytesOf.l0])
   | succ k1 =>
    have H := HA.out
    clear HA
    simp only [impl_Batch_bytesOf.l0] at H
    by_cases c11 : x17_1 < (l0_5.length : Int)
    ·rw [if_pos c11] at H
     have c11b0 : decide (x17_1 < (l0_5.length : Int)) = true := decide_eq_true c11
     clear c11
     by_cases c12 : 0 ≤ x17_1
     ·rw [if_pos c12] at H
      have c12b0 : decide (0 ≤ x17_1) = true := decide_eq_true c12
      clear c12
      by_cases c13 : x17_1 < (l0_5.length : Int)
      ·rw [if_pos c13] at H
       have c13b0 : decide (x17_1 < (l0_5.length : Int)) = true := decide_eq_true c13
       clear c13
       replace H := tbe H
       obtain ⟨t351, A14, H⟩ := H
       by_cases c15 : x4_1.length + t351.length < 17592186044416
       ·rw [if_pos c15] at H
        have LMc15 := Aside0.mk c15
        clear c15
        obtain ⟨y354, hy354⟩ : ∃ y_ : List Int, y_ = (x4_1 ++ t351) := ⟨_, rfl⟩
        replace H : (impl_Batch_bytesOf.l0 k1 y354 l0_5 (l0_5.length : Int) (wrap64 (x17_1 + 1)) a0_0 a0_1 a0_2 a0_3 a0_4 l0_5 ((rd_T63 l0_5 0).f0) ((rd_T63 l0_5 0).f1) ((rd_T63 l0_5 0).f2) ((rd_T63 l0_5 0).f3) ((rd_T63 l0_5 0).f4) ((rd_T63 l0_5 0).f5)) = some r := by first | (rw [hy354]; with_reducible exact H) | (have H2_ := (Option.bind_some _ _).symm.trans H; rw [hy354]; with_reducible exact H2_) | (have H2_ := (Option.bind_some _ _).symm.trans H; with_reducible exact H2_) | with_reducible exact H | (rw [hy354]; exact H) | exact H
        have Ny354 := Aside0.mk hy354
        clear hy354
        have H' := Aside0.mk H
        clear H
        have p349 : 0 ≤ (x17_1 : Int) := td
        have q349 : x17_1 < (l0_5.length : Int) := td
        obtain ⟨ad349, A349_3, c349_3, A349_5, c349_5, e349, hx349_0, hx349_1, hx349_2, hx349_3, hx349_4, hx349_5, hl349_3, hi349_3, hl349_5, hi349_5⟩ := at_T63 HR0_5.out x17_1 p349 q349
        obtain rfl : ad344 = ad349 := (by injection e349)
        replace hx349_0 := tcl HB hx349_0
        replace hx349_1 := tcl HB hx349_1
        replace hx349_2 := tcl HB hx349_2
        replace hx349_3 := tcl HB hx349_3
        replace hx349_4 := tcl HB hx349_4
        replace hx349_5 := tcl HB hx349_5
        have HR349_3 := Aside0.mk hi349_3
        have HC349_3 := Aside0.mk hl349_3
        clear hi349_3 hl349_3
        have HR349_5 := Aside0.mk hi349_5
        have HC349_5 := Aside0.mk hl349_5
        clear hi349_5 hl349_5
        replace p349 := eq_true p349
        replace q349 := eq_true q349
        go_wp2_with (first | ((with_reducible refine gate_dst (N := 6) rfl ?_); refine box_event ?hg (N := 6) ?hd (cs := #[.int .i64 0, .int .i64 0, .bool false, .slice none 0 0, .bool false, .slice none 0 0]) (t := 63) ?hr ?_; (case hd => rfl); (case hg => rfl); (case hr => first | (go_simp; done) | (go_simp; rfl)); intro gb350 hg w16 hbox hb; replace HO_4 := tRb HO_4 hb; have BK350 := Aside0.mk (hbox); have GW350 := tge HB hg; have GE350 := tge HB hg; replace HB := tBs HB hb; have NB343_350 := tlt BK343 hg; have NB350_343 := tgt BK343 hg; replace BK343 := tBb BK343 hb; have NB345_350 := tlt BK345 hg; have NB350_345 := tgt BK345 hg; replace BK345 := tBb BK345 hb; clear hb hbox hg; have hnb17 := NB350_343.out; have hnc17 := NB343_350.out; have hnb18 := NB350_345.out; have hnc18 := NB345_350.out; obtain ⟨hcz19_0, hcz19_1, hcz19_2, hcz19_3, hcz19_4, hcz19_5, hfz19_0, hfz19_1, hfz19_2, hfz19_3, hfz19_4, hfz19_5⟩ := cells6 BK350.out; have hnb20 := NB345_343.out; have hnc20 := NB343_345.out; obtain ⟨hcz21_0, hcz21_1, hcz21_2, hcz21_3, hcz21_4, hcz21_5, hfz21_0, hfz21_1, hfz21_2, hfz21_3, hfz21_4, hfz21_5⟩ := cells6 BK345.out) | ((with_reducible refine gate_callee (f := 42) rfl ?_); refine goesL_ (some 27) rfl rfl Try.func42 (by kernel_rfl) rfl #[.agg #[.int .i64 ((rd_T63 l0_5 x17_1).f0), .int .i64 ((rd_T63 l0_5 x17_1).f1), .bool ((rd_T63 l0_5 x17_1).f2), .slice A349_3 ((rd_T63 l0_5 x17_1).f3).length c349_3, .bool ((rd_T63 l0_5 x17_1).f4), .slice A349_5 ((rd_T63 l0_5 x17_1).f5).length c349_5], .int .i64 ((rd_T63 l0_5 0).f0), .int .i64 ((rd_T63 l0_5 0).f1)] rfl tq ?_; (with_reducible refine (impl_Record_bytesFor.calls k1 ((rd_T63 l0_5 x17_1).f0) ((rd_T63 l0_5 x17_1).f1) ((rd_T63 l0_5 x17_1).f2) _ _ ((rd_T63 l0_5 x17_1).f3) ((rd_T63 l0_5 x17_1).f4) _ _ ((rd_T63 l0_5 x17_1).f5) ((rd_T63 l0_5 0).f0) ((rd_T63 l0_5 0).f1) t351 _ ?side1 ?side2 ?side3 ?side4 A14.out).mono ?_); (case side1 => exact Kd.C_below HR349_3.out zb); (case side2 => exact HC349_3.out); (case side3 => exact Kd.C_below HR349_5.out zb); (case side4 => exact HC349_5.out); rintro e w22 ⟨v352, rfl, ho0, hb⟩; have u_v352 := tsv Try.prog v352 ho0; refine ⟨_, rfl, ?_⟩; have HO353 := Aside0.mk (Kd.R_lower (Kd.R_new' ho0 (Kd.R_lt (tRt HO_4.out BK350.out))) (below_size zb)); replace HO_4 := Aside0.mk (Kd.R_elder' (tRt HO_4.out BK350.out) (Kd.R_base ho0) hb); replace BK343 := tBb BK343 hb; replace BK345 := tBb BK345 hb; replace BK350 := tBp (o' := .cells #[.int .i64 ((rd_T63 l0_5 x17_1).f0), .int .i64 ((rd_T63 l0_5 x17_1).f1), .bool ((rd_T63 l0_5 x17_1).f2), .slice A349_3 ((rd_T63 l0_5 x17_1).f3).length c349_3, .bool ((rd_T63 l0_5 x17_1).f4), .slice A349_5 ((rd_T63 l0_5 x17_1).f5).length c349_5] 63 (0, 0)) BK350 hb; replace HB := tBs HB hb; (try clear hb); (try clear hb2); (try clear hk); (try clear hi); (try clear ho0); obtain ⟨Ao24, co24, eo24⟩ := Kd.R_slice HO353.out; subst eo24) | ((with_reducible refine gate_builtin (b := .append) (xs := #[.tmp 21, .tmp 27]) rfl ?_); at_builtin; refine Kd.R_append_rows (Kd.int .i64) (w0 := w) w.heap.size rfl (.tmp 21) (.tmp 27) 26 3 (.int .i64 0) 8 rfl Try.underlying26 info3 rfl (by decide) (by omega) u4 x4_1 t351 _ _ _ (fun k_ => some k_ ≠ (.slice Ao24 t351.length co24 : Value).ownBlock) (fun _ => False) rfl rfl ?aO ?aR (fun _ _ h => h) (fun _ h => h.elim) ?aF ?aB ?aS ?aL ?_; (case aR => repeat (first | exact (Kd.R_reads' HO353.out).2.2 | (with_reducible refine Kd.C_alloc ?_ _) | (with_reducible refine Kd.C_drewN ?_ _) | (with_reducible refine Kd.C_drew ?_))); (case aB => exact zb); (case aF => exact (fun k_ hk => Kd.fresh' (Kd.R_lt (tR HO353.out)) k_ hk)); (case aO => exact (tRm HO_4.out)); (case aS => exact (below_size zb)); (case aL => have := LMc15.out; omega); intro v355 w23 ho hb hg hat; rw [← Ny354.out] at ho; replace BK343 := Aside0.mk (blk_grown (tH BK343.out) hg (Kd.R_ne HO_4.out BK343.out (by decide))); replace BK345 := Aside0.mk (blk_grown (tH BK345.out) hg (Kd.R_ne HO_4.out BK345.out (by decide))); replace BK350 := Aside0.mk (blk_grown (tH BK350.out) hg (Kd.R_ne HO_4.out BK350.out (by decide))); replace HO353 := Aside0.mk (Kd.R_after (ok := (fun _ => True)) (tR HO353.out) hg hat); replace HB := Aside0.mk (hb); have HO356 := Aside0.mk (ho); clear HO_4; clear ho hb hg hat))
        go_roundg k1
        case measure => have := HK1.out; omega
        case rel => exact ⟨(y354), (wrap64 (x17_1 + 1)), tr, H', ⟨by have := HK1.out; omega⟩, ⟨tRm HO356.out⟩, ⟨tH BK343.out⟩, ⟨tH BK345.out⟩, ⟨zb⟩⟩
       ·rw [if_neg c15] at H
        exact absurd H (by simp)
      ·rw [if_neg c13] at H
       exact absurd H (by simp)
     ·rw [if_neg c12] at H
      exact absurd H (by simp)
    ·rw [if_neg c11] at H
     have c11b0 : decide (x17_1 < (l0_5.length : Int)) = false := decide_eq_false c11
     clear c11
     have HC25 := Aside0.mk H
     clear H
     have hnb26 := NB343_345.out
     have hnc26 := NB345_343.out
     obtain ⟨hcz27_0, hcz27_1, hcz27_2, hcz27_3, hcz27_4, hcz27_5, hfz27_0, hfz27_1, hfz27_2, hfz27_3, hfz27_4, hfz27_5⟩ := cells6 BK343.out
     go_upto_if 31 with (fail)
     go_cut [4, 7] (fun v4 v7 wc => ∃ (kq : Nat) (x4_24 : List Int) (x7_24 : Int), v7 = .int .i64 x7_24 ∧ Aside0 (impl_Batch_bytesOf.j1 kq x4_24 x7_24 a0_0 a0_1 a0_2 a0_3 a0_4 l0_5 ((rd_T63 l0_5 0).f0) ((rd_T63 l0_5 0).f1) ((rd_T63 l0_5 0).f2) ((rd_T63 l0_5 0).f3) ((rd_T63 l0_5 0).f4) ((rd_T63 l0_5 0).f5) = some r) ∧ Aside0 (kq ≤ k1) ∧ Aside0 (Kd.R (Kd.int .i64) 3 wc w.heap.size (fun _ => True) v4 x4_24) ∧ Aside0 (wc.heap[gb343]? = some (.cells #[.bool a0_0, .bool a0_1, .int .i64 a0_2, .int .i64 a0_3, .int .i64 a0_4, (.slice (some ad344) l0_5.length c0_5)] 46 (0, 0))) ∧ Aside0 (wc.heap[gb345]? = some (.cells #[.int .i64 ((rd_T63 l0_5 0).f0), .int .i64 ((rd_T63 l0_5 0).f1), .bool ((rd_T63 l0_5 0).f2), (.slice A344_3 ((rd_T63 l0_5 0).f3).length c344_3), .bool ((rd_T63 l0_5 0).f4), (.slice A344_5 ((rd_T63 l0_5 0).f5).length c344_5)] 63 (0, 0))) ∧ Aside0 (Below w.heap.size w wc))
     case first =>
      have H := HC25.out
      clear HC25
      by_cases c28 : a0_0 = true
      ·subst c28
       rw [if_pos rfl] at H
       replace H := tbe H
       obtain ⟨t357, A29, H⟩ := H
       have H' := Aside0.mk H
       clear H
       obtain ⟨Ao30, co30, eo30⟩ := Kd.R_slice HO_4.out
       subst eo30
       go_wp2_with (first | ((with_reducible refine gate_callee (f := 43) rfl ?_); refine goesL_ (some 35) rfl rfl Try.func43 (by kernel_rfl) rfl #[.slice Ao30 x4_1.length co30] rfl tq ?_; (with_reducible refine (impl_pack.calls k1 _ _ x4_1 t357 _ ?side1 ?side2 A29.out).mono ?_); (case side1 => repeat (first | exact (Kd.R_reads' HO_4.out).2.2 | (with_reducible refine Kd.C_alloc ?_ _) | (with_reducible refine Kd.C_drewN ?_ _) | (with_reducible refine Kd.C_drew ?_))); (case side2 => exact (Kd.R_reads' HO_4.out).2.1); rintro e w31 ⟨v358, rfl, ho0, hb⟩; have u_v358 := tsv Try.prog v358 ho0; refine ⟨_, rfl, ?_⟩; have HO359 := Aside0.mk (Kd.R_lower (Kd.R_new' ho0 (Kd.R_lt (tR HO_4.out))) (below_size zb)); replace HO_4 := Aside0.mk (Kd.R_elder' (tR HO_4.out) (Kd.R_base ho0) hb); replace BK343 := tBb BK343 hb; replace BK345 := tBb BK345 hb; replace HB := tBs HB hb; (try clear hb); (try clear hb2); (try clear hk); (try clear hi); (try clear ho0)))
       go_meet
       case rel => exact ⟨_, (t357), (0 + 1), tr, H', ⟨by have := HK1.out; first | omega | exact Nat.le_refl _⟩, ⟨tRm HO359.out⟩, ⟨tH BK343.out⟩, ⟨tH BK345.out⟩, ⟨zb⟩⟩
      ·replace c28 := Bool.eq_false_iff.mpr c28
       subst c28
       rw [if_neg (show ¬ (false = true) by decide)] at H
       have H' := Aside0.mk H
       clear H
       go_wp2
       go_meet
       case rel => exact ⟨_, (x4_1), (0), tr, H', ⟨by have := HK1.out; first | omega | exact Nat.le_refl _⟩, ⟨tR HO_4.out⟩, ⟨tH BK343.out⟩, ⟨tH BK345.out⟩, ⟨zb⟩⟩
     case rest =>
      clear HC25
      try clear c2; try clear c2b0; try clear c2b1; try clear c11; try clear c11b0; try clear hcz10_0; try clear hcz10_1; try clear hcz10_2; try clear hcz10_3; try clear hcz10_4; try clear hcz10_5; try clear hcz27_0; try clear hcz27_1; try clear hcz27_2; try clear hcz27_3; try clear hcz27_4; try clear hcz27_5; try clear hcz4_0; try clear hcz4_1; try clear hcz4_2; try clear hcz4_3; try clear hcz4_4; try clear hcz4_5; try clear hcz7_0; try clear hcz7_1; try clear hcz7_2; try clear hcz7_3; try clear hcz7_4; try clear hcz7_5; try clear hfz10_0; try clear hfz10_1; try clear hfz10_2; try clear hfz10_3; try clear hfz10_4; try clear hfz10_5; try clear hfz27_0; try clear hfz27_1; try clear hfz27_2; try clear hfz27_3; try clear hfz27_4; try clear hfz27_5; try clear hfz4_0; try clear hfz4_1; try clear hfz4_2; try clear hfz4_3; try clear hfz4_4; try clear hfz4_5; try clear hfz7_0; try clear hfz7_1; try clear hfz7_2; try clear hfz7_3; try clear hfz7_4; try clear hfz7_5; try clear hx344_0; try clear hx344_1; try clear hx344_2; try clear hx344_3; try clear hx344_4; try clear hx344_5; try clear p344; try clear q344
      obtain ⟨kq, x4_24, x7_24, rfl, HA, HJ24, HO_4, BK343, BK345, HB⟩ := hcut
      cases kq with
      | zero => exact absurd HA.out (by simp [impl_Batch_bytesOf.j1])
      | succ kj24 =>
       have H := HA.out
       clear HA
       simp only [impl_Batch_bytesOf.j1] at H
       have HC32 := Aside0.mk H
       clear H
       have hnb33 := NB343_345.out
       have hnc33 := NB345_343.out
       obtain ⟨hcz34_0, hcz34_1, hcz34_2, hcz34_3, hcz34_4, hcz34_5, hfz34_0, hfz34_1, hfz34_2, hfz34_3, hfz34_4, hfz34_5⟩ := cells6 BK343.out
       go_upto_if 37 with (fail)
       go_cut [7] (fun v7 wc => ∃ (kq : Nat) (x7_31 : Int), v7 = .int .i64 x7_31 ∧ Aside0 (impl_Batch_bytesOf.j2 kq x4_24 x7_31 a0_0 a0_1 a0_2 a0_3 a0_4 l0_5 ((rd_T63 l0_5 0).f0) ((rd_T63 l0_5 0).f1) ((rd_T63 l0_5 0).f2) ((rd_T63 l0_5 0).f3) ((rd_T63 l0_5 0).f4) ((rd_T63 l0_5 0).f5) = some r) ∧ Aside0 (kq ≤ kj24) ∧ Aside0 (Kd.R (Kd.int .i64) 3 wc w.heap.size (fun _ => True) u4 x4_24) ∧ Aside0 (wc.heap[gb343]? = some (.cells #[.bool a0_0, .bool a0_1, .int .i64 a0_2, .int .i64 a0_3, .int .i64 a0_4, (.slice (some ad344) l0_5.length c0_5)] 46 (0, 0))) ∧ Aside0 (wc.heap[gb345]? = some (.cells #[.int .i64 ((rd_T63 l0_5 0).f0), .int .i64 ((rd_T63 l0_5 0).f1), .bool ((rd_T63 l0_5 0).f2), (.slice A344_3 ((rd_T63 l0_5 0).f3).length c344_3), .bool ((rd_T63 l0_5 0).f4), (.slice A344_5 ((rd_T63 l0_5 0).f5).length c344_5)] 63 (0, 0))) ∧ Aside0 (Below w.heap.size w wc))
       case first =>
        have H := HC32.out
        clear HC32
        by_cases c35 : a0_1 = true
        ·subst c35
         rw [if_pos rfl] at H
         have H' := Aside0.mk H
         clear H
         go_wp2
         go_meet
         case rel => exact ⟨_, (wrap64 (x7_24 + 2)), tr, H', ⟨by have := HK1.out; have := HJ24.out; first | omega | exact Nat.le_refl _⟩, ⟨tR HO_4.out⟩, ⟨tH BK343.out⟩, ⟨tH BK345.out⟩, ⟨zb⟩⟩
        ·replace c35 := Bool.eq_false_iff.mpr c35
         subst c35
         rw [if_neg (show ¬ (false = true) by decide)] at H
         have H' := Aside0.mk H
         clear H
         go_wp2
         go_meet
         case rel => exact ⟨_, (x7_24), tr, H', ⟨by have := HK1.out; have := HJ24.out; first | omega | exact Nat.le_refl _⟩, ⟨tR HO_4.out⟩, ⟨tH BK343.out⟩, ⟨tH BK345.out⟩, ⟨zb⟩⟩
       case rest =>
        clear HC32
        try clear c2; try clear c2b0; try clear c2b1; try clear c11; try clear c11b0; try clear hcz10_0; try clear hcz10_1; try clear hcz10_2; try clear hcz10_3; try clear hcz10_4; try clear hcz10_5; try clear hcz27_0; try clear hcz27_1; try clear hcz27_2; try clear hcz27_3; try clear hcz27_4; try clear hcz27_5; try clear hcz34_0; try clear hcz34_1; try clear hcz34_2; try clear hcz34_3; try clear hcz34_4; try clear hcz34_5; try clear hcz4_0; try clear hcz4_1; try clear hcz4_2; try clear hcz4_3; try clear hcz4_4; try clear hcz4_5; try clear hcz7_0; try clear hcz7_1; try clear hcz7_2; try clear hcz7_3; try clear hcz7_4; try clear hcz7_5; try clear hfz10_0; try clear hfz10_1; try clear hfz10_2; try clear hfz10_3; try clear hfz10_4; try clear hfz10_5; try clear hfz27_0; try clear hfz27_1; try clear hfz27_2; try clear hfz27_3; try clear hfz27_4; try clear hfz27_5; try clear hfz34_0; try clear hfz34_1; try clear hfz34_2; try clear hfz34_3; try clear hfz34_4; try clear hfz34_5; try clear hfz4_0; try clear hfz4_1; try clear hfz4_2; try clear hfz4_3; try clear hfz4_4; try clear hfz4_5; try clear hfz7_0; try clear hfz7_1; try clear hfz7_2; try clear hfz7_3; try clear hfz7_4; try clear hfz7_5; try clear hx344_0; try clear hx344_1; try clear hx344_2; try clear hx344_3; try clear hx344_4; try clear hx344_5; try clear p344; try clear q344
        obtain ⟨kq, x7_31, rfl, HA, HJ31, HO_4, BK343, BK345, HB⟩ := hcut
        cases kq with
        | zero => exact absurd HA.out (by simp [impl_Batch_bytesOf.j2])
        | succ kj31 =>
         have H := HA.out
         clear HA
         simp only [impl_Batch_bytesOf.j2] at H
         obtain ⟨y360, hy360⟩ : ∃ y_ : List Int, y_ = (([x7_31, a0_2, a0_3] : List Int)) := ⟨_, rfl⟩
         replace H : ((impl_intOf.f kj31 a0_4 2).bind fun t363 => (if y360.length + t363.length < 17592186044416 then ((some (y360 ++ t363 : List Int)).bind fun y366 => ((impl_intOf.f kj31 ((rd_T63 l0_5 0).f1) 3).bind fun t369 => (if y366.length + t369.length < 17592186044416 then ((some (y366 ++ t369 : List Int)).bind fun y372 => ((some (([(l0_5.length : Int), 0, 0] : List Int) : List Int)).bind fun y375 => (if y372.length + y375.length < 17592186044416 then ((some (y372 ++ y375 : List Int)).bind fun y378 => (if y378.length + x4_24.length < 17592186044416 then ((some (y378 ++ x4_24 : List Int)).bind fun y381 => ((impl_intOf.f kj31 ((rd_T63 l0_5 0).f0) 3).bind fun t384 => ((impl_intOf.f kj31 (y381.length : Int) 2).bind fun t387 => ((impl_sum_over.f kj31 1 y381).bind fun t390 => ((impl_intOf.f kj31 t390 2).bind fun t391 => ((slices_Concat_int_int.f (([t384, t387, t391, y381] : List (List Int)))).bind fun t397 => (some t397))))))) else (none))) else (none)))) else (none)))) else (none))) = some r := by first | (rw [hy360]; with_reducible exact H) | (have H2_ := (Option.bind_some _ _).symm.trans H; rw [hy360]; with_reducible exact H2_) | (have H2_ := (Option.bind_some _ _).symm.trans H; with_reducible exact H2_) | with_reducible exact H | (rw [hy360]; exact H) | exact H
         have Ny360 := Aside0.mk hy360
         clear hy360
         replace H := tbe H
         obtain ⟨t363, A36, H⟩ := H
         by_cases c37 : y360.length + t363.length < 17592186044416
         ·rw [if_pos c37] at H
          have LMc37 := Aside0.mk c37
          clear c37
          obtain ⟨y366, hy366⟩ : ∃ y_ : List Int, y_ = (y360 ++ t363) := ⟨_, rfl⟩
          replace H : ((impl_intOf.f kj31 ((rd_T63 l0_5 0).f1) 3).bind fun t369 => (if y366.length + t369.length < 17592186044416 then ((some (y366 ++ t369 : List Int)).bind fun y372 => ((some (([(l0_5.length : Int), 0, 0] : List Int) : List Int)).bind fun y375 => (if y372.length + y375.length < 17592186044416 then ((some (y372 ++ y375 : List Int)).bind fun y378 => (if y378.length + x4_24.length < 17592186044416 then ((some (y378 ++ x4_24 : List Int)).bind fun y381 => ((impl_intOf.f kj31 ((rd_T63 l0_5 0).f0) 3).bind fun t384 => ((impl_intOf.f kj31 (y381.length : Int) 2).bind fun t387 => ((impl_sum_over.f kj31 1 y381).bind fun t390 => ((impl_intOf.f kj31 t390 2).bind fun t391 => ((slices_Concat_int_int.f (([t384, t387, t391, y381] : List (List Int)))).bind fun t397 => (some t397))))))) else (none))) else (none)))) else (none))) = some r := by first | (rw [hy366]; with_reducible exact H) | (have H2_ := (Option.bind_some _ _).symm.trans H; rw [hy366]; with_reducible exact H2_) | (have H2_ := (Option.bind_some _ _).symm.trans H; with_reducible exact H2_) | with_reducible exact H | (rw [hy366]; exact H) | exact H
          have Ny366 := Aside0.mk hy366
          clear hy366
          replace H := tbe H
          obtain ⟨t369, A38, H⟩ := H
          by_cases c39 : y366.length + t369.length < 17592186044416
          ·rw [if_pos c39] at H
           have LMc39 := Aside0.mk c39
           clear c39
           obtain ⟨y372, hy372⟩ : ∃ y_ : List Int, y_ = (y366 ++ t369) := ⟨_, rfl⟩
           replace H : ((some (([(l0_5.length : Int), 0, 0] : List Int) : List Int)).bind fun y375 => (if y372.length + y375.length < 17592186044416 then ((some (y372 ++ y375 : List Int)).bind fun y378 => (if y378.length + x4_24.length < 17592186044416 then ((some (y378 ++ x4_24 : List Int)).bind fun y381 => ((impl_intOf.f kj31 ((rd_T63 l0_5 0).f0) 3).bind fun t384 => ((impl_intOf.f kj31 (y381.length : Int) 2).bind fun t387 => ((impl_sum_over.f kj31 1 y381).bind fun t390 => ((impl_intOf.f kj31 t390 2).bind fun t391 => ((slices_Concat_int_int.f (([t384, t387, t391, y381] : List (List Int)))).bind fun t397 => (some t397))))))) else (none))) else (none))) = some r := by first | (rw [hy372]; with_reducible exact H) | (have H2_ := (Option.bind_some _ _).symm.trans H; rw [hy372]; with_reducible exact H2_) | (have H2_ := (Option.bind_some _ _).symm.trans H; with_reducible exact H2_) | with_reducible exact H | (rw [hy372]; exact H) | exact H
           have Ny372 := Aside0.mk hy372
           clear hy372
           obtain ⟨y375, hy375⟩ : ∃ y_ : List Int, y_ = (([(l0_5.length : Int), 0, 0] : List Int)) := ⟨_, rfl⟩
           replace H : (if y372.length + y375.length < 17592186044416 then ((some (y372 ++ y375 : List Int)).bind fun y378 => (if y378.length + x4_24.length < 17592186044416 then ((some (y378 ++ x4_24 : List Int)).bind fun y381 => ((impl_intOf.f kj31 ((rd_T63 l0_5 0).f0) 3).bind fun t384 => ((impl_intOf.f kj31 (y381.length : Int) 2).bind fun t387 => ((impl_sum_over.f kj31 1 y381).bind fun t390 => ((impl_intOf.f kj31 t390 2).bind fun t391 => ((slices_Concat_int_int.f (([t384, t387, t391, y381] : List (List Int)))).bind fun t397 => (some t397))))))) else (none))) else (none)) = some r := by first | (rw [hy375]; with_reducible exact H) | (have H2_ := (Option.bind_some _ _).symm.trans H; rw [hy375]; with_reducible exact H2_) | (have H2_ := (Option.bind_some _ _).symm.trans H; with_reducible exact H2_) | with_reducible exact H | (rw [hy375]; exact H) | exact H
           have Ny375 := Aside0.mk hy375
           clear hy375
           by_cases c40 : y372.length + y375.length < 17592186044416
           ·rw [if_pos c40] at H
            have LMc40 := Aside0.mk c40
            clear c40
            obtain ⟨y378, hy378⟩ : ∃ y_ : List Int, y_ = (y372 ++ y375) := ⟨_, rfl⟩
            replace H : (if y378.length + x4_24.length < 17592186044416 then ((some (y378 ++ x4_24 : List Int)).bind fun y381 => ((impl_intOf.f kj31 ((rd_T63 l0_5 0).f0) 3).bind fun t384 => ((impl_intOf.f kj31 (y381.length : Int) 2).bind fun t387 => ((impl_sum_over.f kj31 1 y381).bind fun t390 => ((impl_intOf.f kj31 t390 2).bind fun t391 => ((slices_Concat_int_int.f (([t384, t387, t391, y381] : List (List Int)))).bind fun t397 => (some t397))))))) else (none)) = some r := by first | (rw [hy378]; with_reducible exact H) | (have H2_ := (Option.bind_some _ _).symm.trans H; rw [hy378]; with_reducible exact H2_) | (have H2_ := (Option.bind_some _ _).symm.trans H; with_reducible exact H2_) | with_reducible exact H | (rw [hy378]; exact H) | exact H
            have Ny378 := Aside0.mk hy378
            clear hy378
            by_cases c41 : y378.length + x4_24.length < 17592186044416
            ·rw [if_pos c41] at H
             have LMc41 := Aside0.mk c41
             clear c41
             obtain ⟨y381, hy381⟩ : ∃ y_ : List Int, y_ = (y378 ++ x4_24) := ⟨_, rfl⟩
             replace H : ((impl_intOf.f kj31 ((rd_T63 l0_5 0).f0) 3).bind fun t384 => ((impl_intOf.f kj31 (y381.length : Int) 2).bind fun t387 => ((impl_sum_over.f kj31 1 y381).bind fun t390 => ((impl_intOf.f kj31 t390 2).bind fun t391 => ((slices_Concat_int_int.f (([t384, t387, t391, y381] : List (List Int)))).bind fun t397 => (some t397)))))) = some r := by first | (rw [hy381]; with_reducible exact H) | (have H2_ := (Option.bind_some _ _).symm.trans H; rw [hy381]; with_reducible exact H2_) | (have H2_ := (Option.bind_some _ _).symm.trans H; with_reducible exact H2_) | with_reducible exact H | (rw [hy381]; exact H) | exact H
             have Ny381 := Aside0.mk hy381
             clear hy381
             replace H := tbe H
             obtain ⟨t384, A42, H⟩ := H
             replace H := tbe H
             obtain ⟨t387, A43, H⟩ := H
             replace H := tbe H
             obtain ⟨t390, A44, H⟩ := H
             replace H := tbe H
             obtain ⟨t391, A45, H⟩ := H
             obtain ⟨y394, hy394⟩ : ∃ y_ : List (List Int), y_ = (([t384, t387, t391, y381] : List (List Int))) := ⟨_, rfl⟩
             replace H : ((slices_Concat_int_int.f y394).bind fun t397 => (some t397)) = some r := by first | (rw [hy394]; with_reducible exact H) | (have H2_ := (Option.bind_some _ _).symm.trans H; rw [hy394]; with_reducible exact H2_) | (have H2_ := (Option.bind_some _ _).symm.trans H; with_reducible exact H2_) | with_reducible exact H | (rw [hy394]; exact H) | exact H
             have Ny394 := Aside0.mk hy394
             clear hy394
             replace H := tbe H
             obtain ⟨t397, A46, H⟩ := H
             obtain rfl := Option.some.inj H
             have hnb47 := NB343_345.out
             have hnc47 := NB345_343.out
             obtain ⟨hcz48_0, hcz48_1, hcz48_2, hcz48_3, hcz48_4, hcz48_5, hfz48_0, hfz48_1, hfz48_2, hfz48_3, hfz48_4, hfz48_5⟩ := cells6 BK343.out
             go_wp2_with (first | ((with_reducible refine gate_dst (N := 45) rfl ?_); refine Kd.R_lit (Kd.int .i64) _ 3 ?hg (N := 45) ?hd (xs := ([x7_31, a0_2, a0_3] : List Int)) (inner := [.int .i64 x7_31, .int .i64 a0_2, .int .i64 a0_3]) (ok := fun _ => True) (okp := fun _ => True) ?hr ?hp (fun _ hk => hk) trivial (Below.refl _ _) (Nat.le_refl _) (by simp) ?_; (case hd => rfl); (case hg => rfl); (case hr => first | (go_simp; done) | (go_simp; rfl)); (case hp => exact (Reps.one (show Kd.M (Kd.int .i64) _ _ _ x7_31 [.int .i64 x7_31] from rfl) (Reps.one (show Kd.M (Kd.int .i64) _ _ _ a0_2 [.int .i64 a0_2] from rfl) (Reps.one (show Kd.M (Kd.int .i64) _ _ _ a0_3 [.int .i64 a0_3] from rfl) (Reps.none _ _))))); intro v361 w49 ho50 hb hg_ hnew_; clear hg_ hnew_; (first | rw [← Ny360.out] at ho50 | (simp only [Int.reduceToNat] at ho50; rw [← Ny360.out] at ho50)); have HO362 := Aside0.mk (Kd.R_lower (Kd.R_new' ho50 (Kd.R_lt (tR HO_4.out))) (below_size zb)); replace HO_4 := Aside0.mk (Kd.R_elder' (tR HO_4.out) (Kd.R_base ho50) hb); replace BK343 := tBb BK343 hb; replace BK345 := tBb BK345 hb; replace HB := tBs HB hb; clear hb ho50; obtain ⟨hcz51_0, hcz51_1, hcz51_2, hcz51_3, hcz51_4, hcz51_5, hfz51_0, hfz51_1, hfz51_2, hfz51_3, hfz51_4, hfz51_5⟩ := cells6 BK343.out) | ((with_reducible refine gate_callee (f := 44) rfl ?_); refine goesL_ (some 49) rfl rfl Try.func44 (by kernel_rfl) rfl #[.int .i64 a0_4, .int .i64 2] rfl tq ?_; (with_reducible refine (impl_intOf.calls kj31 a0_4 2 t363 _ A36.out).mono ?_); rintro e w52 ⟨v364, rfl, ho0, hb⟩; have u_v364 := tsv Try.prog v364 ho0; refine ⟨_, rfl, ?_⟩; have HO365 := Aside0.mk (Kd.R_lower (Kd.R_new' (Kd.R_new' ho0 (Kd.R_lt (tR HO_4.out))) (Kd.R_lt (tR HO362.out))) (below_size zb)); replace HO_4 := Aside0.mk (Kd.R_elder' (tR HO_4.out) (Kd.R_base ho0) hb); replace HO362 := Aside0.mk (Kd.R_elder' (tR HO362.out) (Kd.R_base ho0) hb); replace BK343 := tBb BK343 hb; replace BK345 := tBb BK345 hb; replace HB := tBs HB hb; (try clear hb); (try clear hb2); (try clear hk); (try clear hi); (try clear ho0); obtain ⟨Ao54, co54, eo54⟩ := Kd.R_slice HO365.out; subst eo54) | ((with_reducible refine gate_builtin (b := .append) (xs := #[.tmp 46, .tmp 49]) rfl ?_); at_builtin; refine Kd.R_append_rows (Kd.int .i64) (w0 := w) w.heap.size rfl (.tmp 46) (.tmp 49) 26 3 (.int .i64 0) 8 rfl Try.underlying26 info3 rfl (by decide) (by omega) v361 y360 t363 _ _ _ (fun k_ => some k_ ≠ (u4 : Value).ownBlock ∧ some k_ ≠ (.slice Ao54 t363.length co54 : Value).ownBlock) (fun _ => False) rfl rfl ?aO ?aR (fun _ _ h => h) (fun _ h => h.elim) ?aF ?aB ?aS ?aL ?_; (case aR => repeat (first | exact (Kd.R_reads' HO365.out).2.2 | (with_reducible refine Kd.C_alloc ?_ _) | (with_reducible refine Kd.C_drewN ?_ _) | (with_reducible refine Kd.C_drew ?_))); (case aB => exact zb); (case aF => exact (fun k_ hk => ⟨Kd.fresh' (Kd.R_lt (tR HO_4.out)) k_ hk, Kd.fresh' (Kd.R_lt (tR HO365.out)) k_ hk⟩)); (case aO => exact (tRm HO362.out)); (case aS => exact (below_size zb)); (case aL => have := LMc37.out; omega); intro v367 w53 ho hb hg hat; rw [← Ny366.out] at ho; replace HO_4 := Aside0.mk (Kd.R_after (ok := (fun k_ => some k_ ≠ (.slice Ao54 t363.length co54 : Value).ownBlock)) (tRm HO_4.out) hg hat); replace BK343 := Aside0.mk (blk_grown (tH BK343.out) hg (Kd.R_ne HO362.out BK343.out (by decide))); replace BK345 := Aside0.mk (blk_grown (tH BK345.out) hg (Kd.R_ne HO362.out BK345.out (by decide))); replace HO365 := Aside0.mk (Kd.R_after (ok := (fun k_ => some k_ ≠ (u4 : Value).ownBlock)) (tRm HO365.out) hg hat); replace HB := Aside0.mk (hb); have HO368 := Aside0.mk (ho); clear HO362; clear ho hb hg hat; obtain ⟨hcz55_0, hcz55_1, hcz55_2, hcz55_3, hcz55_4, hcz55_5, hfz55_0, hfz55_1, hfz55_2, hfz55_3, hfz55_4, hfz55_5⟩ := cells6 BK345.out) | ((with_reducible refine gate_callee (f := 44) rfl ?_); refine goesL_ (some 54) rfl rfl Try.func44 (by kernel_rfl) rfl #[.int .i64 ((rd_T63 l0_5 0).f1), .int .i64 3] rfl tq ?_; (with_reducible refine (impl_intOf.calls kj31 ((rd_T63 l0_5 0).f1) 3 t369 _ A38.out).mono ?_); rintro e w56 ⟨v370, rfl, ho0, hb⟩; have u_v370 := tsv Try.prog v370 ho0; refine ⟨_, rfl, ?_⟩; have HO371 := Aside0.mk (Kd.R_lower (Kd.R_new' (Kd.R_new' (Kd.R_new' ho0 (Kd.R_lt (tR HO_4.out))) (Kd.R_lt (tR HO365.out))) (Kd.R_lt (tR HO368.out))) (below_size zb)); replace HO_4 := Aside0.mk (Kd.R_elder' (tR HO_4.out) (Kd.R_base ho0) hb); replace HO365 := Aside0.mk (Kd.R_elder' (tR HO365.out) (Kd.R_base ho0) hb); replace HO368 := Aside0.mk (Kd.R_elder' (tR HO368.out) (Kd.R_base ho0) hb); replace BK343 := tBb BK343 hb; replace BK345 := tBb BK345 hb; replace HB := tBs HB hb; (try clear hb); (try clear hb2); (try clear hk); (try clear hi); (try clear ho0); obtain ⟨Ao58, co58, eo58⟩ := Kd.R_slice HO371.out; subst eo58) | ((with_reducible refine gate_builtin (b := .append) (xs := #[.tmp 51, .tmp 54]) rfl ?_); at_builtin; refine Kd.R_append_rows (Kd.int .i64) (w0 := w) w.heap.size rfl (.tmp 51) (.tmp 54) 26 3 (.int .i64 0) 8 rfl Try.underlying26 info3 rfl (by decide) (by omega) v367 y366 t369 _ _ _ (fun k_ => some k_ ≠ (u4 : Value).ownBlock ∧ some k_ ≠ (.slice Ao54 t363.length co54 : Value).ownBlock ∧ some k_ ≠ (.slice Ao58 t369.length co58 : Value).ownBlock) (fun _ => False) rfl rfl ?aO ?aR (fun _ _ h => h) (fun _ h => h.elim) ?aF ?aB ?aS ?aL ?_; (case aR => repeat (first | exact (Kd.R_reads' HO371.out).2.2 | (with_reducible refine Kd.C_alloc ?_ _) | (with_reducible refine Kd.C_drewN ?_ _) | (with_reducible refine Kd.C_drew ?_))); (case aB => exact zb); (case aF => exact (fun k_ hk => ⟨Kd.fresh' (Kd.R_lt (tR HO_4.out)) k_ hk, Kd.fresh' (Kd.R_lt (tR HO365.out)) k_ hk, Kd.fresh' (Kd.R_lt (tR HO371.out)) k_ hk⟩)); (case aO => exact (tRm HO368.out)); (case aS => exact (below_size zb)); (case aL => have := LMc39.out; omega); intro v373 w57 ho hb hg hat; rw [← Ny372.out] at ho; replace HO_4 := Aside0.mk (Kd.R_after (ok := (fun k_ => some k_ ≠ (.slice Ao54 t363.length co54 : Value).ownBlock ∧ some k_ ≠ (.slice Ao58 t369.length co58 : Value).ownBlock)) (tRm HO_4.out) hg hat); replace BK343 := Aside0.mk (blk_grown (tH BK343.out) hg (Kd.R_ne HO368.out BK343.out (by decide))); replace BK345 := Aside0.mk (blk_grown (tH BK345.out) hg (Kd.R_ne HO368.out BK345.out (by decide))); replace HO365 := Aside0.mk (Kd.R_after (ok := (fun k_ => some k_ ≠ (u4 : Value).ownBlock ∧ some k_ ≠ (.slice Ao58 t369.length co58 : Value).ownBlock)) (tRm HO365.out) hg hat); replace HO371 := Aside0.mk (Kd.R_after (ok := (fun k_ => some k_ ≠ (u4 : Value).ownBlock ∧ some k_ ≠ (.slice Ao54 t363.length co54 : Value).ownBlock)) (tRm HO371.out) hg hat); replace HB := Aside0.mk (hb); have HO374 := Aside0.mk (ho); clear HO368; clear ho hb hg hat; obtain ⟨hcz59_0, hcz59_1, hcz59_2, hcz59_3, hcz59_4, hcz59_5, hfz59_0, hfz59_1, hfz59_2, hfz59_3, hfz59_4, hfz59_5⟩ := cells6 BK343.out) | ((with_reducible refine gate_dst (N := 60) rfl ?_); refine Kd.R_lit (Kd.int .i64) _ 3 ?hg (N := 60) ?hd (xs := ([(l0_5.length : Int), 0, 0] : List Int)) (inner := [.int .i64 (l0_5.length : Int), .int .i64 0, .int .i64 0]) (ok := fun _ => True) (okp := fun _ => True) ?hr ?hp (fun _ hk => hk) trivial (Below.refl _ _) (Nat.le_refl _) (by simp) ?_; (case hd => rfl); (case hg => rfl); (case hr => first | (go_simp; done) | (go_simp; rfl)); (case hp => exact (Reps.one (show Kd.M (Kd.int .i64) _ _ _ (l0_5.length : Int) [.int .i64 (l0_5.length : Int)] from rfl) (Reps.one (show Kd.M (Kd.int .i64) _ _ _ 0 [.int .i64 0] from rfl) (Reps.one (show Kd.M (Kd.int .i64) _ _ _ 0 [.int .i64 0] from rfl) (Reps.none _ _))))); intro v376 w60 ho61 hb hg_ hnew_; clear hg_ hnew_; (first | rw [← Ny375.out] at ho61 | (simp only [Int.reduceToNat] at ho61; rw [← Ny375.out] at ho61)); have HO377 := Aside0.mk (Kd.R_lower (Kd.R_new' (Kd.R_new' (Kd.R_new' (Kd.R_new' ho61 (Kd.R_lt (tR HO_4.out))) (Kd.R_lt (tR HO365.out))) (Kd.R_lt (tR HO371.out))) (Kd.R_lt (tR HO374.out))) (below_size zb)); replace HO_4 := Aside0.mk (Kd.R_elder' (tR HO_4.out) (Kd.R_base ho61) hb); replace HO365 := Aside0.mk (Kd.R_elder' (tR HO365.out) (Kd.R_base ho61) hb); replace HO371 := Aside0.mk (Kd.R_elder' (tR HO371.out) (Kd.R_base ho61) hb); replace HO374 := Aside0.mk (Kd.R_elder' (tR HO374.out) (Kd.R_base ho61) hb); replace BK343 := tBb BK343 hb; replace BK345 := tBb BK345 hb; replace HB := tBs HB hb; clear hb ho61; obtain ⟨Ao63, co63, eo63⟩ := Kd.R_slice HO377.out; subst eo63) | ((with_reducible refine gate_builtin (b := .append) (xs := #[.tmp 56, .tmp 60]) rfl ?_); at_builtin; refine Kd.R_append_rows (Kd.int .i64) (w0 := w) w.heap.size rfl (.tmp 56) (.tmp 60) 26 3 (.int .i64 0) 8 rfl Try.underlying26 info3 rfl (by decide) (by omega) v373 y372 y375 _ _ _ (fun k_ => some k_ ≠ (u4 : Value).ownBlock ∧ some k_ ≠ (.slice Ao54 t363.length co54 : Value).ownBlock ∧ some k_ ≠ (.slice Ao58 t369.length co58 : Value).ownBlock ∧ some k_ ≠ (.slice Ao63 y375.length co63 : Value).ownBlock) (fun _ => False) rfl rfl ?aO ?aR (fun _ _ h => h) (fun _ h => h.elim) ?aF ?aB ?aS ?aL ?_; (case aR => repeat (first | exact (Kd.R_reads' HO377.out).2.2 | (with_reducible refine Kd.C_alloc ?_ _) | (with_reducible refine Kd.C_drewN ?_ _) | (with_reducible refine Kd.C_drew ?_))); (case aB => exact zb); (case aF => exact (fun k_ hk => ⟨Kd.fresh' (Kd.R_lt (tR HO_4.out)) k_ hk, Kd.fresh' (Kd.R_lt (tR HO365.out)) k_ hk, Kd.fresh' (Kd.R_lt (tR HO371.out)) k_ hk, Kd.fresh' (Kd.R_lt (tR HO377.out)) k_ hk⟩)); (case aO => exact (tRm HO374.out)); (case aS => exact (below_size zb)); (case aL => have := LMc40.out; omega); intro v379 w62 ho hb hg hat; rw [← Ny378.out] at ho; replace HO_4 := Aside0.mk (Kd.R_after (ok := (fun k_ => some k_ ≠ (.slice Ao54 t363.length co54 : Value).ownBlock ∧ some k_ ≠ (.slice Ao58 t369.length co58 : Value).ownBlock ∧ some k_ ≠ (.slice Ao63 y375.length co63 : Value).ownBlock)) (tRm HO_4.out) hg hat); replace BK343 := Aside0.mk (blk_grown (tH BK343.out) hg (Kd.R_ne HO374.out BK343.out (by decide))); replace BK345 := Aside0.mk (blk_grown (tH BK345.out) hg (Kd.R_ne HO374.out BK345.out (by decide))); replace HO365 := Aside0.mk (Kd.R_after (ok := (fun k_ => some k_ ≠ (u4 : Value).ownBlock ∧ some k_ ≠ (.slice Ao58 t369.length co58 : Value).ownBlock ∧ some k_ ≠ (.slice Ao63 y375.length co63 : Value).ownBlock)) (tRm HO365.out) hg hat); replace HO371 := Aside0.mk (Kd.R_after (ok := (fun k_ => some k_ ≠ (u4 : Value).ownBlock ∧ some k_ ≠ (.slice Ao54 t363.length co54 : Value).ownBlock ∧ some k_ ≠ (.slice Ao63 y375.length co63 : Value).ownBlock)) (tRm HO371.out) hg hat); replace HO377 := Aside0.mk (Kd.R_after (ok := (fun k_ => some k_ ≠ (u4 : Value).ownBlock ∧ some k_ ≠ (.slice Ao54 t363.length co54 : Value).ownBlock ∧ some k_ ≠ (.slice Ao58 t369.length co58 : Value).ownBlock)) (tRm HO377.out) hg hat); replace HB := Aside0.mk (hb); have HO380 := Aside0.mk (ho); clear HO374; clear ho hb hg hat; obtain ⟨Ao65, co65, eo65⟩ := Kd.R_slice HO_4.out; subst eo65) | ((with_reducible refine gate_builtin (b := .append) (xs := #[.tmp 62, .tmp 63]) rfl ?_); at_builtin; refine Kd.R_append_rows (Kd.int .i64) (w0 := w) w.heap.size rfl (.tmp 62) (.tmp 63) 26 3 (.int .i64 0) 8 rfl Try.underlying26 info3 rfl (by decide) (by omega) v379 y378 x4_24 _ _ _ (fun k_ => some k_ ≠ (.slice Ao65 x4_24.length co65 : Value).ownBlock ∧ some k_ ≠ (.slice Ao54 t363.length co54 : Value).ownBlock ∧ some k_ ≠ (.slice Ao58 t369.length co58 : Value).ownBlock ∧ some k_ ≠ (.slice Ao63 y375.length co63 : Value).ownBlock) (fun _ => False) rfl rfl ?aO ?aR (fun _ _ h => h) (fun _ h => h.elim) ?aF ?aB ?aS ?aL ?_; (case aR => repeat (first | exact (Kd.R_reads' HO_4.out).2.2 | (with_reducible refine Kd.C_alloc ?_ _) | (with_reducible refine Kd.C_drewN ?_ _) | (with_reducible refine Kd.C_drew ?_))); (case aB => exact zb); (case aF => exact (fun k_ hk => ⟨Kd.fresh' (Kd.R_lt (tR HO_4.out)) k_ hk, Kd.fresh' (Kd.R_lt (tR HO365.out)) k_ hk, Kd.fresh' (Kd.R_lt (tR HO371.out)) k_ hk, Kd.fresh' (Kd.R_lt (tR HO377.out)) k_ hk⟩)); (case aO => exact (tR HO380.out)); (case aS => exact (below_size zb)); (case aL => have := LMc41.out; omega); intro v382 w64 ho hb hg hat; rw [← Ny381.out] at ho; replace HO_4 := Aside0.mk (Kd.R_after (ok := (fun k_ => some k_ ≠ (.slice Ao54 t363.length co54 : Value).ownBlock ∧ some k_ ≠ (.slice Ao58 t369.length co58 : Value).ownBlock ∧ some k_ ≠ (.slice Ao63 y375.length co63 : Value).ownBlock)) (tR HO_4.out) hg hat); replace BK343 := Aside0.mk (blk_grown (tH BK343.out) hg (Kd.R_ne HO380.out BK343.out (by decide))); replace BK345 := Aside0.mk (blk_grown (tH BK345.out) hg (Kd.R_ne HO380.out BK345.out (by decide))); replace HO365 := Aside0.mk (Kd.R_after (ok := (fun k_ => some k_ ≠ (.slice Ao65 x4_24.length co65 : Value).ownBlock ∧ some k_ ≠ (.slice Ao58 t369.length co58 : Value).ownBlock ∧ some k_ ≠ (.slice Ao63 y375.length co63 : Value).ownBlock)) (tR HO365.out) hg hat); replace HO371 := Aside0.mk (Kd.R_after (ok := (fun k_ => some k_ ≠ (.slice Ao65 x4_24.length co65 : Value).ownBlock ∧ some k_ ≠ (.slice Ao54 t363.length co54 : Value).ownBlock ∧ some k_ ≠ (.slice Ao63 y375.length co63 : Value).ownBlock)) (tR HO371.out) hg hat); replace HO377 := Aside0.mk (Kd.R_after (ok := (fun k_ => some k_ ≠ (.slice Ao65 x4_24.length co65 : Value).ownBlock ∧ some k_ ≠ (.slice Ao54 t363.length co54 : Value).ownBlock ∧ some k_ ≠ (.slice Ao58 t369.length co58 : Value).ownBlock)) (tR HO377.out) hg hat); replace HB := Aside0.mk (hb); have HO383 := Aside0.mk (ho); clear HO380; clear ho hb hg hat; obtain ⟨hcz66_0, hcz66_1, hcz66_2, hcz66_3, hcz66_4, hcz66_5, hfz66_0, hfz66_1, hfz66_2, hfz66_3, hfz66_4, hfz66_5⟩ := cells6 BK345.out) | ((with_reducible refine gate_callee (f := 44) rfl ?_); refine goesL_ (some 67) rfl rfl Try.func44 (by kernel_rfl) rfl #[.int .i64 ((rd_T63 l0_5 0).f0), .int .i64 3] rfl tq ?_; (with_reducible refine (impl_intOf.calls kj31 ((rd_T63 l0_5 0).f0) 3 t384 _ A42.out).mono ?_); rintro e w67 ⟨v385, rfl, ho0, hb⟩; have u_v385 := tsv Try.prog v385 ho0; refine ⟨_, rfl, ?_⟩; have HO386 := Aside0.mk (Kd.R_lower (Kd.R_new' (Kd.R_new' (Kd.R_new' (Kd.R_new' (Kd.R_new' ho0 (Kd.R_lt (tR HO_4.out))) (Kd.R_lt (tR HO365.out))) (Kd.R_lt (tR HO371.out))) (Kd.R_lt (tR HO377.out))) (Kd.R_lt (tR HO383.out))) (below_size zb)); replace HO_4 := Aside0.mk (Kd.R_elder' (tR HO_4.out) (Kd.R_base ho0) hb); replace HO365 := Aside0.mk (Kd.R_elder' (tR HO365.out) (Kd.R_base ho0) hb); replace HO371 := Aside0.mk (Kd.R_elder' (tR HO371.out) (Kd.R_base ho0) hb); replace HO377 := Aside0.mk (Kd.R_elder' (tR HO377.out) (Kd.R_base ho0) hb); replace HO383 := Aside0.mk (Kd.R_elder' (tR HO383.out) (Kd.R_base ho0) hb); replace BK343 := tBb BK343 hb; replace BK345 := tBb BK345 hb; replace HB := tBs HB hb; (try clear hb); (try clear hb2); (try clear hk); (try clear hi); (try clear ho0); obtain ⟨Ao68, co68, eo68⟩ := Kd.R_slice HO383.out; subst eo68) | ((with_reducible refine gate_callee (f := 44) rfl ?_); refine goesL_ (some 70) rfl rfl Try.func44 (by kernel_rfl) rfl #[.int .i64 (y381.length : Int), .int .i64 2] rfl tq ?_; (with_reducible refine (impl_intOf.calls kj31 (y381.length : Int) 2 t387 _ A43.out).mono ?_); rintro e w69 ⟨v388, rfl, ho0, hb⟩; have u_v388 := tsv Try.prog v388 ho0; refine ⟨_, rfl, ?_⟩; have HO389 := Aside0.mk (Kd.R_lower (Kd.R_new' (Kd.R_new' (Kd.R_new' (Kd.R_new' (Kd.R_new' (Kd.R_new' ho0 (Kd.R_lt (tR HO_4.out))) (Kd.R_lt (tR HO365.out))) (Kd.R_lt (tR HO371.out))) (Kd.R_lt (tR HO377.out))) (Kd.R_lt (tR HO383.out))) (Kd.R_lt (tR HO386.out))) (below_size zb)); replace HO_4 := Aside0.mk (Kd.R_elder' (tR HO_4.out) (Kd.R_base ho0) hb); replace HO365 := Aside0.mk (Kd.R_elder' (tR HO365.out) (Kd.R_base ho0) hb); replace HO371 := Aside0.mk (Kd.R_elder' (tR HO371.out) (Kd.R_base ho0) hb); replace HO377 := Aside0.mk (Kd.R_elder' (tR HO377.out) (Kd.R_base ho0) hb); replace HO383 := Aside0.mk (Kd.R_elder' (tR HO383.out) (Kd.R_base ho0) hb); replace HO386 := Aside0.mk (Kd.R_elder' (tR HO386.out) (Kd.R_base ho0) hb); replace BK343 := tBb BK343 hb; replace BK345 := tBb BK345 hb; replace HB := tBs HB hb; (try clear hb); (try clear hb2); (try clear hk); (try clear hi); (try clear ho0)) | ((with_reducible refine gate_callee (f := 46) rfl ?_); refine goesL_ (some 72) rfl rfl Try.func46 (by kernel_rfl) rfl #[.int .i64 1, .slice Ao68 y381.length co68] rfl tq ?_; (with_reducible refine (impl_sum_over.calls kj31 1 _ _ y381 t390 _ ?side1 ?side2 A44.out).mono ?_); (case side1 => repeat (first | exact (Kd.R_reads' HO383.out).2.2 | (with_reducible refine Kd.C_alloc ?_ _) | (with_reducible refine Kd.C_drewN ?_ _) | (with_reducible refine Kd.C_drew ?_))); (case side2 => exact (Kd.R_reads' HO383.out).2.1); rintro e w' ⟨rfl, ⟨nd, rfl⟩⟩; refine ⟨_, rfl, ?_⟩) | ((with_reducible refine gate_callee (f := 44) rfl ?_); refine goesL_ (some 73) rfl rfl Try.func44 (by kernel_rfl) rfl #[.int .i64 t390, .int .i64 2] rfl tq ?_; (with_reducible refine (impl_intOf.calls kj31 t390 2 t391 _ A45.out).mono ?_); rintro e w70 ⟨v392, rfl, ho0, hb⟩; have u_v392 := tsv Try.prog v392 ho0; refine ⟨_, rfl, ?_⟩; have HO393 := Aside0.mk (Kd.R_lower (Kd.R_new' (Kd.R_new' (Kd.R_new' (Kd.R_new' (Kd.R_new' (Kd.R_new' (Kd.R_new' ho0 (Kd.R_lt (tR HO_4.out))) (Kd.R_lt (tR HO365.out))) (Kd.R_lt (tR HO371.out))) (Kd.R_lt (tR HO377.out))) (Kd.R_lt (tR HO383.out))) (Kd.R_lt (tR HO386.out))) (Kd.R_lt (tR HO389.out))) (below_size zb)); replace HO_4 := Aside0.mk (Kd.R_elder' (tR HO_4.out) (Kd.R_base ho0) hb); replace HO365 := Aside0.mk (Kd.R_elder' (tR HO365.out) (Kd.R_base ho0) hb); replace HO371 := Aside0.mk (Kd.R_elder' (tR HO371.out) (Kd.R_base ho0) hb); replace HO377 := Aside0.mk (Kd.R_elder' (tR HO377.out) (Kd.R_base ho0) hb); replace HO383 := Aside0.mk (Kd.R_elder' (tR HO383.out) (Kd.R_base ho0) hb); replace HO386 := Aside0.mk (Kd.R_elder' (tR HO386.out) (Kd.R_base ho0) hb); replace HO389 := Aside0.mk (Kd.R_elder' (tR HO389.out) (Kd.R_base ho0) hb); replace BK343 := tBb BK343 hb; replace BK345 := tBb BK345 hb; replace HB := tBs HB hb; (try clear hb); (try clear hb2); (try clear hk); (try clear hi); (try clear ho0); obtain ⟨Ao71, co71, eo71⟩ := Kd.R_slice HO386.out; subst eo71; obtain ⟨Ao72, co72, eo72⟩ := Kd.R_slice HO389.out; subst eo72; obtain ⟨Ao73, co73, eo73⟩ := Kd.R_slice HO393.out; subst eo73) | ((with_reducible refine gate_dst (N := 75) rfl ?_); refine Kd.N_lit (Kd.slice 3 (Kd.int .i64)) _ 26 ?hg (N' := 75) ?hd (xs := ([t384, t387, t391, y381] : List (List Int))) (inner := [.slice Ao71 t384.length co71, .slice Ao72 t387.length co72, .slice Ao73 t391.length co73, .slice Ao68 y381.length co68]) (ok := (fun k_ => some k_ ≠ (.slice Ao65 x4_24.length co65 : Value).ownBlock ∧ some k_ ≠ (.slice Ao54 t363.length co54 : Value).ownBlock ∧ some k_ ≠ (.slice Ao58 t369.length co58 : Value).ownBlock ∧ some k_ ≠ (.slice Ao63 y375.length co63 : Value).ownBlock ∧ k_ ≠ gb343 ∧ k_ ≠ gb345)) (okp := (fun k_ => some k_ ≠ (.slice Ao65 x4_24.length co65 : Value).ownBlock ∧ some k_ ≠ (.slice Ao54 t363.length co54 : Value).ownBlock ∧ some k_ ≠ (.slice Ao58 t369.length co58 : Value).ownBlock ∧ some k_ ≠ (.slice Ao63 y375.length co63 : Value).ownBlock ∧ k_ ≠ gb343 ∧ k_ ≠ gb345)) ?hr ?hp (fun _ hk => hk) ((show ∀ k_, w70.heap.size ≤ k_ → (fun k_ => some k_ ≠ (.slice Ao65 x4_24.length co65 : Value).ownBlock ∧ some k_ ≠ (.slice Ao54 t363.length co54 : Value).ownBlock ∧ some k_ ≠ (.slice Ao58 t369.length co58 : Value).ownBlock ∧ some k_ ≠ (.slice Ao63 y375.length co63 : Value).ownBlock ∧ k_ ≠ gb343 ∧ k_ ≠ gb345) k_ from fun k_ hk => ⟨Kd.fresh' (Kd.R_lt (tR HO_4.out)) k_ hk, Kd.fresh' (Kd.R_lt (tR HO365.out)) k_ hk, Kd.fresh' (Kd.R_lt (tR HO371.out)) k_ hk, Kd.fresh' (Kd.R_lt (tR HO377.out)) k_ hk, tfB BK343 k_ hk, tfB BK345 k_ hk⟩) _ (Nat.le_refl _)) (Below.refl _ _) (Nat.le_refl _) (by simp) ?_; (case hd => rfl); (case hg => rfl); (case hr => first | (go_simp; done) | (go_simp; rfl)); (case hp => exact (Reps.one (show Kd.FK (Kd.slice 3 (Kd.int .i64)) _ _ t384 [.slice Ao71 t384.length co71] from (Kd.FK_slice_mk (Kd.R_reads' (Kd.R_mono (ok' := (fun k_ => some k_ ≠ (.slice Ao65 x4_24.length co65 : Value).ownBlock ∧ some k_ ≠ (.slice Ao54 t363.length co54 : Value).ownBlock ∧ some k_ ≠ (.slice Ao58 t369.length co58 : Value).ownBlock ∧ some k_ ≠ (.slice Ao63 y375.length co63 : Value).ownBlock ∧ k_ ≠ gb343 ∧ k_ ≠ gb345)) (Kd.R_types (Kd.R_types (HO386.out) BK343.out (by decide)) BK345.out (by decide)) (fun k_ hk => ⟨hk.1.1.1.1.1.1.1.1.2, ⟨hk.1.1.1.1.1.1.1.2, ⟨hk.1.1.1.1.1.1.2, ⟨hk.1.1.1.1.1.2, ⟨hk.1.2, hk.2⟩⟩⟩⟩⟩))).2.1 (Kd.R_F (Kd.R_mono (ok' := (fun k_ => some k_ ≠ (.slice Ao65 x4_24.length co65 : Value).ownBlock ∧ some k_ ≠ (.slice Ao54 t363.length co54 : Value).ownBlock ∧ some k_ ≠ (.slice Ao58 t369.length co58 : Value).ownBlock ∧ some k_ ≠ (.slice Ao63 y375.length co63 : Value).ownBlock ∧ k_ ≠ gb343 ∧ k_ ≠ gb345)) (Kd.R_types (Kd.R_types (HO386.out) BK343.out (by decide)) BK345.out (by decide)) (fun k_ hk => ⟨hk.1.1.1.1.1.1.1.1.2, ⟨hk.1.1.1.1.1.1.1.2, ⟨hk.1.1.1.1.1.1.2, ⟨hk.1.1.1.1.1.2, ⟨hk.1.2, hk.2⟩⟩⟩⟩⟩))))) (Reps.one (show Kd.FK (Kd.slice 3 (Kd.int .i64)) _ _ t387 [.slice Ao72 t387.length co72] from (Kd.FK_slice_mk (Kd.R_reads' (Kd.R_mono (ok' := (fun k_ => some k_ ≠ (.slice Ao65 x4_24.length co65 : Value).ownBlock ∧ some k_ ≠ (.slice Ao54 t363.length co54 : Value).ownBlock ∧ some k_ ≠ (.slice Ao58 t369.length co58 : Value).ownBlock ∧ some k_ ≠ (.slice Ao63 y375.length co63 : Value).ownBlock ∧ k_ ≠ gb343 ∧ k_ ≠ gb345)) (Kd.R_types (Kd.R_types (HO389.out) BK343.out (by decide)) BK345.out (by decide)) (fun k_ hk => ⟨hk.1.1.1.1.1.1.1.1.2, ⟨hk.1.1.1.1.1.1.1.2, ⟨hk.1.1.1.1.1.1.2, ⟨hk.1.1.1.1.1.2, ⟨hk.1.2, hk.2⟩⟩⟩⟩⟩))).2.1 (Kd.R_F (Kd.R_mono (ok' := (fun k_ => some k_ ≠ (.slice Ao65 x4_24.length co65 : Value).ownBlock ∧ some k_ ≠ (.slice Ao54 t363.length co54 : Value).ownBlock ∧ some k_ ≠ (.slice Ao58 t369.length co58 : Value).ownBlock ∧ some k_ ≠ (.slice Ao63 y375.length co63 : Value).ownBlock ∧ k_ ≠ gb343 ∧ k_ ≠ gb345)) (Kd.R_types (Kd.R_types (HO389.out) BK343.out (by decide)) BK345.out (by decide)) (fun k_ hk => ⟨hk.1.1.1.1.1.1.1.1.2, ⟨hk.1.1.1.1.1.1.1.2, ⟨hk.1.1.1.1.1.1.2, ⟨hk.1.1.1.1.1.2, ⟨hk.1.2, hk.2⟩⟩⟩⟩⟩))))) (Reps.one (show Kd.FK (Kd.slice 3 (Kd.int .i64)) _ _ t391 [.slice Ao73 t391.length co73] from (Kd.FK_slice_mk (Kd.R_reads' (Kd.R_mono (ok' := (fun k_ => some k_ ≠ (.slice Ao65 x4_24.length co65 : Value).ownBlock ∧ some k_ ≠ (.slice Ao54 t363.length co54 : Value).ownBlock ∧ some k_ ≠ (.slice Ao58 t369.length co58 : Value).ownBlock ∧ some k_ ≠ (.slice Ao63 y375.length co63 : Value).ownBlock ∧ k_ ≠ gb343 ∧ k_ ≠ gb345)) (Kd.R_types (Kd.R_types (HO393.out) BK343.out (by decide)) BK345.out (by decide)) (fun k_ hk => ⟨hk.1.1.1.1.1.1.1.1.2, ⟨hk.1.1.1.1.1.1.1.2, ⟨hk.1.1.1.1.1.1.2, ⟨hk.1.1.1.1.1.2, ⟨hk.1.2, hk.2⟩⟩⟩⟩⟩))).2.1 (Kd.R_F (Kd.R_mono (ok' := (fun k_ => some k_ ≠ (.slice Ao65 x4_24.length co65 : Value).ownBlock ∧ some k_ ≠ (.slice Ao54 t363.length co54 : Value).ownBlock ∧ some k_ ≠ (.slice Ao58 t369.length co58 : Value).ownBlock ∧ some k_ ≠ (.slice Ao63 y375.length co63 : Value).ownBlock ∧ k_ ≠ gb343 ∧ k_ ≠ gb345)) (Kd.R_types (Kd.R_types (HO393.out) BK343.out (by decide)) BK345.out (by decide)) (fun k_ hk => ⟨hk.1.1.1.1.1.1.1.1.2, ⟨hk.1.1.1.1.1.1.1.2, ⟨hk.1.1.1.1.1.1.2, ⟨hk.1.1.1.1.1.2, ⟨hk.1.2, hk.2⟩⟩⟩⟩⟩))))) (Reps.one (show Kd.FK (Kd.slice 3 (Kd.int .i64)) _ _ y381 [.slice Ao68 y381.length co68] from (Kd.FK_slice_mk (Kd.R_reads' (Kd.R_mono (ok' := (fun k_ => some k_ ≠ (.slice Ao65 x4_24.length co65 : Value).ownBlock ∧ some k_ ≠ (.slice Ao54 t363.length co54 : Value).ownBlock ∧ some k_ ≠ (.slice Ao58 t369.length co58 : Value).ownBlock ∧ some k_ ≠ (.slice Ao63 y375.length co63 : Value).ownBlock ∧ k_ ≠ gb343 ∧ k_ ≠ gb345)) (Kd.R_types (Kd.R_types (HO383.out) BK343.out (by decide)) BK345.out (by decide)) (fun k_ hk => ⟨hk.1.1.1.1.1.1, ⟨hk.1.1.1.1.1.2.1, ⟨hk.1.1.1.1.1.2.2.1, ⟨hk.1.1.1.1.1.2.2.2, ⟨hk.1.2, hk.2⟩⟩⟩⟩⟩))).2.1 (Kd.R_F (Kd.R_mono (ok' := (fun k_ => some k_ ≠ (.slice Ao65 x4_24.length co65 : Value).ownBlock ∧ some k_ ≠ (.slice Ao54 t363.length co54 : Value).ownBlock ∧ some k_ ≠ (.slice Ao58 t369.length co58 : Value).ownBlock ∧ some k_ ≠ (.slice Ao63 y375.length co63 : Value).ownBlock ∧ k_ ≠ gb343 ∧ k_ ≠ gb345)) (Kd.R_types (Kd.R_types (HO383.out) BK343.out (by decide)) BK345.out (by decide)) (fun k_ hk => ⟨hk.1.1.1.1.1.1, ⟨hk.1.1.1.1.1.2.1, ⟨hk.1.1.1.1.1.2.2.1, ⟨hk.1.1.1.1.1.2.2.2, ⟨hk.1.2, hk.2⟩⟩⟩⟩⟩))))) (Reps.none _ _)))))); intro v395 w74 ho75 hb hg_ hnew_; clear hg_ hnew_; (first | rw [← Ny394.out] at ho75 | (simp only [Int.reduceToNat] at ho75; rw [← Ny394.out] at ho75)); replace HO_4 := tRb HO_4 hb; replace HO365 := tRb HO365 hb; replace HO371 := tRb HO371 hb; replace HO377 := tRb HO377 hb; have HO396 := tNl ho75 HB; replace BK343 := tBb BK343 hb; replace BK345 := tBb BK345 hb; replace HB := tBs HB hb; clear HO383 HO386 HO389 HO393; clear hb ho75; obtain ⟨Ao76, co76, eo76⟩ := Kd.N_slice HO396.out; subst eo76) | ((with_reducible refine gate_callee (f := 45) rfl ?_); refine goesL_ (some 76) rfl rfl Try.func45 (by kernel_rfl) rfl #[.slice Ao76 y394.length co76] rfl tq ?_; (with_reducible refine (slices_Concat_int_int.calls _ _ y394 t397 _ ?side1 ?side2 A46.out).mono ?_); (case side1 => repeat (first | exact (Kd.N_reads' HO396.out).2.2 | (with_reducible refine Kd.C_alloc ?_ _) | (with_reducible refine Kd.C_drewN ?_ _) | (with_reducible refine Kd.C_drew ?_))); (case side2 => exact (Kd.N_reads' HO396.out).2.1); rintro e w77 ⟨v398, rfl, ho0, hb⟩; have u_v398 := tsv Try.prog v398 ho0; refine ⟨_, rfl, ?_⟩; replace HO396 := Aside0.mk (Kd.N_elder' (tN HO396.out) (Kd.R_base ho0) hb); have HO399 := Aside0.mk (Kd.R_lower (Kd.R_new' (Kd.R_new' (Kd.R_new' (Kd.R_new' ho0 (Kd.R_lt (tR HO_4.out))) (Kd.R_lt (tR HO365.out))) (Kd.R_lt (tR HO371.out))) (Kd.R_lt (tR HO377.out))) (below_size zb)); replace HO_4 := Aside0.mk (Kd.R_elder' (tR HO_4.out) (Kd.R_base ho0) hb); replace HO365 := Aside0.mk (Kd.R_elder' (tR HO365.out) (Kd.R_base ho0) hb); replace HO371 := Aside0.mk (Kd.R_elder' (tR HO371.out) (Kd.R_base ho0) hb); replace HO377 := Aside0.mk (Kd.R_elder' (tR HO377.out) (Kd.R_base ho0) hb); replace BK343 := tBb BK343 hb; replace BK345 := tBb BK345 hb; replace HB := tBs HB hb; (try clear hb); (try clear hb2); (try clear hk); (try clear hi); (try clear ho0)))
             go_ret
             exact ⟨_, by first | rfl | (simp [errW_none, errW_some] <;> rfl) | (simp [*, errW_none, errW_some] <;> rfl), tRm HO399.out, zb⟩
            ·rw [if_neg c41] at H
             exact absurd H (by simp)
           ·rw [if_neg c40] at H
            exact absurd H (by simp)
          ·rw [if_neg c39] at H
           exact absurd H (by simp)
         ·rw [if_neg c37] at H
          exact absurd H (by simp)
 ·rw [if_neg c2] at H
  exact absurd H (by simp)

end Go.Proofs.Ythoioccmnphfgaa.G

namespace Go.Proofs.Ythoioccmnphfgaa.G
open Go.RowKit Go.Proofs.YthoioccmnphfgaaW.PrintWords Go.Proofs.YthoioccmnphfgaaW.PrintLast Go.Proofs.YthoioccmnphfgaaW.PrintMore
attribute [local go_sem] max2_int min2_int max_two min_two max_three min_three max_four min_four   -- for this text's walks alone
set_option linter.unusedVariables false
set_option linter.unusedSimpArgs false

def impl_sizeOf.l0 : Nat → Int → List (S46) → Int → Int → Option (Int)
 | 0, _, _, _, _ => none
 | k + 1, x3, x6, x7, x8 => if x8 < x7 then (if 0 ≤ x8 then (if x8 < (x6.length : Int) then ((impl_Batch_bytesOf.f k ((rd_T46 x6 x8).f0) ((rd_T46 x6 x8).f1) ((rd_T46 x6 x8).f2) ((rd_T46 x6 x8).f3) ((rd_T46 x6 x8).f4) ((rd_T46 x6 x8).f5)).bind fun t402 => (impl_sizeOf.l0 k (wrap64 (x3 + (t402.length : Int))) x6 x7 (wrap64 (x8 + 1)))) else (none)) else (none)) else (some x3)
def impl_sizeOf.f (k : Nat) (l0 : List (S46)) : Option (Int) := impl_sizeOf.l0 k 0 l0 (l0.length : Int) 0
set_option maxHeartbeats 8000000 in
set_option maxRecDepth 100000 in
theorem impl_sizeOf.calls (k : Nat) (A0 : Option Addr) (c0 : Nat) (l0 : List (S46)) (r : Int) (w : World) (hr0 : Kd.C k46 w A0 l0.length l0) (hc0 : l0.length ≤ c0) (h : impl_sizeOf.f k l0 = some r) :
  Calls Try.prog 22 #[.slice A0 l0.length c0] w fun e w' => e = .returned (.int .i64 r) ∧ Below w.heap.size w w' := by
 have hu46 := Try.underlying46
 have HR0 := Aside0.mk hr0
 have HC0 := Aside0.mk hc0
 clear hr0 hc0
 have HB := Aside0.mk (Below.refl w.heap.size w)
 have H : (impl_sizeOf.l0 k 0 l0 (l0.length : Int) 0) = some r := h
 clear h
 have H' := Aside0.mk H
 clear H
 go_enter Try.func22, Try.ntmps22
 go_wp2
 go_loopg [3, 8] k (fun kq v3 v8 w' => ∃ (x3_1 : Int) (x8_1 : Int), v3 = .int .i64 x3_1 ∧ v8 = .int .i64 x8_1 ∧ Aside0 (impl_sizeOf.l0 kq x3_1 l0 (l0.length : Int) x8_1 = some r) ∧ Aside0 (kq ≤ k) ∧ Aside0 (Below w.heap.size w w'))
 case atStart => exact ⟨(0), (0), tr, tr, H', ⟨Nat.le_refl _⟩, ⟨zb⟩⟩
 case round =>
  clear H'
  obtain ⟨x3_1, x8_1, rfl, rfl, HA, HK1, HB⟩ := hrel
  cases gk with
  | zero => exact absurd HA.out (by simp [impl_sizeOf.l0])
  | succ k1 =>
   have H := HA.out
   clear HA
   simp only [impl_sizeOf.l0] at H
   by_cases c2 : x8_1 < (l0.length : Int)
   ·rw [if_pos c2] at H
    have c2b0 : decide (x8_1 < (l0.length : Int)) = true := decide_eq_true c2
    clear c2
    by_cases c3 : 0 ≤ x8_1
    ·rw [if_pos c3] at H
     have c3b0 : decide (0 ≤ x8_1) = true := decide_eq_true c3
     clear c3
     by_cases c4 : x8_1 < (l0.length : Int)
     ·rw [if_pos c4] at H
      have c4b0 : decide (x8_1 < (l0.length : Int)) = true := decide_eq_true c4
      clear c4
      replace H := tbe H
      obtain ⟨t402, A5, H⟩ := H
      have H' := Aside0.mk H
      clear H
      have p400 : 0 ≤ (x8_1 : Int) := td
      have q400 : x8_1 < (l0.length : Int) := td
      obtain ⟨ad400, A400_5, c400_5, e400, hx400_0, hx400_1, hx400_2, hx400_3, hx400_4, hx400_5, hl400_5, hi400_5⟩ := at_T46 HR0.out x8_1 p400 q400
      cases e400
      replace hx400_0 := tcl HB hx400_0
      replace hx400_1 := tcl HB hx400_1
      replace hx400_2 := tcl HB hx400_2
      replace hx400_3 := tcl HB hx400_3
      replace hx400_4 := tcl HB hx400_4
      replace hx400_5 := tcl HB hx400_5
      have HR400_5 := Aside0.mk hi400_5
      have HC400_5 := Aside0.mk hl400_5
      clear hi400_5 hl400_5
      replace p400 := eq_true p400
      replace q400 := eq_true q400
      go_wp2_with (first | ((with_reducible refine gate_dst (N := 5) rfl ?_); refine box_event ?hg (N := 5) ?hd (cs := #[.bool false, .bool false, .int .i64 0, .int .i64 0, .int .i64 0, .slice none 0 0]) (t := 46) ?hr ?_; (case hd => rfl); (case hg => rfl); (case hr => first | (go_simp; done) | (go_simp; rfl)); intro gb401 hg w6 hbox hb; have BK401 := Aside0.mk (hbox); have GW401 := tge HB hg; have GE401 := tge HB hg; replace HB := tBs HB hb; clear hb hbox hg; obtain ⟨hcz7_0, hcz7_1, hcz7_2, hcz7_3, hcz7_4, hcz7_5, hfz7_0, hfz7_1, hfz7_2, hfz7_3, hfz7_4, hfz7_5⟩ := cells6 BK401.out) | ((with_reducible refine gate_callee (f := 25) rfl ?_); refine goesL_ (some 14) rfl rfl Try.func25 (by kernel_rfl) rfl #[.agg #[.bool ((rd_T46 l0 x8_1).f0), .bool ((rd_T46 l0 x8_1).f1), .int .i64 ((rd_T46 l0 x8_1).f2), .int .i64 ((rd_T46 l0 x8_1).f3), .int .i64 ((rd_T46 l0 x8_1).f4), .slice A400_5 ((rd_T46 l0 x8_1).f5).length c400_5]] rfl tq ?_; (with_reducible refine (impl_Batch_bytesOf.calls k1 ((rd_T46 l0 x8_1).f0) ((rd_T46 l0 x8_1).f1) ((rd_T46 l0 x8_1).f2) ((rd_T46 l0 x8_1).f3) ((rd_T46 l0 x8_1).f4) _ _ ((rd_T46 l0 x8_1).f5) t402 _ ?side1 ?side2 A5.out).mono ?_); (case side1 => exact Kd.C_below HR400_5.out zb); (case side2 => exact HC400_5.out); rintro e w8 ⟨v403, rfl, ho0, hb⟩; have u_v403 := tsv Try.prog v403 ho0; refine ⟨_, rfl, ?_⟩; have HO404 := tRl ho0 HB; replace BK401 := tBp (o' := .cells #[.bool ((rd_T46 l0 x8_1).f0), .bool ((rd_T46 l0 x8_1).f1), .int .i64 ((rd_T46 l0 x8_1).f2), .int .i64 ((rd_T46 l0 x8_1).f3), .int .i64 ((rd_T46 l0 x8_1).f4), .slice A400_5 ((rd_T46 l0 x8_1).f5).length c400_5] 46 (0, 0)) BK401 hb; replace HB := tBs HB hb; (try clear hb); (try clear hb2); (try clear hk); (try clear hi); (try clear ho0); obtain ⟨Ao9, co9, eo9⟩ := Kd.R_slice HO404.out; subst eo9))
      go_roundg k1
      case measure => have := HK1.out; omega
      case rel => exact ⟨(wrap64 (x3_1 + (t402.length : Int))), (wrap64 (x8_1 + 1)), tr, tr, H', ⟨by have := HK1.out; omega⟩, ⟨zb⟩⟩
     ·rw [if_neg c4] at H
      exact absurd H (by simp)
    ·rw [if_neg c3] at H
     exact absurd H (by simp)
   ·rw [if_neg c2] at H
    have c2b0 : decide (x8_1 < (l0.length : Int)) = false := decide_eq_false c2
    clear c2
    obtain rfl := Option.some.inj H
    go_wp2
    go_ret
    exact ⟨by first | rfl | (simp [errW_none, errW_some] <;> rfl) | (simp [*, errW_none, errW_some] <;> rfl), zb⟩

def impl_LogSize.f (k : Nat) (l0 : List (S46)) : Option (Int) := (impl_LogValid.f k l0).bind fun t405 => (if t405 = true then ((impl_sizeOf.f k l0).bind fun t406 => (some t406)) else (some (-1)))
set_option maxHeartbeats 8000000 in
set_option maxRecDepth 100000 in
theorem impl_LogSize.calls (k : Nat) (A0 : Option Addr) (c0 : Nat) (l0 : List (S46)) (r : Int) (w : World) (hr0 : Kd.C k46 w A0 l0.length l0) (hc0 : l0.length ≤ c0) (h : impl_LogSize.f k l0 = some r) :
  Calls Try.prog 10 #[.slice A0 l0.length c0] w fun e w' => e = .returned (.int .i64 r) ∧ Below w.heap.size w w' := by
 have HR0 := Aside0.mk hr0
 have HC0 := Aside0.mk hc0
 clear hr0 hc0
 have HB := Aside0.mk (Below.refl w.heap.size w)
 have H : ((impl_LogValid.f k l0).bind fun t405 => (if t405 = true then ((impl_sizeOf.f k l0).bind fun t406 => (some t406)) else (some (-1)))) = some r := h
 clear h
 replace H := tbe H
 obtain ⟨t405, A2, H⟩ := H
 by_cases c3 : t405 = true
 ·subst c3
  rw [if_pos rfl] at H
  replace H := tbe H
  obtain ⟨t406, A4, H⟩ := H
  obtain rfl := Option.some.inj H
  go_enter Try.func10, Try.ntmps10
  go_wp2_with (first | ((with_reducible refine gate_callee (f := 21) rfl ?_); refine goesL_ (some 4) rfl rfl Try.func21 (by kernel_rfl) rfl #[.slice A0 l0.length c0] rfl tq ?_; (with_reducible refine (impl_LogValid.calls k _ _ l0 true _ ?side1 ?side2 A2.out).mono ?_); (case side1 => exact tC HR0.out); (case side2 => exact HC0.out); rintro e w5 ⟨rfl, hb⟩; refine ⟨_, rfl, ?_⟩; replace HB := tBs HB hb; (try clear hb); (try clear hb2); (try clear hk); (try clear hi)) | ((with_reducible refine gate_callee (f := 22) rfl ?_); refine goesL_ (some 7) rfl rfl Try.func22 (by kernel_rfl) rfl #[.slice A0 l0.length c0] rfl tq ?_; (with_reducible refine (impl_sizeOf.calls k _ _ l0 t406 _ ?side1 ?side2 A4.out).mono ?_); (case side1 => exact tC (Kd.C_below HR0.out HB.out)); (case side2 => exact HC0.out); rintro e w6 ⟨rfl, hb⟩; refine ⟨_, rfl, ?_⟩; replace HB := tBs HB hb; (try clear hb); (try clear hb2); (try clear hk); (try clear hi)))
  go_ret
  exact ⟨by first | rfl | (simp [errW_none, errW_some] <;> rfl) | (simp [*, errW_none, errW_some] <;> rfl), zb⟩
 ·replace c3 := Bool.eq_false_iff.mpr c3
  subst c3
  rw [if_neg (show ¬ (false = true) by decide)] at H
  obtain rfl := Option.some.inj H
  go_enter Try.func10, Try.ntmps10
  go_wp2_with (first | ((with_reducible refine gate_callee (f := 21) rfl ?_); refine goesL_ (some 4) rfl rfl Try.func21 (by kernel_rfl) rfl #[.slice A0 l0.length c0] rfl tq ?_; (with_reducible refine (impl_LogValid.calls k _ _ l0 false _ ?side1 ?side2 A2.out).mono ?_); (case side1 => exact tC HR0.out); (case side2 => exact HC0.out); rintro e w7 ⟨rfl, hb⟩; refine ⟨_, rfl, ?_⟩; replace HB := tBs HB hb; (try clear hb); (try clear hb2); (try clear hk); (try clear hi)))
  go_ret
  exact ⟨by first | rfl | (simp [errW_none, errW_some] <;> rfl) | (simp [*, errW_none, errW_some] <;> rfl), zb⟩

end Go.Proofs.Ythoioccmnphfgaa.G

namespace Go.Proofs.Ythoioccmnphfgaa.G
open Go.RowKit Go.Proofs.YthoioccmnphfgaaW.PrintWords Go.Proofs.YthoioccmnphfgaaW.PrintLast Go.Proofs.YthoioccmnphfgaaW.PrintMore Go.Proofs.Ythoioccmnphfgaa.Pu
set_option linter.unusedVariables false
set_option linter.unusedSimpArgs false
/-- The cells that hold a record. -/
def CellsR (W : World) (p : Addr) (r : S63) (A3 : Option Addr) (c3 : Nat) (A5 : Option Addr) (c5 : Nat) : Prop :=
  W.cell? p = some (.int .i64 r.f0) ∧ W.cell? ⟨p.block, p.off + 1, none⟩ = some (.int .i64 r.f1) ∧ W.cell? ⟨p.block, p.off + 2, none⟩ = some (.bool r.f2) ∧ W.cell? ⟨p.block, p.off + 3, none⟩ = some (.slice A3 r.f3.length c3) ∧ W.cell? ⟨p.block, p.off + 4, none⟩ = some (.bool r.f4) ∧ W.cell? ⟨p.block, p.off + 5, none⟩ = some (.slice A5 r.f5.length c5)
theorem CellsR.below {W W' : World} {p : Addr} {r : S63} {A3 A5 : Option Addr} {c3 c5 : Nat} (h : CellsR W p r A3 c3 A5 c5) (hb : Below W.heap.size W W') : CellsR W' p r A3 c3 A5 c5 := ⟨pw_cell_below hb h.1, pw_cell_below hb h.2.1, pw_cell_below hb h.2.2.1, pw_cell_below hb h.2.2.2.1, pw_cell_below hb h.2.2.2.2.1, pw_cell_below hb h.2.2.2.2.2⟩
theorem in_q (a b c : Int) (w : World) : Calls Try.prog 30 #[.int .i64 a, .int .i64 b, .int .i64 c] w fun e w' => e = .returned (.bool (decide (b ≤ a) && decide (a ≤ c))) ∧ ∃ n, w' = w.drewN n :=
  (spec_l6In.calls a b c _ w (in_ev a b c)).mono fun e w' h => ⟨h.1, h.2.out⟩
set_option maxRecDepth 100000 in
set_option maxHeartbeats 4000000 in
theorem specrecs_q (l : List S63) (A : Option Addr) (c : Nat) (w : World) (hr : Kd.C k63 w A l.length l) (hc : l.length ≤ c) :
    Calls Try.prog 50 #[.slice A l.length c] w fun e w' => e = .returned (.bool (recsInc l && lenOk l)) ∧ Below w.heap.size w w' := by
  have hl := hr.2.1
  have HR := Aside0.mk hr
  clear hr
  go_enter Try.func50, Try.ntmps50
  go_wp2
  go_loopw [3] (fun v3 wr => ∃ i : Nat, v3 = .int .i64 i ∧ i ≤ l.length ∧ (∀ j, j < i → recStep l j = true) ∧ Below w.heap.size w wr) (fun v3 _ => l.length - (intOf v3).toNat)
  case atStart => exact ⟨0, rfl, Nat.zero_le _, fun j hj => absurd hj (Nat.not_lt_zero j), Below.refl _ _⟩
  case round =>
    obtain ⟨i, rfl, hi, hall, hB1⟩ := hrel
    by_cases hlt : i < l.length
    · obtain ⟨ad, A3, c3, A5, c5, rfl, e0, e1, e2, e3, e4, e5, l3, g3, l5, g5⟩ := at_T63 (Kd.C_below HR.out hB1) (i : Int) (by omega) (by omega)
      rw [show ((i : Int)).toNat = i from rfl] at e0 e1 e2 e3 e4 e5
      have hrec : recStep l i = (recOk (rd_T63 l (i : Int)) && (decide (i = 0) || decide ((rd_T63 l ((i : Int) - 1)).f0 < (rd_T63 l (i : Int)).f0))) := rfl
      generalize rd_T63 l (i : Int) = ri at *
      have ci : CellsR wr (ad.add (i * 6)) ri A3 c3 A5 c5 := ⟨e0, e1, e2, e3, e4, e5⟩
      clear e0 e1 e2 e3 e4 e5
      go_wp2
      obtain ⟨kR, hkR⟩ := (sRecordValid_ev ri ⟨g3.2.1, g5.2.1⟩).rounds
      have hrc : ∀ (W2 : World), Below wr.heap.size wr W2 → Calls Try.prog 69 #[.agg #[.int .i64 ri.f0, .int .i64 ri.f1, .bool ri.f2, .slice A3 ri.f3.length c3, .bool ri.f4, .slice A5 ri.f5.length c5]] W2 fun e w' => e = .returned (.bool (recOk ri)) ∧ Below W2.heap.size W2 w' := fun (W2 : World) (hb : Below wr.heap.size wr W2) => spec_RecordValid.calls kR ri.f0 ri.f1 ri.f2 A3 c3 ri.f3 ri.f4 A5 c5 ri.f5 _ W2 (Kd.C_below g3 hb) l3 (Kd.C_below g5 hb) l5 hkR
      have HRC := Aside0.mk hrc
      clear hrc
      have kS : ∀ w' : World, Below wr.drew.heap.size wr.drew w' → CellsR w' (ad.add (i * 6)) ri A3 c3 A5 c5 ∧ Below wr.heap.size wr w' := fun w' h => ⟨ci.below (below_step (below_drew (Below.refl _ wr)) h), below_step (below_drew (Below.refl _ wr)) h⟩
      have hil : (i : Int) < (l.length : Int) := by omega
      rcases hok : recOk ri with _ | _ <;> rw [hok] at hkR HRC
      · have hno := Aside0.mk (incs_no hlt (hrec.trans (by rw [hok]; rfl)))
        refine r_begin (fun w' => CellsR w' (ad.add (i * 6)) ri A3 c3 A5 c5 ∧ Below wr.heap.size wr w') 24 (by kernel_rfl) rfl (kS _ (Below.refl _ _)) (fun hH => ?_)
        repeat (first | (refine r_skip (by kernel_rfl) (by rfl) (fun _ _ _ h => h) hH ?_; simp only [Act.put, List.setIfInBounds_toArray, List.set_cons_zero, List.set_cons_succ, Nat.reduceAdd]) | (refine r_go (v := ?_) (by kernel_rfl) (by rfl) (fun _ _ _ h => h) hH ?_ ?_; rotate_left; (focus (intro w hS; obtain ⟨⟨e0, e1, e2, e3, e4, e5⟩, e6⟩ := hS; go_simp; first | done | with_reducible rfl)); simp only [Act.put, List.setIfInBounds_toArray, List.set_cons_zero, List.set_cons_succ, Nat.reduceAdd]) | (fail "x"))
        refine r_one (by kernel_rfl) (by rfl) (fun K hK => ?_)
        go_simp
        go_at_call 69
        refine (HRC.out _ hH.2).mono ?_
        rintro e w2 ⟨rfl, hb⟩
        go_wp2_with fail
        refine hK.out _ _ (kS _ hb) (fun hH => ?_)
        clear hK K
        simp only [Act.put, List.setIfInBounds_toArray, List.set_cons_zero, List.set_cons_succ, Nat.reduceAdd]
        repeat (first | (refine r_skip (by kernel_rfl) (by rfl) (fun _ _ _ h => h) hH ?_; simp only [Act.put, List.setIfInBounds_toArray, List.set_cons_zero, List.set_cons_succ, Nat.reduceAdd]) | (refine r_go (v := ?_) (by kernel_rfl) (by rfl) (fun _ _ _ h => h) hH ?_ ?_; rotate_left; (focus (intro w hS; obtain ⟨⟨e0, e1, e2, e3, e4, e5⟩, e6⟩ := hS; go_simp; first | done | with_reducible rfl)); simp only [Act.put, List.setIfInBounds_toArray, List.set_cons_zero, List.set_cons_succ, Nat.reduceAdd]) | (fail "x"))
        refine r_done (by kernel_rfl) ?_
        go_wp2
        go_ret
        exact ⟨by rw [hno.out]; rfl, below_step hB1 hH.2⟩
      · rcases i with _ | j
        · have ez : ad.add (0 * 6) = ad := by go_simp
          rw [ez] at ci
          simp only [ez] at kS
          refine r_begin (fun w' => CellsR w' ad ri A3 c3 A5 c5 ∧ Below wr.heap.size wr w') 24 (by kernel_rfl) rfl (kS _ (Below.refl _ _)) (fun hH => ?_)
          repeat (first | (refine r_skip (by kernel_rfl) (by rfl) (fun _ _ _ h => h) hH ?_; simp only [Act.put, List.setIfInBounds_toArray, List.set_cons_zero, List.set_cons_succ, Nat.reduceAdd]) | (refine r_go (v := ?_) (by kernel_rfl) (by rfl) (fun _ _ _ h => h) hH ?_ ?_; rotate_left; (focus (intro w hS; obtain ⟨⟨e0, e1, e2, e3, e4, e5⟩, e6⟩ := hS; go_simp; first | done | with_reducible rfl)); simp only [Act.put, List.setIfInBounds_toArray, List.set_cons_zero, List.set_cons_succ, Nat.reduceAdd]) | (fail "x"))
          refine r_one (by kernel_rfl) (by rfl) (fun K hK => ?_)
          go_simp
          go_at_call 69
          refine (HRC.out _ hH.2).mono ?_
          rintro e w2 ⟨rfl, hb⟩
          go_wp2_with fail
          refine hK.out _ _ (kS _ hb) (fun hH => ?_)
          clear hK K
          simp only [Act.put, List.setIfInBounds_toArray, List.set_cons_zero, List.set_cons_succ, Nat.reduceAdd]
          repeat (first | (refine r_skip (by kernel_rfl) (by rfl) (fun _ _ _ h => h) hH ?_; simp only [Act.put, List.setIfInBounds_toArray, List.set_cons_zero, List.set_cons_succ, Nat.reduceAdd]) | (refine r_go (v := ?_) (by kernel_rfl) (by rfl) (fun _ _ _ h => h) hH ?_ ?_; rotate_left; (focus (intro w hS; obtain ⟨⟨e0, e1, e2, e3, e4, e5⟩, e6⟩ := hS; go_simp; first | done | with_reducible rfl)); simp only [Act.put, List.setIfInBounds_toArray, List.set_cons_zero, List.set_cons_succ, Nat.reduceAdd]) | (fail "x"))
          refine r_done (by kernel_rfl) ?_
          go_wp2
          go_roundw
          case rel =>
            have hst : ∀ j, j < 0 + 1 → recStep l j = true := by
              intro j hj
              obtain rfl : j = 0 := by omega
              exact hrec.trans (by rw [hok]; rfl)
            first | exact ⟨0 + 1, by simp, hlt, hst, below_step hB1 hH.2⟩ | ((repeat apply Exists.intro); refine ⟨⟨0 + 1, ?_, hlt, hst, below_step hB1 hH.2⟩, by first | rfl | (repeat' apply And.intro) <;> rfl⟩; simp)
          case measure => simp [intOf]; omega
        · obtain ⟨ad2, _, _, _, _, hq, f0, _⟩ := at_T63 (Kd.C_below HR.out hB1) (j : Int) (by omega) (by omega)
          cases hq
          rw [show ((j : Int)).toNat = j from rfl] at f0
          have hrec2 : recStep l (j + 1) = (recOk ri && (decide (j + 1 = 0) || decide ((rd_T63 l (j : Int)).f0 < ri.f0))) := by
            rw [hrec, show ((j + 1 : Nat) : Int) - 1 = (j : Int) by omega]
          generalize (rd_T63 l (j : Int)).f0 = pj at f0 hrec2
          have hwj : IntKind.i64.wrap (j : Int) = (j : Int) := by rw [i64_w]; unfold wrap64; omega
          have hjl : (j : Int) < (l.length : Int) := by omega
          have hjl1 : (j : Int) + 1 < (l.length : Int) := by omega
          have hj0 : (0 : Int) ≤ (j : Int) + 1 := by omega
          have htn : ((j : Int) + 1).toNat = j + 1 := by omega
          have kS2 : ∀ w' : World, Below wr.drew.heap.size wr.drew w' → (CellsR w' (ad.add ((j + 1) * 6)) ri A3 c3 A5 c5 ∧ Below wr.heap.size wr w') ∧ w'.cell? (ad.add (j * 6)) = some (.int .i64 pj) := fun w' h => ⟨kS w' h, pw_cell_below (below_step (below_drew (Below.refl _ wr)) h) f0⟩
          have hno := Aside0.mk hrec2
          clear hrec hrec2
          refine r_begin (fun w' => (CellsR w' (ad.add ((j + 1) * 6)) ri A3 c3 A5 c5 ∧ Below wr.heap.size wr w') ∧ w'.cell? (ad.add (j * 6)) = some (.int .i64 pj)) 24 (by kernel_rfl) rfl (kS2 _ (Below.refl _ _)) (fun hH => ?_)
          repeat (first | (refine r_skip (by kernel_rfl) (by rfl) (fun _ _ _ h => h) hH ?_; simp only [Act.put, List.setIfInBounds_toArray, List.set_cons_zero, List.set_cons_succ, Nat.reduceAdd]) | (refine r_go (v := ?_) (by kernel_rfl) (by rfl) (fun _ _ _ h => h) hH ?_ ?_; rotate_left; (focus (intro w hS; obtain ⟨⟨⟨e0, e1, e2, e3, e4, e5⟩, e6⟩, e7⟩ := hS; go_simp; first | done | with_reducible rfl)); simp only [Act.put, List.setIfInBounds_toArray, List.set_cons_zero, List.set_cons_succ, Nat.reduceAdd]) | (fail "x"))
          refine r_one (by kernel_rfl) (by rfl) (fun K hK => ?_)
          go_simp
          go_at_call 69
          refine (HRC.out _ hH.1.2).mono ?_
          rintro e w2 ⟨rfl, hb⟩
          go_wp2_with fail
          refine hK.out _ _ (kS2 _ hb) (fun hH => ?_)
          clear hK K
          simp only [Act.put, List.setIfInBounds_toArray, List.set_cons_zero, List.set_cons_succ, Nat.reduceAdd]
          repeat (first | (refine r_skip (by kernel_rfl) (by rfl) (fun _ _ _ h => h) hH ?_; simp only [Act.put, List.setIfInBounds_toArray, List.set_cons_zero, List.set_cons_succ, Nat.reduceAdd]) | (refine r_go (v := ?_) (by kernel_rfl) (by rfl) (fun _ _ _ h => h) hH ?_ ?_; rotate_left; (focus (intro w hS; obtain ⟨⟨⟨e0, e1, e2, e3, e4, e5⟩, e6⟩, e7⟩ := hS; go_simp; first | done | with_reducible rfl)); simp only [Act.put, List.setIfInBounds_toArray, List.set_cons_zero, List.set_cons_succ, Nat.reduceAdd]) | (fail "x"))
          refine r_done (by kernel_rfl) ?_
          have hBw := below_step hB1 hH.1.2
          by_cases hlt2 : pj < ri.f0
          · have hst : ∀ j', j' < j + 1 + 1 → recStep l j' = true := by
              intro j' hj
              by_cases h' : j' < j + 1
              · exact hall j' h'
              · obtain rfl : j' = j + 1 := by omega
                rw [hno.out, hok, decide_eq_true hlt2, Bool.or_true]; rfl
            have hng : ¬ ri.f0 ≤ pj := by omega
            go_wp2
            go_roundw
            case rel => first | exact ⟨j + 1 + 1, by simp, hlt, hst, hBw⟩ | ((repeat apply Exists.intro); refine ⟨⟨j + 1 + 1, ?_, hlt, hst, hBw⟩, by first | rfl | (repeat' apply And.intro) <;> rfl⟩; simp)
            case measure => simp [intOf]; omega
          · have hn2 := Aside0.mk (incs_no hlt (hno.out.trans (by rw [hok, decide_eq_false hlt2, decide_eq_false (show ¬ j + 1 = 0 by omega)]; rfl)))
            have hng : ri.f0 ≤ pj := by omega
            go_wp2
            go_ret
            exact ⟨by rw [hn2.out]; rfl, hBw⟩
    · obtain rfl : i = l.length := by omega
      go_wp2_with (go_at_call 30; refine (in_q _ _ _ _).mono ?_; rintro e w' ⟨rfl, ⟨n, rfl⟩⟩)
      go_ret
      exact ⟨by rw [incs_of hall]; rfl, pw_below_drewN hB1 _⟩
def batTail (b : S46) : Bool := if b.f2 = 255 then decide (b.f3 = 0) && (decide (b.f4 = 0) && !b.f1) else (!b.f1 || decide ((b.f5.length : Int) = 1))
theorem batOk_spec (b : S46) : batOk b = ((recsInc b.f5 && lenOk b.f5) && ((decide (0 ≤ b.f2) && decide (b.f2 ≤ 255)) && ((decide (0 ≤ b.f3) && decide (b.f3 ≤ 99)) && ((decide (0 ≤ b.f4) && decide (b.f4 ≤ 9999)) && batTail b)))) := by
  unfold batOk headOk batTail
  by_cases h : b.f2 = 255
  · rw [if_pos h, if_pos h, h]
    cases recsInc b.f5
    · simp
    · rw [Bool.eq_iff_iff]
      simp only [lenOk, Bool.and_eq_true, Bool.or_eq_true, decide_eq_true_eq, Bool.not_eq_true']
      constructor
      · rintro ⟨⟨h3, h4, h1⟩, hl, hm, _⟩
        exact ⟨⟨trivial, hl⟩, ⟨by omega, by omega⟩, ⟨by omega, by omega⟩, ⟨by omega, by omega⟩, h3, h4, h1⟩
      · rintro ⟨⟨_, hl⟩, _, _, _, h3, h4, h1⟩
        exact ⟨⟨h3, h4, h1⟩, hl, .inl h1, trivial⟩
  · rw [if_neg h, if_neg h]
    rw [Bool.eq_iff_iff]
    simp only [Bool.and_eq_true, decide_eq_true_eq]
    constructor
    · rintro ⟨⟨h2, h3, h4⟩, hl, hm, hr⟩
      exact ⟨⟨hr, hl⟩, ⟨by omega, by omega⟩, h3, h4, hm⟩
    · rintro ⟨⟨hr, hl⟩, h2, h3, h4, hm⟩
      exact ⟨⟨⟨by omega, by omega⟩, h3, h4⟩, hl, hm, hr⟩
theorem sb_no {b2 b3 b4 : Int} {x : Bool} (h : ¬(0 ≤ b2 ∧ b2 ≤ 255) ∨ ¬(0 ≤ b3 ∧ b3 ≤ 99) ∨ ((!decide (0 ≤ b4)) = true ∨ (!decide (b4 ≤ 9999)) = true)) : Ending.returned (.bool false) = .returned (.bool (true && ((decide (0 ≤ b2) && decide (b2 ≤ 255)) && ((decide (0 ≤ b3) && decide (b3 ≤ 99)) && ((decide (0 ≤ b4) && decide (b4 ≤ 9999)) && x))))) := by
  congr 2
  grind
theorem sb_t {b2 b3 b4 : Int} {x y : Bool} (h2 : 0 ≤ b2 ∧ b2 ≤ 255) (h3 : 0 ≤ b3 ∧ b3 ≤ 99) (h4 : (!decide (0 ≤ b4)) = false ∧ (!decide (b4 ≤ 9999)) = false) (hx : x = y) : Ending.returned (.bool y) = .returned (.bool (true && ((decide (0 ≤ b2) && decide (b2 ≤ 255)) && ((decide (0 ≤ b3) && decide (b3 ≤ 99)) && ((decide (0 ≤ b4) && decide (b4 ≤ 9999)) && x))))) := by
  subst hx
  congr 2
  grind
section
variable {b0 b1 : Bool} {b2 b3 b4 : Int} {l : List S63}
theorem tl1 (h : (b2 == 255) = true) (h3 : b3 = 0) (h4 : b4 = 0) : batTail ⟨b0, b1, b2, b3, b4, l⟩ = !b1 := by unfold batTail; grind
theorem tl2 (h : (b2 == 255) = true) (h3 : b3 = 0) (h4 : ¬ b4 = 0) : batTail ⟨b0, b1, b2, b3, b4, l⟩ = false := by unfold batTail; grind
theorem tl3 (h : (b2 == 255) = true) (h3 : ¬ b3 = 0) : batTail ⟨b0, b1, b2, b3, b4, l⟩ = false := by unfold batTail; grind
theorem tl4 (h : (b2 == 255) = false) (h1 : b1 = true) : batTail ⟨b0, b1, b2, b3, b4, l⟩ = ((l.length : Int) == 1) := by unfold batTail; grind
theorem tl5 (h : (b2 == 255) = false) (h1 : ¬ b1 = true) : batTail ⟨b0, b1, b2, b3, b4, l⟩ = true := by unfold batTail; grind
end
set_option maxRecDepth 100000 in
set_option maxHeartbeats 4000000 in
theorem specbat_q (b : S46) (A : Option Addr) (c : Nat) (w : World) (hr : Kd.C k63 w A b.f5.length b.f5) (hc : b.f5.length ≤ c) :
    Calls Try.prog 35 #[.agg #[.bool b.f0, .bool b.f1, .int .i64 b.f2, .int .i64 b.f3, .int .i64 b.f4, .slice A b.f5.length c]] w fun e w' => e = .returned (.bool (batOk b)) ∧ Below w.heap.size w w' := by
  rw [batOk_spec]
  obtain ⟨b0, b1, b2, b3, b4, l⟩ := b
  simp only at hr hc ⊢
  have hl := hr.2.1
  have HL := Aside0.mk (fun (W2 : World) (hb : Below w.heap.size w W2) => specrecs_q l A c W2 (Kd.C_below hr hb) hc)
  clear hr
  rcases hok : (recsInc l && lenOk l) with _ | _ <;> rw [hok] at HL
  · go_enter Try.func35, Try.ntmps35
    go_wp2_with (go_at_call 50; refine (HL.out _ (below_alloc (Below.refl _ _) _)).mono ?_; rintro e w1 ⟨rfl, hb⟩)
    go_ret
    exact ⟨rfl, below_step (below_alloc (Below.refl _ _) _) hb⟩
  · go_enter Try.func35, Try.ntmps35
    go_wp2_with (first | (go_at_call 30; refine (in_q _ _ _ _).mono ?_; rintro e w' ⟨rfl, ⟨n, rfl⟩⟩) | (go_at_call 50; refine (HL.out _ (below_alloc (Below.refl _ _) _)).mono ?_; rintro e w1 ⟨rfl, hb⟩; have hB := below_step (below_alloc (Below.refl _ _) _) hb; have hw := blk_below (heap_alloc_new w _) hb; have q1 := blk_cell hw 1; have q2 := blk_cell hw 2; have q3 := blk_cell hw 3; have q4 := blk_cell hw 4; have q5 := blk_cell hw 5; clear hb hw))
    all_goals (go_ret; exact ⟨by first | exact sb_no (.inl ‹_›) | exact sb_no (.inr (.inl ‹_›)) | exact sb_no (.inr (.inr ‹_›)) | exact sb_t ‹_› ‹_› ‹_› (tl1 ‹_› ‹_› ‹_›) | exact sb_t ‹_› ‹_› ‹_› (tl2 ‹_› ‹_› ‹_›) | exact sb_t ‹_› ‹_› ‹_› (tl3 ‹_› ‹_›) | exact sb_t ‹_› ‹_› ‹_› (tl4 ‹_› ‹_›) | exact sb_t ‹_› ‹_› ‹_› (tl5 ‹_› ‹_›), pw_below_drewN hB _⟩)
def spec_BatchValid.f (k : Nat) (a0 : Bool) (a1 : Bool) (a2 a3 a4 : Int) (a5 : List S63) : Option Bool := some (batOk ⟨a0, a1, a2, a3, a4, a5⟩)
theorem spec_BatchValid.calls (k : Nat) (a0_0 : Bool) (a0_1 : Bool) (a0_2 : Int) (a0_3 : Int) (a0_4 : Int) (A0_5 : Option Addr) (c0_5 : Nat) (l0_5 : List (S63)) (r : Bool) (w : World) (hr0_5 : Kd.C k63 w A0_5 l0_5.length l0_5) (hc0_5 : l0_5.length ≤ c0_5) (h : spec_BatchValid.f k a0_0 a0_1 a0_2 a0_3 a0_4 l0_5 = some r) :
    Calls Try.prog 35 #[.agg #[.bool a0_0, .bool a0_1, .int .i64 a0_2, .int .i64 a0_3, .int .i64 a0_4, .slice A0_5 l0_5.length c0_5]] w fun e w' => e = .returned (.bool r) ∧ Below w.heap.size w w' := by
  obtain rfl := Option.some.inj h
  exact specbat_q ⟨a0_0, a0_1, a0_2, a0_3, a0_4, l0_5⟩ A0_5 c0_5 w hr0_5 hc0_5
end Go.Proofs.Ythoioccmnphfgaa.G

namespace Go.Proofs.Ythoioccmnphfgaa.G
open Go.RowKit Go.Proofs.YthoioccmnphfgaaW.PrintWords Go.Proofs.YthoioccmnphfgaaW.PrintLast Go.Proofs.YthoioccmnphfgaaW.PrintMore
attribute [local go_sem] max2_int min2_int max_two min_two max_three min_three max_four min_four   -- for this text's walks alone
set_option linter.unusedVariables false
set_option linter.unusedSimpArgs false

def spec_l12Last.f (a0_0 : Bool) (a0_1 : Bool) (a0_2 : Int) (a0_3 : Int) (a0_4 : Int) (l0_5 : List (S63)) : Option (Int) := if 0 ≤ (wrap64 ((l0_5.length : Int) - 1)) then (if (wrap64 ((l0_5.length : Int) - 1)) < (l0_5.length : Int) then (some ((rd_T63 l0_5 (wrap64 ((l0_5.length : Int) - 1))).f0)) else (none)) else (none)
set_option maxHeartbeats 8000000 in
set_option maxRecDepth 100000 in
theorem spec_l12Last.calls (a0_0 : Bool) (a0_1 : Bool) (a0_2 : Int) (a0_3 : Int) (a0_4 : Int) (A0_5 : Option Addr) (c0_5 : Nat) (l0_5 : List (S63)) (r : Int) (w : World) (hr0_5 : Kd.C k63 w A0_5 l0_5.length l0_5) (hc0_5 : l0_5.length ≤ c0_5) (h : spec_l12Last.f a0_0 a0_1 a0_2 a0_3 a0_4 l0_5 = some r) :
  Calls Try.prog 40 #[.agg #[.bool a0_0, .bool a0_1, .int .i64 a0_2, .int .i64 a0_3, .int .i64 a0_4, .slice A0_5 l0_5.length c0_5]] w fun e w' => e = .returned (.int .i64 r) ∧ Below w.heap.size w w' := by
 have hu46 := Try.underlying46
 have HR0_5 := Aside0.mk hr0_5
 have HC0_5 := Aside0.mk hc0_5
 clear hr0_5 hc0_5
 have HB := Aside0.mk (Below.refl w.heap.size w)
 have H : (if 0 ≤ (wrap64 ((l0_5.length : Int) - 1)) then (if (wrap64 ((l0_5.length : Int) - 1)) < (l0_5.length : Int) then (some ((rd_T63 l0_5 (wrap64 ((l0_5.length : Int) - 1))).f0)) else (none)) else (none)) = some r := h
 clear h
 obtain ⟨ji2, hji2⟩ : ∃ j_ : Int, (wrap64 ((l0_5.length : Int) - 1)) = j_ := ⟨_, rfl⟩
 replace H : (if 0 ≤ (ji2) then (if (ji2) < (l0_5.length : Int) then (some ((rd_T63 l0_5 (ji2)).f0)) else (none)) else (none)) = some r := by first | (rw [hji2] at H; exact H) | (simp only [hji2] at H ⊢; exact H)
 have hji2w : (IntKind.i64.wrap ((l0_5.length : Int) - 1)) = ji2 := (i64_w _).trans hji2
 by_cases c3 : 0 ≤ (ji2)
 ·rw [if_pos c3] at H
  have c3b0 : decide (0 ≤ (ji2)) = true := decide_eq_true c3
  clear c3
  by_cases c4 : (ji2) < (l0_5.length : Int)
  ·rw [if_pos c4] at H
   have c4b0 : decide ((ji2) < (l0_5.length : Int)) = true := decide_eq_true c4
   clear c4
   obtain rfl := Option.some.inj H
   go_enter Try.func40, Try.ntmps40
   go_wp2_with (first | ((with_reducible refine gate_dst (N := 1) rfl ?_); refine box_event ?hg (N := 1) ?hd (cs := #[.bool a0_0, .bool a0_1, .int .i64 a0_2, .int .i64 a0_3, .int .i64 a0_4, .slice A0_5 l0_5.length c0_5]) (t := 46) ?hr ?_; (case hd => rfl); (case hg => rfl); (case hr => first | (go_simp; done) | (go_simp; rfl)); intro gb407 hg w5 hbox hb; have BK407 := Aside0.mk (hbox); have GW407 := tge HB hg; have GE407 := tge HB hg; replace HB := tBs HB hb; clear hb hbox hg; obtain ⟨hcz6_0, hcz6_1, hcz6_2, hcz6_3, hcz6_4, hcz6_5, hfz6_0, hfz6_1, hfz6_2, hfz6_3, hfz6_4, hfz6_5⟩ := cells6 BK407.out; have p408 : 0 ≤ ((ji2) : Int) := td; have q408 : (ji2) < (l0_5.length : Int) := td; obtain ⟨ad408, A408_3, c408_3, A408_5, c408_5, e408, hx408_0, hx408_1, hx408_2, hx408_3, hx408_4, hx408_5, hl408_3, hi408_3, hl408_5, hi408_5⟩ := at_T63 HR0_5.out (ji2) p408 q408; cases e408; replace hx408_0 := tcl HB hx408_0; replace hx408_1 := tcl HB hx408_1; replace hx408_2 := tcl HB hx408_2; replace hx408_3 := tcl HB hx408_3; replace hx408_4 := tcl HB hx408_4; replace hx408_5 := tcl HB hx408_5; have HR408_3 := Aside0.mk hi408_3; have HC408_3 := Aside0.mk hl408_3; clear hi408_3 hl408_3; have HR408_5 := Aside0.mk hi408_5; have HC408_5 := Aside0.mk hl408_5; clear hi408_5 hl408_5; replace p408 := eq_true p408; replace q408 := eq_true q408))
   go_ret
   exact ⟨by first | rfl | (simp [errW_none, errW_some] <;> rfl) | (simp only [← hji2]; first | rfl | (simp [errW_none, errW_some] <;> rfl)) | (simp [*, errW_none, errW_some] <;> rfl), zb⟩
  ·rw [if_neg c4] at H
   exact absurd H (by simp)
 ·rw [if_neg c3] at H
  exact absurd H (by simp)

end Go.Proofs.Ythoioccmnphfgaa.G

namespace Go.Proofs.Ythoioccmnphfgaa.G
open Go.RowKit Go.Proofs.YthoioccmnphfgaaW.PrintWords Go.Proofs.YthoioccmnphfgaaW.PrintLast Go.Proofs.YthoioccmnphfgaaW.PrintMore Go.Proofs.Ythoioccmnphfgaa.Pu
set_option linter.unusedVariables false
set_option linter.unusedSimpArgs false
theorem slast_q (b : S46) (A : Option Addr) (c : Nat) (w : World) (hr : Kd.C k63 w A b.f5.length b.f5) (hc : b.f5.length ≤ c) (hn : 1 ≤ b.f5.length ∧ b.f5.length ≤ 6) : Calls Try.prog 40 #[.agg #[.bool b.f0, .bool b.f1, .int .i64 b.f2, .int .i64 b.f3, .int .i64 b.f4, .slice A b.f5.length c]] w fun e w' => e = .returned (.int .i64 (lastOf b)) ∧ Below w.heap.size w w' :=
  spec_l12Last.calls _ _ _ _ _ A c b.f5 _ w hr hc (by
    unfold spec_l12Last.f lastOf
    simp only [w64 (a := (b.f5.length : Int) - 1) (by omega) (by omega), if_pos (show (0 : Int) ≤ (b.f5.length : Int) - 1 by omega), if_pos (show (b.f5.length : Int) - 1 < (b.f5.length : Int) by omega), if_pos (show (0 : Int) < (b.f5.length : Int) by omega)])
set_option maxRecDepth 100000 in
set_option maxHeartbeats 4000000 in
theorem speclog_q (l : List S46) (A : Option Addr) (c : Nat) (w : World) (hr : Kd.C k46 w A l.length l) (hc : l.length ≤ c) :
    Calls Try.prog 23 #[.slice A l.length c] w fun e w' => e = .returned (.bool (logOk l)) ∧ Below w.heap.size w w' := by
  have hl := hr.2.1
  unfold logOk
  have HR := Aside0.mk hr
  clear hr
  go_enter Try.func23, Try.ntmps23
  go_wp2
  go_loopw [3] (fun v3 wr => ∃ i : Nat, v3 = .int .i64 i ∧ i ≤ l.length ∧ (∀ j, j < i → batStep l j = true) ∧ Below w.heap.size w wr) (fun v3 _ => l.length - (intOf v3).toNat)
  case atStart => exact ⟨0, rfl, Nat.zero_le _, fun j hj => absurd hj (Nat.not_lt_zero j), Below.refl _ _⟩
  case round =>
    obtain ⟨i, rfl, hi, hall, hB1⟩ := hrel
    by_cases hlt : i < l.length
    · obtain ⟨ad, A5, c5, rfl, e0, e1, e2, e3, e4, e5, l5, g5⟩ := at_T46 (Kd.C_below HR.out hB1) (i : Int) (by omega) (by omega)
      rw [show ((i : Int)).toNat = i from rfl] at e0 e1 e2 e3 e4 e5
      have hrec : batStep l i = (batOk (rd_T46 l (i : Int)) && (decide (i = 0) || decide (lastOf (rd_T46 l ((i : Int) - 1)) < firstOf (rd_T46 l (i : Int))))) := rfl
      generalize rd_T46 l (i : Int) = bi at *
      have ci : CellsB wr (ad.add (i * 6)) bi A5 c5 := ⟨e0, e1, e2, e3, e4, e5⟩
      clear e0 e1 e2 e3 e4 e5
      go_wp2
      have HRC := Aside0.mk (fun (W2 : World) (hb : Below wr.heap.size wr W2) => specbat_q bi A5 c5 W2 (Kd.C_below g5 hb) l5)
      have kS : ∀ w' : World, Below wr.drew.heap.size wr.drew w' → CellsB w' (ad.add (i * 6)) bi A5 c5 ∧ Below wr.heap.size wr w' := fun w' h => ⟨ci.below (below_step (below_drew (Below.refl _ wr)) h), below_step (below_drew (Below.refl _ wr)) h⟩
      have hil : (i : Int) < (l.length : Int) := by omega
      rcases hok : batOk bi with _ | _ <;> rw [hok] at HRC
      · have hno := Aside0.mk (logs_no hlt (hrec.trans (by rw [hok]; rfl)))
        refine r_begin (fun w' => CellsB w' (ad.add (i * 6)) bi A5 c5 ∧ Below wr.heap.size wr w') 27 (by kernel_rfl) rfl (kS _ (Below.refl _ _)) (fun hH => ?_)
        repeat (first | (refine r_skip (by kernel_rfl) (by rfl) (fun _ _ _ h => h) hH ?_; simp only [Act.put, List.setIfInBounds_toArray, List.set_cons_zero, List.set_cons_succ, Nat.reduceAdd]) | (refine r_go (v := ?_) (by kernel_rfl) (by rfl) (fun _ _ _ h => h) hH ?_ ?_; rotate_left; (focus (intro w hS; obtain ⟨⟨e0, e1, e2, e3, e4, e5⟩, e6⟩ := hS; go_simp; first | done | with_reducible rfl)); simp only [Act.put, List.setIfInBounds_toArray, List.set_cons_zero, List.set_cons_succ, Nat.reduceAdd]) | (fail "x"))
        refine r_one (by kernel_rfl) (by rfl) (fun K hK => ?_)
        go_simp
        go_at_call 35
        refine (HRC.out _ hH.2).mono ?_
        rintro e w2 ⟨rfl, hb⟩
        go_wp2_with fail
        refine hK.out _ _ (kS _ hb) (fun hH => ?_)
        clear hK K
        simp only [Act.put, List.setIfInBounds_toArray, List.set_cons_zero, List.set_cons_succ, Nat.reduceAdd]
        repeat (first | (refine r_skip (by kernel_rfl) (by rfl) (fun _ _ _ h => h) hH ?_; simp only [Act.put, List.setIfInBounds_toArray, List.set_cons_zero, List.set_cons_succ, Nat.reduceAdd]) | (refine r_go (v := ?_) (by kernel_rfl) (by rfl) (fun _ _ _ h => h) hH ?_ ?_; rotate_left; (focus (intro w hS; obtain ⟨⟨e0, e1, e2, e3, e4, e5⟩, e6⟩ := hS; go_simp; first | done | with_reducible rfl)); simp only [Act.put, List.setIfInBounds_toArray, List.set_cons_zero, List.set_cons_succ, Nat.reduceAdd]) | (fail "x"))
        refine r_done (by kernel_rfl) ?_
        go_wp2
        go_ret
        exact ⟨by rw [hno.out]; rfl, below_step hB1 hH.2⟩
      · rcases i with _ | j
        · have ez : ad.add (0 * 6) = ad := by go_simp
          rw [ez] at ci
          simp only [ez] at kS
          refine r_begin (fun w' => CellsB w' ad bi A5 c5 ∧ Below wr.heap.size wr w') 27 (by kernel_rfl) rfl (kS _ (Below.refl _ _)) (fun hH => ?_)
          repeat (first | (refine r_skip (by kernel_rfl) (by rfl) (fun _ _ _ h => h) hH ?_; simp only [Act.put, List.setIfInBounds_toArray, List.set_cons_zero, List.set_cons_succ, Nat.reduceAdd]) | (refine r_go (v := ?_) (by kernel_rfl) (by rfl) (fun _ _ _ h => h) hH ?_ ?_; rotate_left; (focus (intro w hS; obtain ⟨⟨e0, e1, e2, e3, e4, e5⟩, e6⟩ := hS; go_simp; first | done | with_reducible rfl)); simp only [Act.put, List.setIfInBounds_toArray, List.set_cons_zero, List.set_cons_succ, Nat.reduceAdd]) | (fail "x"))
          refine r_one (by kernel_rfl) (by rfl) (fun K hK => ?_)
          go_simp
          go_at_call 35
          refine (HRC.out _ hH.2).mono ?_
          rintro e w2 ⟨rfl, hb⟩
          go_wp2_with fail
          refine hK.out _ _ (kS _ hb) (fun hH => ?_)
          clear hK K
          simp only [Act.put, List.setIfInBounds_toArray, List.set_cons_zero, List.set_cons_succ, Nat.reduceAdd]
          repeat (first | (refine r_skip (by kernel_rfl) (by rfl) (fun _ _ _ h => h) hH ?_; simp only [Act.put, List.setIfInBounds_toArray, List.set_cons_zero, List.set_cons_succ, Nat.reduceAdd]) | (refine r_go (v := ?_) (by kernel_rfl) (by rfl) (fun _ _ _ h => h) hH ?_ ?_; rotate_left; (focus (intro w hS; obtain ⟨⟨e0, e1, e2, e3, e4, e5⟩, e6⟩ := hS; go_simp; first | done | with_reducible rfl)); simp only [Act.put, List.setIfInBounds_toArray, List.set_cons_zero, List.set_cons_succ, Nat.reduceAdd]) | (fail "x"))
          refine r_done (by kernel_rfl) ?_
          go_wp2
          go_roundw
          case rel =>
            have hst : ∀ j, j < 0 + 1 → batStep l j = true := by
              intro j hj
              obtain rfl : j = 0 := by omega
              exact hrec.trans (by rw [hok]; rfl)
            first | exact ⟨0 + 1, by simp, hlt, hst, below_step hB1 hH.2⟩ | ((repeat apply Exists.intro); refine ⟨⟨0 + 1, ?_, hlt, hst, below_step hB1 hH.2⟩, by first | rfl | (repeat' apply And.intro) <;> rfl⟩; simp)
          case measure => simp [intOf]; omega
        · obtain ⟨ad2, A4, c4, hq, f0, f1, f2, f3, f4, f5, l4, g4⟩ := at_T46 (Kd.C_below HR.out hB1) (j : Int) (by omega) (by omega)
          cases hq
          rw [show ((j : Int)).toNat = j from rfl] at f0 f1 f2 f3 f4 f5
          have hjs := hall j (by omega)
          have hrec2 : batStep l (j + 1) = (batOk bi && (decide (j + 1 = 0) || decide (lastOf (rd_T46 l (j : Int)) < firstOf bi))) := by
            rw [hrec, show ((j + 1 : Nat) : Int) - 1 = (j : Int) by omega]
          unfold batStep at hjs
          have hbj := (Bool.and_eq_true_iff.1 hjs).1
          clear hjs
          generalize rd_T46 l (j : Int) = bj at *
          have hnj := batOk_len hbj
          have hni := batOk_len hok
          have cj : CellsB wr (ad.add (j * 6)) bj A4 c4 := ⟨f0, f1, f2, f3, f4, f5⟩
          obtain ⟨ad5, _, _, _, _, rfl, k0, _⟩ := at_T63 g5 0 (by omega) (by omega)
          change wr.cell? (ad5.add (0 * 6)) = some (.int .i64 (firstOf bi)) at k0
          have ez : ad5.add (0 * 6) = ad5 := by go_simp
          rw [ez] at k0
          have hwj : IntKind.i64.wrap (j : Int) = (j : Int) := by rw [i64_w]; unfold wrap64; omega
          have hjl : (j : Int) < (l.length : Int) := by omega
          have hjl1 : (j : Int) + 1 < (l.length : Int) := by omega
          have hj0 : (0 : Int) ≤ (j : Int) + 1 := by omega
          have htn : ((j : Int) + 1).toNat = j + 1 := by omega
          have hn0 : 0 < bi.f5.length := by omega
          have HL := Aside0.mk (fun (W2 : World) (hb : Below wr.heap.size wr W2) => slast_q bj A4 c4 W2 (Kd.C_below g4 hb) l4 hnj)
          have kS2 : ∀ w' : World, Below wr.heap.size wr w' → CellsB w' (ad.add ((j + 1) * 6)) bi (some ad5) c5 ∧ CellsB w' (ad.add (j * 6)) bj A4 c4 ∧ w'.cell? ad5 = some (.int .i64 (firstOf bi)) ∧ Below wr.heap.size wr w' := fun w' h => ⟨ci.below h, cj.below h, pw_cell_below h k0, h⟩
          have hno := Aside0.mk hrec2
          clear hrec hrec2
          clear f0 f1 f2 f3 f4 f5 kS
          go_region_held3 (fun w' => (w'.cell? (ad.add ((j + 1) * 6)) = some (.bool bi.f0) ∧ w'.cell? ⟨(ad.add ((j + 1) * 6)).block, (ad.add ((j + 1) * 6)).off + 1, none⟩ = some (.bool bi.f1) ∧ w'.cell? ⟨(ad.add ((j + 1) * 6)).block, (ad.add ((j + 1) * 6)).off + 2, none⟩ = some (.int .i64 bi.f2) ∧ w'.cell? ⟨(ad.add ((j + 1) * 6)).block, (ad.add ((j + 1) * 6)).off + 3, none⟩ = some (.int .i64 bi.f3) ∧ w'.cell? ⟨(ad.add ((j + 1) * 6)).block, (ad.add ((j + 1) * 6)).off + 4, none⟩ = some (.int .i64 bi.f4) ∧ w'.cell? ⟨(ad.add ((j + 1) * 6)).block, (ad.add ((j + 1) * 6)).off + 5, none⟩ = some (.slice (some ad5) bi.f5.length c5)) ∧ (w'.cell? (ad.add (j * 6)) = some (.bool bj.f0) ∧ w'.cell? ⟨(ad.add (j * 6)).block, (ad.add (j * 6)).off + 1, none⟩ = some (.bool bj.f1) ∧ w'.cell? ⟨(ad.add (j * 6)).block, (ad.add (j * 6)).off + 2, none⟩ = some (.int .i64 bj.f2) ∧ w'.cell? ⟨(ad.add (j * 6)).block, (ad.add (j * 6)).off + 3, none⟩ = some (.int .i64 bj.f3) ∧ w'.cell? ⟨(ad.add (j * 6)).block, (ad.add (j * 6)).off + 4, none⟩ = some (.int .i64 bj.f4) ∧ w'.cell? ⟨(ad.add (j * 6)).block, (ad.add (j * 6)).off + 5, none⟩ = some (.slice A4 bj.f5.length c4)) ∧ w'.cell? ad5 = some (.int .i64 (firstOf bi)) ∧ Below wr.heap.size wr w') (first | exact kS2 _ (below_drew (Below.refl _ _)) | assumption | exact kS2 _ (below_step (below_drew (Below.refl _ _)) ‹_›) | exact kS2 _ (below_step (by have hq := ‹_ ∧ _ ∧ _ ∧ Below wr.heap.size wr _›; exact hq.2.2.2) ‹_›))
            (first | (go_at_call 35; refine (HRC.out _ (by first | exact below_drew (Below.refl _ _) | exact (‹_ ∧ _ ∧ _ ∧ Below wr.heap.size wr _›).2.2.2)).mono ?_; rintro e w' ⟨rfl, hb⟩) | (go_at_call 40; refine (HL.out _ (by first | exact below_drew (Below.refl _ _) | exact (‹_ ∧ _ ∧ _ ∧ Below wr.heap.size wr _›).2.2.2)).mono ?_; rintro e w' ⟨rfl, hb⟩))
          all_goals
            have hBw := below_step hB1 (‹_ ∧ _ ∧ _ ∧ Below wr.heap.size wr _›).2.2.2
            by_cases hc : lastOf bj < firstOf bi
            · have hst : ∀ j', j' < j + 1 + 1 → batStep l j' = true := by
                intro j' hj
                by_cases h' : j' < j + 1
                · exact hall j' h'
                · obtain rfl : j' = j + 1 := by omega
                  rw [hno.out, hok, decide_eq_true hc, Bool.or_true]; rfl
              have hng : ¬ firstOf bi ≤ lastOf bj := by omega
              go_wp2
              go_roundw
              case rel => first | exact ⟨j + 1 + 1, by simp, hlt, hst, hBw⟩ | ((repeat apply Exists.intro); refine ⟨⟨j + 1 + 1, ?_, hlt, hst, hBw⟩, by first | rfl | (repeat' apply And.intro) <;> rfl⟩; simp)
              case measure => simp [intOf]; omega
            · have hn2 := Aside0.mk (logs_no hlt (hno.out.trans (by rw [hok, decide_eq_false hc, decide_eq_false (show ¬ j + 1 = 0 by omega)]; rfl)))
              have hng : firstOf bi ≤ lastOf bj := by omega
              go_wp2
              go_ret
              exact ⟨by rw [hn2.out]; rfl, hBw⟩
    · obtain rfl : i = l.length := by omega
      go_wp2
      go_ret
      exact ⟨by rw [logs_of hall]; rfl, hB1⟩
def spec_LogValid.f (k : Nat) (a0 : List S46) : Option Bool := some (logOk a0)
theorem spec_LogValid.calls (k : Nat) (A0 : Option Addr) (c0 : Nat) (l0 : List (S46)) (r : Bool) (w : World) (hr0 : Kd.C k46 w A0 l0.length l0) (hc0 : l0.length ≤ c0) (h : spec_LogValid.f k l0 = some r) :
    Calls Try.prog 23 #[.slice A0 l0.length c0] w fun e w' => e = .returned (.bool r) ∧ Below w.heap.size w w' := by
  obtain rfl := Option.some.inj h
  exact speclog_q l0 A0 c0 w hr0 hc0
end Go.Proofs.Ythoioccmnphfgaa.G

