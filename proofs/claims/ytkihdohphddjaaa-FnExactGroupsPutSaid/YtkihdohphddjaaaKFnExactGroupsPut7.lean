/- A text of seat Ytkihdohphddjaaa: what the law FnExactGroupsPut needs of this repo's texts (by pack.py). Not trusted: Lean checks it. -/
import Derived.Test.YtkihdohphddjaaaKFnExactGroupsPut6
import Derived.Deep.Slices
import Derived.SizedLaws
namespace Go.Proofs.Ytkihdohphddjaaa.G
open Go.RowKit Go.Proofs.YtkihdohphddjaaaW.PrintWords Go.Proofs.YtkihdohphddjaaaW.PrintLast Go.Proofs.YtkihdohphddjaaaW.PrintMore
attribute [local go_sem] max2_int min2_int max_two min_two max_three min_three max_four min_four   -- for this text's walks alone
set_option linter.unusedVariables false
set_option linter.unusedSimpArgs false

mutual
def spec_GroupsPut.j0 : Nat → List (S25) → Bool → ByteArray → Int → Option ((List (S25)) × Bool)
 | 0, _, _, _, _ => none
 | k + 1, x0, x16, x112000, x112001 => if x16 = true then (some ((([] : List (S25))), false)) else (spec_GroupsPut.l0 k x0 (([] : List (S25))) false 0 x112000 x112001)
def spec_GroupsPut.l0 : Nat → List (S25) → List (S25) → Bool → Int → ByteArray → Int → Option ((List (S25)) × Bool)
 | 0, _, _, _, _, _, _ => none
 | k + 1, x0, x6, x7, x8, x112000, x112001 => if x8 < (x0.length : Int) then (if x7 = true then (spec_GroupsPut.j2 k x0 x6 x7 x8 false x112000 x112001) else (if 0 ≤ x8 then (spec_GroupsPut.j2 k x0 x6 x7 x8 (!(Op.bytesLess (((rd_T25 x0 x8).f0).toList) x112000.toList)) x112000 x112001) else (none))) else (if x7 = true then (if (x6.length : Int) > 8 then (some ((([] : List (S25))), false)) else (some (x6, true))) else (if x6.length < 5864062014805 then ((some (x6 ++ [(⟨x112000, x112001⟩ : S25)] : List (S25))).bind fun y137 => (if (y137.length : Int) > 8 then (some ((([] : List (S25))), false)) else (some (y137, true)))) else (none)))
def spec_GroupsPut.j2 : Nat → List (S25) → List (S25) → Bool → Int → Bool → ByteArray → Int → Option ((List (S25)) × Bool)
 | 0, _, _, _, _, _, _, _ => none
 | k + 1, x0, x6, x7, x8, x36, x112000, x112001 => if x36 = true then (if x6.length < 5864062014805 then ((some (x6 ++ [(⟨x112000, x112001⟩ : S25)] : List (S25))).bind fun y121 => (if 0 ≤ x8 then (if x8 < (x0.length : Int) then (if ((rd_T25 x0 x8).f0).toList = x112000.toList then (spec_GroupsPut.l0 k x0 y121 true (wrap64 (x8 + 1)) x112000 x112001) else (if y121.length < 5864062014805 then (spec_GroupsPut.l0 k x0 (y121 ++ [(⟨(rd_T25 x0 x8).f0, (rd_T25 x0 x8).f1⟩ : S25)]) true (wrap64 (x8 + 1)) x112000 x112001) else (none))) else (none)) else (none))) else (none)) else (if 0 ≤ x8 then (if x8 < (x0.length : Int) then (if ((rd_T25 x0 x8).f0).toList = x112000.toList then (spec_GroupsPut.l0 k x0 x6 x7 (wrap64 (x8 + 1)) x112000 x112001) else (if x6.length < 5864062014805 then (spec_GroupsPut.l0 k x0 (x6 ++ [(⟨(rd_T25 x0 x8).f0, (rd_T25 x0 x8).f1⟩ : S25)]) x7 (wrap64 (x8 + 1)) x112000 x112001) else (none))) else (none)) else (none))
end
def spec_GroupsPut.f (k : Nat) (l0 : List (S25)) (a1_0 : ByteArray) (a1_1 : Int) : Option ((List (S25)) × Bool) := (spec_GroupsValid.f k l0).bind fun t112 => (if t112 = true then ((spec_l32Group.f k a1_0 a1_1).bind fun t113 => (spec_GroupsPut.j0 k l0 (!t113) a1_0 a1_1)) else (spec_GroupsPut.j0 k l0 true a1_0 a1_1))
set_option maxHeartbeats 8000000 in
set_option maxRecDepth 100000 in
theorem spec_GroupsPut.calls (k : Nat) (A0 : Option Addr) (c0 : Nat) (l0 : List (S25)) (a1_0 : ByteArray) (a1_1 : Int) (r1 : List (S25)) (r2 : Bool) (w : World) (hr0 : Kd.C k25 w A0 l0.length l0) (hc0 : l0.length ≤ c0) (h : spec_GroupsPut.f k l0 a1_0 a1_1 = some (r1, r2)) :
  Calls Try.prog 9 #[.slice A0 l0.length c0, .agg #[.string a1_0, .int .i64 a1_1]] w fun e w' => ∃ v0_ : Value, e = .returned (.tuple #[v0_, .bool r2]) ∧ Kd.R k25 25 w' w.heap.size (fun _ => True) v0_ r1 ∧ Below w.heap.size w w' := by
 have hu25 := Try.underlying25
 have HR0 := Aside0.mk hr0
 have HC0 := Aside0.mk hc0
 clear hr0 hc0
 have HB := Aside0.mk (Below.refl w.heap.size w)
 have H : ((spec_GroupsValid.f k l0).bind fun t112 => (if t112 = true then ((spec_l32Group.f k a1_0 a1_1).bind fun t113 => (spec_GroupsPut.j0 k l0 (!t113) a1_0 a1_1)) else (spec_GroupsPut.j0 k l0 true a1_0 a1_1))) = some (r1, r2) := h
 clear h
 have HC3 := Aside0.mk H
 clear H
 go_enter Try.func9, Try.ntmps9
 go_upto_region 1 with (first | ((with_reducible refine gate_dst (N := 3) rfl ?_); refine box_event ?hg (N := 3) ?hd (cs := #[.string a1_0, .int .i64 a1_1]) (t := 25) ?hr ?_; (case hd => rfl); (case hg => rfl); (case hr => first | (go_simp; done) | (go_simp; rfl)); intro gb111 hg w4 hbox hb; have BK111 := Aside0.mk (hbox); have GW111 := tge HB hg; have GE111 := tge HB hg; replace HB := tBs HB hb; clear hb hbox hg))
 repeat (go_quiet (first | ((with_reducible refine gate_dst (N := 3) rfl ?_); refine box_event ?hg (N := 3) ?hd (cs := #[.string a1_0, .int .i64 a1_1]) (t := 25) ?hr ?_; (case hd => rfl); (case hg => rfl); (case hr => first | (go_simp; done) | (go_simp; rfl)); intro gb111 hg w4 hbox hb; have BK111 := Aside0.mk (hbox); have GW111 := tge HB hg; have GE111 := tge HB hg; replace HB := tBs HB hb; clear hb hbox hg)); go_upto_region 1 with (first | ((with_reducible refine gate_dst (N := 3) rfl ?_); refine box_event ?hg (N := 3) ?hd (cs := #[.string a1_0, .int .i64 a1_1]) (t := 25) ?hr ?_; (case hd => rfl); (case hg => rfl); (case hr => first | (go_simp; done) | (go_simp; rfl)); intro gb111 hg w4 hbox hb; have BK111 := Aside0.mk (hbox); have GW111 := tge HB hg; have GE111 := tge HB hg; replace HB := tBs HB hb; clear hb hbox hg)))
 (try simp only [Act.put, List.setIfInBounds_toArray, List.set_cons_zero, List.set_cons_succ])
 go_cut [16] (fun v16 wc => ∃ (kq : Nat) (x16_2 : Bool), v16 = .bool x16_2 ∧ Aside0 (spec_GroupsPut.j0 kq l0 x16_2 a1_0 a1_1 = some (r1, r2)) ∧ Aside0 (kq ≤ k) ∧ Aside0 (wc.heap[gb111]? = some (.cells #[.string a1_0, .int .i64 a1_1] 25 (0, 0))) ∧ Aside0 (Below w.heap.size w wc))
 case first =>
  have H := HC3.out
  clear HC3
  replace H := tbe H
  obtain ⟨t112, A5, H⟩ := H
  by_cases c6 : t112 = true
  ·subst c6
   rw [if_pos rfl] at H
   replace H := tbe H
   obtain ⟨t113, A7, H⟩ := H
   have H' := Aside0.mk H
   clear H
   go_wp2_with (first | (go_at_call 32; (with_reducible refine (spec_GroupsValid.calls k _ _ l0 true _ ?side1 ?side2 A5.out).mono ?_); (case side1 => exact tC (Kd.C_below HR0.out HB.out)); (case side2 => exact HC0.out); rintro e w8 ⟨rfl, hb⟩; replace BK111 := tBb BK111 hb; replace HB := tBs HB hb; (try clear hb); (try clear hb2); (try clear hk); (try clear hi); obtain ⟨hcz9_0, hcz9_1, hfz9_0, hfz9_1⟩ := cells2 BK111.out) | (go_at_call 33; (with_reducible refine (spec_l32Group.calls k a1_0 a1_1 t113 _ A7.out).mono ?_); rintro e w10 ⟨rfl, hb⟩; replace BK111 := tBb BK111 hb; replace HB := tBs HB hb; (try clear hb); (try clear hb2); (try clear hk); (try clear hi)))
   repeat (go_quiet (first | (go_at_call 32; (with_reducible refine (spec_GroupsValid.calls k _ _ l0 true _ ?side1 ?side2 A5.out).mono ?_); (case side1 => exact tC (Kd.C_below HR0.out HB.out)); (case side2 => exact HC0.out); rintro e w8 ⟨rfl, hb⟩; replace BK111 := tBb BK111 hb; replace HB := tBs HB hb; (try clear hb); (try clear hb2); (try clear hk); (try clear hi); obtain ⟨hcz9_0, hcz9_1, hfz9_0, hfz9_1⟩ := cells2 BK111.out) | (go_at_call 33; (with_reducible refine (spec_l32Group.calls k a1_0 a1_1 t113 _ A7.out).mono ?_); rintro e w10 ⟨rfl, hb⟩; replace BK111 := tBb BK111 hb; replace HB := tBs HB hb; (try clear hb); (try clear hb2); (try clear hk); (try clear hi))); try go_wp2_with (first | (go_at_call 32; (with_reducible refine (spec_GroupsValid.calls k _ _ l0 true _ ?side1 ?side2 A5.out).mono ?_); (case side1 => exact tC (Kd.C_below HR0.out HB.out)); (case side2 => exact HC0.out); rintro e w8 ⟨rfl, hb⟩; replace BK111 := tBb BK111 hb; replace HB := tBs HB hb; (try clear hb); (try clear hb2); (try clear hk); (try clear hi); obtain ⟨hcz9_0, hcz9_1, hfz9_0, hfz9_1⟩ := cells2 BK111.out) | (go_at_call 33; (with_reducible refine (spec_l32Group.calls k a1_0 a1_1 t113 _ A7.out).mono ?_); rintro e w10 ⟨rfl, hb⟩; replace BK111 := tBb BK111 hb; replace HB := tBs HB hb; (try clear hb); (try clear hb2); (try clear hk); (try clear hi))))
   go_meet
   case rel => exact ⟨_, (!t113), tr, H', ⟨by first | omega | exact Nat.le_refl _⟩, ⟨tH BK111.out⟩, ⟨zb⟩⟩
  ·replace c6 := Bool.eq_false_iff.mpr c6
   subst c6
   rw [if_neg (show ¬ (false = true) by decide)] at H
   have H' := Aside0.mk H
   clear H
   go_wp2_with (first | (go_at_call 32; (with_reducible refine (spec_GroupsValid.calls k _ _ l0 false _ ?side1 ?side2 A5.out).mono ?_); (case side1 => exact tC (Kd.C_below HR0.out HB.out)); (case side2 => exact HC0.out); rintro e w11 ⟨rfl, hb⟩; replace BK111 := tBb BK111 hb; replace HB := tBs HB hb; (try clear hb); (try clear hb2); (try clear hk); (try clear hi)))
   repeat (go_quiet (first | (go_at_call 32; (with_reducible refine (spec_GroupsValid.calls k _ _ l0 false _ ?side1 ?side2 A5.out).mono ?_); (case side1 => exact tC (Kd.C_below HR0.out HB.out)); (case side2 => exact HC0.out); rintro e w11 ⟨rfl, hb⟩; replace BK111 := tBb BK111 hb; replace HB := tBs HB hb; (try clear hb); (try clear hb2); (try clear hk); (try clear hi))); try go_wp2_with (first | (go_at_call 32; (with_reducible refine (spec_GroupsValid.calls k _ _ l0 false _ ?side1 ?side2 A5.out).mono ?_); (case side1 => exact tC (Kd.C_below HR0.out HB.out)); (case side2 => exact HC0.out); rintro e w11 ⟨rfl, hb⟩; replace BK111 := tBb BK111 hb; replace HB := tBs HB hb; (try clear hb); (try clear hb2); (try clear hk); (try clear hi))))
   go_meet
   case rel => exact ⟨_, (true), tr, H', ⟨by first | omega | exact Nat.le_refl _⟩, ⟨tH BK111.out⟩, ⟨zb⟩⟩
 case rest =>
  clear HC3
  obtain ⟨kq, x16_2, rfl, HA, HJ2, BK111, HB⟩ := hcut
  cases kq with
  | zero => exact absurd HA.out (by simp [spec_GroupsPut.j0])
  | succ kj2 =>
   have H := HA.out
   clear HA
   simp only [spec_GroupsPut.j0] at H
   by_cases c12 : x16_2 = true
   ·subst c12
    rw [if_pos rfl] at H
    obtain ⟨y114, hy114⟩ : ∃ y_ : List (S25), y_ = (([] : List (S25))) := ⟨_, rfl⟩
    replace H : (some (y114, false)) = some (r1, r2) := by first | (rw [hy114]; with_reducible exact H) | (have H2_ := (Option.bind_some _ _).symm.trans H; rw [hy114]; with_reducible exact H2_) | (have H2_ := (Option.bind_some _ _).symm.trans H; with_reducible exact H2_) | with_reducible exact H | (rw [hy114]; exact H) | exact H
    have Ny114 := Aside0.mk hy114
    clear hy114
    simp only [Option.some.injEq, Prod.mk.injEq] at H
    obtain ⟨rfl, rfl⟩ := H
    go_wp2_with (first | ((with_reducible refine gate_dst (N := 17) rfl ?_); refine Kd.R_lit k25 _ 25 ?hg (N := 17) ?hd (xs := ([] : List (S25))) (inner := []) (ok := fun _ => True) (okp := fun _ => True) ?hr ?hp (fun _ hk => hk) trivial (Below.refl _ _) (Nat.le_refl _) (by simp) ?_; (case hd => rfl); (case hg => rfl); (case hr => first | (go_simp; done) | (go_simp; rfl)); (case hp => exact (Reps.none _ _)); intro v115 w13 ho14 hb hg_ hnew_; clear hg_ hnew_; (first | rw [← Ny114.out] at ho14 | (simp only [Int.reduceToNat] at ho14; rw [← Ny114.out] at ho14)); have HO116 := Aside0.mk (Kd.R_lower (Kd.R_newB ho14 (g := gb111) (o := .cells #[.string a1_0, .int .i64 a1_1] 25 (0, 0)) (tH BK111.out)) (below_size zb)); replace BK111 := tBb BK111 hb; replace HB := tBs HB hb; clear hb ho14))
    repeat (go_quiet (first | ((with_reducible refine gate_dst (N := 17) rfl ?_); refine Kd.R_lit k25 _ 25 ?hg (N := 17) ?hd (xs := ([] : List (S25))) (inner := []) (ok := fun _ => True) (okp := fun _ => True) ?hr ?hp (fun _ hk => hk) trivial (Below.refl _ _) (Nat.le_refl _) (by simp) ?_; (case hd => rfl); (case hg => rfl); (case hr => first | (go_simp; done) | (go_simp; rfl)); (case hp => exact (Reps.none _ _)); intro v115 w13 ho14 hb hg_ hnew_; clear hg_ hnew_; (first | rw [← Ny114.out] at ho14 | (simp only [Int.reduceToNat] at ho14; rw [← Ny114.out] at ho14)); have HO116 := Aside0.mk (Kd.R_lower (Kd.R_newB ho14 (g := gb111) (o := .cells #[.string a1_0, .int .i64 a1_1] 25 (0, 0)) (tH BK111.out)) (below_size zb)); replace BK111 := tBb BK111 hb; replace HB := tBs HB hb; clear hb ho14)); try go_wp2_with (first | ((with_reducible refine gate_dst (N := 17) rfl ?_); refine Kd.R_lit k25 _ 25 ?hg (N := 17) ?hd (xs := ([] : List (S25))) (inner := []) (ok := fun _ => True) (okp := fun _ => True) ?hr ?hp (fun _ hk => hk) trivial (Below.refl _ _) (Nat.le_refl _) (by simp) ?_; (case hd => rfl); (case hg => rfl); (case hr => first | (go_simp; done) | (go_simp; rfl)); (case hp => exact (Reps.none _ _)); intro v115 w13 ho14 hb hg_ hnew_; clear hg_ hnew_; (first | rw [← Ny114.out] at ho14 | (simp only [Int.reduceToNat] at ho14; rw [← Ny114.out] at ho14)); have HO116 := Aside0.mk (Kd.R_lower (Kd.R_newB ho14 (g := gb111) (o := .cells #[.string a1_0, .int .i64 a1_1] 25 (0, 0)) (tH BK111.out)) (below_size zb)); replace BK111 := tBb BK111 hb; replace HB := tBs HB hb; clear hb ho14)))
    go_ret2
    exact ⟨_, by first | rfl | (simp [errW_none, errW_some] <;> rfl) | (simp [*, errW_none, errW_some] <;> rfl), tRm HO116.out, zb⟩
   ·replace c12 := Bool.eq_false_iff.mpr c12
    subst c12
    rw [if_neg (show ¬ (false = true) by decide)] at H
    obtain ⟨y117, hy117⟩ : ∃ y_ : List (S25), y_ = (([] : List (S25))) := ⟨_, rfl⟩
    replace H : (spec_GroupsPut.l0 kj2 l0 y117 false 0 a1_0 a1_1) = some (r1, r2) := by first | (rw [hy117]; with_reducible exact H) | (have H2_ := (Option.bind_some _ _).symm.trans H; rw [hy117]; with_reducible exact H2_) | (have H2_ := (Option.bind_some _ _).symm.trans H; with_reducible exact H2_) | with_reducible exact H | (rw [hy117]; exact H) | exact H
    have Ny117 := Aside0.mk hy117
    clear hy117
    have H' := Aside0.mk H
    clear H
    go_wp2_with (first | ((with_reducible refine gate_dst (N := 18) rfl ?_); refine Kd.R_lit k25 _ 25 ?hg (N := 18) ?hd (xs := ([] : List (S25))) (inner := []) (ok := fun _ => True) (okp := fun _ => True) ?hr ?hp (fun _ hk => hk) trivial (Below.refl _ _) (Nat.le_refl _) (by simp) ?_; (case hd => rfl); (case hg => rfl); (case hr => first | (go_simp; done) | (go_simp; rfl)); (case hp => exact (Reps.none _ _)); intro v118 w15 ho16 hb hg_ hnew_; clear hg_ hnew_; (first | rw [← Ny117.out] at ho16 | (simp only [Int.reduceToNat] at ho16; rw [← Ny117.out] at ho16)); have HO119 := Aside0.mk (Kd.R_lower (Kd.R_newB ho16 (g := gb111) (o := .cells #[.string a1_0, .int .i64 a1_1] 25 (0, 0)) (tH BK111.out)) (below_size zb)); replace BK111 := tBb BK111 hb; replace HB := tBs HB hb; clear hb ho16))
    repeat (go_quiet (first | ((with_reducible refine gate_dst (N := 18) rfl ?_); refine Kd.R_lit k25 _ 25 ?hg (N := 18) ?hd (xs := ([] : List (S25))) (inner := []) (ok := fun _ => True) (okp := fun _ => True) ?hr ?hp (fun _ hk => hk) trivial (Below.refl _ _) (Nat.le_refl _) (by simp) ?_; (case hd => rfl); (case hg => rfl); (case hr => first | (go_simp; done) | (go_simp; rfl)); (case hp => exact (Reps.none _ _)); intro v118 w15 ho16 hb hg_ hnew_; clear hg_ hnew_; (first | rw [← Ny117.out] at ho16 | (simp only [Int.reduceToNat] at ho16; rw [← Ny117.out] at ho16)); have HO119 := Aside0.mk (Kd.R_lower (Kd.R_newB ho16 (g := gb111) (o := .cells #[.string a1_0, .int .i64 a1_1] 25 (0, 0)) (tH BK111.out)) (below_size zb)); replace BK111 := tBb BK111 hb; replace HB := tBs HB hb; clear hb ho16)); try go_wp2_with (first | ((with_reducible refine gate_dst (N := 18) rfl ?_); refine Kd.R_lit k25 _ 25 ?hg (N := 18) ?hd (xs := ([] : List (S25))) (inner := []) (ok := fun _ => True) (okp := fun _ => True) ?hr ?hp (fun _ hk => hk) trivial (Below.refl _ _) (Nat.le_refl _) (by simp) ?_; (case hd => rfl); (case hg => rfl); (case hr => first | (go_simp; done) | (go_simp; rfl)); (case hp => exact (Reps.none _ _)); intro v118 w15 ho16 hb hg_ hnew_; clear hg_ hnew_; (first | rw [← Ny117.out] at ho16 | (simp only [Int.reduceToNat] at ho16; rw [← Ny117.out] at ho16)); have HO119 := Aside0.mk (Kd.R_lower (Kd.R_newB ho16 (g := gb111) (o := .cells #[.string a1_0, .int .i64 a1_1] 25 (0, 0)) (tH BK111.out)) (below_size zb)); replace BK111 := tBb BK111 hb; replace HB := tBs HB hb; clear hb ho16)))
    go_loopg [6, 7, 8] kj2 (fun kq v6 v7 v8 w' => ∃ (x6_2 : List (S25)) (x7_2 : Bool) (x8_2 : Int), v7 = .bool x7_2 ∧ v8 = .int .i64 x8_2 ∧ Aside0 (spec_GroupsPut.l0 kq l0 x6_2 x7_2 x8_2 a1_0 a1_1 = some (r1, r2)) ∧ Aside0 (kq ≤ kj2) ∧ Aside0 (Kd.R k25 25 w' w.heap.size (fun k_ => k_ ≠ gb111) v6 x6_2) ∧ Aside0 (w'.heap[gb111]? = some (.cells #[.string a1_0, .int .i64 a1_1] 25 (0, 0))) ∧ Aside0 (Below w.heap.size w w'))
    case atStart => exact ⟨(y117), (false), (0), tr, tr, H', ⟨Nat.le_refl _⟩, ⟨tRm HO119.out⟩, ⟨tH BK111.out⟩, ⟨zb⟩⟩
    case round =>
     clear H'
     try clear c12
     obtain ⟨x6_2, x7_2, x8_2, rfl, rfl, HA, HK2, HO_6, BK111, HB⟩ := hrel
     cases gk with
     | zero => exact absurd HA.out (by simp [spec_GroupsPut.l0])
     | succ k2 =>
      have H := HA.out
      clear HA
      simp only [spec_GroupsPut.l0] at H
      by_cases c17 : x8_2 < (l0.length : Int)
      ·rw [if_pos c17] at H
       have c17b0 : decide (x8_2 < (l0.length : Int)) = true := decide_eq_true c17
       clear c17
       have HC18 := Aside0.mk H
       clear H
       go_upto_region 8 with (fail)
       repeat (go_quiet (fail); go_upto_region 8 with (fail))
       go_cut [36] (fun v36 wc => ∃ (kq : Nat) (x36_17 : Bool), v36 = .bool x36_17 ∧ Aside0 (spec_GroupsPut.j2 kq l0 x6_2 x7_2 x8_2 x36_17 a1_0 a1_1 = some (r1, r2)) ∧ Aside0 (kq ≤ k2) ∧ Aside0 (Kd.R k25 25 wc w.heap.size (fun k_ => k_ ≠ gb111) u6 x6_2) ∧ Aside0 (wc.heap[gb111]? = some (.cells #[.string a1_0, .int .i64 a1_1] 25 (0, 0))) ∧ Aside0 (Below w.heap.size w wc))
       case first =>
        have H := HC18.out
        clear HC18
        by_cases c19 : x7_2 = true
        ·subst c19
         rw [if_pos rfl] at H
         have H' := Aside0.mk H
         clear H
         go_wp2
         repeat (go_quiet (fail); try go_wp2)
         go_meet
         case rel => exact ⟨_, (false), tr, H', ⟨by have := HJ2.out; have := HK2.out; first | omega | exact Nat.le_refl _⟩, ⟨tR HO_6.out⟩, ⟨tH BK111.out⟩, ⟨zb⟩⟩
        ·replace c19 := Bool.eq_false_iff.mpr c19
         subst c19
         rw [if_neg (show ¬ (false = true) by decide)] at H
         by_cases c20 : 0 ≤ x8_2
         ·rw [if_pos c20] at H
          have c20b0 : decide (0 ≤ x8_2) = true := decide_eq_true c20
          clear c20
          (first | rw [c20b0] | (simp only [i64_w, i32_w]; rw [c20b0]) | skip)
          have H' := Aside0.mk H
          clear H
          have p120 : 0 ≤ (x8_2 : Int) := td
          have q120 : x8_2 < (l0.length : Int) := td
          obtain ⟨ad120, e120, hx120_0, hx120_1⟩ := at_T25 HR0.out x8_2 p120 q120
          cases e120
          replace hx120_0 := tcl HB hx120_0
          replace hx120_1 := tcl HB hx120_1
          replace p120 := eq_true p120
          replace q120 := eq_true q120
          obtain ⟨hcz21_0, hcz21_1, hfz21_0, hfz21_1⟩ := cells2 BK111.out
          go_wp2
          repeat (go_quiet (fail); try go_wp2)
          go_meet
          case rel => exact ⟨_, (!(Op.bytesLess (((rd_T25 l0 x8_2).f0).toList) a1_0.toList)), tr, H', ⟨by have := HJ2.out; have := HK2.out; first | omega | exact Nat.le_refl _⟩, ⟨tR HO_6.out⟩, ⟨tH BK111.out⟩, ⟨zb⟩⟩
         ·rw [if_neg c20] at H
          exact absurd H (by simp)
       case rest =>
        clear HC18
        try clear c12; try clear c17; try clear c17b0
        obtain ⟨kq, x36_17, rfl, HA, HJ17, HO_6, BK111, HB⟩ := hcut
        cases kq with
        | zero => exact absurd HA.out (by simp [spec_GroupsPut.j2])
        | succ kj17 =>
         have H := HA.out
         clear HA
         simp only [spec_GroupsPut.j2] at H
         by_cases c22 : x36_17 = true
         ·subst c22
          rw [if_pos rfl] at H
          by_cases c23 : x6_2.length < 5864062014805
          ·rw [if_pos c23] at H
           have LMc23 := Aside0.mk c23
           clear c23
           obtain ⟨y121, hy121⟩ : ∃ y_ : List (S25), y_ = (x6_2 ++ [(⟨a1_0, a1_1⟩ : S25)]) := ⟨_, rfl⟩
           replace H : (if 0 ≤ x8_2 then (if x8_2 < (l0.length : Int) then (if ((rd_T25 l0 x8_2).f0).toList = a1_0.toList then (spec_GroupsPut.l0 kj17 l0 y121 true (wrap64 (x8_2 + 1)) a1_0 a1_1) else (if y121.length < 5864062014805 then (spec_GroupsPut.l0 kj17 l0 (y121 ++ [(⟨(rd_T25 l0 x8_2).f0, (rd_T25 l0 x8_2).f1⟩ : S25)]) true (wrap64 (x8_2 + 1)) a1_0 a1_1) else (none))) else (none)) else (none)) = some (r1, r2) := by first | (rw [hy121]; with_reducible exact H) | (have H2_ := (Option.bind_some _ _).symm.trans H; rw [hy121]; with_reducible exact H2_) | (have H2_ := (Option.bind_some _ _).symm.trans H; with_reducible exact H2_) | with_reducible exact H | (rw [hy121]; exact H) | exact H
           have Ny121 := Aside0.mk hy121
           clear hy121
           by_cases c24 : 0 ≤ x8_2
           ·rw [if_pos c24] at H
            have c24b0 : decide (0 ≤ x8_2) = true := decide_eq_true c24
            clear c24
            by_cases c25 : x8_2 < (l0.length : Int)
            ·rw [if_pos c25] at H
             have c25b0 : decide (x8_2 < (l0.length : Int)) = true := decide_eq_true c25
             clear c25
             by_cases c26 : ((rd_T25 l0 x8_2).f0).toList = a1_0.toList
             ·rw [if_pos c26] at H
              have c26b0 : (((rd_T25 l0 x8_2).f0).toList == a1_0.toList) = true := beq_iff_eq.mpr c26
              have c26b1 : (((rd_T25 l0 x8_2).f0).toList != a1_0.toList) = false := bne_eq_false_iff_eq.mpr c26
              clear c26
              have H' := Aside0.mk H
              clear H
              obtain ⟨hcz27_0, hcz27_1, hfz27_0, hfz27_1⟩ := cells2 BK111.out
              go_wp2_with (first | ((with_reducible refine gate_builtin (b := .append) (xs := #[.tmp 37, .tmp 39]) rfl ?_); at_builtin; refine Kd.R_append k25 (w0 := w) w.heap.size rfl (.tmp 37) (.tmp 39) 23 25 (.agg #[(.string ⟨#[]⟩), (.int .i64 0)]) 24 rfl Try.underlying23 info25 rfl (by decide) (by omega) u6 x6_2 (⟨a1_0, a1_1⟩ : S25) [.string a1_0, .int .i64 a1_1] (fun k_ => k_ ≠ gb111) (fun _ => False) rfl rfl ?aP (fun _ hk => hk.elim) ?aF ?aO ?aB ?aS ?aL ?_; (case aP => exact k25_mkM _ _ _ (⟨a1_0, a1_1⟩ : S25)); (case aB => exact zb); (case aF => exact (fun k_ hk => tfB BK111 k_ hk)); (case aO => exact (tR HO_6.out)); (case aS => exact (below_size zb)); (case aL => have := LMc23.out; omega); intro v122 w28 ho hb hg hat; rw [← Ny121.out] at ho; replace BK111 := Aside0.mk (blk_grown (tH BK111.out) hg (Kd.R_away HO_6.out (fun _ hk => hk))); replace HB := Aside0.mk (hb); have HO123 := Aside0.mk (ho); clear HO_6; clear ho hb hg hat; have p124 : 0 ≤ (x8_2 : Int) := td; have q124 : x8_2 < (l0.length : Int) := td; obtain ⟨ad124, e124, hx124_0, hx124_1⟩ := at_T25 HR0.out x8_2 p124 q124; cases e124; replace hx124_0 := tcl HB hx124_0; replace hx124_1 := tcl HB hx124_1; replace p124 := eq_true p124; replace q124 := eq_true q124; obtain ⟨hcz29_0, hcz29_1, hfz29_0, hfz29_1⟩ := cells2 BK111.out))
              repeat (go_quiet (first | ((with_reducible refine gate_builtin (b := .append) (xs := #[.tmp 37, .tmp 39]) rfl ?_); at_builtin; refine Kd.R_append k25 (w0 := w) w.heap.size rfl (.tmp 37) (.tmp 39) 23 25 (.agg #[(.string ⟨#[]⟩), (.int .i64 0)]) 24 rfl Try.underlying23 info25 rfl (by decide) (by omega) u6 x6_2 (⟨a1_0, a1_1⟩ : S25) [.string a1_0, .int .i64 a1_1] (fun k_ => k_ ≠ gb111) (fun _ => False) rfl rfl ?aP (fun _ hk => hk.elim) ?aF ?aO ?aB ?aS ?aL ?_; (case aP => exact k25_mkM _ _ _ (⟨a1_0, a1_1⟩ : S25)); (case aB => exact zb); (case aF => exact (fun k_ hk => tfB BK111 k_ hk)); (case aO => exact (tR HO_6.out)); (case aS => exact (below_size zb)); (case aL => have := LMc23.out; omega); intro v122 w28 ho hb hg hat; rw [← Ny121.out] at ho; replace BK111 := Aside0.mk (blk_grown (tH BK111.out) hg (Kd.R_away HO_6.out (fun _ hk => hk))); replace HB := Aside0.mk (hb); have HO123 := Aside0.mk (ho); clear HO_6; clear ho hb hg hat; have p124 : 0 ≤ (x8_2 : Int) := td; have q124 : x8_2 < (l0.length : Int) := td; obtain ⟨ad124, e124, hx124_0, hx124_1⟩ := at_T25 HR0.out x8_2 p124 q124; cases e124; replace hx124_0 := tcl HB hx124_0; replace hx124_1 := tcl HB hx124_1; replace p124 := eq_true p124; replace q124 := eq_true q124; obtain ⟨hcz29_0, hcz29_1, hfz29_0, hfz29_1⟩ := cells2 BK111.out)); try go_wp2_with (first | ((with_reducible refine gate_builtin (b := .append) (xs := #[.tmp 37, .tmp 39]) rfl ?_); at_builtin; refine Kd.R_append k25 (w0 := w) w.heap.size rfl (.tmp 37) (.tmp 39) 23 25 (.agg #[(.string ⟨#[]⟩), (.int .i64 0)]) 24 rfl Try.underlying23 info25 rfl (by decide) (by omega) u6 x6_2 (⟨a1_0, a1_1⟩ : S25) [.string a1_0, .int .i64 a1_1] (fun k_ => k_ ≠ gb111) (fun _ => False) rfl rfl ?aP (fun _ hk => hk.elim) ?aF ?aO ?aB ?aS ?aL ?_; (case aP => exact k25_mkM _ _ _ (⟨a1_0, a1_1⟩ : S25)); (case aB => exact zb); (case aF => exact (fun k_ hk => tfB BK111 k_ hk)); (case aO => exact (tR HO_6.out)); (case aS => exact (below_size zb)); (case aL => have := LMc23.out; omega); intro v122 w28 ho hb hg hat; rw [← Ny121.out] at ho; replace BK111 := Aside0.mk (blk_grown (tH BK111.out) hg (Kd.R_away HO_6.out (fun _ hk => hk))); replace HB := Aside0.mk (hb); have HO123 := Aside0.mk (ho); clear HO_6; clear ho hb hg hat; have p124 : 0 ≤ (x8_2 : Int) := td; have q124 : x8_2 < (l0.length : Int) := td; obtain ⟨ad124, e124, hx124_0, hx124_1⟩ := at_T25 HR0.out x8_2 p124 q124; cases e124; replace hx124_0 := tcl HB hx124_0; replace hx124_1 := tcl HB hx124_1; replace p124 := eq_true p124; replace q124 := eq_true q124; obtain ⟨hcz29_0, hcz29_1, hfz29_0, hfz29_1⟩ := cells2 BK111.out)))
              go_roundg kj17
              case measure => have := HJ2.out; have := HK2.out; have := HJ17.out; omega
              case rel => exact ⟨(y121), (true), (wrap64 (x8_2 + 1)), tr, tr, H', ⟨by have := HJ2.out; have := HK2.out; have := HJ17.out; omega⟩, ⟨tR HO123.out⟩, ⟨tH BK111.out⟩, ⟨zb⟩⟩
             ·rw [if_neg c26] at H
              have c26b0 : (((rd_T25 l0 x8_2).f0).toList == a1_0.toList) = false := beq_eq_false_iff_ne.mpr c26
              have c26b1 : (((rd_T25 l0 x8_2).f0).toList != a1_0.toList) = true := bne_iff_ne.mpr c26
              by_cases c30 : y121.length < 5864062014805
              ·rw [if_pos c30] at H
               have LMc30 := Aside0.mk c30
               clear c30
               obtain ⟨y126, hy126⟩ : ∃ y_ : List (S25), y_ = (y121 ++ [(⟨(rd_T25 l0 x8_2).f0, (rd_T25 l0 x8_2).f1⟩ : S25)]) := ⟨_, rfl⟩
               replace H : (spec_GroupsPut.l0 kj17 l0 y126 true (wrap64 (x8_2 + 1)) a1_0 a1_1) = some (r1, r2) := by first | (rw [hy126]; with_reducible exact H) | (have H2_ := (Option.bind_some _ _).symm.trans H; rw [hy126]; with_reducible exact H2_) | (have H2_ := (Option.bind_some _ _).symm.trans H; with_reducible exact H2_) | with_reducible exact H | (rw [hy126]; exact H) | exact H
               have Ny126 := Aside0.mk hy126
               clear hy126
               have H' := Aside0.mk H
               clear H
               obtain ⟨hcz31_0, hcz31_1, hfz31_0, hfz31_1⟩ := cells2 BK111.out
               go_wp2_with (first | ((with_reducible refine gate_builtin (b := .append) (xs := #[.tmp 37, .tmp 39]) rfl ?_); at_builtin; refine Kd.R_append k25 (w0 := w) w.heap.size rfl (.tmp 37) (.tmp 39) 23 25 (.agg #[(.string ⟨#[]⟩), (.int .i64 0)]) 24 rfl Try.underlying23 info25 rfl (by decide) (by omega) u6 x6_2 (⟨a1_0, a1_1⟩ : S25) [.string a1_0, .int .i64 a1_1] (fun k_ => k_ ≠ gb111) (fun _ => False) rfl rfl ?aP (fun _ hk => hk.elim) ?aF ?aO ?aB ?aS ?aL ?_; (case aP => exact k25_mkM _ _ _ (⟨a1_0, a1_1⟩ : S25)); (case aB => exact zb); (case aF => exact (fun k_ hk => tfB BK111 k_ hk)); (case aO => exact (tR HO_6.out)); (case aS => exact (below_size zb)); (case aL => have := LMc23.out; omega); intro v122 w32 ho hb hg hat; rw [← Ny121.out] at ho; replace BK111 := Aside0.mk (blk_grown (tH BK111.out) hg (Kd.R_away HO_6.out (fun _ hk => hk))); replace HB := Aside0.mk (hb); have HO123 := Aside0.mk (ho); clear HO_6; clear ho hb hg hat; have p124 : 0 ≤ (x8_2 : Int) := td; have q124 : x8_2 < (l0.length : Int) := td; obtain ⟨ad124, e124, hx124_0, hx124_1⟩ := at_T25 HR0.out x8_2 p124 q124; cases e124; replace hx124_0 := tcl HB hx124_0; replace hx124_1 := tcl HB hx124_1; replace p124 := eq_true p124; replace q124 := eq_true q124; obtain ⟨hcz33_0, hcz33_1, hfz33_0, hfz33_1⟩ := cells2 BK111.out; have p125 : 0 ≤ (x8_2 : Int) := td; have q125 : x8_2 < (l0.length : Int) := td; obtain ⟨ad125, e125, hx125_0, hx125_1⟩ := at_T25 HR0.out x8_2 p125 q125; obtain rfl : ad124 = ad125 := (by injection e125); replace hx125_0 := tcl HB hx125_0; replace hx125_1 := tcl HB hx125_1; replace p125 := eq_true p125; replace q125 := eq_true q125) | ((with_reducible refine gate_builtin (b := .append) (xs := #[.tmp 49, .tmp 54]) rfl ?_); at_builtin; refine Kd.R_append k25 (w0 := w) w.heap.size rfl (.tmp 49) (.tmp 54) 23 25 (.agg #[(.string ⟨#[]⟩), (.int .i64 0)]) 24 rfl Try.underlying23 info25 rfl (by decide) (by omega) v122 y121 (⟨(rd_T25 l0 x8_2).f0, (rd_T25 l0 x8_2).f1⟩ : S25) [.string ((rd_T25 l0 x8_2).f0), .int .i64 ((rd_T25 l0 x8_2).f1)] (fun k_ => k_ ≠ gb111) (fun _ => False) rfl rfl ?aP (fun _ hk => hk.elim) ?aF ?aO ?aB ?aS ?aL ?_; (case aP => exact k25_mkM _ _ _ (⟨(rd_T25 l0 x8_2).f0, (rd_T25 l0 x8_2).f1⟩ : S25)); (case aB => exact zb); (case aF => exact (fun k_ hk => tfB BK111 k_ hk)); (case aO => exact (tR HO123.out)); (case aS => exact (below_size zb)); (case aL => have := LMc30.out; omega); intro v127 w34 ho hb hg hat; rw [← Ny126.out] at ho; replace BK111 := Aside0.mk (blk_grown (tH BK111.out) hg (Kd.R_away HO123.out (fun _ hk => hk))); replace HB := Aside0.mk (hb); have HO128 := Aside0.mk (ho); clear HO123; clear ho hb hg hat))
               repeat (go_quiet (first | ((with_reducible refine gate_builtin (b := .append) (xs := #[.tmp 37, .tmp 39]) rfl ?_); at_builtin; refine Kd.R_append k25 (w0 := w) w.heap.size rfl (.tmp 37) (.tmp 39) 23 25 (.agg #[(.string ⟨#[]⟩), (.int .i64 0)]) 24 rfl Try.underlying23 info25 rfl (by decide) (by omega) u6 x6_2 (⟨a1_0, a1_1⟩ : S25) [.string a1_0, .int .i64 a1_1] (fun k_ => k_ ≠ gb111) (fun _ => False) rfl rfl ?aP (fun _ hk => hk.elim) ?aF ?aO ?aB ?aS ?aL ?_; (case aP => exact k25_mkM _ _ _ (⟨a1_0, a1_1⟩ : S25)); (case aB => exact zb); (case aF => exact (fun k_ hk => tfB BK111 k_ hk)); (case aO => exact (tR HO_6.out)); (case aS => exact (below_size zb)); (case aL => have := LMc23.out; omega); intro v122 w32 ho hb hg hat; rw [← Ny121.out] at ho; replace BK111 := Aside0.mk (blk_grown (tH BK111.out) hg (Kd.R_away HO_6.out (fun _ hk => hk))); replace HB := Aside0.mk (hb); have HO123 := Aside0.mk (ho); clear HO_6; clear ho hb hg hat; have p124 : 0 ≤ (x8_2 : Int) := td; have q124 : x8_2 < (l0.length : Int) := td; obtain ⟨ad124, e124, hx124_0, hx124_1⟩ := at_T25 HR0.out x8_2 p124 q124; cases e124; replace hx124_0 := tcl HB hx124_0; replace hx124_1 := tcl HB hx124_1; replace p124 := eq_true p124; replace q124 := eq_true q124; obtain ⟨hcz33_0, hcz33_1, hfz33_0, hfz33_1⟩ := cells2 BK111.out; have p125 : 0 ≤ (x8_2 : Int) := td; have q125 : x8_2 < (l0.length : Int) := td; obtain ⟨ad125, e125, hx125_0, hx125_1⟩ := at_T25 HR0.out x8_2 p125 q125; obtain rfl : ad124 = ad125 := (by injection e125); replace hx125_0 := tcl HB hx125_0; replace hx125_1 := tcl HB hx125_1; replace p125 := eq_true p125; replace q125 := eq_true q125) | ((with_reducible refine gate_builtin (b := .append) (xs := #[.tmp 49, .tmp 54]) rfl ?_); at_builtin; refine Kd.R_append k25 (w0 := w) w.heap.size rfl (.tmp 49) (.tmp 54) 23 25 (.agg #[(.string ⟨#[]⟩), (.int .i64 0)]) 24 rfl Try.underlying23 info25 rfl (by decide) (by omega) v122 y121 (⟨(rd_T25 l0 x8_2).f0, (rd_T25 l0 x8_2).f1⟩ : S25) [.string ((rd_T25 l0 x8_2).f0), .int .i64 ((rd_T25 l0 x8_2).f1)] (fun k_ => k_ ≠ gb111) (fun _ => False) rfl rfl ?aP (fun _ hk => hk.elim) ?aF ?aO ?aB ?aS ?aL ?_; (case aP => exact k25_mkM _ _ _ (⟨(rd_T25 l0 x8_2).f0, (rd_T25 l0 x8_2).f1⟩ : S25)); (case aB => exact zb); (case aF => exact (fun k_ hk => tfB BK111 k_ hk)); (case aO => exact (tR HO123.out)); (case aS => exact (below_size zb)); (case aL => have := LMc30.out; omega); intro v127 w34 ho hb hg hat; rw [← Ny126.out] at ho; replace BK111 := Aside0.mk (blk_grown (tH BK111.out) hg (Kd.R_away HO123.out (fun _ hk => hk))); replace HB := Aside0.mk (hb); have HO128 := Aside0.mk (ho); clear HO123; clear ho hb hg hat)); try go_wp2_with (first | ((with_reducible refine gate_builtin (b := .append) (xs := #[.tmp 37, .tmp 39]) rfl ?_); at_builtin; refine Kd.R_append k25 (w0 := w) w.heap.size rfl (.tmp 37) (.tmp 39) 23 25 (.agg #[(.string ⟨#[]⟩), (.int .i64 0)]) 24 rfl Try.underlying23 info25 rfl (by decide) (by omega) u6 x6_2 (⟨a1_0, a1_1⟩ : S25) [.string a1_0, .int .i64 a1_1] (fun k_ => k_ ≠ gb111) (fun _ => False) rfl rfl ?aP (fun _ hk => hk.elim) ?aF ?aO ?aB ?aS ?aL ?_; (case aP => exact k25_mkM _ _ _ (⟨a1_0, a1_1⟩ : S25)); (case aB => exact zb); (case aF => exact (fun k_ hk => tfB BK111 k_ hk)); (case aO => exact (tR HO_6.out)); (case aS => exact (below_size zb)); (case aL => have := LMc23.out; omega); intro v122 w32 ho hb hg hat; rw [← Ny121.out] at ho; replace BK111 := Aside0.mk (blk_grown (tH BK111.out) hg (Kd.R_away HO_6.out (fun _ hk => hk))); replace HB := Aside0.mk (hb); have HO123 := Aside0.mk (ho); clear HO_6; clear ho hb hg hat; have p124 : 0 ≤ (x8_2 : Int) := td; have q124 : x8_2 < (l0.length : Int) := td; obtain ⟨ad124, e124, hx124_0, hx124_1⟩ := at_T25 HR0.out x8_2 p124 q124; cases e124; replace hx124_0 := tcl HB hx124_0; replace hx124_1 := tcl HB hx124_1; replace p124 := eq_true p124; replace q124 := eq_true q124; obtain ⟨hcz33_0, hcz33_1, hfz33_0, hfz33_1⟩ := cells2 BK111.out; have p125 : 0 ≤ (x8_2 : Int) := td; have q125 : x8_2 < (l0.length : Int) := td; obtain ⟨ad125, e125, hx125_0, hx125_1⟩ := at_T25 HR0.out x8_2 p125 q125; obtain rfl : ad124 = ad125 := (by injection e125); replace hx125_0 := tcl HB hx125_0; replace hx125_1 := tcl HB hx125_1; replace p125 := eq_true p125; replace q125 := eq_true q125) | ((with_reducible refine gate_builtin (b := .append) (xs := #[.tmp 49, .tmp 54]) rfl ?_); at_builtin; refine Kd.R_append k25 (w0 := w) w.heap.size rfl (.tmp 49) (.tmp 54) 23 25 (.agg #[(.string ⟨#[]⟩), (.int .i64 0)]) 24 rfl Try.underlying23 info25 rfl (by decide) (by omega) v122 y121 (⟨(rd_T25 l0 x8_2).f0, (rd_T25 l0 x8_2).f1⟩ : S25) [.string ((rd_T25 l0 x8_2).f0), .int .i64 ((rd_T25 l0 x8_2).f1)] (fun k_ => k_ ≠ gb111) (fun _ => False) rfl rfl ?aP (fun _ hk => hk.elim) ?aF ?aO ?aB ?aS ?aL ?_; (case aP => exact k25_mkM _ _ _ (⟨(rd_T25 l0 x8_2).f0, (rd_T25 l0 x8_2).f1⟩ : S25)); (case aB => exact zb); (case aF => exact (fun k_ hk => tfB BK111 k_ hk)); (case aO => exact (tR HO123.out)); (case aS => exact (below_size zb)); (case aL => have := LMc30.out; omega); intro v127 w34 ho hb hg hat; rw [← Ny126.out] at ho; replace BK111 := Aside0.mk (blk_grown (tH BK111.out) hg (Kd.R_away HO123.out (fun _ hk => hk))); replace HB := Aside0.mk (hb); have HO128 := Aside0.mk (ho); clear HO123; clear ho hb hg hat)))
               go_roundg kj17
               case measure => have := HJ2.out; have := HK2.out; have := HJ17.out; omega
               case rel => exact ⟨(y126), (true), (wrap64 (x8_2 + 1)), tr, tr, H', ⟨by have := HJ2.out; have := HK2.out; have := HJ17.out; omega⟩, ⟨tR HO128.out⟩, ⟨tH BK111.out⟩, ⟨zb⟩⟩
              ·rw [if_neg c30] at H
               exact absurd H (by simp)
            ·rw [if_neg c25] at H
             exact absurd H (by simp)
           ·rw [if_neg c24] at H
            exact absurd H (by simp)
          ·rw [if_neg c23] at H
           exact absurd H (by simp)
         ·replace c22 := Bool.eq_false_iff.mpr c22
          subst c22
          rw [if_neg (show ¬ (false = true) by decide)] at H
          by_cases c35 : 0 ≤ x8_2
          ·rw [if_pos c35] at H
           have c35b0 : decide (0 ≤ x8_2) = true := decide_eq_true c35
           clear c35
           by_cases c36 : x8_2 < (l0.length : Int)
           ·rw [if_pos c36] at H
            have c36b0 : decide (x8_2 < (l0.length : Int)) = true := decide_eq_true c36
            clear c36
            by_cases c37 : ((rd_T25 l0 x8_2).f0).toList = a1_0.toList
            ·rw [if_pos c37] at H
             have c37b0 : (((rd_T25 l0 x8_2).f0).toList == a1_0.toList) = true := beq_iff_eq.mpr c37
             have c37b1 : (((rd_T25 l0 x8_2).f0).toList != a1_0.toList) = false := bne_eq_false_iff_eq.mpr c37
             clear c37
             have H' := Aside0.mk H
             clear H
             have p129 : 0 ≤ (x8_2 : Int) := td
             have q129 : x8_2 < (l0.length : Int) := td
             obtain ⟨ad129, e129, hx129_0, hx129_1⟩ := at_T25 HR0.out x8_2 p129 q129
             cases e129
             replace hx129_0 := tcl HB hx129_0
             replace hx129_1 := tcl HB hx129_1
             replace p129 := eq_true p129
             replace q129 := eq_true q129
             obtain ⟨hcz38_0, hcz38_1, hfz38_0, hfz38_1⟩ := cells2 BK111.out
             go_wp2
             repeat (go_quiet (fail); try go_wp2)
             go_roundg kj17
             case measure => have := HJ2.out; have := HK2.out; have := HJ17.out; omega
             case rel => exact ⟨(x6_2), (x7_2), (wrap64 (x8_2 + 1)), tr, tr, H', ⟨by have := HJ2.out; have := HK2.out; have := HJ17.out; omega⟩, ⟨tR HO_6.out⟩, ⟨tH BK111.out⟩, ⟨zb⟩⟩
            ·rw [if_neg c37] at H
             have c37b0 : (((rd_T25 l0 x8_2).f0).toList == a1_0.toList) = false := beq_eq_false_iff_ne.mpr c37
             have c37b1 : (((rd_T25 l0 x8_2).f0).toList != a1_0.toList) = true := bne_iff_ne.mpr c37
             by_cases c39 : x6_2.length < 5864062014805
             ·rw [if_pos c39] at H
              have LMc39 := Aside0.mk c39
              clear c39
              obtain ⟨y131, hy131⟩ : ∃ y_ : List (S25), y_ = (x6_2 ++ [(⟨(rd_T25 l0 x8_2).f0, (rd_T25 l0 x8_2).f1⟩ : S25)]) := ⟨_, rfl⟩
              replace H : (spec_GroupsPut.l0 kj17 l0 y131 x7_2 (wrap64 (x8_2 + 1)) a1_0 a1_1) = some (r1, r2) := by first | (rw [hy131]; with_reducible exact H) | (have H2_ := (Option.bind_some _ _).symm.trans H; rw [hy131]; with_reducible exact H2_) | (have H2_ := (Option.bind_some _ _).symm.trans H; with_reducible exact H2_) | with_reducible exact H | (rw [hy131]; exact H) | exact H
              have Ny131 := Aside0.mk hy131
              clear hy131
              have H' := Aside0.mk H
              clear H
              have p129 : 0 ≤ (x8_2 : Int) := td
              have q129 : x8_2 < (l0.length : Int) := td
              obtain ⟨ad129, e129, hx129_0, hx129_1⟩ := at_T25 HR0.out x8_2 p129 q129
              cases e129
              replace hx129_0 := tcl HB hx129_0
              replace hx129_1 := tcl HB hx129_1
              replace p129 := eq_true p129
              replace q129 := eq_true q129
              obtain ⟨hcz40_0, hcz40_1, hfz40_0, hfz40_1⟩ := cells2 BK111.out
              have p130 : 0 ≤ (x8_2 : Int) := td
              have q130 : x8_2 < (l0.length : Int) := td
              obtain ⟨ad130, e130, hx130_0, hx130_1⟩ := at_T25 HR0.out x8_2 p130 q130
              obtain rfl : ad129 = ad130 := (by injection e130)
              replace hx130_0 := tcl HB hx130_0
              replace hx130_1 := tcl HB hx130_1
              replace p130 := eq_true p130
              replace q130 := eq_true q130
              go_wp2_with (first | ((with_reducible refine gate_builtin (b := .append) (xs := #[.tmp 49, .tmp 54]) rfl ?_); at_builtin; refine Kd.R_append k25 (w0 := w) w.heap.size rfl (.tmp 49) (.tmp 54) 23 25 (.agg #[(.string ⟨#[]⟩), (.int .i64 0)]) 24 rfl Try.underlying23 info25 rfl (by decide) (by omega) u6 x6_2 (⟨(rd_T25 l0 x8_2).f0, (rd_T25 l0 x8_2).f1⟩ : S25) [.string ((rd_T25 l0 x8_2).f0), .int .i64 ((rd_T25 l0 x8_2).f1)] (fun k_ => k_ ≠ gb111) (fun _ => False) rfl rfl ?aP (fun _ hk => hk.elim) ?aF ?aO ?aB ?aS ?aL ?_; (case aP => exact k25_mkM _ _ _ (⟨(rd_T25 l0 x8_2).f0, (rd_T25 l0 x8_2).f1⟩ : S25)); (case aB => exact zb); (case aF => exact (fun k_ hk => tfB BK111 k_ hk)); (case aO => exact (tR HO_6.out)); (case aS => exact (below_size zb)); (case aL => have := LMc39.out; omega); intro v132 w41 ho hb hg hat; rw [← Ny131.out] at ho; replace BK111 := Aside0.mk (blk_grown (tH BK111.out) hg (Kd.R_away HO_6.out (fun _ hk => hk))); replace HB := Aside0.mk (hb); have HO133 := Aside0.mk (ho); clear HO_6; clear ho hb hg hat))
              repeat (go_quiet (first | ((with_reducible refine gate_builtin (b := .append) (xs := #[.tmp 49, .tmp 54]) rfl ?_); at_builtin; refine Kd.R_append k25 (w0 := w) w.heap.size rfl (.tmp 49) (.tmp 54) 23 25 (.agg #[(.string ⟨#[]⟩), (.int .i64 0)]) 24 rfl Try.underlying23 info25 rfl (by decide) (by omega) u6 x6_2 (⟨(rd_T25 l0 x8_2).f0, (rd_T25 l0 x8_2).f1⟩ : S25) [.string ((rd_T25 l0 x8_2).f0), .int .i64 ((rd_T25 l0 x8_2).f1)] (fun k_ => k_ ≠ gb111) (fun _ => False) rfl rfl ?aP (fun _ hk => hk.elim) ?aF ?aO ?aB ?aS ?aL ?_; (case aP => exact k25_mkM _ _ _ (⟨(rd_T25 l0 x8_2).f0, (rd_T25 l0 x8_2).f1⟩ : S25)); (case aB => exact zb); (case aF => exact (fun k_ hk => tfB BK111 k_ hk)); (case aO => exact (tR HO_6.out)); (case aS => exact (below_size zb)); (case aL => have := LMc39.out; omega); intro v132 w41 ho hb hg hat; rw [← Ny131.out] at ho; replace BK111 := Aside0.mk (blk_grown (tH BK111.out) hg (Kd.R_away HO_6.out (fun _ hk => hk))); replace HB := Aside0.mk (hb); have HO133 := Aside0.mk (ho); clear HO_6; clear ho hb hg hat)); try go_wp2_with (first | ((with_reducible refine gate_builtin (b := .append) (xs := #[.tmp 49, .tmp 54]) rfl ?_); at_builtin; refine Kd.R_append k25 (w0 := w) w.heap.size rfl (.tmp 49) (.tmp 54) 23 25 (.agg #[(.string ⟨#[]⟩), (.int .i64 0)]) 24 rfl Try.underlying23 info25 rfl (by decide) (by omega) u6 x6_2 (⟨(rd_T25 l0 x8_2).f0, (rd_T25 l0 x8_2).f1⟩ : S25) [.string ((rd_T25 l0 x8_2).f0), .int .i64 ((rd_T25 l0 x8_2).f1)] (fun k_ => k_ ≠ gb111) (fun _ => False) rfl rfl ?aP (fun _ hk => hk.elim) ?aF ?aO ?aB ?aS ?aL ?_; (case aP => exact k25_mkM _ _ _ (⟨(rd_T25 l0 x8_2).f0, (rd_T25 l0 x8_2).f1⟩ : S25)); (case aB => exact zb); (case aF => exact (fun k_ hk => tfB BK111 k_ hk)); (case aO => exact (tR HO_6.out)); (case aS => exact (below_size zb)); (case aL => have := LMc39.out; omega); intro v132 w41 ho hb hg hat; rw [← Ny131.out] at ho; replace BK111 := Aside0.mk (blk_grown (tH BK111.out) hg (Kd.R_away HO_6.out (fun _ hk => hk))); replace HB := Aside0.mk (hb); have HO133 := Aside0.mk (ho); clear HO_6; clear ho hb hg hat)))
              go_roundg kj17
              case measure => have := HJ2.out; have := HK2.out; have := HJ17.out; omega
              case rel => exact ⟨(y131), (x7_2), (wrap64 (x8_2 + 1)), tr, tr, H', ⟨by have := HJ2.out; have := HK2.out; have := HJ17.out; omega⟩, ⟨tR HO133.out⟩, ⟨tH BK111.out⟩, ⟨zb⟩⟩
             ·rw [if_neg c39] at H
              exact absurd H (by simp)
           ·rw [if_neg c36] at H
            exact absurd H (by simp)
          ·rw [if_neg c35] at H
           exact absurd H (by simp)
      ·rw [if_neg c17] at H
       have c17b0 : decide (x8_2 < (l0.length : Int)) = false := decide_eq_false c17
       clear c17
       by_cases c42 : x7_2 = true
       ·subst c42
        rw [if_pos rfl] at H
        by_cases c43 : (x6_2.length : Int) > 8
        ·rw [if_pos c43] at H
         have c43b0 : decide (8 < (x6_2.length : Int)) = true := decide_eq_true c43
         have c43b1 : decide (8 < x6_2.length) = true := decide_eq_true (by omega)
         clear c43
         obtain ⟨y134, hy134⟩ : ∃ y_ : List (S25), y_ = (([] : List (S25))) := ⟨_, rfl⟩
         replace H : (some (y134, false)) = some (r1, r2) := by first | (rw [hy134]; with_reducible exact H) | (have H2_ := (Option.bind_some _ _).symm.trans H; rw [hy134]; with_reducible exact H2_) | (have H2_ := (Option.bind_some _ _).symm.trans H; with_reducible exact H2_) | with_reducible exact H | (rw [hy134]; exact H) | exact H
         have Ny134 := Aside0.mk hy134
         clear hy134
         simp only [Option.some.injEq, Prod.mk.injEq] at H
         obtain ⟨rfl, rfl⟩ := H
         obtain ⟨Ao44, co44, eo44⟩ := Kd.R_slice HO_6.out
         subst eo44
         go_wp2_with (first | ((with_reducible refine gate_dst (N := 65) rfl ?_); refine Kd.R_lit k25 _ 25 ?hg (N := 65) ?hd (xs := ([] : List (S25))) (inner := []) (ok := fun _ => True) (okp := fun _ => True) ?hr ?hp (fun _ hk => hk) trivial (Below.refl _ _) (Nat.le_refl _) (by simp) ?_; (case hd => rfl); (case hg => rfl); (case hr => first | (go_simp; done) | (go_simp; rfl)); (case hp => exact (Reps.none _ _)); intro v135 w45 ho46 hb hg_ hnew_; clear hg_ hnew_; (first | rw [← Ny134.out] at ho46 | (simp only [Int.reduceToNat] at ho46; rw [← Ny134.out] at ho46)); have HO136 := Aside0.mk (Kd.R_lower (Kd.R_newB (Kd.R_new' ho46 (Kd.R_lt (tR HO_6.out))) (g := gb111) (o := .cells #[.string a1_0, .int .i64 a1_1] 25 (0, 0)) (tH BK111.out)) (below_size zb)); replace HO_6 := Aside0.mk (Kd.R_elder' (tR HO_6.out) (Kd.R_base ho46) hb); replace BK111 := tBb BK111 hb; replace HB := tBs HB hb; clear hb ho46))
         repeat (go_quiet (first | ((with_reducible refine gate_dst (N := 65) rfl ?_); refine Kd.R_lit k25 _ 25 ?hg (N := 65) ?hd (xs := ([] : List (S25))) (inner := []) (ok := fun _ => True) (okp := fun _ => True) ?hr ?hp (fun _ hk => hk) trivial (Below.refl _ _) (Nat.le_refl _) (by simp) ?_; (case hd => rfl); (case hg => rfl); (case hr => first | (go_simp; done) | (go_simp; rfl)); (case hp => exact (Reps.none _ _)); intro v135 w45 ho46 hb hg_ hnew_; clear hg_ hnew_; (first | rw [← Ny134.out] at ho46 | (simp only [Int.reduceToNat] at ho46; rw [← Ny134.out] at ho46)); have HO136 := Aside0.mk (Kd.R_lower (Kd.R_newB (Kd.R_new' ho46 (Kd.R_lt (tR HO_6.out))) (g := gb111) (o := .cells #[.string a1_0, .int .i64 a1_1] 25 (0, 0)) (tH BK111.out)) (below_size zb)); replace HO_6 := Aside0.mk (Kd.R_elder' (tR HO_6.out) (Kd.R_base ho46) hb); replace BK111 := tBb BK111 hb; replace HB := tBs HB hb; clear hb ho46)); try go_wp2_with (first | ((with_reducible refine gate_dst (N := 65) rfl ?_); refine Kd.R_lit k25 _ 25 ?hg (N := 65) ?hd (xs := ([] : List (S25))) (inner := []) (ok := fun _ => True) (okp := fun _ => True) ?hr ?hp (fun _ hk => hk) trivial (Below.refl _ _) (Nat.le_refl _) (by simp) ?_; (case hd => rfl); (case hg => rfl); (case hr => first | (go_simp; done) | (go_simp; rfl)); (case hp => exact (Reps.none _ _)); intro v135 w45 ho46 hb hg_ hnew_; clear hg_ hnew_; (first | rw [← Ny134.out] at ho46 | (simp only [Int.reduceToNat] at ho46; rw [← Ny134.out] at ho46)); have HO136 := Aside0.mk (Kd.R_lower (Kd.R_newB (Kd.R_new' ho46 (Kd.R_lt (tR HO_6.out))) (g := gb111) (o := .cells #[.string a1_0, .int .i64 a1_1] 25 (0, 0)) (tH BK111.out)) (below_size zb)); replace HO_6 := Aside0.mk (Kd.R_elder' (tR HO_6.out) (Kd.R_base ho46) hb); replace BK111 := tBb BK111 hb; replace HB := tBs HB hb; clear hb ho46)))
         go_ret2
         exact ⟨_, by first | rfl | (simp [errW_none, errW_some] <;> rfl) | (simp [*, errW_none, errW_some] <;> rfl), tRm HO136.out, zb⟩
        ·rw [if_neg c43] at H
         have c43b0 : decide (8 < (x6_2.length : Int)) = false := decide_eq_false c43
         have c43b1 : decide (8 < x6_2.length) = false := decide_eq_false (by omega)
         clear c43
         simp only [Option.some.injEq, Prod.mk.injEq] at H
         obtain ⟨rfl, rfl⟩ := H
         obtain ⟨Ao47, co47, eo47⟩ := Kd.R_slice HO_6.out
         subst eo47
         go_wp2
         repeat (go_quiet (fail); try go_wp2)
         go_ret2
         exact ⟨_, by first | rfl | (simp [errW_none, errW_some] <;> rfl) | (simp [*, errW_none, errW_some] <;> rfl), tRm HO_6.out, zb⟩
       ·replace c42 := Bool.eq_false_iff.mpr c42
        subst c42
        rw [if_neg (show ¬ (false = true) by decide)] at H
        by_cases c48 : x6_2.length < 5864062014805
        ·rw [if_pos c48] at H
         have LMc48 := Aside0.mk c48
         clear c48
         obtain ⟨y137, hy137⟩ : ∃ y_ : List (S25), y_ = (x6_2 ++ [(⟨a1_0, a1_1⟩ : S25)]) := ⟨_, rfl⟩
         replace H : (if (y137.length : Int) > 8 then (some ((([] : List (S25))), false)) else (some (y137, true))) = some (r1, r2) := by first | (rw [hy137]; with_reducible exact H) | (have H2_ := (Option.bind_some _ _).symm.trans H; rw [hy137]; with_reducible exact H2_) | (have H2_ := (Option.bind_some _ _).symm.trans H; with_reducible exact H2_) | with_reducible exact H | (rw [hy137]; exact H) | exact H
         have Ny137 := Aside0.mk hy137
         clear hy137
         by_cases c49 : (y137.length : Int) > 8
         ·rw [if_pos c49] at H
          have c49b0 : decide (8 < (y137.length : Int)) = true := decide_eq_true c49
          have c49b1 : decide (8 < y137.length) = true := decide_eq_true (by omega)
          clear c49
          obtain ⟨y140, hy140⟩ : ∃ y_ : List (S25), y_ = (([] : List (S25))) := ⟨_, rfl⟩
          replace H : (some (y140, false)) = some (r1, r2) := by first | (rw [hy140]; with_reducible exact H) | (have H2_ := (Option.bind_some _ _).symm.trans H; rw [hy140]; with_reducible exact H2_) | (have H2_ := (Option.bind_some _ _).symm.trans H; with_reducible exact H2_) | with_reducible exact H | (rw [hy140]; exact H) | exact H
          have Ny140 := Aside0.mk hy140
          clear hy140
          simp only [Option.some.injEq, Prod.mk.injEq] at H
          obtain ⟨rfl, rfl⟩ := H
          obtain ⟨hcz50_0, hcz50_1, hfz50_0, hfz50_1⟩ := cells2 BK111.out
          go_wp2_with (first | ((with_reducible refine gate_builtin (b := .append) (xs := #[.tmp 58, .tmp 60]) rfl ?_); at_builtin; refine Kd.R_append k25 (w0 := w) w.heap.size rfl (.tmp 58) (.tmp 60) 23 25 (.agg #[(.string ⟨#[]⟩), (.int .i64 0)]) 24 rfl Try.underlying23 info25 rfl (by decide) (by omega) u6 x6_2 (⟨a1_0, a1_1⟩ : S25) [.string a1_0, .int .i64 a1_1] (fun k_ => k_ ≠ gb111) (fun _ => False) rfl rfl ?aP (fun _ hk => hk.elim) ?aF ?aO ?aB ?aS ?aL ?_; (case aP => exact k25_mkM _ _ _ (⟨a1_0, a1_1⟩ : S25)); (case aB => exact zb); (case aF => exact (fun k_ hk => tfB BK111 k_ hk)); (case aO => exact (tR HO_6.out)); (case aS => exact (below_size zb)); (case aL => have := LMc48.out; omega); intro v138 w51 ho hb hg hat; rw [← Ny137.out] at ho; replace BK111 := Aside0.mk (blk_grown (tH BK111.out) hg (Kd.R_away HO_6.out (fun _ hk => hk))); replace HB := Aside0.mk (hb); have HO139 := Aside0.mk (ho); clear HO_6; clear ho hb hg hat; obtain ⟨Ao52, co52, eo52⟩ := Kd.R_slice HO139.out; subst eo52) | ((with_reducible refine gate_dst (N := 65) rfl ?_); refine Kd.R_lit k25 _ 25 ?hg (N := 65) ?hd (xs := ([] : List (S25))) (inner := []) (ok := fun _ => True) (okp := fun _ => True) ?hr ?hp (fun _ hk => hk) trivial (Below.refl _ _) (Nat.le_refl _) (by simp) ?_; (case hd => rfl); (case hg => rfl); (case hr => first | (go_simp; done) | (go_simp; rfl)); (case hp => exact (Reps.none _ _)); intro v141 w53 ho54 hb hg_ hnew_; clear hg_ hnew_; (first | rw [← Ny140.out] at ho54 | (simp only [Int.reduceToNat] at ho54; rw [← Ny140.out] at ho54)); have HO142 := Aside0.mk (Kd.R_lower (Kd.R_newB (Kd.R_new' ho54 (Kd.R_lt (tR HO139.out))) (g := gb111) (o := .cells #[.string a1_0, .int .i64 a1_1] 25 (0, 0)) (tH BK111.out)) (below_size zb)); replace HO139 := Aside0.mk (Kd.R_elder' (tR HO139.out) (Kd.R_base ho54) hb); replace BK111 := tBb BK111 hb; replace HB := tBs HB hb; clear hb ho54))
          repeat (go_quiet (first | ((with_reducible refine gate_builtin (b := .append) (xs := #[.tmp 58, .tmp 60]) rfl ?_); at_builtin; refine Kd.R_append k25 (w0 := w) w.heap.size rfl (.tmp 58) (.tmp 60) 23 25 (.agg #[(.string ⟨#[]⟩), (.int .i64 0)]) 24 rfl Try.underlying23 info25 rfl (by decide) (by omega) u6 x6_2 (⟨a1_0, a1_1⟩ : S25) [.string a1_0, .int .i64 a1_1] (fun k_ => k_ ≠ gb111) (fun _ => False) rfl rfl ?aP (fun _ hk => hk.elim) ?aF ?aO ?aB ?aS ?aL ?_; (case aP => exact k25_mkM _ _ _ (⟨a1_0, a1_1⟩ : S25)); (case aB => exact zb); (case aF => exact (fun k_ hk => tfB BK111 k_ hk)); (case aO => exact (tR HO_6.out)); (case aS => exact (below_size zb)); (case aL => have := LMc48.out; omega); intro v138 w51 ho hb hg hat; rw [← Ny137.out] at ho; replace BK111 := Aside0.mk (blk_grown (tH BK111.out) hg (Kd.R_away HO_6.out (fun _ hk => hk))); replace HB := Aside0.mk (hb); have HO139 := Aside0.mk (ho); clear HO_6; clear ho hb hg hat; obtain ⟨Ao52, co52, eo52⟩ := Kd.R_slice HO139.out; subst eo52) | ((with_reducible refine gate_dst (N := 65) rfl ?_); refine Kd.R_lit k25 _ 25 ?hg (N := 65) ?hd (xs := ([] : List (S25))) (inner := []) (ok := fun _ => True) (okp := fun _ => True) ?hr ?hp (fun _ hk => hk) trivial (Below.refl _ _) (Nat.le_refl _) (by simp) ?_; (case hd => rfl); (case hg => rfl); (case hr => first | (go_simp; done) | (go_simp; rfl)); (case hp => exact (Reps.none _ _)); intro v141 w53 ho54 hb hg_ hnew_; clear hg_ hnew_; (first | rw [← Ny140.out] at ho54 | (simp only [Int.reduceToNat] at ho54; rw [← Ny140.out] at ho54)); have HO142 := Aside0.mk (Kd.R_lower (Kd.R_newB (Kd.R_new' ho54 (Kd.R_lt (tR HO139.out))) (g := gb111) (o := .cells #[.string a1_0, .int .i64 a1_1] 25 (0, 0)) (tH BK111.out)) (below_size zb)); replace HO139 := Aside0.mk (Kd.R_elder' (tR HO139.out) (Kd.R_base ho54) hb); replace BK111 := tBb BK111 hb; replace HB := tBs HB hb; clear hb ho54)); try go_wp2_with (first | ((with_reducible refine gate_builtin (b := .append) (xs := #[.tmp 58, .tmp 60]) rfl ?_); at_builtin; refine Kd.R_append k25 (w0 := w) w.heap.size rfl (.tmp 58) (.tmp 60) 23 25 (.agg #[(.string ⟨#[]⟩), (.int .i64 0)]) 24 rfl Try.underlying23 info25 rfl (by decide) (by omega) u6 x6_2 (⟨a1_0, a1_1⟩ : S25) [.string a1_0, .int .i64 a1_1] (fun k_ => k_ ≠ gb111) (fun _ => False) rfl rfl ?aP (fun _ hk => hk.elim) ?aF ?aO ?aB ?aS ?aL ?_; (case aP => exact k25_mkM _ _ _ (⟨a1_0, a1_1⟩ : S25)); (case aB => exact zb); (case aF => exact (fun k_ hk => tfB BK111 k_ hk)); (case aO => exact (tR HO_6.out)); (case aS => exact (below_size zb)); (case aL => have := LMc48.out; omega); intro v138 w51 ho hb hg hat; rw [← Ny137.out] at ho; replace BK111 := Aside0.mk (blk_grown (tH BK111.out) hg (Kd.R_away HO_6.out (fun _ hk => hk))); replace HB := Aside0.mk (hb); have HO139 := Aside0.mk (ho); clear HO_6; clear ho hb hg hat; obtain ⟨Ao52, co52, eo52⟩ := Kd.R_slice HO139.out; subst eo52) | ((with_reducible refine gate_dst (N := 65) rfl ?_); refine Kd.R_lit k25 _ 25 ?hg (N := 65) ?hd (xs := ([] : List (S25))) (inner := []) (ok := fun _ => True) (okp := fun _ => True) ?hr ?hp (fun _ hk => hk) trivial (Below.refl _ _) (Nat.le_refl _) (by simp) ?_; (case hd => rfl); (case hg => rfl); (case hr => first | (go_simp; done) | (go_simp; rfl)); (case hp => exact (Reps.none _ _)); intro v141 w53 ho54 hb hg_ hnew_; clear hg_ hnew_; (first | rw [← Ny140.out] at ho54 | (simp only [Int.reduceToNat] at ho54; rw [← Ny140.out] at ho54)); have HO142 := Aside0.mk (Kd.R_lower (Kd.R_newB (Kd.R_new' ho54 (Kd.R_lt (tR HO139.out))) (g := gb111) (o := .cells #[.string a1_0, .int .i64 a1_1] 25 (0, 0)) (tH BK111.out)) (below_size zb)); replace HO139 := Aside0.mk (Kd.R_elder' (tR HO139.out) (Kd.R_base ho54) hb); replace BK111 := tBb BK111 hb; replace HB := tBs HB hb; clear hb ho54)))
          go_ret2
          exact ⟨_, by first | rfl | (simp [errW_none, errW_some] <;> rfl) | (simp [*, errW_none, errW_some] <;> rfl), tRm HO142.out, zb⟩
         ·rw [if_neg c49] at H
          have c49b0 : decide (8 < (y137.length : Int)) = false := decide_eq_false c49
          have c49b1 : decide (8 < y137.length) = false := decide_eq_false (by omega)
          clear c49
          simp only [Option.some.injEq, Prod.mk.injEq] at H
          obtain ⟨rfl, rfl⟩ := H
          obtain ⟨hcz55_0, hcz55_1, hfz55_0, hfz55_1⟩ := cells2 BK111.out
          go_wp2_with (first | ((with_reducible refine gate_builtin (b := .append) (xs := #[.tmp 58, .tmp 60]) rfl ?_); at_builtin; refine Kd.R_append k25 (w0 := w) w.heap.size rfl (.tmp 58) (.tmp 60) 23 25 (.agg #[(.string ⟨#[]⟩), (.int .i64 0)]) 24 rfl Try.underlying23 info25 rfl (by decide) (by omega) u6 x6_2 (⟨a1_0, a1_1⟩ : S25) [.string a1_0, .int .i64 a1_1] (fun k_ => k_ ≠ gb111) (fun _ => False) rfl rfl ?aP (fun _ hk => hk.elim) ?aF ?aO ?aB ?aS ?aL ?_; (case aP => exact k25_mkM _ _ _ (⟨a1_0, a1_1⟩ : S25)); (case aB => exact zb); (case aF => exact (fun k_ hk => tfB BK111 k_ hk)); (case aO => exact (tR HO_6.out)); (case aS => exact (below_size zb)); (case aL => have := LMc48.out; omega); intro v138 w56 ho hb hg hat; rw [← Ny137.out] at ho; replace BK111 := Aside0.mk (blk_grown (tH BK111.out) hg (Kd.R_away HO_6.out (fun _ hk => hk))); replace HB := Aside0.mk (hb); have HO139 := Aside0.mk (ho); clear HO_6; clear ho hb hg hat; obtain ⟨Ao57, co57, eo57⟩ := Kd.R_slice HO139.out; subst eo57))
          repeat (go_quiet (first | ((with_reducible refine gate_builtin (b := .append) (xs := #[.tmp 58, .tmp 60]) rfl ?_); at_builtin; refine Kd.R_append k25 (w0 := w) w.heap.size rfl (.tmp 58) (.tmp 60) 23 25 (.agg #[(.string ⟨#[]⟩), (.int .i64 0)]) 24 rfl Try.underlying23 info25 rfl (by decide) (by omega) u6 x6_2 (⟨a1_0, a1_1⟩ : S25) [.string a1_0, .int .i64 a1_1] (fun k_ => k_ ≠ gb111) (fun _ => False) rfl rfl ?aP (fun _ hk => hk.elim) ?aF ?aO ?aB ?aS ?aL ?_; (case aP => exact k25_mkM _ _ _ (⟨a1_0, a1_1⟩ : S25)); (case aB => exact zb); (case aF => exact (fun k_ hk => tfB BK111 k_ hk)); (case aO => exact (tR HO_6.out)); (case aS => exact (below_size zb)); (case aL => have := LMc48.out; omega); intro v138 w56 ho hb hg hat; rw [← Ny137.out] at ho; replace BK111 := Aside0.mk (blk_grown (tH BK111.out) hg (Kd.R_away HO_6.out (fun _ hk => hk))); replace HB := Aside0.mk (hb); have HO139 := Aside0.mk (ho); clear HO_6; clear ho hb hg hat; obtain ⟨Ao57, co57, eo57⟩ := Kd.R_slice HO139.out; subst eo57)); try go_wp2_with (first | ((with_reducible refine gate_builtin (b := .append) (xs := #[.tmp 58, .tmp 60]) rfl ?_); at_builtin; refine Kd.R_append k25 (w0 := w) w.heap.size rfl (.tmp 58) (.tmp 60) 23 25 (.agg #[(.string ⟨#[]⟩), (.int .i64 0)]) 24 rfl Try.underlying23 info25 rfl (by decide) (by omega) u6 x6_2 (⟨a1_0, a1_1⟩ : S25) [.string a1_0, .int .i64 a1_1] (fun k_ => k_ ≠ gb111) (fun _ => False) rfl rfl ?aP (fun _ hk => hk.elim) ?aF ?aO ?aB ?aS ?aL ?_; (case aP => exact k25_mkM _ _ _ (⟨a1_0, a1_1⟩ : S25)); (case aB => exact zb); (case aF => exact (fun k_ hk => tfB BK111 k_ hk)); (case aO => exact (tR HO_6.out)); (case aS => exact (below_size zb)); (case aL => have := LMc48.out; omega); intro v138 w56 ho hb hg hat; rw [← Ny137.out] at ho; replace BK111 := Aside0.mk (blk_grown (tH BK111.out) hg (Kd.R_away HO_6.out (fun _ hk => hk))); replace HB := Aside0.mk (hb); have HO139 := Aside0.mk (ho); clear HO_6; clear ho hb hg hat; obtain ⟨Ao57, co57, eo57⟩ := Kd.R_slice HO139.out; subst eo57)))
          go_ret2
          exact ⟨_, by first | rfl | (simp [errW_none, errW_some] <;> rfl) | (simp [*, errW_none, errW_some] <;> rfl), tRm HO139.out, zb⟩
        ·rw [if_neg c48] at H
         exact absurd H (by simp)

end Go.Proofs.Ytkihdohphddjaaa.G

namespace Go.Proofs.Ytkihdohphddjaaa.G
open Go.RowKit Go.Proofs.YtkihdohphddjaaaW.PrintWords Go.Proofs.YtkihdohphddjaaaW.PrintLast Go.Proofs.YtkihdohphddjaaaW.PrintMore
attribute [local go_sem] max2_int min2_int max_two min_two max_three min_three max_four min_four
set_option linter.unusedVariables false
set_option linter.unusedSimpArgs false
/-! ### laws_FnExactGroupsPut: function 5 -/
mutual
def laws_FnExactGroupsPut.j0 : Nat → List (S34) → List (S25) → Bool → List (S25) → List (S25) → Bool → Bool → ByteArray → Int → Option (Bool)
  | 0, _, _, _, _, _, _, _, _, _ => none
  | k + 1, x0, x6, x7, x8, x9, x10, x51, x198000, x198001 => if x51 = true then (some false) else ((laws_toGroupS.f k x0).bind fun t219 => ((laws_eqGroupS.f k x8 t219).bind fun t222 => (if t222 = true then ((laws_markGroupS.f k x8 1).bind fun bt223 => (if bt223.1 < 0 then (laws_FnExactGroupsPut.j1 k x0 x6 x7 x9 true x198000 x198001) else ((laws_eqGroupS.f k x9 x6).bind fun t225 => (if t225 = true then (laws_FnExactGroupsPut.j1 k x0 x6 x7 x9 (x10 != x7) x198000 x198001) else (laws_FnExactGroupsPut.j1 k x0 x6 x7 x9 true x198000 x198001))))) else (some false))))
def laws_FnExactGroupsPut.j1 : Nat → List (S34) → List (S25) → Bool → List (S25) → Bool → ByteArray → Int → Option (Bool)
  | 0, _, _, _, _, _, _, _ => none
  | k + 1, x0, x6, x7, x9, x72, x198000, x198001 => if x72 = true then (some false) else ((laws_markGroupS.f k x9 1).bind fun bt226 => ((laws_heldGroupS.f k bt226.2 1).bind fun t228 => (if t228 < 0 then (some false) else (if t228 = bt226.1 then ((laws_toGroupS.f k x0).bind fun t229 => ((laws_toGroup.f x198000 x198001).bind fun bt232 => ((impl_GroupsPut.f k t229 bt232.1 bt232.2).bind fun bt234 => ((laws_eqGroupS.f k bt234.1 x6).bind fun t238 => (if t238 = true then (laws_FnExactGroupsPut.j2 k bt226.2 bt226.1 (bt234.2 != x7)) else (laws_FnExactGroupsPut.j2 k bt226.2 bt226.1 true)))))) else (some false)))))
def laws_FnExactGroupsPut.j2 : Nat → List (S25) → Int → Bool → Option (Bool)
  | 0, _, _, _ => none
  | k + 1, x9, x12, x100 => if x100 = true then (some false) else ((laws_heldGroupS.f k x9 1).bind fun t239 => (if t239 < 0 then (some false) else (if t239 = x12 then (some true) else (some false))))
end
def laws_FnExactGroupsPut.f (k : Nat) (l0 : List (S34)) (a1_0 : ByteArray) (a1_1 : Int) : Option (Bool) := (laws_szGroupS.f k l0 1048576).bind fun t198 => (if t198 < 0 then (some true) else ((laws_szGroup.f a1_0 a1_1 t198).bind fun t199 => (if t199 < 0 then (some true) else ((laws_toGroupS.f k l0).bind fun t200 => ((laws_toGroup.f a1_0 a1_1).bind fun bt203 => ((spec_GroupsPut.f k t200 bt203.1 bt203.2).bind fun bt205 => ((laws_toGroupS.f k l0).bind fun t209 => ((laws_toGroup.f a1_0 a1_1).bind fun bt212 => ((impl_GroupsPut.f k t209 bt212.1 bt212.2).bind fun bt214 => ((laws_eqGroupS.f k bt214.1 bt205.1).bind fun t218 => (if t218 = true then (laws_FnExactGroupsPut.j0 k l0 bt205.1 bt205.2 t209 bt214.1 bt214.2 (bt214.2 != bt205.2) a1_0 a1_1) else (laws_FnExactGroupsPut.j0 k l0 bt205.1 bt205.2 t209 bt214.1 bt214.2 true a1_0 a1_1))))))))))))
def laws_FnExactGroupsPut.T8 : Bool × List (List Nat × List Nat) := (true, [([], []), ([0], [0]), ([], []), ([2, 1], [2]), ([1, 3, 3], [1, 3]), ([4], [4]), ([5], [5]), ([5], [5]), ([6, 4, 0, 1, 2, 3, 4, 5, 6], [6]), ([7, 8, 0, 1, 2, 3, 4, 5, 6, 7, 8], [7])])
def laws_FnExactGroupsPut.B8 : List Nat := [0, 1, 0, 7, 15, 31, 63, 63, 127, 511]
theorem laws_FnExactGroupsPut.tab8 : rtab .any (opsOf Try.f5 8) = laws_FnExactGroupsPut.T8 := by kernel_rfl
theorem laws_FnExactGroupsPut.bits8 : waitsOk laws_FnExactGroupsPut.T8.2 laws_FnExactGroupsPut.B8 = true := by kernel_rfl
def laws_FnExactGroupsPut.T27 : Bool × List (List Nat × List Nat) := (true, [([], []), ([0], [0]), ([], []), ([2, 1], [2]), ([1, 3, 3], [1, 3]), ([4], [4]), ([5], [5]), ([5], [5]), ([6, 4, 0, 1, 2, 3, 4, 5, 6], [6]), ([7, 8, 0, 1, 2, 3, 4, 5, 6, 7, 8], [7])])
def laws_FnExactGroupsPut.B27 : List Nat := [0, 1, 0, 7, 15, 31, 63, 63, 127, 511]
theorem laws_FnExactGroupsPut.tab27 : rtab .any (opsOf Try.f5 27) = laws_FnExactGroupsPut.T27 := by kernel_rfl
theorem laws_FnExactGroupsPut.bits27 : waitsOk laws_FnExactGroupsPut.T27.2 laws_FnExactGroupsPut.B27 = true := by kernel_rfl
set_option maxHeartbeats 8000000 in
set_option maxRecDepth 100000 in
theorem laws_FnExactGroupsPut.calls (k : Nat) (A0 : Option Addr) (c0 : Nat) (l0 : List (S34)) (a1_0 : ByteArray) (a1_1 : Int) (r : Bool) (w : World) (hr0 : Kd.C k34 w A0 l0.length l0) (hc0 : l0.length ≤ c0) (h : laws_FnExactGroupsPut.f k l0 a1_0 a1_1 = some r) :
    Calls Try.prog 5 #[.slice A0 l0.length c0, .agg #[.string a1_0, .int .i64 a1_1]] w fun e w' => e = .returned (.bool r) ∧ Below w.heap.size w w' := by
  have hu34 := Try.underlying34
  have HR0 := Aside0.mk hr0
  have HC0 := Aside0.mk hc0
  clear hr0 hc0
  have HB := Aside0.mk (Below.refl w.heap.size w)
  have H : ((laws_szGroupS.f k l0 1048576).bind fun t198 => (if t198 < 0 then (some true) else ((laws_szGroup.f a1_0 a1_1 t198).bind fun t199 => (if t199 < 0 then (some true) else ((laws_toGroupS.f k l0).bind fun t200 => ((laws_toGroup.f a1_0 a1_1).bind fun bt203 => ((spec_GroupsPut.f k t200 bt203.1 bt203.2).bind fun bt205 => ((laws_toGroupS.f k l0).bind fun t209 => ((laws_toGroup.f a1_0 a1_1).bind fun bt212 => ((impl_GroupsPut.f k t209 bt212.1 bt212.2).bind fun bt214 => ((laws_eqGroupS.f k bt214.1 bt205.1).bind fun t218 => (if t218 = true then (laws_FnExactGroupsPut.j0 k l0 bt205.1 bt205.2 t209 bt214.1 bt214.2 (bt214.2 != bt205.2) a1_0 a1_1) else (laws_FnExactGroupsPut.j0 k l0 bt205.1 bt205.2 t209 bt214.1 bt214.2 true a1_0 a1_1))))))))))))) = some r := h
  clear h
  replace H := tbe H
  obtain ⟨t198, A3, H⟩ := H
  by_cases c4 : t198 < 0
  · rw [if_pos c4] at H
    have c4b0 : decide (t198 < 0) = true := decide_eq_true c4
    clear c4
    obtain rfl := Option.some.inj H
    go_enter Try.func5, Try.ntmps5
    go_wp2_with (first | ((with_reducible refine gate_dst (N := 3) rfl ?_); refine box_event ?hg (N := 3) ?hd (cs := #[.string a1_0, .int .i64 a1_1]) (t := 34) ?hr ?_; (case hd => rfl); (case hg => rfl); (case hr => first | (go_simp; done) | (go_simp; rfl)); intro gb197 hg w5 hbox hb; have BK197 := Aside0.mk (hbox); have GW197 := tge HB hg; have GE197 := tge HB hg; replace HB := tBs HB hb; clear hb hbox hg) | ((with_reducible refine gate_callee (f := 12) rfl ?_); refine goesL_ (some 18) rfl rfl Try.func12 (by kernel_rfl) rfl #[.slice A0 l0.length c0, .int .i64 1048576] rfl tq ?_; (with_reducible refine (laws_szGroupS.calls k _ _ l0 1048576 t198 _ ?side1 ?side2 A3.out).mono ?_); (case side1 => exact tC (Kd.C_below HR0.out HB.out)); (case side2 => exact HC0.out); rintro e w6 ⟨rfl, hb⟩; refine ⟨_, rfl, ?_⟩; replace BK197 := tBb BK197 hb; replace HB := tBs HB hb; (try clear hb); (try clear hb2); (try clear hk); (try clear hi)))
    all_goals go_ret
    all_goals exact ⟨by first | rfl | (simp [errW_none, errW_some] <;> rfl) | (simp [*, errW_none, errW_some] <;> rfl), zb⟩
  · rw [if_neg c4] at H
    have c4b0 : decide (t198 < 0) = false := decide_eq_false c4
    clear c4
    replace H := tbe H
    obtain ⟨t199, A7, H⟩ := H
    by_cases c8 : t199 < 0
    · rw [if_pos c8] at H
      have c8b0 : decide (t199 < 0) = true := decide_eq_true c8
      clear c8
      obtain rfl := Option.some.inj H
      go_enter Try.func5, Try.ntmps5
      go_wp2_with (first | ((with_reducible refine gate_dst (N := 3) rfl ?_); refine box_event ?hg (N := 3) ?hd (cs := #[.string a1_0, .int .i64 a1_1]) (t := 34) ?hr ?_; (case hd => rfl); (case hg => rfl); (case hr => first | (go_simp; done) | (go_simp; rfl)); intro gb197 hg w9 hbox hb; have BK197 := Aside0.mk (hbox); have GW197 := tge HB hg; have GE197 := tge HB hg; replace HB := tBs HB hb; clear hb hbox hg) | ((with_reducible refine gate_callee (f := 12) rfl ?_); refine goesL_ (some 18) rfl rfl Try.func12 (by kernel_rfl) rfl #[.slice A0 l0.length c0, .int .i64 1048576] rfl tq ?_; (with_reducible refine (laws_szGroupS.calls k _ _ l0 1048576 t198 _ ?side1 ?side2 A3.out).mono ?_); (case side1 => exact tC (Kd.C_below HR0.out HB.out)); (case side2 => exact HC0.out); rintro e w10 ⟨rfl, hb⟩; refine ⟨_, rfl, ?_⟩; replace BK197 := tBb BK197 hb; replace HB := tBs HB hb; (try clear hb); (try clear hb2); (try clear hk); (try clear hi); obtain ⟨hcz11_0, hcz11_1, hfz11_0, hfz11_1⟩ := cells2 BK197.out) | ((with_reducible refine gate_callee (f := 13) rfl ?_); refine goesL_ (some 23) rfl rfl Try.func13 (by kernel_rfl) rfl #[.agg #[.string a1_0, .int .i64 a1_1], .int .i64 t198] rfl tq ?_; (with_reducible refine (laws_szGroup.calls a1_0 a1_1 t198 t199 _ A7.out).mono ?_); rintro e w12 ⟨rfl, hb⟩; refine ⟨_, rfl, ?_⟩; replace BK197 := tBb BK197 hb; replace HB := tBs HB hb; (try clear hb); (try clear hb2); (try clear hk); (try clear hi)))
      all_goals go_ret
      all_goals exact ⟨by first | rfl | (simp [errW_none, errW_some] <;> rfl) | (simp [*, errW_none, errW_some] <;> rfl), zb⟩
    · rw [if_neg c8] at H
      have c8b0 : decide (t199 < 0) = false := decide_eq_false c8
      clear c8
      replace H := tbe H
      obtain ⟨t200, A13, H⟩ := H
      replace H := tbe H
      obtain ⟨⟨t203, t204⟩, A14, H⟩ := H
      dsimp only at H
      replace H := tbe H
      obtain ⟨⟨t205, t208⟩, A15, H⟩ := H
      dsimp only at H
      replace H := tbe H
      obtain ⟨t209, A16, H⟩ := H
      replace H := tbe H
      obtain ⟨⟨t212, t213⟩, A17, H⟩ := H
      dsimp only at H
      replace H := tbe H
      obtain ⟨⟨t214, t217⟩, A18, H⟩ := H
      dsimp only at H
      have HC19 := Aside0.mk H
      clear H
      go_enter Try.func5, Try.ntmps5
      try go_wp2_with (first | ((with_reducible refine gate_dst (N := 3) rfl ?_); refine box_event ?hg (N := 3) ?hd (cs := #[.string a1_0, .int .i64 a1_1]) (t := 34) ?hr ?_; (case hd => rfl); (case hg => rfl); (case hr => first | (go_simp; done) | (go_simp; rfl)); intro gb197 hg w20 hbox hb; have BK197 := Aside0.mk (hbox); have GW197 := tge HB hg; have GE197 := tge HB hg; replace HB := tBs HB hb; clear hb hbox hg) | ((with_reducible refine gate_callee (f := 12) rfl ?_); refine goesL_ (some 18) rfl rfl Try.func12 (by kernel_rfl) rfl #[.slice A0 l0.length c0, .int .i64 1048576] rfl tq ?_; (with_reducible refine (laws_szGroupS.calls k _ _ l0 1048576 t198 _ ?side1 ?side2 A3.out).mono ?_); (case side1 => exact tC (Kd.C_below HR0.out HB.out)); (case side2 => exact HC0.out); rintro e w21 ⟨rfl, hb⟩; refine ⟨_, rfl, ?_⟩; replace BK197 := tBb BK197 hb; replace HB := tBs HB hb; (try clear hb); (try clear hb2); (try clear hk); (try clear hi); obtain ⟨hcz22_0, hcz22_1, hfz22_0, hfz22_1⟩ := cells2 BK197.out) | ((with_reducible refine gate_callee (f := 13) rfl ?_); refine goesL_ (some 23) rfl rfl Try.func13 (by kernel_rfl) rfl #[.agg #[.string a1_0, .int .i64 a1_1], .int .i64 t198] rfl tq ?_; (with_reducible refine (laws_szGroup.calls a1_0 a1_1 t198 t199 _ A7.out).mono ?_); rintro e w23 ⟨rfl, hb⟩; refine ⟨_, rfl, ?_⟩; replace BK197 := tBb BK197 hb; replace HB := tBs HB hb; (try clear hb); (try clear hb2); (try clear hk); (try clear hi)))
      replace BK197 := Aside0.mk (blk_drew BK197.out)
      replace HB := Aside0.mk (below_drew1 HB.out)
      refine start_ (n := 10) (S := fun w' => w'.cell? ⟨gb197, 0, none⟩ = some (.string a1_0) ∧ w'.cell? ⟨gb197, 1, none⟩ = some (.int .i64 a1_1)) (ds := []) #[false, false, false, false, false, false, false, false, false, false] (by kernel_rfl) rfl rfl ⟨(blk_cell BK197.out 0).trans rfl, (blk_cell BK197.out 1).trans rfl⟩ (fun hHeld => ?_); refine with_tabW laws_FnExactGroupsPut.tab8 laws_FnExactGroupsPut.bits8 (fun HT_ HW_ => ?_)
      generalize w23.drew = w24 at BK197 HB hHeld ⊢
      refine tpu 0 (some 27) #[true, false, false, false, false, false, false, false, false, false] ?_
      refine tta 2 (some 29) #[true, false, true, false, false, false, false, false, false, false] hHeld ?_ (hy := by rintro w' ⟨s0, s1⟩; go_simp; with_reducible rfl)
      refine one_ (i := 1) (N := some 28) #[true, true, true, false, false, false, false, false, false, false] rfl rfl (one_of HT_.out (by kernel_rfl)) (by decide) (fun K hK => ?_)
      refine goes_ Try.func14 (by kernel_rfl) rfl #[.slice A0 l0.length c0] (by rfl) rfl rfl tq ?_
      with_reducible refine (laws_toGroupS.calls k _ _ l0 t200 _ ?side1 ?side2 A13.out).mono ?_
      (case side1 => exact tC (Kd.C_below HR0.out HB.out))
      (case side2 => exact HC0.out)
      rintro e w25 ⟨v201, rfl, ho0, hb⟩
      (try replace ho0 := Kg.R_of ho0)
      refine ⟨_, rfl, ?_⟩
      have HO202 := gRl ho0 HB
      replace BK197 := tBb BK197 hb
      replace HB := tBs HB hb
      (try clear hb)
      (try clear hb2)
      (try clear hk)
      (try clear hi)
      (try clear ho0)
      refine hK.out _ _ ⟨(blk_cell BK197.out 0).trans rfl, (blk_cell BK197.out 1).trans rfl⟩ (fun hHeld => ?_)
      clear hK K
      refine tnm (some 28) ?_
      refine one_ (i := 3) (N := some 30) #[true, true, true, true, false, false, false, false, false, false] rfl rfl (one_of HT_.out (by kernel_rfl)) (by decide) (fun K hK => ?_)
      refine goes_ Try.func15 (by kernel_rfl) rfl #[.agg #[.string a1_0, .int .i64 a1_1]] (by rfl) rfl rfl tq ?_
      with_reducible refine (laws_toGroup.calls a1_0 a1_1 t203 t204 _ A14.out).mono ?_
      rintro e w26 ⟨rfl, hb⟩
      refine ⟨_, rfl, ?_⟩
      replace HO202 := gRb HO202 hb
      replace BK197 := tBb BK197 hb
      replace HB := tBs HB hb
      (try clear hb)
      (try clear hb2)
      (try clear hk)
      (try clear hi)
      obtain ⟨Ao27, co27, eo27⟩ := Kg.R_slice HO202.out
      (first | subst eo27 | (injection eo27 with f1_ f2_ f3_; have f4_ := f1_.symm; have f5_ := f3_.symm; clear f1_ f2_ f3_; subst f4_; subst f5_))
      refine hK.out _ _ ⟨(blk_cell BK197.out 0).trans rfl, (blk_cell BK197.out 1).trans rfl⟩ (fun hHeld => ?_)
      clear hK K
      refine tnm (some 30) ?_
      refine one_ (i := 4) (N := some 31) #[true, true, true, true, true, false, false, false, false, false] rfl rfl (one_of HT_.out (by kernel_rfl)) (by decide) (fun K hK => ?_)
      refine goes_ Try.func9 (by kernel_rfl) rfl #[.slice Ao27 t200.length co27, .agg #[.string t203, .int .i64 t204]] (by rfl) rfl rfl tq ?_
      with_reducible refine (spec_GroupsPut.calls k _ _ t200 t203 t204 t205 t208 _ ?side1 ?side2 A15.out).mono ?_
      (case side1 => repeat (first | exact (Kg.R_reads' HO202.out).2.2 | (with_reducible refine Kd.C_alloc ?_ _) | (with_reducible refine Kd.C_drewN ?_ _) | (with_reducible refine Kd.C_drew ?_)))
      (case side2 => exact (Kg.R_reads' HO202.out).2.1)
      rintro e w28 ⟨v206, rfl, ho0, hb⟩
      (try replace ho0 := Kg.R_of ho0)
      refine ⟨_, rfl, ?_⟩
      have HO207 := Aside0.mk (Kg.R_lower (Kg.R_new' ho0 (Kg.R_lt (gR HO202.out))) (below_size zb))
      replace HO202 := Aside0.mk (Kg.R_elder' (gR HO202.out) (Kg.R_base ho0) hb)
      replace BK197 := tBb BK197 hb
      replace HB := tBs HB hb
      (try clear hb)
      (try clear hb2)
      (try clear hk)
      (try clear hi)
      (try clear ho0)
      refine hK.out _ _ ⟨(blk_cell BK197.out 0).trans rfl, (blk_cell BK197.out 1).trans rfl⟩ (fun hHeld => ?_)
      clear hK K
      refine tnm (some 31) ?_
      refine tpu 5 (some 26) #[true, true, true, true, true, true, false, false, false, false] ?_
      refine tpu 6 (some 32) #[true, true, true, true, true, true, true, false, false, false] ?_
      refine tpu 7 (some 33) #[true, true, true, true, true, true, true, true, false, false] ?_
      refine tpu 8 (some 6) #[true, true, true, true, true, true, true, true, true, false] ?_
      refine tpu 9 (some 7) #[true, true, true, true, true, true, true, true, true, true] ?_
      refine done_ (done_of HT_.out (by kernel_rfl)) ?_
      go_upto_region 11 with (first | ((with_reducible refine gate_callee (f := 14) rfl ?_); refine goesL_ (some 35) rfl rfl Try.func14 (by kernel_rfl) rfl #[.slice A0 l0.length c0] rfl tq ?_; (with_reducible refine (laws_toGroupS.calls k _ _ l0 t209 _ ?side1 ?side2 A16.out).mono ?_); (case side1 => exact tC (Kd.C_below HR0.out HB.out)); (case side2 => exact HC0.out); rintro e w29 ⟨v210, rfl, ho0, hb⟩; (try replace ho0 := Kg.R_of ho0); have u_v210 := gsv Try.prog v210 ho0; refine ⟨_, rfl, ?_⟩; have HO211 := Aside0.mk (Kg.R_lower (Kg.R_new' (Kg.R_new' ho0 (Kg.R_lt (gR HO202.out))) (Kg.R_lt (gR HO207.out))) (below_size zb)); replace HO202 := Aside0.mk (Kg.R_elder' (gR HO202.out) (Kg.R_base ho0) hb); replace HO207 := Aside0.mk (Kg.R_elder' (gR HO207.out) (Kg.R_base ho0) hb); replace BK197 := tBb BK197 hb; replace HB := tBs HB hb; (try clear hb); (try clear hb2); (try clear hk); (try clear hi); (try clear ho0); obtain ⟨hcz30_0, hcz30_1, hfz30_0, hfz30_1⟩ := cells2 BK197.out) | ((with_reducible refine gate_callee (f := 15) rfl ?_); refine goesL_ (some 39) rfl rfl Try.func15 (by kernel_rfl) rfl #[.agg #[.string a1_0, .int .i64 a1_1]] rfl tq ?_; (with_reducible refine (laws_toGroup.calls a1_0 a1_1 t212 t213 _ A17.out).mono ?_); rintro e w31 ⟨rfl, hb⟩; refine ⟨_, rfl, ?_⟩; replace HO202 := gRb HO202 hb; replace HO207 := gRb HO207 hb; replace HO211 := gRb HO211 hb; replace BK197 := tBb BK197 hb; replace HB := tBs HB hb; (try clear hb); (try clear hb2); (try clear hk); (try clear hi); obtain ⟨Ao32, co32, eo32⟩ := Kg.R_slice HO211.out; subst eo32) | ((with_reducible refine gate_callee (f := 8) rfl ?_); refine goesL_ (some 40) rfl rfl Try.func8 (by kernel_rfl) rfl #[.slice Ao32 t209.length co32, .agg #[.string t212, .int .i64 t213]] rfl tq ?_; (with_reducible refine (impl_GroupsPut.callsG k _ _ t209 t212 t213 t214 t217 _ ?side1 ?side2 A18.out).mono ?_); (case side1 => repeat (first | exact (Kg.R_reads' HO211.out).2.2 | (with_reducible refine Kd.C_alloc ?_ _) | (with_reducible refine Kd.C_drewN ?_ _) | (with_reducible refine Kd.C_drew ?_))); (case side2 => exact (Kg.R_reads' HO211.out).2.1); rintro e w33 ⟨v215, rfl, ho0, hb⟩; (try replace ho0 := Kg.R_of ho0); have u_v215 := gsv Try.prog v215 ho0; refine ⟨_, rfl, ?_⟩; have HO216 := Aside0.mk (Kg.R_lower (Kg.R_new' (Kg.R_new' (Kg.R_new' ho0 (Kg.R_lt (gR HO202.out))) (Kg.R_lt (gR HO207.out))) (Kg.R_lt (gR HO211.out))) (below_size zb)); replace HO202 := Aside0.mk (Kg.R_elder' (gR HO202.out) (Kg.R_base ho0) hb); replace HO207 := Aside0.mk (Kg.R_elder' (gR HO207.out) (Kg.R_base ho0) hb); replace HO211 := Aside0.mk (Kg.R_elder' (gR HO211.out) (Kg.R_base ho0) hb); replace BK197 := tBb BK197 hb; replace HB := tBs HB hb; (try clear hb); (try clear hb2); (try clear hk); (try clear hi); (try clear ho0)))
      (try simp only [Act.put, List.setIfInBounds_toArray, List.set_cons_zero, List.set_cons_succ])
      go_cut [51] (fun v51 wc => ∃ (kq : Nat) (x51_18 : Bool), v51 = .bool x51_18 ∧ Aside0 (laws_FnExactGroupsPut.j0 kq l0 t205 t208 t209 t214 t217 x51_18 a1_0 a1_1 = some r) ∧ Aside0 (kq ≤ k) ∧ Aside0 (Kg.R k25 25 wc w.heap.size (fun k_ => some k_ ≠ ((.slice Ao32 t209.length co32) : Value).ownBlock ∧ some k_ ≠ (v215 : Value).ownBlock) v206 t205) ∧ Aside0 (Kg.R k25 25 wc w.heap.size (fun k_ => some k_ ≠ (v206 : Value).ownBlock ∧ some k_ ≠ (v215 : Value).ownBlock) (.slice Ao32 t209.length co32) t209) ∧ Aside0 (Kg.R k25 25 wc w.heap.size (fun k_ => some k_ ≠ (v206 : Value).ownBlock ∧ some k_ ≠ ((.slice Ao32 t209.length co32) : Value).ownBlock) v215 t214) ∧ Aside0 (wc.heap[gb197]? = some (.cells #[.string a1_0, .int .i64 a1_1] 34 (0, 0))) ∧ Aside0 (Below w.heap.size w wc))
      case first =>
        have H := HC19.out
        clear HC19
        replace H := tbe H
        obtain ⟨t218, A34, H⟩ := H
        by_cases c35 : t218 = true
        · subst c35
          rw [if_pos rfl] at H
          have H' := Aside0.mk H
          clear H
          obtain ⟨Ao36, co36, eo36⟩ := Kg.R_slice HO216.out
          subst eo36
          obtain ⟨Ao37, co37, eo37⟩ := Kg.R_slice HO207.out
          subst eo37
          go_wp2_with (first | ((with_reducible refine gate_callee (f := 16) rfl ?_); refine goesL_ (some 45) rfl rfl Try.func16 (by kernel_rfl) rfl #[.slice Ao36 t214.length co36, .slice Ao37 t205.length co37] rfl tq ?_; (with_reducible refine (laws_eqGroupS.calls k _ _ t214 _ _ t205 true _ ?side1 ?side2 ?side3 ?side4 A34.out).mono ?_); (case side1 => repeat (first | exact (Kg.R_reads' HO216.out).2.2 | (with_reducible refine Kd.C_alloc ?_ _) | (with_reducible refine Kd.C_drewN ?_ _) | (with_reducible refine Kd.C_drew ?_))); (case side2 => exact (Kg.R_reads' HO216.out).2.1); (case side3 => repeat (first | exact (Kg.R_reads' HO207.out).2.2 | (with_reducible refine Kd.C_alloc ?_ _) | (with_reducible refine Kd.C_drewN ?_ _) | (with_reducible refine Kd.C_drew ?_))); (case side4 => exact (Kg.R_reads' HO207.out).2.1); rintro e w38 ⟨rfl, hb⟩; refine ⟨_, rfl, ?_⟩; replace HO202 := gRb HO202 hb; replace HO207 := gRb HO207 hb; replace HO211 := gRb HO211 hb; replace HO216 := gRb HO216 hb; replace BK197 := tBb BK197 hb; replace HB := tBs HB hb; (try clear hb); (try clear hb2); (try clear hk); (try clear hi)))
          go_meet
          case rel => exact ⟨_, ((t217 != t208)), tr, H', ⟨by first | omega | exact Nat.le_refl _⟩, ⟨gRm HO207.out⟩, ⟨gRm HO211.out⟩, ⟨gRm HO216.out⟩, ⟨tH BK197.out⟩, ⟨zb⟩⟩
        · replace c35 := Bool.eq_false_iff.mpr c35
          subst c35
          rw [if_neg (show ¬ (false = true) by decide)] at H
          have H' := Aside0.mk H
          clear H
          obtain ⟨Ao39, co39, eo39⟩ := Kg.R_slice HO216.out
          subst eo39
          obtain ⟨Ao40, co40, eo40⟩ := Kg.R_slice HO207.out
          subst eo40
          go_wp2_with (first | ((with_reducible refine gate_callee (f := 16) rfl ?_); refine goesL_ (some 45) rfl rfl Try.func16 (by kernel_rfl) rfl #[.slice Ao39 t214.length co39, .slice Ao40 t205.length co40] rfl tq ?_; (with_reducible refine (laws_eqGroupS.calls k _ _ t214 _ _ t205 false _ ?side1 ?side2 ?side3 ?side4 A34.out).mono ?_); (case side1 => repeat (first | exact (Kg.R_reads' HO216.out).2.2 | (with_reducible refine Kd.C_alloc ?_ _) | (with_reducible refine Kd.C_drewN ?_ _) | (with_reducible refine Kd.C_drew ?_))); (case side2 => exact (Kg.R_reads' HO216.out).2.1); (case side3 => repeat (first | exact (Kg.R_reads' HO207.out).2.2 | (with_reducible refine Kd.C_alloc ?_ _) | (with_reducible refine Kd.C_drewN ?_ _) | (with_reducible refine Kd.C_drew ?_))); (case side4 => exact (Kg.R_reads' HO207.out).2.1); rintro e w41 ⟨rfl, hb⟩; refine ⟨_, rfl, ?_⟩; replace HO202 := gRb HO202 hb; replace HO207 := gRb HO207 hb; replace HO211 := gRb HO211 hb; replace HO216 := gRb HO216 hb; replace BK197 := tBb BK197 hb; replace HB := tBs HB hb; (try clear hb); (try clear hb2); (try clear hk); (try clear hi)))
          go_meet
          case rel => exact ⟨_, (true), tr, H', ⟨by first | omega | exact Nat.le_refl _⟩, ⟨gRm HO207.out⟩, ⟨gRm HO211.out⟩, ⟨gRm HO216.out⟩, ⟨tH BK197.out⟩, ⟨zb⟩⟩
      case rest =>
        clear HC19
        try clear c4; try clear c4b0; try clear c8; try clear c8b0; try clear hcz22_0; try clear hcz22_1; try clear hcz30_0; try clear hcz30_1; try clear hfz22_0; try clear hfz22_1; try clear hfz30_0; try clear hfz30_1
        obtain ⟨kq, x51_18, rfl, HA, HJ18, HO_6, HO_8, HO_9, BK197, HB⟩ := hcut
        cases kq with
        | zero => exact absurd HA.out (by simp [laws_FnExactGroupsPut.j0])
        | succ kj18 =>
          have H := HA.out
          clear HA
          simp only [laws_FnExactGroupsPut.j0] at H
          by_cases c42 : x51_18 = true
          · subst c42
            rw [if_pos rfl] at H
            obtain rfl := Option.some.inj H
            go_wp2
            all_goals go_ret
            all_goals exact ⟨by first | rfl | (simp [errW_none, errW_some] <;> rfl) | (simp [*, errW_none, errW_some] <;> rfl), zb⟩
          · replace c42 := Bool.eq_false_iff.mpr c42
            subst c42
            rw [if_neg (show ¬ (false = true) by decide)] at H
            replace H := tbe H
            obtain ⟨t219, A43, H⟩ := H
            replace H := tbe H
            obtain ⟨t222, A44, H⟩ := H
            by_cases c45 : t222 = true
            · subst c45
              rw [if_pos rfl] at H
              replace H := tbe H
              obtain ⟨⟨t223, t224⟩, A46, H⟩ := H
              dsimp only at H
              have HC47 := Aside0.mk H
              clear H
              go_upto_region 17 with (first | ((with_reducible refine gate_callee (f := 14) rfl ?_); refine goesL_ (some 54) rfl rfl Try.func14 (by kernel_rfl) rfl #[.slice A0 l0.length c0] rfl tq ?_; (with_reducible refine (laws_toGroupS.calls kj18 _ _ l0 t219 _ ?side1 ?side2 A43.out).mono ?_); (case side1 => exact tC (Kd.C_below HR0.out HB.out)); (case side2 => exact HC0.out); rintro e w48 ⟨v220, rfl, ho0, hb⟩; (try replace ho0 := Kg.R_of ho0); have u_v220 := gsv Try.prog v220 ho0; refine ⟨_, rfl, ?_⟩; have HO221 := Aside0.mk (Kg.R_lower (Kg.R_new' (Kg.R_new' (Kg.R_new' ho0 (Kg.R_lt (gR HO_6.out))) (Kg.R_lt (gR HO_8.out))) (Kg.R_lt (gR HO_9.out))) (below_size zb)); replace HO_6 := Aside0.mk (Kg.R_elder' (gR HO_6.out) (Kg.R_base ho0) hb); replace HO_8 := Aside0.mk (Kg.R_elder' (gR HO_8.out) (Kg.R_base ho0) hb); replace HO_9 := Aside0.mk (Kg.R_elder' (gR HO_9.out) (Kg.R_base ho0) hb); replace BK197 := tBb BK197 hb; replace HB := tBs HB hb; (try clear hb); (try clear hb2); (try clear hk); (try clear hi); (try clear ho0); obtain ⟨Ao49, co49, eo49⟩ := Kg.R_slice HO221.out; subst eo49) | ((with_reducible refine gate_callee (f := 16) rfl ?_); refine goesL_ (some 55) rfl rfl Try.func16 (by kernel_rfl) rfl #[.slice Ao32 t209.length co32, .slice Ao49 t219.length co49] rfl tq ?_; (with_reducible refine (laws_eqGroupS.calls kj18 _ _ t209 _ _ t219 true _ ?side1 ?side2 ?side3 ?side4 A44.out).mono ?_); (case side1 => repeat (first | exact (Kg.R_reads' HO_8.out).2.2 | (with_reducible refine Kd.C_alloc ?_ _) | (with_reducible refine Kd.C_drewN ?_ _) | (with_reducible refine Kd.C_drew ?_))); (case side2 => exact (Kg.R_reads' HO_8.out).2.1); (case side3 => repeat (first | exact (Kg.R_reads' HO221.out).2.2 | (with_reducible refine Kd.C_alloc ?_ _) | (with_reducible refine Kd.C_drewN ?_ _) | (with_reducible refine Kd.C_drew ?_))); (case side4 => exact (Kg.R_reads' HO221.out).2.1); rintro e w50 ⟨rfl, hb⟩; refine ⟨_, rfl, ?_⟩; replace HO_6 := gRb HO_6 hb; replace HO_8 := gRb HO_8 hb; replace HO_9 := gRb HO_9 hb; replace HO221 := gRb HO221 hb; replace BK197 := tBb BK197 hb; replace HB := tBs HB hb; (try clear hb); (try clear hb2); (try clear hk); (try clear hi)) | ((with_reducible refine gate_callee (f := 17) rfl ?_); refine goesL_ (some 59) rfl rfl Try.func17 (by kernel_rfl) rfl #[.slice Ao32 t209.length co32, .int .i64 1] rfl tq ?_; (with_reducible refine (laws_markGroupS.callsG kj18 (fun k_ => some k_ = (.slice Ao32 t209.length co32 : Value).ownBlock) (.slice Ao32 t209.length co32) t209 1 t223 t224 w _ ?side1 ?side2 A46.out).mono ?_); (case side1 => exact zb); (case side2 => exact Kg.R_tight rfl HO_8.out); rintro e w51 ⟨rfl, hy0, hb, hkp⟩; refine ⟨_, rfl, ?_⟩; replace HO_6 := Aside0.mk (Kg.R_mono (ok' := fun k_ => some k_ ≠ (.slice Ao32 t209.length co32 : Value).ownBlock ∧ some k_ ≠ (v215 : Value).ownBlock ∧ some k_ ≠ (.slice Ao49 t219.length co49 : Value).ownBlock) (Kg.R_keptB (HO_6.out) hkp (fun k_ hk_ hs_ => (hk_.1.1) hs_)) (fun k_ hk_ => ⟨hk_.1.1.1, hk_.1.1.2, hk_.1.2⟩)); replace HO_9 := Aside0.mk (Kg.R_mono (ok' := fun k_ => some k_ ≠ (v206 : Value).ownBlock ∧ some k_ ≠ (.slice Ao32 t209.length co32 : Value).ownBlock ∧ some k_ ≠ (.slice Ao49 t219.length co49 : Value).ownBlock) (Kg.R_keptB (HO_9.out) hkp (fun k_ hk_ hs_ => (hk_.1.2) hs_)) (fun k_ hk_ => ⟨hk_.1.1.1, hk_.1.1.2, hk_.1.2⟩)); replace BK197 := Aside0.mk (blk_kept (tH BK197.out) hkp (fun hs_ => (fun e_ => (Kg.R_ne HO_8.out BK197.out (by decide)) e_) hs_)); replace HO_8 := Aside0.mk (Kg.R_reok rfl hy0 (fun k_ e_ => Kg.R_ok HO_8.out k_ e_)); replace HO221 := Aside0.mk (Kg.R_mono (ok' := fun k_ => some k_ ≠ (v206 : Value).ownBlock ∧ some k_ ≠ (.slice Ao32 t209.length co32 : Value).ownBlock ∧ some k_ ≠ (v215 : Value).ownBlock) (Kg.R_keptB (HO221.out) hkp (fun k_ hk_ hs_ => (hk_.1.2) hs_)) (fun k_ hk_ => ⟨hk_.1.1.1.2, hk_.1.1.2, hk_.1.2⟩)); replace HB := Aside0.mk (hb); (try clear hb); (try clear hkp); (try clear hy0)))
              (try simp only [Act.put, List.setIfInBounds_toArray, List.set_cons_zero, List.set_cons_succ])
              go_cut [72] (fun v72 wc => ∃ (kq : Nat) (x72_46 : Bool), v72 = .bool x72_46 ∧ Aside0 (laws_FnExactGroupsPut.j1 kq l0 t205 t208 t214 x72_46 a1_0 a1_1 = some r) ∧ Aside0 (kq ≤ kj18) ∧ Aside0 (Kg.R k25 25 wc w.heap.size (fun k_ => some k_ ≠ (v215 : Value).ownBlock) v206 t205) ∧ Aside0 (Kg.R k25 25 wc w.heap.size (fun k_ => some k_ ≠ (v206 : Value).ownBlock) v215 t214) ∧ Aside0 (wc.heap[gb197]? = some (.cells #[.string a1_0, .int .i64 a1_1] 34 (0, 0))) ∧ Aside0 (Below w.heap.size w wc))
              case first =>
                have H := HC47.out
                clear HC47
                by_cases c52 : t223 < 0
                · rw [if_pos c52] at H
                  have c52b0 : decide (t223 < 0) = true := decide_eq_true c52
                  clear c52
                  (first | rw [c52b0] | (simp only [i64_w, i32_w]; rw [c52b0]) | skip)
                  have H' := Aside0.mk H
                  clear H
                  go_wp2
                  go_meet
                  case rel => exact ⟨_, (true), tr, H', ⟨by have := HJ18.out; first | omega | exact Nat.le_refl _⟩, ⟨gRm HO_6.out⟩, ⟨gRm HO_9.out⟩, ⟨tH BK197.out⟩, ⟨zb⟩⟩
                · rw [if_neg c52] at H
                  have c52b0 : decide (t223 < 0) = false := decide_eq_false c52
                  clear c52
                  (first | rw [c52b0] | (simp only [i64_w, i32_w]; rw [c52b0]) | skip)
                  replace H := tbe H
                  obtain ⟨t225, A53, H⟩ := H
                  by_cases c54 : t225 = true
                  · subst c54
                    rw [if_pos rfl] at H
                    have H' := Aside0.mk H
                    clear H
                    obtain ⟨Ao55, co55, eo55⟩ := Kg.R_slice HO_9.out
                    subst eo55
                    obtain ⟨Ao56, co56, eo56⟩ := Kg.R_slice HO_6.out
                    subst eo56
                    go_wp2_with (first | (go_at_call 16; (with_reducible refine (laws_eqGroupS.calls kj18 _ _ t214 _ _ t205 true _ ?side1 ?side2 ?side3 ?side4 A53.out).mono ?_); (case side1 => repeat (first | exact (Kg.R_reads' HO_9.out).2.2 | (with_reducible refine Kd.C_alloc ?_ _) | (with_reducible refine Kd.C_drewN ?_ _) | (with_reducible refine Kd.C_drew ?_))); (case side2 => exact (Kg.R_reads' HO_9.out).2.1); (case side3 => repeat (first | exact (Kg.R_reads' HO_6.out).2.2 | (with_reducible refine Kd.C_alloc ?_ _) | (with_reducible refine Kd.C_drewN ?_ _) | (with_reducible refine Kd.C_drew ?_))); (case side4 => exact (Kg.R_reads' HO_6.out).2.1); rintro e w57 ⟨rfl, hb⟩; replace HO_6 := gRb HO_6 hb; replace HO_8 := gRb HO_8 hb; replace HO_9 := gRb HO_9 hb; replace HO221 := gRb HO221 hb; replace BK197 := tBb BK197 hb; replace HB := tBs HB hb; (try clear hb); (try clear hb2); (try clear hk); (try clear hi)))
                    go_meet
                    case rel => exact ⟨_, ((t217 != t208)), tr, H', ⟨by have := HJ18.out; first | omega | exact Nat.le_refl _⟩, ⟨gRm HO_6.out⟩, ⟨gRm HO_9.out⟩, ⟨tH BK197.out⟩, ⟨zb⟩⟩
                  · replace c54 := Bool.eq_false_iff.mpr c54
                    subst c54
                    rw [if_neg (show ¬ (false = true) by decide)] at H
                    have H' := Aside0.mk H
                    clear H
                    obtain ⟨Ao58, co58, eo58⟩ := Kg.R_slice HO_9.out
                    subst eo58
                    obtain ⟨Ao59, co59, eo59⟩ := Kg.R_slice HO_6.out
                    subst eo59
                    go_wp2_with (first | (go_at_call 16; (with_reducible refine (laws_eqGroupS.calls kj18 _ _ t214 _ _ t205 false _ ?side1 ?side2 ?side3 ?side4 A53.out).mono ?_); (case side1 => repeat (first | exact (Kg.R_reads' HO_9.out).2.2 | (with_reducible refine Kd.C_alloc ?_ _) | (with_reducible refine Kd.C_drewN ?_ _) | (with_reducible refine Kd.C_drew ?_))); (case side2 => exact (Kg.R_reads' HO_9.out).2.1); (case side3 => repeat (first | exact (Kg.R_reads' HO_6.out).2.2 | (with_reducible refine Kd.C_alloc ?_ _) | (with_reducible refine Kd.C_drewN ?_ _) | (with_reducible refine Kd.C_drew ?_))); (case side4 => exact (Kg.R_reads' HO_6.out).2.1); rintro e w60 ⟨rfl, hb⟩; replace HO_6 := gRb HO_6 hb; replace HO_8 := gRb HO_8 hb; replace HO_9 := gRb HO_9 hb; replace HO221 := gRb HO221 hb; replace BK197 := tBb BK197 hb; replace HB := tBs HB hb; (try clear hb); (try clear hb2); (try clear hk); (try clear hi)))
                    go_meet
                    case rel => exact ⟨_, (true), tr, H', ⟨by have := HJ18.out; first | omega | exact Nat.le_refl _⟩, ⟨gRm HO_6.out⟩, ⟨gRm HO_9.out⟩, ⟨tH BK197.out⟩, ⟨zb⟩⟩
              case rest =>
                clear HC47
                try clear c4; try clear c4b0; try clear c8; try clear c8b0; try clear c42; try clear c45; try clear hcz22_0; try clear hcz22_1; try clear hcz30_0; try clear hcz30_1; try clear hfz22_0; try clear hfz22_1; try clear hfz30_0; try clear hfz30_1
                obtain ⟨kq, x72_46, rfl, HA, HJ46, HO_6, HO_9, BK197, HB⟩ := hcut
                cases kq with
                | zero => exact absurd HA.out (by simp [laws_FnExactGroupsPut.j1])
                | succ kj46 =>
                  have H := HA.out
                  clear HA
                  simp only [laws_FnExactGroupsPut.j1] at H
                  by_cases c61 : x72_46 = true
                  · subst c61
                    rw [if_pos rfl] at H
                    obtain rfl := Option.some.inj H
                    go_wp2
                    all_goals go_ret
                    all_goals exact ⟨by first | rfl | (simp [errW_none, errW_some] <;> rfl) | (simp [*, errW_none, errW_some] <;> rfl), zb⟩
                  · replace c61 := Bool.eq_false_iff.mpr c61
                    subst c61
                    rw [if_neg (show ¬ (false = true) by decide)] at H
                    replace H := tbe H
                    obtain ⟨⟨t226, t227⟩, A62, H⟩ := H
                    dsimp only at H
                    replace H := tbe H
                    obtain ⟨t228, A63, H⟩ := H
                    by_cases c64 : t228 < 0
                    · rw [if_pos c64] at H
                      have c64b0 : decide (t228 < 0) = true := decide_eq_true c64
                      clear c64
                      obtain rfl := Option.some.inj H
                      obtain ⟨Ao65, co65, eo65⟩ := Kg.R_slice HO_9.out
                      subst eo65
                      go_wp2_with (first | ((with_reducible refine gate_callee (f := 17) rfl ?_); refine goesL_ (some 75) rfl rfl Try.func17 (by kernel_rfl) rfl #[.slice Ao65 t214.length co65, .int .i64 1] rfl tq ?_; (with_reducible refine (laws_markGroupS.callsG kj46 (fun k_ => some k_ = (.slice Ao65 t214.length co65 : Value).ownBlock) (.slice Ao65 t214.length co65) t214 1 t226 t227 w _ ?side1 ?side2 A62.out).mono ?_); (case side1 => exact zb); (case side2 => exact Kg.R_tight rfl HO_9.out); rintro e w66 ⟨rfl, hy0, hb, hkp⟩; refine ⟨_, rfl, ?_⟩; replace HO_6 := Aside0.mk (Kg.R_mono (ok' := fun k_ => some k_ ≠ (.slice Ao65 t214.length co65 : Value).ownBlock) (Kg.R_keptB (HO_6.out) hkp (fun k_ hk_ hs_ => (hk_) hs_)) (fun k_ hk_ => hk_.1)); replace BK197 := Aside0.mk (blk_kept (tH BK197.out) hkp (fun hs_ => (fun e_ => (Kg.R_ne HO_9.out BK197.out (by decide)) e_) hs_)); replace HO_9 := Aside0.mk (Kg.R_reok rfl hy0 (fun k_ e_ => Kg.R_ok HO_9.out k_ e_)); replace HB := Aside0.mk (hb); (try clear hb); (try clear hkp); (try clear hy0)) | ((with_reducible refine gate_callee (f := 18) rfl ?_); refine goesL_ (some 78) rfl rfl Try.func18 (by kernel_rfl) rfl #[.slice Ao65 t227.length co65, .int .i64 1] rfl (by (try simp only [List.map_toArray, List.map_cons, List.map_nil]); first | done | (rw [show t227.length = t214.length from (Kg.R_reads' HO_9.out).1.symm] <;> rfl) | rfl | (simp only [List.length_drop, List.length_take]; rfl)) ?_; (with_reducible refine (laws_heldGroupS.calls kj46 _ _ t227 1 t228 _ ?side1 ?side2 A63.out).mono ?_); (case side1 => repeat (first | exact (Kg.R_reads' HO_9.out).2.2 | (with_reducible refine Kd.C_alloc ?_ _) | (with_reducible refine Kd.C_drewN ?_ _) | (with_reducible refine Kd.C_drew ?_))); (case side2 => rw [show t227.length = t214.length from (Kg.R_reads' HO_9.out).1.symm]; exact (Kg.R_reads' HO_9.out).2.1); rintro e w67 ⟨rfl, hb⟩; refine ⟨_, rfl, ?_⟩; replace HO_6 := gRb HO_6 hb; replace HO_9 := gRb HO_9 hb; replace BK197 := tBb BK197 hb; replace HB := tBs HB hb; (try clear hb); (try clear hb2); (try clear hk); (try clear hi)))
                      all_goals go_ret
                      all_goals exact ⟨by first | rfl | (simp [errW_none, errW_some] <;> rfl) | (simp [*, errW_none, errW_some] <;> rfl), zb⟩
                    · rw [if_neg c64] at H
                      have c64b0 : decide (t228 < 0) = false := decide_eq_false c64
                      clear c64
                      by_cases c68 : t228 = t226
                      · rw [if_pos c68] at H
                        have c68b0 : (t228 == t226) = true := beq_iff_eq.mpr c68
                        have c68b1 : (t228 != t226) = false := bne_eq_false_iff_eq.mpr c68
                        clear c68
                        replace H := tbe H
                        obtain ⟨t229, A69, H⟩ := H
                        replace H := tbe H
                        obtain ⟨⟨t232, t233⟩, A70, H⟩ := H
                        dsimp only at H
                        replace H := tbe H
                        obtain ⟨⟨t234, t237⟩, A71, H⟩ := H
                        dsimp only at H
                        have HC72 := Aside0.mk H
                        clear H
                        obtain ⟨Ao73, co73, eo73⟩ := Kg.R_slice HO_9.out
                        subst eo73
                        try go_wp2_with (first | ((with_reducible refine gate_callee (f := 17) rfl ?_); refine goesL_ (some 75) rfl rfl Try.func17 (by kernel_rfl) rfl #[.slice Ao73 t214.length co73, .int .i64 1] rfl tq ?_; (with_reducible refine (laws_markGroupS.callsG kj46 (fun k_ => some k_ = (.slice Ao73 t214.length co73 : Value).ownBlock) (.slice Ao73 t214.length co73) t214 1 t226 t227 w _ ?side1 ?side2 A62.out).mono ?_); (case side1 => exact zb); (case side2 => exact Kg.R_tight rfl HO_9.out); rintro e w74 ⟨rfl, hy0, hb, hkp⟩; refine ⟨_, rfl, ?_⟩; replace HO_6 := Aside0.mk (Kg.R_mono (ok' := fun k_ => some k_ ≠ (.slice Ao73 t214.length co73 : Value).ownBlock) (Kg.R_keptB (HO_6.out) hkp (fun k_ hk_ hs_ => (hk_) hs_)) (fun k_ hk_ => hk_.1)); replace BK197 := Aside0.mk (blk_kept (tH BK197.out) hkp (fun hs_ => (fun e_ => (Kg.R_ne HO_9.out BK197.out (by decide)) e_) hs_)); replace HO_9 := Aside0.mk (Kg.R_reok rfl hy0 (fun k_ e_ => Kg.R_ok HO_9.out k_ e_)); replace HB := Aside0.mk (hb); (try clear hb); (try clear hkp); (try clear hy0)) | ((with_reducible refine gate_callee (f := 18) rfl ?_); refine goesL_ (some 78) rfl rfl Try.func18 (by kernel_rfl) rfl #[.slice Ao73 t227.length co73, .int .i64 1] rfl (by (try simp only [List.map_toArray, List.map_cons, List.map_nil]); first | done | (rw [show t227.length = t214.length from (Kg.R_reads' HO_9.out).1.symm] <;> rfl) | rfl | (simp only [List.length_drop, List.length_take]; rfl)) ?_; (with_reducible refine (laws_heldGroupS.calls kj46 _ _ t227 1 t228 _ ?side1 ?side2 A63.out).mono ?_); (case side1 => repeat (first | exact (Kg.R_reads' HO_9.out).2.2 | (with_reducible refine Kd.C_alloc ?_ _) | (with_reducible refine Kd.C_drewN ?_ _) | (with_reducible refine Kd.C_drew ?_))); (case side2 => rw [show t227.length = t214.length from (Kg.R_reads' HO_9.out).1.symm]; exact (Kg.R_reads' HO_9.out).2.1); rintro e w75 ⟨rfl, hb⟩; refine ⟨_, rfl, ?_⟩; replace HO_6 := gRb HO_6 hb; replace HO_9 := gRb HO_9 hb; replace BK197 := tBb BK197 hb; replace HB := tBs HB hb; (try clear hb); (try clear hb2); (try clear hk); (try clear hi)))
                        replace HO_6 := Aside0.mk (Kg.R_drew HO_6.out)
                        replace HO_9 := Aside0.mk (Kg.R_drew HO_9.out)
                        replace BK197 := Aside0.mk (blk_drew BK197.out)
                        replace HB := Aside0.mk (below_drew1 HB.out)
                        refine start_ (n := 10) (S := fun w' => w'.cell? ⟨gb197, 0, none⟩ = some (.string a1_0) ∧ w'.cell? ⟨gb197, 1, none⟩ = some (.int .i64 a1_1)) (ds := []) #[false, false, false, false, false, false, false, false, false, false] (by kernel_rfl) rfl rfl ⟨(blk_cell BK197.out 0).trans rfl, (blk_cell BK197.out 1).trans rfl⟩ (fun hHeld => ?_); refine with_tabW laws_FnExactGroupsPut.tab27 laws_FnExactGroupsPut.bits27 (fun HT_ HW_ => ?_)
                        generalize w75.drew = w76 at HO_6 HO_9 BK197 HB hHeld ⊢
                        refine tpu 0 (some 85) #[true, false, false, false, false, false, false, false, false, false] ?_
                        refine tta 2 (some 87) #[true, false, true, false, false, false, false, false, false, false] hHeld ?_ (hy := by rintro w' ⟨s0, s1⟩; go_simp; with_reducible rfl)
                        refine one_ (i := 1) (N := some 86) #[true, true, true, false, false, false, false, false, false, false] rfl rfl (one_of HT_.out (by kernel_rfl)) (by decide) (fun K hK => ?_)
                        refine goes_ Try.func14 (by kernel_rfl) rfl #[.slice A0 l0.length c0] (by rfl) rfl rfl tq ?_
                        with_reducible refine (laws_toGroupS.calls kj46 _ _ l0 t229 _ ?side1 ?side2 A69.out).mono ?_
                        (case side1 => exact tC (Kd.C_below HR0.out HB.out))
                        (case side2 => exact HC0.out)
                        rintro e w77 ⟨v230, rfl, ho0, hb⟩
                        (try replace ho0 := Kg.R_of ho0)
                        refine ⟨_, rfl, ?_⟩
                        have HO231 := Aside0.mk (Kg.R_lower (Kg.R_new' (Kg.R_new' ho0 (Kg.R_lt (gR HO_6.out))) (Kg.R_lt (gR HO_9.out))) (below_size zb))
                        replace HO_6 := Aside0.mk (Kg.R_elder' (gR HO_6.out) (Kg.R_base ho0) hb)
                        replace HO_9 := Aside0.mk (Kg.R_elder' (gR HO_9.out) (Kg.R_base ho0) hb)
                        replace BK197 := tBb BK197 hb
                        replace HB := tBs HB hb
                        (try clear hb)
                        (try clear hb2)
                        (try clear hk)
                        (try clear hi)
                        (try clear ho0)
                        refine hK.out _ _ ⟨(blk_cell BK197.out 0).trans rfl, (blk_cell BK197.out 1).trans rfl⟩ (fun hHeld => ?_)
                        clear hK K
                        refine tnm (some 86) ?_
                        refine one_ (i := 3) (N := some 88) #[true, true, true, true, false, false, false, false, false, false] rfl rfl (one_of HT_.out (by kernel_rfl)) (by decide) (fun K hK => ?_)
                        refine goes_ Try.func15 (by kernel_rfl) rfl #[.agg #[.string a1_0, .int .i64 a1_1]] (by rfl) rfl rfl tq ?_
                        with_reducible refine (laws_toGroup.calls a1_0 a1_1 t232 t233 _ A70.out).mono ?_
                        rintro e w78 ⟨rfl, hb⟩
                        refine ⟨_, rfl, ?_⟩
                        replace HO_6 := gRb HO_6 hb
                        replace HO_9 := gRb HO_9 hb
                        replace HO231 := gRb HO231 hb
                        replace BK197 := tBb BK197 hb
                        replace HB := tBs HB hb
                        (try clear hb)
                        (try clear hb2)
                        (try clear hk)
                        (try clear hi)
                        obtain ⟨Ao79, co79, eo79⟩ := Kg.R_slice HO231.out
                        (first | subst eo79 | (injection eo79 with f1_ f2_ f3_; have f4_ := f1_.symm; have f5_ := f3_.symm; clear f1_ f2_ f3_; subst f4_; subst f5_))
                        refine hK.out _ _ ⟨(blk_cell BK197.out 0).trans rfl, (blk_cell BK197.out 1).trans rfl⟩ (fun hHeld => ?_)
                        clear hK K
                        refine tnm (some 88) ?_
                        refine one_ (i := 4) (N := some 89) #[true, true, true, true, true, false, false, false, false, false] rfl rfl (one_of HT_.out (by kernel_rfl)) (by decide) (fun K hK => ?_)
                        refine goes_ Try.func8 (by kernel_rfl) rfl #[.slice Ao79 t229.length co79, .agg #[.string t232, .int .i64 t233]] (by rfl) rfl rfl tq ?_
                        with_reducible refine (impl_GroupsPut.callsG kj46 _ _ t229 t232 t233 t234 t237 _ ?side1 ?side2 A71.out).mono ?_
                        (case side1 => repeat (first | exact (Kg.R_reads' HO231.out).2.2 | (with_reducible refine Kd.C_alloc ?_ _) | (with_reducible refine Kd.C_drewN ?_ _) | (with_reducible refine Kd.C_drew ?_)))
                        (case side2 => exact (Kg.R_reads' HO231.out).2.1)
                        rintro e w80 ⟨v235, rfl, ho0, hb⟩
                        (try replace ho0 := Kg.R_of ho0)
                        refine ⟨_, rfl, ?_⟩
                        have HO236 := Aside0.mk (Kg.R_lower (Kg.R_new' (Kg.R_new' (Kg.R_new' ho0 (Kg.R_lt (gR HO_6.out))) (Kg.R_lt (gR HO_9.out))) (Kg.R_lt (gR HO231.out))) (below_size zb))
                        replace HO_6 := Aside0.mk (Kg.R_elder' (gR HO_6.out) (Kg.R_base ho0) hb)
                        replace HO_9 := Aside0.mk (Kg.R_elder' (gR HO_9.out) (Kg.R_base ho0) hb)
                        replace HO231 := Aside0.mk (Kg.R_elder' (gR HO231.out) (Kg.R_base ho0) hb)
                        replace BK197 := tBb BK197 hb
                        replace HB := tBs HB hb
                        (try clear hb)
                        (try clear hb2)
                        (try clear hk)
                        (try clear hi)
                        (try clear ho0)
                        refine hK.out _ _ ⟨(blk_cell BK197.out 0).trans rfl, (blk_cell BK197.out 1).trans rfl⟩ (fun hHeld => ?_)
                        clear hK K
                        refine tnm (some 89) ?_
                        refine tpu 5 (some 84) #[true, true, true, true, true, true, false, false, false, false] ?_
                        refine tpu 6 (some 90) #[true, true, true, true, true, true, true, false, false, false] ?_
                        refine tpu 7 (some 91) #[true, true, true, true, true, true, true, true, false, false] ?_
                        refine tpu 8 (some 14) #[true, true, true, true, true, true, true, true, true, false] ?_
                        refine tpu 9 (some 15) #[true, true, true, true, true, true, true, true, true, true] ?_
                        refine done_ (done_of HT_.out (by kernel_rfl)) ?_
                        go_upto_region 28 with (fail)
                        go_cut [100] (fun v100 wc => ∃ (kq : Nat) (x100_71 : Bool), v100 = .bool x100_71 ∧ Aside0 (laws_FnExactGroupsPut.j2 kq t227 t226 x100_71 = some r) ∧ Aside0 (kq ≤ kj46) ∧ Aside0 (Kg.R k25 25 wc w.heap.size (fun _ => True) (.slice Ao73 t214.length co73) t227) ∧ Aside0 (wc.heap[gb197]? = some (.cells #[.string a1_0, .int .i64 a1_1] 34 (0, 0))) ∧ Aside0 (Below w.heap.size w wc))
                        case first =>
                          have H := HC72.out
                          clear HC72
                          replace H := tbe H
                          obtain ⟨t238, A81, H⟩ := H
                          by_cases c82 : t238 = true
                          · subst c82
                            rw [if_pos rfl] at H
                            have H' := Aside0.mk H
                            clear H
                            obtain ⟨Ao83, co83, eo83⟩ := Kg.R_slice HO236.out
                            subst eo83
                            obtain ⟨Ao84, co84, eo84⟩ := Kg.R_slice HO_6.out
                            subst eo84
                            go_wp2_with (first | ((with_reducible refine gate_callee (f := 16) rfl ?_); refine goesL_ (some 94) rfl rfl Try.func16 (by kernel_rfl) rfl #[.slice Ao83 t234.length co83, .slice Ao84 t205.length co84] rfl tq ?_; (with_reducible refine (laws_eqGroupS.calls kj46 _ _ t234 _ _ t205 true _ ?side1 ?side2 ?side3 ?side4 A81.out).mono ?_); (case side1 => repeat (first | exact (Kg.R_reads' HO236.out).2.2 | (with_reducible refine Kd.C_alloc ?_ _) | (with_reducible refine Kd.C_drewN ?_ _) | (with_reducible refine Kd.C_drew ?_))); (case side2 => exact (Kg.R_reads' HO236.out).2.1); (case side3 => repeat (first | exact (Kg.R_reads' HO_6.out).2.2 | (with_reducible refine Kd.C_alloc ?_ _) | (with_reducible refine Kd.C_drewN ?_ _) | (with_reducible refine Kd.C_drew ?_))); (case side4 => exact (Kg.R_reads' HO_6.out).2.1); rintro e w85 ⟨rfl, hb⟩; refine ⟨_, rfl, ?_⟩; replace HO_6 := gRb HO_6 hb; replace HO_9 := gRb HO_9 hb; replace HO231 := gRb HO231 hb; replace HO236 := gRb HO236 hb; replace BK197 := tBb BK197 hb; replace HB := tBs HB hb; (try clear hb); (try clear hb2); (try clear hk); (try clear hi)))
                            go_meet
                            case rel => exact ⟨_, ((t237 != t208)), tr, H', ⟨by have := HJ18.out; have := HJ46.out; first | omega | exact Nat.le_refl _⟩, ⟨gRm HO_9.out⟩, ⟨tH BK197.out⟩, ⟨zb⟩⟩
                          · replace c82 := Bool.eq_false_iff.mpr c82
                            subst c82
                            rw [if_neg (show ¬ (false = true) by decide)] at H
                            have H' := Aside0.mk H
                            clear H
                            obtain ⟨Ao86, co86, eo86⟩ := Kg.R_slice HO236.out
                            subst eo86
                            obtain ⟨Ao87, co87, eo87⟩ := Kg.R_slice HO_6.out
                            subst eo87
                            go_wp2_with (first | ((with_reducible refine gate_callee (f := 16) rfl ?_); refine goesL_ (some 94) rfl rfl Try.func16 (by kernel_rfl) rfl #[.slice Ao86 t234.length co86, .slice Ao87 t205.length co87] rfl tq ?_; (with_reducible refine (laws_eqGroupS.calls kj46 _ _ t234 _ _ t205 false _ ?side1 ?side2 ?side3 ?side4 A81.out).mono ?_); (case side1 => repeat (first | exact (Kg.R_reads' HO236.out).2.2 | (with_reducible refine Kd.C_alloc ?_ _) | (with_reducible refine Kd.C_drewN ?_ _) | (with_reducible refine Kd.C_drew ?_))); (case side2 => exact (Kg.R_reads' HO236.out).2.1); (case side3 => repeat (first | exact (Kg.R_reads' HO_6.out).2.2 | (with_reducible refine Kd.C_alloc ?_ _) | (with_reducible refine Kd.C_drewN ?_ _) | (with_reducible refine Kd.C_drew ?_))); (case side4 => exact (Kg.R_reads' HO_6.out).2.1); rintro e w88 ⟨rfl, hb⟩; refine ⟨_, rfl, ?_⟩; replace HO_6 := gRb HO_6 hb; replace HO_9 := gRb HO_9 hb; replace HO231 := gRb HO231 hb; replace HO236 := gRb HO236 hb; replace BK197 := tBb BK197 hb; replace HB := tBs HB hb; (try clear hb); (try clear hb2); (try clear hk); (try clear hi)))
                            go_meet
                            case rel => exact ⟨_, (true), tr, H', ⟨by have := HJ18.out; have := HJ46.out; first | omega | exact Nat.le_refl _⟩, ⟨gRm HO_9.out⟩, ⟨tH BK197.out⟩, ⟨zb⟩⟩
                        case rest =>
                          clear HC72
                          try clear c4; try clear c4b0; try clear c8; try clear c8b0; try clear c42; try clear c45; try clear c61; try clear c64; try clear c64b0; try clear c68; try clear c68b0; try clear c68b1; try clear hcz22_0; try clear hcz22_1; try clear hcz30_0; try clear hcz30_1; try clear hfz22_0; try clear hfz22_1; try clear hfz30_0; try clear hfz30_1
                          obtain ⟨kq, x100_71, rfl, HA, HJ71, HO_9, BK197, HB⟩ := hcut
                          have hl9_71 := (Kg.R_reads' HO_9.out).1
                          rw [hl9_71] at HO_9
                          (try simp only [hl9_71])
                          (try simp only [hl9_71] at BK197)
                          cases kq with
                          | zero => exact absurd HA.out (by simp [laws_FnExactGroupsPut.j2])
                          | succ kj71 =>
                            have H := HA.out
                            clear HA
                            simp only [laws_FnExactGroupsPut.j2] at H
                            by_cases c89 : x100_71 = true
                            · subst c89
                              rw [if_pos rfl] at H
                              obtain rfl := Option.some.inj H
                              go_wp2
                              all_goals go_ret
                              all_goals exact ⟨by first | rfl | (simp [errW_none, errW_some] <;> rfl) | (simp [*, errW_none, errW_some] <;> rfl), zb⟩
                            · replace c89 := Bool.eq_false_iff.mpr c89
                              subst c89
                              rw [if_neg (show ¬ (false = true) by decide)] at H
                              replace H := tbe H
                              obtain ⟨t239, A90, H⟩ := H
                              by_cases c91 : t239 < 0
                              · rw [if_pos c91] at H
                                have c91b0 : decide (t239 < 0) = true := decide_eq_true c91
                                clear c91
                                obtain rfl := Option.some.inj H
                                go_wp2_with (first | ((with_reducible refine gate_callee (f := 18) rfl ?_); refine goesL_ (some 103) rfl rfl Try.func18 (by kernel_rfl) rfl #[.slice Ao73 t227.length co73, .int .i64 1] rfl tq ?_; (with_reducible refine (laws_heldGroupS.calls kj71 _ _ t227 1 t239 _ ?side1 ?side2 A90.out).mono ?_); (case side1 => repeat (first | exact (Kg.R_reads' HO_9.out).2.2 | (with_reducible refine Kd.C_alloc ?_ _) | (with_reducible refine Kd.C_drewN ?_ _) | (with_reducible refine Kd.C_drew ?_))); (case side2 => exact (Kg.R_reads' HO_9.out).2.1); rintro e w92 ⟨rfl, hb⟩; refine ⟨_, rfl, ?_⟩; replace HO_9 := gRb HO_9 hb; replace BK197 := tBb BK197 hb; replace HB := tBs HB hb; (try clear hb); (try clear hb2); (try clear hk); (try clear hi)))
                                all_goals go_ret
                                all_goals exact ⟨by first | rfl | (simp [errW_none, errW_some] <;> rfl) | (simp [*, errW_none, errW_some] <;> rfl), zb⟩
                              · rw [if_neg c91] at H
                                have c91b0 : decide (t239 < 0) = false := decide_eq_false c91
                                clear c91
                                by_cases c93 : t239 = t226
                                · rw [if_pos c93] at H
                                  have c93b0 : (t239 == t226) = true := beq_iff_eq.mpr c93
                                  have c93b1 : (t239 != t226) = false := bne_eq_false_iff_eq.mpr c93
                                  clear c93
                                  obtain rfl := Option.some.inj H
                                  go_wp2_with (first | ((with_reducible refine gate_callee (f := 18) rfl ?_); refine goesL_ (some 103) rfl rfl Try.func18 (by kernel_rfl) rfl #[.slice Ao73 t227.length co73, .int .i64 1] rfl tq ?_; (with_reducible refine (laws_heldGroupS.calls kj71 _ _ t227 1 t239 _ ?side1 ?side2 A90.out).mono ?_); (case side1 => repeat (first | exact (Kg.R_reads' HO_9.out).2.2 | (with_reducible refine Kd.C_alloc ?_ _) | (with_reducible refine Kd.C_drewN ?_ _) | (with_reducible refine Kd.C_drew ?_))); (case side2 => exact (Kg.R_reads' HO_9.out).2.1); rintro e w94 ⟨rfl, hb⟩; refine ⟨_, rfl, ?_⟩; replace HO_9 := gRb HO_9 hb; replace BK197 := tBb BK197 hb; replace HB := tBs HB hb; (try clear hb); (try clear hb2); (try clear hk); (try clear hi)))
                                  all_goals go_ret
                                  all_goals exact ⟨by first | rfl | (simp [errW_none, errW_some] <;> rfl) | (simp [*, errW_none, errW_some] <;> rfl), zb⟩
                                · rw [if_neg c93] at H
                                  have c93b0 : (t239 == t226) = false := beq_eq_false_iff_ne.mpr c93
                                  have c93b1 : (t239 != t226) = true := bne_iff_ne.mpr c93
                                  obtain rfl := Option.some.inj H
                                  go_wp2_with (first | ((with_reducible refine gate_callee (f := 18) rfl ?_); refine goesL_ (some 103) rfl rfl Try.func18 (by kernel_rfl) rfl #[.slice Ao73 t227.length co73, .int .i64 1] rfl tq ?_; (with_reducible refine (laws_heldGroupS.calls kj71 _ _ t227 1 t239 _ ?side1 ?side2 A90.out).mono ?_); (case side1 => repeat (first | exact (Kg.R_reads' HO_9.out).2.2 | (with_reducible refine Kd.C_alloc ?_ _) | (with_reducible refine Kd.C_drewN ?_ _) | (with_reducible refine Kd.C_drew ?_))); (case side2 => exact (Kg.R_reads' HO_9.out).2.1); rintro e w95 ⟨rfl, hb⟩; refine ⟨_, rfl, ?_⟩; replace HO_9 := gRb HO_9 hb; replace BK197 := tBb BK197 hb; replace HB := tBs HB hb; (try clear hb); (try clear hb2); (try clear hk); (try clear hi)))
                                  all_goals go_ret
                                  all_goals exact ⟨by first | rfl | (simp [errW_none, errW_some] <;> rfl) | (simp [*, errW_none, errW_some] <;> rfl), zb⟩
                      · rw [if_neg c68] at H
                        have c68b0 : (t228 == t226) = false := beq_eq_false_iff_ne.mpr c68
                        have c68b1 : (t228 != t226) = true := bne_iff_ne.mpr c68
                        obtain rfl := Option.some.inj H
                        obtain ⟨Ao96, co96, eo96⟩ := Kg.R_slice HO_9.out
                        subst eo96
                        go_wp2_with (first | ((with_reducible refine gate_callee (f := 17) rfl ?_); refine goesL_ (some 75) rfl rfl Try.func17 (by kernel_rfl) rfl #[.slice Ao96 t214.length co96, .int .i64 1] rfl tq ?_; (with_reducible refine (laws_markGroupS.callsG kj46 (fun k_ => some k_ = (.slice Ao96 t214.length co96 : Value).ownBlock) (.slice Ao96 t214.length co96) t214 1 t226 t227 w _ ?side1 ?side2 A62.out).mono ?_); (case side1 => exact zb); (case side2 => exact Kg.R_tight rfl HO_9.out); rintro e w97 ⟨rfl, hy0, hb, hkp⟩; refine ⟨_, rfl, ?_⟩; replace HO_6 := Aside0.mk (Kg.R_mono (ok' := fun k_ => some k_ ≠ (.slice Ao96 t214.length co96 : Value).ownBlock) (Kg.R_keptB (HO_6.out) hkp (fun k_ hk_ hs_ => (hk_) hs_)) (fun k_ hk_ => hk_.1)); replace BK197 := Aside0.mk (blk_kept (tH BK197.out) hkp (fun hs_ => (fun e_ => (Kg.R_ne HO_9.out BK197.out (by decide)) e_) hs_)); replace HO_9 := Aside0.mk (Kg.R_reok rfl hy0 (fun k_ e_ => Kg.R_ok HO_9.out k_ e_)); replace HB := Aside0.mk (hb); (try clear hb); (try clear hkp); (try clear hy0)) | ((with_reducible refine gate_callee (f := 18) rfl ?_); refine goesL_ (some 78) rfl rfl Try.func18 (by kernel_rfl) rfl #[.slice Ao96 t227.length co96, .int .i64 1] rfl (by (try simp only [List.map_toArray, List.map_cons, List.map_nil]); first | done | (rw [show t227.length = t214.length from (Kg.R_reads' HO_9.out).1.symm] <;> rfl) | rfl | (simp only [List.length_drop, List.length_take]; rfl)) ?_; (with_reducible refine (laws_heldGroupS.calls kj46 _ _ t227 1 t228 _ ?side1 ?side2 A63.out).mono ?_); (case side1 => repeat (first | exact (Kg.R_reads' HO_9.out).2.2 | (with_reducible refine Kd.C_alloc ?_ _) | (with_reducible refine Kd.C_drewN ?_ _) | (with_reducible refine Kd.C_drew ?_))); (case side2 => rw [show t227.length = t214.length from (Kg.R_reads' HO_9.out).1.symm]; exact (Kg.R_reads' HO_9.out).2.1); rintro e w98 ⟨rfl, hb⟩; refine ⟨_, rfl, ?_⟩; replace HO_6 := gRb HO_6 hb; replace HO_9 := gRb HO_9 hb; replace BK197 := tBb BK197 hb; replace HB := tBs HB hb; (try clear hb); (try clear hb2); (try clear hk); (try clear hi)))
                        all_goals go_ret
                        all_goals exact ⟨by first | rfl | (simp [errW_none, errW_some] <;> rfl) | (simp [*, errW_none, errW_some] <;> rfl), zb⟩
            · replace c45 := Bool.eq_false_iff.mpr c45
              subst c45
              rw [if_neg (show ¬ (false = true) by decide)] at H
              obtain rfl := Option.some.inj H
              go_wp2_with (first | ((with_reducible refine gate_callee (f := 14) rfl ?_); refine goesL_ (some 54) rfl rfl Try.func14 (by kernel_rfl) rfl #[.slice A0 l0.length c0] rfl tq ?_; (with_reducible refine (laws_toGroupS.calls kj18 _ _ l0 t219 _ ?side1 ?side2 A43.out).mono ?_); (case side1 => exact tC (Kd.C_below HR0.out HB.out)); (case side2 => exact HC0.out); rintro e w99 ⟨v220, rfl, ho0, hb⟩; (try replace ho0 := Kg.R_of ho0); have u_v220 := gsv Try.prog v220 ho0; refine ⟨_, rfl, ?_⟩; have HO221 := Aside0.mk (Kg.R_lower (Kg.R_new' (Kg.R_new' (Kg.R_new' ho0 (Kg.R_lt (gR HO_6.out))) (Kg.R_lt (gR HO_8.out))) (Kg.R_lt (gR HO_9.out))) (below_size zb)); replace HO_6 := Aside0.mk (Kg.R_elder' (gR HO_6.out) (Kg.R_base ho0) hb); replace HO_8 := Aside0.mk (Kg.R_elder' (gR HO_8.out) (Kg.R_base ho0) hb); replace HO_9 := Aside0.mk (Kg.R_elder' (gR HO_9.out) (Kg.R_base ho0) hb); replace BK197 := tBb BK197 hb; replace HB := tBs HB hb; (try clear hb); (try clear hb2); (try clear hk); (try clear hi); (try clear ho0); obtain ⟨Ao100, co100, eo100⟩ := Kg.R_slice HO221.out; subst eo100) | ((with_reducible refine gate_callee (f := 16) rfl ?_); refine goesL_ (some 55) rfl rfl Try.func16 (by kernel_rfl) rfl #[.slice Ao32 t209.length co32, .slice Ao100 t219.length co100] rfl tq ?_; (with_reducible refine (laws_eqGroupS.calls kj18 _ _ t209 _ _ t219 false _ ?side1 ?side2 ?side3 ?side4 A44.out).mono ?_); (case side1 => repeat (first | exact (Kg.R_reads' HO_8.out).2.2 | (with_reducible refine Kd.C_alloc ?_ _) | (with_reducible refine Kd.C_drewN ?_ _) | (with_reducible refine Kd.C_drew ?_))); (case side2 => exact (Kg.R_reads' HO_8.out).2.1); (case side3 => repeat (first | exact (Kg.R_reads' HO221.out).2.2 | (with_reducible refine Kd.C_alloc ?_ _) | (with_reducible refine Kd.C_drewN ?_ _) | (with_reducible refine Kd.C_drew ?_))); (case side4 => exact (Kg.R_reads' HO221.out).2.1); rintro e w101 ⟨rfl, hb⟩; refine ⟨_, rfl, ?_⟩; replace HO_6 := gRb HO_6 hb; replace HO_8 := gRb HO_8 hb; replace HO_9 := gRb HO_9 hb; replace HO221 := gRb HO221 hb; replace BK197 := tBb BK197 hb; replace HB := tBs HB hb; (try clear hb); (try clear hb2); (try clear hk); (try clear hi)))
              all_goals go_ret
              all_goals exact ⟨by first | rfl | (simp [errW_none, errW_some] <;> rfl) | (simp [*, errW_none, errW_some] <;> rfl), zb⟩

end Go.Proofs.Ytkihdohphddjaaa.G

namespace Go.Proofs.Ytkihdohphddjaaa.Rd
open Go.RowKit Go.Proofs.YtkihdohphddjaaaW.PrintWords
set_option linter.unusedVariables false
section
variable {H : Type} {enc : TypeId × Value → H} {P : Program} {w : World} {base : Nat} {spare : Nat → Bool} {held : Bool}
/-- What a reading of type t gives: a value of the kind, and what is known of it. -/
def Opens (enc : TypeId × Value → H) (P : Program) (w : World) (base : Nat) (spare : Nat → Bool) (held : Bool) {α : Type} (t : TypeId) (d : Kd α) (ok : α → Prop) : Prop :=
  P.cellsOf t = d.sz ∧ ∀ fuel cs x, DataW.trod enc P w base spare held fuel t cs = some x → ∃ v, d.K w v cs ∧ ok v
theorem Opens.imp_ {α : Type} {t : TypeId} {d : Kd α} {ok ok' : α → Prop} (h : Opens enc P w base spare held t d ok) (hi : ∀ v, ok v → ok' v) : Opens enc P w base spare held t d ok' :=
  ⟨h.1, fun fuel cs x hx => by
    obtain ⟨v, hk, ho⟩ := h.2 fuel cs x hx
    exact ⟨v, hk, hi v ho⟩⟩
theorem opens_int {t : TypeId} {k : IntKind} (ht : P.underlying t = some (.int k)) (hc : P.cellsOf t = 1) : Opens enc P w base spare held t (Kd.int k) (fun n => (Lit.int k n).wf = true) := by
  refine ⟨hc, fun fuel cs x h => ?_⟩
  obtain ⟨n, rfl, _, hw⟩ := DataW.trod_int ht h
  exact ⟨n, rfl, hw⟩
theorem opens_string {t : TypeId} (ht : P.underlying t = some .string) (hc : P.cellsOf t = 1) : Opens enc P w base spare held t Kd.string (fun s => s.size ≤ maxLen) := by
  refine ⟨hc, fun fuel cs x h => ?_⟩
  obtain ⟨n, rfl, _, hs⟩ := DataW.trod_string ht h
  exact ⟨n, rfl, hs⟩
theorem cells_len {base : Nat} {a : Addr} {n : Nat} {cs : List Value} (h : w.cells? base a n = some cs) : cs.length = n ∧ ∀ i u, cs[i]? = some u → w.cell? (a.add i) = some u := by
  unfold World.cells? at h
  split at h
  · rename_i hb
    refine ⟨by simpa using mapM_some_length h, fun i u hu => ?_⟩
    have hi : i < n := by
      have := (List.getElem?_eq_some_iff.1 hu).1
      have h2 : cs.length = n := by simpa using mapM_some_length h
      omega
    have := mapM_some_get h i i (by simp [hi])
    rw [hu] at this
    exact this
  · simp at h
theorem opens_row {α : Type} {t e : TypeId} {d : Kd α} {ok : α → Prop} (ht : P.underlying t = some (.slice e)) (hd : Opens enc P w base spare held e d ok) {fuel : Nat} {cs : List Value} {x : DataW H × List MemPlace}
    (h : DataW.trod enc P w base spare held fuel t cs = some x) : ∃ (A : Option Addr) (c : Nat) (xs : List α), cs = [.slice A xs.length c] ∧ xs.length ≤ c ∧ c ≤ maxLen ∧ d.C w A xs.length xs ∧ ∀ y ∈ xs, ok y := by
  rcases Go.Deep.open_slice ht h with ⟨rfl, _⟩ | ⟨a, len, cap, m, n, D, Pl, rfl, hb, hl, hm, hmm, _, hel⟩
  · exact ⟨none, 0, [], rfl, Nat.le_refl _, by unfold maxLen; omega, ⟨rfl, by simp, fun h0 => absurd h0 (by simp)⟩, by simp⟩
  have hlm : len ≤ m := by rw [hmm]; split <;> omega
  have hx : ∀ i, i < len → ∃ y : α, ok y ∧ ∃ c, c.length = d.sz ∧ d.K w y c ∧ ∀ j u, c[j]? = some u → w.cell? (a.add (i * d.sz + j)) = some u := by
    intro i hi
    obtain ⟨cs', h1, h2⟩ := hel i (by omega)
    obtain ⟨y, hk, ho⟩ := hd.2 _ _ _ h2
    obtain ⟨hl', hc'⟩ := cells_len h1
    refine ⟨y, ho, cs', by rw [hl', hd.1], hk, fun j u hu => ?_⟩
    have := hc' j u hu
    rw [Go.Deep.add_add, hd.1] at this
    exact this
  rcases Nat.eq_zero_or_pos len with h0 | h0
  · subst h0
    exact ⟨some a, cap, [], rfl, Nat.zero_le _, hm, ⟨rfl, by simp, fun h1 => absurd h1 (by simp)⟩, by simp⟩
  obtain ⟨y0, _⟩ := hx 0 h0
  haveI : Inhabited α := ⟨y0⟩
  obtain ⟨g, hg⟩ := Go.Deep.choose_lt hx
  have hlen : ((List.range len).map g).length = len := by simp
  refine ⟨some a, cap, (List.range len).map g, by rw [hlen], by rw [hlen]; exact hl, hm, ⟨rfl, by rw [hlen]; unfold maxLen at hm; omega, fun _ => ⟨a, rfl, fun j p hj => ?_⟩⟩, fun y hy => ?_⟩
  · have hj' : j < len := by
      have := (List.getElem?_eq_some_iff.1 hj).1
      omega
    rw [List.getElem?_map, List.getElem?_range hj'] at hj
    simp at hj
    subst hj
    obtain ⟨_, c, hc1, hc2, hc3⟩ := hg j hj'
    exact ⟨c, hc1, hc2, hc3⟩
  · obtain ⟨i, hi, rfl⟩ := List.mem_map.1 hy
    exact (hg i (List.mem_range.1 hi)).1
/-- A struct's fields, one behind the other, from a place of its cells on. -/
def OpensAt (enc : TypeId × Value → H) (P : Program) (w : World) (base : Nat) (spare : Nat → Bool) (held : Bool) {α : Type} (fs : List Field) (off : Nat) (d : Kd α) (ok : α → Prop) : Prop :=
  ∀ n (cs : List Value), cs.length = off + d.sz → (∀ f ∈ fs, ∃ x, DataW.trod enc P w base spare held n f.type ((cs.drop f.offset).take (P.cellsOf f.type)) = some x) → ∃ v, d.K w v (cs.drop off) ∧ ok v
theorem opens_last {α : Type} {f : Field} {off : Nat} {d : Kd α} {ok : α → Prop} (ho : f.offset = off) (hd : Opens enc P w base spare held f.type d ok) : OpensAt enc P w base spare held [f] off d ok := by
  intro n cs hl h
  obtain ⟨x, hx⟩ := h f (by simp)
  obtain ⟨v, hk, hok⟩ := hd.2 _ _ _ hx
  rw [ho, hd.1, List.take_of_length_le (by rw [List.length_drop]; omega)] at hk
  exact ⟨v, hk, hok⟩
theorem opens_more {α β : Type} {f : Field} {fs : List Field} {off : Nat} {d : Kd α} {d' : Kd β} {ok : α → Prop} {ok' : β → Prop} (ho : f.offset = off) (hd : Opens enc P w base spare held f.type d ok) (hr : OpensAt enc P w base spare held fs (off + d.sz) d' ok') :
    OpensAt enc P w base spare held (f :: fs) off (Kd.pair d d') (fun v => ok v.1 ∧ ok' v.2) := by
  intro n cs hl h
  have hl' : cs.length = off + (d.sz + d'.sz) := hl
  obtain ⟨x, hx⟩ := h f (by simp)
  obtain ⟨v, hk, hok⟩ := hd.2 _ _ _ hx
  obtain ⟨v', hk', hok'⟩ := hr n cs (by omega) (fun g hg => h g (by simp [hg]))
  rw [ho, hd.1] at hk
  refine ⟨(v, v'), ⟨_, _, ?_, hk, hk'⟩, hok, hok'⟩
  rw [← List.drop_drop, List.take_append_drop]
theorem opens_struct {α β : Type} {t : TypeId} {fs : Array Field} {d : Kd α} {f : β → α} {g : α → β} {ok : α → Prop} (ht : P.underlying t = some (.struct fs)) (hc : P.cellsOf t = d.sz) (hfg : ∀ a, f (g a) = a) (h : OpensAt enc P w base spare held fs.toList 0 d ok) :
    Opens enc P w base spare held t (Kd.iso d f) (fun v => ok (f v)) := by
  refine ⟨hc, fun fuel cs x hx => ?_⟩
  obtain ⟨xs, n, _, _, hl, hxs, hf⟩ := DataW.trod_struct ht hx
  obtain ⟨v, hk, hok⟩ := h n cs (by rw [hl, hc]; omega) (fun fl hfl => by
    obtain ⟨i, hi, rfl⟩ := List.getElem_of_mem hfl
    have hi' : i < fs.size := by simpa using hi
    refine ⟨xs[i]'(by omega), ?_⟩
    have := hf i fs[i] (by simp [hi'])
    rw [List.getElem?_eq_getElem (by omega)] at this
    simpa using this)
  refine ⟨g v, ?_, by show ok (f (g v)); rw [hfg]; exact hok⟩
  show d.K w (f (g v)) cs
  rw [hfg]
  simpa using hk
end
end Go.Proofs.Ytkihdohphddjaaa.Rd

namespace Go.Proofs.Ytkihdohphddjaaa.OFnExactGroupsPut
open Go.RowKit Go.Proofs.YtkihdohphddjaaaW.PrintWords Go.Proofs.Ytkihdohphddjaaa.G
set_option linter.unusedVariables false
def Ok34 (x : S34) : Prop := (x.f0.size ≤ maxLen) ∧ ((Lit.int .i64 x.f1).wf = true)
theorem open34 {H : Type} {enc : TypeId × Value → H} {w : World} {base : Nat} {spare : Nat → Bool} {held : Bool} : Rd.Opens enc Try.prog w base spare held 34 k34 Ok34 :=
  Rd.Opens.imp_ (Rd.opens_struct (g := fun p => (⟨p.1, p.2⟩ : S34)) Try.underlying34 (by kernel_rfl) (fun _ => rfl) (Rd.opens_more rfl (Rd.opens_string Try.underlying9 (by kernel_rfl)) (Rd.opens_last rfl (Rd.opens_int Try.underlying3 (by kernel_rfl))))) (fun _ h => h)
def Pure : Prop := ∀ (l0 : List (S34)) (x1 : S34), l0.length ≤ maxLen → (∀ y ∈ l0, Ok34 y) → Ok34 x1 → ∃ k, laws_FnExactGroupsPut.f k l0 (x1.f0) (x1.f1) = some true
end Go.Proofs.Ytkihdohphddjaaa.OFnExactGroupsPut

namespace Go.Proofs.Ytkihdohphddjaaa.Pu
open Go.RowKit Go.Proofs.YtkihdohphddjaaaW.PrintWords Go.Proofs.YtkihdohphddjaaaW.PrintLast
set_option linter.unusedVariables false
set_option linter.unusedSimpArgs false
theorem w64 {a : Int} (h0 : -9223372036854775808 ≤ a) (h1 : a ≤ 9223372036854775807) : wrap64 a = a := by unfold wrap64; omega
/-- It ends, in something of which P holds. -/
def EndsIn {α : Type} (g : Nat → Option α) (P : α → Prop) : Prop := ∃ r, Ev g r ∧ P r
theorem EndsIn.bind {α β : Type} {g : Nat → Option α} {f : Nat → α → Option β} {P : α → Prop} {Q : β → Prop} (h : EndsIn g P) (k : ∀ a, P a → EndsIn (fun n => f n a) Q) : EndsIn (fun n => (g n).bind (f n)) Q := by
  obtain ⟨a, ha, hp⟩ := h
  obtain ⟨b, hb, hq⟩ := k a hp
  exact ⟨b, Ev.bind ha hb, hq⟩
theorem EndsIn.step {α : Type} {g f : Nat → Option α} {P : α → Prop} (h : ∀ k, g (k + 1) = f k) (k : EndsIn f P) : EndsIn g P := by
  obtain ⟨a, ha, hp⟩ := k
  exact ⟨a, Ev.step h ha, hp⟩
theorem EndsIn.now {α : Type} {P : α → Prop} (r : α) (hp : P r) : EndsIn (fun _ => some r) P := ⟨r, Ev.now r, hp⟩
theorem EndsIn.mono {α : Type} {g : Nat → Option α} {P Q : α → Prop} (h : EndsIn g P) (k : ∀ a, P a → Q a) : EndsIn g Q := by
  obtain ⟨a, ha, hp⟩ := h
  exact ⟨a, ha, k a hp⟩
theorem EndsIn.ev {α : Type} {g : Nat → Option α} {r : α} (h : EndsIn g (fun x => x = r)) : Ev g r := by
  obtain ⟨a, ha, rfl⟩ := h
  exact ha
theorem EndsIn.rounds {α : Type} {g : Nat → Option α} {r : α} (h : EndsIn g (fun x => x = r)) : ∃ k, g k = some r := h.ev.rounds
/-! bytes -/
theorem bt_get (s : ByteArray) (i : Nat) (h : i < s.size) : bt s (i : Int) = ((s.data.toList[i]'(by simpa using h)).toNat : Int) := by
  unfold bt
  rw [dif_pos (by simpa using h)]
  simp only [Int.toNat_natCast]
  rfl
theorem data_len (s : ByteArray) : s.data.toList.length = s.size := by simp
theorem toList_data (s : ByteArray) : s.toList = s.data.toList := ByteArray.toList_eq s
/-! the order of strings -/
theorem less_irrefl : ∀ (x : List UInt8), Op.bytesLess x x = false
  | [] => rfl
  | a :: x => by
    simp only [Op.bytesLess, beq_self_eq_true, Bool.true_and, less_irrefl x, Bool.or_false, decide_eq_false_iff_not]
    exact UInt8.lt_irrefl a
theorem less_trans : ∀ (x y z : List UInt8), Op.bytesLess x y = true → Op.bytesLess y z = true → Op.bytesLess x z = true
  | [], [], _, h, _ => by simp [Op.bytesLess] at h
  | [], _ :: _, [], _, h => by simp [Op.bytesLess] at h
  | [], _ :: _, _ :: _, _, _ => rfl
  | _ :: _, [], _, h, _ => by simp [Op.bytesLess] at h
  | _ :: _, _ :: _, [], _, h => by simp [Op.bytesLess] at h
  | a :: x, b :: y, c :: z, h, k => by
    simp only [Op.bytesLess, Bool.or_eq_true, decide_eq_true_eq, Bool.and_eq_true, beq_iff_eq] at h k ⊢
    rcases h with h | ⟨rfl, h⟩
    · rcases k with k | ⟨rfl, k⟩
      · exact .inl (UInt8.lt_trans h k)
      · exact .inl h
    · rcases k with k | ⟨rfl, k⟩
      · exact .inl k
      · exact .inr ⟨rfl, less_trans x y z h k⟩
/-! lists that are filled place by place -/
theorem fill_set {α β : Type} (f : α → β) (z : β) (l : List α) (i : Nat) (h : i < l.length) :
    ((l.take i).map f ++ List.replicate (l.length - i) z).set i (f l[i]) = (l.take (i + 1)).map f ++ List.replicate (l.length - (i + 1)) z := by
  have hlen : ((l.take i).map f).length = i := by simp; omega
  rw [List.set_append_right _ _ (by omega), hlen, Nat.sub_self]
  obtain ⟨m, hm⟩ : ∃ m, l.length - i = m + 1 := ⟨l.length - i - 1, by omega⟩
  rw [hm, List.replicate_succ, List.set_cons_zero, List.take_succ_eq_append_getElem h, List.map_append, show l.length - (i + 1) = m by omega]
  simp
theorem fill_len {α β : Type} (f : α → β) (z : β) (l : List α) (i : Nat) (h : i ≤ l.length) : ((l.take i).map f ++ List.replicate (l.length - i) z).length = l.length := by
  simp; omega
end Go.Proofs.Ytkihdohphddjaaa.Pu

namespace Go.Proofs.Ytkihdohphddjaaa.Pu
open Go.RowKit Go.Proofs.YtkihdohphddjaaaW.PrintWords Go.Proofs.YtkihdohphddjaaaW.PrintLast Go.Proofs.Ytkihdohphddjaaa.G
set_option linter.unusedVariables false
set_option linter.unusedSimpArgs false
def low (c : UInt8) : Bool := decide (97 ≤ c.toNat) && decide (c.toNat ≤ 122)
def word (s : ByteArray) (most : Int) : Bool := (decide (1 ≤ s.size) && decide ((s.size : Int) ≤ most)) && s.data.toList.all low
def gOk (g : S25) : Bool := word g.f0 6 && (decide (0 ≤ g.f1) && decide (g.f1 ≤ 100000))
theorem drop_cons_get {α : Type} (l : List α) (i : Nat) (h : i < l.length) : l.drop i = l[i] :: l.drop (i + 1) := by simp
theorem bt_low (s : ByteArray) (i : Nat) (h : i < s.size) : low (s.data.toList[i]'(by simpa using h)) = (decide (¬ bt s (i : Int) < 97) && decide (¬ bt s (i : Int) > 122)) := by
  rw [bt_get s i h]
  unfold low
  congr 1
  · simp only [decide_eq_decide]; omega
  · simp only [decide_eq_decide]; omega
theorem letters_loop (s : ByteArray) (hs : s.size ≤ 9223372036854775807) : ∀ d i, s.size - i = d → Ev (fun k => impl_letters.l0 k s (s.size : Int) (i : Int)) ((s.data.toList.drop i).all low) := by
  intro d
  induction d with
  | zero =>
    intro i hi
    refine Ev.step (fun k => by rw [impl_letters.l0]) ?_
    rw [List.drop_of_length_le (by rw [data_len]; omega)]
    simp only [if_neg (show ¬ ((i : Int) < (s.size : Int)) by omega)]
    exact Ev.now _
  | succ d ih =>
    intro i hi
    have hlt : i < s.size := by omega
    refine Ev.step (fun k => by rw [impl_letters.l0]) ?_
    simp only [if_pos (show ((i : Int) < (s.size : Int)) by omega), if_pos (show (0 : Int) ≤ (i : Int) by omega)]
    rw [drop_cons_get _ i (by rw [data_len]; exact hlt), List.all_cons, bt_low s i hlt]
    by_cases h1 : bt s (i : Int) < 97
    · simp only [if_pos h1, h1]
      exact Ev.now _
    · by_cases h2 : bt s (i : Int) > 122
      · simp only [if_neg h1, if_pos h2, h1, h2]
        exact Ev.now _
      · simp only [if_neg h1, if_neg h2, w64 (a := (i : Int) + 1) (by omega) (by omega)]
        have := ih (i + 1) (by omega)
        simpa [h1, h2] using this
theorem letters_ev (s : ByteArray) (most : Int) (hs : s.size ≤ 9223372036854775807) : Ev (fun k => impl_letters.f k s most) (word s most) := by
  unfold impl_letters.f word
  by_cases h0 : (s.size : Int) < 1
  · simp only [if_pos h0]
    refine Ev.step (fun k => by rw [impl_letters.j0]) ?_
    rw [show decide (1 ≤ s.size) = false from decide_eq_false (by omega)]
    exact Ev.now _
  · simp only [if_neg h0]
    refine Ev.step (fun k => by rw [impl_letters.j0]) ?_
    rw [show decide (1 ≤ s.size) = true from decide_eq_true (by omega)]
    by_cases h1 : (s.size : Int) > most
    · simp only [h1, decide_true, if_true]
      rw [show decide ((s.size : Int) ≤ most) = false from decide_eq_false (by omega)]
      exact Ev.now _
    · simp only [h1, decide_false]
      rw [show decide ((s.size : Int) ≤ most) = true from decide_eq_true (by omega)]
      have := letters_loop s hs s.size 0 (by omega)
      simpa using this
theorem groupValid_ev (g : S25) (hs : g.f0.size ≤ 9223372036854775807) : Ev (fun k => impl_groupValid.f k g.f0 g.f1) (gOk g) := by
  unfold impl_groupValid.f gOk
  refine Ev.bind (letters_ev _ _ hs) ?_
  cases word g.f0 6
  · exact Ev.now _
  · simp only [if_true]
    unfold impl_within.f
    by_cases h : g.f1 ≥ 0
    · simp only [if_pos h, Option.bind_some]
      rw [show decide (0 ≤ g.f1) = true from decide_eq_true h]
      exact Ev.now _
    · simp only [if_neg h, Option.bind_some]
      rw [show decide (0 ≤ g.f1) = false from decide_eq_false h]
      exact Ev.now _
theorem l6In_some (a b c : Int) : spec_l6In.f a b c = some (decide (b ≤ a) && decide (a ≤ c)) := by
  unfold spec_l6In.f
  by_cases h : a ≥ b
  · rw [if_pos h, show decide (b ≤ a) = true from decide_eq_true h]; rfl
  · rw [if_neg h, show decide (b ≤ a) = false from decide_eq_false h]; rfl
theorem group_loop (g : S25) (hs : g.f0.size ≤ 9223372036854775807) : ∀ d i, g.f0.size - i = d → Ev (fun k => spec_l32Group.l0 k (i : Int) g.f0 g.f1) ((g.f0.data.toList.drop i).all low && ((decide (1 ≤ g.f0.size) && decide ((g.f0.size : Int) ≤ 6)) && (decide (0 ≤ g.f1) && decide (g.f1 ≤ 100000)))) := by
  intro d
  induction d with
  | zero =>
    intro i hi
    refine Ev.step (fun k => by rw [spec_l32Group.l0]) ?_
    rw [List.drop_of_length_le (by rw [data_len]; omega)]
    simp only [if_neg (show ¬ ((i : Int) < (g.f0.size : Int)) by omega), l6In_some, Option.bind_some]
    rw [show decide ((1 : Int) ≤ (g.f0.size : Int)) = decide (1 ≤ g.f0.size) from decide_eq_decide.2 (by omega)]
    cases (decide (1 ≤ g.f0.size) && decide ((g.f0.size : Int) ≤ 6))
    · exact Ev.now _
    · exact Ev.now _
  | succ d ih =>
    intro i hi
    have hlt : i < g.f0.size := by omega
    refine Ev.step (fun k => by rw [spec_l32Group.l0]) ?_
    simp only [if_pos (show ((i : Int) < (g.f0.size : Int)) by omega), if_pos (show (0 : Int) ≤ (i : Int) by omega)]
    rw [drop_cons_get _ i (by rw [data_len]; exact hlt), List.all_cons, bt_low g.f0 i hlt]
    by_cases h1 : bt g.f0 (i : Int) < 97
    · simp only [if_pos h1, h1]
      exact Ev.now _
    · by_cases h2 : bt g.f0 (i : Int) > 122
      · simp only [if_neg h1, if_pos h2, h1, h2]
        exact Ev.now _
      · simp only [if_neg h1, if_neg h2, w64 (a := (i : Int) + 1) (by omega) (by omega)]
        have := ih (i + 1) (by omega)
        simpa [h1, h2] using this
theorem l32Group_ev (g : S25) (hs : g.f0.size ≤ 9223372036854775807) : Ev (fun k => spec_l32Group.f k g.f0 g.f1) (gOk g) := by
  have := group_loop g hs g.f0.size 0 (by omega)
  unfold spec_l32Group.f gOk word
  rw [List.drop_zero] at this
  have e : ∀ a b c : Bool, (a && (b && c)) = ((b && a) && c) := by decide
  rw [e] at this
  exact this
/-- Valid from place i on, each behind the one ahead of it. -/
def gsFrom (prev : Option S25) : List S25 → Bool
  | [] => true
  | g :: l => gOk g && ((match prev with | none => true | some p => Op.bytesLess p.f0.toList g.f0.toList) && gsFrom (some g) l)
def gsOk (l : List S25) : Bool := gsFrom none l && decide (l.length ≤ 8)
theorem rd_nat (l : List S25) (i : Nat) (h : i < l.length) : rd_T25 l (i : Int) = l[i] := by
  unfold rd_T25
  simp [h]
def prevOf (l : List S25) (i : Nat) : Option S25 := if i = 0 then none else l[i - 1]?
theorem valid_loop (l : List S25) (hl : l.length ≤ 9223372036854775807) (hs : ∀ g ∈ l, g.f0.size ≤ 9223372036854775807) : ∀ d i, l.length - i = d → Ev (fun k => impl_GroupsValid.l0 k l l (l.length : Int) (i : Int)) (gsFrom (prevOf l i) (l.drop i)) := by
  intro d
  induction d with
  | zero =>
    intro i hi
    refine Ev.step (fun k => by rw [impl_GroupsValid.l0]) ?_
    rw [List.drop_of_length_le (by omega)]
    simp only [if_neg (show ¬ ((i : Int) < (l.length : Int)) by omega)]
    exact Ev.now _
  | succ d ih =>
    intro i hi
    have hlt : i < l.length := by omega
    refine Ev.step (fun k => by rw [impl_GroupsValid.l0]) ?_
    simp only [if_pos (show ((i : Int) < (l.length : Int)) by omega), if_pos (show (0 : Int) ≤ (i : Int) by omega)]
    rw [drop_cons_get _ i hlt, rd_nat l i hlt]
    refine Ev.bind (groupValid_ev _ (hs _ (List.getElem_mem _))) ?_
    unfold gsFrom
    have hn := ih (i + 1) (by omega)
    rw [show prevOf l (i + 1) = some l[i] by unfold prevOf; simp [hlt]] at hn
    cases gOk l[i]
    · exact Ev.now _
    · simp only [if_true, Bool.true_and, w64 (a := (i : Int) + 1) (by omega) (by omega)]
      rcases Nat.eq_zero_or_pos i with h0 | h0
      · subst h0
        simp only [if_neg (show ¬ (((0 : Nat) : Int) > 0) by omega)]
        unfold prevOf
        simpa using hn
      · have hp : prevOf l i = some l[i - 1] := by
          unfold prevOf
          rw [if_neg (by omega)]
          simp [show i - 1 < l.length by omega]
        rw [hp]
        simp only [if_pos (show ((i : Int) > 0) by omega), w64 (a := (i : Int) - 1) (by omega) (by omega), if_pos (show (0 : Int) ≤ (i : Int) - 1 by omega), if_pos (show ((i : Int) - 1) < (l.length : Int) by omega)]
        rw [show ((i : Int) - 1) = ((i - 1 : Nat) : Int) by omega, rd_nat l (i - 1) (by omega)]
        cases Op.bytesLess l[i - 1].f0.toList l[i].f0.toList
        · exact Ev.now _
        · simpa using hn
theorem valid_ev (l : List S25) (hl : l.length ≤ 9223372036854775807) (hs : ∀ g ∈ l, g.f0.size ≤ 9223372036854775807) : Ev (fun k => impl_GroupsValid.f k l) (gsOk l) := by
  unfold impl_GroupsValid.f gsOk
  by_cases h : (l.length : Int) > 8
  · simp only [if_pos h]
    rw [show decide (l.length ≤ 8) = false from decide_eq_false (by omega), Bool.and_false]
    exact Ev.now _
  · simp only [if_neg h]
    rw [show decide (l.length ≤ 8) = true from decide_eq_true (by omega), Bool.and_true]
    have := valid_loop l hl hs l.length 0 (by omega)
    simpa [prevOf] using this
theorem svalid_loop (l : List S25) (hl : l.length ≤ 9223372036854775807) (hs : ∀ g ∈ l, g.f0.size ≤ 9223372036854775807) : ∀ d i, l.length - i = d → Ev (fun k => spec_GroupsValid.l0 k l (i : Int)) (gsFrom (prevOf l i) (l.drop i) && decide (l.length ≤ 8)) := by
  intro d
  induction d with
  | zero =>
    intro i hi
    refine Ev.step (fun k => by rw [spec_GroupsValid.l0]) ?_
    rw [List.drop_of_length_le (by omega)]
    simp only [if_neg (show ¬ ((i : Int) < (l.length : Int)) by omega)]
    rw [show decide ((l.length : Int) ≤ 8) = decide (l.length ≤ 8) from decide_eq_decide.2 (by omega)]
    exact Ev.now _
  | succ d ih =>
    intro i hi
    have hlt : i < l.length := by omega
    refine Ev.step (fun k => by rw [spec_GroupsValid.l0]) ?_
    simp only [if_pos (show ((i : Int) < (l.length : Int)) by omega), if_pos (show (0 : Int) ≤ (i : Int) by omega)]
    rw [drop_cons_get _ i hlt, rd_nat l i hlt]
    refine Ev.bind (l32Group_ev _ (hs _ (List.getElem_mem _))) ?_
    unfold gsFrom
    have hn := ih (i + 1) (by omega)
    rw [show prevOf l (i + 1) = some l[i] by unfold prevOf; simp [hlt]] at hn
    cases gOk l[i]
    · exact Ev.now _
    · simp only [if_true, Bool.true_and, w64 (a := (i : Int) + 1) (by omega) (by omega)]
      rcases Nat.eq_zero_or_pos i with h0 | h0
      · subst h0
        simp only [if_neg (show ¬ (((0 : Nat) : Int) > 0) by omega)]
        unfold prevOf
        simpa using hn
      · have hp : prevOf l i = some l[i - 1] := by
          unfold prevOf
          rw [if_neg (by omega)]
          simp [show i - 1 < l.length by omega]
        rw [hp]
        simp only [if_pos (show ((i : Int) > 0) by omega), w64 (a := (i : Int) - 1) (by omega) (by omega), if_pos (show (0 : Int) ≤ (i : Int) - 1 by omega), if_pos (show ((i : Int) - 1) < (l.length : Int) by omega)]
        rw [show ((i : Int) - 1) = ((i - 1 : Nat) : Int) by omega, rd_nat l (i - 1) (by omega)]
        cases Op.bytesLess l[i - 1].f0.toList l[i].f0.toList
        · exact Ev.now _
        · simpa using hn
theorem svalid_ev (l : List S25) (hl : l.length ≤ 9223372036854775807) (hs : ∀ g ∈ l, g.f0.size ≤ 9223372036854775807) : Ev (fun k => spec_GroupsValid.f k l) (gsOk l) := by
  unfold spec_GroupsValid.f gsOk
  have := svalid_loop l hl hs l.length 0 (by omega)
  simpa [prevOf] using this
end Go.Proofs.Ytkihdohphddjaaa.Pu

