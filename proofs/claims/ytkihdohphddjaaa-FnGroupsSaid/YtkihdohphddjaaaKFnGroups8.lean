/- A text of seat Ytkihdohphddjaaa: what the law FnGroups needs of this repo's texts (by pack.py). Not trusted: Lean checks it. -/
import Derived.Test.YtkihdohphddjaaaKFnGroups7
import Derived.Deep.Slices
import Derived.SizedLaws
import Derived.Laws.BitsLemmas
namespace Go.Proofs.Ytkihdohphddjaaa.G
open Go.RowKit Go.Proofs.YtkihdohphddjaaaW.PrintWords Go.Proofs.YtkihdohphddjaaaW.PrintLast Go.Proofs.YtkihdohphddjaaaW.PrintMore
attribute [local go_sem] max2_int min2_int max_two min_two max_three min_three max_four min_four   -- for this text's walks alone
set_option linter.unusedVariables false
set_option linter.unusedSimpArgs false

attribute [local go_sem high] eqA25
mutual
def laws_FnGroups.j0 : Nat → List (S25) → List (S25) → Bool → List (S25) → Bool → Bool → ByteArray → Int → Option (Bool)
 | 0, _, _, _, _, _, _, _, _ => none
 | k + 1, x3, x5, x6, x7, x8, x45, x230000, x230001 => if x45 = true then (if (x6 == x8) = true then ((laws_sameGroups.f k x5 x7).bind fun t239 => (some t239)) else (some false)) else (laws_FnGroups.l0 k x3 x5 0 x230000 x230001)
def laws_FnGroups.l0 : Nat → List (S25) → List (S25) → Int → ByteArray → Int → Option (Bool)
 | 0, _, _, _, _, _ => none
 | k + 1, x3, x5, x9, x230000, x230001 => if x9 < (x5.length : Int) then (if 0 ≤ x9 then (if ((rd_T25 x5 x9).f0).toList = x230000.toList then ((some (([] : List (S25)) : List (S25))).bind fun y241 => (if x9 ≤ (x5.length : Int) then ((some (x5.take (x9 : Int).toNat : List (S25))).bind fun y244 => (if y241.length + y244.length < 5864062014805 then ((some (y241 ++ y244 : List (S25))).bind fun y249 => (if 0 ≤ (wrap64 (x9 + 1)) then (if (wrap64 (x9 + 1)) ≤ (x5.length : Int) then ((some (x5.drop ((wrap64 (x9 + 1)) : Int).toNat : List (S25))).bind fun y252 => (if y249.length + y252.length < 5864062014805 then (laws_FnGroups.l1 k x3 x5 x9 (y249 ++ y252) (([] : List (S25))) 0 x230000 x230001) else (none))) else (none)) else (none))) else (none))) else (none))) else (laws_FnGroups.l0 k x3 x5 (wrap64 (x9 + 1)) x230000 x230001)) else (none)) else (some false)
def laws_FnGroups.l1 : Nat → List (S25) → List (S25) → Int → List (S25) → List (S25) → Int → ByteArray → Int → Option (Bool)
 | 0, _, _, _, _, _, _, _, _ => none
 | k + 1, x3, x5, x9, x10, x11, x12, x230000, x230001 => if x12 < (x3.length : Int) then (if 0 ≤ x12 then (if ((rd_T25 x3 x12).f0).toList = x230000.toList then (laws_FnGroups.l1 k x3 x5 x9 x10 x11 (wrap64 (x12 + 1)) x230000 x230001) else (if x11.length < 5864062014805 then (laws_FnGroups.l1 k x3 x5 x9 x10 (x11 ++ [(⟨(rd_T25 x3 x12).f0, (rd_T25 x3 x12).f1⟩ : S25)]) (wrap64 (x12 + 1)) x230000 x230001) else (none))) else (none)) else ((impl_GroupsValid.f k x5).bind fun t268 => (if t268 = true then (if 0 ≤ x9 then (if x9 < (x5.length : Int) then (if ((((rd_T25 x5 x9).f0).toList) == x230000.toList && (((rd_T25 x5 x9).f1) == x230001)) = true then ((laws_sameGroups.f k x10 x11).bind fun t270 => (some t270)) else (some false)) else (none)) else (none)) else (some false)))
end
def laws_FnGroups.f (k : Nat) (l0 : List Int) : Option (Bool) := if (l0.length : Int) > 1048576 then (some true) else ((spec_DrawGroupsPut.f k l0).bind fun bt224 => ((impl_GroupsPut.f k bt224.1 bt224.2.1 bt224.2.2).bind fun bt230 => ((spec_GroupsPut.f k bt224.1 bt224.2.1 bt224.2.2).bind fun bt234 => (if (bt230.2 != bt234.2) = true then (laws_FnGroups.j0 k bt224.1 bt230.1 bt230.2 bt234.1 bt234.2 true bt224.2.1 bt224.2.2) else ((laws_sameGroups.f k bt230.1 bt234.1).bind fun t238 => (if t238 = true then (laws_FnGroups.j0 k bt224.1 bt230.1 bt230.2 bt234.1 bt234.2 (!bt230.2) bt224.2.1 bt224.2.2) else (laws_FnGroups.j0 k bt224.1 bt230.1 bt230.2 bt234.1 bt234.2 true bt224.2.1 bt224.2.2)))))))
def laws_FnGroups.T11 : Bool × List (List Nat × List Nat) := (true, [([], []), ([], []), ([0, 1], [0, 1]), ([2], [2]), ([3], [3]), ([], []), ([5], [5]), ([4, 6], [4, 6])])
def laws_FnGroups.B11 : List Nat := [0, 0, 3, 7, 15, 0, 32, 127]
theorem laws_FnGroups.tab11 : rtab .any (opsOf Try.f3 11) = laws_FnGroups.T11 := by kernel_rfl
theorem laws_FnGroups.bits11 : waitsOk laws_FnGroups.T11.2 laws_FnGroups.B11 = true := by kernel_rfl
def laws_FnGroups.T12 : Bool × List (List Nat × List Nat) := (true, [([], []), ([], []), ([], []), ([1, 2], [1, 2]), ([0, 3], [0, 3]), ([], []), ([], []), ([6], [6]), ([5, 7], [5, 7]), ([4, 8, 4], [4, 8]), ([9, 9, 0, 1, 2, 3, 4, 5, 6, 7, 8, 9], [9])])
def laws_FnGroups.B12 : List Nat := [0, 0, 0, 6, 15, 0, 0, 64, 224, 511, 1023]
theorem laws_FnGroups.tab12 : rtab .any (opsOf Try.f3 12) = laws_FnGroups.T12 := by kernel_rfl
theorem laws_FnGroups.bits12 : waitsOk laws_FnGroups.T12.2 laws_FnGroups.B12 = true := by kernel_rfl
def laws_FnGroups.T17 : Bool × List (List Nat × List Nat) := (true, [([], []), ([], []), ([0, 1], [0, 1]), ([2], [2]), ([3], [3]), ([], []), ([5], [5]), ([4, 6], [4, 6])])
def laws_FnGroups.B17 : List Nat := [0, 0, 3, 7, 15, 0, 32, 127]
theorem laws_FnGroups.tab17 : rtab .any (opsOf Try.f3 17) = laws_FnGroups.T17 := by kernel_rfl
theorem laws_FnGroups.bits17 : waitsOk laws_FnGroups.T17.2 laws_FnGroups.B17 = true := by kernel_rfl
def laws_FnGroups.T19 : Bool × List (List Nat × List Nat) := (true, [([], []), ([0], [0]), ([1, 1], [1]), ([2], [2]), ([2], [2]), ([3, 4, 2], [2, 3, 4]), ([5, 2], [2, 5]), ([2], [2]), ([6, 7, 2], [2, 6, 7]), ([2, 8], [2, 8]), ([9, 2], [9]), ([10], [10]), ([10], [10]), ([11, 12, 10, 10], [10, 11, 12]), ([10, 13], [10, 13]), ([14, 13, 0, 1, 2, 3, 4, 5, 6, 7, 8, 9, 10, 11, 12, 13, 14], [14])])
def laws_FnGroups.B19 : List Nat := [0, 1, 3, 7, 7, 31, 63, 7, 255, 511, 1023, 2047, 2047, 8191, 16383, 32767]
theorem laws_FnGroups.tab19 : rtab .any (opsOf Try.f3 19) = laws_FnGroups.T19 := by kernel_rfl
theorem laws_FnGroups.bits19 : waitsOk laws_FnGroups.T19.2 laws_FnGroups.B19 = true := by kernel_rfl
set_option maxHeartbeats 8000000 in
set_option maxRecDepth 100000 in
theorem laws_FnGroups.calls (k : Nat) (A0 : Option Addr) (c0 : Nat) (l0 : List Int) (r : Bool) (w : World) (hr0 : Kd.C (Kd.int .u8) w A0 l0.length l0) (hc0 : l0.length ≤ c0) (h : laws_FnGroups.f k l0 = some r) :
  Calls Try.prog 3 #[.slice A0 l0.length c0] w fun e w' => e = .returned (.bool r) ∧ Below w.heap.size w w' := by
 have hu25 := Try.underlying25
 have HR0 := Aside0.mk hr0
 have HC0 := Aside0.mk hc0
 clear hr0 hc0
 have HB := Aside0.mk (Below.refl w.heap.size w)
 have H : (if (l0.length : Int) > 1048576 then (some true) else ((spec_DrawGroupsPut.f k l0).bind fun bt224 => ((impl_GroupsPut.f k bt224.1 bt224.2.1 bt224.2.2).bind fun bt230 => ((spec_GroupsPut.f k bt224.1 bt224.2.1 bt224.2.2).bind fun bt234 => (if (bt230.2 != bt234.2) = true then (laws_FnGroups.j0 k bt224.1 bt230.1 bt230.2 bt234.1 bt234.2 true bt224.2.1 bt224.2.2) else ((laws_sameGroups.f k bt230.1 bt234.1).bind fun t238 => (if t238 = true then (laws_FnGroups.j0 k bt224.1 bt230.1 bt230.2 bt234.1 bt234.2 (!bt230.2) bt224.2.1 bt224.2.2) else (laws_FnGroups.j0 k bt224.1 bt230.1 bt230.2 bt234.1 bt234.2 true bt224.2.1 bt224.2.2)))))))) = some r := h
 clear h
 by_cases c2 : (l0.length : Int) > 1048576
 ·rw [if_pos c2] at H
  have c2b0 : decide (1048576 < (l0.length : Int)) = true := decide_eq_true c2
  have c2b1 : decide (1048576 < l0.length) = true := decide_eq_true (by omega)
  clear c2
  obtain rfl := Option.some.inj H
  go_enter Try.func3, Try.ntmps3
  go_wp2
  all_goals go_ret
  all_goals exact ⟨by first | rfl | (simp [errW_none, errW_some] <;> rfl) | (simp [*, errW_none, errW_some] <;> rfl), zb⟩
 ·rw [if_neg c2] at H
  have c2b0 : decide (1048576 < (l0.length : Int)) = false := decide_eq_false c2
  have c2b1 : decide (1048576 < l0.length) = false := decide_eq_false (by omega)
  clear c2
  replace H := tbe H
  obtain ⟨⟨t224, t227, t228⟩, A3, H⟩ := H
  dsimp only at H
  replace H := tbe H
  obtain ⟨⟨t230, t233⟩, A4, H⟩ := H
  dsimp only at H
  replace H := tbe H
  obtain ⟨⟨t234, t237⟩, A5, H⟩ := H
  dsimp only at H
  have HC6 := Aside0.mk H
  clear H
  go_enter Try.func3, Try.ntmps3
  go_upto_region 6 with (first | ((with_reducible refine gate_callee (f := 7) rfl ?_); refine goesL_ (some 18) rfl rfl Try.func7 (by kernel_rfl) rfl #[.slice A0 l0.length c0] rfl tq ?_; (with_reducible refine (spec_DrawGroupsPut.calls k _ _ l0 t224 t227 t228 _ ?side1 ?side2 A3.out).mono ?_); (case side1 => exact tC HR0.out); (case side2 => exact HC0.out); rintro e w7 ⟨v225, rfl, ho0, hb⟩; have u_v225 := tsv Try.prog v225 ho0; refine ⟨_, rfl, ?_⟩; have HO226 := tRl ho0 HB; replace HB := tBs HB hb; (try clear hb); (try clear hb2); (try clear hk); (try clear hi); (try clear ho0)) | ((with_reducible refine gate_dst (N := 4) rfl ?_); refine box_event ?hg (N := 4) ?hd (cs := #[.string (⟨#[]⟩ : ByteArray), .int .i64 0]) (t := 25) ?hr ?_; (case hd => rfl); (case hg => rfl); (case hr => first | (go_simp; done) | (go_simp; rfl)); intro gb229 hg w8 hbox hb; replace HO226 := tRB HO226 hg hb; have BK229 := Aside0.mk (hbox); have GW229 := tge HB hg; have GE229 := tge HB hg; replace HB := tBs HB hb; clear hb hbox hg; obtain ⟨hcz9_0, hcz9_1, hfz9_0, hfz9_1⟩ := cells2 BK229.out; obtain ⟨Ao10, co10, eo10⟩ := Kd.R_slice HO226.out; subst eo10) | ((with_reducible refine gate_callee (f := 8) rfl ?_); refine goesL_ (some 24) rfl rfl Try.func8 (by kernel_rfl) rfl #[.slice Ao10 t224.length co10, .agg #[.string t227, .int .i64 t228]] rfl tq ?_; (with_reducible refine (impl_GroupsPut.calls k _ _ t224 t227 t228 t230 t233 _ ?side1 ?side2 A4.out).mono ?_); (case side1 => refine (Kd.R_reads' (e := 25) (base := w.heap.size) (ok := fun k_ => (True ∧ k_ ≠ gb229)) (n := t224.length) (c := co10) ?_).2.2; exact (tR HO226.out)); (case side2 => exact (Kd.R_reads' HO226.out).2.1); rintro e w11 ⟨v231, rfl, ho0, hb⟩; have u_v231 := tsv Try.prog v231 ho0; refine ⟨_, rfl, ?_⟩; have HO232 := Aside0.mk (Kd.V_lower (Kd.V_mono (ok' := fun k_ => some k_ ≠ (.slice Ao10 t224.length co10 : Value).ownBlock ∧ k_ ≠ gb229) ho0 (fun k_ hk_ => ⟨(Kd.fresh' (Kd.R_lt (tR HO226.out)) k_ hk_), (Kd.freshB (g := gb229) (o := .cells #[.string t227, .int .i64 t228] 25 (0, 0)) (by (with_reducible repeat (first | refine blk_drewN ?_ _ | refine blk_drew ?_ | refine blk_alloc ?_ _)); refine blk_put (cs := #[.string t227, .int .i64 0]) ?_ 1 _ rfl; (with_reducible repeat (first | refine blk_drewN ?_ _ | refine blk_drew ?_ | refine blk_alloc ?_ _)); refine blk_put (cs := #[.string (⟨#[]⟩ : ByteArray), .int .i64 0]) ?_ 0 _ rfl; exact tP BK229.out) k_ hk_)⟩)) (below_size zb)); replace HO226 := tRb HO226 hb; replace BK229 := Aside0.mk (blk_below (g := gb229) (o := .cells #[.string t227, .int .i64 t228] 25 (0, 0)) (by (with_reducible repeat (first | refine blk_drewN ?_ _ | refine blk_drew ?_ | refine blk_alloc ?_ _)); refine blk_put (cs := #[.string t227, .int .i64 0]) ?_ 1 _ rfl; (with_reducible repeat (first | refine blk_drewN ?_ _ | refine blk_drew ?_ | refine blk_alloc ?_ _)); refine blk_put (cs := #[.string (⟨#[]⟩ : ByteArray), .int .i64 0]) ?_ 0 _ rfl; exact tP BK229.out) hb); replace HB := tBs HB hb; (try clear hb); (try clear hb2); (try clear hk); (try clear hi); (try clear ho0); obtain ⟨hcz12_0, hcz12_1, hfz12_0, hfz12_1⟩ := cells2 BK229.out) | ((with_reducible refine gate_callee (f := 9) rfl ?_); refine goesL_ (some 30) rfl rfl Try.func9 (by kernel_rfl) rfl #[.slice Ao10 t224.length co10, .agg #[.string t227, .int .i64 t228]] rfl tq ?_; (with_reducible refine (spec_GroupsPut.calls k _ _ t224 t227 t228 t234 t237 _ ?side1 ?side2 A5.out).mono ?_); (case side1 => repeat (first | exact (Kd.R_reads' HO226.out).2.2 | (with_reducible refine Kd.C_alloc ?_ _) | (with_reducible refine Kd.C_drewN ?_ _) | (with_reducible refine Kd.C_drew ?_))); (case side2 => exact (Kd.R_reads' HO226.out).2.1); rintro e w13 ⟨v235, rfl, ho0, hb⟩; have u_v235 := tsv Try.prog v235 ho0; refine ⟨_, rfl, ?_⟩; replace HO232 := Aside0.mk (Kd.V_elder' (tV HO232.out) (Kd.R_base ho0) hb); have HO236 := Aside0.mk (Kd.R_lower (Kd.R_newB (Kd.R_new' ho0 (Kd.R_lt (tR HO226.out))) (g := gb229) (o := .cells #[.string t227, .int .i64 t228] 25 (0, 0)) (tH BK229.out)) (below_size zb)); replace HO226 := Aside0.mk (Kd.R_elder' (tR HO226.out) (Kd.R_base ho0) hb); replace BK229 := tBb BK229 hb; replace HB := tBs HB hb; (try clear hb); (try clear hb2); (try clear hk); (try clear hi); (try clear ho0)))
  (try simp only [Act.put, List.setIfInBounds_toArray, List.set_cons_zero, List.set_cons_succ])
  go_cut [45] (fun v45 wc => ∃ (kq : Nat) (x45_5 : Bool), v45 = .bool x45_5 ∧ Aside0 (laws_FnGroups.j0 kq t224 t230 t233 t234 t237 x45_5 t227 t228 = some r) ∧ Aside0 (kq ≤ k) ∧ Aside0 (Kd.R k25 25 wc w.heap.size (fun k_ => some k_ ≠ (v235 : Value).ownBlock ∧ k_ ≠ gb229) (.slice Ao10 t224.length co10) t224) ∧ Aside0 (Kd.V k25 25 wc w.heap.size (fun k_ => some k_ ≠ ((.slice Ao10 t224.length co10) : Value).ownBlock ∧ some k_ ≠ (v235 : Value).ownBlock ∧ k_ ≠ gb229) v231 t230) ∧ Aside0 (Kd.R k25 25 wc w.heap.size (fun k_ => some k_ ≠ ((.slice Ao10 t224.length co10) : Value).ownBlock ∧ k_ ≠ gb229) v235 t234) ∧ Aside0 (wc.heap[gb229]? = some (.cells #[.string t227, .int .i64 t228] 25 (0, 0))) ∧ Aside0 (Below w.heap.size w wc))
  case first =>
   have H := HC6.out
   clear HC6
   by_cases c14 : (t233 != t237) = true
   ·rw [if_pos c14] at H
    have c14b0 : (t233 != t237) = true := c14
    (try (have c14b1 : decide (t233 = t237) = false := by simpa using c14))
    (try (have c14b2 : (t233 == t237) = false := by simpa using c14))
    (try (have c14b3 : ¬ (t233 = t237) := by simpa using c14))
    clear c14
    (first | rw [c14b0] | (simp only [i64_w, i32_w]; rw [c14b0]) | skip)
    have H' := Aside0.mk H
    clear H
    go_wp2
    go_meet
    case rel => exact ⟨_, (true), tr, H', ⟨by first | omega | exact Nat.le_refl _⟩, ⟨tRm HO226.out⟩, ⟨tVm HO232.out⟩, ⟨tRm HO236.out⟩, ⟨tH BK229.out⟩, ⟨zb⟩⟩
   ·rw [if_neg c14] at H
    have c14b0 : (t233 != t237) = false := by simpa using c14
    (try (have c14b1 : decide (t233 = t237) = true := by simpa using c14))
    (try (have c14b2 : (t233 == t237) = true := by simpa using c14))
    clear c14
    (first | rw [c14b0] | (simp only [i64_w, i32_w]; rw [c14b0]) | skip)
    replace H := tbe H
    obtain ⟨t238, A15, H⟩ := H
    by_cases c16 : t238 = true
    ·subst c16
     rw [if_pos rfl] at H
     have H' := Aside0.mk H
     clear H
     obtain ⟨Ao17, co17, eo17⟩ := Kd.V_slice HO232.out
     subst eo17
     obtain ⟨Ao18, co18, eo18⟩ := Kd.R_slice HO236.out
     subst eo18
     go_wp2_with (first | (go_at_call 10; (with_reducible refine (laws_sameGroups.calls k _ _ t230 _ _ t234 true _ ?side1 ?side2 ?side3 ?side4 A15.out).mono ?_); (case side1 => repeat (first | exact (Kd.V_reads' HO232.out).2.2 | (with_reducible refine Kd.C_alloc ?_ _) | (with_reducible refine Kd.C_drewN ?_ _) | (with_reducible refine Kd.C_drew ?_))); (case side2 => exact (Kd.V_reads' HO232.out).2.1); (case side3 => repeat (first | exact (Kd.R_reads' HO236.out).2.2 | (with_reducible refine Kd.C_alloc ?_ _) | (with_reducible refine Kd.C_drewN ?_ _) | (with_reducible refine Kd.C_drew ?_))); (case side4 => exact (Kd.R_reads' HO236.out).2.1); rintro e w' ⟨rfl, ⟨nd, rfl⟩⟩))
     go_meet
     case rel => exact ⟨_, (!t233), tr, H', ⟨by first | omega | exact Nat.le_refl _⟩, ⟨tRm HO226.out⟩, ⟨tVm HO232.out⟩, ⟨tRm HO236.out⟩, ⟨tH BK229.out⟩, ⟨zb⟩⟩
    ·replace c16 := Bool.eq_false_iff.mpr c16
     subst c16
     rw [if_neg (show ¬ (false = true) by decide)] at H
     have H' := Aside0.mk H
     clear H
     obtain ⟨Ao19, co19, eo19⟩ := Kd.V_slice HO232.out
     subst eo19
     obtain ⟨Ao20, co20, eo20⟩ := Kd.R_slice HO236.out
     subst eo20
     go_wp2_with (first | (go_at_call 10; (with_reducible refine (laws_sameGroups.calls k _ _ t230 _ _ t234 false _ ?side1 ?side2 ?side3 ?side4 A15.out).mono ?_); (case side1 => repeat (first | exact (Kd.V_reads' HO232.out).2.2 | (with_reducible refine Kd.C_alloc ?_ _) | (with_reducible refine Kd.C_drewN ?_ _) | (with_reducible refine Kd.C_drew ?_))); (case side2 => exact (Kd.V_reads' HO232.out).2.1); (case side3 => repeat (first | exact (Kd.R_reads' HO236.out).2.2 | (with_reducible refine Kd.C_alloc ?_ _) | (with_reducible refine Kd.C_drewN ?_ _) | (with_reducible refine Kd.C_drew ?_))); (case side4 => exact (Kd.R_reads' HO236.out).2.1); rintro e w' ⟨rfl, ⟨nd, rfl⟩⟩))
     go_meet
     case rel => exact ⟨_, (true), tr, H', ⟨by first | omega | exact Nat.le_refl _⟩, ⟨tRm HO226.out⟩, ⟨tVm HO232.out⟩, ⟨tRm HO236.out⟩, ⟨tH BK229.out⟩, ⟨zb⟩⟩
  case rest =>
   clear HC6
   try clear c2; try clear c2b0; try clear c2b1; try clear hcz12_0; try clear hcz12_1; try clear hcz9_0; try clear hcz9_1; try clear hfz12_0; try clear hfz12_1; try clear hfz9_0; try clear hfz9_1
   obtain ⟨kq, x45_5, rfl, HA, HJ5, HO_3, HO_5, HO_7, BK229, HB⟩ := hcut
   cases kq with
   | zero => exact absurd HA.out (by simp [laws_FnGroups.j0])
   | succ kj5 =>
    have H := HA.out
    clear HA
    simp only [laws_FnGroups.j0] at H
    by_cases c21 : x45_5 = true
    ·subst c21
     rw [if_pos rfl] at H
     by_cases c22 : (t233 == t237) = true
     ·rw [if_pos c22] at H
      have c22b0 : (t233 == t237) = true := c22
      (try (have c22b1 : decide (t233 = t237) = true := by simpa using c22))
      (try (have c22b2 : (t233 == t237) = true := by simpa using c22))
      clear c22
      replace H := tbe H
      obtain ⟨t239, A23, H⟩ := H
      obtain rfl := Option.some.inj H
      obtain ⟨Ao24, co24, eo24⟩ := Kd.V_slice HO_5.out
      subst eo24
      obtain ⟨Ao25, co25, eo25⟩ := Kd.R_slice HO_7.out
      subst eo25
      go_wp2_with (first | (go_at_call 10; (with_reducible refine (laws_sameGroups.calls kj5 _ _ t230 _ _ t234 t239 _ ?side1 ?side2 ?side3 ?side4 A23.out).mono ?_); (case side1 => repeat (first | exact (Kd.V_reads' HO_5.out).2.2 | (with_reducible refine Kd.C_alloc ?_ _) | (with_reducible refine Kd.C_drewN ?_ _) | (with_reducible refine Kd.C_drew ?_))); (case side2 => exact (Kd.V_reads' HO_5.out).2.1); (case side3 => repeat (first | exact (Kd.R_reads' HO_7.out).2.2 | (with_reducible refine Kd.C_alloc ?_ _) | (with_reducible refine Kd.C_drewN ?_ _) | (with_reducible refine Kd.C_drew ?_))); (case side4 => exact (Kd.R_reads' HO_7.out).2.1); rintro e w' ⟨rfl, ⟨nd, rfl⟩⟩))
      all_goals go_ret
      all_goals exact ⟨by first | rfl | (simp [errW_none, errW_some] <;> rfl) | (simp [*, errW_none, errW_some] <;> rfl), zb⟩
     ·rw [if_neg c22] at H
      have c22b0 : (t233 == t237) = false := by simpa using c22
      (try (have c22b1 : decide (t233 = t237) = false := by simpa using c22))
      (try (have c22b2 : (t233 == t237) = false := by simpa using c22))
      (try (have c22b3 : ¬ (t233 = t237) := by simpa using c22))
      clear c22
      obtain rfl := Option.some.inj H
      go_wp2
      all_goals go_ret
      all_goals exact ⟨by first | rfl | (simp [errW_none, errW_some] <;> rfl) | (simp [*, errW_none, errW_some] <;> rfl), zb⟩
    ·replace c21 := Bool.eq_false_iff.mpr c21
     subst c21
     rw [if_neg (show ¬ (false = true) by decide)] at H
     have H' := Aside0.mk H
     clear H
     go_wp2
     go_loopg [9] kj5 (fun kq v9 w' => ∃ (x9_2 : Int), v9 = .int .i64 x9_2 ∧ Aside0 (laws_FnGroups.l0 kq t224 t230 x9_2 t227 t228 = some r) ∧ Aside0 (kq ≤ kj5) ∧ Aside0 (Kd.R k25 25 w' w.heap.size (fun k_ => k_ ≠ gb229) (.slice Ao10 t224.length co10) t224) ∧ Aside0 (Kd.V k25 25 w' w.heap.size (fun k_ => some k_ ≠ ((.slice Ao10 t224.length co10) : Value).ownBlock ∧ k_ ≠ gb229) v231 t230) ∧ Aside0 (w'.heap[gb229]? = some (.cells #[.string t227, .int .i64 t228] 25 (0, 0))) ∧ Aside0 (Below w.heap.size w w'))
     case atStart => exact ⟨(0), tr, H', ⟨Nat.le_refl _⟩, ⟨tRm HO_3.out⟩, ⟨tVm HO_5.out⟩, ⟨tH BK229.out⟩, ⟨zb⟩⟩
     case round =>
      clear H'
      try clear c2; try clear c2b0; try clear c2b1; try clear c21; try clear hcz12_0; try clear hcz12_1; try clear hcz9_0; try clear hcz9_1; try clear hfz12_0; try clear hfz12_1; try clear hfz9_0; try clear hfz9_1
      obtain ⟨x9_2, rfl, HA, HK2, HO_3, HO_5, BK229, HB⟩ := hrel
      cases gk with
      | zero => exact absurd HA.out (by simp [laws_FnGroups.l0])
      | succ k2 =>
       have H := HA.out
       clear HA
       simp only [laws_FnGroups.l0] at H
       by_cases c26 : x9_2 < (t230.length : Int)
       ·rw [if_pos c26] at H
        have c26b0 : decide (x9_2 < (t230.length : Int)) = true := decide_eq_true c26
        clear c26
        by_cases c27 : 0 ≤ x9_2
        ·rw [if_pos c27] at H
         have c27b0 : decide (0 ≤ x9_2) = true := decide_eq_true c27
         clear c27
         by_cases c28 : ((rd_T25 t230 x9_2).f0).toList = t227.toList
         ·rw [if_pos c28] at H
          have c28b0 : (((rd_T25 t230 x9_2).f0).toList == t227.toList) = true := beq_iff_eq.mpr c28
          have c28b1 : (((rd_T25 t230 x9_2).f0).toList != t227.toList) = false := bne_eq_false_iff_eq.mpr c28
          clear c28
          obtain ⟨y241, hy241⟩ : ∃ y_ : List (S25), y_ = (([] : List (S25))) := ⟨_, rfl⟩
          replace H : (if x9_2 ≤ (t230.length : Int) then ((some (t230.take (x9_2 : Int).toNat : List (S25))).bind fun y244 => (if y241.length + y244.length < 5864062014805 then ((some (y241 ++ y244 : List (S25))).bind fun y249 => (if 0 ≤ (wrap64 (x9_2 + 1)) then (if (wrap64 (x9_2 + 1)) ≤ (t230.length : Int) then ((some (t230.drop ((wrap64 (x9_2 + 1)) : Int).toNat : List (S25))).bind fun y252 => (if y249.length + y252.length < 5864062014805 then (laws_FnGroups.l1 k2 t224 t230 x9_2 (y249 ++ y252) (([] : List (S25))) 0 t227 t228) else (none))) else (none)) else (none))) else (none))) else (none)) = some r := by first | (rw [hy241]; with_reducible exact H) | (have H2_ := (Option.bind_some _ _).symm.trans H; rw [hy241]; with_reducible exact H2_) | (have H2_ := (Option.bind_some _ _).symm.trans H; with_reducible exact H2_) | with_reducible exact H | (rw [hy241]; exact H) | exact H
          have Ny241 := Aside0.mk hy241
          clear hy241
          have c29b0 := eq_true (td : 0 ≤ x9_2)
          by_cases c30 : x9_2 ≤ (t230.length : Int)
          ·rw [if_pos c30] at H
           have c30b0 := eq_true c30
           have c30b1 : decide (x9_2 ≤ (t230.length : Int)) = true := decide_eq_true c30
           clear c30
           obtain ⟨y244, hy244⟩ : ∃ y_ : List (S25), y_ = (t230.take (x9_2 : Int).toNat) := ⟨_, rfl⟩
           replace H : (if y241.length + y244.length < 5864062014805 then ((some (y241 ++ y244 : List (S25))).bind fun y249 => (if 0 ≤ (wrap64 (x9_2 + 1)) then (if (wrap64 (x9_2 + 1)) ≤ (t230.length : Int) then ((some (t230.drop ((wrap64 (x9_2 + 1)) : Int).toNat : List (S25))).bind fun y252 => (if y249.length + y252.length < 5864062014805 then (laws_FnGroups.l1 k2 t224 t230 x9_2 (y249 ++ y252) (([] : List (S25))) 0 t227 t228) else (none))) else (none)) else (none))) else (none)) = some r := by first | (rw [hy244]; with_reducible exact H) | (have H2_ := (Option.bind_some _ _).symm.trans H; rw [hy244]; with_reducible exact H2_) | (have H2_ := (Option.bind_some _ _).symm.trans H; with_reducible exact H2_) | with_reducible exact H | (rw [hy244]; exact H) | exact H
           have Ny244 := Aside0.mk hy244
           clear hy244
           by_cases c31 : y241.length + y244.length < 5864062014805
           ·rw [if_pos c31] at H
            have LMc31 := Aside0.mk c31
            clear c31
            obtain ⟨y249, hy249⟩ : ∃ y_ : List (S25), y_ = (y241 ++ y244) := ⟨_, rfl⟩
            replace H : (if 0 ≤ (wrap64 (x9_2 + 1)) then (if (wrap64 (x9_2 + 1)) ≤ (t230.length : Int) then ((some (t230.drop ((wrap64 (x9_2 + 1)) : Int).toNat : List (S25))).bind fun y252 => (if y249.length + y252.length < 5864062014805 then (laws_FnGroups.l1 k2 t224 t230 x9_2 (y249 ++ y252) (([] : List (S25))) 0 t227 t228) else (none))) else (none)) else (none)) = some r := by first | (rw [hy249]; with_reducible exact H) | (have H2_ := (Option.bind_some _ _).symm.trans H; rw [hy249]; with_reducible exact H2_) | (have H2_ := (Option.bind_some _ _).symm.trans H; with_reducible exact H2_) | with_reducible exact H | (rw [hy249]; exact H) | exact H
            have Ny249 := Aside0.mk hy249
            clear hy249
            obtain ⟨ji32, hji32⟩ : ∃ j_ : Int, (wrap64 (x9_2 + 1)) = j_ := ⟨_, rfl⟩
            replace H : (if 0 ≤ (ji32) then (if (ji32) ≤ (t230.length : Int) then ((some (t230.drop ((ji32) : Int).toNat : List (S25))).bind fun y252 => (if y249.length + y252.length < 5864062014805 then (laws_FnGroups.l1 k2 t224 t230 x9_2 (y249 ++ y252) (([] : List (S25))) 0 t227 t228) else (none))) else (none)) else (none)) = some r := by first | (rw [hji32] at H; exact H) | (simp only [hji32] at H ⊢; exact H)
            have hji32w : (IntKind.i64.wrap (x9_2 + 1)) = ji32 := (i64_w _).trans hji32
            by_cases c33 : 0 ≤ (ji32)
            ·rw [if_pos c33] at H
             have c33b0 := eq_true c33
             have c33b1 : decide (0 ≤ (ji32)) = true := decide_eq_true c33
             clear c33
             by_cases c34 : (ji32) ≤ (t230.length : Int)
             ·rw [if_pos c34] at H
              have c34b0 := eq_true c34
              have c34b1 : decide ((ji32) ≤ (t230.length : Int)) = true := decide_eq_true c34
              clear c34
              obtain ⟨y252, hy252⟩ : ∃ y_ : List (S25), y_ = (t230.drop ((ji32) : Int).toNat) := ⟨_, rfl⟩
              replace H : (if y249.length + y252.length < 5864062014805 then (laws_FnGroups.l1 k2 t224 t230 x9_2 (y249 ++ y252) (([] : List (S25))) 0 t227 t228) else (none)) = some r := by first | (rw [hy252]; with_reducible exact H) | (have H2_ := (Option.bind_some _ _).symm.trans H; rw [hy252]; with_reducible exact H2_) | (have H2_ := (Option.bind_some _ _).symm.trans H; with_reducible exact H2_) | with_reducible exact H | (rw [hy252]; exact H) | exact H
              have Ny252 := Aside0.mk hy252
              clear hy252
              by_cases c35 : y249.length + y252.length < 5864062014805
              ·rw [if_pos c35] at H
               have LMc35 := Aside0.mk c35
               clear c35
               obtain ⟨y257, hy257⟩ : ∃ y_ : List (S25), y_ = (y249 ++ y252) := ⟨_, rfl⟩
               replace H : (laws_FnGroups.l1 k2 t224 t230 x9_2 y257 (([] : List (S25))) 0 t227 t228) = some r := by first | (rw [hy257]; with_reducible exact H) | (have H2_ := (Option.bind_some _ _).symm.trans H; rw [hy257]; with_reducible exact H2_) | (have H2_ := (Option.bind_some _ _).symm.trans H; with_reducible exact H2_) | with_reducible exact H | (rw [hy257]; exact H) | exact H
               have Ny257 := Aside0.mk hy257
               clear hy257
               obtain ⟨y260, hy260⟩ : ∃ y_ : List (S25), y_ = (([] : List (S25))) := ⟨_, rfl⟩
               replace H : (laws_FnGroups.l1 k2 t224 t230 x9_2 y257 y260 0 t227 t228) = some r := by first | (rw [hy260]; with_reducible exact H) | (have H2_ := (Option.bind_some _ _).symm.trans H; rw [hy260]; with_reducible exact H2_) | (have H2_ := (Option.bind_some _ _).symm.trans H; with_reducible exact H2_) | with_reducible exact H | (rw [hy260]; exact H) | exact H
               have Ny260 := Aside0.mk hy260
               clear hy260
               have H' := Aside0.mk H
               clear H
               obtain ⟨Ao36, co36, eo36⟩ := Kd.V_slice HO_5.out
               subst eo36
               try go_wp2
               replace HO_3 := Aside0.mk (Kd.R_drew HO_3.out)
               replace HO_5 := Aside0.mk (Kd.V_drew HO_5.out)
               replace BK229 := Aside0.mk (blk_drew BK229.out)
               replace HB := Aside0.mk (below_drew1 HB.out)
               have p240 : 0 ≤ (x9_2 : Int) := td
               have q240 : x9_2 < (t230.length : Int) := td
               obtain ⟨ad240, e240, hx240_0, hx240_1⟩ := at_T25 (Kd.V_reads' HO_5.out).2.2 x9_2 p240 q240
               cases e240
               replace p240 := eq_true p240
               replace q240 := eq_true q240
               refine start_ (n := 8) (S := fun w' => w'.cell? ⟨gb229, 0, none⟩ = some (.string t227) ∧ w'.cell? ⟨gb229, 1, none⟩ = some (.int .i64 t228) ∧ w'.cell? (ad240.add ((x9_2).toNat * 2)) = some (.string ((rd_T25 t230 x9_2).f0)) ∧ w'.cell? ⟨(ad240.add ((x9_2).toNat * 2)).block, (ad240.add ((x9_2).toNat * 2)).off + 1, none⟩ = some (.int .i64 ((rd_T25 t230 x9_2).f1))) (ds := []) #[false, false, false, false, false, false, false, false] (by kernel_rfl) rfl rfl ⟨(blk_cell BK229.out 0).trans rfl, (blk_cell BK229.out 1).trans rfl, hx240_0, hx240_1⟩ (fun hHeld => ?_); refine with_tabW laws_FnGroups.tab11 laws_FnGroups.bits11 (fun HT_ HW_ => ?_)
               generalize wr.drew = w37 at HO_3 HO_5 BK229 HB hx240_0 hx240_1 hHeld ⊢
               refine tpu 0 (some 60) #[true, false, false, false, false, false, false, false] ?_
               refine tpu 1 (some 61) #[true, true, false, false, false, false, false, false] ?_
               refine tpu 2 (some 62) #[true, true, true, false, false, false, false, false] ?_
               refine tpu 3 (some 63) #[true, true, true, true, false, false, false, false] ?_
               refine tpu 5 (some 65) #[true, true, true, true, false, true, false, false] ?_
               refine tta 4 (some 64) #[true, true, true, true, true, true, false, false] hHeld ?_ (hy := by rintro w' ⟨s0, s1, s2, s3⟩; go_simp; with_reducible rfl)
               refine tta 6 (some 66) #[true, true, true, true, true, true, true, false] hHeld ?_ (hy := by rintro w' ⟨s0, s1, s2, s3⟩; go_simp; with_reducible rfl)
               refine tpu 7 (some 67) #[true, true, true, true, true, true, true, true] ?_
               refine done_ (done_of HT_.out (by kernel_rfl)) ?_
               try go_wp2
               replace HO_3 := Aside0.mk (Kd.R_drew HO_3.out)
               replace HO_5 := Aside0.mk (Kd.V_drew HO_5.out)
               replace BK229 := Aside0.mk (blk_drew BK229.out)
               replace HB := Aside0.mk (below_drew1 HB.out)
               have q39 : (x9_2 : Int) ≤ ((t230.length : Int) : Int) := td
               obtain ⟨i039, hi039, _, hsz39, _⟩ := info_parts info25
               have hroom39 : t230.length ≤ co36 := (Kd.V_reads' HO_5.out).2.1
               have hC39 : Kd.F k25 _ _ (some ad240) t230.length t230 := (Kd.V_at (base := w.heap.size) HO_5.out).2.2
               have hcut39 := cut_to (P := Try.prog) 23 25 .i64 Try.underlying23 hi039 (some ad240) t230.length co36 x9_2 (td) q39 hroom39
               have hr39 := Kd.F_take (m := (x9_2 : Int).toNat) hC39 (by omega)
               have hy39 : y244.length = (x9_2 : Int).toNat := (by rw [Ny244.out, List.length_take]; omega)
               rw [← Ny244.out] at hr39
               rw [← hy39] at hcut39
               have HO248 := Aside0.mk (show Kd.V k25 25 _ w.heap.size _ (.slice (some ad240) y244.length co36) y244 from Kd.V_mk (by omega) hr39)
               have HC248 := Aside0.mk (show y244.length ≤ co36 from by omega)
               clear hr39 hC39 hroom39 hi039 hsz39
               have KY39 := Aside0.mk hy39
               clear hy39
               replace q39 := eq_true q39
               have q40 : ((ji32) : Int) ≤ ((t230.length : Int) : Int) := td
               obtain ⟨i040, hi040, _, hsz40, _⟩ := info_parts info25
               have hroom40 : t230.length ≤ co36 := (Kd.V_reads' HO_5.out).2.1
               have hC40 : Kd.F k25 _ _ (some ad240) t230.length t230 := (Kd.V_at (base := w.heap.size) HO_5.out).2.2
               have q040 : (0 : Int) ≤ ((ji32) : Int) := td
               have hcut40 := cut_from (P := Try.prog) 23 25 .i64 Try.underlying23 hi040 2 hsz40 (some ad240) t230.length co36 (ji32) q040 q40
               have hr40 := Kd.F_cut (m := ((ji32) : Int).toNat) (c := co36) hC40 (by omega) hroom40
               obtain ⟨A40, hA40⟩ : ∃ A1, A1 = (if co36 = ((ji32) : Int).toNat then (some ad240) else ((some ad240) : Option Addr).map (·.add (((ji32) : Int).toNat * 2))) := ⟨_, rfl⟩
               obtain ⟨c40, hc40⟩ : ∃ c1, c1 = co36 - ((ji32) : Int).toNat := ⟨_, rfl⟩
               have hy40 : y252.length = t230.length - ((ji32) : Int).toNat := (by rw [Ny252.out, List.length_drop] <;> omega)
               rw [show (t230).drop ((ji32) : Int).toNat = y252 from Ny252.out.symm] at hr40
               replace hr40 : Kd.F k25 _ _ A40 y252.length y252 := (by rw [hA40]; exact hr40)
               rw [← hy40, ← hA40, ← hc40] at hcut40
               have HO256 := Aside0.mk (show Kd.V k25 25 _ w.heap.size _ (.slice A40 y252.length c40) y252 from Kd.V_mk (by rw [hy40, hc40]; exact Nat.sub_le_sub_right hroom40 _) hr40)
               have HC256 := Aside0.mk (show y252.length ≤ c40 from by rw [hy40, hc40]; exact Nat.sub_le_sub_right hroom40 _)
               clear hr40 hC40 hroom40 hi040 hsz40 hc40
               have KY40 := Aside0.mk hy40
               have KA40 := Aside0.mk hA40
               clear hy40 hA40
               replace q40 := eq_true q40
               refine start_ (n := 11) (S := fun w' => True) (ds := []) #[false, false, false, false, false, false, false, false, false, false, false] (by kernel_rfl) rfl rfl trivial (fun hHeld => ?_); refine with_tabW laws_FnGroups.tab12 laws_FnGroups.bits12 (fun HT_ HW_ => ?_)
               generalize w37.drew = w38 at HO_3 HO_5 BK229 HB HO248 HO256 hHeld ⊢
               refine tpu 1 (some 69) #[false, true, false, false, false, false, false, false, false, false, false] ?_
               refine tpu 2 (some 70) #[false, true, true, false, false, false, false, false, false, false, false] ?_
               refine tpu 3 (some 71) #[false, true, true, true, false, false, false, false, false, false, false] ?_
               refine tpu 5 (some 73) #[false, true, true, true, false, true, false, false, false, false, false] ?_
               refine tpu 6 (some 74) #[false, true, true, true, false, true, true, false, false, false, false] ?_
               refine tpu 7 (some 75) #[false, true, true, true, false, true, true, true, false, false, false] ?_
               refine tpu 8 (some 76) #[false, true, true, true, false, true, true, true, true, false, false] ?_
               refine one_ (i := 0) (N := some 68) #[true, true, true, true, false, true, true, true, true, false, false] rfl rfl (one_of HT_.out (by kernel_rfl)) (by decide) (fun K hK => ?_)
               refine Kd.R_lit_step k25 _ 25 ?hg (N := 68) ?hd (xs := ([] : List (S25))) (inner := []) (ok := fun _ => True) (okp := fun _ => True) ?hr ?hp (fun _ hk => hk) trivial (Below.refl _ _) (Nat.le_refl _) (by simp) ?_; (case hd => rfl); (case hg => rfl); (case hr => first | (go_simp; done) | (go_simp; rfl)); (case hp => exact (Reps.none _ _))
               intro v242 w41 ho42 hb hg_ hnew_
               clear hg_ hnew_
               (first | rw [← Ny241.out] at ho42 | (simp only [Int.reduceToNat] at ho42; rw [← Ny241.out] at ho42))
               replace HO_5 := Aside0.mk (Kd.V_elder' (tV HO_5.out) (Kd.R_base ho42) hb)
               replace HO248 := Aside0.mk (Kd.V_elder' (tV HO248.out) (Kd.R_base ho42) hb)
               replace HO256 := Aside0.mk (Kd.V_elder' (tV HO256.out) (Kd.R_base ho42) hb)
               have HO243 := Aside0.mk (Kd.R_lower (Kd.R_newB (Kd.R_new' ho42 (Kd.R_lt (tR HO_3.out))) (g := gb229) (o := .cells #[.string t227, .int .i64 t228] 25 (0, 0)) (tH BK229.out)) (below_size zb))
               replace HO_3 := Aside0.mk (Kd.R_elder' (tR HO_3.out) (Kd.R_base ho42) hb)
               replace BK229 := tBb BK229 hb
               replace HB := tBs HB hb
               clear hb ho42
               refine hK.out _ _ trivial (fun hHeld => ?_)
               clear hK K
               refine tnm (some 68) ?_
               refine one_ (i := 4) (N := some 72) #[true, true, true, true, true, true, true, true, true, false, false] rfl rfl (one_of HT_.out (by kernel_rfl)) (by decide) (fun K hK => ?_)
               refine Kd.R_append_rows_step k25 (w0 := w) w.heap.size (by rfl) (.tmp 68) (.tmp 71) 23 25 (.agg #[(.string ⟨#[]⟩), (.int .i64 0)]) 24 rfl Try.underlying23 info25 rfl (by decide) (by omega) v242 y241 y244 _ _ _ (fun k_ => some k_ ≠ (.slice Ao10 t224.length co10 : Value).ownBlock ∧ k_ ≠ gb229) (fun _ => False) rfl rfl ?aO ?aR (fun _ _ h => h) (fun _ h => h.elim) ?aF ?aB ?aS ?aL ?_
               (case aR => repeat (first | exact (Kd.V_reads' HO248.out).2.2 | (with_reducible refine Kd.C_alloc ?_ _) | (with_reducible refine Kd.C_drewN ?_ _) | (with_reducible refine Kd.C_drew ?_)))
               (case aB => exact zb)
               (case aF => exact (fun k_ hk => ⟨Kd.fresh' (Kd.R_lt (tR HO_3.out)) k_ hk, tfB BK229 k_ hk⟩))
               (case aO => exact (tRm HO243.out))
               (case aS => exact (below_size zb))
               (case aL => have := LMc31.out; omega)
               intro v250 w43 ho hb hg hat
               rw [← Ny249.out] at ho
               replace HO_3 := Aside0.mk (Kd.R_after (ok := (fun k_ => k_ ≠ gb229)) (tR HO_3.out) hg hat)
               replace HO_5 := Aside0.mk (Kd.V_afterv (ok := (fun k_ => some k_ ≠ (.slice Ao10 t224.length co10 : Value).ownBlock ∧ k_ ≠ gb229)) (tV HO_5.out) hg hat)
               replace BK229 := Aside0.mk (blk_grown (tH BK229.out) hg (Kd.R_away HO243.out (fun _ hk => hk.2)))
               replace HO248 := Aside0.mk (Kd.V_afterv (ok := (fun k_ => some k_ ≠ (.slice Ao10 t224.length co10 : Value).ownBlock ∧ k_ ≠ gb229)) (tV HO248.out) hg hat)
               replace HO256 := Aside0.mk (Kd.V_afterv (ok := (fun k_ => some k_ ≠ (.slice Ao10 t224.length co10 : Value).ownBlock ∧ k_ ≠ gb229)) (tV HO256.out) hg hat)
               replace HB := Aside0.mk (hb)
               have HO251 := Aside0.mk (ho)
               clear HO243
               clear ho hb hg hat
               refine hK.out _ _ trivial (fun hHeld => ?_)
               clear hK K
               refine tnm (some 72) ?_
               refine one_ (i := 9) (N := some 77) #[true, true, true, true, true, true, true, true, true, true, false] rfl rfl (one_of HT_.out (by kernel_rfl)) (by decide) (fun K hK => ?_)
               refine Kd.R_append_rows_step k25 (w0 := w) w.heap.size (by rfl) (.tmp 72) (.tmp 76) 23 25 (.agg #[(.string ⟨#[]⟩), (.int .i64 0)]) 24 rfl Try.underlying23 info25 rfl (by decide) (by omega) v250 y249 y252 _ _ _ (fun k_ => some k_ ≠ (.slice Ao10 t224.length co10 : Value).ownBlock ∧ k_ ≠ gb229) (fun _ => False) rfl rfl ?aO ?aR (fun _ _ h => h) (fun _ h => h.elim) ?aF ?aB ?aS ?aL ?_
               (case aR => repeat (first | exact (Kd.V_reads' HO256.out).2.2 | (with_reducible refine Kd.C_alloc ?_ _) | (with_reducible refine Kd.C_drewN ?_ _) | (with_reducible refine Kd.C_drew ?_)))
               (case aB => exact zb)
               (case aF => exact (fun k_ hk => ⟨Kd.fresh' (Kd.R_lt (tR HO_3.out)) k_ hk, tfB BK229 k_ hk⟩))
               (case aO => exact (tR HO251.out))
               (case aS => exact (below_size zb))
               (case aL => have := LMc35.out; omega)
               intro v258 w44 ho hb hg hat
               rw [← Ny257.out] at ho
               replace HO_3 := Aside0.mk (Kd.R_after (ok := (fun k_ => k_ ≠ gb229)) (tR HO_3.out) hg hat)
               replace HO_5 := Aside0.mk (Kd.V_afterv (ok := (fun k_ => some k_ ≠ (.slice Ao10 t224.length co10 : Value).ownBlock ∧ k_ ≠ gb229)) (tV HO_5.out) hg hat)
               replace BK229 := Aside0.mk (blk_grown (tH BK229.out) hg (Kd.R_away HO251.out (fun _ hk => hk.2)))
               replace HO248 := Aside0.mk (Kd.V_afterv (ok := (fun k_ => some k_ ≠ (.slice Ao10 t224.length co10 : Value).ownBlock ∧ k_ ≠ gb229)) (tV HO248.out) hg hat)
               replace HO256 := Aside0.mk (Kd.V_afterv (ok := (fun k_ => some k_ ≠ (.slice Ao10 t224.length co10 : Value).ownBlock ∧ k_ ≠ gb229)) (tV HO256.out) hg hat)
               replace HB := Aside0.mk (hb)
               have HO259 := Aside0.mk (ho)
               clear HO251
               clear ho hb hg hat
               refine hK.out _ _ trivial (fun hHeld => ?_)
               clear hK K
               refine tnm (some 77) ?_
               refine tpu 10 (some 10) #[true, true, true, true, true, true, true, true, true, true, true] ?_
               refine done_ (done_of HT_.out (by kernel_rfl)) ?_
               try go_wp2_with (first | ((with_reducible refine gate_dst (N := 78) rfl ?_); refine Kd.R_lit k25 _ 25 ?hg (N := 78) ?hd (xs := ([] : List (S25))) (inner := []) (ok := fun _ => True) (okp := fun _ => True) ?hr ?hp (fun _ hk => hk) trivial (Below.refl _ _) (Nat.le_refl _) (by simp) ?_; (case hd => rfl); (case hg => rfl); (case hr => first | (go_simp; done) | (go_simp; rfl)); (case hp => exact (Reps.none _ _)); intro v261 w45 ho46 hb hg_ hnew_; clear hg_ hnew_; (first | rw [← Ny260.out] at ho46 | (simp only [Int.reduceToNat] at ho46; rw [← Ny260.out] at ho46)); replace HO_5 := Aside0.mk (Kd.V_elder' (tV HO_5.out) (Kd.R_base ho46) hb); replace HO248 := Aside0.mk (Kd.V_elder' (tV HO248.out) (Kd.R_base ho46) hb); replace HO256 := Aside0.mk (Kd.V_elder' (tV HO256.out) (Kd.R_base ho46) hb); have HO262 := Aside0.mk (Kd.R_lower (Kd.R_newB (Kd.R_new' (Kd.R_new' ho46 (Kd.R_lt (tR HO_3.out))) (Kd.R_lt (tR HO259.out))) (g := gb229) (o := .cells #[.string t227, .int .i64 t228] 25 (0, 0)) (tH BK229.out)) (below_size zb)); replace HO_3 := Aside0.mk (Kd.R_elder' (tR HO_3.out) (Kd.R_base ho46) hb); replace HO259 := Aside0.mk (Kd.R_elder' (tR HO259.out) (Kd.R_base ho46) hb); replace BK229 := tBb BK229 hb; replace HB := tBs HB hb; clear hb ho46))
               go_loopg [11, 12] k2 (fun kq v11 v12 w' => ∃ (x11_3 : List (S25)) (x12_3 : Int), v12 = .int .i64 x12_3 ∧ Aside0 (laws_FnGroups.l1 kq t224 t230 x9_2 y257 x11_3 x12_3 t227 t228 = some r) ∧ Aside0 (kq ≤ k2) ∧ Aside0 (Kd.R k25 25 w' w.heap.size (fun k_ => some k_ ≠ (v258 : Value).ownBlock ∧ some k_ ≠ (v11 : Value).ownBlock ∧ k_ ≠ gb229) (.slice Ao10 t224.length co10) t224) ∧ Aside0 (Kd.V k25 25 w' w.heap.size (fun k_ => some k_ ≠ ((.slice Ao10 t224.length co10) : Value).ownBlock ∧ some k_ ≠ (v258 : Value).ownBlock ∧ some k_ ≠ (v11 : Value).ownBlock ∧ k_ ≠ gb229) (.slice (some ad240) t230.length co36) t230) ∧ Aside0 (Kd.R k25 25 w' w.heap.size (fun k_ => some k_ ≠ ((.slice Ao10 t224.length co10) : Value).ownBlock ∧ some k_ ≠ (v11 : Value).ownBlock ∧ k_ ≠ gb229) v258 y257) ∧ Aside0 (Kd.R k25 25 w' w.heap.size (fun k_ => some k_ ≠ ((.slice Ao10 t224.length co10) : Value).ownBlock ∧ some k_ ≠ (v258 : Value).ownBlock ∧ k_ ≠ gb229) v11 x11_3) ∧ Aside0 (w'.heap[gb229]? = some (.cells #[.string t227, .int .i64 t228] 25 (0, 0))) ∧ Aside0 (Below w.heap.size w w'))
               case atStart => exact ⟨(y260), (0), tr, H', ⟨Nat.le_refl _⟩, ⟨tRm HO_3.out⟩, ⟨tVm HO_5.out⟩, ⟨tRm HO259.out⟩, ⟨tRm HO262.out⟩, ⟨tH BK229.out⟩, ⟨zb⟩⟩
               case round =>
                clear H'
                try clear c1; try clear c2; try clear c2b0; try clear c2b1; try clear c21; try clear c26; try clear c26b0; try clear c27; try clear c27b0; try clear c28; try clear c28b0; try clear c28b1; try clear c29b0; try clear c30; try clear c30b0; try clear c30b1; try clear c31; try clear c33; try clear c33b0; try clear c33b1; try clear c34; try clear c34b0; try clear c34b1; try clear c35; try clear q39; try clear c40; try clear q40; try clear hcz12_0; try clear hcz12_1; try clear hcz9_0; try clear hcz9_1; try clear hfz12_0; try clear hfz12_1; try clear hfz9_0; try clear hfz9_1; try clear hx240_0; try clear hx240_1; try clear p240; try clear q040; try clear q240; try clear q39; try clear q40
                obtain ⟨x11_3, x12_3, rfl, HA, HK3, HO_3, HO_5, HO_10, HO_11, BK229, HB⟩ := hrel
                cases gk with
                | zero => exact absurd HA.out (by simp [laws_FnGroups.l1])
                | succ k3 =>
                 have H := HA.out
                 clear HA
                 simp only [laws_FnGroups.l1] at H
                 by_cases c47 : x12_3 < (t224.length : Int)
                 ·rw [if_pos c47] at H
                  have c47b0 : decide (x12_3 < (t224.length : Int)) = true := decide_eq_true c47
                  clear c47
                  by_cases c48 : 0 ≤ x12_3
                  ·rw [if_pos c48] at H
                   have c48b0 : decide (0 ≤ x12_3) = true := decide_eq_true c48
                   clear c48
                   by_cases c49 : ((rd_T25 t224 x12_3).f0).toList = t227.toList
                   ·rw [if_pos c49] at H
                    have c49b0 : (((rd_T25 t224 x12_3).f0).toList == t227.toList) = true := beq_iff_eq.mpr c49
                    have c49b1 : (((rd_T25 t224 x12_3).f0).toList != t227.toList) = false := bne_eq_false_iff_eq.mpr c49
                    clear c49
                    have H' := Aside0.mk H
                    clear H
                    try go_wp2
                    replace HO_3 := Aside0.mk (Kd.R_drew HO_3.out)
                    replace HO_5 := Aside0.mk (Kd.V_drew HO_5.out)
                    replace HO_10 := Aside0.mk (Kd.R_drew HO_10.out)
                    replace HO_11 := Aside0.mk (Kd.R_drew HO_11.out)
                    replace BK229 := Aside0.mk (blk_drew BK229.out)
                    replace HB := Aside0.mk (below_drew1 HB.out)
                    have p263 : 0 ≤ (x12_3 : Int) := td
                    have q263 : x12_3 < (t224.length : Int) := td
                    obtain ⟨ad263, e263, hx263_0, hx263_1⟩ := at_T25 (Kd.R_reads' HO_3.out).2.2 x12_3 p263 q263
                    cases e263
                    replace p263 := eq_true p263
                    replace q263 := eq_true q263
                    refine start_ (n := 8) (S := fun w' => w'.cell? ⟨gb229, 0, none⟩ = some (.string t227) ∧ w'.cell? ⟨gb229, 1, none⟩ = some (.int .i64 t228) ∧ w'.cell? (ad263.add ((x12_3).toNat * 2)) = some (.string ((rd_T25 t224 x12_3).f0)) ∧ w'.cell? ⟨(ad263.add ((x12_3).toNat * 2)).block, (ad263.add ((x12_3).toNat * 2)).off + 1, none⟩ = some (.int .i64 ((rd_T25 t224 x12_3).f1))) (ds := []) #[false, false, false, false, false, false, false, false] (by kernel_rfl) rfl rfl ⟨(blk_cell BK229.out 0).trans rfl, (blk_cell BK229.out 1).trans rfl, hx263_0, hx263_1⟩ (fun hHeld => ?_); refine with_tabW laws_FnGroups.tab17 laws_FnGroups.bits17 (fun HT_ HW_ => ?_)
                    generalize wr.drew = w50 at HO_3 HO_5 HO_10 HO_11 BK229 HB hx263_0 hx263_1 hHeld ⊢
                    refine tpu 0 (some 85) #[true, false, false, false, false, false, false, false] ?_
                    refine tpu 1 (some 86) #[true, true, false, false, false, false, false, false] ?_
                    refine tpu 2 (some 87) #[true, true, true, false, false, false, false, false] ?_
                    refine tpu 3 (some 88) #[true, true, true, true, false, false, false, false] ?_
                    refine tpu 5 (some 90) #[true, true, true, true, false, true, false, false] ?_
                    refine tta 4 (some 89) #[true, true, true, true, true, true, false, false] hHeld ?_ (hy := by rintro w' ⟨s0, s1, s2, s3⟩; go_simp; with_reducible rfl)
                    refine tta 6 (some 91) #[true, true, true, true, true, true, true, false] hHeld ?_ (hy := by rintro w' ⟨s0, s1, s2, s3⟩; go_simp; with_reducible rfl)
                    refine tpu 7 (some 92) #[true, true, true, true, true, true, true, true] ?_
                    refine done_ (done_of HT_.out (by kernel_rfl)) ?_
                    try go_wp2
                    go_roundg k3
                    case measure => have := HJ5.out; have := HK2.out; have := HK3.out; omega
                    case rel => exact ⟨(x11_3), (wrap64 (x12_3 + 1)), tr, H', ⟨by have := HJ5.out; have := HK2.out; have := HK3.out; omega⟩, ⟨tR HO_3.out⟩, ⟨tV HO_5.out⟩, ⟨tR HO_10.out⟩, ⟨tR HO_11.out⟩, ⟨tH BK229.out⟩, ⟨zb⟩⟩
                   ·rw [if_neg c49] at H
                    have c49b0 : (((rd_T25 t224 x12_3).f0).toList == t227.toList) = false := beq_eq_false_iff_ne.mpr c49
                    have c49b1 : (((rd_T25 t224 x12_3).f0).toList != t227.toList) = true := bne_iff_ne.mpr c49
                    by_cases c51 : x11_3.length < 5864062014805
                    ·rw [if_pos c51] at H
                     have LMc51 := Aside0.mk c51
                     clear c51
                     obtain ⟨y265, hy265⟩ : ∃ y_ : List (S25), y_ = (x11_3 ++ [(⟨(rd_T25 t224 x12_3).f0, (rd_T25 t224 x12_3).f1⟩ : S25)]) := ⟨_, rfl⟩
                     replace H : (laws_FnGroups.l1 k3 t224 t230 x9_2 y257 y265 (wrap64 (x12_3 + 1)) t227 t228) = some r := by first | (rw [hy265]; with_reducible exact H) | (have H2_ := (Option.bind_some _ _).symm.trans H; rw [hy265]; with_reducible exact H2_) | (have H2_ := (Option.bind_some _ _).symm.trans H; with_reducible exact H2_) | with_reducible exact H | (rw [hy265]; exact H) | exact H
                     have Ny265 := Aside0.mk hy265
                     clear hy265
                     have H' := Aside0.mk H
                     clear H
                     try go_wp2
                     replace HO_3 := Aside0.mk (Kd.R_drew HO_3.out)
                     replace HO_5 := Aside0.mk (Kd.V_drew HO_5.out)
                     replace HO_10 := Aside0.mk (Kd.R_drew HO_10.out)
                     replace HO_11 := Aside0.mk (Kd.R_drew HO_11.out)
                     replace BK229 := Aside0.mk (blk_drew BK229.out)
                     replace HB := Aside0.mk (below_drew1 HB.out)
                     have p263 : 0 ≤ (x12_3 : Int) := td
                     have q263 : x12_3 < (t224.length : Int) := td
                     obtain ⟨ad263, e263, hx263_0, hx263_1⟩ := at_T25 (Kd.R_reads' HO_3.out).2.2 x12_3 p263 q263
                     cases e263
                     replace p263 := eq_true p263
                     replace q263 := eq_true q263
                     refine start_ (n := 8) (S := fun w' => w'.cell? ⟨gb229, 0, none⟩ = some (.string t227) ∧ w'.cell? ⟨gb229, 1, none⟩ = some (.int .i64 t228) ∧ w'.cell? (ad263.add ((x12_3).toNat * 2)) = some (.string ((rd_T25 t224 x12_3).f0)) ∧ w'.cell? ⟨(ad263.add ((x12_3).toNat * 2)).block, (ad263.add ((x12_3).toNat * 2)).off + 1, none⟩ = some (.int .i64 ((rd_T25 t224 x12_3).f1))) (ds := []) #[false, false, false, false, false, false, false, false] (by kernel_rfl) rfl rfl ⟨(blk_cell BK229.out 0).trans rfl, (blk_cell BK229.out 1).trans rfl, hx263_0, hx263_1⟩ (fun hHeld => ?_); refine with_tabW laws_FnGroups.tab17 laws_FnGroups.bits17 (fun HT_ HW_ => ?_)
                     generalize wr.drew = w52 at HO_3 HO_5 HO_10 HO_11 BK229 HB hx263_0 hx263_1 hHeld ⊢
                     refine tpu 0 (some 85) #[true, false, false, false, false, false, false, false] ?_
                     refine tpu 1 (some 86) #[true, true, false, false, false, false, false, false] ?_
                     refine tpu 2 (some 87) #[true, true, true, false, false, false, false, false] ?_
                     refine tpu 3 (some 88) #[true, true, true, true, false, false, false, false] ?_
                     refine tpu 5 (some 90) #[true, true, true, true, false, true, false, false] ?_
                     refine tta 4 (some 89) #[true, true, true, true, true, true, false, false] hHeld ?_ (hy := by rintro w' ⟨s0, s1, s2, s3⟩; go_simp; with_reducible rfl)
                     refine tta 6 (some 91) #[true, true, true, true, true, true, true, false] hHeld ?_ (hy := by rintro w' ⟨s0, s1, s2, s3⟩; go_simp; with_reducible rfl)
                     refine tpu 7 (some 92) #[true, true, true, true, true, true, true, true] ?_
                     refine done_ (done_of HT_.out (by kernel_rfl)) ?_
                     have p264 : 0 ≤ (x12_3 : Int) := td
                     have q264 : x12_3 < (t224.length : Int) := td
                     obtain ⟨ad264, e264, hx264_0, hx264_1⟩ := at_T25 (Kd.R_reads' HO_3.out).2.2 x12_3 p264 q264
                     obtain rfl : ad263 = ad264 := (by injection e264)
                     replace p264 := eq_true p264
                     replace q264 := eq_true q264
                     try go_wp2_with (first | ((with_reducible refine gate_builtin (b := .append) (xs := #[.tmp 93, .tmp 98]) rfl ?_); at_builtin; refine Kd.R_append k25 (w0 := w) w.heap.size rfl (.tmp 93) (.tmp 98) 23 25 (.agg #[(.string ⟨#[]⟩), (.int .i64 0)]) 24 rfl Try.underlying23 info25 rfl (by decide) (by omega) u11 x11_3 (⟨(rd_T25 t224 x12_3).f0, (rd_T25 t224 x12_3).f1⟩ : S25) [.string ((rd_T25 t224 x12_3).f0), .int .i64 ((rd_T25 t224 x12_3).f1)] (fun k_ => some k_ ≠ (.slice (some ad263) t224.length co10 : Value).ownBlock ∧ some k_ ≠ (v258 : Value).ownBlock ∧ k_ ≠ gb229) (fun _ => False) rfl rfl ?aP (fun _ hk => hk.elim) ?aF ?aO ?aB ?aS ?aL ?_; (case aP => exact k25_mkM _ _ _ (⟨(rd_T25 t224 x12_3).f0, (rd_T25 t224 x12_3).f1⟩ : S25)); (case aB => exact zb); (case aF => exact (fun k_ hk => ⟨Kd.fresh' (Kd.R_lt (tR HO_3.out)) k_ hk, Kd.fresh' (Kd.R_lt (tR HO_10.out)) k_ hk, tfB BK229 k_ hk⟩)); (case aO => exact (tR HO_11.out)); (case aS => exact (below_size zb)); (case aL => have := LMc51.out; omega); intro v266 w53 ho hb hg hat; rw [← Ny265.out] at ho; replace HO_3 := Aside0.mk (Kd.R_after (ok := (fun k_ => some k_ ≠ (v258 : Value).ownBlock ∧ k_ ≠ gb229)) (tRm HO_3.out) hg hat); replace HO_5 := Aside0.mk (Kd.V_afterv (ok := (fun k_ => some k_ ≠ (.slice (some ad263) t224.length co10 : Value).ownBlock ∧ some k_ ≠ (v258 : Value).ownBlock ∧ k_ ≠ gb229)) (tVm HO_5.out) hg hat); replace HO_10 := Aside0.mk (Kd.R_after (ok := (fun k_ => some k_ ≠ (.slice (some ad263) t224.length co10 : Value).ownBlock ∧ k_ ≠ gb229)) (tRm HO_10.out) hg hat); replace BK229 := Aside0.mk (blk_grown (tH BK229.out) hg (Kd.R_away HO_11.out (fun _ hk => hk.2.2))); replace HB := Aside0.mk (hb); have HO267 := Aside0.mk (ho); clear HO_11; clear ho hb hg hat))
                     go_roundg k3
                     case measure => have := HJ5.out; have := HK2.out; have := HK3.out; omega
                     case rel => exact ⟨(y265), (wrap64 (x12_3 + 1)), tr, H', ⟨by have := HJ5.out; have := HK2.out; have := HK3.out; omega⟩, ⟨tRm HO_3.out⟩, ⟨tVm HO_5.out⟩, ⟨tRm HO_10.out⟩, ⟨tR HO267.out⟩, ⟨tH BK229.out⟩, ⟨zb⟩⟩
                    ·rw [if_neg c51] at H
                     exact absurd H (by simp)
                  ·rw [if_neg c48] at H
                   exact absurd H (by simp)
                 ·rw [if_neg c47] at H
                  have c47b0 : decide (x12_3 < (t224.length : Int)) = false := decide_eq_false c47
                  clear c47
                  replace H := tbe H
                  obtain ⟨t268, A54, H⟩ := H
                  by_cases c55 : t268 = true
                  ·subst c55
                   rw [if_pos rfl] at H
                   by_cases c56 : 0 ≤ x9_2
                   ·rw [if_pos c56] at H
                    have c56b0 : decide (0 ≤ x9_2) = true := decide_eq_true c56
                    clear c56
                    by_cases c57 : x9_2 < (t230.length : Int)
                    ·rw [if_pos c57] at H
                     have c57b0 : decide (x9_2 < (t230.length : Int)) = true := decide_eq_true c57
                     clear c57
                     by_cases c58 : ((((rd_T25 t230 x9_2).f0).toList) == t227.toList && (((rd_T25 t230 x9_2).f1) == t228)) = true
                     ·rw [if_pos c58] at H
                      have c58b0 : ((((rd_T25 t230 x9_2).f0).toList) == t227.toList && (((rd_T25 t230 x9_2).f1) == t228)) = true := c58
                      (try (have c58z : (((rd_T25 t230 x9_2).f1) == t228) = true := (Bool.and_eq_true_iff.1 c58b0).2))
                      (try (have c58b1 : decide ((((rd_T25 t230 x9_2).f0).toList) = t227.toList && (((rd_T25 t230 x9_2).f1) == t228)) = true := by simpa using c58))
                      (try (have c58b2 : ((((rd_T25 t230 x9_2).f0).toList) == t227.toList && (((rd_T25 t230 x9_2).f1) == t228)) = true := by simpa using c58))
                      clear c58
                      replace H := tbe H
                      obtain ⟨t270, A59, H⟩ := H
                      obtain rfl := Option.some.inj H
                      try go_wp2
                      replace HO_3 := Aside0.mk (Kd.R_drew HO_3.out)
                      replace HO_5 := Aside0.mk (Kd.V_drew HO_5.out)
                      replace HO_10 := Aside0.mk (Kd.R_drew HO_10.out)
                      replace HO_11 := Aside0.mk (Kd.R_drew HO_11.out)
                      replace BK229 := Aside0.mk (blk_drew BK229.out)
                      replace HB := Aside0.mk (below_drew1 HB.out)
                      have p269 : 0 ≤ (x9_2 : Int) := td
                      have q269 : x9_2 < (t230.length : Int) := td
                      obtain ⟨ad269, e269, hx269_0, hx269_1⟩ := at_T25 (Kd.V_reads' HO_5.out).2.2 x9_2 p269 q269
                      obtain rfl : ad240 = ad269 := (by injection e269)
                      replace p269 := eq_true p269
                      replace q269 := eq_true q269
                      refine start_ (n := 16) (S := fun w' => w'.cell? ⟨gb229, 0, none⟩ = some (.string t227) ∧ w'.cell? ⟨gb229, 1, none⟩ = some (.int .i64 t228) ∧ w'.cell? (ad240.add ((x9_2).toNat * 2)) = some (.string ((rd_T25 t230 x9_2).f0)) ∧ w'.cell? ⟨(ad240.add ((x9_2).toNat * 2)).block, (ad240.add ((x9_2).toNat * 2)).off + 1, none⟩ = some (.int .i64 ((rd_T25 t230 x9_2).f1))) (ds := []) #[false, false, false, false, false, false, false, false, false, false, false, false, false, false, false, false] (by kernel_rfl) rfl rfl ⟨(blk_cell BK229.out 0).trans rfl, (blk_cell BK229.out 1).trans rfl, hx269_0, hx269_1⟩ (fun hHeld => ?_); refine with_tabW laws_FnGroups.tab19 laws_FnGroups.bits19 (fun HT_ HW_ => ?_)
                      generalize wr.drew = w60 at HO_3 HO_5 HO_10 HO_11 BK229 HB hx269_0 hx269_1 hHeld ⊢
                      refine tpu 0 (some 100) #[true, false, false, false, false, false, false, false, false, false, false, false, false, false, false, false] ?_
                      refine one_ (i := 1) (N := some 101) #[true, true, false, false, false, false, false, false, false, false, false, false, false, false, false, false] rfl rfl (one_of HT_.out (by kernel_rfl)) (by decide) (fun K hK => ?_)
                      refine goes_ Try.func11 (by kernel_rfl) rfl #[.slice (some ad240) t230.length co36] (by rfl) rfl rfl tq ?_
                      with_reducible refine (impl_GroupsValid.calls k3 _ _ t230 true _ ?side1 ?side2 A54.out).mono ?_
                      (case side1 => repeat (first | exact (Kd.V_reads' HO_5.out).2.2 | (with_reducible refine Kd.C_alloc ?_ _) | (with_reducible refine Kd.C_drewN ?_ _) | (with_reducible refine Kd.C_drew ?_)))
                      (case side2 => exact (Kd.V_reads' HO_5.out).2.1)
                      rintro e w61 ⟨rfl, hb⟩
                      have HS2_ := tcb hb hHeld.2.2.1
                      have HS3_ := tcb hb hHeld.2.2.2
                      refine ⟨_, rfl, ?_⟩
                      replace HO_3 := tRb HO_3 hb
                      replace HO_5 := tVb HO_5 hb
                      replace HO_10 := tRb HO_10 hb
                      replace HO_11 := tRb HO_11 hb
                      replace BK229 := tBb BK229 hb
                      replace HB := tBs HB hb
                      (try clear hb)
                      (try clear hb2)
                      (try clear hk)
                      (try clear hi)
                      obtain ⟨Ao62, co62, eo62⟩ := Kd.R_slice HO_10.out
                      (first | subst eo62 | (injection eo62 with f1_ f2_ f3_; have f4_ := f1_.symm; have f5_ := f3_.symm; clear f1_ f2_ f3_; subst f4_; subst f5_))
                      obtain ⟨Ao63, co63, eo63⟩ := Kd.R_slice HO_11.out
                      (first | subst eo63 | (injection eo63 with f1_ f2_ f3_; have f4_ := f1_.symm; have f5_ := f3_.symm; clear f1_ f2_ f3_; subst f4_; subst f5_))
                      refine hK.out _ _ ⟨(blk_cell BK229.out 0).trans rfl, (blk_cell BK229.out 1).trans rfl, HS2_, HS3_⟩ (fun hHeld => ?_)
                      clear hK K
                      refine tnm (some 101) ?_
                      refine tpu 2 (some 102) #[true, true, true, false, false, false, false, false, false, false, false, false, false, false, false, false] ?_
                      refine tpu 3 (some 103) #[true, true, true, true, false, false, false, false, false, false, false, false, false, false, false, false] ?_
                      refine tpu 4 (some 104) #[true, true, true, true, true, false, false, false, false, false, false, false, false, false, false, false] ?_
                      refine tpu 5 (some 105) #[true, true, true, true, true, true, false, false, false, false, false, false, false, false, false, false] ?_
                      refine tta 6 (some 106) #[true, true, true, true, true, true, true, false, false, false, false, false, false, false, false, false] hHeld ?_ (hy := by rintro w' ⟨s0, s1, s2, s3⟩; go_simp; with_reducible rfl)
                      refine tta 7 (some 107) #[true, true, true, true, true, true, true, true, false, false, false, false, false, false, false, false] hHeld ?_ (hy := by rintro w' ⟨s0, s1, s2, s3⟩; go_simp; with_reducible rfl)
                      refine tpu 8 (some 108) #[true, true, true, true, true, true, true, true, true, false, false, false, false, false, false, false] ?_
                      refine tpu 9 (some 109) #[true, true, true, true, true, true, true, true, true, true, false, false, false, false, false, false] ?_
                      refine tpu 10 (some 110) #[true, true, true, true, true, true, true, true, true, true, true, false, false, false, false, false] ?_
                      refine tpu 11 (some 111) #[true, true, true, true, true, true, true, true, true, true, true, true, false, false, false, false] ?_
                      refine tpu 12 (some 112) #[true, true, true, true, true, true, true, true, true, true, true, true, true, false, false, false] ?_
                      refine one_ (i := 13) (N := some 113) #[true, true, true, true, true, true, true, true, true, true, true, true, true, true, false, false] rfl rfl (one_of HT_.out (by kernel_rfl)) (by decide) (fun K hK => ?_)
                      refine goes_ Try.func10 (by kernel_rfl) rfl #[.slice Ao62 y257.length co62, .slice Ao63 x11_3.length co63] (by rfl) rfl rfl tq ?_
                      with_reducible refine (laws_sameGroups.calls k3 _ _ y257 _ _ x11_3 t270 _ ?side1 ?side2 ?side3 ?side4 A59.out).mono ?_
                      (case side1 => repeat (first | exact (Kd.R_reads' HO_10.out).2.2 | (with_reducible refine Kd.C_alloc ?_ _) | (with_reducible refine Kd.C_drewN ?_ _) | (with_reducible refine Kd.C_drew ?_)))
                      (case side2 => exact (Kd.R_reads' HO_10.out).2.1)
                      (case side3 => repeat (first | exact (Kd.R_reads' HO_11.out).2.2 | (with_reducible refine Kd.C_alloc ?_ _) | (with_reducible refine Kd.C_drewN ?_ _) | (with_reducible refine Kd.C_drew ?_)))
                      (case side4 => exact (Kd.R_reads' HO_11.out).2.1)
                      rintro e w' ⟨rfl, ⟨nd, rfl⟩⟩
                      refine ⟨_, rfl, ?_⟩
                      refine hK.out _ _ ⟨(blk_cell BK229.out 0).trans rfl, (blk_cell BK229.out 1).trans rfl, hHeld.2.2.1, hHeld.2.2.2⟩ (fun hHeld => ?_)
                      clear hK K
                      refine tnm (some 113) ?_
                      refine tpu 14 (some 114) #[true, true, true, true, true, true, true, true, true, true, true, true, true, true, true, false] ?_
                      refine tpu 15 (some 2) #[true, true, true, true, true, true, true, true, true, true, true, true, true, true, true, true] ?_
                      refine done_ (done_of HT_.out (by kernel_rfl)) ?_
                      try go_wp2
                      all_goals go_ret
                      all_goals exact ⟨by first | rfl | (simp [errW_none, errW_some] <;> rfl) | (simp only [← hji32]; first | rfl | (simp [errW_none, errW_some] <;> rfl)) | (simp [*, errW_none, errW_some] <;> rfl), zb⟩
                     ·rw [if_neg c58] at H
                      have c58b0 : ((((rd_T25 t230 x9_2).f0).toList) == t227.toList && (((rd_T25 t230 x9_2).f1) == t228)) = false := by simpa using c58
                      (try (have c58z : (((rd_T25 t230 x9_2).f1) == t228) = false := (Or.elim (Bool.and_eq_false_iff.1 c58b0) (fun h_ => absurd (h_.symm.trans (show ((((rd_T25 t230 x9_2).f0).toList) == t227.toList) = true from by assumption)) (by decide)) id)))
                      (try (have c58b1 : decide ((((rd_T25 t230 x9_2).f0).toList) = t227.toList && (((rd_T25 t230 x9_2).f1) == t228)) = false := by simpa using c58))
                      (try (have c58b2 : ((((rd_T25 t230 x9_2).f0).toList) == t227.toList && (((rd_T25 t230 x9_2).f1) == t228)) = false := by simpa using c58))
                      (try (have c58b3 : ¬ ((((rd_T25 t230 x9_2).f0).toList) = t227.toList && (((rd_T25 t230 x9_2).f1) == t228)) := by simpa using c58))
                      clear c58
                      obtain rfl := Option.some.inj H
                      try go_wp2
                      replace HO_3 := Aside0.mk (Kd.R_drew HO_3.out)
                      replace HO_5 := Aside0.mk (Kd.V_drew HO_5.out)
                      replace HO_10 := Aside0.mk (Kd.R_drew HO_10.out)
                      replace HO_11 := Aside0.mk (Kd.R_drew HO_11.out)
                      replace BK229 := Aside0.mk (blk_drew BK229.out)
                      replace HB := Aside0.mk (below_drew1 HB.out)
                      have p269 : 0 ≤ (x9_2 : Int) := td
                      have q269 : x9_2 < (t230.length : Int) := td
                      obtain ⟨ad269, e269, hx269_0, hx269_1⟩ := at_T25 (Kd.V_reads' HO_5.out).2.2 x9_2 p269 q269
                      obtain rfl : ad240 = ad269 := (by injection e269)
                      replace p269 := eq_true p269
                      replace q269 := eq_true q269
                      refine start_ (n := 16) (S := fun w' => w'.cell? ⟨gb229, 0, none⟩ = some (.string t227) ∧ w'.cell? ⟨gb229, 1, none⟩ = some (.int .i64 t228) ∧ w'.cell? (ad240.add ((x9_2).toNat * 2)) = some (.string ((rd_T25 t230 x9_2).f0)) ∧ w'.cell? ⟨(ad240.add ((x9_2).toNat * 2)).block, (ad240.add ((x9_2).toNat * 2)).off + 1, none⟩ = some (.int .i64 ((rd_T25 t230 x9_2).f1))) (ds := []) #[false, false, false, false, false, false, false, false, false, false, false, false, false, false, false, false] (by kernel_rfl) rfl rfl ⟨(blk_cell BK229.out 0).trans rfl, (blk_cell BK229.out 1).trans rfl, hx269_0, hx269_1⟩ (fun hHeld => ?_); refine with_tabW laws_FnGroups.tab19 laws_FnGroups.bits19 (fun HT_ HW_ => ?_)
                      generalize wr.drew = w64 at HO_3 HO_5 HO_10 HO_11 BK229 HB hx269_0 hx269_1 hHeld ⊢
                      refine tpu 0 (some 100) #[true, false, false, false, false, false, false, false, false, false, false, false, false, false, false, false] ?_
                      refine one_ (i := 1) (N := some 101) #[true, true, false, false, false, false, false, false, false, false, false, false, false, false, false, false] rfl rfl (one_of HT_.out (by kernel_rfl)) (by decide) (fun K hK => ?_)
                      refine goes_ Try.func11 (by kernel_rfl) rfl #[.slice (some ad240) t230.length co36] (by rfl) rfl rfl tq ?_
                      with_reducible refine (impl_GroupsValid.calls k3 _ _ t230 true _ ?side1 ?side2 A54.out).mono ?_
                      (case side1 => repeat (first | exact (Kd.V_reads' HO_5.out).2.2 | (with_reducible refine Kd.C_alloc ?_ _) | (with_reducible refine Kd.C_drewN ?_ _) | (with_reducible refine Kd.C_drew ?_)))
                      (case side2 => exact (Kd.V_reads' HO_5.out).2.1)
                      rintro e w65 ⟨rfl, hb⟩
                      have HS2_ := tcb hb hHeld.2.2.1
                      have HS3_ := tcb hb hHeld.2.2.2
                      refine ⟨_, rfl, ?_⟩
                      replace HO_3 := tRb HO_3 hb
                      replace HO_5 := tVb HO_5 hb
                      replace HO_10 := tRb HO_10 hb
                      replace HO_11 := tRb HO_11 hb
                      replace BK229 := tBb BK229 hb
                      replace HB := tBs HB hb
                      (try clear hb)
                      (try clear hb2)
                      (try clear hk)
                      (try clear hi)
                      refine hK.out _ _ ⟨(blk_cell BK229.out 0).trans rfl, (blk_cell BK229.out 1).trans rfl, HS2_, HS3_⟩ (fun hHeld => ?_)
                      clear hK K
                      refine tnm (some 101) ?_
                      refine tpu 2 (some 102) #[true, true, true, false, false, false, false, false, false, false, false, false, false, false, false, false] ?_
                      refine tpu 3 (some 103) #[true, true, true, true, false, false, false, false, false, false, false, false, false, false, false, false] ?_
                      refine tpu 4 (some 104) #[true, true, true, true, true, false, false, false, false, false, false, false, false, false, false, false] ?_
                      refine tpu 5 (some 105) #[true, true, true, true, true, true, false, false, false, false, false, false, false, false, false, false] ?_
                      refine tta 6 (some 106) #[true, true, true, true, true, true, true, false, false, false, false, false, false, false, false, false] hHeld ?_ (hy := by rintro w' ⟨s0, s1, s2, s3⟩; go_simp; with_reducible rfl)
                      refine tta 7 (some 107) #[true, true, true, true, true, true, true, true, false, false, false, false, false, false, false, false] hHeld ?_ (hy := by rintro w' ⟨s0, s1, s2, s3⟩; go_simp; with_reducible rfl)
                      refine tpu 8 (some 108) #[true, true, true, true, true, true, true, true, true, false, false, false, false, false, false, false] ?_
                      refine tpu 9 (some 109) #[true, true, true, true, true, true, true, true, true, true, false, false, false, false, false, false] ?_
                      refine tpu 10 (some 110) #[true, true, true, true, true, true, true, true, true, true, true, false, false, false, false, false] ?_
                      refine pure_ (i := 11) (N := some 111) (v := undef) (a' := ?_) #[true, true, true, true, true, true, true, true, true, true, true, true, false, false, false, false] rfl rfl (any_of HT_.out (by kernel_rfl)) (fun _ _ _ h => h) (Or.inr ⟨by rfl, rfl⟩) ?_ ?_
                      rotate_left
                      ·simp only [Act.put, List.setIfInBounds_toArray, List.set_cons_zero, List.set_cons_succ, i64_w, i32_w]
                       rfl
                      refine pure_ (i := 12) (N := some 112) (v := undef) (a' := ?_) #[true, true, true, true, true, true, true, true, true, true, true, true, true, false, false, false] rfl rfl (any_of HT_.out (by kernel_rfl)) (fun _ _ _ h => h) (Or.inr ⟨by rfl, rfl⟩) ?_ ?_
                      rotate_left
                      ·simp only [Act.put, List.setIfInBounds_toArray, List.set_cons_zero, List.set_cons_succ, i64_w, i32_w]
                       rfl
                      refine pure_ (i := 13) (N := some 113) (v := undef) (a' := ?_) #[true, true, true, true, true, true, true, true, true, true, true, true, true, true, false, false] rfl rfl (any_of HT_.out (by kernel_rfl)) (fun _ _ _ h => h) (Or.inr ⟨by rfl, rfl⟩) ?_ ?_
                      rotate_left
                      ·simp only [Act.put, List.setIfInBounds_toArray, List.set_cons_zero, List.set_cons_succ, i64_w, i32_w]
                       rfl
                      refine tpu 14 (some 114) #[true, true, true, true, true, true, true, true, true, true, true, true, true, true, true, false] ?_
                      refine tpu 15 (some 2) #[true, true, true, true, true, true, true, true, true, true, true, true, true, true, true, true] ?_
                      refine done_ (done_of HT_.out (by kernel_rfl)) ?_
                      try go_wp2
                      all_goals go_ret
                      all_goals exact ⟨by first | rfl | (simp [errW_none, errW_some] <;> rfl) | (simp only [← hji32]; first | rfl | (simp [errW_none, errW_some] <;> rfl)) | (simp [*, errW_none, errW_some] <;> rfl), zb⟩
                    ·rw [if_neg c57] at H
                     exact absurd H (by simp)
                   ·rw [if_neg c56] at H
                    exact absurd H (by simp)
                  ·replace c55 := Bool.eq_false_iff.mpr c55
                   subst c55
                   rw [if_neg (show ¬ (false = true) by decide)] at H
                   obtain rfl := Option.some.inj H
                   try go_wp2
                   replace HO_3 := Aside0.mk (Kd.R_drew HO_3.out)
                   replace HO_5 := Aside0.mk (Kd.V_drew HO_5.out)
                   replace HO_10 := Aside0.mk (Kd.R_drew HO_10.out)
                   replace HO_11 := Aside0.mk (Kd.R_drew HO_11.out)
                   replace BK229 := Aside0.mk (blk_drew BK229.out)
                   replace HB := Aside0.mk (below_drew1 HB.out)
                   refine start_ (n := 16) (S := fun w' => True) (ds := []) #[false, false, false, false, false, false, false, false, false, false, false, false, false, false, false, false] (by kernel_rfl) rfl rfl trivial (fun hHeld => ?_); refine with_tabW laws_FnGroups.tab19 laws_FnGroups.bits19 (fun HT_ HW_ => ?_)
                   generalize wr.drew = w66 at HO_3 HO_5 HO_10 HO_11 BK229 HB hHeld ⊢
                   refine tpu 0 (some 100) #[true, false, false, false, false, false, false, false, false, false, false, false, false, false, false, false] ?_
                   refine one_ (i := 1) (N := some 101) #[true, true, false, false, false, false, false, false, false, false, false, false, false, false, false, false] rfl rfl (one_of HT_.out (by kernel_rfl)) (by decide) (fun K hK => ?_)
                   refine goes_ Try.func11 (by kernel_rfl) rfl #[.slice (some ad240) t230.length co36] (by rfl) rfl rfl tq ?_
                   with_reducible refine (impl_GroupsValid.calls k3 _ _ t230 false _ ?side1 ?side2 A54.out).mono ?_
                   (case side1 => repeat (first | exact (Kd.V_reads' HO_5.out).2.2 | (with_reducible refine Kd.C_alloc ?_ _) | (with_reducible refine Kd.C_drewN ?_ _) | (with_reducible refine Kd.C_drew ?_)))
                   (case side2 => exact (Kd.V_reads' HO_5.out).2.1)
                   rintro e w67 ⟨rfl, hb⟩
                   refine ⟨_, rfl, ?_⟩
                   replace HO_3 := tRb HO_3 hb
                   replace HO_5 := tVb HO_5 hb
                   replace HO_10 := tRb HO_10 hb
                   replace HO_11 := tRb HO_11 hb
                   replace BK229 := tBb BK229 hb
                   replace HB := tBs HB hb
                   (try clear hb)
                   (try clear hb2)
                   (try clear hk)
                   (try clear hi)
                   refine hK.out _ _ trivial (fun hHeld => ?_)
                   clear hK K
                   refine tnm (some 101) ?_
                   refine tpu 2 (some 102) #[true, true, true, false, false, false, false, false, false, false, false, false, false, false, false, false] ?_
                   refine pure_ (i := 3) (N := some 103) (v := undef) (a' := ?_) #[true, true, true, true, false, false, false, false, false, false, false, false, false, false, false, false] rfl rfl (any_of HT_.out (by kernel_rfl)) (fun _ _ _ h => h) (Or.inr ⟨by rfl, rfl⟩) ?_ ?_
                   rotate_left
                   ·simp only [Act.put, List.setIfInBounds_toArray, List.set_cons_zero, List.set_cons_succ, i64_w, i32_w]
                    rfl
                   refine pure_ (i := 4) (N := some 104) (v := undef) (a' := ?_) #[true, true, true, true, true, false, false, false, false, false, false, false, false, false, false, false] rfl rfl (any_of HT_.out (by kernel_rfl)) (fun _ _ _ h => h) (Or.inr ⟨by rfl, rfl⟩) ?_ ?_
                   rotate_left
                   ·simp only [Act.put, List.setIfInBounds_toArray, List.set_cons_zero, List.set_cons_succ, i64_w, i32_w]
                    rfl
                   refine pure_ (i := 5) (N := some 105) (v := undef) (a' := ?_) #[true, true, true, true, true, true, false, false, false, false, false, false, false, false, false, false] rfl rfl (any_of HT_.out (by kernel_rfl)) (fun _ _ _ h => h) (Or.inr ⟨by rfl, rfl⟩) ?_ ?_
                   rotate_left
                   ·simp only [Act.put, List.setIfInBounds_toArray, List.set_cons_zero, List.set_cons_succ, i64_w, i32_w]
                    rfl
                   refine pure_ (i := 6) (N := some 106) (v := undef) (a' := ?_) #[true, true, true, true, true, true, true, false, false, false, false, false, false, false, false, false] rfl rfl (any_of HT_.out (by kernel_rfl)) (fun _ _ _ h => h) (Or.inr ⟨by rfl, rfl⟩) ?_ ?_
                   rotate_left
                   ·simp only [Act.put, List.setIfInBounds_toArray, List.set_cons_zero, List.set_cons_succ, i64_w, i32_w]
                    rfl
                   refine pure_ (i := 7) (N := some 107) (v := undef) (a' := ?_) #[true, true, true, true, true, true, true, true, false, false, false, false, false, false, false, false] rfl rfl (any_of HT_.out (by kernel_rfl)) (fun _ _ _ h => h) (Or.inr ⟨by rfl, rfl⟩) ?_ ?_
                   rotate_left
                   ·simp only [Act.put, List.setIfInBounds_toArray, List.set_cons_zero, List.set_cons_succ, i64_w, i32_w]
                    rfl
                   refine pure_ (i := 8) (N := some 108) (v := undef) (a' := ?_) #[true, true, true, true, true, true, true, true, true, false, false, false, false, false, false, false] rfl rfl (any_of HT_.out (by kernel_rfl)) (fun _ _ _ h => h) (Or.inr ⟨by rfl, rfl⟩) ?_ ?_
                   rotate_left
                   ·simp only [Act.put, List.setIfInBounds_toArray, List.set_cons_zero, List.set_cons_succ, i64_w, i32_w]
                    rfl
                   refine tpu 9 (some 109) #[true, true, true, true, true, true, true, true, true, true, false, false, false, false, false, false] ?_
                   refine tpu 10 (some 110) #[true, true, true, true, true, true, true, true, true, true, true, false, false, false, false, false] ?_
                   refine pure_ (i := 11) (N := some 111) (v := undef) (a' := ?_) #[true, true, true, true, true, true, true, true, true, true, true, true, false, false, false, false] rfl rfl (any_of HT_.out (by kernel_rfl)) (fun _ _ _ h => h) (Or.inr ⟨by rfl, rfl⟩) ?_ ?_
                   rotate_left
                   ·simp only [Act.put, List.setIfInBounds_toArray, List.set_cons_zero, List.set_cons_succ, i64_w, i32_w]
                    rfl
                   refine pure_ (i := 12) (N := some 112) (v := undef) (a' := ?_) #[true, true, true, true, true, true, true, true, true, true, true, true, true, false, false, false] rfl rfl (any_of HT_.out (by kernel_rfl)) (fun _ _ _ h => h) (Or.inr ⟨by rfl, rfl⟩) ?_ ?_
                   rotate_left
                   ·simp only [Act.put, List.setIfInBounds_toArray, List.set_cons_zero, List.set_cons_succ, i64_w, i32_w]
                    rfl
                   refine pure_ (i := 13) (N := some 113) (v := undef) (a' := ?_) #[true, true, true, true, true, true, true, true, true, true, true, true, true, true, false, false] rfl rfl (any_of HT_.out (by kernel_rfl)) (fun _ _ _ h => h) (Or.inr ⟨by rfl, rfl⟩) ?_ ?_
                   rotate_left
                   ·simp only [Act.put, List.setIfInBounds_toArray, List.set_cons_zero, List.set_cons_succ, i64_w, i32_w]
                    rfl
                   refine tpu 14 (some 114) #[true, true, true, true, true, true, true, true, true, true, true, true, true, true, true, false] ?_
                   refine tpu 15 (some 2) #[true, true, true, true, true, true, true, true, true, true, true, true, true, true, true, true] ?_
                   refine done_ (done_of HT_.out (by kernel_rfl)) ?_
                   try go_wp2
                   all_goals go_ret
                   all_goals exact ⟨by first | rfl | (simp [errW_none, errW_some] <;> rfl) | (simp only [← hji32]; first | rfl | (simp [errW_none, errW_some] <;> rfl)) | (simp [*, errW_none, errW_some] <;> rfl), zb⟩
              ·rw [if_neg c35] at H
               exact absurd H (by simp)
             ·rw [if_neg c34] at H
              exact absurd H (by simp)
            ·rw [if_neg c33] at H
             exact absurd H (by simp)
           ·rw [if_neg c31] at H
            exact absurd H (by simp)
          ·rw [if_neg c30] at H
           exact absurd H (by simp)
         ·rw [if_neg c28] at H
          have c28b0 : (((rd_T25 t230 x9_2).f0).toList == t227.toList) = false := beq_eq_false_iff_ne.mpr c28
          have c28b1 : (((rd_T25 t230 x9_2).f0).toList != t227.toList) = true := bne_iff_ne.mpr c28
          have H' := Aside0.mk H
          clear H
          obtain ⟨Ao68, co68, eo68⟩ := Kd.V_slice HO_5.out
          subst eo68
          try go_wp2
          replace HO_3 := Aside0.mk (Kd.R_drew HO_3.out)
          replace HO_5 := Aside0.mk (Kd.V_drew HO_5.out)
          replace BK229 := Aside0.mk (blk_drew BK229.out)
          replace HB := Aside0.mk (below_drew1 HB.out)
          have p240 : 0 ≤ (x9_2 : Int) := td
          have q240 : x9_2 < (t230.length : Int) := td
          obtain ⟨ad240, e240, hx240_0, hx240_1⟩ := at_T25 (Kd.V_reads' HO_5.out).2.2 x9_2 p240 q240
          cases e240
          replace p240 := eq_true p240
          replace q240 := eq_true q240
          refine start_ (n := 8) (S := fun w' => w'.cell? ⟨gb229, 0, none⟩ = some (.string t227) ∧ w'.cell? ⟨gb229, 1, none⟩ = some (.int .i64 t228) ∧ w'.cell? (ad240.add ((x9_2).toNat * 2)) = some (.string ((rd_T25 t230 x9_2).f0)) ∧ w'.cell? ⟨(ad240.add ((x9_2).toNat * 2)).block, (ad240.add ((x9_2).toNat * 2)).off + 1, none⟩ = some (.int .i64 ((rd_T25 t230 x9_2).f1))) (ds := []) #[false, false, false, false, false, false, false, false] (by kernel_rfl) rfl rfl ⟨(blk_cell BK229.out 0).trans rfl, (blk_cell BK229.out 1).trans rfl, hx240_0, hx240_1⟩ (fun hHeld => ?_); refine with_tabW laws_FnGroups.tab11 laws_FnGroups.bits11 (fun HT_ HW_ => ?_)
          generalize wr.drew = w69 at HO_3 HO_5 BK229 HB hx240_0 hx240_1 hHeld ⊢
          refine tpu 0 (some 60) #[true, false, false, false, false, false, false, false] ?_
          refine tpu 1 (some 61) #[true, true, false, false, false, false, false, false] ?_
          refine tpu 2 (some 62) #[true, true, true, false, false, false, false, false] ?_
          refine tpu 3 (some 63) #[true, true, true, true, false, false, false, false] ?_
          refine tpu 5 (some 65) #[true, true, true, true, false, true, false, false] ?_
          refine tta 4 (some 64) #[true, true, true, true, true, true, false, false] hHeld ?_ (hy := by rintro w' ⟨s0, s1, s2, s3⟩; go_simp; with_reducible rfl)
          refine tta 6 (some 66) #[true, true, true, true, true, true, true, false] hHeld ?_ (hy := by rintro w' ⟨s0, s1, s2, s3⟩; go_simp; with_reducible rfl)
          refine tpu 7 (some 67) #[true, true, true, true, true, true, true, true] ?_
          refine done_ (done_of HT_.out (by kernel_rfl)) ?_
          try go_wp2
          go_roundg k2
          case measure => have := HJ5.out; have := HK2.out; omega
          case rel => exact ⟨(wrap64 (x9_2 + 1)), tr, H', ⟨by have := HJ5.out; have := HK2.out; omega⟩, ⟨tR HO_3.out⟩, ⟨tV HO_5.out⟩, ⟨tH BK229.out⟩, ⟨zb⟩⟩
        ·rw [if_neg c27] at H
         exact absurd H (by simp)
       ·rw [if_neg c26] at H
        have c26b0 : decide (x9_2 < (t230.length : Int)) = false := decide_eq_false c26
        clear c26
        obtain rfl := Option.some.inj H
        obtain ⟨Ao70, co70, eo70⟩ := Kd.V_slice HO_5.out
        subst eo70
        go_wp2
        all_goals go_ret
        all_goals exact ⟨by first | rfl | (simp [errW_none, errW_some] <;> rfl) | (simp [*, errW_none, errW_some] <;> rfl), zb⟩

end Go.Proofs.Ytkihdohphddjaaa.G

namespace Go.Proofs.Ytkihdohphddjaaa.Rd
open Go.RowKit Go.Proofs.YtkihdohphddjaaaW.PrintWords
set_option linter.unusedVariables false
section
variable {H : Type} {enc : TypeId × Value → H} {P : Program} {w : World} {base : Nat} {spare : Nat → Bool} {held : Bool}
/-- What a reading of type t gives: a value of the kind, and what is known of it. -/
def Opens (enc : TypeId × Value → H) (P : Program) (w : World) (base : Nat) (spare : Nat → Bool) (held : Bool) {α : Type} (t : TypeId) (d : Kd α) (ok : α → Prop) : Prop :=
  P.cellsOf t = d.sz ∧ ∀ fuel cs x, DataW.trod enc P w base spare held fuel t cs = some x → ∃ v, d.K w v cs ∧ ok v
theorem Opens.imp_ {α : Type} {t : TypeId} {d : Kd α} {ok ok' : α → Prop} (h : Opens enc P w base spare held t d ok) (hi : ∀ v, ok v → ok' v) : Opens enc P w base spare held t d ok' :=
  ⟨h.1, fun fuel cs x hx => by
    obtain ⟨v, hk, ho⟩ := h.2 fuel cs x hx
    exact ⟨v, hk, hi v ho⟩⟩
theorem opens_int {t : TypeId} {k : IntKind} (ht : P.underlying t = some (.int k)) (hc : P.cellsOf t = 1) : Opens enc P w base spare held t (Kd.int k) (fun n => (Lit.int k n).wf = true) := by
  refine ⟨hc, fun fuel cs x h => ?_⟩
  obtain ⟨n, rfl, _, hw⟩ := DataW.trod_int ht h
  exact ⟨n, rfl, hw⟩
theorem cells_len {base : Nat} {a : Addr} {n : Nat} {cs : List Value} (h : w.cells? base a n = some cs) : cs.length = n ∧ ∀ i u, cs[i]? = some u → w.cell? (a.add i) = some u := by
  unfold World.cells? at h
  split at h
  · rename_i hb
    refine ⟨by simpa using mapM_some_length h, fun i u hu => ?_⟩
    have hi : i < n := by
      have := (List.getElem?_eq_some_iff.1 hu).1
      have h2 : cs.length = n := by simpa using mapM_some_length h
      omega
    have := mapM_some_get h i i (by simp [hi])
    rw [hu] at this
    exact this
  · simp at h
theorem opens_row {α : Type} {t e : TypeId} {d : Kd α} {ok : α → Prop} (ht : P.underlying t = some (.slice e)) (hd : Opens enc P w base spare held e d ok) {fuel : Nat} {cs : List Value} {x : DataW H × List MemPlace}
    (h : DataW.trod enc P w base spare held fuel t cs = some x) : ∃ (A : Option Addr) (c : Nat) (xs : List α), cs = [.slice A xs.length c] ∧ xs.length ≤ c ∧ c ≤ maxLen ∧ d.C w A xs.length xs ∧ ∀ y ∈ xs, ok y := by
  rcases Go.Deep.open_slice ht h with ⟨rfl, _⟩ | ⟨a, len, cap, m, n, D, Pl, rfl, hb, hl, hm, hmm, _, hel⟩
  · exact ⟨none, 0, [], rfl, Nat.le_refl _, by unfold maxLen; omega, ⟨rfl, by simp, fun h0 => absurd h0 (by simp)⟩, by simp⟩
  have hlm : len ≤ m := by rw [hmm]; split <;> omega
  have hx : ∀ i, i < len → ∃ y : α, ok y ∧ ∃ c, c.length = d.sz ∧ d.K w y c ∧ ∀ j u, c[j]? = some u → w.cell? (a.add (i * d.sz + j)) = some u := by
    intro i hi
    obtain ⟨cs', h1, h2⟩ := hel i (by omega)
    obtain ⟨y, hk, ho⟩ := hd.2 _ _ _ h2
    obtain ⟨hl', hc'⟩ := cells_len h1
    refine ⟨y, ho, cs', by rw [hl', hd.1], hk, fun j u hu => ?_⟩
    have := hc' j u hu
    rw [Go.Deep.add_add, hd.1] at this
    exact this
  rcases Nat.eq_zero_or_pos len with h0 | h0
  · subst h0
    exact ⟨some a, cap, [], rfl, Nat.zero_le _, hm, ⟨rfl, by simp, fun h1 => absurd h1 (by simp)⟩, by simp⟩
  obtain ⟨y0, _⟩ := hx 0 h0
  haveI : Inhabited α := ⟨y0⟩
  obtain ⟨g, hg⟩ := Go.Deep.choose_lt hx
  have hlen : ((List.range len).map g).length = len := by simp
  refine ⟨some a, cap, (List.range len).map g, by rw [hlen], by rw [hlen]; exact hl, hm, ⟨rfl, by rw [hlen]; unfold maxLen at hm; omega, fun _ => ⟨a, rfl, fun j p hj => ?_⟩⟩, fun y hy => ?_⟩
  · have hj' : j < len := by
      have := (List.getElem?_eq_some_iff.1 hj).1
      omega
    rw [List.getElem?_map, List.getElem?_range hj'] at hj
    simp at hj
    subst hj
    obtain ⟨_, c, hc1, hc2, hc3⟩ := hg j hj'
    exact ⟨c, hc1, hc2, hc3⟩
  · obtain ⟨i, hi, rfl⟩ := List.mem_map.1 hy
    exact (hg i (List.mem_range.1 hi)).1
end
end Go.Proofs.Ytkihdohphddjaaa.Rd

namespace Go.Proofs.Ytkihdohphddjaaa.OFnGroups
open Go.RowKit Go.Proofs.YtkihdohphddjaaaW.PrintWords Go.Proofs.Ytkihdohphddjaaa.G
set_option linter.unusedVariables false
def Pure : Prop := ∀ (l0 : List Int), l0.length ≤ maxLen → (∀ y ∈ l0, (Lit.int .u8 y).wf = true) → ∃ k, laws_FnGroups.f k l0 = some true
end Go.Proofs.Ytkihdohphddjaaa.OFnGroups

namespace Go.Proofs.Ytkihdohphddjaaa.Pu
open Go.RowKit Go.Proofs.YtkihdohphddjaaaW.PrintWords Go.Proofs.YtkihdohphddjaaaW.PrintLast
set_option linter.unusedVariables false
set_option linter.unusedSimpArgs false
theorem w64 {a : Int} (h0 : -9223372036854775808 ≤ a) (h1 : a ≤ 9223372036854775807) : wrap64 a = a := by unfold wrap64; omega
/-- (Not by 'rfl': a large number in a test behind it would be counted up by the kernel.) -/
theorem bindS {α β : Type} (x : α) (f : α → Option β) : (some x).bind f = f x := Eq.trans (Option.bind_some x f) (Eq.refl _)
/-- It ends, in something of which P holds. -/
def EndsIn {α : Type} (g : Nat → Option α) (P : α → Prop) : Prop := ∃ r, Ev g r ∧ P r
theorem EndsIn.bind {α β : Type} {g : Nat → Option α} {f : Nat → α → Option β} {P : α → Prop} {Q : β → Prop} (h : EndsIn g P) (k : ∀ a, P a → EndsIn (fun n => f n a) Q) : EndsIn (fun n => (g n).bind (f n)) Q := by
  obtain ⟨a, ha, hp⟩ := h
  obtain ⟨b, hb, hq⟩ := k a hp
  exact ⟨b, Ev.bind ha hb, hq⟩
theorem EndsIn.step {α : Type} {g f : Nat → Option α} {P : α → Prop} (h : ∀ k, g (k + 1) = f k) (k : EndsIn f P) : EndsIn g P := by
  obtain ⟨a, ha, hp⟩ := k
  exact ⟨a, Ev.step h ha, hp⟩
theorem EndsIn.now {α : Type} {P : α → Prop} (r : α) (hp : P r) : EndsIn (fun _ => some r) P := ⟨r, Ev.now r, hp⟩
theorem EndsIn.mono {α : Type} {g : Nat → Option α} {P Q : α → Prop} (h : EndsIn g P) (k : ∀ a, P a → Q a) : EndsIn g Q := by
  obtain ⟨a, ha, hp⟩ := h
  exact ⟨a, ha, k a hp⟩
theorem EndsIn.ev {α : Type} {g : Nat → Option α} {r : α} (h : EndsIn g (fun x => x = r)) : Ev g r := by
  obtain ⟨a, ha, rfl⟩ := h
  exact ha
theorem EndsIn.rounds {α : Type} {g : Nat → Option α} {r : α} (h : EndsIn g (fun x => x = r)) : ∃ k, g k = some r := h.ev.rounds
/-! bytes -/
theorem bt_get (s : ByteArray) (i : Nat) (h : i < s.size) : bt s (i : Int) = ((s.data.toList[i]'(by simpa using h)).toNat : Int) := by
  unfold bt
  rw [dif_pos (by simpa using h)]
  simp only [Int.toNat_natCast]
  rfl
theorem data_len (s : ByteArray) : s.data.toList.length = s.size := by simp
theorem toList_data (s : ByteArray) : s.toList = s.data.toList := ByteArray.toList_eq s
/-! the order of strings -/
theorem less_irrefl : ∀ (x : List UInt8), Op.bytesLess x x = false
  | [] => rfl
  | a :: x => by
    simp only [Op.bytesLess, beq_self_eq_true, Bool.true_and, less_irrefl x, Bool.or_false, decide_eq_false_iff_not]
    exact UInt8.lt_irrefl a
theorem less_trans : ∀ (x y z : List UInt8), Op.bytesLess x y = true → Op.bytesLess y z = true → Op.bytesLess x z = true
  | [], [], _, h, _ => by simp [Op.bytesLess] at h
  | [], _ :: _, [], _, h => by simp [Op.bytesLess] at h
  | [], _ :: _, _ :: _, _, _ => rfl
  | _ :: _, [], _, h, _ => by simp [Op.bytesLess] at h
  | _ :: _, _ :: _, [], _, h => by simp [Op.bytesLess] at h
  | a :: x, b :: y, c :: z, h, k => by
    simp only [Op.bytesLess, Bool.or_eq_true, decide_eq_true_eq, Bool.and_eq_true, beq_iff_eq] at h k ⊢
    rcases h with h | ⟨rfl, h⟩
    · rcases k with k | ⟨rfl, k⟩
      · exact .inl (UInt8.lt_trans h k)
      · exact .inl h
    · rcases k with k | ⟨rfl, k⟩
      · exact .inl k
      · exact .inr ⟨rfl, less_trans x y z h k⟩
theorem less_total : ∀ (x y : List UInt8), Op.bytesLess x y = true ∨ x = y ∨ Op.bytesLess y x = true
  | [], [] => .inr (.inl rfl)
  | [], _ :: _ => .inl rfl
  | _ :: _, [] => .inr (.inr rfl)
  | a :: x, b :: y => by
    simp only [Op.bytesLess, Bool.or_eq_true, decide_eq_true_eq, Bool.and_eq_true, beq_iff_eq]
    rcases Nat.lt_trichotomy a.toNat b.toNat with h | h | h
    · exact .inl (.inl (UInt8.lt_iff_toNat_lt.2 h))
    · obtain rfl : a = b := UInt8.toNat_inj.1 h
      rcases less_total x y with h | h | h
      · exact .inl (.inr ⟨rfl, h⟩)
      · exact .inr (.inl (by rw [h]))
      · exact .inr (.inr (.inr ⟨rfl, h⟩))
    · exact .inr (.inr (.inl (UInt8.lt_iff_toNat_lt.2 h)))
theorem u8_range {x : Int} (h : (Lit.int .u8 x).wf = true) : 0 ≤ x ∧ x ≤ 255 := by
  simp only [Lit.wf, Bool.and_eq_true, decide_eq_true_eq] at h
  exact ⟨h.1, h.2⟩
end Go.Proofs.Ytkihdohphddjaaa.Pu

namespace Go.Proofs.Ytkihdohphddjaaa.Pu
open Go.RowKit Go.Proofs.YtkihdohphddjaaaW.PrintWords Go.Proofs.YtkihdohphddjaaaW.PrintLast Go.Proofs.Ytkihdohphddjaaa.G
set_option linter.unusedVariables false
set_option linter.unusedSimpArgs false
def low (c : UInt8) : Bool := decide (97 ≤ c.toNat) && decide (c.toNat ≤ 122)
def word (s : ByteArray) (most : Int) : Bool := (decide (1 ≤ s.size) && decide ((s.size : Int) ≤ most)) && s.data.toList.all low
def gOk (g : S25) : Bool := word g.f0 6 && (decide (0 ≤ g.f1) && decide (g.f1 ≤ 100000))
theorem drop_cons_get {α : Type} (l : List α) (i : Nat) (h : i < l.length) : l.drop i = l[i] :: l.drop (i + 1) := by simp
theorem bt_low (s : ByteArray) (i : Nat) (h : i < s.size) : low (s.data.toList[i]'(by simpa using h)) = (decide (¬ bt s (i : Int) < 97) && decide (¬ bt s (i : Int) > 122)) := by
  rw [bt_get s i h]
  unfold low
  congr 1
  · simp only [decide_eq_decide]; omega
  · simp only [decide_eq_decide]; omega
theorem letters_loop (s : ByteArray) (hs : s.size ≤ 9223372036854775807) : ∀ d i, s.size - i = d → Ev (fun k => impl_letters.l0 k s (s.size : Int) (i : Int)) ((s.data.toList.drop i).all low) := by
  intro d
  induction d with
  | zero =>
    intro i hi
    refine Ev.step (fun k => by rw [impl_letters.l0]) ?_
    rw [List.drop_of_length_le (by rw [data_len]; omega)]
    simp only [if_neg (show ¬ ((i : Int) < (s.size : Int)) by omega)]
    exact Ev.now _
  | succ d ih =>
    intro i hi
    have hlt : i < s.size := by omega
    refine Ev.step (fun k => by rw [impl_letters.l0]) ?_
    simp only [if_pos (show ((i : Int) < (s.size : Int)) by omega), if_pos (show (0 : Int) ≤ (i : Int) by omega)]
    rw [drop_cons_get _ i (by rw [data_len]; exact hlt), List.all_cons, bt_low s i hlt]
    by_cases h1 : bt s (i : Int) < 97
    · simp only [if_pos h1, h1]
      exact Ev.now _
    · by_cases h2 : bt s (i : Int) > 122
      · simp only [if_neg h1, if_pos h2, h1, h2]
        exact Ev.now _
      · simp only [if_neg h1, if_neg h2, w64 (a := (i : Int) + 1) (by omega) (by omega)]
        have := ih (i + 1) (by omega)
        simpa [h1, h2] using this
theorem letters_ev (s : ByteArray) (most : Int) (hs : s.size ≤ 9223372036854775807) : Ev (fun k => impl_letters.f k s most) (word s most) := by
  unfold impl_letters.f word
  by_cases h0 : (s.size : Int) < 1
  · simp only [if_pos h0]
    refine Ev.step (fun k => by rw [impl_letters.j0]) ?_
    rw [show decide (1 ≤ s.size) = false from decide_eq_false (by omega)]
    exact Ev.now _
  · simp only [if_neg h0]
    refine Ev.step (fun k => by rw [impl_letters.j0]) ?_
    rw [show decide (1 ≤ s.size) = true from decide_eq_true (by omega)]
    by_cases h1 : (s.size : Int) > most
    · simp only [h1, decide_true, if_true]
      rw [show decide ((s.size : Int) ≤ most) = false from decide_eq_false (by omega)]
      exact Ev.now _
    · simp only [h1, decide_false]
      rw [show decide ((s.size : Int) ≤ most) = true from decide_eq_true (by omega)]
      have := letters_loop s hs s.size 0 (by omega)
      simpa using this
theorem groupValid_ev (g : S25) (hs : g.f0.size ≤ 9223372036854775807) : Ev (fun k => impl_groupValid.f k g.f0 g.f1) (gOk g) := by
  unfold impl_groupValid.f gOk
  refine Ev.bind (letters_ev _ _ hs) ?_
  cases word g.f0 6
  · exact Ev.now _
  · simp only [if_true]
    unfold impl_within.f
    by_cases h : g.f1 ≥ 0
    · simp only [if_pos h, Option.bind_some]
      rw [show decide (0 ≤ g.f1) = true from decide_eq_true h]
      exact Ev.now _
    · simp only [if_neg h, Option.bind_some]
      rw [show decide (0 ≤ g.f1) = false from decide_eq_false h]
      exact Ev.now _
theorem l6In_some (a b c : Int) : spec_l6In.f a b c = some (decide (b ≤ a) && decide (a ≤ c)) := by
  unfold spec_l6In.f
  by_cases h : a ≥ b
  · rw [if_pos h, show decide (b ≤ a) = true from decide_eq_true h]; rfl
  · rw [if_neg h, show decide (b ≤ a) = false from decide_eq_false h]; rfl
theorem group_loop (g : S25) (hs : g.f0.size ≤ 9223372036854775807) : ∀ d i, g.f0.size - i = d → Ev (fun k => spec_l32Group.l0 k (i : Int) g.f0 g.f1) ((g.f0.data.toList.drop i).all low && ((decide (1 ≤ g.f0.size) && decide ((g.f0.size : Int) ≤ 6)) && (decide (0 ≤ g.f1) && decide (g.f1 ≤ 100000)))) := by
  intro d
  induction d with
  | zero =>
    intro i hi
    refine Ev.step (fun k => by rw [spec_l32Group.l0]) ?_
    rw [List.drop_of_length_le (by rw [data_len]; omega)]
    simp only [if_neg (show ¬ ((i : Int) < (g.f0.size : Int)) by omega), l6In_some, Option.bind_some]
    rw [show decide ((1 : Int) ≤ (g.f0.size : Int)) = decide (1 ≤ g.f0.size) from decide_eq_decide.2 (by omega)]
    cases (decide (1 ≤ g.f0.size) && decide ((g.f0.size : Int) ≤ 6))
    · exact Ev.now _
    · exact Ev.now _
  | succ d ih =>
    intro i hi
    have hlt : i < g.f0.size := by omega
    refine Ev.step (fun k => by rw [spec_l32Group.l0]) ?_
    simp only [if_pos (show ((i : Int) < (g.f0.size : Int)) by omega), if_pos (show (0 : Int) ≤ (i : Int) by omega)]
    rw [drop_cons_get _ i (by rw [data_len]; exact hlt), List.all_cons, bt_low g.f0 i hlt]
    by_cases h1 : bt g.f0 (i : Int) < 97
    · simp only [if_pos h1, h1]
      exact Ev.now _
    · by_cases h2 : bt g.f0 (i : Int) > 122
      · simp only [if_neg h1, if_pos h2, h1, h2]
        exact Ev.now _
      · simp only [if_neg h1, if_neg h2, w64 (a := (i : Int) + 1) (by omega) (by omega)]
        have := ih (i + 1) (by omega)
        simpa [h1, h2] using this
theorem l32Group_ev (g : S25) (hs : g.f0.size ≤ 9223372036854775807) : Ev (fun k => spec_l32Group.f k g.f0 g.f1) (gOk g) := by
  have := group_loop g hs g.f0.size 0 (by omega)
  unfold spec_l32Group.f gOk word
  rw [List.drop_zero] at this
  have e : ∀ a b c : Bool, (a && (b && c)) = ((b && a) && c) := by decide
  rw [e] at this
  exact this
/-- Valid from place i on, each behind the one ahead of it. -/
def gsFrom (prev : Option S25) : List S25 → Bool
  | [] => true
  | g :: l => gOk g && ((match prev with | none => true | some p => Op.bytesLess p.f0.toList g.f0.toList) && gsFrom (some g) l)
def gsOk (l : List S25) : Bool := gsFrom none l && decide (l.length ≤ 8)
theorem rd_nat (l : List S25) (i : Nat) (h : i < l.length) : rd_T25 l (i : Int) = l[i] := by
  unfold rd_T25
  simp [h]
def prevOf (l : List S25) (i : Nat) : Option S25 := if i = 0 then none else l[i - 1]?
theorem valid_loop (l : List S25) (hl : l.length ≤ 9223372036854775807) (hs : ∀ g ∈ l, g.f0.size ≤ 9223372036854775807) : ∀ d i, l.length - i = d → Ev (fun k => impl_GroupsValid.l0 k l l (l.length : Int) (i : Int)) (gsFrom (prevOf l i) (l.drop i)) := by
  intro d
  induction d with
  | zero =>
    intro i hi
    refine Ev.step (fun k => by rw [impl_GroupsValid.l0]) ?_
    rw [List.drop_of_length_le (by omega)]
    simp only [if_neg (show ¬ ((i : Int) < (l.length : Int)) by omega)]
    exact Ev.now _
  | succ d ih =>
    intro i hi
    have hlt : i < l.length := by omega
    refine Ev.step (fun k => by rw [impl_GroupsValid.l0]) ?_
    simp only [if_pos (show ((i : Int) < (l.length : Int)) by omega), if_pos (show (0 : Int) ≤ (i : Int) by omega)]
    rw [drop_cons_get _ i hlt, rd_nat l i hlt]
    refine Ev.bind (groupValid_ev _ (hs _ (List.getElem_mem _))) ?_
    unfold gsFrom
    have hn := ih (i + 1) (by omega)
    rw [show prevOf l (i + 1) = some l[i] by unfold prevOf; simp [hlt]] at hn
    cases gOk l[i]
    · exact Ev.now _
    · simp only [if_true, Bool.true_and, w64 (a := (i : Int) + 1) (by omega) (by omega)]
      rcases Nat.eq_zero_or_pos i with h0 | h0
      · subst h0
        simp only [if_neg (show ¬ (((0 : Nat) : Int) > 0) by omega)]
        unfold prevOf
        simpa using hn
      · have hp : prevOf l i = some l[i - 1] := by
          unfold prevOf
          rw [if_neg (by omega)]
          simp [show i - 1 < l.length by omega]
        rw [hp]
        simp only [if_pos (show ((i : Int) > 0) by omega), w64 (a := (i : Int) - 1) (by omega) (by omega), if_pos (show (0 : Int) ≤ (i : Int) - 1 by omega), if_pos (show ((i : Int) - 1) < (l.length : Int) by omega)]
        rw [show ((i : Int) - 1) = ((i - 1 : Nat) : Int) by omega, rd_nat l (i - 1) (by omega)]
        cases Op.bytesLess l[i - 1].f0.toList l[i].f0.toList
        · exact Ev.now _
        · simpa using hn
theorem valid_ev (l : List S25) (hl : l.length ≤ 9223372036854775807) (hs : ∀ g ∈ l, g.f0.size ≤ 9223372036854775807) : Ev (fun k => impl_GroupsValid.f k l) (gsOk l) := by
  unfold impl_GroupsValid.f gsOk
  by_cases h : (l.length : Int) > 8
  · simp only [if_pos h]
    rw [show decide (l.length ≤ 8) = false from decide_eq_false (by omega), Bool.and_false]
    exact Ev.now _
  · simp only [if_neg h]
    rw [show decide (l.length ≤ 8) = true from decide_eq_true (by omega), Bool.and_true]
    have := valid_loop l hl hs l.length 0 (by omega)
    simpa [prevOf] using this
theorem svalid_loop (l : List S25) (hl : l.length ≤ 9223372036854775807) (hs : ∀ g ∈ l, g.f0.size ≤ 9223372036854775807) : ∀ d i, l.length - i = d → Ev (fun k => spec_GroupsValid.l0 k l (i : Int)) (gsFrom (prevOf l i) (l.drop i) && decide (l.length ≤ 8)) := by
  intro d
  induction d with
  | zero =>
    intro i hi
    refine Ev.step (fun k => by rw [spec_GroupsValid.l0]) ?_
    rw [List.drop_of_length_le (by omega)]
    simp only [if_neg (show ¬ ((i : Int) < (l.length : Int)) by omega)]
    rw [show decide ((l.length : Int) ≤ 8) = decide (l.length ≤ 8) from decide_eq_decide.2 (by omega)]
    exact Ev.now _
  | succ d ih =>
    intro i hi
    have hlt : i < l.length := by omega
    refine Ev.step (fun k => by rw [spec_GroupsValid.l0]) ?_
    simp only [if_pos (show ((i : Int) < (l.length : Int)) by omega), if_pos (show (0 : Int) ≤ (i : Int) by omega)]
    rw [drop_cons_get _ i hlt, rd_nat l i hlt]
    refine Ev.bind (l32Group_ev _ (hs _ (List.getElem_mem _))) ?_
    unfold gsFrom
    have hn := ih (i + 1) (by omega)
    rw [show prevOf l (i + 1) = some l[i] by unfold prevOf; simp [hlt]] at hn
    cases gOk l[i]
    · exact Ev.now _
    · simp only [if_true, Bool.true_and, w64 (a := (i : Int) + 1) (by omega) (by omega)]
      rcases Nat.eq_zero_or_pos i with h0 | h0
      · subst h0
        simp only [if_neg (show ¬ (((0 : Nat) : Int) > 0) by omega)]
        unfold prevOf
        simpa using hn
      · have hp : prevOf l i = some l[i - 1] := by
          unfold prevOf
          rw [if_neg (by omega)]
          simp [show i - 1 < l.length by omega]
        rw [hp]
        simp only [if_pos (show ((i : Int) > 0) by omega), w64 (a := (i : Int) - 1) (by omega) (by omega), if_pos (show (0 : Int) ≤ (i : Int) - 1 by omega), if_pos (show ((i : Int) - 1) < (l.length : Int) by omega)]
        rw [show ((i : Int) - 1) = ((i - 1 : Nat) : Int) by omega, rd_nat l (i - 1) (by omega)]
        cases Op.bytesLess l[i - 1].f0.toList l[i].f0.toList
        · exact Ev.now _
        · simpa using hn
theorem svalid_ev (l : List S25) (hl : l.length ≤ 9223372036854775807) (hs : ∀ g ∈ l, g.f0.size ≤ 9223372036854775807) : Ev (fun k => spec_GroupsValid.f k l) (gsOk l) := by
  unfold spec_GroupsValid.f gsOk
  have := svalid_loop l hl hs l.length 0 (by omega)
  simpa [prevOf] using this
end Go.Proofs.Ytkihdohphddjaaa.Pu

namespace Go.Proofs.Ytkihdohphddjaaa.Pu
open Go.RowKit Go.Proofs.YtkihdohphddjaaaW.PrintWords Go.Proofs.YtkihdohphddjaaaW.PrintLast Go.Proofs.Ytkihdohphddjaaa.G
set_option linter.unusedVariables false
set_option linter.unusedSimpArgs false
def putG (g : S25) : List S25 → List S25
  | [] => [g]
  | x :: xs => if Op.bytesLess x.f0.toList g.f0.toList = true then x :: putG g xs else g :: (x :: xs).filter (fun y => decide (y.f0.toList ≠ g.f0.toList))
def fin8 (l : List S25) : List S25 × Bool := if l.length > 8 then ([], false) else (l, true)
def gPut (l : List S25) (g : S25) : List S25 × Bool := if (gsOk l && gOk g) = true then fin8 (putG g l) else ([], false)
theorem fin8_if (l : List S25) : (if (l.length : Int) > 8 then (some ((([] : List S25)), false)) else (some (l, true))) = some (fin8 l) := by
  unfold fin8
  by_cases h : l.length > 8
  · rw [if_pos (show (l.length : Int) > 8 by omega), if_pos h]
  · rw [if_neg (show ¬ (l.length : Int) > 8 by omega), if_neg h]
theorem put_done (l : List S25) (g : S25) (hl : l.length ≤ 1048576) : ∀ d i (out : List S25), l.length - i = d → out.length ≤ i + 1 →
    Ev (fun k => spec_GroupsPut.l0 k l out true (i : Int) g.f0 g.f1) (fin8 (out ++ (l.drop i).filter (fun y => decide (y.f0.toList ≠ g.f0.toList)))) := by
  intro d
  induction d with
  | zero =>
    intro i out hi ho
    refine Ev.step (fun k => by rw [spec_GroupsPut.l0]) ?_
    simp only [if_neg (show ¬ ((i : Int) < (l.length : Int)) by omega), if_true]
    rw [List.drop_of_length_le (by omega)]
    simp only [List.filter_nil, List.append_nil, fin8_if]
    exact Ev.now _
  | succ d ih =>
    intro i out hi ho
    have hlt : i < l.length := by omega
    refine Ev.step (fun k => by rw [spec_GroupsPut.l0]) ?_
    simp only [if_pos (show ((i : Int) < (l.length : Int)) by omega), if_true]
    refine Ev.step (fun k => by rw [spec_GroupsPut.j2]) ?_
    simp only [Bool.false_eq_true, if_false, if_pos (show (0 : Int) ≤ (i : Int) by omega), if_pos (show ((i : Int) < (l.length : Int)) by omega), rd_nat l i hlt, w64 (a := (i : Int) + 1) (by omega) (by omega)]
    rw [drop_cons_get l i hlt, List.filter_cons]
    by_cases h : l[i].f0.toList = g.f0.toList
    · simp only [h, if_true, ne_eq, not_true_eq_false, decide_false, Bool.false_eq_true, if_false]
      exact ih (i + 1) out (by omega) (by omega)
    · simp only [if_neg h, ne_eq, h, not_false_eq_true, decide_true, if_true, if_pos (show out.length < 5864062014805 by omega)]
      have := ih (i + 1) (out ++ [l[i]]) (by omega) (by simp; omega)
      simp only [List.append_assoc, List.cons_append, List.nil_append] at this
      exact this
theorem put_not (l : List S25) (g : S25) (hl : l.length ≤ 1048576) : ∀ d i (out : List S25), l.length - i = d → i ≤ l.length → out.length ≤ i →
    Ev (fun k => spec_GroupsPut.l0 k l out false (i : Int) g.f0 g.f1) (fin8 (out ++ putG g (l.drop i))) := by
  intro d
  induction d with
  | zero =>
    intro i out hi hle ho
    refine Ev.step (fun k => by rw [spec_GroupsPut.l0]) ?_
    simp only [if_neg (show ¬ ((i : Int) < (l.length : Int)) by omega), Bool.false_eq_true, if_false]
    rw [List.drop_of_length_le (by omega)]
    have hlim : out.length < 5864062014805 := by omega
    simp only [if_pos hlim, Option.bind_some, fin8_if, putG]
    exact Ev.now _
  | succ d ih =>
    intro i out hi hle ho
    have hlt : i < l.length := by omega
    refine Ev.step (fun k => by rw [spec_GroupsPut.l0]) ?_
    simp only [if_pos (show ((i : Int) < (l.length : Int)) by omega), Bool.false_eq_true, if_false, if_pos (show (0 : Int) ≤ (i : Int) by omega), rd_nat l i hlt]
    refine Ev.step (fun k => by rw [spec_GroupsPut.j2]) ?_
    rw [drop_cons_get l i hlt]
    simp only [if_pos (show (0 : Int) ≤ (i : Int) by omega), if_pos (show ((i : Int) < (l.length : Int)) by omega), rd_nat l i hlt, w64 (a := (i : Int) + 1) (by omega) (by omega), putG]
    by_cases h : Op.bytesLess l[i].f0.toList g.f0.toList = true
    · have hne : ¬ l[i].f0.toList = g.f0.toList := by
        intro e
        rw [e, less_irrefl] at h
        exact absurd h (by simp)
      simp only [h, Bool.not_true, Bool.false_eq_true, if_false, if_neg hne, if_true, if_pos (show out.length < 5864062014805 by omega)]
      have := ih (i + 1) (out ++ [l[i]]) (by omega) (by omega) (by simp; omega)
      simp only [List.append_assoc, List.cons_append, List.nil_append] at this
      exact this
    · simp only [h, Bool.not_false, if_true, if_false, if_pos (show out.length < 5864062014805 by omega), Option.bind_some, Bool.false_eq_true]
      rw [List.filter_cons]
      by_cases he : l[i].f0.toList = g.f0.toList
      · simp only [he, if_true, ne_eq, not_true_eq_false, decide_false, Bool.false_eq_true, if_false]
        have := put_done l g hl (l.length - (i + 1)) (i + 1) (out ++ [g]) rfl (by simp; omega)
        simp only [List.append_assoc, List.cons_append, List.nil_append, ne_eq] at this
        exact this
      · simp only [ne_eq, he, if_false, not_false_eq_true, decide_true, if_true, if_pos (show (out ++ [g]).length < 5864062014805 by simp; omega)]
        have := put_done l g hl (l.length - (i + 1)) (i + 1) (out ++ [g] ++ [l[i]]) rfl (by simp; omega)
        have e : ∀ F : List S25, (out ++ [g] ++ [l[i]]) ++ F = out ++ (g :: l[i] :: F) := by intro F; simp
        rw [e] at this
        simp only [ne_eq] at this
        exact this
theorem gPut_ev (l : List S25) (g : S25) (hl : l.length ≤ 1048576) (hs : ∀ x ∈ l, x.f0.size ≤ 9223372036854775807) (hg : g.f0.size ≤ 9223372036854775807) :
    Ev (fun k => spec_GroupsPut.f k l g.f0 g.f1) (gPut l g) := by
  unfold spec_GroupsPut.f gPut
  refine Ev.bind (svalid_ev l (by omega) hs) ?_
  cases gsOk l
  · simp only [Bool.false_eq_true, if_false, Bool.false_and]
    refine Ev.step (fun k => by rw [spec_GroupsPut.j0]) ?_
    simp only [if_true]
    exact Ev.now _
  · simp only [if_true, Bool.true_and]
    refine Ev.bind (l32Group_ev g hg) ?_
    refine Ev.step (fun k => by rw [spec_GroupsPut.j0]) ?_
    cases gOk g
    · simp only [Bool.not_false, if_true, Bool.false_eq_true, if_false]
      exact Ev.now _
    · simp only [Bool.not_true, Bool.false_eq_true, if_false, if_true]
      have := put_not l g hl l.length 0 [] (by omega) (by omega) (by simp)
      simpa using this
theorem putG_mem (g : S25) : ∀ (l : List S25) x, x ∈ putG g l → x = g ∨ x ∈ l
  | [], x, h => by simp [putG] at h; exact .inl h
  | y :: ys, x, h => by
    unfold putG at h
    split at h
    · rcases List.mem_cons.1 h with rfl | h
      · exact .inr (by simp)
      · rcases putG_mem g ys x h with h | h
        · exact .inl h
        · exact .inr (by simp [h])
    · rcases List.mem_cons.1 h with rfl | h
      · exact .inl rfl
      · exact .inr ((List.mem_filter.1 h).1)
theorem gPut_mem {l : List S25} {g : S25} {x : S25} (h : x ∈ (gPut l g).1) : x = g ∨ x ∈ l := by
  unfold gPut at h
  split at h
  · unfold fin8 at h
    split at h
    · simp at h
    · exact putG_mem g l x h
  · simp at h
theorem gPut_len (l : List S25) (g : S25) : (gPut l g).1.length ≤ 8 := by
  unfold gPut
  split
  · unfold fin8
    split
    · simp
    · rename_i h
      simpa using h
  · simp
end Go.Proofs.Ytkihdohphddjaaa.Pu

namespace Go.Proofs.Ytkihdohphddjaaa.Pu
open Go.RowKit Go.Proofs.YtkihdohphddjaaaW.PrintWords Go.Proofs.YtkihdohphddjaaaW.PrintLast Go.Proofs.Ytkihdohphddjaaa.G
set_option linter.unusedVariables false
set_option linter.unusedSimpArgs false
theorem cmp_lt : ∀ x y : List UInt8, Lib.compareBytes x y < 0 ↔ Op.bytesLess x y = true
  | [], [] => by simp [Lib.compareBytes, Op.bytesLess]
  | [], _ :: _ => by simp [Lib.compareBytes, Op.bytesLess]
  | _ :: _, [] => by simp [Lib.compareBytes, Op.bytesLess]
  | a :: x, b :: y => by
    have ih := cmp_lt x y
    simp only [Lib.compareBytes, Op.bytesLess, Bool.or_eq_true, decide_eq_true_eq, Bool.and_eq_true, beq_iff_eq]
    by_cases h1 : a < b
    · simp [h1]
    · by_cases h2 : b < a
      · have : a ≠ b := fun e => by subst e; exact h1 h2
        simp [h1, h2, this]
      · have : a = b := UInt8.le_antisymm (UInt8.not_lt.1 h2) (UInt8.not_lt.1 h1)
        simp [h1, h2, this, ih]
theorem cmp_eq : ∀ x y : List UInt8, Lib.compareBytes x y = 0 ↔ x = y
  | [], [] => by simp [Lib.compareBytes]
  | [], _ :: _ => by simp [Lib.compareBytes]
  | _ :: _, [] => by simp [Lib.compareBytes]
  | a :: x, b :: y => by
    have ih := cmp_eq x y
    simp only [Lib.compareBytes, List.cons.injEq]
    by_cases h1 : a < b
    · have : a ≠ b := fun e => by subst e; exact absurd h1 (UInt8.lt_irrefl a)
      simp [h1, this]
    · by_cases h2 : b < a
      · have : a ≠ b := fun e => by subst e; exact h1 h2
        simp [h1, h2, this]
      · have : a = b := UInt8.le_antisymm (UInt8.not_lt.1 h2) (UInt8.not_lt.1 h1)
        simp [h1, h2, this, ih]
def nameLt (g x : S25) : Bool := Op.bytesLess x.f0.toList g.f0.toList
def cnt (g : S25) : List S25 → Nat
  | [] => 0
  | x :: l => if nameLt g x = true then cnt g l + 1 else 0
def hit (g : S25) : List S25 → Bool
  | [] => false
  | x :: l => if nameLt g x = true then hit g l else decide (x.f0.toList = g.f0.toList)
theorem cnt_le (g : S25) : ∀ l, cnt g l ≤ l.length
  | [] => Nat.le_refl _
  | x :: l => by
    have := cnt_le g l
    unfold cnt
    split <;> simp <;> omega
theorem cnt_lo (g : S25) : ∀ (l : List S25) (m : Nat) (h : m < l.length), m < cnt g l → nameLt g l[m] = true
  | [], m, h, _ => absurd h (by simp)
  | x :: l, m, h, hm => by
    unfold cnt at hm
    split at hm
    · rename_i hx
      cases m with
      | zero => exact hx
      | succ m => exact cnt_lo g l m (by simpa using h) (by omega)
    · omega
theorem gs_lt : ∀ (l : List S25) (x : S25), gsFrom (some x) l = true → ∀ y ∈ l, Op.bytesLess x.f0.toList y.f0.toList = true
  | [], _, _, y, hy => absurd hy (by simp)
  | z :: l, x, h, y, hy => by
    unfold gsFrom at h
    simp only [Bool.and_eq_true] at h
    rcases List.mem_cons.1 hy with rfl | hy
    · exact h.2.1
    · exact less_trans _ _ _ h.2.1 (gs_lt l z h.2.2 y hy)
theorem gs_tail {p : Option S25} {x : S25} {l : List S25} (h : gsFrom p (x :: l) = true) : gsFrom (some x) l = true := by
  unfold gsFrom at h
  simp only [Bool.and_eq_true] at h
  exact h.2.2
theorem cnt_hi (g : S25) : ∀ (l : List S25) (p : Option S25), gsFrom p l = true → ∀ (m : Nat) (h : m < l.length), cnt g l ≤ m → nameLt g l[m] = false
  | [], _, _, m, h, _ => absurd h (by simp)
  | x :: l, p, hs, m, h, hm => by
    unfold cnt at hm
    split at hm
    · cases m with
      | zero => omega
      | succ m => exact cnt_hi g l (some x) (gs_tail hs) m (by simpa using h) (by omega)
    · rename_i hx
      cases m with
      | zero => simpa using hx
      | succ m =>
        have h1 := gs_lt l x (gs_tail hs) (l[m]'(by simpa using h)) (List.getElem_mem _)
        show Op.bytesLess (l[m]'(by simpa using h)).f0.toList g.f0.toList = false
        cases hb : Op.bytesLess (l[m]'(by simpa using h)).f0.toList g.f0.toList with
        | false => rfl
        | true => exact absurd (less_trans _ _ _ h1 hb) hx
theorem hit_at (g : S25) : ∀ (l : List S25) (h : cnt g l < l.length), hit g l = decide ((l[cnt g l]'h).f0.toList = g.f0.toList)
  | [], h => absurd h (by simp)
  | x :: l, h => by
    by_cases hx : nameLt g x = true
    · have e : cnt g (x :: l) = cnt g l + 1 := by rw [cnt, if_pos hx]
      have h' : cnt g l < l.length := by rw [e] at h; simpa using h
      rw [hit, if_pos hx, hit_at g l h']
      simp only [e, List.getElem_cons_succ]
    · have e : cnt g (x :: l) = 0 := by rw [cnt, if_neg hx]
      rw [hit, if_neg hx]
      simp only [e, List.getElem_cons_zero]
theorem hit_end (g : S25) : ∀ (l : List S25), cnt g l = l.length → hit g l = false
  | [], _ => rfl
  | x :: l, h => by
    unfold cnt at h
    split at h
    · rename_i hx
      rw [hit, if_pos hx]
      exact hit_end g l (by simpa using h)
    · simp at h
theorem put1_some (a : ByteArray) (b : Int) (c : ByteArray) (d : Int) : impl_members_put_1.f a b c d = some (Lib.compareBytes a.toList c.toList) := by
  unfold impl_members_put_1.f strings_Compare.f
  rw [toList_data, toList_data]
  rfl
theorem bs_loop (l : List S25) (g : S25) (hl : l.length ≤ 1048576) (hs : gsFrom none l = true) : ∀ d i j, j - i = d → i ≤ cnt g l → cnt g l ≤ j → j ≤ l.length →
    Ev (fun k => impl_Group_46.l0 k l (l.length : Int) (i : Int) (j : Int) g.f0 g.f1) ((cnt g l : Nat), hit g l) := by
  intro d
  induction d using Nat.strongRecOn with
  | ind d ih =>
    intro i j hd hi hj hjl
    refine Ev.step (fun k => by rw [impl_Group_46.l0]) ?_
    rcases Nat.lt_or_ge i j with hij | hij
    · have hh : wrap64 ((IntKind.u64.wrap (wrap64 ((i : Int) + (j : Int)))) / 2) = (((i + j) / 2 : Nat) : Int) := by
        rw [w64 (a := (i : Int) + (j : Int)) (by omega) (by omega)]
        have e : IntKind.u64.wrap ((i : Int) + (j : Int)) = (i : Int) + (j : Int) := by
          simp only [IntKind.wrap, IntKind.bits, IntKind.signed]
          first | omega | (simp; omega)
        rw [e, w64 (by omega) (by omega)]
        omega
      obtain ⟨h, hhe⟩ : ∃ h, h = (i + j) / 2 := ⟨_, rfl⟩
      rw [← hhe] at hh
      have hlt : h < l.length := by omega
      simp only [if_pos (show (i : Int) < (j : Int) by omega), hh, if_pos (show (0 : Int) ≤ (h : Int) by omega), if_pos (show (h : Int) < (l.length : Int) by omega), rd_nat l h hlt, put1_some, Option.bind_some, w64 (a := (h : Int) + 1) (by omega) (by omega)]
      by_cases hc : Lib.compareBytes l[h].f0.toList g.f0.toList < 0
      · simp only [if_pos hc]
        have hn : nameLt g l[h] = true := (cmp_lt _ _).1 hc
        have hcl : h < cnt g l := by
          rcases Nat.lt_or_ge h (cnt g l) with h9 | h9
          · exact h9
          · rw [cnt_hi g l none hs h hlt h9] at hn
            exact absurd hn (by simp)
        exact ih (j - (h + 1)) (by omega) (h + 1) j rfl (by omega) hj hjl
      · simp only [if_neg hc]
        have hcl : cnt g l ≤ h := by
          rcases Nat.lt_or_ge h (cnt g l) with h9 | h9
          · exact absurd ((cmp_lt _ _).2 (cnt_lo g l h hlt h9)) hc
          · exact h9
        exact ih (h - i) (by omega) i h rfl hi hcl (by omega)
    · obtain rfl : i = cnt g l := by omega
      simp only [if_neg (show ¬ ((cnt g l : Nat) : Int) < (j : Int) by omega)]
      rcases Nat.lt_or_ge (cnt g l) l.length with hlt | hge
      · simp only [if_pos (show ((cnt g l : Nat) : Int) < (l.length : Int) by omega), if_pos (show (0 : Int) ≤ ((cnt g l : Nat) : Int) by omega), rd_nat l _ hlt, put1_some, Option.bind_some]
        have e : (Lib.compareBytes (l[cnt g l]'hlt).f0.toList g.f0.toList == 0) = hit g l := by
          rw [hit_at g l hlt, Bool.eq_iff_iff, beq_iff_eq, decide_eq_true_eq]
          exact cmp_eq _ _
        rw [e]
        exact Ev.now _
      · simp only [if_neg (show ¬ ((cnt g l : Nat) : Int) < (l.length : Int) by omega)]
        rw [hit_end g l (by have := cnt_le g l; omega)]
        exact Ev.now _
theorem bsG_ev (l : List S25) (g : S25) (hl : l.length ≤ 1048576) (hs : gsFrom none l = true) : Ev (fun k => bsG k l g) ((cnt g l : Nat), hit g l) := by
  unfold bsG impl_Group_46.f
  exact bs_loop l g hl hs l.length 0 l.length (by omega) (by omega) (cnt_le g l) (Nat.le_refl _)
theorem putL_eq (g : S25) : ∀ (l : List S25) (p : Option S25), gsFrom p l = true → putL l g ((cnt g l : Nat) : Int) (hit g l) = putG g l
  | [], _, _ => by simp [putL, hit, cnt, insL, putG]
  | x :: l, p, hs => by
    have ih := putL_eq g l (some x) (gs_tail hs)
    have hlt := gs_lt l x (gs_tail hs)
    by_cases hx : nameLt g x = true
    · rw [cnt, if_pos hx, hit, if_pos hx, putG, if_pos (show Op.bytesLess x.f0.toList g.f0.toList = true from hx), ← ih]
      unfold putL
      cases hit g l
      · simp [insL]
      · simp
    · rw [cnt, if_neg hx, hit, if_neg hx, putG, if_neg (show ¬ Op.bytesLess x.f0.toList g.f0.toList = true from hx)]
      have hne : ∀ y ∈ l, ¬ y.f0.toList = g.f0.toList := by
        intro y hy e
        have := hlt y hy
        rw [e] at this
        exact hx this
      have hf : l.filter (fun y => decide (y.f0.toList ≠ g.f0.toList)) = l := List.filter_eq_self.2 (fun y hy => by simpa using hne y hy)
      rw [List.filter_cons, hf]
      by_cases he : x.f0.toList = g.f0.toList
      · simp [he, putL]
      · simp [he, putL, insL]
theorem putR_fin (l : List S25) : putR l = fin8 l := by
  unfold putR fin8
  rfl
theorem gPutI_ev (l : List S25) (g : S25) (hl : l.length ≤ 1048576) (hs : ∀ x ∈ l, x.f0.size ≤ 9223372036854775807) (hg : g.f0.size ≤ 9223372036854775807) :
    Ev (fun k => impl_GroupsPut.f k l g.f0 g.f1) (gPut l g) := by
  unfold impl_GroupsPut.f gPut
  refine Ev.bind (valid_ev l (by omega) hs) ?_
  cases hv : gsOk l
  · simp only [Bool.false_eq_true, if_false, Bool.false_and]
    exact Ev.now _
  · simp only [if_true, Bool.true_and]
    refine Ev.bind (groupValid_ev g hg) ?_
    cases gOk g
    · simp only [Bool.false_eq_true, if_false]
      exact Ev.now _
    · simp only [if_true]
      have hs' : gsFrom none l = true := by unfold gsOk at hv; simp only [Bool.and_eq_true] at hv; exact hv.1
      refine Ev.bind (bsG_ev l g hl hs') ?_
      have hle := cnt_le g l
      have hh : (!hit g l || decide (((cnt g l : Nat) : Int) < (l.length : Int))) = true := by
        rcases Nat.lt_or_ge (cnt g l) l.length with h | h
        · simp [h]
        · rw [hit_end g l (by omega)]
          rfl
      unfold putAt
      rw [if_pos (by simp only [Bool.and_eq_true, decide_eq_true_eq]; exact ⟨⟨by omega, by omega⟩, hh⟩), putL_eq g l none hs', putR_fin]
      exact Ev.now _
end Go.Proofs.Ytkihdohphddjaaa.Pu

namespace Go.Proofs.Ytkihdohphddjaaa.Pu
open Go.RowKit Go.Proofs.YtkihdohphddjaaaW.PrintWords Go.Proofs.YtkihdohphddjaaaW.PrintLast Go.Proofs.Ytkihdohphddjaaa.G
set_option linter.unusedVariables false
set_option linter.unusedSimpArgs false
theorem xor_i64 (a b : Int) (h0 : 0 ≤ a) (h1 : a < 4611686018427387904) (k0 : 0 ≤ b) (k1 : b < 4611686018427387904) : 0 ≤ bits .xor .i64 a b := by
  obtain ⟨a, rfl⟩ := Int.eq_ofNat_of_zero_le h0
  obtain ⟨b, rfl⟩ := Int.eq_ofNat_of_zero_le k0
  have ha : a < 2 ^ 62 := by omega
  have hb : b < 2 ^ 62 := by omega
  have hx := Nat.xor_lt_two_pow ha hb
  have ha' : a % 2 ^ 64 = a := Nat.mod_eq_of_lt (by omega)
  have hb' : b % 2 ^ 64 = b := Nat.mod_eq_of_lt (by omega)
  show 0 ≤ IntKind.i64.wrap ((BitVec.ofInt 64 (a : Int) ^^^ BitVec.ofInt 64 (b : Int)).toNat : Int)
  rw [BitVec.ofInt_natCast, BitVec.ofInt_natCast, BitVec.toNat_xor, BitVec.toNat_ofNat, BitVec.toNat_ofNat, ha', hb', IntKind.wrap_i64]
  omega
theorem rd_range {b : List Int} (hb : ∀ x ∈ b, 0 ≤ x ∧ x ≤ 255) (i : Int) : 0 ≤ rd b i ∧ rd b i ≤ 255 := by
  unfold rd
  rw [List.getD_eq_getElem?_getD]
  rcases h : b[i.toNat]? with _ | x
  · simp
  · exact hb x (List.mem_of_getElem? h)
theorem mod_range {x n : Int} (h0 : 0 ≤ x) (h1 : 1 ≤ n) : 0 ≤ Int.tmod x n ∧ Int.tmod x n < n := by
  rw [Int.tmod_eq_emod_of_nonneg h0]
  exact ⟨Int.emod_nonneg _ (by omega), Int.emod_lt_of_pos _ (by omega)⟩
/-- A code that is read: bytes, and a place that is no great number. -/
def CodeOk (b : List Int) : Prop := b.length ≤ 2000 ∧ ∀ x ∈ b, 0 ≤ x ∧ x ≤ 255
theorem pick_ends {b : List Int} (hb : CodeOk b) (p n : Int) (h0 : 0 ≤ p) (h1 : p ≤ 1000000000) (hn : n ≤ 4611686018427387904) :
    EndsIn (fun k => spec_l6Rd_pick.f k b p n) (fun r => r.2 = p + 1 ∧ 0 ≤ r.1 ∧ (1 ≤ n → r.1 < n) ∧ (n < 1 → r.1 = 0)) := by
  obtain ⟨hl, hr⟩ := hb
  unfold spec_l6Rd_pick.f
  rw [w64 (a := p + 1) (by omega) (by omega)]
  by_cases hn1 : n < 1
  · simp only [if_pos hn1]
    refine EndsIn.step (fun k => by rw [spec_l6Rd_pick.j0]) ?_
    simp only [if_true]
    exact EndsIn.now _ ⟨rfl, by omega, by omega, fun _ => rfl⟩
  · simp only [if_neg hn1]
    refine EndsIn.step (fun k => by rw [spec_l6Rd_pick.j0]) ?_
    rw [show p + 1 - 1 = p by omega, w64 (a := p) (by omega) (by omega)]
    by_cases hz : (b.length : Int) = 0
    · have : ((b.length : Int) == 0) = true := by simpa using hz
      simp only [this, if_true]
      exact EndsIn.now _ ⟨rfl, by omega, by omega, fun h => by omega⟩
    · have hz' : ((b.length : Int) == 0) = false := by simpa using hz
      simp only [hz', Bool.false_eq_true, if_false]
      by_cases hp : p < (b.length : Int)
      · have hx := rd_range hr p
        simp only [if_pos hp, if_pos h0, if_neg (show ¬ n = 0 by omega)]
        rw [w64 (a := rd b p) (by omega) (by omega)]
        have hm := mod_range (x := rd b p) (n := n) hx.1 (by omega)
        exact EndsIn.now _ ⟨rfl, hm.1, fun _ => hm.2, fun h => by omega⟩
      · have hm1 := mod_range (x := p) (n := (b.length : Int)) h0 (by omega)
        have h7 : wrap64 (wrap64 (p * 7) + 3) = p * 7 + 3 := by
          rw [w64 (a := p * 7) (by omega) (by omega), w64 (by omega) (by omega)]
        have hm2 := mod_range (x := p * 7 + 3) (n := (b.length : Int)) (by omega) (by omega)
        simp only [if_neg hp, if_neg hz, h7, if_pos hm1.1, if_pos hm1.2, if_pos hm2.1, if_pos hm2.2, if_neg (show ¬ n = 0 by omega)]
        have hx1 := rd_range hr (Int.tmod p b.length)
        have hx2 := rd_range hr (Int.tmod (p * 7 + 3) b.length)
        generalize rd b (Int.tmod p b.length) = x1 at hx1 ⊢
        generalize rd b (Int.tmod (p * 7 + 3) b.length) = x2 at hx2 ⊢
        have hd : 0 ≤ Int.tdiv p (b.length : Int) ∧ Int.tdiv p (b.length : Int) ≤ p := by
          rw [Int.tdiv_eq_ediv_of_nonneg h0]
          exact ⟨Int.ediv_nonneg h0 (by omega), Int.ediv_le_self _ h0⟩
        generalize Int.tdiv p (b.length : Int) = q at hd ⊢
        have e1 : wrap64 x1 = x1 := w64 (by omega) (by omega)
        have e2 : wrap64 x2 = x2 := w64 (by omega) (by omega)
        have e3 : wrap64 (x1 * 131) = x1 * 131 := w64 (by omega) (by omega)
        have e4 : wrap64 (x2 * 1117) = x2 * 1117 := w64 (by omega) (by omega)
        have e5 : wrap64 (x1 * 131 + x2 * 1117) = x1 * 131 + x2 * 1117 := w64 (by omega) (by omega)
        have e6 : wrap64 (p * 29) = p * 29 := w64 (by omega) (by omega)
        have e7 : wrap64 (x1 * 131 + x2 * 1117 + p * 29) = x1 * 131 + x2 * 1117 + p * 29 := w64 (by omega) (by omega)
        have e8 : wrap64 q = q := w64 (by omega) (by omega)
        have e9 : wrap64 (q * 53) = q * 53 := w64 (by omega) (by omega)
        have e10 : wrap64 (x1 * 131 + x2 * 1117 + p * 29 + q * 53) = x1 * 131 + x2 * 1117 + p * 29 + q * 53 := w64 (by omega) (by omega)
        simp only [e1, e2, e3, e4, e5, e6, e7, e8, e9, e10]
        have hX : 0 ≤ x1 * 131 + x2 * 1117 + p * 29 + q * 53 ∧ x1 * 131 + x2 * 1117 + p * 29 + q * 53 < 4611686018427387904 := ⟨by omega, by omega⟩
        generalize x1 * 131 + x2 * 1117 + p * 29 + q * 53 = X at hX ⊢
        have e11 : wrap64 (Int.tdiv X 64) = X / 64 := by
          rw [Int.tdiv_eq_ediv_of_nonneg hX.1]
          exact w64 (by omega) (by omega)
        rw [e11]
        have hxx := xor_i64 X (X / 64) hX.1 hX.2 (by omega) (by omega)
        have hm := mod_range (n := n) hxx (by omega)
        exact EndsIn.now _ ⟨rfl, hm.1, fun _ => hm.2, fun h => by omega⟩
end Go.Proofs.Ytkihdohphddjaaa.Pu

namespace Go.Proofs.Ytkihdohphddjaaa.Pu
open Go.RowKit Go.Proofs.YtkihdohphddjaaaW.PrintWords Go.Proofs.YtkihdohphddjaaaW.PrintLast Go.Proofs.Ytkihdohphddjaaa.G
set_option linter.unusedVariables false
set_option linter.unusedSimpArgs false
theorem open_some (l0 : List Int) (hr : ∀ x ∈ l0, 0 ≤ x ∧ x ≤ 255) : ∃ b, spec_l6Open.f l0 = some (b, 0) ∧ CodeOk b := by
  unfold spec_l6Open.f
  by_cases h : (l0.length : Int) > 2000
  · rw [if_pos h, if_pos (by omega)]
    exact ⟨_, rfl, by rw [List.length_take]; omega, fun x hx => hr x (List.mem_of_mem_take hx)⟩
  · rw [if_neg h]
    exact ⟨_, rfl, by omega, hr⟩
end Go.Proofs.Ytkihdohphddjaaa.Pu

namespace Go.Proofs.Ytkihdohphddjaaa.Pu
open Go.RowKit Go.Proofs.YtkihdohphddjaaaW.PrintWords Go.Proofs.YtkihdohphddjaaaW.PrintLast Go.Proofs.Ytkihdohphddjaaa.G
set_option linter.unusedVariables false
set_option linter.unusedSimpArgs false
theorem of_ends {b : List Int} (hb : CodeOk b) (p : Int) (l : List ByteArray) (h0 : 0 ≤ p) (h1 : p ≤ 1000000000) (hl : 1 ≤ l.length) (hl2 : l.length ≤ 1000000) :
    EndsIn (fun k => spec_l6Rd_of.f k b p l) (fun r => r.2 = p + 1 ∧ r.1 ∈ l) := by
  unfold spec_l6Rd_of.f
  refine EndsIn.bind (pick_ends hb p (l.length : Int) h0 h1 (by omega)) fun r hr => ?_
  obtain ⟨h2, h3, h4, _⟩ := hr
  have h5 := h4 (by omega)
  simp only [if_pos h3, if_pos h5]
  refine EndsIn.now _ ⟨h2, ?_⟩
  unfold rdOf
  rw [List.getD_eq_getElem?_getD, List.getElem?_eq_getElem (by omega)]
  exact List.getElem_mem _
/-- What is drawn: at most so many groups, each with a short name and a small number. -/
def DrG (l : List S25) : Prop := l.length ≤ 8 ∧ ∀ g ∈ l, g.f0.size ≤ 7 ∧ 0 ≤ g.f1 ∧ g.f1 ≤ 100
theorem DrG.size {l : List S25} (h : DrG l) : ∀ g ∈ l, g.f0.size ≤ 9223372036854775807 := fun g hg => by have := (h.2 g hg).1; omega
theorem drawG_j {b : List Int} (hb : CodeOk b) (l : List S25) (hl : DrG l) (hl0 : 1 ≤ l.length) (c : Bool) (hc : c = true → 1 ≤ l.length) (p : Int) (h0 : 0 ≤ p) (h1 : p ≤ 900000000) :
    EndsIn (fun k => spec_l92Groups.j1 k l c b p) (fun r => DrG r.1 ∧ p ≤ r.2 ∧ r.2 ≤ p + 10) := by
  refine EndsIn.step (fun k => by rw [spec_l92Groups.j1]) ?_
  cases c
  · simp only [Bool.false_eq_true, if_false]
    exact EndsIn.now _ ⟨hl, by omega, by omega⟩
  · simp only [if_true]
    have hl8 := hl.1
    refine EndsIn.bind (pick_ends hb p (l.length : Int) h0 (by omega) (by omega)) fun r hr => ?_
    obtain ⟨e2, h3, h4, _⟩ := hr
    have h5 := h4 (by omega)
    rw [e2]
    refine EndsIn.bind (of_ends hb (p + 1) _ (by omega) (by omega) (by decide) (by decide)) fun q hq => ?_
    obtain ⟨q2, q1⟩ := hq
    simp only [if_pos h3, if_pos h5]
    refine EndsIn.now _ ⟨⟨by rw [List.length_set]; exact hl8, fun g hg => ?_⟩, by omega, by omega⟩
    rcases List.mem_or_eq_of_mem_set hg with hg | rfl
    · exact hl.2 g hg
    · have hm : rd_T25 l r.1 ∈ l := by
        unfold rd_T25
        rw [List.getD_eq_getElem?_getD, List.getElem?_eq_getElem (by omega)]
        exact List.getElem_mem _
      refine ⟨?_, (hl.2 _ hm).2⟩
      simp only [List.mem_cons, List.not_mem_nil, or_false] at q1
      rcases q1 with q1 | q1 | q1 <;> (show q.1.size ≤ 7; rw [q1]; decide)
theorem drawG_loop {b : List Int} (hb : CodeOk b) (n : Int) (hn : n ≤ 5) : ∀ d (i : Nat) (l : List S25) (p : Int), 5 - i = d → i ≤ 5 → DrG l → 0 ≤ p → p ≤ 100 * (i : Int) + 100 →
    EndsIn (fun k => spec_l92Groups.l0 k l n (i : Int) b p) (fun r => DrG r.1 ∧ p ≤ r.2 ∧ r.2 ≤ 10000) := by
  intro d
  induction d with
  | zero =>
    intro i l p hi hle hl h0 h1
    obtain rfl : i = 5 := by omega
    refine EndsIn.step (fun k => by rw [spec_l92Groups.l0]) ?_
    simp only [if_neg (show ¬ (((5 : Nat) : Int) < n) by omega)]
    by_cases hz : (l.length : Int) > 0
    · simp only [if_pos hz]
      refine EndsIn.bind (pick_ends hb p 24 h0 (by omega) (by omega)) fun r hr => ?_
      rw [hr.1]
      exact (drawG_j hb l hl (by omega) _ (fun _ => by omega) (p + 1) (by omega) (by omega)).mono fun r hr => ⟨hr.1, by omega, by omega⟩
    · simp only [if_neg hz]
      refine EndsIn.step (fun k => by rw [spec_l92Groups.j1]) ?_
      simp only [Bool.false_eq_true, if_false]
      exact EndsIn.now _ ⟨hl, by omega, by omega⟩
  | succ d ih =>
    intro i l p hi hle hl h0 h1
    refine EndsIn.step (fun k => by rw [spec_l92Groups.l0]) ?_
    by_cases hin : (i : Int) < n
    · simp only [if_pos hin]
      refine EndsIn.bind (of_ends hb p _ h0 (by omega) (by decide) (by decide)) fun r hr => ?_
      obtain ⟨r2, r1⟩ := hr
      rw [r2]
      refine EndsIn.bind (pick_ends hb (p + 1) 20 (by omega) (by omega) (by omega)) fun q hq => ?_
      obtain ⟨q2, q3, q4, _⟩ := hq
      have q5 := q4 (by omega)
      have hsz : r.1.size ≤ 7 := by
        simp only [List.mem_cons, List.not_mem_nil, or_false] at r1
        rcases r1 with r1 | r1 | r1 | r1 | r1 | r1 | r1 | r1 <;> (rw [r1]; decide)
      have hev := gPut_ev l ⟨r.1, q.1⟩ (by have := hl.1; omega) hl.size (by show r.1.size ≤ _; omega)
      have hd : DrG (gPut l ⟨r.1, q.1⟩).1 := ⟨gPut_len _ _, fun g hg => by
        rcases gPut_mem hg with rfl | hg
        · exact ⟨hsz, q3, by show q.1 ≤ 100; omega⟩
        · exact hl.2 g hg⟩
      refine EndsIn.bind (P := fun x => x = gPut l ⟨r.1, q.1⟩) ⟨_, hev, rfl⟩ fun x hx => ?_
      subst hx
      rw [q2, w64 (a := (i : Int) + 1) (by omega) (by omega)]
      cases (gPut l ⟨r.1, q.1⟩).2
      · simp only [Bool.false_eq_true, if_false]
        exact (ih (i + 1) l (p + 1 + 1) (by omega) (by omega) hl (by omega) (by omega)).mono fun r hr => ⟨hr.1, by omega, hr.2.2⟩
      · simp only [if_true]
        exact (ih (i + 1) _ (p + 1 + 1) (by omega) (by omega) hd (by omega) (by omega)).mono fun r hr => ⟨hr.1, by omega, hr.2.2⟩
    · simp only [if_neg hin]
      by_cases hz : (l.length : Int) > 0
      · simp only [if_pos hz]
        refine EndsIn.bind (pick_ends hb p 24 h0 (by omega) (by omega)) fun r hr => ?_
        rw [hr.1]
        exact (drawG_j hb l hl (by omega) _ (fun _ => by omega) (p + 1) (by omega) (by omega)).mono fun r hr => ⟨hr.1, by omega, by omega⟩
      · simp only [if_neg hz]
        refine EndsIn.step (fun k => by rw [spec_l92Groups.j1]) ?_
        simp only [Bool.false_eq_true, if_false]
        exact EndsIn.now _ ⟨hl, by omega, by omega⟩
theorem drawGroups_ends {b : List Int} (hb : CodeOk b) : EndsIn (fun k => spec_l92Groups.f k b 0) (fun r => DrG r.1 ∧ 0 ≤ r.2 ∧ r.2 ≤ 10000) := by
  unfold spec_l92Groups.f
  refine EndsIn.bind (pick_ends hb 0 6 (by omega) (by omega) (by omega)) fun r hr => ?_
  obtain ⟨r2, r3, r4, _⟩ := hr
  have r5 := r4 (by omega)
  rw [r2]
  have := drawG_loop hb r.1 (by omega) 5 0 [] (0 + 1) (by omega) (by omega) ⟨by simp, by simp⟩ (by omega) (by omega)
  exact this.mono fun q hq => ⟨hq.1, by omega, hq.2.2⟩
end Go.Proofs.Ytkihdohphddjaaa.Pu

namespace Go.Proofs.Ytkihdohphddjaaa.Pu
open Go.RowKit Go.Proofs.YtkihdohphddjaaaW.PrintWords Go.Proofs.YtkihdohphddjaaaW.PrintLast Go.Proofs.Ytkihdohphddjaaa.G
set_option linter.unusedVariables false
set_option linter.unusedSimpArgs false
theorem sameG_loop (l : List S25) (hl : l.length ≤ 1048576) : ∀ d i, l.length - i = d → Ev (fun k => laws_sameGroups.l0 k l l (i : Int)) true := by
  intro d
  induction d with
  | zero =>
    intro i hi
    refine Ev.step (fun k => by rw [laws_sameGroups.l0]) ?_
    simp only [if_neg (show ¬ ((i : Int) < (l.length : Int)) by omega)]
    exact Ev.now _
  | succ d ih =>
    intro i hi
    refine Ev.step (fun k => by rw [laws_sameGroups.l0]) ?_
    simp only [if_pos (show ((i : Int) < (l.length : Int)) by omega), if_pos (show (0 : Int) ≤ (i : Int) by omega), beq_self_eq_true, Bool.not_true, Bool.or_self, Bool.false_eq_true, if_false, w64 (a := (i : Int) + 1) (by omega) (by omega)]
    exact ih (i + 1) (by omega)
theorem sameG_self (l : List S25) (hl : l.length ≤ 1048576) : Ev (fun k => laws_sameGroups.f k l l) true := by
  unfold laws_sameGroups.f
  simp only [if_true]
  exact sameG_loop l hl l.length 0 (by omega)
def below (p : Option S25) (g : S25) : Bool := match p with | none => true | some q => Op.bytesLess q.f0.toList g.f0.toList
theorem gsFrom_cons (p : Option S25) (g : S25) (l : List S25) : gsFrom p (g :: l) = (gOk g && (below p g && gsFrom (some g) l)) := by
  cases p <;> rfl
theorem gsFrom_name {x y : S25} (h : x.f0.toList = y.f0.toList) : ∀ l : List S25, gsFrom (some x) l = gsFrom (some y) l
  | [] => rfl
  | z :: l => by rw [gsFrom_cons, gsFrom_cons, below, below, h]
theorem ne_tail {g x : S25} {l : List S25} (hs : gsFrom (some x) l = true) (hx : ¬ nameLt g x = true) : l.filter (fun y => decide (y.f0.toList ≠ g.f0.toList)) = l :=
  List.filter_eq_self.2 (fun y hy => by
    have := gs_lt l x hs y hy
    simp only [ne_eq, decide_eq_true_eq]
    intro e
    rw [e] at this
    exact hx this)
theorem putG_cons_lt {g x : S25} (l : List S25) (hx : nameLt g x = true) : putG g (x :: l) = x :: putG g l := by
  rw [putG, if_pos (show Op.bytesLess x.f0.toList g.f0.toList = true from hx)]
theorem putG_cons_eq {g x : S25} {l : List S25} (hs : gsFrom (some x) l = true) (hx : ¬ nameLt g x = true) (he : x.f0.toList = g.f0.toList) : putG g (x :: l) = g :: l := by
  rw [putG, if_neg (show ¬ Op.bytesLess x.f0.toList g.f0.toList = true from hx), List.filter_cons, ne_tail hs hx]
  simp [he]
theorem putG_cons_gt {g x : S25} {l : List S25} (hs : gsFrom (some x) l = true) (hx : ¬ nameLt g x = true) (he : ¬ x.f0.toList = g.f0.toList) : putG g (x :: l) = g :: x :: l := by
  rw [putG, if_neg (show ¬ Op.bytesLess x.f0.toList g.f0.toList = true from hx), List.filter_cons, ne_tail hs hx]
  simp [he]
theorem gt_of {g x : S25} (hx : ¬ nameLt g x = true) (he : ¬ x.f0.toList = g.f0.toList) : Op.bytesLess g.f0.toList x.f0.toList = true := by
  rcases less_total x.f0.toList g.f0.toList with h | h | h
  · exact absurd h hx
  · exact absurd h he
  · exact h
/-- .. is valid again. -/
theorem putG_ok (g : S25) (hg : gOk g = true) : ∀ (l : List S25) (p : Option S25), gsFrom p l = true → below p g = true → gsFrom p (putG g l) = true
  | [], p, _, hb => by
    show gsFrom p [g] = true
    rw [gsFrom_cons, hg, hb]
    rfl
  | x :: l, p, hs, hb => by
    have ht := gs_tail hs
    rw [gsFrom_cons] at hs
    simp only [Bool.and_eq_true] at hs
    by_cases hx : nameLt g x = true
    · rw [putG_cons_lt l hx, gsFrom_cons, hs.1, hs.2.1, putG_ok g hg l (some x) ht hx]
      rfl
    · by_cases he : x.f0.toList = g.f0.toList
      · rw [putG_cons_eq ht hx he, gsFrom_cons, hg, hb, ← gsFrom_name he, ht]
        rfl
      · rw [putG_cons_gt ht hx he, gsFrom_cons, hg, hb, gsFrom_cons, hs.1, below, gt_of hx he, ht]
        rfl
theorem gsOk_parts {l : List S25} (h : gsOk l = true) : gsFrom none l = true ∧ l.length ≤ 8 := by
  unfold gsOk at h
  simpa using h
theorem gPut_true {l : List S25} {g : S25} (h : (gPut l g).2 = true) : gsOk l = true ∧ gOk g = true ∧ gPut l g = (putG g l, true) ∧ (putG g l).length ≤ 8 := by
  unfold gPut at h ⊢
  by_cases hc : (gsOk l && gOk g) = true
  · rw [if_pos hc] at h ⊢
    unfold fin8 at h ⊢
    by_cases h8 : (putG g l).length > 8
    · rw [if_pos h8] at h
      simp at h
    · rw [if_neg h8]
      simp only [Bool.and_eq_true] at hc
      exact ⟨hc.1, hc.2, rfl, by omega⟩
  · rw [if_neg hc] at h
    simp at h
theorem gPut_ok {l : List S25} {g : S25} (h : (gPut l g).2 = true) : gsOk (gPut l g).1 = true := by
  obtain ⟨h1, h2, h3, h4⟩ := gPut_true h
  rw [h3]
  unfold gsOk
  rw [putG_ok g h2 l none (gsOk_parts h1).1 rfl]
  simpa using h4
/-- Where the one stands, and what is left without it. -/
theorem putG_at (g : S25) : ∀ (l : List S25) (p : Option S25), gsFrom p l = true → (putG g l)[cnt g l]? = some g ∧ (∀ m, m < cnt g l → ∃ y, (putG g l)[m]? = some y ∧ ¬ y.f0.toList = g.f0.toList) ∧ (putG g l).take (cnt g l) ++ (putG g l).drop (cnt g l + 1) = l.filter (fun y => decide (y.f0.toList ≠ g.f0.toList))
  | [], p, _ => ⟨rfl, fun m hm => by simp [cnt] at hm, rfl⟩
  | x :: l, p, hs => by
    have ht := gs_tail hs
    by_cases hx : nameLt g x = true
    · obtain ⟨i1, i2, i3⟩ := putG_at g l (some x) ht
      have hne : ¬ x.f0.toList = g.f0.toList := fun e => by
        unfold nameLt at hx
        rw [e, less_irrefl] at hx
        exact absurd hx (by simp)
      rw [putG_cons_lt l hx, cnt, if_pos hx]
      refine ⟨by simpa using i1, fun m hm => ?_, ?_⟩
      · cases m with
        | zero => exact ⟨x, rfl, hne⟩
        | succ m => simpa using i2 m (by omega)
      · rw [List.filter_cons, if_pos (by simpa using hne), ← i3]
        rfl
    · have ec : cnt g (x :: l) = 0 := by rw [cnt, if_neg hx]
      rw [ec, List.filter_cons, ne_tail ht hx]
      by_cases he : x.f0.toList = g.f0.toList
      · rw [putG_cons_eq ht hx he]
        refine ⟨rfl, fun m hm => by omega, ?_⟩
        simp [he]
      · rw [putG_cons_gt ht hx he]
        refine ⟨rfl, fun m hm => by omega, ?_⟩
        simp [he]
theorem gPut_size {l : List S25} {g : S25} (hs : ∀ x ∈ l, x.f0.size ≤ 9223372036854775807) (hg : g.f0.size ≤ 9223372036854775807) : ∀ x ∈ (gPut l g).1, x.f0.size ≤ 9223372036854775807 := fun x hx => by
  rcases gPut_mem hx with rfl | h
  · exact hg
  · exact hs x h
end Go.Proofs.Ytkihdohphddjaaa.Pu

namespace Go.Proofs.Ytkihdohphddjaaa.Pu
open Go.RowKit Go.Proofs.YtkihdohphddjaaaW.PrintWords Go.Proofs.YtkihdohphddjaaaW.PrintLast Go.Proofs.Ytkihdohphddjaaa.G
set_option linter.unusedVariables false
set_option linter.unusedSimpArgs false
theorem drawGP_ends (l0 : List Int) (hr : ∀ x ∈ l0, 0 ≤ x ∧ x ≤ 255) : EndsIn (fun k => spec_DrawGroupsPut.f k l0) (fun r => DrG r.1 ∧ r.2.1.size ≤ 7) := by
  obtain ⟨c, hc, hok⟩ := open_some l0 hr
  unfold spec_DrawGroupsPut.f
  simp only [hc, bindS]
  refine EndsIn.bind (drawGroups_ends hok) fun r hr => EndsIn.bind (of_ends hok r.2 _ (by omega) (by omega) (by simp) (by simp)) fun q hq => ?_
  refine EndsIn.bind (pick_ends hok q.2 30 (by omega) (by omega) (by omega)) fun s hs => EndsIn.bind (pick_ends hok s.2 24 (by omega) (by omega) (by omega)) fun u hu => EndsIn.now _ ⟨hr.1, ?_⟩
  have hm := hq.2
  simp only [List.mem_cons, List.not_mem_nil, or_false] at hm
  rcases hm with h | h | h | h | h | h | h <;> rw [h] <;> decide
end Go.Proofs.Ytkihdohphddjaaa.Pu

namespace Go.Proofs.Ytkihdohphddjaaa.Pure
open Go.RowKit Go.Proofs.Ytkihdohphddjaaa.G Go.Proofs.YtkihdohphddjaaaW.PrintWords Go.Proofs.YtkihdohphddjaaaW.PrintLast Go.Proofs.Ytkihdohphddjaaa.Pu
set_option linter.unusedSimpArgs false
def others (g : S25) (l : List S25) : List S25 := l.filter (fun y => decide (y.f0.toList ≠ g.f0.toList))
theorem others_len (g : S25) (l : List S25) : (others g l).length ≤ l.length := List.length_filter_le _ _
theorem grp_inner (g : S25) (l out : List S25) (hl : l.length ≤ 8) (ho : gsOk out = true) (hs : ∀ x ∈ out, x.f0.size ≤ 9223372036854775807) (i : Nat) (hi : out[i]? = some g) (rest : List S25) (hr : rest = others g l) :
    ∀ d j, l.length - j = d → j ≤ l.length → Ev (fun k => laws_FnGroups.l1 k l out (i : Int) rest (others g (l.take j)) (j : Int) g.f0 g.f1) true := by
  obtain ⟨hil, hig⟩ := List.getElem?_eq_some_iff.1 hi
  have h8 := (gsOk_parts ho).2
  intro d
  induction d with
  | zero =>
    intro j hd hj
    obtain rfl : j = l.length := by omega
    rw [List.take_length]
    refine Ev.step (fun k => by rw [laws_FnGroups.l1]) ?_
    simp only [if_neg (show ¬ ((l.length : Int) < (l.length : Int)) by omega)]
    refine Ev.bind (valid_ev out (by omega) hs) ?_
    rw [ho]
    simp only [if_true, if_pos (show (0 : Int) ≤ (i : Int) by omega), if_pos (show (i : Int) < (out.length : Int) by omega), rd_nat out i hil, hig, beq_self_eq_true, Bool.and_self]
    rw [hr]
    have := others_len g l
    exact Ev.bind (sameG_self _ (by omega)) (Ev.now _)
  | succ d ih =>
    intro j hd hj
    have hlt : j < l.length := by omega
    refine Ev.step (fun k => by rw [laws_FnGroups.l1]) ?_
    simp only [if_pos (show ((j : Int) < (l.length : Int)) by omega), if_pos (show (0 : Int) ≤ (j : Int) by omega), rd_nat l j hlt, w64 (a := (j : Int) + 1) (by omega) (by omega)]
    have := ih (j + 1) (by omega) (by omega)
    have hacc := others_len g (l.take j)
    rw [List.length_take] at hacc
    have e : others g (l.take (j + 1)) = if l[j].f0.toList = g.f0.toList then others g (l.take j) else others g (l.take j) ++ [l[j]] := by
      unfold others
      rw [List.take_succ_eq_append_getElem hlt, List.filter_append]
      by_cases h : l[j].f0.toList = g.f0.toList <;> simp [h]
    by_cases h : l[j].f0.toList = g.f0.toList
    · rw [e, if_pos h] at this
      simp only [if_pos h]
      exact_mod_cast this
    · rw [e, if_neg h] at this
      simp only [if_neg h, if_pos (show (others g (l.take j)).length < 5864062014805 by omega)]
      exact_mod_cast this
theorem grp_loop (g : S25) (l : List S25) (hl : l.length ≤ 8) (hv : gsFrom none l = true) (ho : gsOk (putG g l) = true) (hs : ∀ x ∈ putG g l, x.f0.size ≤ 9223372036854775807) : ∀ d i, cnt g l - i = d → i ≤ cnt g l →
    Ev (fun k => laws_FnGroups.l0 k l (putG g l) (i : Int) g.f0 g.f1) true := by
  obtain ⟨q1, q2, q3⟩ := putG_at g l none hv
  have h8 := (gsOk_parts ho).2
  obtain ⟨hc, hcg⟩ := List.getElem?_eq_some_iff.1 q1
  intro d
  induction d with
  | zero =>
    intro i hd hi
    obtain rfl : i = cnt g l := by omega
    refine Ev.step (fun k => by rw [laws_FnGroups.l0]) ?_
    simp only [if_pos (show ((cnt g l : Nat) : Int) < ((putG g l).length : Int) by omega), if_pos (show (0 : Int) ≤ ((cnt g l : Nat) : Int) by omega), rd_nat _ _ hc, hcg, if_true, Option.bind_some, if_pos (show ((cnt g l : Nat) : Int) ≤ ((putG g l).length : Int) by omega),
      w64 (a := ((cnt g l : Nat) : Int) + 1) (by omega) (by omega), if_pos (show (0 : Int) ≤ ((cnt g l : Nat) : Int) + 1 by omega), if_pos (show ((cnt g l : Nat) : Int) + 1 ≤ ((putG g l).length : Int) by omega), Int.toNat_natCast, show (((cnt g l : Nat) : Int) + 1).toNat = cnt g l + 1 by omega, List.nil_append, List.length_nil]
    have a1 : ((putG g l).take (cnt g l)).length ≤ 8 := by rw [List.length_take]; omega
    have a2 : ((putG g l).drop (cnt g l + 1)).length ≤ 8 := by rw [List.length_drop]; omega
    simp only [if_pos (show 0 + ((putG g l).take (cnt g l)).length < 5864062014805 by omega), if_pos (show ((putG g l).take (cnt g l)).length + ((putG g l).drop (cnt g l + 1)).length < 5864062014805 by omega)]
    have := grp_inner g l (putG g l) hl ho hs (cnt g l) q1 _ q3 l.length 0 (by omega) (by omega)
    exact this
  | succ d ih =>
    intro i hd hi
    obtain ⟨y, hy, hne⟩ := q2 i (by omega)
    obtain ⟨hil, hiy⟩ := List.getElem?_eq_some_iff.1 hy
    refine Ev.step (fun k => by rw [laws_FnGroups.l0]) ?_
    simp only [if_pos (show (i : Int) < ((putG g l).length : Int) by omega), if_pos (show (0 : Int) ≤ (i : Int) by omega), rd_nat _ _ hil, hiy, if_neg hne, w64 (a := (i : Int) + 1) (by omega) (by omega)]
    have := ih (i + 1) (by omega) (by omega)
    exact_mod_cast this
theorem FnGroups : OFnGroups.Pure := by
  intro l0 hl0 ho0
  refine EndsIn.rounds ?_
  unfold laws_FnGroups.f
  have hr := fun x hx => u8_range (ho0 x hx)
  by_cases h : (l0.length : Int) > 1048576
  · simp only [if_pos h]
    exact EndsIn.now _ rfl
  · simp only [if_neg h]
    refine EndsIn.bind (drawGP_ends l0 hr) fun r hr => ?_
    obtain ⟨l, s, n⟩ := r
    obtain ⟨hl, hs⟩ := hr
    simp only at hl hs ⊢
    have h8 := hl.1
    have e1 := gPutI_ev l ⟨s, n⟩ (by omega) hl.size (show s.size ≤ _ by omega)
    have e2 := gPut_ev l ⟨s, n⟩ (by omega) hl.size (show s.size ≤ _ by omega)
    have hlen := gPut_len l ⟨s, n⟩
    refine ⟨true, Ev.bind e1 (Ev.bind e2 ?_), rfl⟩
    simp only [bne_self_eq_false, Bool.false_eq_true, if_false]
    refine Ev.bind (sameG_self _ (by omega)) ?_
    simp only [if_true]
    refine Ev.step (fun k => by rw [laws_FnGroups.j0]) ?_
    cases hb : (gPut l ⟨s, n⟩).2
    · simp only [Bool.not_false, if_true, beq_self_eq_true]
      exact Ev.bind (sameG_self _ (by omega)) (Ev.now _)
    · simp only [Bool.not_true, Bool.false_eq_true, if_false]
      have ok := gPut_ok hb
      have sz := gPut_size (l := l) (g := ⟨s, n⟩) hl.size (show s.size ≤ _ by omega)
      obtain ⟨h1, h2, h3, h4⟩ := gPut_true hb
      rw [h3] at ok sz ⊢
      have := grp_loop ⟨s, n⟩ l h8 (gsOk_parts h1).1 ok sz (cnt ⟨s, n⟩ l) 0 (by omega) (by omega)
      exact this
end Go.Proofs.Ytkihdohphddjaaa.Pure

