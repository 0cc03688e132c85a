/- A text of seat YtahenocndacjeaaDoor: what the law FnCutJoin needs of this repo's texts (by pack.py). Not trusted: Lean checks it. -/
import Derived.Test.YtahenocndacjeaaDoorKFnCutJoin9
namespace Go.Proofs.YtahenocndacjeaaDoor.G
open Go.RowKit Go.Proofs.YtahenocndacjeaaDoorW.PrintWords Go.Proofs.YtahenocndacjeaaDoorW.PrintLast Go.Proofs.YtahenocndacjeaaDoorW.PrintMore
attribute [local go_sem] max2_int min2_int max_two min_two max_three min_three max_four min_four   -- for this text's walks alone
set_option linter.unusedVariables false
set_option linter.unusedSimpArgs false

def impl_Batch_join.j0 : Nat → Bool → Bool → Bool → Int → Int → Int → List (S41) → Bool → Bool → Int → Int → Int → List (S41) → Option (Bool × Bool × Int × Int × Int × (List (S41)) × Option Int)
 | 0, _, _, _, _, _, _, _, _, _, _, _, _, _ => none
 | k + 1, x31, x492000, x492001, x492002, x492003, x492004, x492005, x493000, x493001, x493002, x493003, x493004, x493005 => if x31 = true then (some (false, false, 0, 0, 0, ([] : List (S41)), some 2)) else ((impl_Batch_copyOf.f k x492000 x492001 x492002 x492003 x492004 x492005).bind fun bt496 => ((impl_copyRecords.f k x493005).bind fun t505 => (if bt496.2.2.2.2.2.length + t505.length < 1759218604441 then ((some (bt496.2.2.2.2.2 ++ t505 : List (S41))).bind fun y508 => ((impl_BatchValid.f k bt496.1 bt496.2.1 bt496.2.2.1 bt496.2.2.2.1 bt496.2.2.2.2.1 y508).bind fun t511 => (if t511 = true then (some (bt496.1, bt496.2.1, bt496.2.2.1, bt496.2.2.2.1, bt496.2.2.2.2.1, y508, none)) else (some (false, false, 0, 0, 0, ([] : List (S41)), some 2))))) else (none))))
def impl_Batch_join.f (k : Nat) (a0_0 : Bool) (a0_1 : Bool) (a0_2 : Int) (a0_3 : Int) (a0_4 : Int) (l0_5 : List (S41)) (a1_0 : Bool) (a1_1 : Bool) (a1_2 : Int) (a1_3 : Int) (a1_4 : Int) (l1_5 : List (S41)) : Option (Bool × Bool × Int × Int × Int × (List (S41)) × Option Int) := (impl_BatchValid.f k a0_0 a0_1 a0_2 a0_3 a0_4 l0_5).bind fun t494 => (if t494 = true then ((impl_BatchValid.f k a1_0 a1_1 a1_2 a1_3 a1_4 l1_5).bind fun t495 => (if t495 = true then (if a0_2 = 255 then (if a1_2 = 255 then (impl_Batch_join.j0 k (a0_0 != a1_0) a0_0 a0_1 a0_2 a0_3 a0_4 l0_5 a1_0 a1_1 a1_2 a1_3 a1_4 l1_5) else (impl_Batch_join.j0 k true a0_0 a0_1 a0_2 a0_3 a0_4 l0_5 a1_0 a1_1 a1_2 a1_3 a1_4 l1_5)) else (impl_Batch_join.j0 k true a0_0 a0_1 a0_2 a0_3 a0_4 l0_5 a1_0 a1_1 a1_2 a1_3 a1_4 l1_5)) else (impl_Batch_join.j0 k true a0_0 a0_1 a0_2 a0_3 a0_4 l0_5 a1_0 a1_1 a1_2 a1_3 a1_4 l1_5))) else (impl_Batch_join.j0 k true a0_0 a0_1 a0_2 a0_3 a0_4 l0_5 a1_0 a1_1 a1_2 a1_3 a1_4 l1_5))
def impl_Batch_join.T4 : Bool × List (List Nat × List Nat) := (true, [([], []), ([0], [0]), ([], []), ([2], [2]), ([3], [3]), ([1, 4, 4], [1, 4]), ([0, 1, 2, 3, 4, 5], []), ([6, 5, 5, 0, 1, 2, 3, 4, 5], [5, 6])])
def impl_Batch_join.B4 : List Nat := [0, 1, 0, 4, 12, 31, 63, 127]
theorem impl_Batch_join.tab4 : rtab .any (opsOf Tryd.f36 4) = impl_Batch_join.T4 := by kernel_rfl
theorem impl_Batch_join.bits4 : waitsOk impl_Batch_join.T4.2 impl_Batch_join.B4 = true := by kernel_rfl
set_option maxHeartbeats 40000000 in
set_option maxRecDepth 100000 in
theorem impl_Batch_join.calls [ErrA] (k : Nat) (a0_0 : Bool) (a0_1 : Bool) (a0_2 : Int) (a0_3 : Int) (a0_4 : Int) (A0_5 : Option Addr) (c0_5 : Nat) (l0_5 : List (S41)) (a1_0 : Bool) (a1_1 : Bool) (a1_2 : Int) (a1_3 : Int) (a1_4 : Int) (A1_5 : Option Addr) (c1_5 : Nat) (l1_5 : List (S41)) (r1 : Bool) (r2 : Bool) (r3 : Int) (r4 : Int) (r5 : Int) (r6 : List (S41)) (r7 : Option Int) (w : World) (hE : ErrOk [1] w) (hr0_5 : Kd.C k41 w A0_5 l0_5.length l0_5) (hc0_5 : l0_5.length ≤ c0_5) (hr1_5 : Kd.C k41 w A1_5 l1_5.length l1_5) (hc1_5 : l1_5.length ≤ c1_5) (h : impl_Batch_join.f k a0_0 a0_1 a0_2 a0_3 a0_4 l0_5 a1_0 a1_1 a1_2 a1_3 a1_4 l1_5 = some (r1, r2, r3, r4, r5, r6, r7)) :
  Calls Tryd.prog 36 #[.agg #[.bool a0_0, .bool a0_1, .int .i64 a0_2, .int .i64 a0_3, .int .i64 a0_4, .slice A0_5 l0_5.length c0_5], .agg #[.bool a1_0, .bool a1_1, .int .i64 a1_2, .int .i64 a1_3, .int .i64 a1_4, .slice A1_5 l1_5.length c1_5]] w fun e w' => ∃ v5_ : Value, e = .returned (.tuple #[.agg #[.bool r1, .bool r2, .int .i64 r3, .int .i64 r4, .int .i64 r5, v5_], errW r7]) ∧ Kd.N k41 41 w' w.heap.size (fun k_ => (w.heap.size ≤ k_)) v5_ r6 ∧ Below w.heap.size w w' := by
 have HE := Aside0.mk hE
 clear hE
 have hu25 := Tryd.underlying25
 have HR0_5 := Aside0.mk hr0_5
 have HC0_5 := Aside0.mk hc0_5
 clear hr0_5 hc0_5
 have HR1_5 := Aside0.mk hr1_5
 have HC1_5 := Aside0.mk hc1_5
 clear hr1_5 hc1_5
 have HB := Aside0.mk (Below.refl w.heap.size w)
 have H : ((impl_BatchValid.f k a0_0 a0_1 a0_2 a0_3 a0_4 l0_5).bind fun t494 => (if t494 = true then ((impl_BatchValid.f k a1_0 a1_1 a1_2 a1_3 a1_4 l1_5).bind fun t495 => (if t495 = true then (if a0_2 = 255 then (if a1_2 = 255 then (impl_Batch_join.j0 k (a0_0 != a1_0) a0_0 a0_1 a0_2 a0_3 a0_4 l0_5 a1_0 a1_1 a1_2 a1_3 a1_4 l1_5) else (impl_Batch_join.j0 k true a0_0 a0_1 a0_2 a0_3 a0_4 l0_5 a1_0 a1_1 a1_2 a1_3 a1_4 l1_5)) else (impl_Batch_join.j0 k true a0_0 a0_1 a0_2 a0_3 a0_4 l0_5 a1_0 a1_1 a1_2 a1_3 a1_4 l1_5)) else (impl_Batch_join.j0 k true a0_0 a0_1 a0_2 a0_3 a0_4 l0_5 a1_0 a1_1 a1_2 a1_3 a1_4 l1_5))) else (impl_Batch_join.j0 k true a0_0 a0_1 a0_2 a0_3 a0_4 l0_5 a1_0 a1_1 a1_2 a1_3 a1_4 l1_5))) = some (r1, r2, r3, r4, r5, r6, r7) := h
 clear h
 have HC3 := Aside0.mk H
 clear H
 go_enter Tryd.func36, Tryd.ntmps36
 go_upto_region 1 with (first | ((with_reducible refine gate_dst (N := 2) rfl ?_); refine box_event ?hg (N := 2) ?hd (cs := #[.bool a0_0, .bool a0_1, .int .i64 a0_2, .int .i64 a0_3, .int .i64 a0_4, .slice A0_5 l0_5.length c0_5]) (t := 25) ?hr ?_; (case hd => rfl); (case hg => rfl); (case hr => first | (go_simp; done) | (go_simp; rfl)); intro gb491 hg w4 hbox hb; have BK491 := Aside0.mk (hbox); have GW491 := tge HB hg; have GE491 := tge HB hg; replace HB := tBs HB hb; clear hb hbox hg) | ((with_reducible refine gate_dst (N := 3) rfl ?_); refine box_event ?hg (N := 3) ?hd (cs := #[.bool a1_0, .bool a1_1, .int .i64 a1_2, .int .i64 a1_3, .int .i64 a1_4, .slice A1_5 l1_5.length c1_5]) (t := 25) ?hr ?_; (case hd => rfl); (case hg => rfl); (case hr => first | (go_simp; done) | (go_simp; rfl)); intro gb492 hg w5 hbox hb; have BK492 := Aside0.mk (hbox); have GW492 := tge HB hg; have GE492 := tge HB hg; replace HB := tBs HB hb; have NB491_492 := tlt BK491 hg; have NB492_491 := tgt BK491 hg; replace BK491 := tBb BK491 hb; clear hb hbox hg) | ((with_reducible refine gate_dst (N := 4) rfl ?_); refine box_event ?hg (N := 4) ?hd (cs := #[.bool false, .bool false, .int .i64 0, .int .i64 0, .int .i64 0, .slice none 0 0]) (t := 25) ?hr ?_; (case hd => rfl); (case hg => rfl); (case hr => first | (go_simp; done) | (go_simp; rfl)); intro gb493 hg w6 hbox hb; have BK493 := Aside0.mk (hbox); have GW493 := tge HB hg; have GE493 := tge HB hg; replace HB := tBs HB hb; have NB491_493 := tlt BK491 hg; have NB493_491 := tgt BK491 hg; replace BK491 := tBb BK491 hb; have NB492_493 := tlt BK492 hg; have NB493_492 := tgt BK492 hg; replace BK492 := tBb BK492 hb; clear hb hbox hg))
 (try simp only [Act.put, List.setIfInBounds_toArray, List.set_cons_zero, List.set_cons_succ])
 go_cut [31] (fun v31 wc => ∃ (kq : Nat) (x31_2 : Bool), v31 = .bool x31_2 ∧ Aside0 (impl_Batch_join.j0 kq x31_2 a0_0 a0_1 a0_2 a0_3 a0_4 l0_5 a1_0 a1_1 a1_2 a1_3 a1_4 l1_5 = some (r1, r2, r3, r4, r5, r6, r7)) ∧ Aside0 (kq ≤ k) ∧ Aside0 (wc.heap[gb491]? = some (.cells #[.bool a0_0, .bool a0_1, .int .i64 a0_2, .int .i64 a0_3, .int .i64 a0_4, (.slice A0_5 l0_5.length c0_5)] 25 (0, 0))) ∧ Aside0 (wc.heap[gb492]? = some (.cells #[.bool a1_0, .bool a1_1, .int .i64 a1_2, .int .i64 a1_3, .int .i64 a1_4, (.slice A1_5 l1_5.length c1_5)] 25 (0, 0))) ∧ Aside0 (wc.heap[gb493]? = some (.cells #[.bool false, .bool false, .int .i64 0, .int .i64 0, .int .i64 0, (.slice none 0 0)] 25 (0, 0))) ∧ Aside0 (Below w.heap.size w wc))
 case first =>
  have H := HC3.out
  clear HC3
  replace H := tbe H
  obtain ⟨t494, A7, H⟩ := H
  by_cases c8 : t494 = true
  ·subst c8
   rw [if_pos rfl] at H
   replace H := tbe H
   obtain ⟨t495, A9, H⟩ := H
   by_cases c10 : t495 = true
   ·subst c10
    rw [if_pos rfl] at H
    by_cases c11 : a0_2 = 255
    ·rw [if_pos c11] at H
     have c11b0 : (a0_2 == 255) = true := beq_iff_eq.mpr c11
     have c11b1 : (a0_2 != 255) = false := bne_eq_false_iff_eq.mpr c11
     clear c11
     (first | rw [c11b0] | (simp only [i64_w, i32_w]; rw [c11b0]) | skip)
     by_cases c12 : a1_2 = 255
     ·rw [if_pos c12] at H
      have c12b0 : (a1_2 == 255) = true := beq_iff_eq.mpr c12
      have c12b1 : (a1_2 != 255) = false := bne_eq_false_iff_eq.mpr c12
      clear c12
      have H' := Aside0.mk H
      clear H
      have hnb13 := NB491_492.out
      have hnc13 := NB492_491.out
      have hnb14 := NB491_493.out
      have hnc14 := NB493_491.out
      obtain ⟨hcz15_0, hcz15_1, hcz15_2, hcz15_3, hcz15_4, hcz15_5, hfz15_0, hfz15_1, hfz15_2, hfz15_3, hfz15_4, hfz15_5⟩ := cells6 BK491.out
      go_wp2_with (first | ((with_reducible refine gate_dst (N := 47) rfl ?_); refine glob_ rfl (v := .iface 106 (.pointer (some (ErrA.errA 2)))) (g := 1) ?hr ?hc ?_; (case hc => exact ErrOk.g1 (ErrOk.below HE.out zb) (by decide)); (case hr => intro W_ hc_; go_simp)) | ((with_reducible refine gate_dst (N := 33) rfl ?_); refine glob_ rfl (v := .iface 106 (.pointer (some (ErrA.errA 2)))) (g := 1) ?hr ?hc ?_; (case hc => exact ErrOk.g1 (ErrOk.below HE.out zb) (by decide)); (case hr => intro W_ hc_; go_simp)) | ((with_reducible refine gate_callee (f := 13) rfl ?_); refine goesL_ (some 8) rfl rfl Tryd.func13 (by kernel_rfl) rfl #[.agg #[.bool a0_0, .bool a0_1, .int .i64 a0_2, .int .i64 a0_3, .int .i64 a0_4, .slice A0_5 l0_5.length c0_5]] rfl tq ?_; (with_reducible refine (impl_BatchValid.calls k a0_0 a0_1 a0_2 a0_3 a0_4 _ _ l0_5 true _ ?side1 ?side2 A7.out).mono ?_); (case side1 => exact tC (Kd.C_below HR0_5.out HB.out)); (case side2 => exact HC0_5.out); rintro e w16 ⟨rfl, hb⟩; refine ⟨_, rfl, ?_⟩; replace BK491 := tBb BK491 hb; replace BK492 := tBb BK492 hb; replace BK493 := tBb BK493 hb; replace HB := tBs HB hb; (try clear hb); (try clear hb2); (try clear hk); (try clear hi); have hnb17 := NB492_493.out; have hnc17 := NB493_492.out; obtain ⟨hcz18_0, hcz18_1, hcz18_2, hcz18_3, hcz18_4, hcz18_5, hfz18_0, hfz18_1, hfz18_2, hfz18_3, hfz18_4, hfz18_5⟩ := cells6 BK492.out) | (go_at_call 13; (with_reducible refine (impl_BatchValid.calls k a1_0 a1_1 a1_2 a1_3 a1_4 _ _ l1_5 true _ ?side1 ?side2 A9.out).mono ?_); (case side1 => exact tC (Kd.C_below HR1_5.out HB.out)); (case side2 => exact HC1_5.out); rintro e w19 ⟨rfl, hb⟩; replace BK491 := tBb BK491 hb; replace BK492 := tBb BK492 hb; replace BK493 := tBb BK493 hb; replace HB := tBs HB hb; (try clear hb); (try clear hb2); (try clear hk); (try clear hi); obtain ⟨hcz20_0, hcz20_1, hcz20_2, hcz20_3, hcz20_4, hcz20_5, hfz20_0, hfz20_1, hfz20_2, hfz20_3, hfz20_4, hfz20_5⟩ := cells6 BK491.out; obtain ⟨hcz21_0, hcz21_1, hcz21_2, hcz21_3, hcz21_4, hcz21_5, hfz21_0, hfz21_1, hfz21_2, hfz21_3, hfz21_4, hfz21_5⟩ := cells6 BK492.out))
      go_meet
      case rel => exact ⟨_, ((a0_0 != a1_0)), tr, H', ⟨by first | omega | exact Nat.le_refl _⟩, ⟨tH BK491.out⟩, ⟨tH BK492.out⟩, ⟨tH BK493.out⟩, ⟨zb⟩⟩
     ·rw [if_neg c12] at H
      have c12b0 : (a1_2 == 255) = false := beq_eq_false_iff_ne.mpr c12
      have c12b1 : (a1_2 != 255) = true := bne_iff_ne.mpr c12
      have H' := Aside0.mk H
      clear H
      have hnb22 := NB491_492.out
      have hnc22 := NB492_491.out
      have hnb23 := NB491_493.out
      have hnc23 := NB493_491.out
      obtain ⟨hcz24_0, hcz24_1, hcz24_2, hcz24_3, hcz24_4, hcz24_5, hfz24_0, hfz24_1, hfz24_2, hfz24_3, hfz24_4, hfz24_5⟩ := cells6 BK491.out
      go_wp2_with (first | ((with_reducible refine gate_dst (N := 47) rfl ?_); refine glob_ rfl (v := .iface 106 (.pointer (some (ErrA.errA 2)))) (g := 1) ?hr ?hc ?_; (case hc => exact ErrOk.g1 (ErrOk.below HE.out zb) (by decide)); (case hr => intro W_ hc_; go_simp)) | ((with_reducible refine gate_dst (N := 33) rfl ?_); refine glob_ rfl (v := .iface 106 (.pointer (some (ErrA.errA 2)))) (g := 1) ?hr ?hc ?_; (case hc => exact ErrOk.g1 (ErrOk.below HE.out zb) (by decide)); (case hr => intro W_ hc_; go_simp)) | ((with_reducible refine gate_callee (f := 13) rfl ?_); refine goesL_ (some 8) rfl rfl Tryd.func13 (by kernel_rfl) rfl #[.agg #[.bool a0_0, .bool a0_1, .int .i64 a0_2, .int .i64 a0_3, .int .i64 a0_4, .slice A0_5 l0_5.length c0_5]] rfl tq ?_; (with_reducible refine (impl_BatchValid.calls k a0_0 a0_1 a0_2 a0_3 a0_4 _ _ l0_5 true _ ?side1 ?side2 A7.out).mono ?_); (case side1 => exact tC (Kd.C_below HR0_5.out HB.out)); (case side2 => exact HC0_5.out); rintro e w25 ⟨rfl, hb⟩; refine ⟨_, rfl, ?_⟩; replace BK491 := tBb BK491 hb; replace BK492 := tBb BK492 hb; replace BK493 := tBb BK493 hb; replace HB := tBs HB hb; (try clear hb); (try clear hb2); (try clear hk); (try clear hi); have hnb26 := NB492_493.out; have hnc26 := NB493_492.out; obtain ⟨hcz27_0, hcz27_1, hcz27_2, hcz27_3, hcz27_4, hcz27_5, hfz27_0, hfz27_1, hfz27_2, hfz27_3, hfz27_4, hfz27_5⟩ := cells6 BK492.out) | (go_at_call 13; (with_reducible refine (impl_BatchValid.calls k a1_0 a1_1 a1_2 a1_3 a1_4 _ _ l1_5 true _ ?side1 ?side2 A9.out).mono ?_); (case side1 => exact tC (Kd.C_below HR1_5.out HB.out)); (case side2 => exact HC1_5.out); rintro e w28 ⟨rfl, hb⟩; replace BK491 := tBb BK491 hb; replace BK492 := tBb BK492 hb; replace BK493 := tBb BK493 hb; replace HB := tBs HB hb; (try clear hb); (try clear hb2); (try clear hk); (try clear hi); obtain ⟨hcz29_0, hcz29_1, hcz29_2, hcz29_3, hcz29_4, hcz29_5, hfz29_0, hfz29_1, hfz29_2, hfz29_3, hfz29_4, hfz29_5⟩ := cells6 BK491.out; obtain ⟨hcz30_0, hcz30_1, hcz30_2, hcz30_3, hcz30_4, hcz30_5, hfz30_0, hfz30_1, hfz30_2, hfz30_3, hfz30_4, hfz30_5⟩ := cells6 BK492.out))
      go_meet
      case rel => exact ⟨_, (true), tr, H', ⟨by first | omega | exact Nat.le_refl _⟩, ⟨tH BK491.out⟩, ⟨tH BK492.out⟩, ⟨tH BK493.out⟩, ⟨zb⟩⟩
    ·rw [if_neg c11] at H
     have c11b0 : (a0_2 == 255) = false := beq_eq_false_iff_ne.mpr c11
     have c11b1 : (a0_2 != 255) = true := bne_iff_ne.mpr c11
     (first | rw [c11b0] | (simp only [i64_w, i32_w]; rw [c11b0]) | skip)
     have H' := Aside0.mk H
     clear H
     have hnb31 := NB491_492.out
     have hnc31 := NB492_491.out
     have hnb32 := NB491_493.out
     have hnc32 := NB493_491.out
     obtain ⟨hcz33_0, hcz33_1, hcz33_2, hcz33_3, hcz33_4, hcz33_5, hfz33_0, hfz33_1, hfz33_2, hfz33_3, hfz33_4, hfz33_5⟩ := cells6 BK491.out
     go_wp2_with (first | ((with_reducible refine gate_dst (N := 47) rfl ?_); refine glob_ rfl (v := .iface 106 (.pointer (some (ErrA.errA 2)))) (g := 1) ?hr ?hc ?_; (case hc => exact ErrOk.g1 (ErrOk.below HE.out zb) (by decide)); (case hr => intro W_ hc_; go_simp)) | ((with_reducible refine gate_dst (N := 33) rfl ?_); refine glob_ rfl (v := .iface 106 (.pointer (some (ErrA.errA 2)))) (g := 1) ?hr ?hc ?_; (case hc => exact ErrOk.g1 (ErrOk.below HE.out zb) (by decide)); (case hr => intro W_ hc_; go_simp)) | ((with_reducible refine gate_callee (f := 13) rfl ?_); refine goesL_ (some 8) rfl rfl Tryd.func13 (by kernel_rfl) rfl #[.agg #[.bool a0_0, .bool a0_1, .int .i64 a0_2, .int .i64 a0_3, .int .i64 a0_4, .slice A0_5 l0_5.length c0_5]] rfl tq ?_; (with_reducible refine (impl_BatchValid.calls k a0_0 a0_1 a0_2 a0_3 a0_4 _ _ l0_5 true _ ?side1 ?side2 A7.out).mono ?_); (case side1 => exact tC (Kd.C_below HR0_5.out HB.out)); (case side2 => exact HC0_5.out); rintro e w34 ⟨rfl, hb⟩; refine ⟨_, rfl, ?_⟩; replace BK491 := tBb BK491 hb; replace BK492 := tBb BK492 hb; replace BK493 := tBb BK493 hb; replace HB := tBs HB hb; (try clear hb); (try clear hb2); (try clear hk); (try clear hi); have hnb35 := NB492_493.out; have hnc35 := NB493_492.out; obtain ⟨hcz36_0, hcz36_1, hcz36_2, hcz36_3, hcz36_4, hcz36_5, hfz36_0, hfz36_1, hfz36_2, hfz36_3, hfz36_4, hfz36_5⟩ := cells6 BK492.out) | (go_at_call 13; (with_reducible refine (impl_BatchValid.calls k a1_0 a1_1 a1_2 a1_3 a1_4 _ _ l1_5 true _ ?side1 ?side2 A9.out).mono ?_); (case side1 => exact tC (Kd.C_below HR1_5.out HB.out)); (case side2 => exact HC1_5.out); rintro e w37 ⟨rfl, hb⟩; replace BK491 := tBb BK491 hb; replace BK492 := tBb BK492 hb; replace BK493 := tBb BK493 hb; replace HB := tBs HB hb; (try clear hb); (try clear hb2); (try clear hk); (try clear hi); obtain ⟨hcz38_0, hcz38_1, hcz38_2, hcz38_3, hcz38_4, hcz38_5, hfz38_0, hfz38_1, hfz38_2, hfz38_3, hfz38_4, hfz38_5⟩ := cells6 BK491.out))
     go_meet
     case rel => exact ⟨_, (true), tr, H', ⟨by first | omega | exact Nat.le_refl _⟩, ⟨tH BK491.out⟩, ⟨tH BK492.out⟩, ⟨tH BK493.out⟩, ⟨zb⟩⟩
   ·replace c10 := Bool.eq_false_iff.mpr c10
    subst c10
    rw [if_neg (show ¬ (false = true) by decide)] at H
    have H' := Aside0.mk H
    clear H
    have hnb39 := NB491_492.out
    have hnc39 := NB492_491.out
    have hnb40 := NB491_493.out
    have hnc40 := NB493_491.out
    obtain ⟨hcz41_0, hcz41_1, hcz41_2, hcz41_3, hcz41_4, hcz41_5, hfz41_0, hfz41_1, hfz41_2, hfz41_3, hfz41_4, hfz41_5⟩ := cells6 BK491.out
    go_wp2_with (first | ((with_reducible refine gate_dst (N := 47) rfl ?_); refine glob_ rfl (v := .iface 106 (.pointer (some (ErrA.errA 2)))) (g := 1) ?hr ?hc ?_; (case hc => exact ErrOk.g1 (ErrOk.below HE.out zb) (by decide)); (case hr => intro W_ hc_; go_simp)) | ((with_reducible refine gate_dst (N := 33) rfl ?_); refine glob_ rfl (v := .iface 106 (.pointer (some (ErrA.errA 2)))) (g := 1) ?hr ?hc ?_; (case hc => exact ErrOk.g1 (ErrOk.below HE.out zb) (by decide)); (case hr => intro W_ hc_; go_simp)) | ((with_reducible refine gate_callee (f := 13) rfl ?_); refine goesL_ (some 8) rfl rfl Tryd.func13 (by kernel_rfl) rfl #[.agg #[.bool a0_0, .bool a0_1, .int .i64 a0_2, .int .i64 a0_3, .int .i64 a0_4, .slice A0_5 l0_5.length c0_5]] rfl tq ?_; (with_reducible refine (impl_BatchValid.calls k a0_0 a0_1 a0_2 a0_3 a0_4 _ _ l0_5 true _ ?side1 ?side2 A7.out).mono ?_); (case side1 => exact tC (Kd.C_below HR0_5.out HB.out)); (case side2 => exact HC0_5.out); rintro e w42 ⟨rfl, hb⟩; refine ⟨_, rfl, ?_⟩; replace BK491 := tBb BK491 hb; replace BK492 := tBb BK492 hb; replace BK493 := tBb BK493 hb; replace HB := tBs HB hb; (try clear hb); (try clear hb2); (try clear hk); (try clear hi); have hnb43 := NB492_493.out; have hnc43 := NB493_492.out; obtain ⟨hcz44_0, hcz44_1, hcz44_2, hcz44_3, hcz44_4, hcz44_5, hfz44_0, hfz44_1, hfz44_2, hfz44_3, hfz44_4, hfz44_5⟩ := cells6 BK492.out) | (go_at_call 13; (with_reducible refine (impl_BatchValid.calls k a1_0 a1_1 a1_2 a1_3 a1_4 _ _ l1_5 false _ ?side1 ?side2 A9.out).mono ?_); (case side1 => exact tC (Kd.C_below HR1_5.out HB.out)); (case side2 => exact HC1_5.out); rintro e w45 ⟨rfl, hb⟩; replace BK491 := tBb BK491 hb; replace BK492 := tBb BK492 hb; replace BK493 := tBb BK493 hb; replace HB := tBs HB hb; (try clear hb); (try clear hb2); (try clear hk); (try clear hi)))
    go_meet
    case rel => exact ⟨_, (true), tr, H', ⟨by first | omega | exact Nat.le_refl _⟩, ⟨tH BK491.out⟩, ⟨tH BK492.out⟩, ⟨tH BK493.out⟩, ⟨zb⟩⟩
  ·replace c8 := Bool.eq_false_iff.mpr c8
   subst c8
   rw [if_neg (show ¬ (false = true) by decide)] at H
   have H' := Aside0.mk H
   clear H
   have hnb46 := NB491_492.out
   have hnc46 := NB492_491.out
   have hnb47 := NB491_493.out
   have hnc47 := NB493_491.out
   obtain ⟨hcz48_0, hcz48_1, hcz48_2, hcz48_3, hcz48_4, hcz48_5, hfz48_0, hfz48_1, hfz48_2, hfz48_3, hfz48_4, hfz48_5⟩ := cells6 BK491.out
   go_wp2_with (first | ((with_reducible refine gate_dst (N := 47) rfl ?_); refine glob_ rfl (v := .iface 106 (.pointer (some (ErrA.errA 2)))) (g := 1) ?hr ?hc ?_; (case hc => exact ErrOk.g1 (ErrOk.below HE.out zb) (by decide)); (case hr => intro W_ hc_; go_simp)) | ((with_reducible refine gate_dst (N := 33) rfl ?_); refine glob_ rfl (v := .iface 106 (.pointer (some (ErrA.errA 2)))) (g := 1) ?hr ?hc ?_; (case hc => exact ErrOk.g1 (ErrOk.below HE.out zb) (by decide)); (case hr => intro W_ hc_; go_simp)) | ((with_reducible refine gate_callee (f := 13) rfl ?_); refine goesL_ (some 8) rfl rfl Tryd.func13 (by kernel_rfl) rfl #[.agg #[.bool a0_0, .bool a0_1, .int .i64 a0_2, .int .i64 a0_3, .int .i64 a0_4, .slice A0_5 l0_5.length c0_5]] rfl tq ?_; (with_reducible refine (impl_BatchValid.calls k a0_0 a0_1 a0_2 a0_3 a0_4 _ _ l0_5 false _ ?side1 ?side2 A7.out).mono ?_); (case side1 => exact tC (Kd.C_below HR0_5.out HB.out)); (case side2 => exact HC0_5.out); rintro e w49 ⟨rfl, hb⟩; refine ⟨_, rfl, ?_⟩; replace BK491 := tBb BK491 hb; replace BK492 := tBb BK492 hb; replace BK493 := tBb BK493 hb; replace HB := tBs HB hb; (try clear hb); (try clear hb2); (try clear hk); (try clear hi)))
   go_meet
   case rel => exact ⟨_, (true), tr, H', ⟨by first | omega | exact Nat.le_refl _⟩, ⟨tH BK491.out⟩, ⟨tH BK492.out⟩, ⟨tH BK493.out⟩, ⟨zb⟩⟩
 case rest =>
  clear HC3
  obtain ⟨kq, x31_2, rfl, HA, HJ2, BK491, BK492, BK493, HB⟩ := hcut
  cases kq with
  | zero => exact absurd HA.out (by simp [impl_Batch_join.j0])
  | succ kj2 =>
   have H := HA.out
   clear HA
   simp only [impl_Batch_join.j0] at H
   by_cases c50 : x31_2 = true
   ·subst c50
    rw [if_pos rfl] at H
    simp only [Option.some.injEq, Prod.mk.injEq] at H
    obtain ⟨rfl, rfl, rfl, rfl, rfl, rfl, rfl⟩ := H
    try go_wp2
    replace BK491 := Aside0.mk (blk_drew BK491.out)
    replace BK492 := Aside0.mk (blk_drew BK492.out)
    replace BK493 := Aside0.mk (blk_drew BK493.out)
    replace HB := Aside0.mk (below_drew1 HB.out)
    refine start_ (n := 4) (S := ErrOk [1]) (ds := []) #[false, false, false, false] (by kernel_rfl) rfl rfl (ErrOk.below HE.out HB.out) (fun hHeld => ?_)
    generalize wc.drew = w51 at BK491 BK492 BK493 HB hHeld ⊢
    refine pure_ (i := 0) (N := some 32) (v := ?_) (a' := ?_) #[true, false, false, false] rfl rfl (by kernel_rfl) (fun _ _ _ h => h) (Or.inl ⟨by rfl, ?_⟩) ?_ ?_
    rotate_left
    ·intro w'
     go_simp
     with_reducible rfl
    rotate_left
    ·simp only [Act.put, List.setIfInBounds_toArray, List.set_cons_zero, List.set_cons_succ, i64_w, i32_w]
     rfl
    refine take_ (i := 1) (N := some 33) (v := ?_) (a' := ?_) #[true, true, false, false] rfl rfl (by kernel_rfl) (fun _ _ _ h => h) (Or.inl ⟨by rfl, ?_⟩) hHeld ?_ ?_
    rotate_left
    ·intro w' hS_
     try have hg0_ := ErrOk.g0 hS_ (by decide)
     try have hg1_ := ErrOk.g1 hS_ (by decide)
     clear hS_
     go_simp
     with_reducible rfl
    rotate_left
    ·simp only [Act.put, List.setIfInBounds_toArray, List.set_cons_zero, List.set_cons_succ, i64_w, i32_w]
     rfl
    refine one_ (i := 2) (N := none) #[true, true, true, false] rfl rfl (by kernel_rfl) (by decide) (fun K hK => ?_)
    have hs52 : w51.cell? ⟨gb493, 0, none⟩ = some (.bool false) := (blk_cell BK493.out 0).trans rfl
    have hfs52 := blk_frozen BK493.out 0
    have hns52_0 := NB491_493.out
    have hns52_1 := NB492_493.out
    have hms52_0 := NB493_491.out
    have hms52_1 := NB493_492.out
    have hs53 : w51.cell? ⟨gb493, 1, none⟩ = some (.bool false) := (blk_cell BK493.out 1).trans rfl
    have hfs53 := blk_frozen BK493.out 1
    have hns53_0 := NB491_493.out
    have hns53_1 := NB492_493.out
    have hms53_0 := NB493_491.out
    have hms53_1 := NB493_492.out
    have hs54 : w51.cell? ⟨gb493, 2, none⟩ = some (.int .i64 0) := (blk_cell BK493.out 2).trans rfl
    have hfs54 := blk_frozen BK493.out 2
    have hns54_0 := NB491_493.out
    have hns54_1 := NB492_493.out
    have hms54_0 := NB493_491.out
    have hms54_1 := NB493_492.out
    have hs55 : w51.cell? ⟨gb493, 3, none⟩ = some (.int .i64 0) := (blk_cell BK493.out 3).trans rfl
    have hfs55 := blk_frozen BK493.out 3
    have hns55_0 := NB491_493.out
    have hns55_1 := NB492_493.out
    have hms55_0 := NB493_491.out
    have hms55_1 := NB493_492.out
    have hs56 : w51.cell? ⟨gb493, 4, none⟩ = some (.int .i64 0) := (blk_cell BK493.out 4).trans rfl
    have hfs56 := blk_frozen BK493.out 4
    have hns56_0 := NB491_493.out
    have hns56_1 := NB492_493.out
    have hms56_0 := NB493_491.out
    have hms56_1 := NB493_492.out
    have hs57 : w51.cell? ⟨gb493, 5, none⟩ = some (.slice none 0 0) := (blk_cell BK493.out 5).trans rfl
    have hfs57 := blk_frozen BK493.out 5
    have hns57_0 := NB491_493.out
    have hns57_1 := NB492_493.out
    have hms57_0 := NB493_491.out
    have hms57_1 := NB493_492.out
    refine skip_ (w1 := ?_) (by rfl) rfl ?_ ?_
    rotate_left
    ·go_simp
     rfl
    refine hK.out _ _ (by repeat (first | (with_reducible exact hHeld) | (with_reducible refine ErrOk.set HE.out ?_ (by with_reducible first | exact GE491.out | exact GE492.out | exact GE493.out | exact GE504.out) _ _))) (fun hHeld => ?_)
    clear hK K
    refine pure_ (i := 3) (N := some 5) (v := ?_) (a' := ?_) #[true, true, true, true] rfl rfl (by kernel_rfl) (fun _ _ _ h => h) (Or.inl ⟨by rfl, ?_⟩) ?_ ?_
    rotate_left
    ·intro w'
     go_simp
     with_reducible rfl
    rotate_left
    ·simp only [Act.put, List.setIfInBounds_toArray, List.set_cons_zero, List.set_cons_succ, i64_w, i32_w]
     rfl
    refine done_ (by kernel_rfl) ?_
    try go_wp2
    refine bodyPost_ret (results_ct rfl _ _ gb493 25 #[.bool false, .bool false, .int .i64 0, .int .i64 0, .int .i64 0, .slice none 0 0] (0, 0) _ rfl (tP BK493.out) Tryd.underlying25 rfl (by kernel_rfl)) rfl ?_
    exact ⟨_, by first | rfl | (simp [errW_none, errW_some] <;> rfl) | (simp [*, errW_none, errW_some] <;> rfl), by first | exact Kd.S_nil _ _ _ _ _ | exact Kd.N_nil _ _ _ _ _ | exact Kd.V_nil _ _ _ _ _ | exact Kd.Q_nil _ _ _ _ _ | exact Kd.R_nil _ _ _ _ _, zb⟩
   ·replace c50 := Bool.eq_false_iff.mpr c50
    subst c50
    rw [if_neg (show ¬ (false = true) by decide)] at H
    replace H := tbe H
    obtain ⟨⟨t496, t497, t498, t499, t500, t501⟩, A58, H⟩ := H
    dsimp only at H
    replace H := tbe H
    obtain ⟨t505, A59, H⟩ := H
    by_cases c60 : t501.length + t505.length < 1759218604441
    ·rw [if_pos c60] at H
     have LMc60 := Aside0.mk c60
     clear c60
     obtain ⟨y508, hy508⟩ : ∃ y_ : List (S41), y_ = (t501 ++ t505) := ⟨_, rfl⟩
     replace H : ((impl_BatchValid.f kj2 t496 t497 t498 t499 t500 y508).bind fun t511 => (if t511 = true then (some (t496, t497, t498, t499, t500, y508, none)) else (some (false, false, 0, 0, 0, ([] : List (S41)), some 2)))) = some (r1, r2, r3, r4, r5, r6, r7) := by first | (rw [hy508]; with_reducible exact H) | (have H2_ := (Option.bind_some _ _).symm.trans H; rw [hy508]; with_reducible exact H2_) | (have H2_ := (Option.bind_some _ _).symm.trans H; with_reducible exact H2_) | with_reducible exact H | (rw [hy508]; exact H) | exact H
     have Ny508 := Aside0.mk hy508
     clear hy508
     replace H := tbe H
     obtain ⟨t511, A61, H⟩ := H
     by_cases c62 : t511 = true
     ·subst c62
      rw [if_pos rfl] at H
      simp only [Option.some.injEq, Prod.mk.injEq] at H
      obtain ⟨rfl, rfl, rfl, rfl, rfl, rfl, rfl⟩ := H
      have hnb63 := NB491_492.out
      have hnc63 := NB492_491.out
      have hnb64 := NB491_493.out
      have hnc64 := NB493_491.out
      obtain ⟨hcz65_0, hcz65_1, hcz65_2, hcz65_3, hcz65_4, hcz65_5, hfz65_0, hfz65_1, hfz65_2, hfz65_3, hfz65_4, hfz65_5⟩ := cells6 BK491.out
      try go_wp2_with (first | ((with_reducible refine gate_dst (N := 47) rfl ?_); refine glob_ rfl (v := .iface 106 (.pointer (some (ErrA.errA 2)))) (g := 1) ?hr ?hc ?_; (case hc => exact ErrOk.g1 (ErrOk.below HE.out zb) (by decide)); (case hr => intro W_ hc_; go_simp)) | ((with_reducible refine gate_dst (N := 33) rfl ?_); refine glob_ rfl (v := .iface 106 (.pointer (some (ErrA.errA 2)))) (g := 1) ?hr ?hc ?_; (case hc => exact ErrOk.g1 (ErrOk.below HE.out zb) (by decide)); (case hr => intro W_ hc_; go_simp)) | ((with_reducible refine gate_callee (f := 52) rfl ?_); refine goesL_ (some 35) rfl rfl Tryd.func52 (by kernel_rfl) rfl #[.agg #[.bool a0_0, .bool a0_1, .int .i64 a0_2, .int .i64 a0_3, .int .i64 a0_4, .slice A0_5 l0_5.length c0_5]] rfl tq ?_; (with_reducible refine (impl_Batch_copyOf.calls kj2 a0_0 a0_1 a0_2 a0_3 a0_4 _ _ l0_5 t496 t497 t498 t499 t500 t501 _ ?side1 ?side2 A58.out).mono ?_); (case side1 => exact tC (Kd.C_below HR0_5.out HB.out)); (case side2 => exact HC0_5.out); rintro e w66 ⟨v502, rfl, ho0, hb⟩; have u_v502 := tsv Tryd.prog v502 ho0; refine ⟨_, rfl, ?_⟩; have HO503 := Aside0.mk (Kd.N_lower (Kd.N_mono (ok' := fun k_ => (w.heap.size ≤ k_) ∧ k_ ≠ gb491 ∧ k_ ≠ gb492 ∧ k_ ≠ gb493) (Kd.S_N (Kd.S_bound ho0)) (fun k_ hk_ => ⟨(Nat.le_trans (below_size zb) hk_.2.1), (tfB BK491 k_ hk_.2.1), (tfB BK492 k_ hk_.2.1), (tfB BK493 k_ hk_.2.1)⟩)) (below_size zb)); replace BK491 := tBb BK491 hb; replace BK492 := tBb BK492 hb; replace BK493 := tBb BK493 hb; replace HB := tBs HB hb; (try clear hb); (try clear hb2); (try clear hk); (try clear hi); (try clear ho0)) | ((with_reducible refine gate_dst (N := 6) rfl ?_); refine box_event ?hg (N := 6) ?hd (cs := #[.bool false, .bool false, .int .i64 0, .int .i64 0, .int .i64 0, .slice none 0 0]) (t := 25) ?hr ?_; (case hd => rfl); (case hg => rfl); (case hr => first | (go_simp; done) | (go_simp; rfl)); intro gb504 hg w67 hbox hb; replace HO503 := tNB HO503 hg hb; have BK504 := Aside0.mk (hbox); have GW504 := tge HB hg; have GE504 := tge HB hg; replace HB := tBs HB hb; have NB491_504 := tlt BK491 hg; have NB504_491 := tgt BK491 hg; replace BK491 := tBb BK491 hb; have NB492_504 := tlt BK492 hg; have NB504_492 := tgt BK492 hg; replace BK492 := tBb BK492 hb; have NB493_504 := tlt BK493 hg; have NB504_493 := tgt BK493 hg; replace BK493 := tBb BK493 hb; clear hb hbox hg; have hnb68 := NB504_491.out; have hnc68 := NB491_504.out; have hnb69 := NB504_492.out; have hnc69 := NB492_504.out; have hnb70 := NB504_493.out; have hnc70 := NB493_504.out; obtain ⟨hcz71_0, hcz71_1, hcz71_2, hcz71_3, hcz71_4, hcz71_5, hfz71_0, hfz71_1, hfz71_2, hfz71_3, hfz71_4, hfz71_5⟩ := cells6 BK504.out; obtain ⟨Ao72, co72, eo72⟩ := Kd.N_slice HO503.out; subst eo72))
      have n0_ : Aside0 (Kd.N k41 41 ((((((w67.setCell ⟨gb504, 0, none⟩ (.bool t496)).setCell ⟨gb504, 1, none⟩ (.bool t497)).setCell ⟨gb504, 2, none⟩ (.int .i64 t498)).setCell ⟨gb504, 3, none⟩ (.int .i64 t499)).setCell ⟨gb504, 4, none⟩ (.int .i64 t500)).setCell ⟨gb504, 5, none⟩ (.slice Ao72 t501.length co72)) w.heap.size (fun k_ => (w.heap.size ≤ k_) ∧ k_ ≠ gb491 ∧ k_ ≠ gb492 ∧ k_ ≠ gb493 ∧ k_ ≠ gb504) (.slice Ao72 t501.length co72) t501) := ⟨tNm HO503.out⟩
      have n1_ : Aside0 (((((((w67.setCell ⟨gb504, 0, none⟩ (.bool t496)).setCell ⟨gb504, 1, none⟩ (.bool t497)).setCell ⟨gb504, 2, none⟩ (.int .i64 t498)).setCell ⟨gb504, 3, none⟩ (.int .i64 t499)).setCell ⟨gb504, 4, none⟩ (.int .i64 t500)).setCell ⟨gb504, 5, none⟩ (.slice Ao72 t501.length co72)).heap[gb491]? = some (.cells #[.bool a0_0, .bool a0_1, .int .i64 a0_2, .int .i64 a0_3, .int .i64 a0_4, .slice A0_5 l0_5.length c0_5] 25 (0, 0))) := ⟨tH BK491.out⟩
      have n2_ : Aside0 (((((((w67.setCell ⟨gb504, 0, none⟩ (.bool t496)).setCell ⟨gb504, 1, none⟩ (.bool t497)).setCell ⟨gb504, 2, none⟩ (.int .i64 t498)).setCell ⟨gb504, 3, none⟩ (.int .i64 t499)).setCell ⟨gb504, 4, none⟩ (.int .i64 t500)).setCell ⟨gb504, 5, none⟩ (.slice Ao72 t501.length co72)).heap[gb492]? = some (.cells #[.bool a1_0, .bool a1_1, .int .i64 a1_2, .int .i64 a1_3, .int .i64 a1_4, .slice A1_5 l1_5.length c1_5] 25 (0, 0))) := ⟨tH BK492.out⟩
      have n3_ : Aside0 (((((((w67.setCell ⟨gb504, 0, none⟩ (.bool t496)).setCell ⟨gb504, 1, none⟩ (.bool t497)).setCell ⟨gb504, 2, none⟩ (.int .i64 t498)).setCell ⟨gb504, 3, none⟩ (.int .i64 t499)).setCell ⟨gb504, 4, none⟩ (.int .i64 t500)).setCell ⟨gb504, 5, none⟩ (.slice Ao72 t501.length co72)).heap[gb493]? = some (.cells #[.bool false, .bool false, .int .i64 0, .int .i64 0, .int .i64 0, .slice none 0 0] 25 (0, 0))) := ⟨tH BK493.out⟩
      have n4_ : Aside0 (((((((w67.setCell ⟨gb504, 0, none⟩ (.bool t496)).setCell ⟨gb504, 1, none⟩ (.bool t497)).setCell ⟨gb504, 2, none⟩ (.int .i64 t498)).setCell ⟨gb504, 3, none⟩ (.int .i64 t499)).setCell ⟨gb504, 4, none⟩ (.int .i64 t500)).setCell ⟨gb504, 5, none⟩ (.slice Ao72 t501.length co72)).heap[gb504]? = some (.cells #[.bool t496, .bool t497, .int .i64 t498, .int .i64 t499, .int .i64 t500, .slice Ao72 t501.length co72] 25 (0, 0))) := ⟨tP BK504.out⟩
      have n5_ : Aside0 (Below w.heap.size w ((((((w67.setCell ⟨gb504, 0, none⟩ (.bool t496)).setCell ⟨gb504, 1, none⟩ (.bool t497)).setCell ⟨gb504, 2, none⟩ (.int .i64 t498)).setCell ⟨gb504, 3, none⟩ (.int .i64 t499)).setCell ⟨gb504, 4, none⟩ (.int .i64 t500)).setCell ⟨gb504, 5, none⟩ (.slice Ao72 t501.length co72))) := ⟨zb⟩
      (try clear HO503)
      (try clear BK491)
      (try clear BK492)
      (try clear BK493)
      (try clear BK504)
      (try clear HB)
      generalize ((((((w67.setCell ⟨gb504, 0, none⟩ (.bool t496)).setCell ⟨gb504, 1, none⟩ (.bool t497)).setCell ⟨gb504, 2, none⟩ (.int .i64 t498)).setCell ⟨gb504, 3, none⟩ (.int .i64 t499)).setCell ⟨gb504, 4, none⟩ (.int .i64 t500)).setCell ⟨gb504, 5, none⟩ (.slice Ao72 t501.length co72)) = w73 at n0_ n1_ n2_ n3_ n4_ n5_ ⊢
      have HO503 := n0_
      have BK491 := n1_
      have BK492 := n2_
      have BK493 := n3_
      have BK504 := n4_
      have HB := n5_
      clear n0_ n1_ n2_ n3_ n4_ n5_
      replace HO503 := Aside0.mk (Kd.N_drew HO503.out)
      replace BK491 := Aside0.mk (blk_drew BK491.out)
      replace BK492 := Aside0.mk (blk_drew BK492.out)
      replace BK493 := Aside0.mk (blk_drew BK493.out)
      replace BK504 := Aside0.mk (blk_drew BK504.out)
      replace HB := Aside0.mk (below_drew1 HB.out)
      refine start_ (n := 8) (S := fun w' => w'.cell? ⟨gb504, 0, none⟩ = some (.bool t496) ∧ w'.cell? ⟨gb504, 1, none⟩ = some (.bool t497) ∧ w'.cell? ⟨gb504, 2, none⟩ = some (.int .i64 t498) ∧ w'.cell? ⟨gb504, 3, none⟩ = some (.int .i64 t499) ∧ w'.cell? ⟨gb504, 4, none⟩ = some (.int .i64 t500) ∧ w'.cell? ⟨gb504, 5, none⟩ = some (.slice Ao72 t501.length co72) ∧ w'.cell? ⟨gb492, 0, none⟩ = some (.bool a1_0) ∧ w'.cell? ⟨gb492, 1, none⟩ = some (.bool a1_1) ∧ w'.cell? ⟨gb492, 2, none⟩ = some (.int .i64 a1_2) ∧ w'.cell? ⟨gb492, 3, none⟩ = some (.int .i64 a1_3) ∧ w'.cell? ⟨gb492, 4, none⟩ = some (.int .i64 a1_4) ∧ w'.cell? ⟨gb492, 5, none⟩ = some (.slice A1_5 l1_5.length c1_5)) (ds := [7]) #[false, false, false, false, false, false, false, false] (by kernel_rfl) rfl rfl ⟨(blk_cell BK504.out 0).trans rfl, (blk_cell BK504.out 1).trans rfl, (blk_cell BK504.out 2).trans rfl, (blk_cell BK504.out 3).trans rfl, (blk_cell BK504.out 4).trans rfl, (blk_cell BK504.out 5).trans rfl, (blk_cell BK492.out 0).trans rfl, (blk_cell BK492.out 1).trans rfl, (blk_cell BK492.out 2).trans rfl, (blk_cell BK492.out 3).trans rfl, (blk_cell BK492.out 4).trans rfl, (blk_cell BK492.out 5).trans rfl⟩ (fun hHeld => ?_); refine with_tabW impl_Batch_join.tab4 impl_Batch_join.bits4 (fun HT_ HW_ => ?_)
      generalize w73.drew = w74 at HO503 BK491 BK492 BK493 BK504 HB hHeld ⊢
      refine pure_ (i := 0) (N := some 36) (v := ?_) (a' := ?_) #[true, false, false, false, false, false, false, false] rfl rfl (any_of HT_.out (by kernel_rfl)) (fun _ _ _ h => h) (Or.inl ⟨by rfl, ?_⟩) ?_ ?_
      rotate_left
      ·intro w'
       go_simp
       with_reducible rfl
      rotate_left
      ·simp only [Act.put, List.setIfInBounds_toArray, List.set_cons_zero, List.set_cons_succ, i64_w, i32_w]
       rfl
      refine pure_ (i := 2) (N := some 38) (v := ?_) (a' := ?_) #[true, false, true, false, false, false, false, false] rfl rfl (any_of HT_.out (by kernel_rfl)) (fun _ _ _ h => h) (Or.inl ⟨by rfl, ?_⟩) ?_ ?_
      rotate_left
      ·intro w'
       go_simp
       with_reducible rfl
      rotate_left
      ·simp only [Act.put, List.setIfInBounds_toArray, List.set_cons_zero, List.set_cons_succ, i64_w, i32_w]
       rfl
      refine take_ (i := 1) (N := some 37) (v := ?_) (a' := ?_) #[true, true, true, false, false, false, false, false] rfl rfl (take_ofW HT_.out HW_.out (by kernel_rfl)) (fun _ _ _ h => h) (Or.inl ⟨by rfl, ?_⟩) hHeld ?_ ?_
      rotate_left
      ·rintro w' ⟨s0, s1, s2, s3, s4, s5, s6, s7, s8, s9, s10, s11⟩
       go_simp
       with_reducible rfl
      rotate_left
      ·simp only [Act.put, List.setIfInBounds_toArray, List.set_cons_zero, List.set_cons_succ, i64_w, i32_w]
       rfl
      refine take_ (i := 3) (N := some 39) (v := ?_) (a' := ?_) #[true, true, true, true, false, false, false, false] rfl rfl (take_ofW HT_.out HW_.out (by kernel_rfl)) (fun _ _ _ h => h) (Or.inl ⟨by rfl, ?_⟩) hHeld ?_ ?_
      rotate_left
      ·rintro w' ⟨s0, s1, s2, s3, s4, s5, s6, s7, s8, s9, s10, s11⟩
       go_simp
       with_reducible rfl
      rotate_left
      ·simp only [Act.put, List.setIfInBounds_toArray, List.set_cons_zero, List.set_cons_succ, i64_w, i32_w]
       rfl
      refine one_ (i := 4) (N := some 40) #[true, true, true, true, true, false, false, false] rfl rfl (one_of HT_.out (by kernel_rfl)) (by decide) (fun K hK => ?_)
      refine goes_ Tryd.func53 (by kernel_rfl) rfl #[.slice A1_5 l1_5.length c1_5] (by rfl) rfl rfl tq ?_
      with_reducible refine (impl_copyRecords.calls kj2 _ _ l1_5 t505 _ ?side1 ?side2 A59.out).mono ?_
      (case side1 => exact tC (Kd.C_below HR1_5.out HB.out))
      (case side2 => exact HC1_5.out)
      rintro e w75 ⟨v506, rfl, ho0, hb⟩
      refine ⟨_, rfl, ?_⟩
      have HO507 := Aside0.mk (Kd.N_lower (Kd.N_mono (ok' := fun k_ => (w.heap.size ≤ k_) ∧ some k_ ≠ (.slice Ao72 t501.length co72 : Value).ownBlock ∧ k_ ≠ gb491 ∧ k_ ≠ gb492 ∧ k_ ≠ gb493 ∧ k_ ≠ gb504) (Kd.S_N (Kd.S_bound ho0)) (fun k_ hk_ => ⟨(Nat.le_trans (below_size zb) hk_.2.1), (tfr HO503 k_ hk_.2.1), (tfB BK491 k_ hk_.2.1), (tfB BK492 k_ hk_.2.1), (tfB BK493 k_ hk_.2.1), (tfB BK504 k_ hk_.2.1)⟩)) (below_size zb))
      replace HO503 := tNe HO503 ho0 hb
      replace BK491 := tBb BK491 hb
      replace BK492 := tBb BK492 hb
      replace BK493 := tBb BK493 hb
      replace BK504 := tBb BK504 hb
      replace HB := tBs HB hb
      (try clear hb)
      (try clear hb2)
      (try clear hk)
      (try clear hi)
      (try clear ho0)
      obtain ⟨Ao77, co77, eo77⟩ := Kd.N_slice HO507.out
      (first | subst eo77 | (injection eo77 with f1_ f2_ f3_; have f4_ := f1_.symm; have f5_ := f3_.symm; clear f1_ f2_ f3_; subst f4_; subst f5_))
      refine hK.out _ _ ⟨(blk_cell BK504.out 0).trans rfl, (blk_cell BK504.out 1).trans rfl, (blk_cell BK504.out 2).trans rfl, (blk_cell BK504.out 3).trans rfl, (blk_cell BK504.out 4).trans rfl, (blk_cell BK504.out 5).trans rfl, (blk_cell BK492.out 0).trans rfl, (blk_cell BK492.out 1).trans rfl, (blk_cell BK492.out 2).trans rfl, (blk_cell BK492.out 3).trans rfl, (blk_cell BK492.out 4).trans rfl, (blk_cell BK492.out 5).trans rfl⟩ (fun hHeld => ?_)
      clear hK K
      refine norm_ (a' := ?_) ?_ ?_
      rotate_left
      ·show Act.put _ (some 40) _ = _
       simp only [Act.put, List.setIfInBounds_toArray, List.set_cons_zero, List.set_cons_succ, i64_w, i32_w]
       rfl
      refine one_ (i := 5) (N := some 41) #[true, true, true, true, true, true, false, false] rfl rfl (one_of HT_.out (by kernel_rfl)) (by decide) (fun K hK => ?_)
      refine Kd.N_append_rows_step k41 (w0 := w) w.heap.size (by rfl) (.tmp 37) (.tmp 40) 23 41 (.agg #[(.int .i64 0), (.int .i64 0), (.bool false), (.slice none 0 0), (.bool false), (.slice none 0 0)]) 80 rfl Tryd.underlying23 info41 rfl (by decide) (by omega) (.slice Ao72 t501.length co72) t501 t505 _ _ _ (fun k_ => (w.heap.size ≤ k_) ∧ k_ ≠ gb491 ∧ k_ ≠ gb492 ∧ k_ ≠ gb493 ∧ k_ ≠ gb504) (fun k_ => ((fun k_ => (w.heap.size ≤ k_) ∧ k_ ≠ gb491 ∧ k_ ≠ gb492 ∧ k_ ≠ gb493 ∧ k_ ≠ gb504)) k_ ∧ some k_ ≠ (.slice Ao72 t501.length co72 : Value).ownBlock) rfl rfl ?aO ?aR (fun _ hk => hk) ?aF ?aB ?aS ?aL ?_
      (case aR => exact (by skip; exact Kd.N_F (Kd.N_mono (ok' := (fun k_ => ((fun k_ => (w.heap.size ≤ k_) ∧ k_ ≠ gb491 ∧ k_ ≠ gb492 ∧ k_ ≠ gb493 ∧ k_ ≠ gb504)) k_ ∧ some k_ ≠ (.slice Ao72 t501.length co72 : Value).ownBlock)) (HO507.out) (fun k_ hk => ⟨⟨hk.1, ⟨hk.2.2.1, ⟨hk.2.2.2.1, ⟨hk.2.2.2.2.1, hk.2.2.2.2.2⟩⟩⟩⟩, hk.2.1⟩))))
      (case aB => exact zb)
      (case aF => exact (fun k_ hk => ⟨(Nat.le_trans (below_size zb) hk), tfB BK491 k_ hk, tfB BK492 k_ hk, tfB BK493 k_ hk, tfB BK504 k_ hk⟩))
      (case aO => exact (tNm HO503.out))
      (case aS => exact (below_size zb))
      (case aL => have := LMc60.out; omega)
      intro v509 w76 ho hb hg hat
      rw [← Ny508.out] at ho
      replace BK491 := Aside0.mk (blk_grown (tH BK491.out) hg (Kd.N_ne HO503.out BK491.out (by decide)))
      replace BK492 := Aside0.mk (blk_grown (tH BK492.out) hg (Kd.N_ne HO503.out BK492.out (by decide)))
      replace BK493 := Aside0.mk (blk_grown (tH BK493.out) hg (Kd.N_ne HO503.out BK493.out (by decide)))
      replace BK504 := Aside0.mk (blk_grown (tH BK504.out) hg (Kd.N_ne HO503.out BK504.out (by decide)))
      replace HO507 := Aside0.mk (Kd.N_afterv (ok := (fun k_ => (w.heap.size ≤ k_) ∧ k_ ≠ gb491 ∧ k_ ≠ gb492 ∧ k_ ≠ gb493 ∧ k_ ≠ gb504)) (tNm HO507.out) hg hat)
      replace HB := Aside0.mk (hb)
      have HO510 := Aside0.mk (ho)
      clear HO503
      clear ho hb hg hat
      obtain ⟨Ao78, co78, eo78⟩ := Kd.N_slice HO510.out
      (first | subst eo78 | (injection eo78 with f1_ f2_ f3_; have f4_ := f1_.symm; have f5_ := f3_.symm; clear f1_ f2_ f3_; subst f4_; subst f5_))
      refine hK.out _ _ ⟨(blk_cell BK504.out 0).trans rfl, (blk_cell BK504.out 1).trans rfl, (blk_cell BK504.out 2).trans rfl, (blk_cell BK504.out 3).trans rfl, (blk_cell BK504.out 4).trans rfl, (blk_cell BK504.out 5).trans rfl, (blk_cell BK492.out 0).trans rfl, (blk_cell BK492.out 1).trans rfl, (blk_cell BK492.out 2).trans rfl, (blk_cell BK492.out 3).trans rfl, (blk_cell BK492.out 4).trans rfl, (blk_cell BK492.out 5).trans rfl⟩ (fun hHeld => ?_)
      clear hK K
      refine norm_ (a' := ?_) ?_ ?_
      rotate_left
      ·show Act.put _ (some 41) _ = _
       simp only [Act.put, List.setIfInBounds_toArray, List.set_cons_zero, List.set_cons_succ, i64_w, i32_w]
       rfl
      refine pure_ (i := 6) (N := some 42) (v := ?_) (a' := ?_) #[true, true, true, true, true, true, true, false] rfl rfl (any_of HT_.out (by kernel_rfl)) (fun _ _ _ h => h) (Or.inl ⟨by rfl, ?_⟩) ?_ ?_
      rotate_left
      ·intro w'
       go_simp
       with_reducible rfl
      rotate_left
      ·simp only [Act.put, List.setIfInBounds_toArray, List.set_cons_zero, List.set_cons_succ, i64_w, i32_w]
       rfl
      refine last_ (i := 7) (N := none) #[true, true, true, true, true, true, true, true] rfl rfl (one_of HT_.out (by kernel_rfl)) (by decide) (fun K hK => ?_)
      have hs79 : w76.cell? ⟨gb504, 5, none⟩ = some (.slice Ao72 t501.length co72) := (blk_cell BK504.out 5).trans rfl
      have hfs79 := blk_frozen BK504.out 5
      have hns79_0 := NB491_504.out
      have hns79_1 := NB492_504.out
      have hns79_2 := NB493_504.out
      have hms79_0 := NB504_491.out
      have hms79_1 := NB504_492.out
      have hms79_2 := NB504_493.out
      refine skip_ (w1 := ?_) (by rfl) rfl ?_ ?_
      rotate_left
      ·go_simp
       rfl
      refine hK.out _ _ ?_
      clear hK K
      refine done_ (done_of HT_.out (by kernel_rfl)) ?_
      obtain ⟨hcz80_0, hcz80_1, hcz80_2, hcz80_3, hcz80_4, hcz80_5, hfz80_0, hfz80_1, hfz80_2, hfz80_3, hfz80_4, hfz80_5⟩ := cells6 BK504.out
      try go_wp2_with (first | ((with_reducible refine gate_dst (N := 47) rfl ?_); refine glob_ rfl (v := .iface 106 (.pointer (some (ErrA.errA 2)))) (g := 1) ?hr ?hc ?_; (case hc => exact ErrOk.g1 (ErrOk.below HE.out zb) (by decide)); (case hr => intro W_ hc_; go_simp)) | ((with_reducible refine gate_dst (N := 33) rfl ?_); refine glob_ rfl (v := .iface 106 (.pointer (some (ErrA.errA 2)))) (g := 1) ?hr ?hc ?_; (case hc => exact ErrOk.g1 (ErrOk.below HE.out zb) (by decide)); (case hr => intro W_ hc_; go_simp)) | ((with_reducible refine gate_callee (f := 13) rfl ?_); refine goesL_ (some 44) rfl rfl Tryd.func13 (by kernel_rfl) rfl #[.agg #[.bool t496, .bool t497, .int .i64 t498, .int .i64 t499, .int .i64 t500, .slice Ao78 y508.length co78]] rfl tq ?_; (with_reducible refine (impl_BatchValid.calls kj2 t496 t497 t498 t499 t500 _ _ y508 true _ ?side1 ?side2 A61.out).mono ?_); (case side1 => refine (Kd.N_reads' (e := 41) (base := w.heap.size) (ok := fun k_ => ((w.heap.size ≤ k_) ∧ (k_ ≠ gb491 ∧ (k_ ≠ gb492 ∧ (k_ ≠ gb493 ∧ k_ ≠ gb504))))) (n := y508.length) (c := co78) ?_).2.2; exact (tN HO510.out)); (case side2 => exact (Kd.N_reads' HO510.out).2.1); rintro e w81 ⟨rfl, hb⟩; refine ⟨_, rfl, ?_⟩; replace HO507 := tNb HO507 hb; replace HO510 := tNb HO510 hb; replace BK491 := tBb BK491 hb; replace BK492 := tBb BK492 hb; replace BK493 := tBb BK493 hb; replace BK504 := tBp (o' := .cells #[.bool t496, .bool t497, .int .i64 t498, .int .i64 t499, .int .i64 t500, .slice Ao78 y508.length co78] 25 (0, 0)) BK504 hb; replace HB := tBs HB hb; (try clear hb); (try clear hb2); (try clear hk); (try clear hi); obtain ⟨hcz82_0, hcz82_1, hcz82_2, hcz82_3, hcz82_4, hcz82_5, hfz82_0, hfz82_1, hfz82_2, hfz82_3, hfz82_4, hfz82_5⟩ := cells6 BK504.out; have hnb83 := NB493_492.out; have hnc83 := NB492_493.out; obtain ⟨hcz84_0, hcz84_1, hcz84_2, hcz84_3, hcz84_4, hcz84_5, hfz84_0, hfz84_1, hfz84_2, hfz84_3, hfz84_4, hfz84_5⟩ := cells6 BK493.out))
      refine bodyPost_ret (results_ct rfl _ _ gb493 25 #[.bool t496, .bool t497, .int .i64 t498, .int .i64 t499, .int .i64 t500, .slice Ao78 y508.length co78] (0, 0) _ rfl (tP BK493.out) Tryd.underlying25 rfl (by kernel_rfl)) rfl ?_
      exact ⟨_, by first | rfl | (simp [errW_none, errW_some] <;> rfl) | (simp [*, errW_none, errW_some] <;> rfl), tNm HO510.out, zb⟩
     ·replace c62 := Bool.eq_false_iff.mpr c62
      subst c62
      rw [if_neg (show ¬ (false = true) by decide)] at H
      simp only [Option.some.injEq, Prod.mk.injEq] at H
      obtain ⟨rfl, rfl, rfl, rfl, rfl, rfl, rfl⟩ := H
      have hnb85 := NB491_492.out
      have hnc85 := NB492_491.out
      have hnb86 := NB491_493.out
      have hnc86 := NB493_491.out
      obtain ⟨hcz87_0, hcz87_1, hcz87_2, hcz87_3, hcz87_4, hcz87_5, hfz87_0, hfz87_1, hfz87_2, hfz87_3, hfz87_4, hfz87_5⟩ := cells6 BK491.out
      try go_wp2_with (first | ((with_reducible refine gate_dst (N := 47) rfl ?_); refine glob_ rfl (v := .iface 106 (.pointer (some (ErrA.errA 2)))) (g := 1) ?hr ?hc ?_; (case hc => exact ErrOk.g1 (ErrOk.below HE.out zb) (by decide)); (case hr => intro W_ hc_; go_simp)) | ((with_reducible refine gate_dst (N := 33) rfl ?_); refine glob_ rfl (v := .iface 106 (.pointer (some (ErrA.errA 2)))) (g := 1) ?hr ?hc ?_; (case hc => exact ErrOk.g1 (ErrOk.below HE.out zb) (by decide)); (case hr => intro W_ hc_; go_simp)) | ((with_reducible refine gate_callee (f := 52) rfl ?_); refine goesL_ (some 35) rfl rfl Tryd.func52 (by kernel_rfl) rfl #[.agg #[.bool a0_0, .bool a0_1, .int .i64 a0_2, .int .i64 a0_3, .int .i64 a0_4, .slice A0_5 l0_5.length c0_5]] rfl tq ?_; (with_reducible refine (impl_Batch_copyOf.calls kj2 a0_0 a0_1 a0_2 a0_3 a0_4 _ _ l0_5 t496 t497 t498 t499 t500 t501 _ ?side1 ?side2 A58.out).mono ?_); (case side1 => exact tC (Kd.C_below HR0_5.out HB.out)); (case side2 => exact HC0_5.out); rintro e w88 ⟨v502, rfl, ho0, hb⟩; have u_v502 := tsv Tryd.prog v502 ho0; refine ⟨_, rfl, ?_⟩; have HO503 := Aside0.mk (Kd.N_lower (Kd.N_mono (ok' := fun k_ => (w.heap.size ≤ k_) ∧ k_ ≠ gb491 ∧ k_ ≠ gb492 ∧ k_ ≠ gb493) (Kd.S_N (Kd.S_bound ho0)) (fun k_ hk_ => ⟨(Nat.le_trans (below_size zb) hk_.2.1), (tfB BK491 k_ hk_.2.1), (tfB BK492 k_ hk_.2.1), (tfB BK493 k_ hk_.2.1)⟩)) (below_size zb)); replace BK491 := tBb BK491 hb; replace BK492 := tBb BK492 hb; replace BK493 := tBb BK493 hb; replace HB := tBs HB hb; (try clear hb); (try clear hb2); (try clear hk); (try clear hi); (try clear ho0)) | ((with_reducible refine gate_dst (N := 6) rfl ?_); refine box_event ?hg (N := 6) ?hd (cs := #[.bool false, .bool false, .int .i64 0, .int .i64 0, .int .i64 0, .slice none 0 0]) (t := 25) ?hr ?_; (case hd => rfl); (case hg => rfl); (case hr => first | (go_simp; done) | (go_simp; rfl)); intro gb504 hg w89 hbox hb; replace HO503 := tNB HO503 hg hb; have BK504 := Aside0.mk (hbox); have GW504 := tge HB hg; have GE504 := tge HB hg; replace HB := tBs HB hb; have NB491_504 := tlt BK491 hg; have NB504_491 := tgt BK491 hg; replace BK491 := tBb BK491 hb; have NB492_504 := tlt BK492 hg; have NB504_492 := tgt BK492 hg; replace BK492 := tBb BK492 hb; have NB493_504 := tlt BK493 hg; have NB504_493 := tgt BK493 hg; replace BK493 := tBb BK493 hb; clear hb hbox hg; have hnb90 := NB504_491.out; have hnc90 := NB491_504.out; have hnb91 := NB504_492.out; have hnc91 := NB492_504.out; have hnb92 := NB504_493.out; have hnc92 := NB493_504.out; obtain ⟨hcz93_0, hcz93_1, hcz93_2, hcz93_3, hcz93_4, hcz93_5, hfz93_0, hfz93_1, hfz93_2, hfz93_3, hfz93_4, hfz93_5⟩ := cells6 BK504.out; obtain ⟨Ao94, co94, eo94⟩ := Kd.N_slice HO503.out; subst eo94))
      have n0_ : Aside0 (Kd.N k41 41 ((((((w89.setCell ⟨gb504, 0, none⟩ (.bool t496)).setCell ⟨gb504, 1, none⟩ (.bool t497)).setCell ⟨gb504, 2, none⟩ (.int .i64 t498)).setCell ⟨gb504, 3, none⟩ (.int .i64 t499)).setCell ⟨gb504, 4, none⟩ (.int .i64 t500)).setCell ⟨gb504, 5, none⟩ (.slice Ao94 t501.length co94)) w.heap.size (fun k_ => (w.heap.size ≤ k_) ∧ k_ ≠ gb491 ∧ k_ ≠ gb492 ∧ k_ ≠ gb493 ∧ k_ ≠ gb504) (.slice Ao94 t501.length co94) t501) := ⟨tNm HO503.out⟩
      have n1_ : Aside0 (((((((w89.setCell ⟨gb504, 0, none⟩ (.bool t496)).setCell ⟨gb504, 1, none⟩ (.bool t497)).setCell ⟨gb504, 2, none⟩ (.int .i64 t498)).setCell ⟨gb504, 3, none⟩ (.int .i64 t499)).setCell ⟨gb504, 4, none⟩ (.int .i64 t500)).setCell ⟨gb504, 5, none⟩ (.slice Ao94 t501.length co94)).heap[gb491]? = some (.cells #[.bool a0_0, .bool a0_1, .int .i64 a0_2, .int .i64 a0_3, .int .i64 a0_4, .slice A0_5 l0_5.length c0_5] 25 (0, 0))) := ⟨tH BK491.out⟩
      have n2_ : Aside0 (((((((w89.setCell ⟨gb504, 0, none⟩ (.bool t496)).setCell ⟨gb504, 1, none⟩ (.bool t497)).setCell ⟨gb504, 2, none⟩ (.int .i64 t498)).setCell ⟨gb504, 3, none⟩ (.int .i64 t499)).setCell ⟨gb504, 4, none⟩ (.int .i64 t500)).setCell ⟨gb504, 5, none⟩ (.slice Ao94 t501.length co94)).heap[gb492]? = some (.cells #[.bool a1_0, .bool a1_1, .int .i64 a1_2, .int .i64 a1_3, .int .i64 a1_4, .slice A1_5 l1_5.length c1_5] 25 (0, 0))) := ⟨tH BK492.out⟩
      have n3_ : Aside0 (((((((w89.setCell ⟨gb504, 0, none⟩ (.bool t496)).setCell ⟨gb504, 1, none⟩ (.bool t497)).setCell ⟨gb504, 2, none⟩ (.int .i64 t498)).setCell ⟨gb504, 3, none⟩ (.int .i64 t499)).setCell ⟨gb504, 4, none⟩ (.int .i64 t500)).setCell ⟨gb504, 5, none⟩ (.slice Ao94 t501.length co94)).heap[gb493]? = some (.cells #[.bool false, .bool false, .int .i64 0, .int .i64 0, .int .i64 0, .slice none 0 0] 25 (0, 0))) := ⟨tH BK493.out⟩
      have n4_ : Aside0 (((((((w89.setCell ⟨gb504, 0, none⟩ (.bool t496)).setCell ⟨gb504, 1, none⟩ (.bool t497)).setCell ⟨gb504, 2, none⟩ (.int .i64 t498)).setCell ⟨gb504, 3, none⟩ (.int .i64 t499)).setCell ⟨gb504, 4, none⟩ (.int .i64 t500)).setCell ⟨gb504, 5, none⟩ (.slice Ao94 t501.length co94)).heap[gb504]? = some (.cells #[.bool t496, .bool t497, .int .i64 t498, .int .i64 t499, .int .i64 t500, .slice Ao94 t501.length co94] 25 (0, 0))) := ⟨tP BK504.out⟩
      have n5_ : Aside0 (Below w.heap.size w ((((((w89.setCell ⟨gb504, 0, none⟩ (.bool t496)).setCell ⟨gb504, 1, none⟩ (.bool t497)).setCell ⟨gb504, 2, none⟩ (.int .i64 t498)).setCell ⟨gb504, 3, none⟩ (.int .i64 t499)).setCell ⟨gb504, 4, none⟩ (.int .i64 t500)).setCell ⟨gb504, 5, none⟩ (.slice Ao94 t501.length co94))) := ⟨zb⟩
      (try clear HO503)
      (try clear BK491)
      (try clear BK492)
      (try clear BK493)
      (try clear BK504)
      (try clear HB)
      generalize ((((((w89.setCell ⟨gb504, 0, none⟩ (.bool t496)).setCell ⟨gb504, 1, none⟩ (.bool t497)).setCell ⟨gb504, 2, none⟩ (.int .i64 t498)).setCell ⟨gb504, 3, none⟩ (.int .i64 t499)).setCell ⟨gb504, 4, none⟩ (.int .i64 t500)).setCell ⟨gb504, 5, none⟩ (.slice Ao94 t501.length co94)) = w95 at n0_ n1_ n2_ n3_ n4_ n5_ ⊢
      have HO503 := n0_
      have BK491 := n1_
      have BK492 := n2_
      have BK493 := n3_
      have BK504 := n4_
      have HB := n5_
      clear n0_ n1_ n2_ n3_ n4_ n5_
      replace HO503 := Aside0.mk (Kd.N_drew HO503.out)
      replace BK491 := Aside0.mk (blk_drew BK491.out)
      replace BK492 := Aside0.mk (blk_drew BK492.out)
      replace BK493 := Aside0.mk (blk_drew BK493.out)
      replace BK504 := Aside0.mk (blk_drew BK504.out)
      replace HB := Aside0.mk (below_drew1 HB.out)
      refine start_ (n := 8) (S := fun w' => w'.cell? ⟨gb504, 0, none⟩ = some (.bool t496) ∧ w'.cell? ⟨gb504, 1, none⟩ = some (.bool t497) ∧ w'.cell? ⟨gb504, 2, none⟩ = some (.int .i64 t498) ∧ w'.cell? ⟨gb504, 3, none⟩ = some (.int .i64 t499) ∧ w'.cell? ⟨gb504, 4, none⟩ = some (.int .i64 t500) ∧ w'.cell? ⟨gb504, 5, none⟩ = some (.slice Ao94 t501.length co94) ∧ w'.cell? ⟨gb492, 0, none⟩ = some (.bool a1_0) ∧ w'.cell? ⟨gb492, 1, none⟩ = some (.bool a1_1) ∧ w'.cell? ⟨gb492, 2, none⟩ = some (.int .i64 a1_2) ∧ w'.cell? ⟨gb492, 3, none⟩ = some (.int .i64 a1_3) ∧ w'.cell? ⟨gb492, 4, none⟩ = some (.int .i64 a1_4) ∧ w'.cell? ⟨gb492, 5, none⟩ = some (.slice A1_5 l1_5.length c1_5)) (ds := [7]) #[false, false, false, false, false, false, false, false] (by kernel_rfl) rfl rfl ⟨(blk_cell BK504.out 0).trans rfl, (blk_cell BK504.out 1).trans rfl, (blk_cell BK504.out 2).trans rfl, (blk_cell BK504.out 3).trans rfl, (blk_cell BK504.out 4).trans rfl, (blk_cell BK504.out 5).trans rfl, (blk_cell BK492.out 0).trans rfl, (blk_cell BK492.out 1).trans rfl, (blk_cell BK492.out 2).trans rfl, (blk_cell BK492.out 3).trans rfl, (blk_cell BK492.out 4).trans rfl, (blk_cell BK492.out 5).trans rfl⟩ (fun hHeld => ?_); refine with_tabW impl_Batch_join.tab4 impl_Batch_join.bits4 (fun HT_ HW_ => ?_)
      generalize w95.drew = w96 at HO503 BK491 BK492 BK493 BK504 HB hHeld ⊢
      refine pure_ (i := 0) (N := some 36) (v := ?_) (a' := ?_) #[true, false, false, false, false, false, false, false] rfl rfl (any_of HT_.out (by kernel_rfl)) (fun _ _ _ h => h) (Or.inl ⟨by rfl, ?_⟩) ?_ ?_
      rotate_left
      ·intro w'
       go_simp
       with_reducible rfl
      rotate_left
      ·simp only [Act.put, List.setIfInBounds_toArray, List.set_cons_zero, List.set_cons_succ, i64_w, i32_w]
       rfl
      refine pure_ (i := 2) (N := some 38) (v := ?_) (a' := ?_) #[true, false, true, false, false, false, false, false] rfl rfl (any_of HT_.out (by kernel_rfl)) (fun _ _ _ h => h) (Or.inl ⟨by rfl, ?_⟩) ?_ ?_
      rotate_left
      ·intro w'
       go_simp
       with_reducible rfl
      rotate_left
      ·simp only [Act.put, List.setIfInBounds_toArray, List.set_cons_zero, List.set_cons_succ, i64_w, i32_w]
       rfl
      refine take_ (i := 1) (N := some 37) (v := ?_) (a' := ?_) #[true, true, true, false, false, false, false, false] rfl rfl (take_ofW HT_.out HW_.out (by kernel_rfl)) (fun _ _ _ h => h) (Or.inl ⟨by rfl, ?_⟩) hHeld ?_ ?_
      rotate_left
      ·rintro w' ⟨s0, s1, s2, s3, s4, s5, s6, s7, s8, s9, s10, s11⟩
       go_simp
       with_reducible rfl
      rotate_left
      ·simp only [Act.put, List.setIfInBounds_toArray, List.set_cons_zero, List.set_cons_succ, i64_w, i32_w]
       rfl
      refine take_ (i := 3) (N := some 39) (v := ?_) (a' := ?_) #[true, true, true, true, false, false, false, false] rfl rfl (take_ofW HT_.out HW_.out (by kernel_rfl)) (fun _ _ _ h => h) (Or.inl ⟨by rfl, ?_⟩) hHeld ?_ ?_
      rotate_left
      ·rintro w' ⟨s0, s1, s2, s3, s4, s5, s6, s7, s8, s9, s10, s11⟩
       go_simp
       with_reducible rfl
      rotate_left
      ·simp only [Act.put, List.setIfInBounds_toArray, List.set_cons_zero, List.set_cons_succ, i64_w, i32_w]
       rfl
      refine one_ (i := 4) (N := some 40) #[true, true, true, true, true, false, false, false] rfl rfl (one_of HT_.out (by kernel_rfl)) (by decide) (fun K hK => ?_)
      refine goes_ Tryd.func53 (by kernel_rfl) rfl #[.slice A1_5 l1_5.length c1_5] (by rfl) rfl rfl tq ?_
      with_reducible refine (impl_copyRecords.calls kj2 _ _ l1_5 t505 _ ?side1 ?side2 A59.out).mono ?_
      (case side1 => exact tC (Kd.C_below HR1_5.out HB.out))
      (case side2 => exact HC1_5.out)
      rintro e w97 ⟨v506, rfl, ho0, hb⟩
      refine ⟨_, rfl, ?_⟩
      have HO507 := Aside0.mk (Kd.N_lower (Kd.N_mono (ok' := fun k_ => (w.heap.size ≤ k_) ∧ some k_ ≠ (.slice Ao94 t501.length co94 : Value).ownBlock ∧ k_ ≠ gb491 ∧ k_ ≠ gb492 ∧ k_ ≠ gb493 ∧ k_ ≠ gb504) (Kd.S_N (Kd.S_bound ho0)) (fun k_ hk_ => ⟨(Nat.le_trans (below_size zb) hk_.2.1), (tfr HO503 k_ hk_.2.1), (tfB BK491 k_ hk_.2.1), (tfB BK492 k_ hk_.2.1), (tfB BK493 k_ hk_.2.1), (tfB BK504 k_ hk_.2.1)⟩)) (below_size zb))
      replace HO503 := tNe HO503 ho0 hb
      replace BK491 := tBb BK491 hb
      replace BK492 := tBb BK492 hb
      replace BK493 := tBb BK493 hb
      replace BK504 := tBb BK504 hb
      replace HB := tBs HB hb
      (try clear hb)
      (try clear hb2)
      (try clear hk)
      (try clear hi)
      (try clear ho0)
      obtain ⟨Ao99, co99, eo99⟩ := Kd.N_slice HO507.out
      (first | subst eo99 | (injection eo99 with f1_ f2_ f3_; have f4_ := f1_.symm; have f5_ := f3_.symm; clear f1_ f2_ f3_; subst f4_; subst f5_))
      refine hK.out _ _ ⟨(blk_cell BK504.out 0).trans rfl, (blk_cell BK504.out 1).trans rfl, (blk_cell BK504.out 2).trans rfl, (blk_cell BK504.out 3).trans rfl, (blk_cell BK504.out 4).trans rfl, (blk_cell BK504.out 5).trans rfl, (blk_cell BK492.out 0).trans rfl, (blk_cell BK492.out 1).trans rfl, (blk_cell BK492.out 2).trans rfl, (blk_cell BK492.out 3).trans rfl, (blk_cell BK492.out 4).trans rfl, (blk_cell BK492.out 5).trans rfl⟩ (fun hHeld => ?_)
      clear hK K
      refine norm_ (a' := ?_) ?_ ?_
      rotate_left
      ·show Act.put _ (some 40) _ = _
       simp only [Act.put, List.setIfInBounds_toArray, List.set_cons_zero, List.set_cons_succ, i64_w, i32_w]
       rfl
      refine one_ (i := 5) (N := some 41) #[true, true, true, true, true, true, false, false] rfl rfl (one_of HT_.out (by kernel_rfl)) (by decide) (fun K hK => ?_)
      refine Kd.N_append_rows_step k41 (w0 := w) w.heap.size (by rfl) (.tmp 37) (.tmp 40) 23 41 (.agg #[(.int .i64 0), (.int .i64 0), (.bool false), (.slice none 0 0), (.bool false), (.slice none 0 0)]) 80 rfl Tryd.underlying23 info41 rfl (by decide) (by omega) (.slice Ao94 t501.length co94) t501 t505 _ _ _ (fun k_ => (w.heap.size ≤ k_) ∧ k_ ≠ gb491 ∧ k_ ≠ gb492 ∧ k_ ≠ gb493 ∧ k_ ≠ gb504) (fun k_ => ((fun k_ => (w.heap.size ≤ k_) ∧ k_ ≠ gb491 ∧ k_ ≠ gb492 ∧ k_ ≠ gb493 ∧ k_ ≠ gb504)) k_ ∧ some k_ ≠ (.slice Ao94 t501.length co94 : Value).ownBlock) rfl rfl ?aO ?aR (fun _ hk => hk) ?aF ?aB ?aS ?aL ?_
      (case aR => exact (by skip; exact Kd.N_F (Kd.N_mono (ok' := (fun k_ => ((fun k_ => (w.heap.size ≤ k_) ∧ k_ ≠ gb491 ∧ k_ ≠ gb492 ∧ k_ ≠ gb493 ∧ k_ ≠ gb504)) k_ ∧ some k_ ≠ (.slice Ao94 t501.length co94 : Value).ownBlock)) (HO507.out) (fun k_ hk => ⟨⟨hk.1, ⟨hk.2.2.1, ⟨hk.2.2.2.1, ⟨hk.2.2.2.2.1, hk.2.2.2.2.2⟩⟩⟩⟩, hk.2.1⟩))))
      (case aB => exact zb)
      (case aF => exact (fun k_ hk => ⟨(Nat.le_trans (below_size zb) hk), tfB BK491 k_ hk, tfB BK492 k_ hk, tfB BK493 k_ hk, tfB BK504 k_ hk⟩))
      (case aO => exact (tNm HO503.out))
      (case aS => exact (below_size zb))
      (case aL => have := LMc60.out; omega)
      intro v509 w98 ho hb hg hat
      rw [← Ny508.out] at ho
      replace BK491 := Aside0.mk (blk_grown (tH BK491.out) hg (Kd.N_ne HO503.out BK491.out (by decide)))
      replace BK492 := Aside0.mk (blk_grown (tH BK492.out) hg (Kd.N_ne HO503.out BK492.out (by decide)))
      replace BK493 := Aside0.mk (blk_grown (tH BK493.out) hg (Kd.N_ne HO503.out BK493.out (by decide)))
      replace BK504 := Aside0.mk (blk_grown (tH BK504.out) hg (Kd.N_ne HO503.out BK504.out (by decide)))
      replace HO507 := Aside0.mk (Kd.N_afterv (ok := (fun k_ => (w.heap.size ≤ k_) ∧ k_ ≠ gb491 ∧ k_ ≠ gb492 ∧ k_ ≠ gb493 ∧ k_ ≠ gb504)) (tNm HO507.out) hg hat)
      replace HB := Aside0.mk (hb)
      have HO510 := Aside0.mk (ho)
      clear HO503
      clear ho hb hg hat
      obtain ⟨Ao100, co100, eo100⟩ := Kd.N_slice HO510.out
      (first | subst eo100 | (injection eo100 with f1_ f2_ f3_; have f4_ := f1_.symm; have f5_ := f3_.symm; clear f1_ f2_ f3_; subst f4_; subst f5_))
      refine hK.out _ _ ⟨(blk_cell BK504.out 0).trans rfl, (blk_cell BK504.out 1).trans rfl, (blk_cell BK504.out 2).trans rfl, (blk_cell BK504.out 3).trans rfl, (blk_cell BK504.out 4).trans rfl, (blk_cell BK504.out 5).trans rfl, (blk_cell BK492.out 0).trans rfl, (blk_cell BK492.out 1).trans rfl, (blk_cell BK492.out 2).trans rfl, (blk_cell BK492.out 3).trans rfl, (blk_cell BK492.out 4).trans rfl, (blk_cell BK492.out 5).trans rfl⟩ (fun hHeld => ?_)
      clear hK K
      refine norm_ (a' := ?_) ?_ ?_
      rotate_left
      ·show Act.put _ (some 41) _ = _
       simp only [Act.put, List.setIfInBounds_toArray, List.set_cons_zero, List.set_cons_succ, i64_w, i32_w]
       rfl
      refine pure_ (i := 6) (N := some 42) (v := ?_) (a' := ?_) #[true, true, true, true, true, true, true, false] rfl rfl (any_of HT_.out (by kernel_rfl)) (fun _ _ _ h => h) (Or.inl ⟨by rfl, ?_⟩) ?_ ?_
      rotate_left
      ·intro w'
       go_simp
       with_reducible rfl
      rotate_left
      ·simp only [Act.put, List.setIfInBounds_toArray, List.set_cons_zero, List.set_cons_succ, i64_w, i32_w]
       rfl
      refine last_ (i := 7) (N := none) #[true, true, true, true, true, true, true, true] rfl rfl (one_of HT_.out (by kernel_rfl)) (by decide) (fun K hK => ?_)
      have hs101 : w98.cell? ⟨gb504, 5, none⟩ = some (.slice Ao94 t501.length co94) := (blk_cell BK504.out 5).trans rfl
      have hfs101 := blk_frozen BK504.out 5
      have hns101_0 := NB491_504.out
      have hns101_1 := NB492_504.out
      have hns101_2 := NB493_504.out
      have hms101_0 := NB504_491.out
      have hms101_1 := NB504_492.out
      have hms101_2 := NB504_493.out
      refine skip_ (w1 := ?_) (by rfl) rfl ?_ ?_
      rotate_left
      ·go_simp
       rfl
      refine hK.out _ _ ?_
      clear hK K
      refine done_ (done_of HT_.out (by kernel_rfl)) ?_
      obtain ⟨hcz102_0, hcz102_1, hcz102_2, hcz102_3, hcz102_4, hcz102_5, hfz102_0, hfz102_1, hfz102_2, hfz102_3, hfz102_4, hfz102_5⟩ := cells6 BK504.out
      try go_wp2_with (first | ((with_reducible refine gate_dst (N := 47) rfl ?_); refine glob_ rfl (v := .iface 106 (.pointer (some (ErrA.errA 2)))) (g := 1) ?hr ?hc ?_; (case hc => exact ErrOk.g1 (ErrOk.below HE.out zb) (by decide)); (case hr => intro W_ hc_; go_simp)) | ((with_reducible refine gate_dst (N := 33) rfl ?_); refine glob_ rfl (v := .iface 106 (.pointer (some (ErrA.errA 2)))) (g := 1) ?hr ?hc ?_; (case hc => exact ErrOk.g1 (ErrOk.below HE.out zb) (by decide)); (case hr => intro W_ hc_; go_simp)) | ((with_reducible refine gate_callee (f := 13) rfl ?_); refine goesL_ (some 44) rfl rfl Tryd.func13 (by kernel_rfl) rfl #[.agg #[.bool t496, .bool t497, .int .i64 t498, .int .i64 t499, .int .i64 t500, .slice Ao100 y508.length co100]] rfl tq ?_; (with_reducible refine (impl_BatchValid.calls kj2 t496 t497 t498 t499 t500 _ _ y508 false _ ?side1 ?side2 A61.out).mono ?_); (case side1 => refine (Kd.N_reads' (e := 41) (base := w.heap.size) (ok := fun k_ => ((w.heap.size ≤ k_) ∧ (k_ ≠ gb491 ∧ (k_ ≠ gb492 ∧ (k_ ≠ gb493 ∧ k_ ≠ gb504))))) (n := y508.length) (c := co100) ?_).2.2; exact (tN HO510.out)); (case side2 => exact (Kd.N_reads' HO510.out).2.1); rintro e w103 ⟨rfl, hb⟩; refine ⟨_, rfl, ?_⟩; replace HO507 := tNb HO507 hb; replace HO510 := tNb HO510 hb; replace BK491 := tBb BK491 hb; replace BK492 := tBb BK492 hb; replace BK493 := tBb BK493 hb; replace BK504 := tBp (o' := .cells #[.bool t496, .bool t497, .int .i64 t498, .int .i64 t499, .int .i64 t500, .slice Ao100 y508.length co100] 25 (0, 0)) BK504 hb; replace HB := tBs HB hb; (try clear hb); (try clear hb2); (try clear hk); (try clear hi)))
      replace HO507 := Aside0.mk (Kd.N_drew HO507.out)
      replace HO510 := Aside0.mk (Kd.N_drew HO510.out)
      replace BK491 := Aside0.mk (blk_drew BK491.out)
      replace BK492 := Aside0.mk (blk_drew BK492.out)
      replace BK493 := Aside0.mk (blk_drew BK493.out)
      replace BK504 := Aside0.mk (blk_drew BK504.out)
      replace HB := Aside0.mk (below_drew1 HB.out)
      refine start_ (n := 4) (S := ErrOk [1]) (ds := []) #[false, false, false, false] (by kernel_rfl) rfl rfl (ErrOk.below HE.out HB.out) (fun hHeld => ?_)
      generalize w103.drew = w104 at HO507 HO510 BK491 BK492 BK493 BK504 HB hHeld ⊢
      refine pure_ (i := 0) (N := some 46) (v := ?_) (a' := ?_) #[true, false, false, false] rfl rfl (by kernel_rfl) (fun _ _ _ h => h) (Or.inl ⟨by rfl, ?_⟩) ?_ ?_
      rotate_left
      ·intro w'
       go_simp
       with_reducible rfl
      rotate_left
      ·simp only [Act.put, List.setIfInBounds_toArray, List.set_cons_zero, List.set_cons_succ, i64_w, i32_w]
       rfl
      refine take_ (i := 1) (N := some 47) (v := ?_) (a' := ?_) #[true, true, false, false] rfl rfl (by kernel_rfl) (fun _ _ _ h => h) (Or.inl ⟨by rfl, ?_⟩) hHeld ?_ ?_
      rotate_left
      ·intro w' hS_
       try have hg0_ := ErrOk.g0 hS_ (by decide)
       try have hg1_ := ErrOk.g1 hS_ (by decide)
       clear hS_
       go_simp
       with_reducible rfl
      rotate_left
      ·simp only [Act.put, List.setIfInBounds_toArray, List.set_cons_zero, List.set_cons_succ, i64_w, i32_w]
       rfl
      refine one_ (i := 2) (N := none) #[true, true, true, false] rfl rfl (by kernel_rfl) (by decide) (fun K hK => ?_)
      have hs105 : w104.cell? ⟨gb493, 0, none⟩ = some (.bool false) := (blk_cell BK493.out 0).trans rfl
      have hfs105 := blk_frozen BK493.out 0
      have hns105_0 := NB491_493.out
      have hns105_1 := NB492_493.out
      have hns105_3 := NB504_493.out
      have hms105_0 := NB493_491.out
      have hms105_1 := NB493_492.out
      have hms105_3 := NB493_504.out
      have hs106 : w104.cell? ⟨gb493, 1, none⟩ = some (.bool false) := (blk_cell BK493.out 1).trans rfl
      have hfs106 := blk_frozen BK493.out 1
      have hns106_0 := NB491_493.out
      have hns106_1 := NB492_493.out
      have hns106_3 := NB504_493.out
      have hms106_0 := NB493_491.out
      have hms106_1 := NB493_492.out
      have hms106_3 := NB493_504.out
      have hs107 : w104.cell? ⟨gb493, 2, none⟩ = some (.int .i64 0) := (blk_cell BK493.out 2).trans rfl
      have hfs107 := blk_frozen BK493.out 2
      have hns107_0 := NB491_493.out
      have hns107_1 := NB492_493.out
      have hns107_3 := NB504_493.out
      have hms107_0 := NB493_491.out
      have hms107_1 := NB493_492.out
      have hms107_3 := NB493_504.out
      have hs108 : w104.cell? ⟨gb493, 3, none⟩ = some (.int .i64 0) := (blk_cell BK493.out 3).trans rfl
      have hfs108 := blk_frozen BK493.out 3
      have hns108_0 := NB491_493.out
      have hns108_1 := NB492_493.out
      have hns108_3 := NB504_493.out
      have hms108_0 := NB493_491.out
      have hms108_1 := NB493_492.out
      have hms108_3 := NB493_504.out
      have hs109 : w104.cell? ⟨gb493, 4, none⟩ = some (.int .i64 0) := (blk_cell BK493.out 4).trans rfl
      have hfs109 := blk_frozen BK493.out 4
      have hns109_0 := NB491_493.out
      have hns109_1 := NB492_493.out
      have hns109_3 := NB504_493.out
      have hms109_0 := NB493_491.out
      have hms109_1 := NB493_492.out
      have hms109_3 := NB493_504.out
      have hs110 : w104.cell? ⟨gb493, 5, none⟩ = some (.slice none 0 0) := (blk_cell BK493.out 5).trans rfl
      have hfs110 := blk_frozen BK493.out 5
      have hns110_0 := NB491_493.out
      have hns110_1 := NB492_493.out
      have hns110_3 := NB504_493.out
      have hms110_0 := NB493_491.out
      have hms110_1 := NB493_492.out
      have hms110_3 := NB493_504.out
      refine skip_ (w1 := ?_) (by rfl) rfl ?_ ?_
      rotate_left
      ·go_simp
       rfl
      refine hK.out _ _ (by repeat (first | (with_reducible exact hHeld) | (with_reducible refine ErrOk.set HE.out ?_ (by with_reducible first | exact GE491.out | exact GE492.out | exact GE493.out | exact GE504.out) _ _))) (fun hHeld => ?_)
      clear hK K
      refine pure_ (i := 3) (N := some 5) (v := ?_) (a' := ?_) #[true, true, true, true] rfl rfl (by kernel_rfl) (fun _ _ _ h => h) (Or.inl ⟨by rfl, ?_⟩) ?_ ?_
      rotate_left
      ·intro w'
       go_simp
       with_reducible rfl
      rotate_left
      ·simp only [Act.put, List.setIfInBounds_toArray, List.set_cons_zero, List.set_cons_succ, i64_w, i32_w]
       rfl
      refine done_ (by kernel_rfl) ?_
      try go_wp2
      refine bodyPost_ret (results_ct rfl _ _ gb493 25 #[.bool false, .bool false, .int .i64 0, .int .i64 0, .int .i64 0, .slice none 0 0] (0, 0) _ rfl (tP BK493.out) Tryd.underlying25 rfl (by kernel_rfl)) rfl ?_
      exact ⟨_, by first | rfl | (simp [errW_none, errW_some] <;> rfl) | (simp [*, errW_none, errW_some] <;> rfl), by first | exact Kd.S_nil _ _ _ _ _ | exact Kd.N_nil _ _ _ _ _ | exact Kd.V_nil _ _ _ _ _ | exact Kd.Q_nil _ _ _ _ _ | exact Kd.R_nil _ _ _ _ _, zb⟩
    ·rw [if_neg c60] at H
     exact absurd H (by simp)

end Go.Proofs.YtahenocndacjeaaDoor.G

namespace Go.Proofs.YtahenocndacjeaaDoor.G
open Go.RowKit Go.Proofs.YtahenocndacjeaaDoorW.PrintWords Go.Proofs.YtahenocndacjeaaDoorW.PrintLast Go.Proofs.YtahenocndacjeaaDoorW.PrintMore
attribute [local go_sem] max2_int min2_int max_two min_two max_three min_three max_four min_four   -- for this text's walks alone
set_option linter.unusedVariables false
set_option linter.unusedSimpArgs false

def impl_BatchJoin.f (k : Nat) (a0_0 : Bool) (a0_1 : Bool) (a0_2 : Int) (a0_3 : Int) (a0_4 : Int) (l0_5 : List (S41)) (a1_0 : Bool) (a1_1 : Bool) (a1_2 : Int) (a1_3 : Int) (a1_4 : Int) (l1_5 : List (S41)) : Option (Bool × Bool × Int × Int × Int × (List (S41)) × Bool) := (impl_Batch_join.f k a0_0 a0_1 a0_2 a0_3 a0_4 l0_5 a1_0 a1_1 a1_2 a1_3 a1_4 l1_5).bind fun bt515 => ((errors_Is.f bt515.2.2.2.2.2.2 (some 2)).bind fun t525 => (if t525 = true then (some (false, false, 0, 0, 0, ([] : List (S41)), false)) else (some (bt515.1, bt515.2.1, bt515.2.2.1, bt515.2.2.2.1, bt515.2.2.2.2.1, bt515.2.2.2.2.2.1, true))))
set_option maxHeartbeats 40000000 in
set_option maxRecDepth 100000 in
theorem impl_BatchJoin.calls [ErrA] (k : Nat) (a0_0 : Bool) (a0_1 : Bool) (a0_2 : Int) (a0_3 : Int) (a0_4 : Int) (A0_5 : Option Addr) (c0_5 : Nat) (l0_5 : List (S41)) (a1_0 : Bool) (a1_1 : Bool) (a1_2 : Int) (a1_3 : Int) (a1_4 : Int) (A1_5 : Option Addr) (c1_5 : Nat) (l1_5 : List (S41)) (r1 : Bool) (r2 : Bool) (r3 : Int) (r4 : Int) (r5 : Int) (r6 : List (S41)) (r7 : Bool) (w : World) (hE : ErrOk [1] w) (hr0_5 : Kd.C k41 w A0_5 l0_5.length l0_5) (hc0_5 : l0_5.length ≤ c0_5) (hr1_5 : Kd.C k41 w A1_5 l1_5.length l1_5) (hc1_5 : l1_5.length ≤ c1_5) (h : impl_BatchJoin.f k a0_0 a0_1 a0_2 a0_3 a0_4 l0_5 a1_0 a1_1 a1_2 a1_3 a1_4 l1_5 = some (r1, r2, r3, r4, r5, r6, r7)) :
  Calls Tryd.prog 14 #[.agg #[.bool a0_0, .bool a0_1, .int .i64 a0_2, .int .i64 a0_3, .int .i64 a0_4, .slice A0_5 l0_5.length c0_5], .agg #[.bool a1_0, .bool a1_1, .int .i64 a1_2, .int .i64 a1_3, .int .i64 a1_4, .slice A1_5 l1_5.length c1_5]] w fun e w' => ∃ v5_ : Value, e = .returned (.tuple #[.agg #[.bool r1, .bool r2, .int .i64 r3, .int .i64 r4, .int .i64 r5, v5_], .bool r7]) ∧ Kd.N k41 41 w' w.heap.size (fun k_ => (w.heap.size ≤ k_)) v5_ r6 ∧ Below w.heap.size w w' := by
 have HE := Aside0.mk hE
 clear hE
 have hu25 := Tryd.underlying25
 have HR0_5 := Aside0.mk hr0_5
 have HC0_5 := Aside0.mk hc0_5
 clear hr0_5 hc0_5
 have HR1_5 := Aside0.mk hr1_5
 have HC1_5 := Aside0.mk hc1_5
 clear hr1_5 hc1_5
 have HB := Aside0.mk (Below.refl w.heap.size w)
 have H : ((impl_Batch_join.f k a0_0 a0_1 a0_2 a0_3 a0_4 l0_5 a1_0 a1_1 a1_2 a1_3 a1_4 l1_5).bind fun bt515 => ((errors_Is.f bt515.2.2.2.2.2.2 (some 2)).bind fun t525 => (if t525 = true then (some (false, false, 0, 0, 0, ([] : List (S41)), false)) else (some (bt515.1, bt515.2.1, bt515.2.2.1, bt515.2.2.2.1, bt515.2.2.2.2.1, bt515.2.2.2.2.2.1, true))))) = some (r1, r2, r3, r4, r5, r6, r7) := h
 clear h
 replace H := tbe H
 obtain ⟨⟨t515, t516, t517, t518, t519, t520, t523⟩, A3, H⟩ := H
 dsimp only at H
 replace H := tbe H
 obtain ⟨t525, A4, H⟩ := H
 by_cases c5 : t525 = true
 ·subst c5
  rw [if_pos rfl] at H
  simp only [Option.some.injEq, Prod.mk.injEq] at H
  obtain ⟨rfl, rfl, rfl, rfl, rfl, rfl, rfl⟩ := H
  go_enter Tryd.func14, Tryd.ntmps14
  go_wp2_with (first | ((with_reducible refine gate_dst (N := 15) rfl ?_); refine glob_ rfl (v := .iface 106 (.pointer (some (ErrA.errA 2)))) (g := 1) ?hr ?hc ?_; (case hc => exact ErrOk.g1 (ErrOk.below HE.out zb) (by decide)); (case hr => intro W_ hc_; go_simp)) | ((with_reducible refine gate_dst (N := 2) rfl ?_); refine box_event ?hg (N := 2) ?hd (cs := #[.bool a0_0, .bool a0_1, .int .i64 a0_2, .int .i64 a0_3, .int .i64 a0_4, .slice A0_5 l0_5.length c0_5]) (t := 25) ?hr ?_; (case hd => rfl); (case hg => rfl); (case hr => first | (go_simp; done) | (go_simp; rfl)); intro gb512 hg w6 hbox hb; have BK512 := Aside0.mk (hbox); have GW512 := tge HB hg; have GE512 := tge HB hg; replace HB := tBs HB hb; clear hb hbox hg) | ((with_reducible refine gate_dst (N := 3) rfl ?_); refine box_event ?hg (N := 3) ?hd (cs := #[.bool a1_0, .bool a1_1, .int .i64 a1_2, .int .i64 a1_3, .int .i64 a1_4, .slice A1_5 l1_5.length c1_5]) (t := 25) ?hr ?_; (case hd => rfl); (case hg => rfl); (case hr => first | (go_simp; done) | (go_simp; rfl)); intro gb513 hg w7 hbox hb; have BK513 := Aside0.mk (hbox); have GW513 := tge HB hg; have GE513 := tge HB hg; replace HB := tBs HB hb; have NB512_513 := tlt BK512 hg; have NB513_512 := tgt BK512 hg; replace BK512 := tBb BK512 hb; clear hb hbox hg) | ((with_reducible refine gate_dst (N := 4) rfl ?_); refine box_event ?hg (N := 4) ?hd (cs := #[.bool false, .bool false, .int .i64 0, .int .i64 0, .int .i64 0, .slice none 0 0]) (t := 25) ?hr ?_; (case hd => rfl); (case hg => rfl); (case hr => first | (go_simp; done) | (go_simp; rfl)); intro gb514 hg w8 hbox hb; have BK514 := Aside0.mk (hbox); have GW514 := tge HB hg; have GE514 := tge HB hg; replace HB := tBs HB hb; have NB512_514 := tlt BK512 hg; have NB514_512 := tgt BK512 hg; replace BK512 := tBb BK512 hb; have NB513_514 := tlt BK513 hg; have NB514_513 := tgt BK513 hg; replace BK513 := tBb BK513 hb; clear hb hbox hg; have hnb9 := NB512_513.out; have hnc9 := NB513_512.out; have hnb10 := NB512_514.out; have hnc10 := NB514_512.out; obtain ⟨hcz11_0, hcz11_1, hcz11_2, hcz11_3, hcz11_4, hcz11_5, hfz11_0, hfz11_1, hfz11_2, hfz11_3, hfz11_4, hfz11_5⟩ := cells6 BK512.out; have hnb12 := NB513_514.out; have hnc12 := NB514_513.out; obtain ⟨hcz13_0, hcz13_1, hcz13_2, hcz13_3, hcz13_4, hcz13_5, hfz13_0, hfz13_1, hfz13_2, hfz13_3, hfz13_4, hfz13_5⟩ := cells6 BK513.out) | ((with_reducible refine gate_callee (f := 36) rfl ?_); refine goesL_ (some 11) rfl rfl Tryd.func36 (by kernel_rfl) rfl #[.agg #[.bool a0_0, .bool a0_1, .int .i64 a0_2, .int .i64 a0_3, .int .i64 a0_4, .slice A0_5 l0_5.length c0_5], .agg #[.bool a1_0, .bool a1_1, .int .i64 a1_2, .int .i64 a1_3, .int .i64 a1_4, .slice A1_5 l1_5.length c1_5]] rfl tq ?_; (with_reducible refine (impl_Batch_join.calls (hE := ?sideE) k a0_0 a0_1 a0_2 a0_3 a0_4 _ _ l0_5 a1_0 a1_1 a1_2 a1_3 a1_4 _ _ l1_5 t515 t516 t517 t518 t519 t520 t523 _ ?side1 ?side2 ?side3 ?side4 A3.out).mono ?_); (case sideE => exact ErrOk.below (HE.out.sub (by decide)) zb); (case side1 => exact tC (Kd.C_below HR0_5.out HB.out)); (case side2 => exact HC0_5.out); (case side3 => exact tC (Kd.C_below HR1_5.out HB.out)); (case side4 => exact HC1_5.out); rintro e w14 ⟨v521, rfl, ho0, hb⟩; have u_v521 := tsv Tryd.prog v521 ho0; refine ⟨_, rfl, ?_⟩; have HO522 := Aside0.mk (Kd.N_lower (Kd.N_mono (ok' := fun k_ => (w.heap.size ≤ k_) ∧ k_ ≠ gb512 ∧ k_ ≠ gb513 ∧ k_ ≠ gb514) ho0 (fun k_ hk_ => ⟨(Nat.le_trans (below_size zb) hk_), (tfB BK512 k_ hk_), (tfB BK513 k_ hk_), (tfB BK514 k_ hk_)⟩)) (below_size zb)); replace BK512 := tBb BK512 hb; replace BK513 := tBb BK513 hb; replace BK514 := tBb BK514 hb; replace HB := tBs HB hb; (try clear hb); (try clear hb2); (try clear hk); (try clear hi); (try clear ho0); (try simp only [errW_none, errW_some])) | ((with_reducible refine gate_dst (N := 6) rfl ?_); refine box_event ?hg (N := 6) ?hd (cs := #[.bool false, .bool false, .int .i64 0, .int .i64 0, .int .i64 0, .slice none 0 0]) (t := 25) ?hr ?_; (case hd => rfl); (case hg => rfl); (case hr => first | (go_simp; done) | (go_simp; rfl)); intro gb524 hg w15 hbox hb; replace HO522 := tNB HO522 hg hb; have BK524 := Aside0.mk (hbox); have GW524 := tge HB hg; have GE524 := tge HB hg; replace HB := tBs HB hb; have NB512_524 := tlt BK512 hg; have NB524_512 := tgt BK512 hg; replace BK512 := tBb BK512 hb; have NB513_524 := tlt BK513 hg; have NB524_513 := tgt BK513 hg; replace BK513 := tBb BK513 hb; have NB514_524 := tlt BK514 hg; have NB524_514 := tgt BK514 hg; replace BK514 := tBb BK514 hb; clear hb hbox hg; have hnb16 := NB524_512.out; have hnc16 := NB512_524.out; have hnb17 := NB524_513.out; have hnc17 := NB513_524.out; have hnb18 := NB524_514.out; have hnc18 := NB514_524.out; obtain ⟨hcz19_0, hcz19_1, hcz19_2, hcz19_3, hcz19_4, hcz19_5, hfz19_0, hfz19_1, hfz19_2, hfz19_3, hfz19_4, hfz19_5⟩ := cells6 BK524.out; obtain ⟨Ao20, co20, eo20⟩ := Kd.N_slice HO522.out; subst eo20; have CA4 := fun W => errors_Is.calls t523 (some 2) true W A4.out; try simp only [errW_none, errW_some] at CA4) | (go_at_call 27; (with_reducible refine (CA4 _).mono ?_); rintro e w21 ⟨rfl, hb⟩; replace HO522 := tNb HO522 hb; replace BK512 := tBb BK512 hb; replace BK513 := tBb BK513 hb; replace BK514 := tBb BK514 hb; replace BK524 := tBp (o' := .cells #[.bool t515, .bool t516, .int .i64 t517, .int .i64 t518, .int .i64 t519, .slice Ao20 t520.length co20] 25 (0, 0)) BK524 hb; replace HB := tBs HB hb; (try clear hb); (try clear hb2); (try clear hk); (try clear hi); obtain ⟨hcz22_0, hcz22_1, hcz22_2, hcz22_3, hcz22_4, hcz22_5, hfz22_0, hfz22_1, hfz22_2, hfz22_3, hfz22_4, hfz22_5⟩ := cells6 BK514.out))
  refine bodyPost_ret (results_ct rfl _ _ gb514 25 #[.bool false, .bool false, .int .i64 0, .int .i64 0, .int .i64 0, .slice none 0 0] (0, 0) _ rfl (tP BK514.out) Tryd.underlying25 rfl (by kernel_rfl)) rfl ?_
  exact ⟨_, by first | rfl | (simp [errW_none, errW_some] <;> rfl) | (simp [*, errW_none, errW_some] <;> rfl), by first | exact Kd.S_nil _ _ _ _ _ | exact Kd.N_nil _ _ _ _ _ | exact Kd.V_nil _ _ _ _ _ | exact Kd.Q_nil _ _ _ _ _ | exact Kd.R_nil _ _ _ _ _, zb⟩
 ·replace c5 := Bool.eq_false_iff.mpr c5
  subst c5
  rw [if_neg (show ¬ (false = true) by decide)] at H
  simp only [Option.some.injEq, Prod.mk.injEq] at H
  obtain ⟨rfl, rfl, rfl, rfl, rfl, rfl, rfl⟩ := H
  go_enter Tryd.func14, Tryd.ntmps14
  go_wp2_with (first | ((with_reducible refine gate_dst (N := 15) rfl ?_); refine glob_ rfl (v := .iface 106 (.pointer (some (ErrA.errA 2)))) (g := 1) ?hr ?hc ?_; (case hc => exact ErrOk.g1 (ErrOk.below HE.out zb) (by decide)); (case hr => intro W_ hc_; go_simp)) | ((with_reducible refine gate_dst (N := 2) rfl ?_); refine box_event ?hg (N := 2) ?hd (cs := #[.bool a0_0, .bool a0_1, .int .i64 a0_2, .int .i64 a0_3, .int .i64 a0_4, .slice A0_5 l0_5.length c0_5]) (t := 25) ?hr ?_; (case hd => rfl); (case hg => rfl); (case hr => first | (go_simp; done) | (go_simp; rfl)); intro gb512 hg w23 hbox hb; have BK512 := Aside0.mk (hbox); have GW512 := tge HB hg; have GE512 := tge HB hg; replace HB := tBs HB hb; clear hb hbox hg) | ((with_reducible refine gate_dst (N := 3) rfl ?_); refine box_event ?hg (N := 3) ?hd (cs := #[.bool a1_0, .bool a1_1, .int .i64 a1_2, .int .i64 a1_3, .int .i64 a1_4, .slice A1_5 l1_5.length c1_5]) (t := 25) ?hr ?_; (case hd => rfl); (case hg => rfl); (case hr => first | (go_simp; done) | (go_simp; rfl)); intro gb513 hg w24 hbox hb; have BK513 := Aside0.mk (hbox); have GW513 := tge HB hg; have GE513 := tge HB hg; replace HB := tBs HB hb; have NB512_513 := tlt BK512 hg; have NB513_512 := tgt BK512 hg; replace BK512 := tBb BK512 hb; clear hb hbox hg) | ((with_reducible refine gate_dst (N := 4) rfl ?_); refine box_event ?hg (N := 4) ?hd (cs := #[.bool false, .bool false, .int .i64 0, .int .i64 0, .int .i64 0, .slice none 0 0]) (t := 25) ?hr ?_; (case hd => rfl); (case hg => rfl); (case hr => first | (go_simp; done) | (go_simp; rfl)); intro gb514 hg w25 hbox hb; have BK514 := Aside0.mk (hbox); have GW514 := tge HB hg; have GE514 := tge HB hg; replace HB := tBs HB hb; have NB512_514 := tlt BK512 hg; have NB514_512 := tgt BK512 hg; replace BK512 := tBb BK512 hb; have NB513_514 := tlt BK513 hg; have NB514_513 := tgt BK513 hg; replace BK513 := tBb BK513 hb; clear hb hbox hg; have hnb26 := NB512_513.out; have hnc26 := NB513_512.out; have hnb27 := NB512_514.out; have hnc27 := NB514_512.out; obtain ⟨hcz28_0, hcz28_1, hcz28_2, hcz28_3, hcz28_4, hcz28_5, hfz28_0, hfz28_1, hfz28_2, hfz28_3, hfz28_4, hfz28_5⟩ := cells6 BK512.out; have hnb29 := NB513_514.out; have hnc29 := NB514_513.out; obtain ⟨hcz30_0, hcz30_1, hcz30_2, hcz30_3, hcz30_4, hcz30_5, hfz30_0, hfz30_1, hfz30_2, hfz30_3, hfz30_4, hfz30_5⟩ := cells6 BK513.out) | ((with_reducible refine gate_callee (f := 36) rfl ?_); refine goesL_ (some 11) rfl rfl Tryd.func36 (by kernel_rfl) rfl #[.agg #[.bool a0_0, .bool a0_1, .int .i64 a0_2, .int .i64 a0_3, .int .i64 a0_4, .slice A0_5 l0_5.length c0_5], .agg #[.bool a1_0, .bool a1_1, .int .i64 a1_2, .int .i64 a1_3, .int .i64 a1_4, .slice A1_5 l1_5.length c1_5]] rfl tq ?_; (with_reducible refine (impl_Batch_join.calls (hE := ?sideE) k a0_0 a0_1 a0_2 a0_3 a0_4 _ _ l0_5 a1_0 a1_1 a1_2 a1_3 a1_4 _ _ l1_5 t515 t516 t517 t518 t519 t520 t523 _ ?side1 ?side2 ?side3 ?side4 A3.out).mono ?_); (case sideE => exact ErrOk.below (HE.out.sub (by decide)) zb); (case side1 => exact tC (Kd.C_below HR0_5.out HB.out)); (case side2 => exact HC0_5.out); (case side3 => exact tC (Kd.C_below HR1_5.out HB.out)); (case side4 => exact HC1_5.out); rintro e w31 ⟨v521, rfl, ho0, hb⟩; have u_v521 := tsv Tryd.prog v521 ho0; refine ⟨_, rfl, ?_⟩; have HO522 := Aside0.mk (Kd.N_lower (Kd.N_mono (ok' := fun k_ => (w.heap.size ≤ k_) ∧ k_ ≠ gb512 ∧ k_ ≠ gb513 ∧ k_ ≠ gb514) ho0 (fun k_ hk_ => ⟨(Nat.le_trans (below_size zb) hk_), (tfB BK512 k_ hk_), (tfB BK513 k_ hk_), (tfB BK514 k_ hk_)⟩)) (below_size zb)); replace BK512 := tBb BK512 hb; replace BK513 := tBb BK513 hb; replace BK514 := tBb BK514 hb; replace HB := tBs HB hb; (try clear hb); (try clear hb2); (try clear hk); (try clear hi); (try clear ho0); (try simp only [errW_none, errW_some])) | ((with_reducible refine gate_dst (N := 6) rfl ?_); refine box_event ?hg (N := 6) ?hd (cs := #[.bool false, .bool false, .int .i64 0, .int .i64 0, .int .i64 0, .slice none 0 0]) (t := 25) ?hr ?_; (case hd => rfl); (case hg => rfl); (case hr => first | (go_simp; done) | (go_simp; rfl)); intro gb524 hg w32 hbox hb; replace HO522 := tNB HO522 hg hb; have BK524 := Aside0.mk (hbox); have GW524 := tge HB hg; have GE524 := tge HB hg; replace HB := tBs HB hb; have NB512_524 := tlt BK512 hg; have NB524_512 := tgt BK512 hg; replace BK512 := tBb BK512 hb; have NB513_524 := tlt BK513 hg; have NB524_513 := tgt BK513 hg; replace BK513 := tBb BK513 hb; have NB514_524 := tlt BK514 hg; have NB524_514 := tgt BK514 hg; replace BK514 := tBb BK514 hb; clear hb hbox hg; have hnb33 := NB524_512.out; have hnc33 := NB512_524.out; have hnb34 := NB524_513.out; have hnc34 := NB513_524.out; have hnb35 := NB524_514.out; have hnc35 := NB514_524.out; obtain ⟨hcz36_0, hcz36_1, hcz36_2, hcz36_3, hcz36_4, hcz36_5, hfz36_0, hfz36_1, hfz36_2, hfz36_3, hfz36_4, hfz36_5⟩ := cells6 BK524.out; obtain ⟨Ao37, co37, eo37⟩ := Kd.N_slice HO522.out; subst eo37; have CA4 := fun W => errors_Is.calls t523 (some 2) false W A4.out; try simp only [errW_none, errW_some] at CA4) | (go_at_call 27; (with_reducible refine (CA4 _).mono ?_); rintro e w38 ⟨rfl, hb⟩; replace HO522 := tNb HO522 hb; replace BK512 := tBb BK512 hb; replace BK513 := tBb BK513 hb; replace BK514 := tBb BK514 hb; replace BK524 := tBp (o' := .cells #[.bool t515, .bool t516, .int .i64 t517, .int .i64 t518, .int .i64 t519, .slice Ao37 t520.length co37] 25 (0, 0)) BK524 hb; replace HB := tBs HB hb; (try clear hb); (try clear hb2); (try clear hk); (try clear hi); obtain ⟨hcz39_0, hcz39_1, hcz39_2, hcz39_3, hcz39_4, hcz39_5, hfz39_0, hfz39_1, hfz39_2, hfz39_3, hfz39_4, hfz39_5⟩ := cells6 BK524.out; obtain ⟨hcz40_0, hcz40_1, hcz40_2, hcz40_3, hcz40_4, hcz40_5, hfz40_0, hfz40_1, hfz40_2, hfz40_3, hfz40_4, hfz40_5⟩ := cells6 BK514.out))
  refine bodyPost_ret (results_ct rfl _ _ gb514 25 #[.bool t515, .bool t516, .int .i64 t517, .int .i64 t518, .int .i64 t519, .slice Ao37 t520.length co37] (0, 0) _ rfl (tP BK514.out) Tryd.underlying25 rfl (by kernel_rfl)) rfl ?_
  exact ⟨_, by first | rfl | (simp [errW_none, errW_some] <;> rfl) | (simp [*, errW_none, errW_some] <;> rfl), tNm HO522.out, zb⟩

end Go.Proofs.YtahenocndacjeaaDoor.G

