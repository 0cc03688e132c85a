/- A text of seat YtbbboachakkgiaaDoor: what the law FnEvenTwice needs of this repo's texts (by pack.py). Not trusted: Lean checks it. -/
import Derived.Test.YtbbboachakkgiaaDoorKFnEvenTwice9
namespace Go.Proofs.YtbbboachakkgiaaDoor.G
open Go.RowKit Go.Proofs.YtbbboachakkgiaaDoorW.PrintWords Go.Proofs.YtbbboachakkgiaaDoorW.PrintLast Go.Proofs.YtbbboachakkgiaaDoorW.PrintMore
attribute [local go_sem] max2_int min2_int max_two min_two max_three min_three max_four min_four   -- for this text's walks alone
set_option linter.unusedVariables false
set_option linter.unusedSimpArgs false

def impl_Batch_join.j0 : Nat → Bool → Bool → Bool → Int → Int → Int → List (S33) → Bool → Bool → Int → Int → Int → List (S33) → Option (Bool × Bool × Int × Int × Int × (List (S33)) × Option Int)
 | 0, _, _, _, _, _, _, _, _, _, _, _, _, _ => none
 | k + 1, x31, x654000, x654001, x654002, x654003, x654004, x654005, x655000, x655001, x655002, x655003, x655004, x655005 => if x31 = true then (some (false, false, 0, 0, 0, ([] : List (S33)), some 1)) else ((impl_Batch_copyOf.f k x654000 x654001 x654002 x654003 x654004 x654005).bind fun bt658 => ((impl_copyRecords.f k x655005).bind fun t667 => (if bt658.2.2.2.2.2.length + t667.length < 1759218604441 then ((some (bt658.2.2.2.2.2 ++ t667 : List (S33))).bind fun y670 => ((impl_BatchValid.f k bt658.1 bt658.2.1 bt658.2.2.1 bt658.2.2.2.1 bt658.2.2.2.2.1 y670).bind fun t673 => (if t673 = true then (some (bt658.1, bt658.2.1, bt658.2.2.1, bt658.2.2.2.1, bt658.2.2.2.2.1, y670, none)) else (some (false, false, 0, 0, 0, ([] : List (S33)), some 1))))) else (none))))
def impl_Batch_join.f (k : Nat) (a0_0 : Bool) (a0_1 : Bool) (a0_2 : Int) (a0_3 : Int) (a0_4 : Int) (l0_5 : List (S33)) (a1_0 : Bool) (a1_1 : Bool) (a1_2 : Int) (a1_3 : Int) (a1_4 : Int) (l1_5 : List (S33)) : Option (Bool × Bool × Int × Int × Int × (List (S33)) × Option Int) := (impl_BatchValid.f k a0_0 a0_1 a0_2 a0_3 a0_4 l0_5).bind fun t656 => (if t656 = true then ((impl_BatchValid.f k a1_0 a1_1 a1_2 a1_3 a1_4 l1_5).bind fun t657 => (if t657 = true then (if a0_2 = 255 then (if a1_2 = 255 then (impl_Batch_join.j0 k (a0_0 != a1_0) a0_0 a0_1 a0_2 a0_3 a0_4 l0_5 a1_0 a1_1 a1_2 a1_3 a1_4 l1_5) else (impl_Batch_join.j0 k true a0_0 a0_1 a0_2 a0_3 a0_4 l0_5 a1_0 a1_1 a1_2 a1_3 a1_4 l1_5)) else (impl_Batch_join.j0 k true a0_0 a0_1 a0_2 a0_3 a0_4 l0_5 a1_0 a1_1 a1_2 a1_3 a1_4 l1_5)) else (impl_Batch_join.j0 k true a0_0 a0_1 a0_2 a0_3 a0_4 l0_5 a1_0 a1_1 a1_2 a1_3 a1_4 l1_5))) else (impl_Batch_join.j0 k true a0_0 a0_1 a0_2 a0_3 a0_4 l0_5 a1_0 a1_1 a1_2 a1_3 a1_4 l1_5))
def impl_Batch_join.T4 : Bool × List (List Nat × List Nat) := (true, [([], []), ([0], [0]), ([], []), ([2], [2]), ([3], [3]), ([1, 4, 4], [1, 4]), ([0, 1, 2, 3, 4, 5], []), ([6, 5, 5, 0, 1, 2, 3, 4, 5], [5, 6])])
def impl_Batch_join.B4 : List Nat := [0, 1, 0, 4, 12, 31, 63, 127]
theorem impl_Batch_join.tab4 : rtab .any (opsOf Tryd.f51 4) = impl_Batch_join.T4 := by kernel_rfl
theorem impl_Batch_join.bits4 : waitsOk impl_Batch_join.T4.2 impl_Batch_join.B4 = true := by kernel_rfl
set_option maxHeartbeats 40000000 in
set_option maxRecDepth 100000 in
theorem impl_Batch_join.calls [ErrA] (k : Nat) (a0_0 : Bool) (a0_1 : Bool) (a0_2 : Int) (a0_3 : Int) (a0_4 : Int) (A0_5 : Option Addr) (c0_5 : Nat) (l0_5 : List (S33)) (a1_0 : Bool) (a1_1 : Bool) (a1_2 : Int) (a1_3 : Int) (a1_4 : Int) (A1_5 : Option Addr) (c1_5 : Nat) (l1_5 : List (S33)) (r1 : Bool) (r2 : Bool) (r3 : Int) (r4 : Int) (r5 : Int) (r6 : List (S33)) (r7 : Option Int) (w : World) (hE : ErrOk [0] w) (hr0_5 : Kd.C k33 w A0_5 l0_5.length l0_5) (hc0_5 : l0_5.length ≤ c0_5) (hr1_5 : Kd.C k33 w A1_5 l1_5.length l1_5) (hc1_5 : l1_5.length ≤ c1_5) (h : impl_Batch_join.f k a0_0 a0_1 a0_2 a0_3 a0_4 l0_5 a1_0 a1_1 a1_2 a1_3 a1_4 l1_5 = some (r1, r2, r3, r4, r5, r6, r7)) :
  Calls Tryd.prog 51 #[.agg #[.bool a0_0, .bool a0_1, .int .i64 a0_2, .int .i64 a0_3, .int .i64 a0_4, .slice A0_5 l0_5.length c0_5], .agg #[.bool a1_0, .bool a1_1, .int .i64 a1_2, .int .i64 a1_3, .int .i64 a1_4, .slice A1_5 l1_5.length c1_5]] w fun e w' => ∃ v5_ : Value, e = .returned (.tuple #[.agg #[.bool r1, .bool r2, .int .i64 r3, .int .i64 r4, .int .i64 r5, v5_], errW r7]) ∧ Kd.N k33 33 w' w.heap.size (fun k_ => (w.heap.size ≤ k_)) v5_ r6 ∧ Below w.heap.size w w' := by
 have HE := Aside0.mk hE
 clear hE
 have hu47 := Tryd.underlying47
 have HR0_5 := Aside0.mk hr0_5
 have HC0_5 := Aside0.mk hc0_5
 clear hr0_5 hc0_5
 have HR1_5 := Aside0.mk hr1_5
 have HC1_5 := Aside0.mk hc1_5
 clear hr1_5 hc1_5
 have HB := Aside0.mk (Below.refl w.heap.size w)
 have H : ((impl_BatchValid.f k a0_0 a0_1 a0_2 a0_3 a0_4 l0_5).bind fun t656 => (if t656 = true then ((impl_BatchValid.f k a1_0 a1_1 a1_2 a1_3 a1_4 l1_5).bind fun t657 => (if t657 = true then (if a0_2 = 255 then (if a1_2 = 255 then (impl_Batch_join.j0 k (a0_0 != a1_0) a0_0 a0_1 a0_2 a0_3 a0_4 l0_5 a1_0 a1_1 a1_2 a1_3 a1_4 l1_5) else (impl_Batch_join.j0 k true a0_0 a0_1 a0_2 a0_3 a0_4 l0_5 a1_0 a1_1 a1_2 a1_3 a1_4 l1_5)) else (impl_Batch_join.j0 k true a0_0 a0_1 a0_2 a0_3 a0_4 l0_5 a1_0 a1_1 a1_2 a1_3 a1_4 l1_5)) else (impl_Batch_join.j0 k true a0_0 a0_1 a0_2 a0_3 a0_4 l0_5 a1_0 a1_1 a1_2 a1_3 a1_4 l1_5))) else (impl_Batch_join.j0 k true a0_0 a0_1 a0_2 a0_3 a0_4 l0_5 a1_0 a1_1 a1_2 a1_3 a1_4 l1_5))) = some (r1, r2, r3, r4, r5, r6, r7) := h
 clear h
 have HC3 := Aside0.mk H
 clear H
 go_enter Tryd.func51, Tryd.ntmps51
 go_upto_region 1 with (first | ((with_reducible refine gate_dst (N := 2) rfl ?_); refine box_event ?hg (N := 2) ?hd (cs := #[.bool a0_0, .bool a0_1, .int .i64 a0_2, .int .i64 a0_3, .int .i64 a0_4, .slice A0_5 l0_5.length c0_5]) (t := 47) ?hr ?_; (case hd => rfl); (case hg => rfl); (case hr => first | (go_simp; done) | (go_simp; rfl)); intro gb653 hg w4 hbox hb; have BK653 := Aside0.mk (hbox); have GW653 := tge HB hg; have GE653 := tge HB hg; replace HB := tBs HB hb; clear hb hbox hg) | ((with_reducible refine gate_dst (N := 3) rfl ?_); refine box_event ?hg (N := 3) ?hd (cs := #[.bool a1_0, .bool a1_1, .int .i64 a1_2, .int .i64 a1_3, .int .i64 a1_4, .slice A1_5 l1_5.length c1_5]) (t := 47) ?hr ?_; (case hd => rfl); (case hg => rfl); (case hr => first | (go_simp; done) | (go_simp; rfl)); intro gb654 hg w5 hbox hb; have BK654 := Aside0.mk (hbox); have GW654 := tge HB hg; have GE654 := tge HB hg; replace HB := tBs HB hb; have NB653_654 := tlt BK653 hg; have NB654_653 := tgt BK653 hg; replace BK653 := tBb BK653 hb; clear hb hbox hg) | ((with_reducible refine gate_dst (N := 4) rfl ?_); refine box_event ?hg (N := 4) ?hd (cs := #[.bool false, .bool false, .int .i64 0, .int .i64 0, .int .i64 0, .slice none 0 0]) (t := 47) ?hr ?_; (case hd => rfl); (case hg => rfl); (case hr => first | (go_simp; done) | (go_simp; rfl)); intro gb655 hg w6 hbox hb; have BK655 := Aside0.mk (hbox); have GW655 := tge HB hg; have GE655 := tge HB hg; replace HB := tBs HB hb; have NB653_655 := tlt BK653 hg; have NB655_653 := tgt BK653 hg; replace BK653 := tBb BK653 hb; have NB654_655 := tlt BK654 hg; have NB655_654 := tgt BK654 hg; replace BK654 := tBb BK654 hb; clear hb hbox hg))
 (try simp only [Act.put, List.setIfInBounds_toArray, List.set_cons_zero, List.set_cons_succ])
 go_cut [31] (fun v31 wc => ∃ (kq : Nat) (x31_2 : Bool), v31 = .bool x31_2 ∧ Aside0 (impl_Batch_join.j0 kq x31_2 a0_0 a0_1 a0_2 a0_3 a0_4 l0_5 a1_0 a1_1 a1_2 a1_3 a1_4 l1_5 = some (r1, r2, r3, r4, r5, r6, r7)) ∧ Aside0 (kq ≤ k) ∧ Aside0 (wc.heap[gb653]? = some (.cells #[.bool a0_0, .bool a0_1, .int .i64 a0_2, .int .i64 a0_3, .int .i64 a0_4, (.slice A0_5 l0_5.length c0_5)] 47 (0, 0))) ∧ Aside0 (wc.heap[gb654]? = some (.cells #[.bool a1_0, .bool a1_1, .int .i64 a1_2, .int .i64 a1_3, .int .i64 a1_4, (.slice A1_5 l1_5.length c1_5)] 47 (0, 0))) ∧ Aside0 (wc.heap[gb655]? = some (.cells #[.bool false, .bool false, .int .i64 0, .int .i64 0, .int .i64 0, (.slice none 0 0)] 47 (0, 0))) ∧ Aside0 (Below w.heap.size w wc))
 case first =>
  have H := HC3.out
  clear HC3
  replace H := tbe H
  obtain ⟨t656, A7, H⟩ := H
  by_cases c8 : t656 = true
  ·subst c8
   rw [if_pos rfl] at H
   replace H := tbe H
   obtain ⟨t657, A9, H⟩ := H
   by_cases c10 : t657 = true
   ·subst c10
    rw [if_pos rfl] at H
    by_cases c11 : a0_2 = 255
    ·rw [if_pos c11] at H
     have c11b0 : (a0_2 == 255) = true := beq_iff_eq.mpr c11
     have c11b1 : (a0_2 != 255) = false := bne_eq_false_iff_eq.mpr c11
     clear c11
     (first | rw [c11b0] | (simp only [i64_w, i32_w]; rw [c11b0]) | skip)
     by_cases c12 : a1_2 = 255
     ·rw [if_pos c12] at H
      have c12b0 : (a1_2 == 255) = true := beq_iff_eq.mpr c12
      have c12b1 : (a1_2 != 255) = false := bne_eq_false_iff_eq.mpr c12
      clear c12
      have H' := Aside0.mk H
      clear H
      have hnb13 := NB653_654.out
      have hnc13 := NB654_653.out
      have hnb14 := NB653_655.out
      have hnc14 := NB655_653.out
      obtain ⟨hcz15_0, hcz15_1, hcz15_2, hcz15_3, hcz15_4, hcz15_5, hfz15_0, hfz15_1, hfz15_2, hfz15_3, hfz15_4, hfz15_5⟩ := cells6 BK653.out
      go_wp2_with (first | ((with_reducible refine gate_dst (N := 47) rfl ?_); refine glob_ rfl (v := .iface 151 (.pointer (some (ErrA.errA 1)))) (g := 0) ?hr ?hc ?_; (case hc => exact ErrOk.g0 (ErrOk.below HE.out zb) (by decide)); (case hr => intro W_ hc_; go_simp)) | ((with_reducible refine gate_dst (N := 33) rfl ?_); refine glob_ rfl (v := .iface 151 (.pointer (some (ErrA.errA 1)))) (g := 0) ?hr ?hc ?_; (case hc => exact ErrOk.g0 (ErrOk.below HE.out zb) (by decide)); (case hr => intro W_ hc_; go_simp)) | ((with_reducible refine gate_callee (f := 44) rfl ?_); refine goesL_ (some 8) rfl rfl Tryd.func44 (by kernel_rfl) rfl #[.agg #[.bool a0_0, .bool a0_1, .int .i64 a0_2, .int .i64 a0_3, .int .i64 a0_4, .slice A0_5 l0_5.length c0_5]] rfl tq ?_; (with_reducible refine (impl_BatchValid.calls k a0_0 a0_1 a0_2 a0_3 a0_4 _ _ l0_5 true _ ?side1 ?side2 A7.out).mono ?_); (case side1 => exact tC (Kd.C_below HR0_5.out HB.out)); (case side2 => exact HC0_5.out); rintro e w16 ⟨rfl, hb⟩; refine ⟨_, rfl, ?_⟩; replace BK653 := tBb BK653 hb; replace BK654 := tBb BK654 hb; replace BK655 := tBb BK655 hb; replace HB := tBs HB hb; (try clear hb); (try clear hb2); (try clear hk); (try clear hi); have hnb17 := NB654_655.out; have hnc17 := NB655_654.out; obtain ⟨hcz18_0, hcz18_1, hcz18_2, hcz18_3, hcz18_4, hcz18_5, hfz18_0, hfz18_1, hfz18_2, hfz18_3, hfz18_4, hfz18_5⟩ := cells6 BK654.out) | (go_at_call 44; (with_reducible refine (impl_BatchValid.calls k a1_0 a1_1 a1_2 a1_3 a1_4 _ _ l1_5 true _ ?side1 ?side2 A9.out).mono ?_); (case side1 => exact tC (Kd.C_below HR1_5.out HB.out)); (case side2 => exact HC1_5.out); rintro e w19 ⟨rfl, hb⟩; replace BK653 := tBb BK653 hb; replace BK654 := tBb BK654 hb; replace BK655 := tBb BK655 hb; replace HB := tBs HB hb; (try clear hb); (try clear hb2); (try clear hk); (try clear hi); obtain ⟨hcz20_0, hcz20_1, hcz20_2, hcz20_3, hcz20_4, hcz20_5, hfz20_0, hfz20_1, hfz20_2, hfz20_3, hfz20_4, hfz20_5⟩ := cells6 BK653.out; obtain ⟨hcz21_0, hcz21_1, hcz21_2, hcz21_3, hcz21_4, hcz21_5, hfz21_0, hfz21_1, hfz21_2, hfz21_3, hfz21_4, hfz21_5⟩ := cells6 BK654.out))
      go_meet
      case rel => exact ⟨_, ((a0_0 != a1_0)), tr, H', ⟨by first | omega | exact Nat.le_refl _⟩, ⟨tH BK653.out⟩, ⟨tH BK654.out⟩, ⟨tH BK655.out⟩, ⟨zb⟩⟩
     ·rw [if_neg c12] at H
      have c12b0 : (a1_2 == 255) = false := beq_eq_false_iff_ne.mpr c12
      have c12b1 : (a1_2 != 255) = true := bne_iff_ne.mpr c12
      have H' := Aside0.mk H
      clear H
      have hnb22 := NB653_654.out
      have hnc22 := NB654_653.out
      have hnb23 := NB653_655.out
      have hnc23 := NB655_653.out
      obtain ⟨hcz24_0, hcz24_1, hcz24_2, hcz24_3, hcz24_4, hcz24_5, hfz24_0, hfz24_1, hfz24_2, hfz24_3, hfz24_4, hfz24_5⟩ := cells6 BK653.out
      go_wp2_with (first | ((with_reducible refine gate_dst (N := 47) rfl ?_); refine glob_ rfl (v := .iface 151 (.pointer (some (ErrA.errA 1)))) (g := 0) ?hr ?hc ?_; (case hc => exact ErrOk.g0 (ErrOk.below HE.out zb) (by decide)); (case hr => intro W_ hc_; go_simp)) | ((with_reducible refine gate_dst (N := 33) rfl ?_); refine glob_ rfl (v := .iface 151 (.pointer (some (ErrA.errA 1)))) (g := 0) ?hr ?hc ?_; (case hc => exact ErrOk.g0 (ErrOk.below HE.out zb) (by decide)); (case hr => intro W_ hc_; go_simp)) | ((with_reducible refine gate_callee (f := 44) rfl ?_); refine goesL_ (some 8) rfl rfl Tryd.func44 (by kernel_rfl) rfl #[.agg #[.bool a0_0, .bool a0_1, .int .i64 a0_2, .int .i64 a0_3, .int .i64 a0_4, .slice A0_5 l0_5.length c0_5]] rfl tq ?_; (with_reducible refine (impl_BatchValid.calls k a0_0 a0_1 a0_2 a0_3 a0_4 _ _ l0_5 true _ ?side1 ?side2 A7.out).mono ?_); (case side1 => exact tC (Kd.C_below HR0_5.out HB.out)); (case side2 => exact HC0_5.out); rintro e w25 ⟨rfl, hb⟩; refine ⟨_, rfl, ?_⟩; replace BK653 := tBb BK653 hb; replace BK654 := tBb BK654 hb; replace BK655 := tBb BK655 hb; replace HB := tBs HB hb; (try clear hb); (try clear hb2); (try clear hk); (try clear hi); have hnb26 := NB654_655.out; have hnc26 := NB655_654.out; obtain ⟨hcz27_0, hcz27_1, hcz27_2, hcz27_3, hcz27_4, hcz27_5, hfz27_0, hfz27_1, hfz27_2, hfz27_3, hfz27_4, hfz27_5⟩ := cells6 BK654.out) | (go_at_call 44; (with_reducible refine (impl_BatchValid.calls k a1_0 a1_1 a1_2 a1_3 a1_4 _ _ l1_5 true _ ?side1 ?side2 A9.out).mono ?_); (case side1 => exact tC (Kd.C_below HR1_5.out HB.out)); (case side2 => exact HC1_5.out); rintro e w28 ⟨rfl, hb⟩; replace BK653 := tBb BK653 hb; replace BK654 := tBb BK654 hb; replace BK655 := tBb BK655 hb; replace HB := tBs HB hb; (try clear hb); (try clear hb2); (try clear hk); (try clear hi); obtain ⟨hcz29_0, hcz29_1, hcz29_2, hcz29_3, hcz29_4, hcz29_5, hfz29_0, hfz29_1, hfz29_2, hfz29_3, hfz29_4, hfz29_5⟩ := cells6 BK653.out; obtain ⟨hcz30_0, hcz30_1, hcz30_2, hcz30_3, hcz30_4, hcz30_5, hfz30_0, hfz30_1, hfz30_2, hfz30_3, hfz30_4, hfz30_5⟩ := cells6 BK654.out))
      go_meet
      case rel => exact ⟨_, (true), tr, H', ⟨by first | omega | exact Nat.le_refl _⟩, ⟨tH BK653.out⟩, ⟨tH BK654.out⟩, ⟨tH BK655.out⟩, ⟨zb⟩⟩
    ·rw [if_neg c11] at H
     have c11b0 : (a0_2 == 255) = false := beq_eq_false_iff_ne.mpr c11
     have c11b1 : (a0_2 != 255) = true := bne_iff_ne.mpr c11
     (first | rw [c11b0] | (simp only [i64_w, i32_w]; rw [c11b0]) | skip)
     have H' := Aside0.mk H
     clear H
     have hnb31 := NB653_654.out
     have hnc31 := NB654_653.out
     have hnb32 := NB653_655.out
     have hnc32 := NB655_653.out
     obtain ⟨hcz33_0, hcz33_1, hcz33_2, hcz33_3, hcz33_4, hcz33_5, hfz33_0, hfz33_1, hfz33_2, hfz33_3, hfz33_4, hfz33_5⟩ := cells6 BK653.out
     go_wp2_with (first | ((with_reducible refine gate_dst (N := 47) rfl ?_); refine glob_ rfl (v := .iface 151 (.pointer (some (ErrA.errA 1)))) (g := 0) ?hr ?hc ?_; (case hc => exact ErrOk.g0 (ErrOk.below HE.out zb) (by decide)); (case hr => intro W_ hc_; go_simp)) | ((with_reducible refine gate_dst (N := 33) rfl ?_); refine glob_ rfl (v := .iface 151 (.pointer (some (ErrA.errA 1)))) (g := 0) ?hr ?hc ?_; (case hc => exact ErrOk.g0 (ErrOk.below HE.out zb) (by decide)); (case hr => intro W_ hc_; go_simp)) | ((with_reducible refine gate_callee (f := 44) rfl ?_); refine goesL_ (some 8) rfl rfl Tryd.func44 (by kernel_rfl) rfl #[.agg #[.bool a0_0, .bool a0_1, .int .i64 a0_2, .int .i64 a0_3, .int .i64 a0_4, .slice A0_5 l0_5.length c0_5]] rfl tq ?_; (with_reducible refine (impl_BatchValid.calls k a0_0 a0_1 a0_2 a0_3 a0_4 _ _ l0_5 true _ ?side1 ?side2 A7.out).mono ?_); (case side1 => exact tC (Kd.C_below HR0_5.out HB.out)); (case side2 => exact HC0_5.out); rintro e w34 ⟨rfl, hb⟩; refine ⟨_, rfl, ?_⟩; replace BK653 := tBb BK653 hb; replace BK654 := tBb BK654 hb; replace BK655 := tBb BK655 hb; replace HB := tBs HB hb; (try clear hb); (try clear hb2); (try clear hk); (try clear hi); have hnb35 := NB654_655.out; have hnc35 := NB655_654.out; obtain ⟨hcz36_0, hcz36_1, hcz36_2, hcz36_3, hcz36_4, hcz36_5, hfz36_0, hfz36_1, hfz36_2, hfz36_3, hfz36_4, hfz36_5⟩ := cells6 BK654.out) | (go_at_call 44; (with_reducible refine (impl_BatchValid.calls k a1_0 a1_1 a1_2 a1_3 a1_4 _ _ l1_5 true _ ?side1 ?side2 A9.out).mono ?_); (case side1 => exact tC (Kd.C_below HR1_5.out HB.out)); (case side2 => exact HC1_5.out); rintro e w37 ⟨rfl, hb⟩; replace BK653 := tBb BK653 hb; replace BK654 := tBb BK654 hb; replace BK655 := tBb BK655 hb; replace HB := tBs HB hb; (try clear hb); (try clear hb2); (try clear hk); (try clear hi); obtain ⟨hcz38_0, hcz38_1, hcz38_2, hcz38_3, hcz38_4, hcz38_5, hfz38_0, hfz38_1, hfz38_2, hfz38_3, hfz38_4, hfz38_5⟩ := cells6 BK653.out))
     go_meet
     case rel => exact ⟨_, (true), tr, H', ⟨by first | omega | exact Nat.le_refl _⟩, ⟨tH BK653.out⟩, ⟨tH BK654.out⟩, ⟨tH BK655.out⟩, ⟨zb⟩⟩
   ·replace c10 := Bool.eq_false_iff.mpr c10
    subst c10
    rw [if_neg (show ¬ (false = true) by decide)] at H
    have H' := Aside0.mk H
    clear H
    have hnb39 := NB653_654.out
    have hnc39 := NB654_653.out
    have hnb40 := NB653_655.out
    have hnc40 := NB655_653.out
    obtain ⟨hcz41_0, hcz41_1, hcz41_2, hcz41_3, hcz41_4, hcz41_5, hfz41_0, hfz41_1, hfz41_2, hfz41_3, hfz41_4, hfz41_5⟩ := cells6 BK653.out
    go_wp2_with (first | ((with_reducible refine gate_dst (N := 47) rfl ?_); refine glob_ rfl (v := .iface 151 (.pointer (some (ErrA.errA 1)))) (g := 0) ?hr ?hc ?_; (case hc => exact ErrOk.g0 (ErrOk.below HE.out zb) (by decide)); (case hr => intro W_ hc_; go_simp)) | ((with_reducible refine gate_dst (N := 33) rfl ?_); refine glob_ rfl (v := .iface 151 (.pointer (some (ErrA.errA 1)))) (g := 0) ?hr ?hc ?_; (case hc => exact ErrOk.g0 (ErrOk.below HE.out zb) (by decide)); (case hr => intro W_ hc_; go_simp)) | ((with_reducible refine gate_callee (f := 44) rfl ?_); refine goesL_ (some 8) rfl rfl Tryd.func44 (by kernel_rfl) rfl #[.agg #[.bool a0_0, .bool a0_1, .int .i64 a0_2, .int .i64 a0_3, .int .i64 a0_4, .slice A0_5 l0_5.length c0_5]] rfl tq ?_; (with_reducible refine (impl_BatchValid.calls k a0_0 a0_1 a0_2 a0_3 a0_4 _ _ l0_5 true _ ?side1 ?side2 A7.out).mono ?_); (case side1 => exact tC (Kd.C_below HR0_5.out HB.out)); (case side2 => exact HC0_5.out); rintro e w42 ⟨rfl, hb⟩; refine ⟨_, rfl, ?_⟩; replace BK653 := tBb BK653 hb; replace BK654 := tBb BK654 hb; replace BK655 := tBb BK655 hb; replace HB := tBs HB hb; (try clear hb); (try clear hb2); (try clear hk); (try clear hi); have hnb43 := NB654_655.out; have hnc43 := NB655_654.out; obtain ⟨hcz44_0, hcz44_1, hcz44_2, hcz44_3, hcz44_4, hcz44_5, hfz44_0, hfz44_1, hfz44_2, hfz44_3, hfz44_4, hfz44_5⟩ := cells6 BK654.out) | (go_at_call 44; (with_reducible refine (impl_BatchValid.calls k a1_0 a1_1 a1_2 a1_3 a1_4 _ _ l1_5 false _ ?side1 ?side2 A9.out).mono ?_); (case side1 => exact tC (Kd.C_below HR1_5.out HB.out)); (case side2 => exact HC1_5.out); rintro e w45 ⟨rfl, hb⟩; replace BK653 := tBb BK653 hb; replace BK654 := tBb BK654 hb; replace BK655 := tBb BK655 hb; replace HB := tBs HB hb; (try clear hb); (try clear hb2); (try clear hk); (try clear hi)))
    go_meet
    case rel => exact ⟨_, (true), tr, H', ⟨by first | omega | exact Nat.le_refl _⟩, ⟨tH BK653.out⟩, ⟨tH BK654.out⟩, ⟨tH BK655.out⟩, ⟨zb⟩⟩
  ·replace c8 := Bool.eq_false_iff.mpr c8
   subst c8
   rw [if_neg (show ¬ (false = true) by decide)] at H
   have H' := Aside0.mk H
   clear H
   have hnb46 := NB653_654.out
   have hnc46 := NB654_653.out
   have hnb47 := NB653_655.out
   have hnc47 := NB655_653.out
   obtain ⟨hcz48_0, hcz48_1, hcz48_2, hcz48_3, hcz48_4, hcz48_5, hfz48_0, hfz48_1, hfz48_2, hfz48_3, hfz48_4, hfz48_5⟩ := cells6 BK653.out
   go_wp2_with (first | ((with_reducible refine gate_dst (N := 47) rfl ?_); refine glob_ rfl (v := .iface 151 (.pointer (some (ErrA.errA 1)))) (g := 0) ?hr ?hc ?_; (case hc => exact ErrOk.g0 (ErrOk.below HE.out zb) (by decide)); (case hr => intro W_ hc_; go_simp)) | ((with_reducible refine gate_dst (N := 33) rfl ?_); refine glob_ rfl (v := .iface 151 (.pointer (some (ErrA.errA 1)))) (g := 0) ?hr ?hc ?_; (case hc => exact ErrOk.g0 (ErrOk.below HE.out zb) (by decide)); (case hr => intro W_ hc_; go_simp)) | ((with_reducible refine gate_callee (f := 44) rfl ?_); refine goesL_ (some 8) rfl rfl Tryd.func44 (by kernel_rfl) rfl #[.agg #[.bool a0_0, .bool a0_1, .int .i64 a0_2, .int .i64 a0_3, .int .i64 a0_4, .slice A0_5 l0_5.length c0_5]] rfl tq ?_; (with_reducible refine (impl_BatchValid.calls k a0_0 a0_1 a0_2 a0_3 a0_4 _ _ l0_5 false _ ?side1 ?side2 A7.out).mono ?_); (case side1 => exact tC (Kd.C_below HR0_5.out HB.out)); (case side2 => exact HC0_5.out); rintro e w49 ⟨rfl, hb⟩; refine ⟨_, rfl, ?_⟩; replace BK653 := tBb BK653 hb; replace BK654 := tBb BK654 hb; replace BK655 := tBb BK655 hb; replace HB := tBs HB hb; (try clear hb); (try clear hb2); (try clear hk); (try clear hi)))
   go_meet
   case rel => exact ⟨_, (true), tr, H', ⟨by first | omega | exact Nat.le_refl _⟩, ⟨tH BK653.out⟩, ⟨tH BK654.out⟩, ⟨tH BK655.out⟩, ⟨zb⟩⟩
 case rest =>
  clear HC3
  obtain ⟨kq, x31_2, rfl, HA, HJ2, BK653, BK654, BK655, HB⟩ := hcut
  cases kq with
  | zero => exact absurd HA.out (by simp [impl_Batch_join.j0])
  | succ kj2 =>
   have H := HA.out
   clear HA
   simp only [impl_Batch_join.j0] at H
   by_cases c50 : x31_2 = true
   ·subst c50
    rw [if_pos rfl] at H
    simp only [Option.some.injEq, Prod.mk.injEq] at H
    obtain ⟨rfl, rfl, rfl, rfl, rfl, rfl, rfl⟩ := H
    try go_wp2
    replace BK653 := Aside0.mk (blk_drew BK653.out)
    replace BK654 := Aside0.mk (blk_drew BK654.out)
    replace BK655 := Aside0.mk (blk_drew BK655.out)
    replace HB := Aside0.mk (below_drew1 HB.out)
    refine start_ (n := 4) (S := ErrOk [0]) (ds := []) #[false, false, false, false] (by kernel_rfl) rfl rfl (ErrOk.below HE.out HB.out) (fun hHeld => ?_)
    generalize wc.drew = w51 at BK653 BK654 BK655 HB hHeld ⊢
    refine pure_ (i := 0) (N := some 32) (v := ?_) (a' := ?_) #[true, false, false, false] rfl rfl (by kernel_rfl) (fun _ _ _ h => h) (Or.inl ⟨by rfl, ?_⟩) ?_ ?_
    rotate_left
    ·intro w'
     go_simp
     with_reducible rfl
    rotate_left
    ·simp only [Act.put, List.setIfInBounds_toArray, List.set_cons_zero, List.set_cons_succ, i64_w, i32_w]
     rfl
    refine take_ (i := 1) (N := some 33) (v := ?_) (a' := ?_) #[true, true, false, false] rfl rfl (by kernel_rfl) (fun _ _ _ h => h) (Or.inl ⟨by rfl, ?_⟩) hHeld ?_ ?_
    rotate_left
    ·intro w' hS_
     try have hg0_ := ErrOk.g0 hS_ (by decide)
     try have hg1_ := ErrOk.g1 hS_ (by decide)
     clear hS_
     go_simp
     with_reducible rfl
    rotate_left
    ·simp only [Act.put, List.setIfInBounds_toArray, List.set_cons_zero, List.set_cons_succ, i64_w, i32_w]
     rfl
    refine one_ (i := 2) (N := none) #[true, true, true, false] rfl rfl (by kernel_rfl) (by decide) (fun K hK => ?_)
    have hs52 : w51.cell? ⟨gb655, 0, none⟩ = some (.bool false) := (blk_cell BK655.out 0).trans rfl
    have hfs52 := blk_frozen BK655.out 0
    have hns52_0 := NB653_655.out
    have hns52_1 := NB654_655.out
    have hms52_0 := NB655_653.out
    have hms52_1 := NB655_654.out
    have hs53 : w51.cell? ⟨gb655, 1, none⟩ = some (.bool false) := (blk_cell BK655.out 1).trans rfl
    have hfs53 := blk_frozen BK655.out 1
    have hns53_0 := NB653_655.out
    have hns53_1 := NB654_655.out
    have hms53_0 := NB655_653.out
    have hms53_1 := NB655_654.out
    have hs54 : w51.cell? ⟨gb655, 2, none⟩ = some (.int .i64 0) := (blk_cell BK655.out 2).trans rfl
    have hfs54 := blk_frozen BK655.out 2
    have hns54_0 := NB653_655.out
    have hns54_1 := NB654_655.out
    have hms54_0 := NB655_653.out
    have hms54_1 := NB655_654.out
    have hs55 : w51.cell? ⟨gb655, 3, none⟩ = some (.int .i64 0) := (blk_cell BK655.out 3).trans rfl
    have hfs55 := blk_frozen BK655.out 3
    have hns55_0 := NB653_655.out
    have hns55_1 := NB654_655.out
    have hms55_0 := NB655_653.out
    have hms55_1 := NB655_654.out
    have hs56 : w51.cell? ⟨gb655, 4, none⟩ = some (.int .i64 0) := (blk_cell BK655.out 4).trans rfl
    have hfs56 := blk_frozen BK655.out 4
    have hns56_0 := NB653_655.out
    have hns56_1 := NB654_655.out
    have hms56_0 := NB655_653.out
    have hms56_1 := NB655_654.out
    have hs57 : w51.cell? ⟨gb655, 5, none⟩ = some (.slice none 0 0) := (blk_cell BK655.out 5).trans rfl
    have hfs57 := blk_frozen BK655.out 5
    have hns57_0 := NB653_655.out
    have hns57_1 := NB654_655.out
    have hms57_0 := NB655_653.out
    have hms57_1 := NB655_654.out
    refine tsk ?_
    refine hK.out _ _ (by repeat (first | (with_reducible exact hHeld) | (with_reducible refine ErrOk.set HE.out ?_ (by with_reducible first | exact GE653.out | exact GE654.out | exact GE655.out | exact GE666.out) _ _))) (fun hHeld => ?_)
    clear hK K
    refine pure_ (i := 3) (N := some 5) (v := ?_) (a' := ?_) #[true, true, true, true] rfl rfl (by kernel_rfl) (fun _ _ _ h => h) (Or.inl ⟨by rfl, ?_⟩) ?_ ?_
    rotate_left
    ·intro w'
     go_simp
     with_reducible rfl
    rotate_left
    ·simp only [Act.put, List.setIfInBounds_toArray, List.set_cons_zero, List.set_cons_succ, i64_w, i32_w]
     rfl
    refine done_ (by kernel_rfl) ?_
    try go_wp2
    refine bodyPost_ret (results_ct rfl _ _ gb655 47 #[.bool false, .bool false, .int .i64 0, .int .i64 0, .int .i64 0, .slice none 0 0] (0, 0) _ rfl (tP BK655.out) Tryd.underlying47 rfl (by kernel_rfl)) rfl ?_
    exact ⟨_, by first | rfl | (simp [errW_none, errW_some] <;> rfl) | (simp [*, errW_none, errW_some] <;> rfl), by first | exact Kd.S_nil _ _ _ _ _ | exact Kd.N_nil _ _ _ _ _ | exact Kd.V_nil _ _ _ _ _ | exact Kd.Q_nil _ _ _ _ _ | exact Kd.R_nil _ _ _ _ _, zb⟩
   ·replace c50 := Bool.eq_false_iff.mpr c50
    subst c50
    rw [if_neg (show ¬ (false = true) by decide)] at H
    replace H := tbe H
    obtain ⟨⟨t658, t659, t660, t661, t662, t663⟩, A58, H⟩ := H
    dsimp only at H
    replace H := tbe H
    obtain ⟨t667, A59, H⟩ := H
    by_cases c60 : t663.length + t667.length < 1759218604441
    ·rw [if_pos c60] at H
     have LMc60 := Aside0.mk c60
     clear c60
     obtain ⟨y670, hy670⟩ : ∃ y_ : List (S33), y_ = (t663 ++ t667) := ⟨_, rfl⟩
     replace H : ((impl_BatchValid.f kj2 t658 t659 t660 t661 t662 y670).bind fun t673 => (if t673 = true then (some (t658, t659, t660, t661, t662, y670, none)) else (some (false, false, 0, 0, 0, ([] : List (S33)), some 1)))) = some (r1, r2, r3, r4, r5, r6, r7) := by first | (rw [hy670]; with_reducible exact H) | (have H2_ := (Option.bind_some _ _).symm.trans H; rw [hy670]; with_reducible exact H2_) | (have H2_ := (Option.bind_some _ _).symm.trans H; with_reducible exact H2_) | with_reducible exact H | (rw [hy670]; exact H) | exact H
     have Ny670 := Aside0.mk hy670
     clear hy670
     replace H := tbe H
     obtain ⟨t673, A61, H⟩ := H
     by_cases c62 : t673 = true
     ·subst c62
      rw [if_pos rfl] at H
      simp only [Option.some.injEq, Prod.mk.injEq] at H
      obtain ⟨rfl, rfl, rfl, rfl, rfl, rfl, rfl⟩ := H
      have hnb63 := NB653_654.out
      have hnc63 := NB654_653.out
      have hnb64 := NB653_655.out
      have hnc64 := NB655_653.out
      obtain ⟨hcz65_0, hcz65_1, hcz65_2, hcz65_3, hcz65_4, hcz65_5, hfz65_0, hfz65_1, hfz65_2, hfz65_3, hfz65_4, hfz65_5⟩ := cells6 BK653.out
      try go_wp2_with (first | ((with_reducible refine gate_dst (N := 47) rfl ?_); refine glob_ rfl (v := .iface 151 (.pointer (some (ErrA.errA 1)))) (g := 0) ?hr ?hc ?_; (case hc => exact ErrOk.g0 (ErrOk.below HE.out zb) (by decide)); (case hr => intro W_ hc_; go_simp)) | ((with_reducible refine gate_dst (N := 33) rfl ?_); refine glob_ rfl (v := .iface 151 (.pointer (some (ErrA.errA 1)))) (g := 0) ?hr ?hc ?_; (case hc => exact ErrOk.g0 (ErrOk.below HE.out zb) (by decide)); (case hr => intro W_ hc_; go_simp)) | ((with_reducible refine gate_callee (f := 35) rfl ?_); refine goesL_ (some 35) rfl rfl Tryd.func35 (by kernel_rfl) rfl #[.agg #[.bool a0_0, .bool a0_1, .int .i64 a0_2, .int .i64 a0_3, .int .i64 a0_4, .slice A0_5 l0_5.length c0_5]] rfl tq ?_; (with_reducible refine (impl_Batch_copyOf.calls kj2 a0_0 a0_1 a0_2 a0_3 a0_4 _ _ l0_5 t658 t659 t660 t661 t662 t663 _ ?side1 ?side2 A58.out).mono ?_); (case side1 => exact tC (Kd.C_below HR0_5.out HB.out)); (case side2 => exact HC0_5.out); rintro e w66 ⟨v664, rfl, ho0, hb⟩; have u_v664 := tsv Tryd.prog v664 ho0; refine ⟨_, rfl, ?_⟩; have HO665 := Aside0.mk (Kd.N_lower (Kd.N_mono (ok' := fun k_ => (w.heap.size ≤ k_) ∧ k_ ≠ gb653 ∧ k_ ≠ gb654 ∧ k_ ≠ gb655) (Kd.S_N (Kd.S_bound ho0)) (fun k_ hk_ => ⟨(Nat.le_trans (below_size zb) hk_.2.1), (tfB BK653 k_ hk_.2.1), (tfB BK654 k_ hk_.2.1), (tfB BK655 k_ hk_.2.1)⟩)) (below_size zb)); replace BK653 := tBb BK653 hb; replace BK654 := tBb BK654 hb; replace BK655 := tBb BK655 hb; replace HB := tBs HB hb; (try clear hb); (try clear hb2); (try clear hk); (try clear hi); (try clear ho0)) | ((with_reducible refine gate_dst (N := 6) rfl ?_); refine box_event ?hg (N := 6) ?hd (cs := #[.bool false, .bool false, .int .i64 0, .int .i64 0, .int .i64 0, .slice none 0 0]) (t := 47) ?hr ?_; (case hd => rfl); (case hg => rfl); (case hr => first | (go_simp; done) | (go_simp; rfl)); intro gb666 hg w67 hbox hb; replace HO665 := tNB HO665 hg hb; have BK666 := Aside0.mk (hbox); have GW666 := tge HB hg; have GE666 := tge HB hg; replace HB := tBs HB hb; have NB653_666 := tlt BK653 hg; have NB666_653 := tgt BK653 hg; replace BK653 := tBb BK653 hb; have NB654_666 := tlt BK654 hg; have NB666_654 := tgt BK654 hg; replace BK654 := tBb BK654 hb; have NB655_666 := tlt BK655 hg; have NB666_655 := tgt BK655 hg; replace BK655 := tBb BK655 hb; clear hb hbox hg; have hnb68 := NB666_653.out; have hnc68 := NB653_666.out; have hnb69 := NB666_654.out; have hnc69 := NB654_666.out; have hnb70 := NB666_655.out; have hnc70 := NB655_666.out; obtain ⟨hcz71_0, hcz71_1, hcz71_2, hcz71_3, hcz71_4, hcz71_5, hfz71_0, hfz71_1, hfz71_2, hfz71_3, hfz71_4, hfz71_5⟩ := cells6 BK666.out; obtain ⟨Ao72, co72, eo72⟩ := Kd.N_slice HO665.out; subst eo72))
      have n0_ : Aside0 (Kd.N k33 33 ((((((w67.setCell ⟨gb666, 0, none⟩ (.bool t658)).setCell ⟨gb666, 1, none⟩ (.bool t659)).setCell ⟨gb666, 2, none⟩ (.int .i64 t660)).setCell ⟨gb666, 3, none⟩ (.int .i64 t661)).setCell ⟨gb666, 4, none⟩ (.int .i64 t662)).setCell ⟨gb666, 5, none⟩ (.slice Ao72 t663.length co72)) w.heap.size (fun k_ => (w.heap.size ≤ k_) ∧ k_ ≠ gb653 ∧ k_ ≠ gb654 ∧ k_ ≠ gb655 ∧ k_ ≠ gb666) (.slice Ao72 t663.length co72) t663) := ⟨tNm HO665.out⟩
      have n1_ : Aside0 (((((((w67.setCell ⟨gb666, 0, none⟩ (.bool t658)).setCell ⟨gb666, 1, none⟩ (.bool t659)).setCell ⟨gb666, 2, none⟩ (.int .i64 t660)).setCell ⟨gb666, 3, none⟩ (.int .i64 t661)).setCell ⟨gb666, 4, none⟩ (.int .i64 t662)).setCell ⟨gb666, 5, none⟩ (.slice Ao72 t663.length co72)).heap[gb653]? = some (.cells #[.bool a0_0, .bool a0_1, .int .i64 a0_2, .int .i64 a0_3, .int .i64 a0_4, .slice A0_5 l0_5.length c0_5] 47 (0, 0))) := ⟨tH BK653.out⟩
      have n2_ : Aside0 (((((((w67.setCell ⟨gb666, 0, none⟩ (.bool t658)).setCell ⟨gb666, 1, none⟩ (.bool t659)).setCell ⟨gb666, 2, none⟩ (.int .i64 t660)).setCell ⟨gb666, 3, none⟩ (.int .i64 t661)).setCell ⟨gb666, 4, none⟩ (.int .i64 t662)).setCell ⟨gb666, 5, none⟩ (.slice Ao72 t663.length co72)).heap[gb654]? = some (.cells #[.bool a1_0, .bool a1_1, .int .i64 a1_2, .int .i64 a1_3, .int .i64 a1_4, .slice A1_5 l1_5.length c1_5] 47 (0, 0))) := ⟨tH BK654.out⟩
      have n3_ : Aside0 (((((((w67.setCell ⟨gb666, 0, none⟩ (.bool t658)).setCell ⟨gb666, 1, none⟩ (.bool t659)).setCell ⟨gb666, 2, none⟩ (.int .i64 t660)).setCell ⟨gb666, 3, none⟩ (.int .i64 t661)).setCell ⟨gb666, 4, none⟩ (.int .i64 t662)).setCell ⟨gb666, 5, none⟩ (.slice Ao72 t663.length co72)).heap[gb655]? = some (.cells #[.bool false, .bool false, .int .i64 0, .int .i64 0, .int .i64 0, .slice none 0 0] 47 (0, 0))) := ⟨tH BK655.out⟩
      have n4_ : Aside0 (((((((w67.setCell ⟨gb666, 0, none⟩ (.bool t658)).setCell ⟨gb666, 1, none⟩ (.bool t659)).setCell ⟨gb666, 2, none⟩ (.int .i64 t660)).setCell ⟨gb666, 3, none⟩ (.int .i64 t661)).setCell ⟨gb666, 4, none⟩ (.int .i64 t662)).setCell ⟨gb666, 5, none⟩ (.slice Ao72 t663.length co72)).heap[gb666]? = some (.cells #[.bool t658, .bool t659, .int .i64 t660, .int .i64 t661, .int .i64 t662, .slice Ao72 t663.length co72] 47 (0, 0))) := ⟨tP BK666.out⟩
      have n5_ : Aside0 (Below w.heap.size w ((((((w67.setCell ⟨gb666, 0, none⟩ (.bool t658)).setCell ⟨gb666, 1, none⟩ (.bool t659)).setCell ⟨gb666, 2, none⟩ (.int .i64 t660)).setCell ⟨gb666, 3, none⟩ (.int .i64 t661)).setCell ⟨gb666, 4, none⟩ (.int .i64 t662)).setCell ⟨gb666, 5, none⟩ (.slice Ao72 t663.length co72))) := ⟨zb⟩
      (try clear HO665)
      (try clear BK653)
      (try clear BK654)
      (try clear BK655)
      (try clear BK666)
      (try clear HB)
      generalize ((((((w67.setCell ⟨gb666, 0, none⟩ (.bool t658)).setCell ⟨gb666, 1, none⟩ (.bool t659)).setCell ⟨gb666, 2, none⟩ (.int .i64 t660)).setCell ⟨gb666, 3, none⟩ (.int .i64 t661)).setCell ⟨gb666, 4, none⟩ (.int .i64 t662)).setCell ⟨gb666, 5, none⟩ (.slice Ao72 t663.length co72)) = w73 at n0_ n1_ n2_ n3_ n4_ n5_ ⊢
      have HO665 := n0_
      have BK653 := n1_
      have BK654 := n2_
      have BK655 := n3_
      have BK666 := n4_
      have HB := n5_
      clear n0_ n1_ n2_ n3_ n4_ n5_
      replace HO665 := Aside0.mk (Kd.N_drew HO665.out)
      replace BK653 := Aside0.mk (blk_drew BK653.out)
      replace BK654 := Aside0.mk (blk_drew BK654.out)
      replace BK655 := Aside0.mk (blk_drew BK655.out)
      replace BK666 := Aside0.mk (blk_drew BK666.out)
      replace HB := Aside0.mk (below_drew1 HB.out)
      refine start_ (n := 8) (S := fun w' => w'.cell? ⟨gb666, 0, none⟩ = some (.bool t658) ∧ w'.cell? ⟨gb666, 1, none⟩ = some (.bool t659) ∧ w'.cell? ⟨gb666, 2, none⟩ = some (.int .i64 t660) ∧ w'.cell? ⟨gb666, 3, none⟩ = some (.int .i64 t661) ∧ w'.cell? ⟨gb666, 4, none⟩ = some (.int .i64 t662) ∧ w'.cell? ⟨gb666, 5, none⟩ = some (.slice Ao72 t663.length co72) ∧ w'.cell? ⟨gb654, 0, none⟩ = some (.bool a1_0) ∧ w'.cell? ⟨gb654, 1, none⟩ = some (.bool a1_1) ∧ w'.cell? ⟨gb654, 2, none⟩ = some (.int .i64 a1_2) ∧ w'.cell? ⟨gb654, 3, none⟩ = some (.int .i64 a1_3) ∧ w'.cell? ⟨gb654, 4, none⟩ = some (.int .i64 a1_4) ∧ w'.cell? ⟨gb654, 5, none⟩ = some (.slice A1_5 l1_5.length c1_5)) (ds := [7]) #[false, false, false, false, false, false, false, false] (by kernel_rfl) rfl rfl ⟨(blk_cell BK666.out 0).trans rfl, (blk_cell BK666.out 1).trans rfl, (blk_cell BK666.out 2).trans rfl, (blk_cell BK666.out 3).trans rfl, (blk_cell BK666.out 4).trans rfl, (blk_cell BK666.out 5).trans rfl, (blk_cell BK654.out 0).trans rfl, (blk_cell BK654.out 1).trans rfl, (blk_cell BK654.out 2).trans rfl, (blk_cell BK654.out 3).trans rfl, (blk_cell BK654.out 4).trans rfl, (blk_cell BK654.out 5).trans rfl⟩ (fun hHeld => ?_); refine with_tabW impl_Batch_join.tab4 impl_Batch_join.bits4 (fun HT_ HW_ => ?_)
      generalize w73.drew = w74 at HO665 BK653 BK654 BK655 BK666 HB hHeld ⊢
      refine tpu 0 (some 36) #[true, false, false, false, false, false, false, false] ?_
      refine tpu 2 (some 38) #[true, false, true, false, false, false, false, false] ?_
      refine tta 1 (some 37) #[true, true, true, false, false, false, false, false] hHeld ?_ (hy := by rintro w' ⟨s0, s1, s2, s3, s4, s5, s6, s7, s8, s9, s10, s11⟩; go_simp; with_reducible rfl)
      refine tta 3 (some 39) #[true, true, true, true, false, false, false, false] hHeld ?_ (hy := by rintro w' ⟨s0, s1, s2, s3, s4, s5, s6, s7, s8, s9, s10, s11⟩; go_simp; with_reducible rfl)
      refine one_ (i := 4) (N := some 40) #[true, true, true, true, true, false, false, false] rfl rfl (one_of HT_.out (by kernel_rfl)) (by decide) (fun K hK => ?_)
      refine goes_ Tryd.func57 (by kernel_rfl) rfl #[.slice A1_5 l1_5.length c1_5] (by rfl) rfl rfl tq ?_
      with_reducible refine (impl_copyRecords.calls kj2 _ _ l1_5 t667 _ ?side1 ?side2 A59.out).mono ?_
      (case side1 => exact tC (Kd.C_below HR1_5.out HB.out))
      (case side2 => exact HC1_5.out)
      rintro e w75 ⟨v668, rfl, ho0, hb⟩
      refine ⟨_, rfl, ?_⟩
      have HO669 := Aside0.mk (Kd.N_lower (Kd.N_mono (ok' := fun k_ => (w.heap.size ≤ k_) ∧ some k_ ≠ (.slice Ao72 t663.length co72 : Value).ownBlock ∧ k_ ≠ gb653 ∧ k_ ≠ gb654 ∧ k_ ≠ gb655 ∧ k_ ≠ gb666) (Kd.S_N (Kd.S_bound ho0)) (fun k_ hk_ => ⟨(Nat.le_trans (below_size zb) hk_.2.1), (tfr HO665 k_ hk_.2.1), (tfB BK653 k_ hk_.2.1), (tfB BK654 k_ hk_.2.1), (tfB BK655 k_ hk_.2.1), (tfB BK666 k_ hk_.2.1)⟩)) (below_size zb))
      replace HO665 := tNe HO665 ho0 hb
      replace BK653 := tBb BK653 hb
      replace BK654 := tBb BK654 hb
      replace BK655 := tBb BK655 hb
      replace BK666 := tBb BK666 hb
      replace HB := tBs HB hb
      (try clear hb)
      (try clear hb2)
      (try clear hk)
      (try clear hi)
      (try clear ho0)
      obtain ⟨Ao77, co77, eo77⟩ := Kd.N_slice HO669.out
      (first | subst eo77 | (injection eo77 with f1_ f2_ f3_; have f4_ := f1_.symm; have f5_ := f3_.symm; clear f1_ f2_ f3_; subst f4_; subst f5_))
      refine hK.out _ _ ⟨(blk_cell BK666.out 0).trans rfl, (blk_cell BK666.out 1).trans rfl, (blk_cell BK666.out 2).trans rfl, (blk_cell BK666.out 3).trans rfl, (blk_cell BK666.out 4).trans rfl, (blk_cell BK666.out 5).trans rfl, (blk_cell BK654.out 0).trans rfl, (blk_cell BK654.out 1).trans rfl, (blk_cell BK654.out 2).trans rfl, (blk_cell BK654.out 3).trans rfl, (blk_cell BK654.out 4).trans rfl, (blk_cell BK654.out 5).trans rfl⟩ (fun hHeld => ?_)
      clear hK K
      refine tnm (some 40) ?_
      refine one_ (i := 5) (N := some 41) #[true, true, true, true, true, true, false, false] rfl rfl (one_of HT_.out (by kernel_rfl)) (by decide) (fun K hK => ?_)
      refine Kd.N_append_rows_step k33 (w0 := w) w.heap.size (by rfl) (.tmp 37) (.tmp 40) 29 33 (.agg #[(.int .i64 0), (.int .i64 0), (.bool false), (.slice none 0 0), (.bool false), (.slice none 0 0)]) 80 rfl Tryd.underlying29 info33 rfl (by decide) (by omega) (.slice Ao72 t663.length co72) t663 t667 _ _ _ (fun k_ => (w.heap.size ≤ k_) ∧ k_ ≠ gb653 ∧ k_ ≠ gb654 ∧ k_ ≠ gb655 ∧ k_ ≠ gb666) (fun k_ => ((fun k_ => (w.heap.size ≤ k_) ∧ k_ ≠ gb653 ∧ k_ ≠ gb654 ∧ k_ ≠ gb655 ∧ k_ ≠ gb666)) k_ ∧ some k_ ≠ (.slice Ao72 t663.length co72 : Value).ownBlock) rfl rfl ?aO ?aR (fun _ hk => hk) ?aF ?aB ?aS ?aL ?_
      (case aR => exact (by skip; exact Kd.N_F (Kd.N_mono (ok' := (fun k_ => ((fun k_ => (w.heap.size ≤ k_) ∧ k_ ≠ gb653 ∧ k_ ≠ gb654 ∧ k_ ≠ gb655 ∧ k_ ≠ gb666)) k_ ∧ some k_ ≠ (.slice Ao72 t663.length co72 : Value).ownBlock)) (HO669.out) (fun k_ hk => ⟨⟨hk.1, ⟨hk.2.2.1, ⟨hk.2.2.2.1, ⟨hk.2.2.2.2.1, hk.2.2.2.2.2⟩⟩⟩⟩, hk.2.1⟩))))
      (case aB => exact zb)
      (case aF => exact (fun k_ hk => ⟨(Nat.le_trans (below_size zb) hk), tfB BK653 k_ hk, tfB BK654 k_ hk, tfB BK655 k_ hk, tfB BK666 k_ hk⟩))
      (case aO => exact (tNm HO665.out))
      (case aS => exact (below_size zb))
      (case aL => have := LMc60.out; omega)
      intro v671 w76 ho hb hg hat
      rw [← Ny670.out] at ho
      replace BK653 := Aside0.mk (blk_grown (tH BK653.out) hg (Kd.N_ne HO665.out BK653.out (by decide)))
      replace BK654 := Aside0.mk (blk_grown (tH BK654.out) hg (Kd.N_ne HO665.out BK654.out (by decide)))
      replace BK655 := Aside0.mk (blk_grown (tH BK655.out) hg (Kd.N_ne HO665.out BK655.out (by decide)))
      replace BK666 := Aside0.mk (blk_grown (tH BK666.out) hg (Kd.N_ne HO665.out BK666.out (by decide)))
      replace HO669 := Aside0.mk (Kd.N_afterv (ok := (fun k_ => (w.heap.size ≤ k_) ∧ k_ ≠ gb653 ∧ k_ ≠ gb654 ∧ k_ ≠ gb655 ∧ k_ ≠ gb666)) (tNm HO669.out) hg hat)
      replace HB := Aside0.mk (hb)
      have HO672 := Aside0.mk (ho)
      clear HO665
      clear ho hb hg hat
      obtain ⟨Ao78, co78, eo78⟩ := Kd.N_slice HO672.out
      (first | subst eo78 | (injection eo78 with f1_ f2_ f3_; have f4_ := f1_.symm; have f5_ := f3_.symm; clear f1_ f2_ f3_; subst f4_; subst f5_))
      refine hK.out _ _ ⟨(blk_cell BK666.out 0).trans rfl, (blk_cell BK666.out 1).trans rfl, (blk_cell BK666.out 2).trans rfl, (blk_cell BK666.out 3).trans rfl, (blk_cell BK666.out 4).trans rfl, (blk_cell BK666.out 5).trans rfl, (blk_cell BK654.out 0).trans rfl, (blk_cell BK654.out 1).trans rfl, (blk_cell BK654.out 2).trans rfl, (blk_cell BK654.out 3).trans rfl, (blk_cell BK654.out 4).trans rfl, (blk_cell BK654.out 5).trans rfl⟩ (fun hHeld => ?_)
      clear hK K
      refine tnm (some 41) ?_
      refine tpu 6 (some 42) #[true, true, true, true, true, true, true, false] ?_
      refine last_ (i := 7) (N := none) #[true, true, true, true, true, true, true, true] rfl rfl (one_of HT_.out (by kernel_rfl)) (by decide) (fun K hK => ?_)
      have hs79 : w76.cell? ⟨gb666, 5, none⟩ = some (.slice Ao72 t663.length co72) := (blk_cell BK666.out 5).trans rfl
      have hfs79 := blk_frozen BK666.out 5
      have hns79_0 := NB653_666.out
      have hns79_1 := NB654_666.out
      have hns79_2 := NB655_666.out
      have hms79_0 := NB666_653.out
      have hms79_1 := NB666_654.out
      have hms79_2 := NB666_655.out
      refine tsk ?_
      refine hK.out _ _ ?_
      clear hK K
      refine done_ (done_of HT_.out (by kernel_rfl)) ?_
      obtain ⟨hcz80_0, hcz80_1, hcz80_2, hcz80_3, hcz80_4, hcz80_5, hfz80_0, hfz80_1, hfz80_2, hfz80_3, hfz80_4, hfz80_5⟩ := cells6 BK666.out
      try go_wp2_with (first | ((with_reducible refine gate_dst (N := 47) rfl ?_); refine glob_ rfl (v := .iface 151 (.pointer (some (ErrA.errA 1)))) (g := 0) ?hr ?hc ?_; (case hc => exact ErrOk.g0 (ErrOk.below HE.out zb) (by decide)); (case hr => intro W_ hc_; go_simp)) | ((with_reducible refine gate_dst (N := 33) rfl ?_); refine glob_ rfl (v := .iface 151 (.pointer (some (ErrA.errA 1)))) (g := 0) ?hr ?hc ?_; (case hc => exact ErrOk.g0 (ErrOk.below HE.out zb) (by decide)); (case hr => intro W_ hc_; go_simp)) | ((with_reducible refine gate_callee (f := 44) rfl ?_); refine goesL_ (some 44) rfl rfl Tryd.func44 (by kernel_rfl) rfl #[.agg #[.bool t658, .bool t659, .int .i64 t660, .int .i64 t661, .int .i64 t662, .slice Ao78 y670.length co78]] rfl tq ?_; (with_reducible refine (impl_BatchValid.calls kj2 t658 t659 t660 t661 t662 _ _ y670 true _ ?side1 ?side2 A61.out).mono ?_); (case side1 => exact (Kd.N_reads' (tN HO672.out)).2.2); (case side2 => exact (Kd.N_reads' HO672.out).2.1); rintro e w81 ⟨rfl, hb⟩; refine ⟨_, rfl, ?_⟩; replace HO669 := tNb HO669 hb; replace HO672 := tNb HO672 hb; replace BK653 := tBb BK653 hb; replace BK654 := tBb BK654 hb; replace BK655 := tBb BK655 hb; replace BK666 := tBp (o' := .cells #[.bool t658, .bool t659, .int .i64 t660, .int .i64 t661, .int .i64 t662, .slice Ao78 y670.length co78] 47 (0, 0)) BK666 hb; replace HB := tBs HB hb; (try clear hb); (try clear hb2); (try clear hk); (try clear hi); obtain ⟨hcz82_0, hcz82_1, hcz82_2, hcz82_3, hcz82_4, hcz82_5, hfz82_0, hfz82_1, hfz82_2, hfz82_3, hfz82_4, hfz82_5⟩ := cells6 BK666.out; have hnb83 := NB655_654.out; have hnc83 := NB654_655.out; obtain ⟨hcz84_0, hcz84_1, hcz84_2, hcz84_3, hcz84_4, hcz84_5, hfz84_0, hfz84_1, hfz84_2, hfz84_3, hfz84_4, hfz84_5⟩ := cells6 BK655.out))
      refine bodyPost_ret (results_ct rfl _ _ gb655 47 #[.bool t658, .bool t659, .int .i64 t660, .int .i64 t661, .int .i64 t662, .slice Ao78 y670.length co78] (0, 0) _ rfl (tP BK655.out) Tryd.underlying47 rfl (by kernel_rfl)) rfl ?_
      exact ⟨_, by first | rfl | (simp [errW_none, errW_some] <;> rfl) | (simp [*, errW_none, errW_some] <;> rfl), tNm HO672.out, zb⟩
     ·replace c62 := Bool.eq_false_iff.mpr c62
      subst c62
      rw [if_neg (show ¬ (false = true) by decide)] at H
      simp only [Option.some.injEq, Prod.mk.injEq] at H
      obtain ⟨rfl, rfl, rfl, rfl, rfl, rfl, rfl⟩ := H
      have hnb85 := NB653_654.out
      have hnc85 := NB654_653.out
      have hnb86 := NB653_655.out
      have hnc86 := NB655_653.out
      obtain ⟨hcz87_0, hcz87_1, hcz87_2, hcz87_3, hcz87_4, hcz87_5, hfz87_0, hfz87_1, hfz87_2, hfz87_3, hfz87_4, hfz87_5⟩ := cells6 BK653.out
      try go_wp2_with (first | ((with_reducible refine gate_dst (N := 47) rfl ?_); refine glob_ rfl (v := .iface 151 (.pointer (some (ErrA.errA 1)))) (g := 0) ?hr ?hc ?_; (case hc => exact ErrOk.g0 (ErrOk.below HE.out zb) (by decide)); (case hr => intro W_ hc_; go_simp)) | ((with_reducible refine gate_dst (N := 33) rfl ?_); refine glob_ rfl (v := .iface 151 (.pointer (some (ErrA.errA 1)))) (g := 0) ?hr ?hc ?_; (case hc => exact ErrOk.g0 (ErrOk.below HE.out zb) (by decide)); (case hr => intro W_ hc_; go_simp)) | ((with_reducible refine gate_callee (f := 35) rfl ?_); refine goesL_ (some 35) rfl rfl Tryd.func35 (by kernel_rfl) rfl #[.agg #[.bool a0_0, .bool a0_1, .int .i64 a0_2, .int .i64 a0_3, .int .i64 a0_4, .slice A0_5 l0_5.length c0_5]] rfl tq ?_; (with_reducible refine (impl_Batch_copyOf.calls kj2 a0_0 a0_1 a0_2 a0_3 a0_4 _ _ l0_5 t658 t659 t660 t661 t662 t663 _ ?side1 ?side2 A58.out).mono ?_); (case side1 => exact tC (Kd.C_below HR0_5.out HB.out)); (case side2 => exact HC0_5.out); rintro e w88 ⟨v664, rfl, ho0, hb⟩; have u_v664 := tsv Tryd.prog v664 ho0; refine ⟨_, rfl, ?_⟩; have HO665 := Aside0.mk (Kd.N_lower (Kd.N_mono (ok' := fun k_ => (w.heap.size ≤ k_) ∧ k_ ≠ gb653 ∧ k_ ≠ gb654 ∧ k_ ≠ gb655) (Kd.S_N (Kd.S_bound ho0)) (fun k_ hk_ => ⟨(Nat.le_trans (below_size zb) hk_.2.1), (tfB BK653 k_ hk_.2.1), (tfB BK654 k_ hk_.2.1), (tfB BK655 k_ hk_.2.1)⟩)) (below_size zb)); replace BK653 := tBb BK653 hb; replace BK654 := tBb BK654 hb; replace BK655 := tBb BK655 hb; replace HB := tBs HB hb; (try clear hb); (try clear hb2); (try clear hk); (try clear hi); (try clear ho0)) | ((with_reducible refine gate_dst (N := 6) rfl ?_); refine box_event ?hg (N := 6) ?hd (cs := #[.bool false, .bool false, .int .i64 0, .int .i64 0, .int .i64 0, .slice none 0 0]) (t := 47) ?hr ?_; (case hd => rfl); (case hg => rfl); (case hr => first | (go_simp; done) | (go_simp; rfl)); intro gb666 hg w89 hbox hb; replace HO665 := tNB HO665 hg hb; have BK666 := Aside0.mk (hbox); have GW666 := tge HB hg; have GE666 := tge HB hg; replace HB := tBs HB hb; have NB653_666 := tlt BK653 hg; have NB666_653 := tgt BK653 hg; replace BK653 := tBb BK653 hb; have NB654_666 := tlt BK654 hg; have NB666_654 := tgt BK654 hg; replace BK654 := tBb BK654 hb; have NB655_666 := tlt BK655 hg; have NB666_655 := tgt BK655 hg; replace BK655 := tBb BK655 hb; clear hb hbox hg; have hnb90 := NB666_653.out; have hnc90 := NB653_666.out; have hnb91 := NB666_654.out; have hnc91 := NB654_666.out; have hnb92 := NB666_655.out; have hnc92 := NB655_666.out; obtain ⟨hcz93_0, hcz93_1, hcz93_2, hcz93_3, hcz93_4, hcz93_5, hfz93_0, hfz93_1, hfz93_2, hfz93_3, hfz93_4, hfz93_5⟩ := cells6 BK666.out; obtain ⟨Ao94, co94, eo94⟩ := Kd.N_slice HO665.out; subst eo94))
      have n0_ : Aside0 (Kd.N k33 33 ((((((w89.setCell ⟨gb666, 0, none⟩ (.bool t658)).setCell ⟨gb666, 1, none⟩ (.bool t659)).setCell ⟨gb666, 2, none⟩ (.int .i64 t660)).setCell ⟨gb666, 3, none⟩ (.int .i64 t661)).setCell ⟨gb666, 4, none⟩ (.int .i64 t662)).setCell ⟨gb666, 5, none⟩ (.slice Ao94 t663.length co94)) w.heap.size (fun k_ => (w.heap.size ≤ k_) ∧ k_ ≠ gb653 ∧ k_ ≠ gb654 ∧ k_ ≠ gb655 ∧ k_ ≠ gb666) (.slice Ao94 t663.length co94) t663) := ⟨tNm HO665.out⟩
      have n1_ : Aside0 (((((((w89.setCell ⟨gb666, 0, none⟩ (.bool t658)).setCell ⟨gb666, 1, none⟩ (.bool t659)).setCell ⟨gb666, 2, none⟩ (.int .i64 t660)).setCell ⟨gb666, 3, none⟩ (.int .i64 t661)).setCell ⟨gb666, 4, none⟩ (.int .i64 t662)).setCell ⟨gb666, 5, none⟩ (.slice Ao94 t663.length co94)).heap[gb653]? = some (.cells #[.bool a0_0, .bool a0_1, .int .i64 a0_2, .int .i64 a0_3, .int .i64 a0_4, .slice A0_5 l0_5.length c0_5] 47 (0, 0))) := ⟨tH BK653.out⟩
      have n2_ : Aside0 (((((((w89.setCell ⟨gb666, 0, none⟩ (.bool t658)).setCell ⟨gb666, 1, none⟩ (.bool t659)).setCell ⟨gb666, 2, none⟩ (.int .i64 t660)).setCell ⟨gb666, 3, none⟩ (.int .i64 t661)).setCell ⟨gb666, 4, none⟩ (.int .i64 t662)).setCell ⟨gb666, 5, none⟩ (.slice Ao94 t663.length co94)).heap[gb654]? = some (.cells #[.bool a1_0, .bool a1_1, .int .i64 a1_2, .int .i64 a1_3, .int .i64 a1_4, .slice A1_5 l1_5.length c1_5] 47 (0, 0))) := ⟨tH BK654.out⟩
      have n3_ : Aside0 (((((((w89.setCell ⟨gb666, 0, none⟩ (.bool t658)).setCell ⟨gb666, 1, none⟩ (.bool t659)).setCell ⟨gb666, 2, none⟩ (.int .i64 t660)).setCell ⟨gb666, 3, none⟩ (.int .i64 t661)).setCell ⟨gb666, 4, none⟩ (.int .i64 t662)).setCell ⟨gb666, 5, none⟩ (.slice Ao94 t663.length co94)).heap[gb655]? = some (.cells #[.bool false, .bool false, .int .i64 0, .int .i64 0, .int .i64 0, .slice none 0 0] 47 (0, 0))) := ⟨tH BK655.out⟩
      have n4_ : Aside0 (((((((w89.setCell ⟨gb666, 0, none⟩ (.bool t658)).setCell ⟨gb666, 1, none⟩ (.bool t659)).setCell ⟨gb666, 2, none⟩ (.int .i64 t660)).setCell ⟨gb666, 3, none⟩ (.int .i64 t661)).setCell ⟨gb666, 4, none⟩ (.int .i64 t662)).setCell ⟨gb666, 5, none⟩ (.slice Ao94 t663.length co94)).heap[gb666]? = some (.cells #[.bool t658, .bool t659, .int .i64 t660, .int .i64 t661, .int .i64 t662, .slice Ao94 t663.length co94] 47 (0, 0))) := ⟨tP BK666.out⟩
      have n5_ : Aside0 (Below w.heap.size w ((((((w89.setCell ⟨gb666, 0, none⟩ (.bool t658)).setCell ⟨gb666, 1, none⟩ (.bool t659)).setCell ⟨gb666, 2, none⟩ (.int .i64 t660)).setCell ⟨gb666, 3, none⟩ (.int .i64 t661)).setCell ⟨gb666, 4, none⟩ (.int .i64 t662)).setCell ⟨gb666, 5, none⟩ (.slice Ao94 t663.length co94))) := ⟨zb⟩
      (try clear HO665)
      (try clear BK653)
      (try clear BK654)
      (try clear BK655)
      (try clear BK666)
      (try clear HB)
      generalize ((((((w89.setCell ⟨gb666, 0, none⟩ (.bool t658)).setCell ⟨gb666, 1, none⟩ (.bool t659)).setCell ⟨gb666, 2, none⟩ (.int .i64 t660)).setCell ⟨gb666, 3, none⟩ (.int .i64 t661)).setCell ⟨gb666, 4, none⟩ (.int .i64 t662)).setCell ⟨gb666, 5, none⟩ (.slice Ao94 t663.length co94)) = w95 at n0_ n1_ n2_ n3_ n4_ n5_ ⊢
      have HO665 := n0_
      have BK653 := n1_
      have BK654 := n2_
      have BK655 := n3_
      have BK666 := n4_
      have HB := n5_
      clear n0_ n1_ n2_ n3_ n4_ n5_
      replace HO665 := Aside0.mk (Kd.N_drew HO665.out)
      replace BK653 := Aside0.mk (blk_drew BK653.out)
      replace BK654 := Aside0.mk (blk_drew BK654.out)
      replace BK655 := Aside0.mk (blk_drew BK655.out)
      replace BK666 := Aside0.mk (blk_drew BK666.out)
      replace HB := Aside0.mk (below_drew1 HB.out)
      refine start_ (n := 8) (S := fun w' => w'.cell? ⟨gb666, 0, none⟩ = some (.bool t658) ∧ w'.cell? ⟨gb666, 1, none⟩ = some (.bool t659) ∧ w'.cell? ⟨gb666, 2, none⟩ = some (.int .i64 t660) ∧ w'.cell? ⟨gb666, 3, none⟩ = some (.int .i64 t661) ∧ w'.cell? ⟨gb666, 4, none⟩ = some (.int .i64 t662) ∧ w'.cell? ⟨gb666, 5, none⟩ = some (.slice Ao94 t663.length co94) ∧ w'.cell? ⟨gb654, 0, none⟩ = some (.bool a1_0) ∧ w'.cell? ⟨gb654, 1, none⟩ = some (.bool a1_1) ∧ w'.cell? ⟨gb654, 2, none⟩ = some (.int .i64 a1_2) ∧ w'.cell? ⟨gb654, 3, none⟩ = some (.int .i64 a1_3) ∧ w'.cell? ⟨gb654, 4, none⟩ = some (.int .i64 a1_4) ∧ w'.cell? ⟨gb654, 5, none⟩ = some (.slice A1_5 l1_5.length c1_5)) (ds := [7]) #[false, false, false, false, false, false, false, false] (by kernel_rfl) rfl rfl ⟨(blk_cell BK666.out 0).trans rfl, (blk_cell BK666.out 1).trans rfl, (blk_cell BK666.out 2).trans rfl, (blk_cell BK666.out 3).trans rfl, (blk_cell BK666.out 4).trans rfl, (blk_cell BK666.out 5).trans rfl, (blk_cell BK654.out 0).trans rfl, (blk_cell BK654.out 1).trans rfl, (blk_cell BK654.out 2).trans rfl, (blk_cell BK654.out 3).trans rfl, (blk_cell BK654.out 4).trans rfl, (blk_cell BK654.out 5).trans rfl⟩ (fun hHeld => ?_); refine with_tabW impl_Batch_join.tab4 impl_Batch_join.bits4 (fun HT_ HW_ => ?_)
      generalize w95.drew = w96 at HO665 BK653 BK654 BK655 BK666 HB hHeld ⊢
      refine tpu 0 (some 36) #[true, false, false, false, false, false, false, false] ?_
      refine tpu 2 (some 38) #[true, false, true, false, false, false, false, false] ?_
      refine tta 1 (some 37) #[true, true, true, false, false, false, false, false] hHeld ?_ (hy := by rintro w' ⟨s0, s1, s2, s3, s4, s5, s6, s7, s8, s9, s10, s11⟩; go_simp; with_reducible rfl)
      refine tta 3 (some 39) #[true, true, true, true, false, false, false, false] hHeld ?_ (hy := by rintro w' ⟨s0, s1, s2, s3, s4, s5, s6, s7, s8, s9, s10, s11⟩; go_simp; with_reducible rfl)
      refine one_ (i := 4) (N := some 40) #[true, true, true, true, true, false, false, false] rfl rfl (one_of HT_.out (by kernel_rfl)) (by decide) (fun K hK => ?_)
      refine goes_ Tryd.func57 (by kernel_rfl) rfl #[.slice A1_5 l1_5.length c1_5] (by rfl) rfl rfl tq ?_
      with_reducible refine (impl_copyRecords.calls kj2 _ _ l1_5 t667 _ ?side1 ?side2 A59.out).mono ?_
      (case side1 => exact tC (Kd.C_below HR1_5.out HB.out))
      (case side2 => exact HC1_5.out)
      rintro e w97 ⟨v668, rfl, ho0, hb⟩
      refine ⟨_, rfl, ?_⟩
      have HO669 := Aside0.mk (Kd.N_lower (Kd.N_mono (ok' := fun k_ => (w.heap.size ≤ k_) ∧ some k_ ≠ (.slice Ao94 t663.length co94 : Value).ownBlock ∧ k_ ≠ gb653 ∧ k_ ≠ gb654 ∧ k_ ≠ gb655 ∧ k_ ≠ gb666) (Kd.S_N (Kd.S_bound ho0)) (fun k_ hk_ => ⟨(Nat.le_trans (below_size zb) hk_.2.1), (tfr HO665 k_ hk_.2.1), (tfB BK653 k_ hk_.2.1), (tfB BK654 k_ hk_.2.1), (tfB BK655 k_ hk_.2.1), (tfB BK666 k_ hk_.2.1)⟩)) (below_size zb))
      replace HO665 := tNe HO665 ho0 hb
      replace BK653 := tBb BK653 hb
      replace BK654 := tBb BK654 hb
      replace BK655 := tBb BK655 hb
      replace BK666 := tBb BK666 hb
      replace HB := tBs HB hb
      (try clear hb)
      (try clear hb2)
      (try clear hk)
      (try clear hi)
      (try clear ho0)
      obtain ⟨Ao99, co99, eo99⟩ := Kd.N_slice HO669.out
      (first | subst eo99 | (injection eo99 with f1_ f2_ f3_; have f4_ := f1_.symm; have f5_ := f3_.symm; clear f1_ f2_ f3_; subst f4_; subst f5_))
      refine hK.out _ _ ⟨(blk_cell BK666.out 0).trans rfl, (blk_cell BK666.out 1).trans rfl, (blk_cell BK666.out 2).trans rfl, (blk_cell BK666.out 3).trans rfl, (blk_cell BK666.out 4).trans rfl, (blk_cell BK666.out 5).trans rfl, (blk_cell BK654.out 0).trans rfl, (blk_cell BK654.out 1).trans rfl, (blk_cell BK654.out 2).trans rfl, (blk_cell BK654.out 3).trans rfl, (blk_cell BK654.out 4).trans rfl, (blk_cell BK654.out 5).trans rfl⟩ (fun hHeld => ?_)
      clear hK K
      refine tnm (some 40) ?_
      refine one_ (i := 5) (N := some 41) #[true, true, true, true, true, true, false, false] rfl rfl (one_of HT_.out (by kernel_rfl)) (by decide) (fun K hK => ?_)
      refine Kd.N_append_rows_step k33 (w0 := w) w.heap.size (by rfl) (.tmp 37) (.tmp 40) 29 33 (.agg #[(.int .i64 0), (.int .i64 0), (.bool false), (.slice none 0 0), (.bool false), (.slice none 0 0)]) 80 rfl Tryd.underlying29 info33 rfl (by decide) (by omega) (.slice Ao94 t663.length co94) t663 t667 _ _ _ (fun k_ => (w.heap.size ≤ k_) ∧ k_ ≠ gb653 ∧ k_ ≠ gb654 ∧ k_ ≠ gb655 ∧ k_ ≠ gb666) (fun k_ => ((fun k_ => (w.heap.size ≤ k_) ∧ k_ ≠ gb653 ∧ k_ ≠ gb654 ∧ k_ ≠ gb655 ∧ k_ ≠ gb666)) k_ ∧ some k_ ≠ (.slice Ao94 t663.length co94 : Value).ownBlock) rfl rfl ?aO ?aR (fun _ hk => hk) ?aF ?aB ?aS ?aL ?_
      (case aR => exact (by skip; exact Kd.N_F (Kd.N_mono (ok' := (fun k_ => ((fun k_ => (w.heap.size ≤ k_) ∧ k_ ≠ gb653 ∧ k_ ≠ gb654 ∧ k_ ≠ gb655 ∧ k_ ≠ gb666)) k_ ∧ some k_ ≠ (.slice Ao94 t663.length co94 : Value).ownBlock)) (HO669.out) (fun k_ hk => ⟨⟨hk.1, ⟨hk.2.2.1, ⟨hk.2.2.2.1, ⟨hk.2.2.2.2.1, hk.2.2.2.2.2⟩⟩⟩⟩, hk.2.1⟩))))
      (case aB => exact zb)
      (case aF => exact (fun k_ hk => ⟨(Nat.le_trans (below_size zb) hk), tfB BK653 k_ hk, tfB BK654 k_ hk, tfB BK655 k_ hk, tfB BK666 k_ hk⟩))
      (case aO => exact (tNm HO665.out))
      (case aS => exact (below_size zb))
      (case aL => have := LMc60.out; omega)
      intro v671 w98 ho hb hg hat
      rw [← Ny670.out] at ho
      replace BK653 := Aside0.mk (blk_grown (tH BK653.out) hg (Kd.N_ne HO665.out BK653.out (by decide)))
      replace BK654 := Aside0.mk (blk_grown (tH BK654.out) hg (Kd.N_ne HO665.out BK654.out (by decide)))
      replace BK655 := Aside0.mk (blk_grown (tH BK655.out) hg (Kd.N_ne HO665.out BK655.out (by decide)))
      replace BK666 := Aside0.mk (blk_grown (tH BK666.out) hg (Kd.N_ne HO665.out BK666.out (by decide)))
      replace HO669 := Aside0.mk (Kd.N_afterv (ok := (fun k_ => (w.heap.size ≤ k_) ∧ k_ ≠ gb653 ∧ k_ ≠ gb654 ∧ k_ ≠ gb655 ∧ k_ ≠ gb666)) (tNm HO669.out) hg hat)
      replace HB := Aside0.mk (hb)
      have HO672 := Aside0.mk (ho)
      clear HO665
      clear ho hb hg hat
      obtain ⟨Ao100, co100, eo100⟩ := Kd.N_slice HO672.out
      (first | subst eo100 | (injection eo100 with f1_ f2_ f3_; have f4_ := f1_.symm; have f5_ := f3_.symm; clear f1_ f2_ f3_; subst f4_; subst f5_))
      refine hK.out _ _ ⟨(blk_cell BK666.out 0).trans rfl, (blk_cell BK666.out 1).trans rfl, (blk_cell BK666.out 2).trans rfl, (blk_cell BK666.out 3).trans rfl, (blk_cell BK666.out 4).trans rfl, (blk_cell BK666.out 5).trans rfl, (blk_cell BK654.out 0).trans rfl, (blk_cell BK654.out 1).trans rfl, (blk_cell BK654.out 2).trans rfl, (blk_cell BK654.out 3).trans rfl, (blk_cell BK654.out 4).trans rfl, (blk_cell BK654.out 5).trans rfl⟩ (fun hHeld => ?_)
      clear hK K
      refine tnm (some 41) ?_
      refine tpu 6 (some 42) #[true, true, true, true, true, true, true, false] ?_
      refine last_ (i := 7) (N := none) #[true, true, true, true, true, true, true, true] rfl rfl (one_of HT_.out (by kernel_rfl)) (by decide) (fun K hK => ?_)
      have hs101 : w98.cell? ⟨gb666, 5, none⟩ = some (.slice Ao94 t663.length co94) := (blk_cell BK666.out 5).trans rfl
      have hfs101 := blk_frozen BK666.out 5
      have hns101_0 := NB653_666.out
      have hns101_1 := NB654_666.out
      have hns101_2 := NB655_666.out
      have hms101_0 := NB666_653.out
      have hms101_1 := NB666_654.out
      have hms101_2 := NB666_655.out
      refine tsk ?_
      refine hK.out _ _ ?_
      clear hK K
      refine done_ (done_of HT_.out (by kernel_rfl)) ?_
      obtain ⟨hcz102_0, hcz102_1, hcz102_2, hcz102_3, hcz102_4, hcz102_5, hfz102_0, hfz102_1, hfz102_2, hfz102_3, hfz102_4, hfz102_5⟩ := cells6 BK666.out
      try go_wp2_with (first | ((with_reducible refine gate_dst (N := 47) rfl ?_); refine glob_ rfl (v := .iface 151 (.pointer (some (ErrA.errA 1)))) (g := 0) ?hr ?hc ?_; (case hc => exact ErrOk.g0 (ErrOk.below HE.out zb) (by decide)); (case hr => intro W_ hc_; go_simp)) | ((with_reducible refine gate_dst (N := 33) rfl ?_); refine glob_ rfl (v := .iface 151 (.pointer (some (ErrA.errA 1)))) (g := 0) ?hr ?hc ?_; (case hc => exact ErrOk.g0 (ErrOk.below HE.out zb) (by decide)); (case hr => intro W_ hc_; go_simp)) | ((with_reducible refine gate_callee (f := 44) rfl ?_); refine goesL_ (some 44) rfl rfl Tryd.func44 (by kernel_rfl) rfl #[.agg #[.bool t658, .bool t659, .int .i64 t660, .int .i64 t661, .int .i64 t662, .slice Ao100 y670.length co100]] rfl tq ?_; (with_reducible refine (impl_BatchValid.calls kj2 t658 t659 t660 t661 t662 _ _ y670 false _ ?side1 ?side2 A61.out).mono ?_); (case side1 => exact (Kd.N_reads' (tN HO672.out)).2.2); (case side2 => exact (Kd.N_reads' HO672.out).2.1); rintro e w103 ⟨rfl, hb⟩; refine ⟨_, rfl, ?_⟩; replace HO669 := tNb HO669 hb; replace HO672 := tNb HO672 hb; replace BK653 := tBb BK653 hb; replace BK654 := tBb BK654 hb; replace BK655 := tBb BK655 hb; replace BK666 := tBp (o' := .cells #[.bool t658, .bool t659, .int .i64 t660, .int .i64 t661, .int .i64 t662, .slice Ao100 y670.length co100] 47 (0, 0)) BK666 hb; replace HB := tBs HB hb; (try clear hb); (try clear hb2); (try clear hk); (try clear hi)))
      replace HO669 := Aside0.mk (Kd.N_drew HO669.out)
      replace HO672 := Aside0.mk (Kd.N_drew HO672.out)
      replace BK653 := Aside0.mk (blk_drew BK653.out)
      replace BK654 := Aside0.mk (blk_drew BK654.out)
      replace BK655 := Aside0.mk (blk_drew BK655.out)
      replace BK666 := Aside0.mk (blk_drew BK666.out)
      replace HB := Aside0.mk (below_drew1 HB.out)
      refine start_ (n := 4) (S := ErrOk [0]) (ds := []) #[false, false, false, false] (by kernel_rfl) rfl rfl (ErrOk.below HE.out HB.out) (fun hHeld => ?_)
      generalize w103.drew = w104 at HO669 HO672 BK653 BK654 BK655 BK666 HB hHeld ⊢
      refine pure_ (i := 0) (N := some 46) (v := ?_) (a' := ?_) #[true, false, false, false] rfl rfl (by kernel_rfl) (fun _ _ _ h => h) (Or.inl ⟨by rfl, ?_⟩) ?_ ?_
      rotate_left
      ·intro w'
       go_simp
       with_reducible rfl
      rotate_left
      ·simp only [Act.put, List.setIfInBounds_toArray, List.set_cons_zero, List.set_cons_succ, i64_w, i32_w]
       rfl
      refine take_ (i := 1) (N := some 47) (v := ?_) (a' := ?_) #[true, true, false, false] rfl rfl (by kernel_rfl) (fun _ _ _ h => h) (Or.inl ⟨by rfl, ?_⟩) hHeld ?_ ?_
      rotate_left
      ·intro w' hS_
       try have hg0_ := ErrOk.g0 hS_ (by decide)
       try have hg1_ := ErrOk.g1 hS_ (by decide)
       clear hS_
       go_simp
       with_reducible rfl
      rotate_left
      ·simp only [Act.put, List.setIfInBounds_toArray, List.set_cons_zero, List.set_cons_succ, i64_w, i32_w]
       rfl
      refine one_ (i := 2) (N := none) #[true, true, true, false] rfl rfl (by kernel_rfl) (by decide) (fun K hK => ?_)
      have hs105 : w104.cell? ⟨gb655, 0, none⟩ = some (.bool false) := (blk_cell BK655.out 0).trans rfl
      have hfs105 := blk_frozen BK655.out 0
      have hns105_0 := NB653_655.out
      have hns105_1 := NB654_655.out
      have hns105_3 := NB666_655.out
      have hms105_0 := NB655_653.out
      have hms105_1 := NB655_654.out
      have hms105_3 := NB655_666.out
      have hs106 : w104.cell? ⟨gb655, 1, none⟩ = some (.bool false) := (blk_cell BK655.out 1).trans rfl
      have hfs106 := blk_frozen BK655.out 1
      have hns106_0 := NB653_655.out
      have hns106_1 := NB654_655.out
      have hns106_3 := NB666_655.out
      have hms106_0 := NB655_653.out
      have hms106_1 := NB655_654.out
      have hms106_3 := NB655_666.out
      have hs107 : w104.cell? ⟨gb655, 2, none⟩ = some (.int .i64 0) := (blk_cell BK655.out 2).trans rfl
      have hfs107 := blk_frozen BK655.out 2
      have hns107_0 := NB653_655.out
      have hns107_1 := NB654_655.out
      have hns107_3 := NB666_655.out
      have hms107_0 := NB655_653.out
      have hms107_1 := NB655_654.out
      have hms107_3 := NB655_666.out
      have hs108 : w104.cell? ⟨gb655, 3, none⟩ = some (.int .i64 0) := (blk_cell BK655.out 3).trans rfl
      have hfs108 := blk_frozen BK655.out 3
      have hns108_0 := NB653_655.out
      have hns108_1 := NB654_655.out
      have hns108_3 := NB666_655.out
      have hms108_0 := NB655_653.out
      have hms108_1 := NB655_654.out
      have hms108_3 := NB655_666.out
      have hs109 : w104.cell? ⟨gb655, 4, none⟩ = some (.int .i64 0) := (blk_cell BK655.out 4).trans rfl
      have hfs109 := blk_frozen BK655.out 4
      have hns109_0 := NB653_655.out
      have hns109_1 := NB654_655.out
      have hns109_3 := NB666_655.out
      have hms109_0 := NB655_653.out
      have hms109_1 := NB655_654.out
      have hms109_3 := NB655_666.out
      have hs110 : w104.cell? ⟨gb655, 5, none⟩ = some (.slice none 0 0) := (blk_cell BK655.out 5).trans rfl
      have hfs110 := blk_frozen BK655.out 5
      have hns110_0 := NB653_655.out
      have hns110_1 := NB654_655.out
      have hns110_3 := NB666_655.out
      have hms110_0 := NB655_653.out
      have hms110_1 := NB655_654.out
      have hms110_3 := NB655_666.out
      refine tsk ?_
      refine hK.out _ _ (by repeat (first | (with_reducible exact hHeld) | (with_reducible refine ErrOk.set HE.out ?_ (by with_reducible first | exact GE653.out | exact GE654.out | exact GE655.out | exact GE666.out) _ _))) (fun hHeld => ?_)
      clear hK K
      refine pure_ (i := 3) (N := some 5) (v := ?_) (a' := ?_) #[true, true, true, true] rfl rfl (by kernel_rfl) (fun _ _ _ h => h) (Or.inl ⟨by rfl, ?_⟩) ?_ ?_
      rotate_left
      ·intro w'
       go_simp
       with_reducible rfl
      rotate_left
      ·simp only [Act.put, List.setIfInBounds_toArray, List.set_cons_zero, List.set_cons_succ, i64_w, i32_w]
       rfl
      refine done_ (by kernel_rfl) ?_
      try go_wp2
      refine bodyPost_ret (results_ct rfl _ _ gb655 47 #[.bool false, .bool false, .int .i64 0, .int .i64 0, .int .i64 0, .slice none 0 0] (0, 0) _ rfl (tP BK655.out) Tryd.underlying47 rfl (by kernel_rfl)) rfl ?_
      exact ⟨_, by first | rfl | (simp [errW_none, errW_some] <;> rfl) | (simp [*, errW_none, errW_some] <;> rfl), by first | exact Kd.S_nil _ _ _ _ _ | exact Kd.N_nil _ _ _ _ _ | exact Kd.V_nil _ _ _ _ _ | exact Kd.Q_nil _ _ _ _ _ | exact Kd.R_nil _ _ _ _ _, zb⟩
    ·rw [if_neg c60] at H
     exact absurd H (by simp)

end Go.Proofs.YtbbboachakkgiaaDoor.G

namespace Go.Proofs.YtbbboachakkgiaaDoor.G
open Go.RowKit Go.Proofs.YtbbboachakkgiaaDoorW.PrintWords Go.Proofs.YtbbboachakkgiaaDoorW.PrintLast Go.Proofs.YtbbboachakkgiaaDoorW.PrintMore
attribute [local go_sem] max2_int min2_int max_two min_two max_three min_three max_four min_four   -- for this text's walks alone
set_option linter.unusedVariables false
set_option linter.unusedSimpArgs false

def impl_BatchJoin.f (k : Nat) (a0_0 : Bool) (a0_1 : Bool) (a0_2 : Int) (a0_3 : Int) (a0_4 : Int) (l0_5 : List (S33)) (a1_0 : Bool) (a1_1 : Bool) (a1_2 : Int) (a1_3 : Int) (a1_4 : Int) (l1_5 : List (S33)) : Option (Bool × Bool × Int × Int × Int × (List (S33)) × Bool) := (impl_Batch_join.f k a0_0 a0_1 a0_2 a0_3 a0_4 l0_5 a1_0 a1_1 a1_2 a1_3 a1_4 l1_5).bind fun bt677 => ((errors_Is.f bt677.2.2.2.2.2.2 (some 1)).bind fun t687 => (if t687 = true then (some (false, false, 0, 0, 0, ([] : List (S33)), false)) else (some (bt677.1, bt677.2.1, bt677.2.2.1, bt677.2.2.2.1, bt677.2.2.2.2.1, bt677.2.2.2.2.2.1, true))))
set_option maxHeartbeats 40000000 in
set_option maxRecDepth 100000 in
theorem impl_BatchJoin.calls [ErrA] (k : Nat) (a0_0 : Bool) (a0_1 : Bool) (a0_2 : Int) (a0_3 : Int) (a0_4 : Int) (A0_5 : Option Addr) (c0_5 : Nat) (l0_5 : List (S33)) (a1_0 : Bool) (a1_1 : Bool) (a1_2 : Int) (a1_3 : Int) (a1_4 : Int) (A1_5 : Option Addr) (c1_5 : Nat) (l1_5 : List (S33)) (r1 : Bool) (r2 : Bool) (r3 : Int) (r4 : Int) (r5 : Int) (r6 : List (S33)) (r7 : Bool) (w : World) (hE : ErrOk [0] w) (hr0_5 : Kd.C k33 w A0_5 l0_5.length l0_5) (hc0_5 : l0_5.length ≤ c0_5) (hr1_5 : Kd.C k33 w A1_5 l1_5.length l1_5) (hc1_5 : l1_5.length ≤ c1_5) (h : impl_BatchJoin.f k a0_0 a0_1 a0_2 a0_3 a0_4 l0_5 a1_0 a1_1 a1_2 a1_3 a1_4 l1_5 = some (r1, r2, r3, r4, r5, r6, r7)) :
  Calls Tryd.prog 28 #[.agg #[.bool a0_0, .bool a0_1, .int .i64 a0_2, .int .i64 a0_3, .int .i64 a0_4, .slice A0_5 l0_5.length c0_5], .agg #[.bool a1_0, .bool a1_1, .int .i64 a1_2, .int .i64 a1_3, .int .i64 a1_4, .slice A1_5 l1_5.length c1_5]] w fun e w' => ∃ v5_ : Value, e = .returned (.tuple #[.agg #[.bool r1, .bool r2, .int .i64 r3, .int .i64 r4, .int .i64 r5, v5_], .bool r7]) ∧ Kd.N k33 33 w' w.heap.size (fun k_ => (w.heap.size ≤ k_)) v5_ r6 ∧ Below w.heap.size w w' := by
 have HE := Aside0.mk hE
 clear hE
 have hu47 := Tryd.underlying47
 have HR0_5 := Aside0.mk hr0_5
 have HC0_5 := Aside0.mk hc0_5
 clear hr0_5 hc0_5
 have HR1_5 := Aside0.mk hr1_5
 have HC1_5 := Aside0.mk hc1_5
 clear hr1_5 hc1_5
 have HB := Aside0.mk (Below.refl w.heap.size w)
 have H : ((impl_Batch_join.f k a0_0 a0_1 a0_2 a0_3 a0_4 l0_5 a1_0 a1_1 a1_2 a1_3 a1_4 l1_5).bind fun bt677 => ((errors_Is.f bt677.2.2.2.2.2.2 (some 1)).bind fun t687 => (if t687 = true then (some (false, false, 0, 0, 0, ([] : List (S33)), false)) else (some (bt677.1, bt677.2.1, bt677.2.2.1, bt677.2.2.2.1, bt677.2.2.2.2.1, bt677.2.2.2.2.2.1, true))))) = some (r1, r2, r3, r4, r5, r6, r7) := h
 clear h
 replace H := tbe H
 obtain ⟨⟨t677, t678, t679, t680, t681, t682, t685⟩, A3, H⟩ := H
 dsimp only at H
 replace H := tbe H
 obtain ⟨t687, A4, H⟩ := H
 by_cases c5 : t687 = true
 ·subst c5
  rw [if_pos rfl] at H
  simp only [Option.some.injEq, Prod.mk.injEq] at H
  obtain ⟨rfl, rfl, rfl, rfl, rfl, rfl, rfl⟩ := H
  go_enter Tryd.func28, Tryd.ntmps28
  go_wp2_with (first | ((with_reducible refine gate_dst (N := 15) rfl ?_); refine glob_ rfl (v := .iface 151 (.pointer (some (ErrA.errA 1)))) (g := 0) ?hr ?hc ?_; (case hc => exact ErrOk.g0 (ErrOk.below HE.out zb) (by decide)); (case hr => intro W_ hc_; go_simp)) | ((with_reducible refine gate_dst (N := 2) rfl ?_); refine box_event ?hg (N := 2) ?hd (cs := #[.bool a0_0, .bool a0_1, .int .i64 a0_2, .int .i64 a0_3, .int .i64 a0_4, .slice A0_5 l0_5.length c0_5]) (t := 47) ?hr ?_; (case hd => rfl); (case hg => rfl); (case hr => first | (go_simp; done) | (go_simp; rfl)); intro gb674 hg w6 hbox hb; have BK674 := Aside0.mk (hbox); have GW674 := tge HB hg; have GE674 := tge HB hg; replace HB := tBs HB hb; clear hb hbox hg) | ((with_reducible refine gate_dst (N := 3) rfl ?_); refine box_event ?hg (N := 3) ?hd (cs := #[.bool a1_0, .bool a1_1, .int .i64 a1_2, .int .i64 a1_3, .int .i64 a1_4, .slice A1_5 l1_5.length c1_5]) (t := 47) ?hr ?_; (case hd => rfl); (case hg => rfl); (case hr => first | (go_simp; done) | (go_simp; rfl)); intro gb675 hg w7 hbox hb; have BK675 := Aside0.mk (hbox); have GW675 := tge HB hg; have GE675 := tge HB hg; replace HB := tBs HB hb; have NB674_675 := tlt BK674 hg; have NB675_674 := tgt BK674 hg; replace BK674 := tBb BK674 hb; clear hb hbox hg) | ((with_reducible refine gate_dst (N := 4) rfl ?_); refine box_event ?hg (N := 4) ?hd (cs := #[.bool false, .bool false, .int .i64 0, .int .i64 0, .int .i64 0, .slice none 0 0]) (t := 47) ?hr ?_; (case hd => rfl); (case hg => rfl); (case hr => first | (go_simp; done) | (go_simp; rfl)); intro gb676 hg w8 hbox hb; have BK676 := Aside0.mk (hbox); have GW676 := tge HB hg; have GE676 := tge HB hg; replace HB := tBs HB hb; have NB674_676 := tlt BK674 hg; have NB676_674 := tgt BK674 hg; replace BK674 := tBb BK674 hb; have NB675_676 := tlt BK675 hg; have NB676_675 := tgt BK675 hg; replace BK675 := tBb BK675 hb; clear hb hbox hg; have hnb9 := NB674_675.out; have hnc9 := NB675_674.out; have hnb10 := NB674_676.out; have hnc10 := NB676_674.out; obtain ⟨hcz11_0, hcz11_1, hcz11_2, hcz11_3, hcz11_4, hcz11_5, hfz11_0, hfz11_1, hfz11_2, hfz11_3, hfz11_4, hfz11_5⟩ := cells6 BK674.out; have hnb12 := NB675_676.out; have hnc12 := NB676_675.out; obtain ⟨hcz13_0, hcz13_1, hcz13_2, hcz13_3, hcz13_4, hcz13_5, hfz13_0, hfz13_1, hfz13_2, hfz13_3, hfz13_4, hfz13_5⟩ := cells6 BK675.out) | ((with_reducible refine gate_callee (f := 51) rfl ?_); refine goesL_ (some 11) rfl rfl Tryd.func51 (by kernel_rfl) rfl #[.agg #[.bool a0_0, .bool a0_1, .int .i64 a0_2, .int .i64 a0_3, .int .i64 a0_4, .slice A0_5 l0_5.length c0_5], .agg #[.bool a1_0, .bool a1_1, .int .i64 a1_2, .int .i64 a1_3, .int .i64 a1_4, .slice A1_5 l1_5.length c1_5]] rfl tq ?_; (with_reducible refine (impl_Batch_join.calls (hE := ?sideE) k a0_0 a0_1 a0_2 a0_3 a0_4 _ _ l0_5 a1_0 a1_1 a1_2 a1_3 a1_4 _ _ l1_5 t677 t678 t679 t680 t681 t682 t685 _ ?side1 ?side2 ?side3 ?side4 A3.out).mono ?_); (case sideE => exact ErrOk.below (HE.out.sub (by decide)) zb); (case side1 => exact tC (Kd.C_below HR0_5.out HB.out)); (case side2 => exact HC0_5.out); (case side3 => exact tC (Kd.C_below HR1_5.out HB.out)); (case side4 => exact HC1_5.out); rintro e w14 ⟨v683, rfl, ho0, hb⟩; have u_v683 := tsv Tryd.prog v683 ho0; refine ⟨_, rfl, ?_⟩; have HO684 := Aside0.mk (Kd.N_lower (Kd.N_mono (ok' := fun k_ => (w.heap.size ≤ k_) ∧ k_ ≠ gb674 ∧ k_ ≠ gb675 ∧ k_ ≠ gb676) ho0 (fun k_ hk_ => ⟨(Nat.le_trans (below_size zb) hk_), (tfB BK674 k_ hk_), (tfB BK675 k_ hk_), (tfB BK676 k_ hk_)⟩)) (below_size zb)); replace BK674 := tBb BK674 hb; replace BK675 := tBb BK675 hb; replace BK676 := tBb BK676 hb; replace HB := tBs HB hb; (try clear hb); (try clear hb2); (try clear hk); (try clear hi); (try clear ho0); (try simp only [errW_none, errW_some])) | ((with_reducible refine gate_dst (N := 6) rfl ?_); refine box_event ?hg (N := 6) ?hd (cs := #[.bool false, .bool false, .int .i64 0, .int .i64 0, .int .i64 0, .slice none 0 0]) (t := 47) ?hr ?_; (case hd => rfl); (case hg => rfl); (case hr => first | (go_simp; done) | (go_simp; rfl)); intro gb686 hg w15 hbox hb; replace HO684 := tNB HO684 hg hb; have BK686 := Aside0.mk (hbox); have GW686 := tge HB hg; have GE686 := tge HB hg; replace HB := tBs HB hb; have NB674_686 := tlt BK674 hg; have NB686_674 := tgt BK674 hg; replace BK674 := tBb BK674 hb; have NB675_686 := tlt BK675 hg; have NB686_675 := tgt BK675 hg; replace BK675 := tBb BK675 hb; have NB676_686 := tlt BK676 hg; have NB686_676 := tgt BK676 hg; replace BK676 := tBb BK676 hb; clear hb hbox hg; have hnb16 := NB686_674.out; have hnc16 := NB674_686.out; have hnb17 := NB686_675.out; have hnc17 := NB675_686.out; have hnb18 := NB686_676.out; have hnc18 := NB676_686.out; obtain ⟨hcz19_0, hcz19_1, hcz19_2, hcz19_3, hcz19_4, hcz19_5, hfz19_0, hfz19_1, hfz19_2, hfz19_3, hfz19_4, hfz19_5⟩ := cells6 BK686.out; obtain ⟨Ao20, co20, eo20⟩ := Kd.N_slice HO684.out; subst eo20; have CA4 := fun W => errors_Is.calls t685 (some 1) true W A4.out; try simp only [errW_none, errW_some] at CA4) | (go_at_call 52; (with_reducible refine (CA4 _).mono ?_); rintro e w21 ⟨rfl, hb⟩; replace HO684 := tNb HO684 hb; replace BK674 := tBb BK674 hb; replace BK675 := tBb BK675 hb; replace BK676 := tBb BK676 hb; replace BK686 := tBp (o' := .cells #[.bool t677, .bool t678, .int .i64 t679, .int .i64 t680, .int .i64 t681, .slice Ao20 t682.length co20] 47 (0, 0)) BK686 hb; replace HB := tBs HB hb; (try clear hb); (try clear hb2); (try clear hk); (try clear hi); obtain ⟨hcz22_0, hcz22_1, hcz22_2, hcz22_3, hcz22_4, hcz22_5, hfz22_0, hfz22_1, hfz22_2, hfz22_3, hfz22_4, hfz22_5⟩ := cells6 BK676.out))
  refine bodyPost_ret (results_ct rfl _ _ gb676 47 #[.bool false, .bool false, .int .i64 0, .int .i64 0, .int .i64 0, .slice none 0 0] (0, 0) _ rfl (tP BK676.out) Tryd.underlying47 rfl (by kernel_rfl)) rfl ?_
  exact ⟨_, by first | rfl | (simp [errW_none, errW_some] <;> rfl) | (simp [*, errW_none, errW_some] <;> rfl), by first | exact Kd.S_nil _ _ _ _ _ | exact Kd.N_nil _ _ _ _ _ | exact Kd.V_nil _ _ _ _ _ | exact Kd.Q_nil _ _ _ _ _ | exact Kd.R_nil _ _ _ _ _, zb⟩
 ·replace c5 := Bool.eq_false_iff.mpr c5
  subst c5
  rw [if_neg (show ¬ (false = true) by decide)] at H
  simp only [Option.some.injEq, Prod.mk.injEq] at H
  obtain ⟨rfl, rfl, rfl, rfl, rfl, rfl, rfl⟩ := H
  go_enter Tryd.func28, Tryd.ntmps28
  go_wp2_with (first | ((with_reducible refine gate_dst (N := 15) rfl ?_); refine glob_ rfl (v := .iface 151 (.pointer (some (ErrA.errA 1)))) (g := 0) ?hr ?hc ?_; (case hc => exact ErrOk.g0 (ErrOk.below HE.out zb) (by decide)); (case hr => intro W_ hc_; go_simp)) | ((with_reducible refine gate_dst (N := 2) rfl ?_); refine box_event ?hg (N := 2) ?hd (cs := #[.bool a0_0, .bool a0_1, .int .i64 a0_2, .int .i64 a0_3, .int .i64 a0_4, .slice A0_5 l0_5.length c0_5]) (t := 47) ?hr ?_; (case hd => rfl); (case hg => rfl); (case hr => first | (go_simp; done) | (go_simp; rfl)); intro gb674 hg w23 hbox hb; have BK674 := Aside0.mk (hbox); have GW674 := tge HB hg; have GE674 := tge HB hg; replace HB := tBs HB hb; clear hb hbox hg) | ((with_reducible refine gate_dst (N := 3) rfl ?_); refine box_event ?hg (N := 3) ?hd (cs := #[.bool a1_0, .bool a1_1, .int .i64 a1_2, .int .i64 a1_3, .int .i64 a1_4, .slice A1_5 l1_5.length c1_5]) (t := 47) ?hr ?_; (case hd => rfl); (case hg => rfl); (case hr => first | (go_simp; done) | (go_simp; rfl)); intro gb675 hg w24 hbox hb; have BK675 := Aside0.mk (hbox); have GW675 := tge HB hg; have GE675 := tge HB hg; replace HB := tBs HB hb; have NB674_675 := tlt BK674 hg; have NB675_674 := tgt BK674 hg; replace BK674 := tBb BK674 hb; clear hb hbox hg) | ((with_reducible refine gate_dst (N := 4) rfl ?_); refine box_event ?hg (N := 4) ?hd (cs := #[.bool false, .bool false, .int .i64 0, .int .i64 0, .int .i64 0, .slice none 0 0]) (t := 47) ?hr ?_; (case hd => rfl); (case hg => rfl); (case hr => first | (go_simp; done) | (go_simp; rfl)); intro gb676 hg w25 hbox hb; have BK676 := Aside0.mk (hbox); have GW676 := tge HB hg; have GE676 := tge HB hg; replace HB := tBs HB hb; have NB674_676 := tlt BK674 hg; have NB676_674 := tgt BK674 hg; replace BK674 := tBb BK674 hb; have NB675_676 := tlt BK675 hg; have NB676_675 := tgt BK675 hg; replace BK675 := tBb BK675 hb; clear hb hbox hg; have hnb26 := NB674_675.out; have hnc26 := NB675_674.out; have hnb27 := NB674_676.out; have hnc27 := NB676_674.out; obtain ⟨hcz28_0, hcz28_1, hcz28_2, hcz28_3, hcz28_4, hcz28_5, hfz28_0, hfz28_1, hfz28_2, hfz28_3, hfz28_4, hfz28_5⟩ := cells6 BK674.out; have hnb29 := NB675_676.out; have hnc29 := NB676_675.out; obtain ⟨hcz30_0, hcz30_1, hcz30_2, hcz30_3, hcz30_4, hcz30_5, hfz30_0, hfz30_1, hfz30_2, hfz30_3, hfz30_4, hfz30_5⟩ := cells6 BK675.out) | ((with_reducible refine gate_callee (f := 51) rfl ?_); refine goesL_ (some 11) rfl rfl Tryd.func51 (by kernel_rfl) rfl #[.agg #[.bool a0_0, .bool a0_1, .int .i64 a0_2, .int .i64 a0_3, .int .i64 a0_4, .slice A0_5 l0_5.length c0_5], .agg #[.bool a1_0, .bool a1_1, .int .i64 a1_2, .int .i64 a1_3, .int .i64 a1_4, .slice A1_5 l1_5.length c1_5]] rfl tq ?_; (with_reducible refine (impl_Batch_join.calls (hE := ?sideE) k a0_0 a0_1 a0_2 a0_3 a0_4 _ _ l0_5 a1_0 a1_1 a1_2 a1_3 a1_4 _ _ l1_5 t677 t678 t679 t680 t681 t682 t685 _ ?side1 ?side2 ?side3 ?side4 A3.out).mono ?_); (case sideE => exact ErrOk.below (HE.out.sub (by decide)) zb); (case side1 => exact tC (Kd.C_below HR0_5.out HB.out)); (case side2 => exact HC0_5.out); (case side3 => exact tC (Kd.C_below HR1_5.out HB.out)); (case side4 => exact HC1_5.out); rintro e w31 ⟨v683, rfl, ho0, hb⟩; have u_v683 := tsv Tryd.prog v683 ho0; refine ⟨_, rfl, ?_⟩; have HO684 := Aside0.mk (Kd.N_lower (Kd.N_mono (ok' := fun k_ => (w.heap.size ≤ k_) ∧ k_ ≠ gb674 ∧ k_ ≠ gb675 ∧ k_ ≠ gb676) ho0 (fun k_ hk_ => ⟨(Nat.le_trans (below_size zb) hk_), (tfB BK674 k_ hk_), (tfB BK675 k_ hk_), (tfB BK676 k_ hk_)⟩)) (below_size zb)); replace BK674 := tBb BK674 hb; replace BK675 := tBb BK675 hb; replace BK676 := tBb BK676 hb; replace HB := tBs HB hb; (try clear hb); (try clear hb2); (try clear hk); (try clear hi); (try clear ho0); (try simp only [errW_none, errW_some])) | ((with_reducible refine gate_dst (N := 6) rfl ?_); refine box_event ?hg (N := 6) ?hd (cs := #[.bool false, .bool false, .int .i64 0, .int .i64 0, .int .i64 0, .slice none 0 0]) (t := 47) ?hr ?_; (case hd => rfl); (case hg => rfl); (case hr => first | (go_simp; done) | (go_simp; rfl)); intro gb686 hg w32 hbox hb; replace HO684 := tNB HO684 hg hb; have BK686 := Aside0.mk (hbox); have GW686 := tge HB hg; have GE686 := tge HB hg; replace HB := tBs HB hb; have NB674_686 := tlt BK674 hg; have NB686_674 := tgt BK674 hg; replace BK674 := tBb BK674 hb; have NB675_686 := tlt BK675 hg; have NB686_675 := tgt BK675 hg; replace BK675 := tBb BK675 hb; have NB676_686 := tlt BK676 hg; have NB686_676 := tgt BK676 hg; replace BK676 := tBb BK676 hb; clear hb hbox hg; have hnb33 := NB686_674.out; have hnc33 := NB674_686.out; have hnb34 := NB686_675.out; have hnc34 := NB675_686.out; have hnb35 := NB686_676.out; have hnc35 := NB676_686.out; obtain ⟨hcz36_0, hcz36_1, hcz36_2, hcz36_3, hcz36_4, hcz36_5, hfz36_0, hfz36_1, hfz36_2, hfz36_3, hfz36_4, hfz36_5⟩ := cells6 BK686.out; obtain ⟨Ao37, co37, eo37⟩ := Kd.N_slice HO684.out; subst eo37; have CA4 := fun W => errors_Is.calls t685 (some 1) false W A4.out; try simp only [errW_none, errW_some] at CA4) | (go_at_call 52; (with_reducible refine (CA4 _).mono ?_); rintro e w38 ⟨rfl, hb⟩; replace HO684 := tNb HO684 hb; replace BK674 := tBb BK674 hb; replace BK675 := tBb BK675 hb; replace BK676 := tBb BK676 hb; replace BK686 := tBp (o' := .cells #[.bool t677, .bool t678, .int .i64 t679, .int .i64 t680, .int .i64 t681, .slice Ao37 t682.length co37] 47 (0, 0)) BK686 hb; replace HB := tBs HB hb; (try clear hb); (try clear hb2); (try clear hk); (try clear hi); obtain ⟨hcz39_0, hcz39_1, hcz39_2, hcz39_3, hcz39_4, hcz39_5, hfz39_0, hfz39_1, hfz39_2, hfz39_3, hfz39_4, hfz39_5⟩ := cells6 BK686.out; obtain ⟨hcz40_0, hcz40_1, hcz40_2, hcz40_3, hcz40_4, hcz40_5, hfz40_0, hfz40_1, hfz40_2, hfz40_3, hfz40_4, hfz40_5⟩ := cells6 BK676.out))
  refine bodyPost_ret (results_ct rfl _ _ gb676 47 #[.bool t677, .bool t678, .int .i64 t679, .int .i64 t680, .int .i64 t681, .slice Ao37 t682.length co37] (0, 0) _ rfl (tP BK676.out) Tryd.underlying47 rfl (by kernel_rfl)) rfl ?_
  exact ⟨_, by first | rfl | (simp [errW_none, errW_some] <;> rfl) | (simp [*, errW_none, errW_some] <;> rfl), tNm HO684.out, zb⟩

end Go.Proofs.YtbbboachakkgiaaDoor.G

namespace Go.Proofs.YtbbboachakkgiaaDoor.G
open Go.RowKit Go.Proofs.YtbbboachakkgiaaDoorW.PrintWords Go.Proofs.YtbbboachakkgiaaDoorW.PrintLast Go.Proofs.YtbbboachakkgiaaDoorW.PrintMore Go.Proofs.YtbbboachakkgiaaDoor.Pu
set_option linter.unusedVariables false
set_option linter.unusedSimpArgs false
theorem last_q (b : S47) (A : Option Addr) (c : Nat) (w : World) (hr : Kd.C k33 w A b.f5.length b.f5) (hc : b.f5.length ≤ c) (hn : 1 ≤ b.f5.length ∧ b.f5.length ≤ 6) : Calls Tryd.prog 34 #[.agg #[.bool b.f0, .bool b.f1, .int .i64 b.f2, .int .i64 b.f3, .int .i64 b.f4, .slice A b.f5.length c]] w fun e w' => e = .returned (.int .i64 (lastOf b)) ∧ Below w.heap.size w w' :=
  impl_Batch_last.calls _ _ _ _ _ A c b.f5 _ w hr hc (by
    unfold impl_Batch_last.f lastOf
    simp only [w64 (a := (b.f5.length : Int) - 1) (by omega) (by omega), if_pos (show (0 : Int) ≤ (b.f5.length : Int) - 1 by omega), if_pos (show (b.f5.length : Int) - 1 < (b.f5.length : Int) by omega), if_pos (show (0 : Int) < (b.f5.length : Int) by omega)])
theorem first_q (b : S47) (A : Option Addr) (c : Nat) (w : World) (hr : Kd.C k33 w A b.f5.length b.f5) (hc : b.f5.length ≤ c) (hn : 1 ≤ b.f5.length ∧ b.f5.length ≤ 6) : Calls Tryd.prog 36 #[.agg #[.bool b.f0, .bool b.f1, .int .i64 b.f2, .int .i64 b.f3, .int .i64 b.f4, .slice A b.f5.length c]] w fun e w' => e = .returned (.int .i64 (firstOf b)) ∧ Below w.heap.size w w' :=
  impl_Batch_first.calls _ _ _ _ _ A c b.f5 _ w hr hc (by
    unfold impl_Batch_first.f firstOf
    simp only [w64 (a := (b.f5.length : Int) - 1) (by omega) (by omega), if_pos (show (0 : Int) ≤ (b.f5.length : Int) - 1 by omega), if_pos (show (b.f5.length : Int) - 1 < (b.f5.length : Int) by omega), if_pos (show (0 : Int) < (b.f5.length : Int) by omega)])
set_option maxRecDepth 100000 in
set_option maxHeartbeats 4000000 in
theorem impllog_q (l : List S47) (A : Option Addr) (c : Nat) (w : World) (hr : Kd.C k47 w A l.length l) (hc : l.length ≤ c) :
    Calls Tryd.prog 17 #[.slice A l.length c] w fun e w' => e = .returned (.bool (logOk l)) ∧ Below w.heap.size w w' := by
  have hl := hr.2.1
  unfold logOk
  have HR := Aside0.mk hr
  clear hr
  by_cases h8 : (l.length : Int) ≤ 8
  · rw [decide_eq_true h8, Bool.and_true]
    go_enter Tryd.func17, Tryd.ntmps17
    go_wp2
    go_loopw [10] (fun v10 wr => ∃ i : Nat, v10 = .int .i64 i ∧ i ≤ l.length ∧ (∀ j, j < i → batStep l j = true) ∧ Below w.heap.size w wr) (fun v10 _ => l.length - (intOf v10).toNat)
    case atStart => exact ⟨0, rfl, Nat.zero_le _, fun j hj => absurd hj (Nat.not_lt_zero j), Below.refl _ _⟩
    case round =>
      obtain ⟨i, rfl, hi, hall, hB1⟩ := hrel
      by_cases hlt : i < l.length
      · obtain ⟨ad, A5, c5, rfl, e0, e1, e2, e3, e4, e5, l5, g5⟩ := at_T47 (Kd.C_below HR.out hB1) (i : Int) (by omega) (by omega)
        rw [show ((i : Int)).toNat = i from rfl] at e0 e1 e2 e3 e4 e5
        have hrec : batStep l i = (batOk (rd_T47 l (i : Int)) && (decide (i = 0) || decide (lastOf (rd_T47 l ((i : Int) - 1)) < firstOf (rd_T47 l (i : Int))))) := rfl
        generalize rd_T47 l (i : Int) = bi at *
        go_wp2
        have bR := heap_alloc_new wr (.cells #[.bool bi.f0, .bool bi.f1, .int .i64 bi.f2, .int .i64 bi.f3, .int .i64 bi.f4, .slice A5 bi.f5.length c5] 47)
        have hB2 := below_alloc hB1 (.cells #[.bool bi.f0, .bool bi.f1, .int .i64 bi.f2, .int .i64 bi.f3, .int .i64 bi.f4, .slice A5 bi.f5.length c5] 47)
        have hBr := below_alloc (Below.refl wr.heap.size wr) (.cells #[.bool bi.f0, .bool bi.f1, .int .i64 bi.f2, .int .i64 bi.f3, .int .i64 bi.f4, .slice A5 bi.f5.length c5] 47)
        generalize wr.alloc _ = W1 at bR hB2 hBr ⊢
        have HRC := Aside0.mk (fun (W2 : World) (hb : Below wr.heap.size wr W2) => implbat_q bi A5 c5 W2 (Kd.C_below g5 hb) l5)
        have HF := Aside0.mk (fun (W2 : World) (hb : Below wr.heap.size wr W2) (hn : 1 ≤ bi.f5.length ∧ bi.f5.length ≤ 6) => first_q bi A5 c5 W2 (Kd.C_below g5 hb) l5 hn)
        have kS : ∀ w' : World, Below W1.drew.heap.size W1.drew w' → CellsB w' ⟨wr.heap.size, 0, none⟩ bi A5 c5 ∧ Below W1.heap.size W1 w' := fun w' h => ⟨⟨pw_cell_below h (blk_cell bR 0), pw_cell_below h (blk_cell bR 1), pw_cell_below h (blk_cell bR 2), pw_cell_below h (blk_cell bR 3), pw_cell_below h (blk_cell bR 4), pw_cell_below h (blk_cell bR 5)⟩, below_step (below_drew (Below.refl _ W1)) h⟩
        rcases hok : batOk bi with _ | _ <;> rw [hok] at HRC
        · have hno := Aside0.mk (logs_no hlt (hrec.trans (by rw [hok]; rfl)))
          refine r_begin (fun w' => CellsB w' ⟨wr.heap.size, 0, none⟩ bi A5 c5 ∧ Below W1.heap.size W1 w') 18 (by kernel_rfl) rfl (kS _ (Below.refl _ _)) (fun hH => ?_)
          repeat (first | (refine r_skip (by kernel_rfl) (by rfl) (fun _ _ _ h => h) hH ?_; simp only [Act.put, List.setIfInBounds_toArray, List.set_cons_zero, List.set_cons_succ, Nat.reduceAdd]) | (refine r_go (v := ?_) (by kernel_rfl) (by rfl) (fun _ _ _ h => h) hH ?_ ?_; rotate_left; (focus (intro w hS; obtain ⟨⟨e0, e1, e2, e3, e4, e5⟩, e6⟩ := hS; go_simp; first | done | with_reducible rfl)); simp only [Act.put, List.setIfInBounds_toArray, List.set_cons_zero, List.set_cons_succ, Nat.reduceAdd]) | (fail "x"))
          refine r_one (by kernel_rfl) (by rfl) (fun K hK => ?_)
          go_simp
          go_at_call 44
          refine (HRC.out _ (below_step hBr hH.2)).mono ?_
          rintro e w2 ⟨rfl, hb⟩
          go_wp2_with fail
          refine hK.out _ _ (kS _ hb) (fun hH => ?_)
          clear hK K
          simp only [Act.put, List.setIfInBounds_toArray, List.set_cons_zero, List.set_cons_succ, Nat.reduceAdd]
          repeat (first | (refine r_skip (by kernel_rfl) (by rfl) (fun _ _ _ h => h) hH ?_; simp only [Act.put, List.setIfInBounds_toArray, List.set_cons_zero, List.set_cons_succ, Nat.reduceAdd]) | (refine r_go (v := ?_) (by kernel_rfl) (by rfl) (fun _ _ _ h => h) hH ?_ ?_; rotate_left; (focus (intro w hS; obtain ⟨⟨e0, e1, e2, e3, e4, e5⟩, e6⟩ := hS; go_simp; first | done | with_reducible rfl)); simp only [Act.put, List.setIfInBounds_toArray, List.set_cons_zero, List.set_cons_succ, Nat.reduceAdd]) | (fail "x"))
          refine r_done (by kernel_rfl) ?_
          go_wp2
          go_ret
          exact ⟨by rw [hno.out]; rfl, below_step hB2 hH.2⟩
        · rcases i with _ | j
          · refine r_begin (fun w' => CellsB w' ⟨wr.heap.size, 0, none⟩ bi A5 c5 ∧ Below W1.heap.size W1 w') 18 (by kernel_rfl) rfl (kS _ (Below.refl _ _)) (fun hH => ?_)
            repeat (first | (refine r_skip (by kernel_rfl) (by rfl) (fun _ _ _ h => h) hH ?_; simp only [Act.put, List.setIfInBounds_toArray, List.set_cons_zero, List.set_cons_succ, Nat.reduceAdd]) | (refine r_go (v := ?_) (by kernel_rfl) (by rfl) (fun _ _ _ h => h) hH ?_ ?_; rotate_left; (focus (intro w hS; obtain ⟨⟨e0, e1, e2, e3, e4, e5⟩, e6⟩ := hS; go_simp; first | done | with_reducible rfl)); simp only [Act.put, List.setIfInBounds_toArray, List.set_cons_zero, List.set_cons_succ, Nat.reduceAdd]) | (fail "x"))
            refine r_one (by kernel_rfl) (by rfl) (fun K hK => ?_)
            go_simp
            go_at_call 44
            refine (HRC.out _ (below_step hBr hH.2)).mono ?_
            rintro e w2 ⟨rfl, hb⟩
            go_wp2_with fail
            refine hK.out _ _ (kS _ hb) (fun hH => ?_)
            clear hK K
            simp only [Act.put, List.setIfInBounds_toArray, List.set_cons_zero, List.set_cons_succ, Nat.reduceAdd]
            repeat (first | (refine r_skip (by kernel_rfl) (by rfl) (fun _ _ _ h => h) hH ?_; simp only [Act.put, List.setIfInBounds_toArray, List.set_cons_zero, List.set_cons_succ, Nat.reduceAdd]) | (refine r_go (v := ?_) (by kernel_rfl) (by rfl) (fun _ _ _ h => h) hH ?_ ?_; rotate_left; (focus (intro w hS; obtain ⟨⟨e0, e1, e2, e3, e4, e5⟩, e6⟩ := hS; go_simp; first | done | with_reducible rfl)); simp only [Act.put, List.setIfInBounds_toArray, List.set_cons_zero, List.set_cons_succ, Nat.reduceAdd]) | (fail "x"))
            refine r_done (by kernel_rfl) ?_
            go_wp2
            go_roundw
            case rel =>
              have hst : ∀ j, j < 0 + 1 → batStep l j = true := by
                intro j hj
                obtain rfl : j = 0 := by omega
                exact hrec.trans (by rw [hok]; rfl)
              first | exact ⟨0 + 1, by simp, hlt, hst, below_step hB2 hH.2⟩ | ((repeat apply Exists.intro); refine ⟨⟨0 + 1, ?_, hlt, hst, below_step hB2 hH.2⟩, by first | rfl | (repeat' apply And.intro) <;> rfl⟩; simp)
            case measure => simp [intOf]; omega
          · obtain ⟨ad2, A4, c4, hq, f0, f1, f2, f3, f4, f5, l4, g4⟩ := at_T47 (Kd.C_below HR.out hB1) (j : Int) (by omega) (by omega)
            cases hq
            rw [show ((j : Int)).toNat = j from rfl] at f0 f1 f2 f3 f4 f5
            have hjs := hall j (by omega)
            have hrec2 : batStep l (j + 1) = (batOk bi && (decide (j + 1 = 0) || decide (lastOf (rd_T47 l (j : Int)) < firstOf bi))) := by
              rw [hrec, show ((j + 1 : Nat) : Int) - 1 = (j : Int) by omega]
            unfold batStep at hjs
            have hbj := (Bool.and_eq_true_iff.1 hjs).1
            clear hjs
            generalize rd_T47 l (j : Int) = bj at *
            have hnj := batOk_len hbj
            have hni := batOk_len hok
            have cj : CellsB wr (ad.add (j * 6)) bj A4 c4 := ⟨f0, f1, f2, f3, f4, f5⟩
            have cj1 := cj.below hBr
            have hwj : IntKind.i64.wrap (j : Int) = (j : Int) := by rw [i64_w]; unfold wrap64; omega
            have hjl : (j : Int) < (l.length : Int) := by omega
            have HL := Aside0.mk (fun (W2 : World) (hb : Below wr.heap.size wr W2) => last_q bj A4 c4 W2 (Kd.C_below g4 hb) l4 hnj)
            have kS2 : ∀ w' : World, Below W1.heap.size W1 w' → CellsB w' ⟨wr.heap.size, 0, none⟩ bi A5 c5 ∧ CellsB w' (ad.add (j * 6)) bj A4 c4 ∧ Below W1.heap.size W1 w' := fun w' h => ⟨⟨pw_cell_below h (blk_cell bR 0), pw_cell_below h (blk_cell bR 1), pw_cell_below h (blk_cell bR 2), pw_cell_below h (blk_cell bR 3), pw_cell_below h (blk_cell bR 4), pw_cell_below h (blk_cell bR 5)⟩, cj1.below h, h⟩
            have hno := Aside0.mk hrec2
            clear hrec hrec2
            clear cj cj1 f0 f1 f2 f3 f4 f5 e0 e1 e2 e3 e4 e5
            go_region_held3 (fun w' => (w'.cell? ⟨wr.heap.size, 0, none⟩ = some (.bool bi.f0) ∧ w'.cell? ⟨wr.heap.size, 0 + 1, none⟩ = some (.bool bi.f1) ∧ w'.cell? ⟨wr.heap.size, 0 + 2, none⟩ = some (.int .i64 bi.f2) ∧ w'.cell? ⟨wr.heap.size, 0 + 3, none⟩ = some (.int .i64 bi.f3) ∧ w'.cell? ⟨wr.heap.size, 0 + 4, none⟩ = some (.int .i64 bi.f4) ∧ w'.cell? ⟨wr.heap.size, 0 + 5, none⟩ = some (.slice A5 bi.f5.length c5)) ∧ (w'.cell? (ad.add (j * 6)) = some (.bool bj.f0) ∧ w'.cell? ⟨(ad.add (j * 6)).block, (ad.add (j * 6)).off + 1, none⟩ = some (.bool bj.f1) ∧ w'.cell? ⟨(ad.add (j * 6)).block, (ad.add (j * 6)).off + 2, none⟩ = some (.int .i64 bj.f2) ∧ w'.cell? ⟨(ad.add (j * 6)).block, (ad.add (j * 6)).off + 3, none⟩ = some (.int .i64 bj.f3) ∧ w'.cell? ⟨(ad.add (j * 6)).block, (ad.add (j * 6)).off + 4, none⟩ = some (.int .i64 bj.f4) ∧ w'.cell? ⟨(ad.add (j * 6)).block, (ad.add (j * 6)).off + 5, none⟩ = some (.slice A4 bj.f5.length c4)) ∧ Below W1.heap.size W1 w') (first | exact kS2 _ (below_drew (Below.refl _ _)) | exact kS2 _ (below_step (below_drew (Below.refl _ _)) ‹_›) | exact kS2 _ (below_step (‹_ ∧ _ ∧ Below W1.heap.size W1 _›).2.2 ‹_›))
              (first | (go_at_call 44; refine (HRC.out _ (below_step hBr (by first | exact below_drew (Below.refl _ _) | exact (‹_ ∧ _ ∧ Below W1.heap.size W1 _›).2.2))).mono ?_; rintro e w' ⟨rfl, hb⟩) | (go_at_call 34; refine (HL.out _ (below_step hBr (by first | exact below_drew (Below.refl _ _) | exact (‹_ ∧ _ ∧ Below W1.heap.size W1 _›).2.2))).mono ?_; rintro e w' ⟨rfl, hb⟩) | (go_at_call 36; refine (HF.out _ (below_step hBr (by first | exact below_drew (Below.refl _ _) | exact (‹_ ∧ _ ∧ Below W1.heap.size W1 _›).2.2)) hni).mono ?_; rintro e w' ⟨rfl, hb⟩))
            all_goals
              have hBw := below_step hB2 (‹_ ∧ _ ∧ Below W1.heap.size W1 _›).2.2
              by_cases hc : lastOf bj < firstOf bi
              · have hst : ∀ j', j' < j + 1 + 1 → batStep l j' = true := by
                  intro j' hj
                  by_cases h' : j' < j + 1
                  · exact hall j' h'
                  · obtain rfl : j' = j + 1 := by omega
                    rw [hno.out, hok, decide_eq_true hc, Bool.or_true]; rfl
                have hng : ¬ firstOf bi ≤ lastOf bj := by omega
                go_wp2
                go_roundw
                case rel => first | exact ⟨j + 1 + 1, by simp, hlt, hst, hBw⟩ | ((repeat apply Exists.intro); refine ⟨⟨j + 1 + 1, ?_, hlt, hst, hBw⟩, by first | rfl | (repeat' apply And.intro) <;> rfl⟩; simp)
                case measure => simp [intOf]; omega
              · have hn2 := Aside0.mk (logs_no hlt (hno.out.trans (by rw [hok, decide_eq_false hc, decide_eq_false (show ¬ j + 1 = 0 by omega)]; rfl)))
                have hng : firstOf bi ≤ lastOf bj := by omega
                go_wp2
                go_ret
                exact ⟨by rw [hn2.out]; rfl, hBw⟩
      · obtain rfl : i = l.length := by omega
        go_wp2
        go_ret
        exact ⟨by rw [logs_of hall]; rfl, hB1⟩
  · rw [decide_eq_false h8, Bool.and_false]
    have hg : (8 : Int) < (l.length : Int) := by omega
    go_enter Tryd.func17, Tryd.ntmps17
    go_wp2
    go_ret
    exact ⟨rfl, Below.refl _ _⟩
def impl_LogValid.f (k : Nat) (a0 : List S47) : Option Bool := some (logOk a0)
theorem impl_LogValid.calls (k : Nat) (A0 : Option Addr) (c0 : Nat) (l0 : List (S47)) (r : Bool) (w : World) (hr0 : Kd.C k47 w A0 l0.length l0) (hc0 : l0.length ≤ c0) (h : impl_LogValid.f k l0 = some r) :
    Calls Tryd.prog 17 #[.slice A0 l0.length c0] w fun e w' => e = .returned (.bool r) ∧ Below w.heap.size w w' := by
  obtain rfl := Option.some.inj h
  exact impllog_q l0 A0 c0 w hr0 hc0
end Go.Proofs.YtbbboachakkgiaaDoor.G

