/- A text of seat YtbbboachakkgiaaDoor: what the law FnEvenTwice needs of this repo's texts (by pack.py). Not trusted: Lean checks it. -/
import Derived.Test.YtbbboachakkgiaaDoorKFnEvenTwice10
namespace Go.Proofs.YtbbboachakkgiaaDoor.G
open Go.RowKit Go.Proofs.YtbbboachakkgiaaDoorW.PrintWords Go.Proofs.YtbbboachakkgiaaDoorW.PrintLast Go.Proofs.YtbbboachakkgiaaDoorW.PrintMore
attribute [local go_sem] max2_int min2_int max_two min_two max_three min_three max_four min_four   -- for this text's walks alone
set_option linter.unusedVariables false
set_option linter.unusedSimpArgs false

def impl_LogEven.l0 : Nat → List (S47) → List (S47) → Int → Int → Option ((List (S47)) × Bool)
 | 0, _, _, _, _ => none
 | k + 1, x4, x14, x15, x16 => if x16 < x15 then (if 0 ≤ x16 then (if x16 < (x14.length : Int) then (if (x4.length : Int) > 0 then (if 0 ≤ (wrap64 ((x4.length : Int) - 1)) then (if (wrap64 ((x4.length : Int) - 1)) < (x4.length : Int) then ((impl_BatchJoin.f k ((rd_T47 x4 (wrap64 ((x4.length : Int) - 1))).f0) ((rd_T47 x4 (wrap64 ((x4.length : Int) - 1))).f1) ((rd_T47 x4 (wrap64 ((x4.length : Int) - 1))).f2) ((rd_T47 x4 (wrap64 ((x4.length : Int) - 1))).f3) ((rd_T47 x4 (wrap64 ((x4.length : Int) - 1))).f4) ((rd_T47 x4 (wrap64 ((x4.length : Int) - 1))).f5) ((rd_T47 x14 x16).f0) ((rd_T47 x14 x16).f1) ((rd_T47 x14 x16).f2) ((rd_T47 x14 x16).f3) ((rd_T47 x14 x16).f4) ((rd_T47 x14 x16).f5)).bind fun bt695 => (if bt695.2.2.2.2.2.2 = true then (impl_LogEven.l0 k (x4.set ((wrap64 ((x4.length : Int) - 1)) : Int).toNat (⟨bt695.1, bt695.2.1, bt695.2.2.1, bt695.2.2.2.1, bt695.2.2.2.2.1, bt695.2.2.2.2.2.1⟩ : S47)) x14 x15 (wrap64 (x16 + 1))) else ((impl_Batch_copyOf.f k ((rd_T47 x14 x16).f0) ((rd_T47 x14 x16).f1) ((rd_T47 x14 x16).f2) ((rd_T47 x14 x16).f3) ((rd_T47 x14 x16).f4) ((rd_T47 x14 x16).f5)).bind fun bt706 => (if x4.length < 2513169434916 then (impl_LogEven.l0 k (x4 ++ [(⟨bt706.1, bt706.2.1, bt706.2.2.1, bt706.2.2.2.1, bt706.2.2.2.2.1, bt706.2.2.2.2.2⟩ : S47)]) x14 x15 (wrap64 (x16 + 1))) else (none))))) else (none)) else (none)) else ((impl_Batch_copyOf.f k ((rd_T47 x14 x16).f0) ((rd_T47 x14 x16).f1) ((rd_T47 x14 x16).f2) ((rd_T47 x14 x16).f3) ((rd_T47 x14 x16).f4) ((rd_T47 x14 x16).f5)).bind fun bt717 => (if x4.length < 2513169434916 then (impl_LogEven.l0 k (x4 ++ [(⟨bt717.1, bt717.2.1, bt717.2.2.1, bt717.2.2.2.1, bt717.2.2.2.2.1, bt717.2.2.2.2.2⟩ : S47)]) x14 x15 (wrap64 (x16 + 1))) else (none)))) else (none)) else (none)) else (some (x4, true))
def impl_LogEven.f (k : Nat) (l0 : List (S47)) : Option ((List (S47)) × Bool) := (impl_LogValid.f k l0).bind fun t688 => (if t688 = true then (impl_LogEven.l0 k (([] : List (S47))) l0 (l0.length : Int) 0) else (some (([] : List (S47)), false)))
def impl_LogEven.T9 : Bool × List (List Nat × List Nat) := (true, [([], []), ([], []), ([1], [1]), ([0, 2], [0, 2]), ([3], [3]), ([], []), ([4, 5], [4, 5]), ([6], [6]), ([7], [7]), ([7], [7]), ([], []), ([10, 8, 6, 0, 1, 2, 3, 4, 5, 6, 7, 8, 10], [8, 10]), ([9, 11, 0, 1, 2, 3, 4, 5, 6, 7, 8, 9, 10, 11], [9])])
def impl_LogEven.B9 : List Nat := [0, 0, 2, 7, 15, 0, 63, 127, 255, 255, 0, 1535, 4095]
theorem impl_LogEven.tab9 : rtab .any (opsOf Tryd.f25 9) = impl_LogEven.T9 := by kernel_rfl
theorem impl_LogEven.bits9 : waitsOk impl_LogEven.T9.2 impl_LogEven.B9 = true := by kernel_rfl
set_option maxHeartbeats 40000000 in
set_option maxRecDepth 100000 in
theorem impl_LogEven.calls [ErrA] (k : Nat) (A0 : Option Addr) (c0 : Nat) (l0 : List (S47)) (r1 : List (S47)) (r2 : Bool) (w : World) (hE : ErrOk [0] w) (hr0 : Kd.C k47 w A0 l0.length l0) (hc0 : l0.length ≤ c0) (h : impl_LogEven.f k l0 = some (r1, r2)) :
  Calls Tryd.prog 25 #[.slice A0 l0.length c0] w fun e w' => ∃ v0_ : Value, e = .returned (.tuple #[v0_, .bool r2]) ∧ Kd.N k47 47 w' w.heap.size (fun k_ => (w.heap.size ≤ k_)) v0_ r1 ∧ Below w.heap.size w w' := by
 have HE := Aside0.mk hE
 clear hE
 have hu47 := Tryd.underlying47
 have HR0 := Aside0.mk hr0
 have HC0 := Aside0.mk hc0
 clear hr0 hc0
 have HB := Aside0.mk (Below.refl w.heap.size w)
 have H : ((impl_LogValid.f k l0).bind fun t688 => (if t688 = true then (impl_LogEven.l0 k (([] : List (S47))) l0 (l0.length : Int) 0) else (some (([] : List (S47)), false)))) = some (r1, r2) := h
 clear h
 replace H := tbe H
 obtain ⟨t688, A2, H⟩ := H
 by_cases c3 : t688 = true
 ·subst c3
  rw [if_pos rfl] at H
  obtain ⟨y689, hy689⟩ : ∃ y_ : List (S47), y_ = (([] : List (S47))) := ⟨_, rfl⟩
  replace H : (impl_LogEven.l0 k y689 l0 (l0.length : Int) 0) = some (r1, r2) := by first | (rw [hy689]; with_reducible exact H) | (have H2_ := (Option.bind_some _ _).symm.trans H; rw [hy689]; with_reducible exact H2_) | (have H2_ := (Option.bind_some _ _).symm.trans H; with_reducible exact H2_) | with_reducible exact H | (rw [hy689]; exact H) | exact H
  have Ny689 := Aside0.mk hy689
  clear hy689
  have H' := Aside0.mk H
  clear H
  go_enter Tryd.func25, Tryd.ntmps25
  go_wp2_with (first | ((with_reducible refine gate_callee (f := 17) rfl ?_); refine goesL_ (some 11) rfl rfl Tryd.func17 (by kernel_rfl) rfl #[.slice A0 l0.length c0] rfl tq ?_; (with_reducible refine (impl_LogValid.calls k _ _ l0 true _ ?side1 ?side2 A2.out).mono ?_); (case side1 => exact tC HR0.out); (case side2 => exact HC0.out); rintro e w4 ⟨rfl, hb⟩; refine ⟨_, rfl, ?_⟩; replace HB := tBs HB hb; (try clear hb); (try clear hb2); (try clear hk); (try clear hi)) | ((with_reducible refine gate_dst (N := 13) rfl ?_); refine Kd.N_lit k47 _ 47 ?hg (N' := 13) ?hd (xs := ([] : List (S47))) (inner := []) (ok := (fun k_ => (w.heap.size ≤ k_))) (okp := (fun k_ => (w.heap.size ≤ k_))) ?hr ?hp (fun _ hk => hk) ((show ∀ k_, w4.heap.size ≤ k_ → (fun k_ => (w.heap.size ≤ k_)) k_ from fun k_ hk => (Nat.le_trans (below_size zb) hk)) _ (Nat.le_refl _)) (Below.refl _ _) (Nat.le_refl _) (by simp) ?_; (case hd => rfl); (case hg => rfl); (case hr => first | (go_simp; done) | (go_simp; rfl)); (case hp => exact (Reps.none _ _)); intro v690 w5 ho6 hb hg_ hnew_; clear hg_ hnew_; (first | rw [← Ny689.out] at ho6 | (simp only [Int.reduceToNat] at ho6; rw [← Ny689.out] at ho6)); have HO691 := tNl ho6 HB; replace HB := tBs HB hb; clear hb ho6))
  go_loopg [4, 16] k (fun kq v4 v16 w' => ∃ (x4_1 : List (S47)) (x16_1 : Int), v16 = .int .i64 x16_1 ∧ Aside0 (impl_LogEven.l0 kq x4_1 l0 (l0.length : Int) x16_1 = some (r1, r2)) ∧ Aside0 (kq ≤ k) ∧ Aside0 (Kd.N k47 47 w' w.heap.size (fun k_ => (w.heap.size ≤ k_)) v4 x4_1) ∧ Aside0 (Below w.heap.size w w'))
  case atStart => exact ⟨(y689), (0), tr, H', ⟨Nat.le_refl _⟩, ⟨tN HO691.out⟩, ⟨zb⟩⟩
  case round =>
   clear H'
   try clear c3
   obtain ⟨x4_1, x16_1, rfl, HA, HK1, HO_4, HB⟩ := hrel
   cases gk with
   | zero => exact absurd HA.out (by simp [impl_LogEven.l0])
   | succ k1 =>
    have H := HA.out
    clear HA
    simp only [impl_LogEven.l0] at H
    by_cases c7 : x16_1 < (l0.length : Int)
    ·rw [if_pos c7] at H
     have c7b0 : decide (x16_1 < (l0.length : Int)) = true := decide_eq_true c7
     clear c7
     by_cases c8 : 0 ≤ x16_1
     ·rw [if_pos c8] at H
      have c8b0 : decide (0 ≤ x16_1) = true := decide_eq_true c8
      clear c8
      by_cases c9 : x16_1 < (l0.length : Int)
      ·rw [if_pos c9] at H
       have c9b0 : decide (x16_1 < (l0.length : Int)) = true := decide_eq_true c9
       clear c9
       by_cases c10 : (x4_1.length : Int) > 0
       ·rw [if_pos c10] at H
        have c10b0 : decide (0 < (x4_1.length : Int)) = true := decide_eq_true c10
        have c10b1 : decide (0 < x4_1.length) = true := decide_eq_true (by omega)
        clear c10
        obtain ⟨ji11, hji11⟩ : ∃ j_ : Int, (wrap64 ((x4_1.length : Int) - 1)) = j_ := ⟨_, rfl⟩
        replace H : (if 0 ≤ (ji11) then (if (ji11) < (x4_1.length : Int) then ((impl_BatchJoin.f k1 ((rd_T47 x4_1 (ji11)).f0) ((rd_T47 x4_1 (ji11)).f1) ((rd_T47 x4_1 (ji11)).f2) ((rd_T47 x4_1 (ji11)).f3) ((rd_T47 x4_1 (ji11)).f4) ((rd_T47 x4_1 (ji11)).f5) ((rd_T47 l0 x16_1).f0) ((rd_T47 l0 x16_1).f1) ((rd_T47 l0 x16_1).f2) ((rd_T47 l0 x16_1).f3) ((rd_T47 l0 x16_1).f4) ((rd_T47 l0 x16_1).f5)).bind fun bt695 => (if bt695.2.2.2.2.2.2 = true then (impl_LogEven.l0 k1 (x4_1.set ((ji11) : Int).toNat (⟨bt695.1, bt695.2.1, bt695.2.2.1, bt695.2.2.2.1, bt695.2.2.2.2.1, bt695.2.2.2.2.2.1⟩ : S47)) l0 (l0.length : Int) (wrap64 (x16_1 + 1))) else ((impl_Batch_copyOf.f k1 ((rd_T47 l0 x16_1).f0) ((rd_T47 l0 x16_1).f1) ((rd_T47 l0 x16_1).f2) ((rd_T47 l0 x16_1).f3) ((rd_T47 l0 x16_1).f4) ((rd_T47 l0 x16_1).f5)).bind fun bt706 => (if x4_1.length < 2513169434916 then (impl_LogEven.l0 k1 (x4_1 ++ [(⟨bt706.1, bt706.2.1, bt706.2.2.1, bt706.2.2.2.1, bt706.2.2.2.2.1, bt706.2.2.2.2.2⟩ : S47)]) l0 (l0.length : Int) (wrap64 (x16_1 + 1))) else (none))))) else (none)) else (none)) = some (r1, r2) := by first | (rw [hji11] at H; exact H) | (simp only [hji11] at H ⊢; exact H)
        have hji11w : (IntKind.i64.wrap ((x4_1.length : Int) - 1)) = ji11 := (i64_w _).trans hji11
        by_cases c12 : 0 ≤ (ji11)
        ·rw [if_pos c12] at H
         have c12b0 : decide (0 ≤ (ji11)) = true := decide_eq_true c12
         clear c12
         by_cases c13 : (ji11) < (x4_1.length : Int)
         ·rw [if_pos c13] at H
          have c13b0 : decide ((ji11) < (x4_1.length : Int)) = true := decide_eq_true c13
          clear c13
          replace H := tbe H
          obtain ⟨⟨t695, t696, t697, t698, t699, t700, t703⟩, A14, H⟩ := H
          dsimp only at H
          by_cases c15 : t703 = true
          ·subst c15
           rw [if_pos rfl] at H
           obtain ⟨y705, hy705⟩ : ∃ y_ : List (S47), y_ = (x4_1.set ((ji11) : Int).toNat (⟨t695, t696, t697, t698, t699, t700⟩ : S47)) := ⟨_, rfl⟩
           replace H : (impl_LogEven.l0 k1 y705 l0 (l0.length : Int) (wrap64 (x16_1 + 1))) = some (r1, r2) := by first | (rw [hy705]; with_reducible exact H) | (have H2_ := (Option.bind_some _ _).symm.trans H; rw [hy705]; with_reducible exact H2_) | (have H2_ := (Option.bind_some _ _).symm.trans H; with_reducible exact H2_) | with_reducible exact H | (rw [hy705]; exact H) | exact H
           have Ny705 := Aside0.mk hy705
           clear hy705
           have H' := Aside0.mk H
           clear H
           have p692 : 0 ≤ (x16_1 : Int) := td
           have q692 : x16_1 < (l0.length : Int) := td
           obtain ⟨ad692, A692_5, c692_5, e692, hx692_0, hx692_1, hx692_2, hx692_3, hx692_4, hx692_5, hl692_5, hi692_5⟩ := at_T47 HR0.out x16_1 p692 q692
           cases e692
           replace hx692_0 := tcl HB hx692_0
           replace hx692_1 := tcl HB hx692_1
           replace hx692_2 := tcl HB hx692_2
           replace hx692_3 := tcl HB hx692_3
           replace hx692_4 := tcl HB hx692_4
           replace hx692_5 := tcl HB hx692_5
           have HR692_5 := Aside0.mk hi692_5
           have HC692_5 := Aside0.mk hl692_5
           clear hi692_5 hl692_5
           replace p692 := eq_true p692
           replace q692 := eq_true q692
           try go_wp2_with (first | ((with_reducible refine gate_dst (N := 6) rfl ?_); refine box_event ?hg (N := 6) ?hd (cs := #[.bool false, .bool false, .int .i64 0, .int .i64 0, .int .i64 0, .slice none 0 0]) (t := 47) ?hr ?_; (case hd => rfl); (case hg => rfl); (case hr => first | (go_simp; done) | (go_simp; rfl)); intro gb693 hg w17 hbox hb; replace HO_4 := tNB HO_4 hg hb; have BK693 := Aside0.mk (hbox); have GW693 := tge HB hg; have GE693 := tge HB hg; replace HB := tBs HB hb; clear hb hbox hg; obtain ⟨hcz18_0, hcz18_1, hcz18_2, hcz18_3, hcz18_4, hcz18_5, hfz18_0, hfz18_1, hfz18_2, hfz18_3, hfz18_4, hfz18_5⟩ := cells6 BK693.out; obtain ⟨Ao19, co19, eo19⟩ := Kd.N_slice HO_4.out; subst eo19))
           have n0_ : Aside0 (Kd.N k47 47 ((((((w17.setCell ⟨gb693, 0, none⟩ (.bool ((rd_T47 l0 x16_1).f0))).setCell ⟨gb693, 1, none⟩ (.bool ((rd_T47 l0 x16_1).f1))).setCell ⟨gb693, 2, none⟩ (.int .i64 ((rd_T47 l0 x16_1).f2))).setCell ⟨gb693, 3, none⟩ (.int .i64 ((rd_T47 l0 x16_1).f3))).setCell ⟨gb693, 4, none⟩ (.int .i64 ((rd_T47 l0 x16_1).f4))).setCell ⟨gb693, 5, none⟩ (.slice A692_5 ((rd_T47 l0 x16_1).f5).length c692_5)) w.heap.size (fun k_ => (w.heap.size ≤ k_) ∧ k_ ≠ gb693) (.slice Ao19 x4_1.length co19) x4_1) := ⟨tNm HO_4.out⟩
           have n1_ : Aside0 (((((((w17.setCell ⟨gb693, 0, none⟩ (.bool ((rd_T47 l0 x16_1).f0))).setCell ⟨gb693, 1, none⟩ (.bool ((rd_T47 l0 x16_1).f1))).setCell ⟨gb693, 2, none⟩ (.int .i64 ((rd_T47 l0 x16_1).f2))).setCell ⟨gb693, 3, none⟩ (.int .i64 ((rd_T47 l0 x16_1).f3))).setCell ⟨gb693, 4, none⟩ (.int .i64 ((rd_T47 l0 x16_1).f4))).setCell ⟨gb693, 5, none⟩ (.slice A692_5 ((rd_T47 l0 x16_1).f5).length c692_5)).heap[gb693]? = some (.cells #[.bool ((rd_T47 l0 x16_1).f0), .bool ((rd_T47 l0 x16_1).f1), .int .i64 ((rd_T47 l0 x16_1).f2), .int .i64 ((rd_T47 l0 x16_1).f3), .int .i64 ((rd_T47 l0 x16_1).f4), .slice A692_5 ((rd_T47 l0 x16_1).f5).length c692_5] 47 (0, 0))) := ⟨tP BK693.out⟩
           have n2_ : Aside0 (Below w.heap.size w ((((((w17.setCell ⟨gb693, 0, none⟩ (.bool ((rd_T47 l0 x16_1).f0))).setCell ⟨gb693, 1, none⟩ (.bool ((rd_T47 l0 x16_1).f1))).setCell ⟨gb693, 2, none⟩ (.int .i64 ((rd_T47 l0 x16_1).f2))).setCell ⟨gb693, 3, none⟩ (.int .i64 ((rd_T47 l0 x16_1).f3))).setCell ⟨gb693, 4, none⟩ (.int .i64 ((rd_T47 l0 x16_1).f4))).setCell ⟨gb693, 5, none⟩ (.slice A692_5 ((rd_T47 l0 x16_1).f5).length c692_5))) := ⟨zb⟩
           (try clear HO_4)
           (try clear BK693)
           (try clear HB)
           generalize ((((((w17.setCell ⟨gb693, 0, none⟩ (.bool ((rd_T47 l0 x16_1).f0))).setCell ⟨gb693, 1, none⟩ (.bool ((rd_T47 l0 x16_1).f1))).setCell ⟨gb693, 2, none⟩ (.int .i64 ((rd_T47 l0 x16_1).f2))).setCell ⟨gb693, 3, none⟩ (.int .i64 ((rd_T47 l0 x16_1).f3))).setCell ⟨gb693, 4, none⟩ (.int .i64 ((rd_T47 l0 x16_1).f4))).setCell ⟨gb693, 5, none⟩ (.slice A692_5 ((rd_T47 l0 x16_1).f5).length c692_5)) = w20 at n0_ n1_ n2_ ⊢
           have HO_4 := n0_
           have BK693 := n1_
           have HB := n2_
           clear n0_ n1_ n2_
           replace HO_4 := Aside0.mk (Kd.N_drew HO_4.out)
           replace BK693 := Aside0.mk (blk_drew BK693.out)
           replace HB := Aside0.mk (below_drew1 HB.out)
           have p694 : 0 ≤ ((ji11) : Int) := td
           have q694 : (ji11) < (x4_1.length : Int) := td
           obtain ⟨ad694, A694_5, c694_5, e694, hx694_0, hx694_1, hx694_2, hx694_3, hx694_4, hx694_5, hl694_5, hi694_5⟩ := at_T47 (Kd.N_reads' HO_4.out).2.2 (ji11) p694 q694
           cases e694
           obtain ⟨ce694, hce694, hMe694, hcc694⟩ := Kd.N_get HO_4.out z47 (ji11) p694 (by first | exact q694 | exact td | (have e_ := (Kd.N_reads' HO_4.out).1; omega))
           obtain ⟨ua694_5, uc694_5, rfl, ul694_5, ge694_5⟩ := k47_openF hMe694
           have hv694_5 := hcc694 5 _ rfl
           rw [add_field _ _ 5 (by omega)] at hv694_5
           replace hv694_5 := Option.some.inj (hv694_5.symm.trans hx694_5)
           injection hv694_5 with hva_ hvn_ hvc_
           rw [hva_] at ge694_5
           rw [hvc_] at ul694_5
           have HL694_5 := Aside0.mk (show Kd.V k33 33 _ w.heap.size _ _ ((rd_T47 x4_1 (ji11)).f5) from Kd.V_mk ul694_5 ge694_5)
           clear hva_ hvn_ hvc_ ge694_5 ul694_5
           clear hcc694 hce694
           have HR694_5 := Aside0.mk hi694_5
           have HC694_5 := Aside0.mk hl694_5
           clear hi694_5 hl694_5
           replace p694 := eq_true p694
           replace q694 := eq_true q694
           refine start_ (n := 13) (S := fun w' => w'.cell? ⟨gb693, 0, none⟩ = some (.bool ((rd_T47 l0 x16_1).f0)) ∧ w'.cell? ⟨gb693, 1, none⟩ = some (.bool ((rd_T47 l0 x16_1).f1)) ∧ w'.cell? ⟨gb693, 2, none⟩ = some (.int .i64 ((rd_T47 l0 x16_1).f2)) ∧ w'.cell? ⟨gb693, 3, none⟩ = some (.int .i64 ((rd_T47 l0 x16_1).f3)) ∧ w'.cell? ⟨gb693, 4, none⟩ = some (.int .i64 ((rd_T47 l0 x16_1).f4)) ∧ w'.cell? ⟨gb693, 5, none⟩ = some (.slice A692_5 ((rd_T47 l0 x16_1).f5).length c692_5) ∧ w'.cell? (ad694.add (((ji11)).toNat * 6)) = some (.bool ((rd_T47 x4_1 (ji11)).f0)) ∧ w'.cell? ⟨(ad694.add (((ji11)).toNat * 6)).block, (ad694.add (((ji11)).toNat * 6)).off + 1, none⟩ = some (.bool ((rd_T47 x4_1 (ji11)).f1)) ∧ w'.cell? ⟨(ad694.add (((ji11)).toNat * 6)).block, (ad694.add (((ji11)).toNat * 6)).off + 2, none⟩ = some (.int .i64 ((rd_T47 x4_1 (ji11)).f2)) ∧ w'.cell? ⟨(ad694.add (((ji11)).toNat * 6)).block, (ad694.add (((ji11)).toNat * 6)).off + 3, none⟩ = some (.int .i64 ((rd_T47 x4_1 (ji11)).f3)) ∧ w'.cell? ⟨(ad694.add (((ji11)).toNat * 6)).block, (ad694.add (((ji11)).toNat * 6)).off + 4, none⟩ = some (.int .i64 ((rd_T47 x4_1 (ji11)).f4)) ∧ w'.cell? ⟨(ad694.add (((ji11)).toNat * 6)).block, (ad694.add (((ji11)).toNat * 6)).off + 5, none⟩ = some (.slice A694_5 ((rd_T47 x4_1 (ji11)).f5).length c694_5)) (ds := []) #[false, false, false, false, false, false, false, false, false, false, false, false, false] (by kernel_rfl) rfl rfl ⟨(blk_cell BK693.out 0).trans rfl, (blk_cell BK693.out 1).trans rfl, (blk_cell BK693.out 2).trans rfl, (blk_cell BK693.out 3).trans rfl, (blk_cell BK693.out 4).trans rfl, (blk_cell BK693.out 5).trans rfl, hx694_0, hx694_1, hx694_2, hx694_3, hx694_4, hx694_5⟩ (fun hHeld => ?_); refine with_tabW impl_LogEven.tab9 impl_LogEven.bits9 (fun HT_ HW_ => ?_)
           generalize w20.drew = w21 at HO_4 BK693 HB HL694_5 HR694_5 hx694_0 hx694_1 hx694_2 hx694_3 hx694_4 hx694_5 hHeld ⊢
           refine tpu 0 (some 25) #[true, false, false, false, false, false, false, false, false, false, false, false, false] ?_
           refine tpu 1 (some 26) #[true, true, false, false, false, false, false, false, false, false, false, false, false] ?_
           refine tpu 2 (some 27) #[true, true, true, false, false, false, false, false, false, false, false, false, false] ?_
           refine tpu 3 (some 28) #[true, true, true, true, false, false, false, false, false, false, false, false, false] ?_
           refine tta 4 (some 29) #[true, true, true, true, true, false, false, false, false, false, false, false, false] hHeld ?_ (hy := by rintro w' ⟨s0, s1, s2, s3, s4, s5, s6, s7, s8, s9, s10, s11⟩; go_simp; with_reducible rfl)
           refine tta 5 (some 30) #[true, true, true, true, true, true, false, false, false, false, false, false, false] hHeld ?_ (hy := by rintro w' ⟨s0, s1, s2, s3, s4, s5, s6, s7, s8, s9, s10, s11⟩; go_simp; with_reducible rfl)
           refine join_ (σ := Value × Nat) 2 #[true, true, true, true, true, true, true, true, true, true, true, false, false] (fun s_ => [(31, .tuple #[.agg #[.bool t695, .bool t696, .int .i64 t697, .int .i64 t698, .int .i64 t699, s_.1], .bool true]), (8, .pointer (some ⟨s_.2, 0, none⟩)), (24, .tuple #[.agg #[.bool t695, .bool t696, .int .i64 t697, .int .i64 t698, .int .i64 t699, s_.1], .bool true]), (32, .agg #[.bool t695, .bool t696, .int .i64 t697, .int .i64 t698, .int .i64 t699, s_.1]), (33, .bool true)]) (fun s_ w' => (w'.cell? ⟨gb693, 0, none⟩ = some (.bool ((rd_T47 l0 x16_1).f0)) ∧ w'.cell? ⟨gb693, 1, none⟩ = some (.bool ((rd_T47 l0 x16_1).f1)) ∧ w'.cell? ⟨gb693, 2, none⟩ = some (.int .i64 ((rd_T47 l0 x16_1).f2)) ∧ w'.cell? ⟨gb693, 3, none⟩ = some (.int .i64 ((rd_T47 l0 x16_1).f3)) ∧ w'.cell? ⟨gb693, 4, none⟩ = some (.int .i64 ((rd_T47 l0 x16_1).f4)) ∧ w'.cell? ⟨gb693, 5, none⟩ = some (.slice A692_5 ((rd_T47 l0 x16_1).f5).length c692_5) ∧ w'.cell? (ad694.add (((ji11)).toNat * 6)) = some (.bool ((rd_T47 x4_1 (ji11)).f0)) ∧ w'.cell? ⟨(ad694.add (((ji11)).toNat * 6)).block, (ad694.add (((ji11)).toNat * 6)).off + 1, none⟩ = some (.bool ((rd_T47 x4_1 (ji11)).f1)) ∧ w'.cell? ⟨(ad694.add (((ji11)).toNat * 6)).block, (ad694.add (((ji11)).toNat * 6)).off + 2, none⟩ = some (.int .i64 ((rd_T47 x4_1 (ji11)).f2)) ∧ w'.cell? ⟨(ad694.add (((ji11)).toNat * 6)).block, (ad694.add (((ji11)).toNat * 6)).off + 3, none⟩ = some (.int .i64 ((rd_T47 x4_1 (ji11)).f3)) ∧ w'.cell? ⟨(ad694.add (((ji11)).toNat * 6)).block, (ad694.add (((ji11)).toNat * 6)).off + 4, none⟩ = some (.int .i64 ((rd_T47 x4_1 (ji11)).f4)) ∧ w'.cell? ⟨(ad694.add (((ji11)).toNat * 6)).block, (ad694.add (((ji11)).toNat * 6)).off + 5, none⟩ = some (.slice A694_5 ((rd_T47 x4_1 (ji11)).f5).length c694_5)) ∧ (Kd.V k33 33 w' w.heap.size (fun k_ => (w.heap.size ≤ k_) ∧ some k_ ≠ (s_.1 : Value).ownBlock ∧ some k_ ≠ (.slice (some ad694) x4_1.length co19 : Value).ownBlock ∧ k_ ≠ gb693 ∧ k_ ≠ s_.2) (.slice A694_5 ((rd_T47 x4_1 (ji11)).f5).length c694_5) ((rd_T47 x4_1 (ji11)).f5)) ∧ (Kd.N k33 33 w' w.heap.size (fun k_ => (w.heap.size ≤ k_) ∧ some k_ ≠ (.slice (some ad694) x4_1.length co19 : Value).ownBlock ∧ k_ ≠ gb693 ∧ k_ ≠ s_.2) s_.1 t700) ∧ (Kd.N k47 47 w' w.heap.size (fun k_ => (w.heap.size ≤ k_) ∧ some k_ ≠ (s_.1 : Value).ownBlock ∧ k_ ≠ gb693 ∧ k_ ≠ s_.2) (.slice (some ad694) x4_1.length co19) x4_1) ∧ (w'.heap[gb693]? = some (.cells #[.bool ((rd_T47 l0 x16_1).f0), .bool ((rd_T47 l0 x16_1).f1), .int .i64 ((rd_T47 l0 x16_1).f2), .int .i64 ((rd_T47 l0 x16_1).f3), .int .i64 ((rd_T47 l0 x16_1).f4), .slice A692_5 ((rd_T47 l0 x16_1).f5).length c692_5] 47 (0, 0))) ∧ (w'.heap[s_.2]? = some (.cells #[.bool false, .bool false, .int .i64 0, .int .i64 0, .int .i64 0, .slice none 0 0] 47 (0, 0))) ∧ (w.heap.size ≤ s_.2) ∧ (w.heap.size ≤ s_.2) ∧ (gb693 ≠ s_.2) ∧ (s_.2 ≠ gb693) ∧ (Below w.heap.size w w')) ?_ ?_
           rotate_left
           ·intro hCont
            refine two_ (i := 6) (j := 10) (Ni := some 31) (Nj := some 8) #[true, true, true, true, true, true, true, false, false, false, false, false, false] #[true, true, true, true, true, true, false, false, false, false, true, false, false] rfl rfl rfl rfl (two_of HT_.out (by kernel_rfl)) (by decide) (by decide) (fun K hK => ?_) (fun K hK => ?_)
            ·skip
             refine goes_ Tryd.func28 (by kernel_rfl) rfl #[.agg #[.bool ((rd_T47 x4_1 (ji11)).f0), .bool ((rd_T47 x4_1 (ji11)).f1), .int .i64 ((rd_T47 x4_1 (ji11)).f2), .int .i64 ((rd_T47 x4_1 (ji11)).f3), .int .i64 ((rd_T47 x4_1 (ji11)).f4), .slice A694_5 ((rd_T47 x4_1 (ji11)).f5).length c694_5], .agg #[.bool ((rd_T47 l0 x16_1).f0), .bool ((rd_T47 l0 x16_1).f1), .int .i64 ((rd_T47 l0 x16_1).f2), .int .i64 ((rd_T47 l0 x16_1).f3), .int .i64 ((rd_T47 l0 x16_1).f4), .slice A692_5 ((rd_T47 l0 x16_1).f5).length c692_5]] (by rfl) rfl rfl (by (try simp only [List.map_toArray, List.map_cons, List.map_nil]); first | done | (simp only [hji11]; rfl) | rfl | (simp only [List.length_drop, List.length_take]; rfl)) ?_
             with_reducible refine (impl_BatchJoin.calls (hE := ?sideE) k1 ((rd_T47 x4_1 (ji11)).f0) ((rd_T47 x4_1 (ji11)).f1) ((rd_T47 x4_1 (ji11)).f2) ((rd_T47 x4_1 (ji11)).f3) ((rd_T47 x4_1 (ji11)).f4) _ _ ((rd_T47 x4_1 (ji11)).f5) ((rd_T47 l0 x16_1).f0) ((rd_T47 l0 x16_1).f1) ((rd_T47 l0 x16_1).f2) ((rd_T47 l0 x16_1).f3) ((rd_T47 l0 x16_1).f4) _ _ ((rd_T47 l0 x16_1).f5) t695 t696 t697 t698 t699 t700 true _ ?side1 ?side2 ?side3 ?side4 A14.out).mono ?_
             case sideE => exact ErrOk.below (HE.out.sub (by decide)) zb
             (case side1 => exact tC (tC HR694_5.out))
             (case side2 => exact HC694_5.out)
             (case side3 => exact tC (Kd.C_below HR692_5.out HB.out))
             (case side4 => exact HC692_5.out)
             rintro e w22 ⟨v701, rfl, ho0, hb⟩
             have HS6_ := tcb hb hHeld.2.2.2.2.2.2.1
             have HS7_ := tcb hb hHeld.2.2.2.2.2.2.2.1
             have HS8_ := tcb hb hHeld.2.2.2.2.2.2.2.2.1
             have HS9_ := tcb hb hHeld.2.2.2.2.2.2.2.2.2.1
             have HS10_ := tcb hb hHeld.2.2.2.2.2.2.2.2.2.2.1
             have HS11_ := tcb hb hHeld.2.2.2.2.2.2.2.2.2.2.2
             refine ⟨_, rfl, ?_⟩
             replace HL694_5 := tVe HL694_5 ho0 hb
             have HO702 := Aside0.mk (Kd.N_lower (Kd.N_mono (ok' := fun k_ => (w.heap.size ≤ k_) ∧ some k_ ≠ (.slice (some ad694) x4_1.length co19 : Value).ownBlock ∧ k_ ≠ gb693) ho0 (fun k_ hk_ => ⟨(Nat.le_trans (below_size zb) hk_), (tfr HO_4 k_ hk_), (tfB BK693 k_ hk_)⟩)) (below_size zb))
             replace HO_4 := tNe HO_4 ho0 hb
             replace BK693 := tBb BK693 hb
             replace HR694_5 := tCb HR694_5 hb
             replace HB := tBs HB hb
             (try clear hb)
             (try clear hb2)
             (try clear hk)
             (try clear hi)
             (try clear ho0)
             refine hK.out _ _ ⟨(blk_cell BK693.out 0).trans rfl, (blk_cell BK693.out 1).trans rfl, (blk_cell BK693.out 2).trans rfl, (blk_cell BK693.out 3).trans rfl, (blk_cell BK693.out 4).trans rfl, (blk_cell BK693.out 5).trans rfl, HS6_, HS7_, HS8_, HS9_, HS10_, HS11_⟩ (fun hHeld => ?_)
             clear hK K
             refine tnm (some 31) ?_
             refine tpu 7 (some 24) #[true, true, true, true, true, true, true, true, false, false, false, false, false] ?_
             refine tpu 8 (some 32) #[true, true, true, true, true, true, true, true, true, false, false, false, false] ?_
             refine tpu 9 (some 33) #[true, true, true, true, true, true, true, true, true, true, false, false, false] ?_
             refine one_ (i := 10) (N := some 8) #[true, true, true, true, true, true, true, true, true, true, true, false, false] rfl rfl (one_of HT_.out (by kernel_rfl)) (by decide) (fun K hK => ?_)
             refine box_step ?hg (N := 8) ?hd (cs := #[.bool false, .bool false, .int .i64 0, .int .i64 0, .int .i64 0, .slice none 0 0]) (t := 47) ?hr ?_; (case hd => rfl); (case hg => rfl); (case hr => first | (go_simp; done) | (go_simp; rfl))
             intro gb704 hg w23 hbox hb
             have HS6_ := tcb hb hHeld.2.2.2.2.2.2.1
             have HS7_ := tcb hb hHeld.2.2.2.2.2.2.2.1
             have HS8_ := tcb hb hHeld.2.2.2.2.2.2.2.2.1
             have HS9_ := tcb hb hHeld.2.2.2.2.2.2.2.2.2.1
             have HS10_ := tcb hb hHeld.2.2.2.2.2.2.2.2.2.2.1
             have HS11_ := tcb hb hHeld.2.2.2.2.2.2.2.2.2.2.2
             replace HO_4 := tNB HO_4 hg hb
             replace HL694_5 := tVB HL694_5 hg hb
             replace HO702 := tNB HO702 hg hb
             replace HR694_5 := tCb HR694_5 hb
             have BK704 := Aside0.mk (hbox)
             have GW704 := tge HB hg
             have GE704 := tge HB hg
             replace HB := tBs HB hb
             have NB693_704 := tlt BK693 hg
             have NB704_693 := tgt BK693 hg
             replace BK693 := tBb BK693 hb
             clear hb hbox hg
             refine hK.out _ _ ⟨(blk_cell BK693.out 0).trans rfl, (blk_cell BK693.out 1).trans rfl, (blk_cell BK693.out 2).trans rfl, (blk_cell BK693.out 3).trans rfl, (blk_cell BK693.out 4).trans rfl, (blk_cell BK693.out 5).trans rfl, HS6_, HS7_, HS8_, HS9_, HS10_, HS11_⟩ (fun hHeld => ?_)
             clear hK K
             refine tnm (some 8) ?_
             exact tnx (hCont (v701, gb704) _ ⟨hHeld, (tVm HL694_5.out), (tNm HO702.out), (tNm HO_4.out), (tH BK693.out), (tH BK704.out), GW704.out, GE704.out, NB693_704.out, NB704_693.out, zb⟩)
            ·skip
             refine box_step ?hg (N := 8) ?hd (cs := #[.bool false, .bool false, .int .i64 0, .int .i64 0, .int .i64 0, .slice none 0 0]) (t := 47) ?hr ?_; (case hd => rfl); (case hg => rfl); (case hr => first | (go_simp; done) | (go_simp; rfl))
             intro gb704 hg w22 hbox hb
             have HS6_ := tcb hb hHeld.2.2.2.2.2.2.1
             have HS7_ := tcb hb hHeld.2.2.2.2.2.2.2.1
             have HS8_ := tcb hb hHeld.2.2.2.2.2.2.2.2.1
             have HS9_ := tcb hb hHeld.2.2.2.2.2.2.2.2.2.1
             have HS10_ := tcb hb hHeld.2.2.2.2.2.2.2.2.2.2.1
             have HS11_ := tcb hb hHeld.2.2.2.2.2.2.2.2.2.2.2
             replace HO_4 := tNB HO_4 hg hb
             replace HL694_5 := tVB HL694_5 hg hb
             replace HR694_5 := tCb HR694_5 hb
             have BK704 := Aside0.mk (hbox)
             have GW704 := tge HB hg
             have GE704 := tge HB hg
             replace HB := tBs HB hb
             have NB693_704 := tlt BK693 hg
             have NB704_693 := tgt BK693 hg
             replace BK693 := tBb BK693 hb
             clear hb hbox hg
             refine hK.out _ _ ⟨(blk_cell BK693.out 0).trans rfl, (blk_cell BK693.out 1).trans rfl, (blk_cell BK693.out 2).trans rfl, (blk_cell BK693.out 3).trans rfl, (blk_cell BK693.out 4).trans rfl, (blk_cell BK693.out 5).trans rfl, HS6_, HS7_, HS8_, HS9_, HS10_, HS11_⟩ (fun hHeld => ?_)
             clear hK K
             refine tnm (some 8) ?_
             refine one_ (i := 6) (N := some 31) #[true, true, true, true, true, true, true, false, false, false, true, false, false] rfl rfl (one_of HT_.out (by kernel_rfl)) (by decide) (fun K hK => ?_)
             refine goes_ Tryd.func28 (by kernel_rfl) rfl #[.agg #[.bool ((rd_T47 x4_1 (ji11)).f0), .bool ((rd_T47 x4_1 (ji11)).f1), .int .i64 ((rd_T47 x4_1 (ji11)).f2), .int .i64 ((rd_T47 x4_1 (ji11)).f3), .int .i64 ((rd_T47 x4_1 (ji11)).f4), .slice A694_5 ((rd_T47 x4_1 (ji11)).f5).length c694_5], .agg #[.bool ((rd_T47 l0 x16_1).f0), .bool ((rd_T47 l0 x16_1).f1), .int .i64 ((rd_T47 l0 x16_1).f2), .int .i64 ((rd_T47 l0 x16_1).f3), .int .i64 ((rd_T47 l0 x16_1).f4), .slice A692_5 ((rd_T47 l0 x16_1).f5).length c692_5]] (by rfl) rfl rfl (by (try simp only [List.map_toArray, List.map_cons, List.map_nil]); first | done | (simp only [hji11]; rfl) | rfl | (simp only [List.length_drop, List.length_take]; rfl)) ?_
             with_reducible refine (impl_BatchJoin.calls (hE := ?sideE) k1 ((rd_T47 x4_1 (ji11)).f0) ((rd_T47 x4_1 (ji11)).f1) ((rd_T47 x4_1 (ji11)).f2) ((rd_T47 x4_1 (ji11)).f3) ((rd_T47 x4_1 (ji11)).f4) _ _ ((rd_T47 x4_1 (ji11)).f5) ((rd_T47 l0 x16_1).f0) ((rd_T47 l0 x16_1).f1) ((rd_T47 l0 x16_1).f2) ((rd_T47 l0 x16_1).f3) ((rd_T47 l0 x16_1).f4) _ _ ((rd_T47 l0 x16_1).f5) t695 t696 t697 t698 t699 t700 true _ ?side1 ?side2 ?side3 ?side4 A14.out).mono ?_
             case sideE => exact ErrOk.below (HE.out.sub (by decide)) zb
             (case side1 => exact tC (tC HR694_5.out))
             (case side2 => exact HC694_5.out)
             (case side3 => exact tC (Kd.C_below HR692_5.out HB.out))
             (case side4 => exact HC692_5.out)
             rintro e w23 ⟨v701, rfl, ho0, hb⟩
             have HS6_ := tcb hb hHeld.2.2.2.2.2.2.1
             have HS7_ := tcb hb hHeld.2.2.2.2.2.2.2.1
             have HS8_ := tcb hb hHeld.2.2.2.2.2.2.2.2.1
             have HS9_ := tcb hb hHeld.2.2.2.2.2.2.2.2.2.1
             have HS10_ := tcb hb hHeld.2.2.2.2.2.2.2.2.2.2.1
             have HS11_ := tcb hb hHeld.2.2.2.2.2.2.2.2.2.2.2
             refine ⟨_, rfl, ?_⟩
             replace HL694_5 := tVe HL694_5 ho0 hb
             have HO702 := Aside0.mk (Kd.N_lower (Kd.N_mono (ok' := fun k_ => (w.heap.size ≤ k_) ∧ some k_ ≠ (.slice (some ad694) x4_1.length co19 : Value).ownBlock ∧ k_ ≠ gb693 ∧ k_ ≠ gb704) ho0 (fun k_ hk_ => ⟨(Nat.le_trans (below_size zb) hk_), (tfr HO_4 k_ hk_), (tfB BK693 k_ hk_), (tfB BK704 k_ hk_)⟩)) (below_size zb))
             replace HO_4 := tNe HO_4 ho0 hb
             replace BK693 := tBb BK693 hb
             replace HR694_5 := tCb HR694_5 hb
             replace BK704 := tBb BK704 hb
             replace HB := tBs HB hb
             (try clear hb)
             (try clear hb2)
             (try clear hk)
             (try clear hi)
             (try clear ho0)
             refine hK.out _ _ ⟨(blk_cell BK693.out 0).trans rfl, (blk_cell BK693.out 1).trans rfl, (blk_cell BK693.out 2).trans rfl, (blk_cell BK693.out 3).trans rfl, (blk_cell BK693.out 4).trans rfl, (blk_cell BK693.out 5).trans rfl, HS6_, HS7_, HS8_, HS9_, HS10_, HS11_⟩ (fun hHeld => ?_)
             clear hK K
             refine tnm (some 31) ?_
             refine tpu 7 (some 24) #[true, true, true, true, true, true, true, true, false, false, true, false, false] ?_
             refine tpu 8 (some 32) #[true, true, true, true, true, true, true, true, true, false, true, false, false] ?_
             refine tpu 9 (some 33) #[true, true, true, true, true, true, true, true, true, true, true, false, false] ?_
             exact tnx (hCont (v701, gb704) _ ⟨hHeld, (tVm HL694_5.out), (tN HO702.out), (tNm HO_4.out), (tH BK693.out), (tH BK704.out), GW704.out, GE704.out, NB693_704.out, NB704_693.out, zb⟩)
           rintro ⟨v701, gb704⟩ w24 ⟨hS_, h0_, h1_, h2_, h3_, h4_, h5_, h6_, h7_, h8_, h9_⟩
           have n0_ : Aside0 (Kd.V k33 33 w24 w.heap.size (fun k_ => (w.heap.size ≤ k_) ∧ some k_ ≠ (v701 : Value).ownBlock ∧ some k_ ≠ (.slice (some ad694) x4_1.length co19 : Value).ownBlock ∧ k_ ≠ gb693 ∧ k_ ≠ gb704) (.slice A694_5 ((rd_T47 x4_1 (ji11)).f5).length c694_5) ((rd_T47 x4_1 (ji11)).f5)) := ⟨h0_⟩
           have n1_ : Aside0 (Kd.N k33 33 w24 w.heap.size (fun k_ => (w.heap.size ≤ k_) ∧ some k_ ≠ (.slice (some ad694) x4_1.length co19 : Value).ownBlock ∧ k_ ≠ gb693 ∧ k_ ≠ gb704) v701 t700) := ⟨h1_⟩
           have n2_ : Aside0 (Kd.N k47 47 w24 w.heap.size (fun k_ => (w.heap.size ≤ k_) ∧ some k_ ≠ (v701 : Value).ownBlock ∧ k_ ≠ gb693 ∧ k_ ≠ gb704) (.slice (some ad694) x4_1.length co19) x4_1) := ⟨h2_⟩
           have n3_ : Aside0 (w24.heap[gb693]? = some (.cells #[.bool ((rd_T47 l0 x16_1).f0), .bool ((rd_T47 l0 x16_1).f1), .int .i64 ((rd_T47 l0 x16_1).f2), .int .i64 ((rd_T47 l0 x16_1).f3), .int .i64 ((rd_T47 l0 x16_1).f4), .slice A692_5 ((rd_T47 l0 x16_1).f5).length c692_5] 47 (0, 0))) := ⟨h3_⟩
           have n4_ : Aside0 (w24.heap[gb704]? = some (.cells #[.bool false, .bool false, .int .i64 0, .int .i64 0, .int .i64 0, .slice none 0 0] 47 (0, 0))) := ⟨h4_⟩
           have n5_ : Aside0 (w.heap.size ≤ gb704) := ⟨h5_⟩
           have n6_ : Aside0 (w.heap.size ≤ gb704) := ⟨h6_⟩
           have n7_ : Aside0 (gb693 ≠ gb704) := ⟨h7_⟩
           have n8_ : Aside0 (gb704 ≠ gb693) := ⟨h8_⟩
           have n9_ : Aside0 (Below w.heap.size w w24) := ⟨h9_⟩
           clear HO_4
           clear BK693
           clear HB
           clear h0_ h1_ h2_ h3_ h4_ h5_ h6_ h7_ h8_ h9_
           have HL694_5 := n0_
           have HO702 := n1_
           have HO_4 := n2_
           have BK693 := n3_
           have BK704 := n4_
           have GW704 := n5_
           have GE704 := n6_
           have NB693_704 := n7_
           have NB704_693 := n8_
           have HB := n9_
           clear n0_ n1_ n2_ n3_ n4_ n5_ n6_ n7_ n8_ n9_
           have hHeld : w24.cell? ⟨gb693, 0, none⟩ = some (.bool ((rd_T47 l0 x16_1).f0)) ∧ w24.cell? ⟨gb693, 1, none⟩ = some (.bool ((rd_T47 l0 x16_1).f1)) ∧ w24.cell? ⟨gb693, 2, none⟩ = some (.int .i64 ((rd_T47 l0 x16_1).f2)) ∧ w24.cell? ⟨gb693, 3, none⟩ = some (.int .i64 ((rd_T47 l0 x16_1).f3)) ∧ w24.cell? ⟨gb693, 4, none⟩ = some (.int .i64 ((rd_T47 l0 x16_1).f4)) ∧ w24.cell? ⟨gb693, 5, none⟩ = some (.slice A692_5 ((rd_T47 l0 x16_1).f5).length c692_5) ∧ w24.cell? (ad694.add (((ji11)).toNat * 6)) = some (.bool ((rd_T47 x4_1 (ji11)).f0)) ∧ w24.cell? ⟨(ad694.add (((ji11)).toNat * 6)).block, (ad694.add (((ji11)).toNat * 6)).off + 1, none⟩ = some (.bool ((rd_T47 x4_1 (ji11)).f1)) ∧ w24.cell? ⟨(ad694.add (((ji11)).toNat * 6)).block, (ad694.add (((ji11)).toNat * 6)).off + 2, none⟩ = some (.int .i64 ((rd_T47 x4_1 (ji11)).f2)) ∧ w24.cell? ⟨(ad694.add (((ji11)).toNat * 6)).block, (ad694.add (((ji11)).toNat * 6)).off + 3, none⟩ = some (.int .i64 ((rd_T47 x4_1 (ji11)).f3)) ∧ w24.cell? ⟨(ad694.add (((ji11)).toNat * 6)).block, (ad694.add (((ji11)).toNat * 6)).off + 4, none⟩ = some (.int .i64 ((rd_T47 x4_1 (ji11)).f4)) ∧ w24.cell? ⟨(ad694.add (((ji11)).toNat * 6)).block, (ad694.add (((ji11)).toNat * 6)).off + 5, none⟩ = some (.slice A694_5 ((rd_T47 x4_1 (ji11)).f5).length c694_5) := hS_
           obtain ⟨Ao30, co30, eo30⟩ := Kd.N_slice HO702.out
           (first | subst eo30 | (injection eo30 with f1_ f2_ f3_; have f4_ := f1_.symm; have f5_ := f3_.symm; clear f1_ f2_ f3_; subst f4_; subst f5_))
           refine tnp ?_
           refine one_ (i := 11) (N := none) #[true, true, true, true, true, true, true, true, true, true, true, true, false] rfl rfl (one_of HT_.out (by kernel_rfl)) (by decide) (fun K hK => ?_)
           have hs25 : w24.cell? ⟨gb704, 0, none⟩ = some (.bool false) := (blk_cell BK704.out 0).trans rfl
           have hfs25 := blk_frozen BK704.out 0
           have hns25_0 := NB693_704.out
           have hms25_0 := NB704_693.out
           have hs26 : w24.cell? ⟨gb704, 1, none⟩ = some (.bool false) := (blk_cell BK704.out 1).trans rfl
           have hfs26 := blk_frozen BK704.out 1
           have hns26_0 := NB693_704.out
           have hms26_0 := NB704_693.out
           have hs27 : w24.cell? ⟨gb704, 2, none⟩ = some (.int .i64 0) := (blk_cell BK704.out 2).trans rfl
           have hfs27 := blk_frozen BK704.out 2
           have hns27_0 := NB693_704.out
           have hms27_0 := NB704_693.out
           have hs28 : w24.cell? ⟨gb704, 3, none⟩ = some (.int .i64 0) := (blk_cell BK704.out 3).trans rfl
           have hfs28 := blk_frozen BK704.out 3
           have hns28_0 := NB693_704.out
           have hms28_0 := NB704_693.out
           have hs29 : w24.cell? ⟨gb704, 4, none⟩ = some (.int .i64 0) := (blk_cell BK704.out 4).trans rfl
           have hfs29 := blk_frozen BK704.out 4
           have hns29_0 := NB693_704.out
           have hms29_0 := NB704_693.out
           have hs31 : w24.cell? ⟨gb704, 5, none⟩ = some (.slice none 0 0) := (blk_cell BK704.out 5).trans rfl
           have hfs31 := blk_frozen BK704.out 5
           have hns31_0 := NB693_704.out
           have hms31_0 := NB704_693.out
           refine tsk ?_
           refine hK.out _ _ ⟨(tcg NB693_704.out hHeld.1), (tcg NB693_704.out hHeld.2.1), (tcg NB693_704.out hHeld.2.2.1), (tcg NB693_704.out hHeld.2.2.2.1), (tcg NB693_704.out hHeld.2.2.2.2.1), (tcg NB693_704.out hHeld.2.2.2.2.2.1), (tcg (Kd.own_blk (Kd.N_away HO_4.out (fun _ hk => hk.2.2.2))) hHeld.2.2.2.2.2.2.1), (tcg (Kd.own_blk (Kd.N_away HO_4.out (fun _ hk => hk.2.2.2))) hHeld.2.2.2.2.2.2.2.1), (tcg (Kd.own_blk (Kd.N_away HO_4.out (fun _ hk => hk.2.2.2))) hHeld.2.2.2.2.2.2.2.2.1), (tcg (Kd.own_blk (Kd.N_away HO_4.out (fun _ hk => hk.2.2.2))) hHeld.2.2.2.2.2.2.2.2.2.1), (tcg (Kd.own_blk (Kd.N_away HO_4.out (fun _ hk => hk.2.2.2))) hHeld.2.2.2.2.2.2.2.2.2.2.1), (tcg (Kd.own_blk (Kd.N_away HO_4.out (fun _ hk => hk.2.2.2))) hHeld.2.2.2.2.2.2.2.2.2.2.2)⟩ (fun hHeld => ?_)
           clear hK K
           refine tpu 12 (some 9) #[true, true, true, true, true, true, true, true, true, true, true, true, true] ?_
           refine done_ (done_of HT_.out (by kernel_rfl)) ?_
           have n0_ : Aside0 (Kd.N k47 47 ((((((w24.setCell ⟨gb704, 0, none⟩ (.bool t695)).setCell ⟨gb704, 1, none⟩ (.bool t696)).setCell ⟨gb704, 2, none⟩ (.int .i64 t697)).setCell ⟨gb704, 3, none⟩ (.int .i64 t698)).setCell ⟨gb704, 4, none⟩ (.int .i64 t699)).setCell ⟨gb704, 5, none⟩ (.slice Ao30 t700.length co30)) w.heap.size (fun k_ => (w.heap.size ≤ k_) ∧ some k_ ≠ (.slice Ao30 t700.length co30 : Value).ownBlock ∧ k_ ≠ gb693 ∧ k_ ≠ gb704) (.slice (some ad694) x4_1.length co19) x4_1) := ⟨tNm HO_4.out⟩
           have n1_ : Aside0 (Kd.V k33 33 ((((((w24.setCell ⟨gb704, 0, none⟩ (.bool t695)).setCell ⟨gb704, 1, none⟩ (.bool t696)).setCell ⟨gb704, 2, none⟩ (.int .i64 t697)).setCell ⟨gb704, 3, none⟩ (.int .i64 t698)).setCell ⟨gb704, 4, none⟩ (.int .i64 t699)).setCell ⟨gb704, 5, none⟩ (.slice Ao30 t700.length co30)) w.heap.size (fun k_ => (w.heap.size ≤ k_) ∧ some k_ ≠ (.slice (some ad694) x4_1.length co19 : Value).ownBlock ∧ some k_ ≠ (.slice Ao30 t700.length co30 : Value).ownBlock ∧ k_ ≠ gb693 ∧ k_ ≠ gb704) (.slice A694_5 ((rd_T47 x4_1 (ji11)).f5).length c694_5) ((rd_T47 x4_1 (ji11)).f5)) := ⟨tVm HL694_5.out⟩
           have n2_ : Aside0 (Kd.N k33 33 ((((((w24.setCell ⟨gb704, 0, none⟩ (.bool t695)).setCell ⟨gb704, 1, none⟩ (.bool t696)).setCell ⟨gb704, 2, none⟩ (.int .i64 t697)).setCell ⟨gb704, 3, none⟩ (.int .i64 t698)).setCell ⟨gb704, 4, none⟩ (.int .i64 t699)).setCell ⟨gb704, 5, none⟩ (.slice Ao30 t700.length co30)) w.heap.size (fun k_ => (w.heap.size ≤ k_) ∧ some k_ ≠ (.slice (some ad694) x4_1.length co19 : Value).ownBlock ∧ k_ ≠ gb693 ∧ k_ ≠ gb704) (.slice Ao30 t700.length co30) t700) := ⟨tNm HO702.out⟩
           have n3_ : Aside0 (((((((w24.setCell ⟨gb704, 0, none⟩ (.bool t695)).setCell ⟨gb704, 1, none⟩ (.bool t696)).setCell ⟨gb704, 2, none⟩ (.int .i64 t697)).setCell ⟨gb704, 3, none⟩ (.int .i64 t698)).setCell ⟨gb704, 4, none⟩ (.int .i64 t699)).setCell ⟨gb704, 5, none⟩ (.slice Ao30 t700.length co30)).heap[gb693]? = some (.cells #[.bool ((rd_T47 l0 x16_1).f0), .bool ((rd_T47 l0 x16_1).f1), .int .i64 ((rd_T47 l0 x16_1).f2), .int .i64 ((rd_T47 l0 x16_1).f3), .int .i64 ((rd_T47 l0 x16_1).f4), .slice A692_5 ((rd_T47 l0 x16_1).f5).length c692_5] 47 (0, 0))) := ⟨tH BK693.out⟩
           have n4_ : Aside0 (((((((w24.setCell ⟨gb704, 0, none⟩ (.bool t695)).setCell ⟨gb704, 1, none⟩ (.bool t696)).setCell ⟨gb704, 2, none⟩ (.int .i64 t697)).setCell ⟨gb704, 3, none⟩ (.int .i64 t698)).setCell ⟨gb704, 4, none⟩ (.int .i64 t699)).setCell ⟨gb704, 5, none⟩ (.slice Ao30 t700.length co30)).heap[gb704]? = some (.cells #[.bool t695, .bool t696, .int .i64 t697, .int .i64 t698, .int .i64 t699, .slice Ao30 t700.length co30] 47 (0, 0))) := ⟨tP BK704.out⟩
           have n5_ : Aside0 (Below w.heap.size w ((((((w24.setCell ⟨gb704, 0, none⟩ (.bool t695)).setCell ⟨gb704, 1, none⟩ (.bool t696)).setCell ⟨gb704, 2, none⟩ (.int .i64 t697)).setCell ⟨gb704, 3, none⟩ (.int .i64 t698)).setCell ⟨gb704, 4, none⟩ (.int .i64 t699)).setCell ⟨gb704, 5, none⟩ (.slice Ao30 t700.length co30))) := ⟨zb⟩
           (try clear HO_4)
           (try clear HL694_5)
           (try clear HO702)
           (try clear BK693)
           (try clear BK704)
           (try clear HB)
           generalize ((((((w24.setCell ⟨gb704, 0, none⟩ (.bool t695)).setCell ⟨gb704, 1, none⟩ (.bool t696)).setCell ⟨gb704, 2, none⟩ (.int .i64 t697)).setCell ⟨gb704, 3, none⟩ (.int .i64 t698)).setCell ⟨gb704, 4, none⟩ (.int .i64 t699)).setCell ⟨gb704, 5, none⟩ (.slice Ao30 t700.length co30)) = w32 at n0_ n1_ n2_ n3_ n4_ n5_ ⊢
           have HO_4 := n0_
           have HL694_5 := n1_
           have HO702 := n2_
           have BK693 := n3_
           have BK704 := n4_
           have HB := n5_
           clear n0_ n1_ n2_ n3_ n4_ n5_
           have hnb33 := NB704_693.out
           have hnc33 := NB693_704.out
           obtain ⟨hcz34_0, hcz34_1, hcz34_2, hcz34_3, hcz34_4, hcz34_5, hfz34_0, hfz34_1, hfz34_2, hfz34_3, hfz34_4, hfz34_5⟩ := cells6 BK704.out
           have p16 : 0 ≤ ((ji11) : Int) := td
           have q16 : ((ji11) : Int) < ((x4_1.length : Int) : Int) := td
           obtain ⟨go16, co16, eo16, gb16, gl16, cl16, HG16⟩ := Kd.N_form HO_4.out (by omega)
           (first | cases eo16 | (injection eo16 with ea_ en_ ec_; (first | subst ea_ | (injection ea_ with ea_; subst ea_)); subst ec_; clear en_))
           have GB16 := Aside0.mk gb16
           have GG16 := Aside0.mk HG16
           clear gb16 gl16 HG16
           (first | simp only [add_plain] at hx694_0 | skip)
           (first | simp only [add_plain] at hx694_1 | skip)
           (first | simp only [add_plain] at hx694_2 | skip)
           (first | simp only [add_plain] at hx694_3 | skip)
           (first | simp only [add_plain] at hx694_4 | skip)
           (first | simp only [add_plain] at hx694_5 | skip)
           obtain ⟨ce16, hcl16, hM16, hcc16, hfr16⟩ := Kd.N_elem HO_4.out z47 ((ji11) : Int) p16 q16
           obtain ⟨ua16_5, uc16_5, rfl, ul16_5, ge16_5⟩ := k47_openF hM16
           have hx16_0 : w32.cell? ⟨go16, ((ji11) : Int).toNat * 6, none⟩ = some (.bool ((rd_T47 x4_1 (ji11)).f0)) := hcc16 0 _ rfl
           have hx16_1 : w32.cell? ⟨go16, ((ji11) : Int).toNat * 6 + 1, none⟩ = some (.bool ((rd_T47 x4_1 (ji11)).f1)) := hcc16 1 _ rfl
           have hx16_2 : w32.cell? ⟨go16, ((ji11) : Int).toNat * 6 + 2, none⟩ = some (.int .i64 ((rd_T47 x4_1 (ji11)).f2)) := hcc16 2 _ rfl
           have hx16_3 : w32.cell? ⟨go16, ((ji11) : Int).toNat * 6 + 3, none⟩ = some (.int .i64 ((rd_T47 x4_1 (ji11)).f3)) := hcc16 3 _ rfl
           have hx16_4 : w32.cell? ⟨go16, ((ji11) : Int).toNat * 6 + 4, none⟩ = some (.int .i64 ((rd_T47 x4_1 (ji11)).f4)) := hcc16 4 _ rfl
           have hx16_5 : w32.cell? ⟨go16, ((ji11) : Int).toNat * 6 + 5, none⟩ = some (.slice ua16_5 ((rd_T47 x4_1 (ji11)).f5).length uc16_5) := hcc16 5 _ rfl
           have hf16_0 : w32.frozen? ⟨go16, ((ji11) : Int).toNat * 6, none⟩ = false := hfr16 0
           have hf16_1 : w32.frozen? ⟨go16, ((ji11) : Int).toNat * 6 + 1, none⟩ = false := hfr16 1
           have hf16_2 : w32.frozen? ⟨go16, ((ji11) : Int).toNat * 6 + 2, none⟩ = false := hfr16 2
           have hf16_3 : w32.frozen? ⟨go16, ((ji11) : Int).toNat * 6 + 3, none⟩ = false := hfr16 3
           have hf16_4 : w32.frozen? ⟨go16, ((ji11) : Int).toNat * 6 + 4, none⟩ = false := hfr16 4
           have hf16_5 : w32.frozen? ⟨go16, ((ji11) : Int).toNat * 6 + 5, none⟩ = false := hfr16 5
           clear hcl16 hcc16 hfr16 hM16
           replace p16 := eq_true p16
           replace q16 := eq_true q16
           have HX35 := Aside0.mk (show Kd.N k47 47 w32 w.heap.size (fun k_ => (w.heap.size ≤ k_) ∧ k_ ≠ gb693 ∧ k_ ≠ gb704) (.slice (some ⟨go16, 0, none⟩) x4_1.length co19) x4_1 from (tNm HO_4.out))
           obtain ⟨ce35, hcl35, hM35, hcc35, hfr35⟩ := Kd.N_elem HX35.out z47 ((ji11) : Int) (td) (by have h_ : ((ji11) : Int) < ((x4_1.length : Int) : Int) := td; first | exact h_ | (have e_ := (Kd.N_reads' HO_4.out).1; omega) | simpa using h_)
           obtain ⟨ua35_5, uc35_5, rfl, ul35_5, ge35_5⟩ := k47_openF hM35
           have HP35 := Kd.N_seg HX35.out ((ji11) : Int) (td) (by have h_ : ((ji11) : Int) < ((x4_1.length : Int) : Int) := td; first | exact h_ | (have e_ := (Kd.N_reads' HO_4.out).1; omega) | simpa using h_) (seg := [.bool t695, .bool t696, .int .i64 t697, .int .i64 t698, .int .i64 t699, .slice Ao30 t700.length co30]) (j := 0) hcl35 hcc35 (show 6 ≤ 6 from by decide) (x' := (⟨t695, t696, t697, t698, t699, t700⟩ : S47)) (k47_mkF _ _ (⟨t695, t696, t697, t698, t699, t700⟩ : S47) (Kd.N_reads' (Kd.N_mono (ok' := (fun k_ => ((fun k_ => (w.heap.size ≤ k_) ∧ k_ ≠ gb693 ∧ k_ ≠ gb704)) k_ ∧ k_ ≠ go16)) (HO702.out) (fun k_ hk => ⟨⟨hk.1, ⟨hk.2.2.1, hk.2.2.2⟩⟩, fun e_ => (hk.2.1) (by rw [e_]; rfl)⟩))).2.1 (Kd.N_F (Kd.N_mono (ok' := (fun k_ => ((fun k_ => (w.heap.size ≤ k_) ∧ k_ ≠ gb693 ∧ k_ ≠ gb704)) k_ ∧ k_ ≠ go16)) (HO702.out) (fun k_ hk => ⟨⟨hk.1, ⟨hk.2.2.1, hk.2.2.2⟩⟩, fun e_ => (hk.2.1) (by rw [e_]; rfl)⟩)))) (fun _ hk => hk)
           have hx35_0 := hcc35 0 _ rfl
           (try simp only [show (k47).sz = 6 from rfl, Nat.mul_one, Nat.add_zero] at hx35_0)
           have hf35_0 := hfr35 0
           (try simp only [show (k47).sz = 6 from rfl, Nat.mul_one, Nat.add_zero] at hf35_0)
           have hx35_1 := hcc35 1 _ rfl
           (try simp only [show (k47).sz = 6 from rfl, Nat.mul_one, Nat.add_zero] at hx35_1)
           have hf35_1 := hfr35 1
           (try simp only [show (k47).sz = 6 from rfl, Nat.mul_one, Nat.add_zero] at hf35_1)
           have hx35_2 := hcc35 2 _ rfl
           (try simp only [show (k47).sz = 6 from rfl, Nat.mul_one, Nat.add_zero] at hx35_2)
           have hf35_2 := hfr35 2
           (try simp only [show (k47).sz = 6 from rfl, Nat.mul_one, Nat.add_zero] at hf35_2)
           have hx35_3 := hcc35 3 _ rfl
           (try simp only [show (k47).sz = 6 from rfl, Nat.mul_one, Nat.add_zero] at hx35_3)
           have hf35_3 := hfr35 3
           (try simp only [show (k47).sz = 6 from rfl, Nat.mul_one, Nat.add_zero] at hf35_3)
           have hx35_4 := hcc35 4 _ rfl
           (try simp only [show (k47).sz = 6 from rfl, Nat.mul_one, Nat.add_zero] at hx35_4)
           have hf35_4 := hfr35 4
           (try simp only [show (k47).sz = 6 from rfl, Nat.mul_one, Nat.add_zero] at hf35_4)
           have hx35_5 := hcc35 5 _ rfl
           (try simp only [show (k47).sz = 6 from rfl, Nat.mul_one, Nat.add_zero] at hx35_5)
           have hf35_5 := hfr35 5
           (try simp only [show (k47).sz = 6 from rfl, Nat.mul_one, Nat.add_zero] at hf35_5)
           clear hcl35 hcc35 hfr35 hM35
           try go_wp2_with (first | ((with_reducible refine gate_store (t := 47) (p := 39) rfl ?_); refine store_event (t := 47) (p := 39) (v := ?vo_w36) (w1 := ((((((w32.setCell ⟨go16, ((ji11) : Int).toNat * 6, none⟩ (.bool t695)).setCell ⟨go16, ((ji11) : Int).toNat * 6 + 1, none⟩ (.bool t696)).setCell ⟨go16, ((ji11) : Int).toNat * 6 + 2, none⟩ (.int .i64 t697)).setCell ⟨go16, ((ji11) : Int).toNat * 6 + 3, none⟩ (.int .i64 t698)).setCell ⟨go16, ((ji11) : Int).toNat * 6 + 4, none⟩ (.int .i64 t699)).setCell ⟨go16, ((ji11) : Int).toNat * 6 + 5, none⟩ (.slice Ao30 t700.length co30))) ?hg ?ho ?hn ?hr ?_; (case ho => rfl); (case hg => rfl); (case hn => rfl); (case hr => first | (go_simp; done) | (go_simp; rfl)); intro w36 hw; have hg : w32.grownBy w36 (some go16) := (by rw [hw]; exact HP35.2); have hp_ : Kd.N k47 47 w36 w.heap.size (fun k_ => (w.heap.size ≤ k_) ∧ k_ ≠ gb693 ∧ k_ ≠ gb704) (.slice (some ⟨go16, 0, none⟩) x4_1.length co19) y705 := (by rw [hw, Ny705.out]; exact HP35.1); clear HP35; replace BK693 := Aside0.mk (blk_grown (tH BK693.out) hg (Kd.N_away HO_4.out (fun _ hk => hk.2.2.1))); replace HL694_5 := Aside0.mk (Kd.V_afterv (v := (.slice (some ⟨go16, 0, none⟩) x4_1.length co19)) (v1 := (.slice (some ⟨go16, 0, none⟩) x4_1.length co19)) (ok := (fun k_ => (w.heap.size ≤ k_) ∧ some k_ ≠ (.slice Ao30 t700.length co30 : Value).ownBlock ∧ k_ ≠ gb693 ∧ k_ ≠ gb704)) (tVm HL694_5.out) hg (.inl rfl)); replace BK704 := Aside0.mk (blk_grown (tH BK704.out) hg (Kd.N_away HO_4.out (fun _ hk => hk.2.2.2))); replace HO_4 := Aside0.mk (hp_); replace HB := Aside0.mk ((by rw [hw]; exact below_set (below_set (below_set (below_set (below_set (below_set (HB.out) GB16.out) GB16.out) GB16.out) GB16.out) GB16.out) GB16.out : Below w.heap.size w w36)); clear HO702; clear hg hw hp_))
           go_roundg k1
           case measure => have := HK1.out; omega
           case rel => exact ⟨(y705), (wrap64 (x16_1 + 1)), tr, H', ⟨by have := HK1.out; omega⟩, ⟨tNm HO_4.out⟩, ⟨zb⟩⟩
          ·replace c15 := Bool.eq_false_iff.mpr c15
           subst c15
           rw [if_neg (show ¬ (false = true) by decide)] at H
           replace H := tbe H
           obtain ⟨⟨t706, t707, t708, t709, t710, t711⟩, A37, H⟩ := H
           dsimp only at H
           by_cases c38 : x4_1.length < 2513169434916
           ·rw [if_pos c38] at H
            have LMc38 := Aside0.mk c38
            clear c38
            obtain ⟨y714, hy714⟩ : ∃ y_ : List (S47), y_ = (x4_1 ++ [(⟨t706, t707, t708, t709, t710, t711⟩ : S47)]) := ⟨_, rfl⟩
            replace H : (impl_LogEven.l0 k1 y714 l0 (l0.length : Int) (wrap64 (x16_1 + 1))) = some (r1, r2) := by first | (rw [hy714]; with_reducible exact H) | (have H2_ := (Option.bind_some _ _).symm.trans H; rw [hy714]; with_reducible exact H2_) | (have H2_ := (Option.bind_some _ _).symm.trans H; with_reducible exact H2_) | with_reducible exact H | (rw [hy714]; exact H) | exact H
            have Ny714 := Aside0.mk hy714
            clear hy714
            have H' := Aside0.mk H
            clear H
            have p692 : 0 ≤ (x16_1 : Int) := td
            have q692 : x16_1 < (l0.length : Int) := td
            obtain ⟨ad692, A692_5, c692_5, e692, hx692_0, hx692_1, hx692_2, hx692_3, hx692_4, hx692_5, hl692_5, hi692_5⟩ := at_T47 HR0.out x16_1 p692 q692
            cases e692
            replace hx692_0 := tcl HB hx692_0
            replace hx692_1 := tcl HB hx692_1
            replace hx692_2 := tcl HB hx692_2
            replace hx692_3 := tcl HB hx692_3
            replace hx692_4 := tcl HB hx692_4
            replace hx692_5 := tcl HB hx692_5
            have HR692_5 := Aside0.mk hi692_5
            have HC692_5 := Aside0.mk hl692_5
            clear hi692_5 hl692_5
            replace p692 := eq_true p692
            replace q692 := eq_true q692
            try go_wp2_with (first | ((with_reducible refine gate_dst (N := 6) rfl ?_); refine box_event ?hg (N := 6) ?hd (cs := #[.bool false, .bool false, .int .i64 0, .int .i64 0, .int .i64 0, .slice none 0 0]) (t := 47) ?hr ?_; (case hd => rfl); (case hg => rfl); (case hr => first | (go_simp; done) | (go_simp; rfl)); intro gb693 hg w39 hbox hb; replace HO_4 := tNB HO_4 hg hb; have BK693 := Aside0.mk (hbox); have GW693 := tge HB hg; have GE693 := tge HB hg; replace HB := tBs HB hb; clear hb hbox hg; obtain ⟨hcz40_0, hcz40_1, hcz40_2, hcz40_3, hcz40_4, hcz40_5, hfz40_0, hfz40_1, hfz40_2, hfz40_3, hfz40_4, hfz40_5⟩ := cells6 BK693.out; obtain ⟨Ao41, co41, eo41⟩ := Kd.N_slice HO_4.out; subst eo41))
            have n0_ : Aside0 (Kd.N k47 47 ((((((w39.setCell ⟨gb693, 0, none⟩ (.bool ((rd_T47 l0 x16_1).f0))).setCell ⟨gb693, 1, none⟩ (.bool ((rd_T47 l0 x16_1).f1))).setCell ⟨gb693, 2, none⟩ (.int .i64 ((rd_T47 l0 x16_1).f2))).setCell ⟨gb693, 3, none⟩ (.int .i64 ((rd_T47 l0 x16_1).f3))).setCell ⟨gb693, 4, none⟩ (.int .i64 ((rd_T47 l0 x16_1).f4))).setCell ⟨gb693, 5, none⟩ (.slice A692_5 ((rd_T47 l0 x16_1).f5).length c692_5)) w.heap.size (fun k_ => (w.heap.size ≤ k_) ∧ k_ ≠ gb693) (.slice Ao41 x4_1.length co41) x4_1) := ⟨tNm HO_4.out⟩
            have n1_ : Aside0 (((((((w39.setCell ⟨gb693, 0, none⟩ (.bool ((rd_T47 l0 x16_1).f0))).setCell ⟨gb693, 1, none⟩ (.bool ((rd_T47 l0 x16_1).f1))).setCell ⟨gb693, 2, none⟩ (.int .i64 ((rd_T47 l0 x16_1).f2))).setCell ⟨gb693, 3, none⟩ (.int .i64 ((rd_T47 l0 x16_1).f3))).setCell ⟨gb693, 4, none⟩ (.int .i64 ((rd_T47 l0 x16_1).f4))).setCell ⟨gb693, 5, none⟩ (.slice A692_5 ((rd_T47 l0 x16_1).f5).length c692_5)).heap[gb693]? = some (.cells #[.bool ((rd_T47 l0 x16_1).f0), .bool ((rd_T47 l0 x16_1).f1), .int .i64 ((rd_T47 l0 x16_1).f2), .int .i64 ((rd_T47 l0 x16_1).f3), .int .i64 ((rd_T47 l0 x16_1).f4), .slice A692_5 ((rd_T47 l0 x16_1).f5).length c692_5] 47 (0, 0))) := ⟨tP BK693.out⟩
            have n2_ : Aside0 (Below w.heap.size w ((((((w39.setCell ⟨gb693, 0, none⟩ (.bool ((rd_T47 l0 x16_1).f0))).setCell ⟨gb693, 1, none⟩ (.bool ((rd_T47 l0 x16_1).f1))).setCell ⟨gb693, 2, none⟩ (.int .i64 ((rd_T47 l0 x16_1).f2))).setCell ⟨gb693, 3, none⟩ (.int .i64 ((rd_T47 l0 x16_1).f3))).setCell ⟨gb693, 4, none⟩ (.int .i64 ((rd_T47 l0 x16_1).f4))).setCell ⟨gb693, 5, none⟩ (.slice A692_5 ((rd_T47 l0 x16_1).f5).length c692_5))) := ⟨zb⟩
            (try clear HO_4)
            (try clear BK693)
            (try clear HB)
            generalize ((((((w39.setCell ⟨gb693, 0, none⟩ (.bool ((rd_T47 l0 x16_1).f0))).setCell ⟨gb693, 1, none⟩ (.bool ((rd_T47 l0 x16_1).f1))).setCell ⟨gb693, 2, none⟩ (.int .i64 ((rd_T47 l0 x16_1).f2))).setCell ⟨gb693, 3, none⟩ (.int .i64 ((rd_T47 l0 x16_1).f3))).setCell ⟨gb693, 4, none⟩ (.int .i64 ((rd_T47 l0 x16_1).f4))).setCell ⟨gb693, 5, none⟩ (.slice A692_5 ((rd_T47 l0 x16_1).f5).length c692_5)) = w42 at n0_ n1_ n2_ ⊢
            have HO_4 := n0_
            have BK693 := n1_
            have HB := n2_
            clear n0_ n1_ n2_
            replace HO_4 := Aside0.mk (Kd.N_drew HO_4.out)
            replace BK693 := Aside0.mk (blk_drew BK693.out)
            replace HB := Aside0.mk (below_drew1 HB.out)
            have p694 : 0 ≤ ((ji11) : Int) := td
            have q694 : (ji11) < (x4_1.length : Int) := td
            obtain ⟨ad694, A694_5, c694_5, e694, hx694_0, hx694_1, hx694_2, hx694_3, hx694_4, hx694_5, hl694_5, hi694_5⟩ := at_T47 (Kd.N_reads' HO_4.out).2.2 (ji11) p694 q694
            cases e694
            obtain ⟨ce694, hce694, hMe694, hcc694⟩ := Kd.N_get HO_4.out z47 (ji11) p694 (by first | exact q694 | exact td | (have e_ := (Kd.N_reads' HO_4.out).1; omega))
            obtain ⟨ua694_5, uc694_5, rfl, ul694_5, ge694_5⟩ := k47_openF hMe694
            have hv694_5 := hcc694 5 _ rfl
            rw [add_field _ _ 5 (by omega)] at hv694_5
            replace hv694_5 := Option.some.inj (hv694_5.symm.trans hx694_5)
            injection hv694_5 with hva_ hvn_ hvc_
            rw [hva_] at ge694_5
            rw [hvc_] at ul694_5
            have HL694_5 := Aside0.mk (show Kd.V k33 33 _ w.heap.size _ _ ((rd_T47 x4_1 (ji11)).f5) from Kd.V_mk ul694_5 ge694_5)
            clear hva_ hvn_ hvc_ ge694_5 ul694_5
            clear hcc694 hce694
            have HR694_5 := Aside0.mk hi694_5
            have HC694_5 := Aside0.mk hl694_5
            clear hi694_5 hl694_5
            replace p694 := eq_true p694
            replace q694 := eq_true q694
            refine start_ (n := 13) (S := fun w' => w'.cell? ⟨gb693, 0, none⟩ = some (.bool ((rd_T47 l0 x16_1).f0)) ∧ w'.cell? ⟨gb693, 1, none⟩ = some (.bool ((rd_T47 l0 x16_1).f1)) ∧ w'.cell? ⟨gb693, 2, none⟩ = some (.int .i64 ((rd_T47 l0 x16_1).f2)) ∧ w'.cell? ⟨gb693, 3, none⟩ = some (.int .i64 ((rd_T47 l0 x16_1).f3)) ∧ w'.cell? ⟨gb693, 4, none⟩ = some (.int .i64 ((rd_T47 l0 x16_1).f4)) ∧ w'.cell? ⟨gb693, 5, none⟩ = some (.slice A692_5 ((rd_T47 l0 x16_1).f5).length c692_5) ∧ w'.cell? (ad694.add (((ji11)).toNat * 6)) = some (.bool ((rd_T47 x4_1 (ji11)).f0)) ∧ w'.cell? ⟨(ad694.add (((ji11)).toNat * 6)).block, (ad694.add (((ji11)).toNat * 6)).off + 1, none⟩ = some (.bool ((rd_T47 x4_1 (ji11)).f1)) ∧ w'.cell? ⟨(ad694.add (((ji11)).toNat * 6)).block, (ad694.add (((ji11)).toNat * 6)).off + 2, none⟩ = some (.int .i64 ((rd_T47 x4_1 (ji11)).f2)) ∧ w'.cell? ⟨(ad694.add (((ji11)).toNat * 6)).block, (ad694.add (((ji11)).toNat * 6)).off + 3, none⟩ = some (.int .i64 ((rd_T47 x4_1 (ji11)).f3)) ∧ w'.cell? ⟨(ad694.add (((ji11)).toNat * 6)).block, (ad694.add (((ji11)).toNat * 6)).off + 4, none⟩ = some (.int .i64 ((rd_T47 x4_1 (ji11)).f4)) ∧ w'.cell? ⟨(ad694.add (((ji11)).toNat * 6)).block, (ad694.add (((ji11)).toNat * 6)).off + 5, none⟩ = some (.slice A694_5 ((rd_T47 x4_1 (ji11)).f5).length c694_5)) (ds := []) #[false, false, false, false, false, false, false, false, false, false, false, false, false] (by kernel_rfl) rfl rfl ⟨(blk_cell BK693.out 0).trans rfl, (blk_cell BK693.out 1).trans rfl, (blk_cell BK693.out 2).trans rfl, (blk_cell BK693.out 3).trans rfl, (blk_cell BK693.out 4).trans rfl, (blk_cell BK693.out 5).trans rfl, hx694_0, hx694_1, hx694_2, hx694_3, hx694_4, hx694_5⟩ (fun hHeld => ?_); refine with_tabW impl_LogEven.tab9 impl_LogEven.bits9 (fun HT_ HW_ => ?_)
            generalize w42.drew = w43 at HO_4 BK693 HB HL694_5 HR694_5 hx694_0 hx694_1 hx694_2 hx694_3 hx694_4 hx694_5 hHeld ⊢
            refine tpu 0 (some 25) #[true, false, false, false, false, false, false, false, false, false, false, false, false] ?_
            refine tpu 1 (some 26) #[true, true, false, false, false, false, false, false, false, false, false, false, false] ?_
            refine tpu 2 (some 27) #[true, true, true, false, false, false, false, false, false, false, false, false, false] ?_
            refine tpu 3 (some 28) #[true, true, true, true, false, false, false, false, false, false, false, false, false] ?_
            refine tta 4 (some 29) #[true, true, true, true, true, false, false, false, false, false, false, false, false] hHeld ?_ (hy := by rintro w' ⟨s0, s1, s2, s3, s4, s5, s6, s7, s8, s9, s10, s11⟩; go_simp; with_reducible rfl)
            refine tta 5 (some 30) #[true, true, true, true, true, true, false, false, false, false, false, false, false] hHeld ?_ (hy := by rintro w' ⟨s0, s1, s2, s3, s4, s5, s6, s7, s8, s9, s10, s11⟩; go_simp; with_reducible rfl)
            refine join_ (σ := Value × Nat) 2 #[true, true, true, true, true, true, true, true, true, true, true, false, false] (fun s_ => [(31, .tuple #[.agg #[.bool t695, .bool t696, .int .i64 t697, .int .i64 t698, .int .i64 t699, s_.1], .bool false]), (8, .pointer (some ⟨s_.2, 0, none⟩)), (24, .tuple #[.agg #[.bool t695, .bool t696, .int .i64 t697, .int .i64 t698, .int .i64 t699, s_.1], .bool false]), (32, .agg #[.bool t695, .bool t696, .int .i64 t697, .int .i64 t698, .int .i64 t699, s_.1]), (33, .bool false)]) (fun s_ w' => (w'.cell? ⟨gb693, 0, none⟩ = some (.bool ((rd_T47 l0 x16_1).f0)) ∧ w'.cell? ⟨gb693, 1, none⟩ = some (.bool ((rd_T47 l0 x16_1).f1)) ∧ w'.cell? ⟨gb693, 2, none⟩ = some (.int .i64 ((rd_T47 l0 x16_1).f2)) ∧ w'.cell? ⟨gb693, 3, none⟩ = some (.int .i64 ((rd_T47 l0 x16_1).f3)) ∧ w'.cell? ⟨gb693, 4, none⟩ = some (.int .i64 ((rd_T47 l0 x16_1).f4)) ∧ w'.cell? ⟨gb693, 5, none⟩ = some (.slice A692_5 ((rd_T47 l0 x16_1).f5).length c692_5) ∧ w'.cell? (ad694.add (((ji11)).toNat * 6)) = some (.bool ((rd_T47 x4_1 (ji11)).f0)) ∧ w'.cell? ⟨(ad694.add (((ji11)).toNat * 6)).block, (ad694.add (((ji11)).toNat * 6)).off + 1, none⟩ = some (.bool ((rd_T47 x4_1 (ji11)).f1)) ∧ w'.cell? ⟨(ad694.add (((ji11)).toNat * 6)).block, (ad694.add (((ji11)).toNat * 6)).off + 2, none⟩ = some (.int .i64 ((rd_T47 x4_1 (ji11)).f2)) ∧ w'.cell? ⟨(ad694.add (((ji11)).toNat * 6)).block, (ad694.add (((ji11)).toNat * 6)).off + 3, none⟩ = some (.int .i64 ((rd_T47 x4_1 (ji11)).f3)) ∧ w'.cell? ⟨(ad694.add (((ji11)).toNat * 6)).block, (ad694.add (((ji11)).toNat * 6)).off + 4, none⟩ = some (.int .i64 ((rd_T47 x4_1 (ji11)).f4)) ∧ w'.cell? ⟨(ad694.add (((ji11)).toNat * 6)).block, (ad694.add (((ji11)).toNat * 6)).off + 5, none⟩ = some (.slice A694_5 ((rd_T47 x4_1 (ji11)).f5).length c694_5)) ∧ (Kd.V k33 33 w' w.heap.size (fun k_ => (w.heap.size ≤ k_) ∧ some k_ ≠ (s_.1 : Value).ownBlock ∧ some k_ ≠ (.slice (some ad694) x4_1.length co41 : Value).ownBlock ∧ k_ ≠ gb693 ∧ k_ ≠ s_.2) (.slice A694_5 ((rd_T47 x4_1 (ji11)).f5).length c694_5) ((rd_T47 x4_1 (ji11)).f5)) ∧ (Kd.N k33 33 w' w.heap.size (fun k_ => (w.heap.size ≤ k_) ∧ some k_ ≠ (.slice (some ad694) x4_1.length co41 : Value).ownBlock ∧ k_ ≠ gb693 ∧ k_ ≠ s_.2) s_.1 t700) ∧ (Kd.N k47 47 w' w.heap.size (fun k_ => (w.heap.size ≤ k_) ∧ some k_ ≠ (s_.1 : Value).ownBlock ∧ k_ ≠ gb693 ∧ k_ ≠ s_.2) (.slice (some ad694) x4_1.length co41) x4_1) ∧ (w'.heap[gb693]? = some (.cells #[.bool ((rd_T47 l0 x16_1).f0), .bool ((rd_T47 l0 x16_1).f1), .int .i64 ((rd_T47 l0 x16_1).f2), .int .i64 ((rd_T47 l0 x16_1).f3), .int .i64 ((rd_T47 l0 x16_1).f4), .slice A692_5 ((rd_T47 l0 x16_1).f5).length c692_5] 47 (0, 0))) ∧ (w'.heap[s_.2]? = some (.cells #[.bool false, .bool false, .int .i64 0, .int .i64 0, .int .i64 0, .slice none 0 0] 47 (0, 0))) ∧ (w.heap.size ≤ s_.2) ∧ (w.heap.size ≤ s_.2) ∧ (gb693 ≠ s_.2) ∧ (s_.2 ≠ gb693) ∧ (Below w.heap.size w w')) ?_ ?_
            rotate_left
            ·intro hCont
             refine two_ (i := 6) (j := 10) (Ni := some 31) (Nj := some 8) #[true, true, true, true, true, true, true, false, false, false, false, false, false] #[true, true, true, true, true, true, false, false, false, false, true, false, false] rfl rfl rfl rfl (two_of HT_.out (by kernel_rfl)) (by decide) (by decide) (fun K hK => ?_) (fun K hK => ?_)
             ·skip
              refine goes_ Tryd.func28 (by kernel_rfl) rfl #[.agg #[.bool ((rd_T47 x4_1 (ji11)).f0), .bool ((rd_T47 x4_1 (ji11)).f1), .int .i64 ((rd_T47 x4_1 (ji11)).f2), .int .i64 ((rd_T47 x4_1 (ji11)).f3), .int .i64 ((rd_T47 x4_1 (ji11)).f4), .slice A694_5 ((rd_T47 x4_1 (ji11)).f5).length c694_5], .agg #[.bool ((rd_T47 l0 x16_1).f0), .bool ((rd_T47 l0 x16_1).f1), .int .i64 ((rd_T47 l0 x16_1).f2), .int .i64 ((rd_T47 l0 x16_1).f3), .int .i64 ((rd_T47 l0 x16_1).f4), .slice A692_5 ((rd_T47 l0 x16_1).f5).length c692_5]] (by rfl) rfl rfl (by (try simp only [List.map_toArray, List.map_cons, List.map_nil]); first | done | (simp only [hji11]; rfl) | rfl | (simp only [List.length_drop, List.length_take]; rfl)) ?_
              with_reducible refine (impl_BatchJoin.calls (hE := ?sideE) k1 ((rd_T47 x4_1 (ji11)).f0) ((rd_T47 x4_1 (ji11)).f1) ((rd_T47 x4_1 (ji11)).f2) ((rd_T47 x4_1 (ji11)).f3) ((rd_T47 x4_1 (ji11)).f4) _ _ ((rd_T47 x4_1 (ji11)).f5) ((rd_T47 l0 x16_1).f0) ((rd_T47 l0 x16_1).f1) ((rd_T47 l0 x16_1).f2) ((rd_T47 l0 x16_1).f3) ((rd_T47 l0 x16_1).f4) _ _ ((rd_T47 l0 x16_1).f5) t695 t696 t697 t698 t699 t700 false _ ?side1 ?side2 ?side3 ?side4 A14.out).mono ?_
              case sideE => exact ErrOk.below (HE.out.sub (by decide)) zb
              (case side1 => exact tC (tC HR694_5.out))
              (case side2 => exact HC694_5.out)
              (case side3 => exact tC (Kd.C_below HR692_5.out HB.out))
              (case side4 => exact HC692_5.out)
              rintro e w44 ⟨v701, rfl, ho0, hb⟩
              have HS6_ := tcb hb hHeld.2.2.2.2.2.2.1
              have HS7_ := tcb hb hHeld.2.2.2.2.2.2.2.1
              have HS8_ := tcb hb hHeld.2.2.2.2.2.2.2.2.1
              have HS9_ := tcb hb hHeld.2.2.2.2.2.2.2.2.2.1
              have HS10_ := tcb hb hHeld.2.2.2.2.2.2.2.2.2.2.1
              have HS11_ := tcb hb hHeld.2.2.2.2.2.2.2.2.2.2.2
              refine ⟨_, rfl, ?_⟩
              replace HL694_5 := tVe HL694_5 ho0 hb
              have HO702 := Aside0.mk (Kd.N_lower (Kd.N_mono (ok' := fun k_ => (w.heap.size ≤ k_) ∧ some k_ ≠ (.slice (some ad694) x4_1.length co41 : Value).ownBlock ∧ k_ ≠ gb693) ho0 (fun k_ hk_ => ⟨(Nat.le_trans (below_size zb) hk_), (tfr HO_4 k_ hk_), (tfB BK693 k_ hk_)⟩)) (below_size zb))
              replace HO_4 := tNe HO_4 ho0 hb
              replace BK693 := tBb BK693 hb
              replace HR694_5 := tCb HR694_5 hb
              replace HB := tBs HB hb
              (try clear hb)
              (try clear hb2)
              (try clear hk)
              (try clear hi)
              (try clear ho0)
              refine hK.out _ _ ⟨(blk_cell BK693.out 0).trans rfl, (blk_cell BK693.out 1).trans rfl, (blk_cell BK693.out 2).trans rfl, (blk_cell BK693.out 3).trans rfl, (blk_cell BK693.out 4).trans rfl, (blk_cell BK693.out 5).trans rfl, HS6_, HS7_, HS8_, HS9_, HS10_, HS11_⟩ (fun hHeld => ?_)
              clear hK K
              refine tnm (some 31) ?_
              refine tpu 7 (some 24) #[true, true, true, true, true, true, true, true, false, false, false, false, false] ?_
              refine tpu 8 (some 32) #[true, true, true, true, true, true, true, true, true, false, false, false, false] ?_
              refine tpu 9 (some 33) #[true, true, true, true, true, true, true, true, true, true, false, false, false] ?_
              refine one_ (i := 10) (N := some 8) #[true, true, true, true, true, true, true, true, true, true, true, false, false] rfl rfl (one_of HT_.out (by kernel_rfl)) (by decide) (fun K hK => ?_)
              refine box_step ?hg (N := 8) ?hd (cs := #[.bool false, .bool false, .int .i64 0, .int .i64 0, .int .i64 0, .slice none 0 0]) (t := 47) ?hr ?_; (case hd => rfl); (case hg => rfl); (case hr => first | (go_simp; done) | (go_simp; rfl))
              intro gb704 hg w45 hbox hb
              have HS6_ := tcb hb hHeld.2.2.2.2.2.2.1
              have HS7_ := tcb hb hHeld.2.2.2.2.2.2.2.1
              have HS8_ := tcb hb hHeld.2.2.2.2.2.2.2.2.1
              have HS9_ := tcb hb hHeld.2.2.2.2.2.2.2.2.2.1
              have HS10_ := tcb hb hHeld.2.2.2.2.2.2.2.2.2.2.1
              have HS11_ := tcb hb hHeld.2.2.2.2.2.2.2.2.2.2.2
              replace HO_4 := tNB HO_4 hg hb
              replace HL694_5 := tVB HL694_5 hg hb
              replace HO702 := tNB HO702 hg hb
              replace HR694_5 := tCb HR694_5 hb
              have BK704 := Aside0.mk (hbox)
              have GW704 := tge HB hg
              have GE704 := tge HB hg
              replace HB := tBs HB hb
              have NB693_704 := tlt BK693 hg
              have NB704_693 := tgt BK693 hg
              replace BK693 := tBb BK693 hb
              clear hb hbox hg
              refine hK.out _ _ ⟨(blk_cell BK693.out 0).trans rfl, (blk_cell BK693.out 1).trans rfl, (blk_cell BK693.out 2).trans rfl, (blk_cell BK693.out 3).trans rfl, (blk_cell BK693.out 4).trans rfl, (blk_cell BK693.out 5).trans rfl, HS6_, HS7_, HS8_, HS9_, HS10_, HS11_⟩ (fun hHeld => ?_)
              clear hK K
              refine tnm (some 8) ?_
              exact tnx (hCont (v701, gb704) _ ⟨hHeld, (tVm HL694_5.out), (tNm HO702.out), (tNm HO_4.out), (tH BK693.out), (tH BK704.out), GW704.out, GE704.out, NB693_704.out, NB704_693.out, zb⟩)
             ·skip
              refine box_step ?hg (N := 8) ?hd (cs := #[.bool false, .bool false, .int .i64 0, .int .i64 0, .int .i64 0, .slice none 0 0]) (t := 47) ?hr ?_; (case hd => rfl); (case hg => rfl); (case hr => first | (go_simp; done) | (go_simp; rfl))
              intro gb704 hg w44 hbox hb
              have HS6_ := tcb hb hHeld.2.2.2.2.2.2.1
              have HS7_ := tcb hb hHeld.2.2.2.2.2.2.2.1
              have HS8_ := tcb hb hHeld.2.2.2.2.2.2.2.2.1
              have HS9_ := tcb hb hHeld.2.2.2.2.2.2.2.2.2.1
              have HS10_ := tcb hb hHeld.2.2.2.2.2.2.2.2.2.2.1
              have HS11_ := tcb hb hHeld.2.2.2.2.2.2.2.2.2.2.2
              replace HO_4 := tNB HO_4 hg hb
              replace HL694_5 := tVB HL694_5 hg hb
              replace HR694_5 := tCb HR694_5 hb
              have BK704 := Aside0.mk (hbox)
              have GW704 := tge HB hg
              have GE704 := tge HB hg
              replace HB := tBs HB hb
              have NB693_704 := tlt BK693 hg
              have NB704_693 := tgt BK693 hg
              replace BK693 := tBb BK693 hb
              clear hb hbox hg
              refine hK.out _ _ ⟨(blk_cell BK693.out 0).trans rfl, (blk_cell BK693.out 1).trans rfl, (blk_cell BK693.out 2).trans rfl, (blk_cell BK693.out 3).trans rfl, (blk_cell BK693.out 4).trans rfl, (blk_cell BK693.out 5).trans rfl, HS6_, HS7_, HS8_, HS9_, HS10_, HS11_⟩ (fun hHeld => ?_)
              clear hK K
              refine tnm (some 8) ?_
              refine one_ (i := 6) (N := some 31) #[true, true, true, true, true, true, true, false, false, false, true, false, false] rfl rfl (one_of HT_.out (by kernel_rfl)) (by decide) (fun K hK => ?_)
              refine goes_ Tryd.func28 (by kernel_rfl) rfl #[.agg #[.bool ((rd_T47 x4_1 (ji11)).f0), .bool ((rd_T47 x4_1 (ji11)).f1), .int .i64 ((rd_T47 x4_1 (ji11)).f2), .int .i64 ((rd_T47 x4_1 (ji11)).f3), .int .i64 ((rd_T47 x4_1 (ji11)).f4), .slice A694_5 ((rd_T47 x4_1 (ji11)).f5).length c694_5], .agg #[.bool ((rd_T47 l0 x16_1).f0), .bool ((rd_T47 l0 x16_1).f1), .int .i64 ((rd_T47 l0 x16_1).f2), .int .i64 ((rd_T47 l0 x16_1).f3), .int .i64 ((rd_T47 l0 x16_1).f4), .slice A692_5 ((rd_T47 l0 x16_1).f5).length c692_5]] (by rfl) rfl rfl (by (try simp only [List.map_toArray, List.map_cons, List.map_nil]); first | done | (simp only [hji11]; rfl) | rfl | (simp only [List.length_drop, List.length_take]; rfl)) ?_
              with_reducible refine (impl_BatchJoin.calls (hE := ?sideE) k1 ((rd_T47 x4_1 (ji11)).f0) ((rd_T47 x4_1 (ji11)).f1) ((rd_T47 x4_1 (ji11)).f2) ((rd_T47 x4_1 (ji11)).f3) ((rd_T47 x4_1 (ji11)).f4) _ _ ((rd_T47 x4_1 (ji11)).f5) ((rd_T47 l0 x16_1).f0) ((rd_T47 l0 x16_1).f1) ((rd_T47 l0 x16_1).f2) ((rd_T47 l0 x16_1).f3) ((rd_T47 l0 x16_1).f4) _ _ ((rd_T47 l0 x16_1).f5) t695 t696 t697 t698 t699 t700 false _ ?side1 ?side2 ?side3 ?side4 A14.out).mono ?_
              case sideE => exact ErrOk.below (HE.out.sub (by decide)) zb
              (case side1 => exact tC (tC HR694_5.out))
              (case side2 => exact HC694_5.out)
              (case side3 => exact tC (Kd.C_below HR692_5.out HB.out))
              (case side4 => exact HC692_5.out)
              rintro e w45 ⟨v701, rfl, ho0, hb⟩
              have HS6_ := tcb hb hHeld.2.2.2.2.2.2.1
              have HS7_ := tcb hb hHeld.2.2.2.2.2.2.2.1
              have HS8_ := tcb hb hHeld.2.2.2.2.2.2.2.2.1
              have HS9_ := tcb hb hHeld.2.2.2.2.2.2.2.2.2.1
              have HS10_ := tcb hb hHeld.2.2.2.2.2.2.2.2.2.2.1
              have HS11_ := tcb hb hHeld.2.2.2.2.2.2.2.2.2.2.2
              refine ⟨_, rfl, ?_⟩
              replace HL694_5 := tVe HL694_5 ho0 hb
              have HO702 := Aside0.mk (Kd.N_lower (Kd.N_mono (ok' := fun k_ => (w.heap.size ≤ k_) ∧ some k_ ≠ (.slice (some ad694) x4_1.length co41 : Value).ownBlock ∧ k_ ≠ gb693 ∧ k_ ≠ gb704) ho0 (fun k_ hk_ => ⟨(Nat.le_trans (below_size zb) hk_), (tfr HO_4 k_ hk_), (tfB BK693 k_ hk_), (tfB BK704 k_ hk_)⟩)) (below_size zb))
              replace HO_4 := tNe HO_4 ho0 hb
              replace BK693 := tBb BK693 hb
              replace HR694_5 := tCb HR694_5 hb
              replace BK704 := tBb BK704 hb
              replace HB := tBs HB hb
              (try clear hb)
              (try clear hb2)
              (try clear hk)
              (try clear hi)
              (try clear ho0)
              refine hK.out _ _ ⟨(blk_cell BK693.out 0).trans rfl, (blk_cell BK693.out 1).trans rfl, (blk_cell BK693.out 2).trans rfl, (blk_cell BK693.out 3).trans rfl, (blk_cell BK693.out 4).trans rfl, (blk_cell BK693.out 5).trans rfl, HS6_, HS7_, HS8_, HS9_, HS10_, HS11_⟩ (fun hHeld => ?_)
              clear hK K
              refine tnm (some 31) ?_
              refine tpu 7 (some 24) #[true, true, true, true, true, true, true, true, false, false, true, false, false] ?_
              refine tpu 8 (some 32) #[true, true, true, true, true, true, true, true, true, false, true, false, false] ?_
              refine tpu 9 (some 33) #[true, true, true, true, true, true, true, true, true, true, true, false, false] ?_
              exact tnx (hCont (v701, gb704) _ ⟨hHeld, (tVm HL694_5.out), (tN HO702.out), (tNm HO_4.out), (tH BK693.out), (tH BK704.out), GW704.out, GE704.out, NB693_704.out, NB704_693.out, zb⟩)
            rintro ⟨v701, gb704⟩ w46 ⟨hS_, h0_, h1_, h2_, h3_, h4_, h5_, h6_, h7_, h8_, h9_⟩
            have n0_ : Aside0 (Kd.V k33 33 w46 w.heap.size (fun k_ => (w.heap.size ≤ k_) ∧ some k_ ≠ (v701 : Value).ownBlock ∧ some k_ ≠ (.slice (some ad694) x4_1.length co41 : Value).ownBlock ∧ k_ ≠ gb693 ∧ k_ ≠ gb704) (.slice A694_5 ((rd_T47 x4_1 (ji11)).f5).length c694_5) ((rd_T47 x4_1 (ji11)).f5)) := ⟨h0_⟩
            have n1_ : Aside0 (Kd.N k33 33 w46 w.heap.size (fun k_ => (w.heap.size ≤ k_) ∧ some k_ ≠ (.slice (some ad694) x4_1.length co41 : Value).ownBlock ∧ k_ ≠ gb693 ∧ k_ ≠ gb704) v701 t700) := ⟨h1_⟩
            have n2_ : Aside0 (Kd.N k47 47 w46 w.heap.size (fun k_ => (w.heap.size ≤ k_) ∧ some k_ ≠ (v701 : Value).ownBlock ∧ k_ ≠ gb693 ∧ k_ ≠ gb704) (.slice (some ad694) x4_1.length co41) x4_1) := ⟨h2_⟩
            have n3_ : Aside0 (w46.heap[gb693]? = some (.cells #[.bool ((rd_T47 l0 x16_1).f0), .bool ((rd_T47 l0 x16_1).f1), .int .i64 ((rd_T47 l0 x16_1).f2), .int .i64 ((rd_T47 l0 x16_1).f3), .int .i64 ((rd_T47 l0 x16_1).f4), .slice A692_5 ((rd_T47 l0 x16_1).f5).length c692_5] 47 (0, 0))) := ⟨h3_⟩
            have n4_ : Aside0 (w46.heap[gb704]? = some (.cells #[.bool false, .bool false, .int .i64 0, .int .i64 0, .int .i64 0, .slice none 0 0] 47 (0, 0))) := ⟨h4_⟩
            have n5_ : Aside0 (w.heap.size ≤ gb704) := ⟨h5_⟩
            have n6_ : Aside0 (w.heap.size ≤ gb704) := ⟨h6_⟩
            have n7_ : Aside0 (gb693 ≠ gb704) := ⟨h7_⟩
            have n8_ : Aside0 (gb704 ≠ gb693) := ⟨h8_⟩
            have n9_ : Aside0 (Below w.heap.size w w46) := ⟨h9_⟩
            clear HO_4
            clear BK693
            clear HB
            clear h0_ h1_ h2_ h3_ h4_ h5_ h6_ h7_ h8_ h9_
            have HL694_5 := n0_
            have HO702 := n1_
            have HO_4 := n2_
            have BK693 := n3_
            have BK704 := n4_
            have GW704 := n5_
            have GE704 := n6_
            have NB693_704 := n7_
            have NB704_693 := n8_
            have HB := n9_
            clear n0_ n1_ n2_ n3_ n4_ n5_ n6_ n7_ n8_ n9_
            have hHeld : w46.cell? ⟨gb693, 0, none⟩ = some (.bool ((rd_T47 l0 x16_1).f0)) ∧ w46.cell? ⟨gb693, 1, none⟩ = some (.bool ((rd_T47 l0 x16_1).f1)) ∧ w46.cell? ⟨gb693, 2, none⟩ = some (.int .i64 ((rd_T47 l0 x16_1).f2)) ∧ w46.cell? ⟨gb693, 3, none⟩ = some (.int .i64 ((rd_T47 l0 x16_1).f3)) ∧ w46.cell? ⟨gb693, 4, none⟩ = some (.int .i64 ((rd_T47 l0 x16_1).f4)) ∧ w46.cell? ⟨gb693, 5, none⟩ = some (.slice A692_5 ((rd_T47 l0 x16_1).f5).length c692_5) ∧ w46.cell? (ad694.add (((ji11)).toNat * 6)) = some (.bool ((rd_T47 x4_1 (ji11)).f0)) ∧ w46.cell? ⟨(ad694.add (((ji11)).toNat * 6)).block, (ad694.add (((ji11)).toNat * 6)).off + 1, none⟩ = some (.bool ((rd_T47 x4_1 (ji11)).f1)) ∧ w46.cell? ⟨(ad694.add (((ji11)).toNat * 6)).block, (ad694.add (((ji11)).toNat * 6)).off + 2, none⟩ = some (.int .i64 ((rd_T47 x4_1 (ji11)).f2)) ∧ w46.cell? ⟨(ad694.add (((ji11)).toNat * 6)).block, (ad694.add (((ji11)).toNat * 6)).off + 3, none⟩ = some (.int .i64 ((rd_T47 x4_1 (ji11)).f3)) ∧ w46.cell? ⟨(ad694.add (((ji11)).toNat * 6)).block, (ad694.add (((ji11)).toNat * 6)).off + 4, none⟩ = some (.int .i64 ((rd_T47 x4_1 (ji11)).f4)) ∧ w46.cell? ⟨(ad694.add (((ji11)).toNat * 6)).block, (ad694.add (((ji11)).toNat * 6)).off + 5, none⟩ = some (.slice A694_5 ((rd_T47 x4_1 (ji11)).f5).length c694_5) := hS_
            obtain ⟨Ao52, co52, eo52⟩ := Kd.N_slice HO702.out
            (first | subst eo52 | (injection eo52 with f1_ f2_ f3_; have f4_ := f1_.symm; have f5_ := f3_.symm; clear f1_ f2_ f3_; subst f4_; subst f5_))
            refine tnp ?_
            refine one_ (i := 11) (N := none) #[true, true, true, true, true, true, true, true, true, true, true, true, false] rfl rfl (one_of HT_.out (by kernel_rfl)) (by decide) (fun K hK => ?_)
            have hs47 : w46.cell? ⟨gb704, 0, none⟩ = some (.bool false) := (blk_cell BK704.out 0).trans rfl
            have hfs47 := blk_frozen BK704.out 0
            have hns47_0 := NB693_704.out
            have hms47_0 := NB704_693.out
            have hs48 : w46.cell? ⟨gb704, 1, none⟩ = some (.bool false) := (blk_cell BK704.out 1).trans rfl
            have hfs48 := blk_frozen BK704.out 1
            have hns48_0 := NB693_704.out
            have hms48_0 := NB704_693.out
            have hs49 : w46.cell? ⟨gb704, 2, none⟩ = some (.int .i64 0) := (blk_cell BK704.out 2).trans rfl
            have hfs49 := blk_frozen BK704.out 2
            have hns49_0 := NB693_704.out
            have hms49_0 := NB704_693.out
            have hs50 : w46.cell? ⟨gb704, 3, none⟩ = some (.int .i64 0) := (blk_cell BK704.out 3).trans rfl
            have hfs50 := blk_frozen BK704.out 3
            have hns50_0 := NB693_704.out
            have hms50_0 := NB704_693.out
            have hs51 : w46.cell? ⟨gb704, 4, none⟩ = some (.int .i64 0) := (blk_cell BK704.out 4).trans rfl
            have hfs51 := blk_frozen BK704.out 4
            have hns51_0 := NB693_704.out
            have hms51_0 := NB704_693.out
            have hs53 : w46.cell? ⟨gb704, 5, none⟩ = some (.slice none 0 0) := (blk_cell BK704.out 5).trans rfl
            have hfs53 := blk_frozen BK704.out 5
            have hns53_0 := NB693_704.out
            have hms53_0 := NB704_693.out
            refine tsk ?_
            refine hK.out _ _ ⟨(tcg NB693_704.out hHeld.1), (tcg NB693_704.out hHeld.2.1), (tcg NB693_704.out hHeld.2.2.1), (tcg NB693_704.out hHeld.2.2.2.1), (tcg NB693_704.out hHeld.2.2.2.2.1), (tcg NB693_704.out hHeld.2.2.2.2.2.1), (tcg (Kd.own_blk (Kd.N_away HO_4.out (fun _ hk => hk.2.2.2))) hHeld.2.2.2.2.2.2.1), (tcg (Kd.own_blk (Kd.N_away HO_4.out (fun _ hk => hk.2.2.2))) hHeld.2.2.2.2.2.2.2.1), (tcg (Kd.own_blk (Kd.N_away HO_4.out (fun _ hk => hk.2.2.2))) hHeld.2.2.2.2.2.2.2.2.1), (tcg (Kd.own_blk (Kd.N_away HO_4.out (fun _ hk => hk.2.2.2))) hHeld.2.2.2.2.2.2.2.2.2.1), (tcg (Kd.own_blk (Kd.N_away HO_4.out (fun _ hk => hk.2.2.2))) hHeld.2.2.2.2.2.2.2.2.2.2.1), (tcg (Kd.own_blk (Kd.N_away HO_4.out (fun _ hk => hk.2.2.2))) hHeld.2.2.2.2.2.2.2.2.2.2.2)⟩ (fun hHeld => ?_)
            clear hK K
            refine tpu 12 (some 9) #[true, true, true, true, true, true, true, true, true, true, true, true, true] ?_
            refine done_ (done_of HT_.out (by kernel_rfl)) ?_
            have hnb54 := NB693_704.out
            have hnc54 := NB704_693.out
            obtain ⟨hcz55_0, hcz55_1, hcz55_2, hcz55_3, hcz55_4, hcz55_5, hfz55_0, hfz55_1, hfz55_2, hfz55_3, hfz55_4, hfz55_5⟩ := cells6 BK693.out
            try go_wp2_with (first | ((with_reducible refine gate_callee (f := 35) rfl ?_); refine goesL_ (some 42) rfl rfl Tryd.func35 (by kernel_rfl) rfl #[.agg #[.bool ((rd_T47 l0 x16_1).f0), .bool ((rd_T47 l0 x16_1).f1), .int .i64 ((rd_T47 l0 x16_1).f2), .int .i64 ((rd_T47 l0 x16_1).f3), .int .i64 ((rd_T47 l0 x16_1).f4), .slice A692_5 ((rd_T47 l0 x16_1).f5).length c692_5]] rfl tq ?_; (with_reducible refine (impl_Batch_copyOf.calls k1 ((rd_T47 l0 x16_1).f0) ((rd_T47 l0 x16_1).f1) ((rd_T47 l0 x16_1).f2) ((rd_T47 l0 x16_1).f3) ((rd_T47 l0 x16_1).f4) _ _ ((rd_T47 l0 x16_1).f5) t706 t707 t708 t709 t710 t711 _ ?side1 ?side2 A37.out).mono ?_); (case side1 => exact Kd.C_below HR692_5.out zb); (case side2 => exact HC692_5.out); rintro e w56 ⟨v712, rfl, ho0, hb⟩; have u_v712 := tsv Tryd.prog v712 ho0; refine ⟨_, rfl, ?_⟩; replace HL694_5 := tVe HL694_5 ho0 hb; have HO713 := Aside0.mk (Kd.N_lower (Kd.N_mono (ok' := fun k_ => (w.heap.size ≤ k_) ∧ some k_ ≠ (.slice (some ad694) x4_1.length co41 : Value).ownBlock ∧ some k_ ≠ (.slice Ao52 t700.length co52 : Value).ownBlock ∧ k_ ≠ gb693 ∧ k_ ≠ gb704) (Kd.S_N (Kd.S_bound ho0)) (fun k_ hk_ => ⟨(Nat.le_trans (below_size zb) hk_.2.1), (tfr HO_4 k_ hk_.2.1), (tfr HO702 k_ hk_.2.1), (tfB BK693 k_ hk_.2.1), (tfB BK704 k_ hk_.2.1)⟩)) (below_size zb)); replace HO_4 := tNe HO_4 ho0 hb; replace HO702 := tNe HO702 ho0 hb; replace BK693 := tBb BK693 hb; replace BK704 := tBp (o' := .cells #[.bool t695, .bool t696, .int .i64 t697, .int .i64 t698, .int .i64 t699, .slice Ao52 t700.length co52] 47 (0, 0)) BK704 hb; replace HB := tBs HB hb; (try clear hb); (try clear hb2); (try clear hk); (try clear hi); (try clear ho0); obtain ⟨Ao58, co58, eo58⟩ := Kd.N_slice HO713.out; subst eo58) | ((with_reducible refine gate_builtin (b := .append) (xs := #[.tmp 40, .tmp 43]) rfl ?_); at_builtin; refine Kd.N_append k47 (w0 := w) w.heap.size rfl (.tmp 40) (.tmp 43) 23 47 (.agg #[(.bool false), (.bool false), (.int .i64 0), (.int .i64 0), (.int .i64 0), (.slice none 0 0)]) 56 rfl Tryd.underlying23 info47 rfl (by decide) (by omega) (.slice (some ad694) x4_1.length co41) x4_1 (⟨t706, t707, t708, t709, t710, t711⟩ : S47) [.bool t706, .bool t707, .int .i64 t708, .int .i64 t709, .int .i64 t710, .slice Ao58 t711.length co58] (fun k_ => (w.heap.size ≤ k_) ∧ some k_ ≠ (.slice Ao52 t700.length co52 : Value).ownBlock ∧ k_ ≠ gb693 ∧ k_ ≠ gb704) (fun k_ => ((fun k_ => (w.heap.size ≤ k_) ∧ some k_ ≠ (.slice Ao52 t700.length co52 : Value).ownBlock ∧ k_ ≠ gb693 ∧ k_ ≠ gb704)) k_ ∧ some k_ ≠ (.slice (some ad694) x4_1.length co41 : Value).ownBlock) rfl rfl ?aP (fun _ hk => hk) ?aF ?aO ?aB ?aS ?aL ?_; (case aP => exact (k47_mkF _ _ (⟨t706, t707, t708, t709, t710, t711⟩ : S47) (Kd.N_reads' (Kd.N_mono (ok' := (fun k_ => ((fun k_ => (w.heap.size ≤ k_) ∧ some k_ ≠ (.slice Ao52 t700.length co52 : Value).ownBlock ∧ k_ ≠ gb693 ∧ k_ ≠ gb704)) k_ ∧ some k_ ≠ (.slice (some ad694) x4_1.length co41 : Value).ownBlock)) (HO713.out) (fun k_ hk => ⟨⟨hk.1, ⟨hk.2.2.1, ⟨hk.2.2.2.1, hk.2.2.2.2⟩⟩⟩, hk.2.1⟩))).2.1 (Kd.N_F (Kd.N_mono (ok' := (fun k_ => ((fun k_ => (w.heap.size ≤ k_) ∧ some k_ ≠ (.slice Ao52 t700.length co52 : Value).ownBlock ∧ k_ ≠ gb693 ∧ k_ ≠ gb704)) k_ ∧ some k_ ≠ (.slice (some ad694) x4_1.length co41 : Value).ownBlock)) (HO713.out) (fun k_ hk => ⟨⟨hk.1, ⟨hk.2.2.1, ⟨hk.2.2.2.1, hk.2.2.2.2⟩⟩⟩, hk.2.1⟩))))); (case aB => exact zb); (case aF => exact (fun k_ hk => ⟨(Nat.le_trans (below_size zb) hk), tfr HO702 k_ hk, tfB BK693 k_ hk, tfB BK704 k_ hk⟩)); (case aO => exact (tNm HO_4.out)); (case aS => exact (below_size zb)); (case aL => have := LMc38.out; omega); intro v715 w57 ho hb hg hat; rw [← Ny714.out] at ho; replace BK693 := Aside0.mk (blk_grown (tH BK693.out) hg (Kd.N_away HO_4.out (fun _ hk => hk.1.2.2.1))); replace HL694_5 := Aside0.mk (Kd.V_afterv (ok := (fun k_ => (w.heap.size ≤ k_) ∧ some k_ ≠ (.slice Ao52 t700.length co52 : Value).ownBlock ∧ some k_ ≠ (.slice Ao58 t711.length co58 : Value).ownBlock ∧ k_ ≠ gb693 ∧ k_ ≠ gb704)) (tVm HL694_5.out) hg hat); replace HO702 := Aside0.mk (Kd.N_afterv (ok := (fun k_ => (w.heap.size ≤ k_) ∧ some k_ ≠ (.slice Ao58 t711.length co58 : Value).ownBlock ∧ k_ ≠ gb693 ∧ k_ ≠ gb704)) (tNm HO702.out) hg hat); replace BK704 := Aside0.mk (blk_grown (tH BK704.out) hg (Kd.N_away HO_4.out (fun _ hk => hk.1.2.2.2))); replace HB := Aside0.mk (hb); have HO716 := Aside0.mk (ho); clear HO_4 HO713; clear ho hb hg hat))
            go_roundg k1
            case measure => have := HK1.out; omega
            case rel => exact ⟨(y714), (wrap64 (x16_1 + 1)), tr, H', ⟨by have := HK1.out; omega⟩, ⟨tNm HO716.out⟩, ⟨zb⟩⟩
           ·rw [if_neg c38] at H
            exact absurd H (by simp)
         ·rw [if_neg c13] at H
          exact absurd H (by simp)
        ·rw [if_neg c12] at H
         exact absurd H (by simp)
       ·rw [if_neg c10] at H
        have c10b0 : decide (0 < (x4_1.length : Int)) = false := decide_eq_false c10
        have c10b1 : decide (0 < x4_1.length) = false := decide_eq_false (by omega)
        clear c10
        replace H := tbe H
        obtain ⟨⟨t717, t718, t719, t720, t721, t722⟩, A59, H⟩ := H
        dsimp only at H
        by_cases c60 : x4_1.length < 2513169434916
        ·rw [if_pos c60] at H
         have LMc60 := Aside0.mk c60
         clear c60
         obtain ⟨y725, hy725⟩ : ∃ y_ : List (S47), y_ = (x4_1 ++ [(⟨t717, t718, t719, t720, t721, t722⟩ : S47)]) := ⟨_, rfl⟩
         replace H : (impl_LogEven.l0 k1 y725 l0 (l0.length : Int) (wrap64 (x16_1 + 1))) = some (r1, r2) := by first | (rw [hy725]; with_reducible exact H) | (have H2_ := (Option.bind_some _ _).symm.trans H; rw [hy725]; with_reducible exact H2_) | (have H2_ := (Option.bind_some _ _).symm.trans H; with_reducible exact H2_) | with_reducible exact H | (rw [hy725]; exact H) | exact H
         have Ny725 := Aside0.mk hy725
         clear hy725
         have H' := Aside0.mk H
         clear H
         have p692 : 0 ≤ (x16_1 : Int) := td
         have q692 : x16_1 < (l0.length : Int) := td
         obtain ⟨ad692, A692_5, c692_5, e692, hx692_0, hx692_1, hx692_2, hx692_3, hx692_4, hx692_5, hl692_5, hi692_5⟩ := at_T47 HR0.out x16_1 p692 q692
         cases e692
         replace hx692_0 := tcl HB hx692_0
         replace hx692_1 := tcl HB hx692_1
         replace hx692_2 := tcl HB hx692_2
         replace hx692_3 := tcl HB hx692_3
         replace hx692_4 := tcl HB hx692_4
         replace hx692_5 := tcl HB hx692_5
         have HR692_5 := Aside0.mk hi692_5
         have HC692_5 := Aside0.mk hl692_5
         clear hi692_5 hl692_5
         replace p692 := eq_true p692
         replace q692 := eq_true q692
         go_wp2_with (first | ((with_reducible refine gate_dst (N := 6) rfl ?_); refine box_event ?hg (N := 6) ?hd (cs := #[.bool false, .bool false, .int .i64 0, .int .i64 0, .int .i64 0, .slice none 0 0]) (t := 47) ?hr ?_; (case hd => rfl); (case hg => rfl); (case hr => first | (go_simp; done) | (go_simp; rfl)); intro gb693 hg w61 hbox hb; replace HO_4 := tNB HO_4 hg hb; have BK693 := Aside0.mk (hbox); have GW693 := tge HB hg; have GE693 := tge HB hg; replace HB := tBs HB hb; clear hb hbox hg; obtain ⟨hcz62_0, hcz62_1, hcz62_2, hcz62_3, hcz62_4, hcz62_5, hfz62_0, hfz62_1, hfz62_2, hfz62_3, hfz62_4, hfz62_5⟩ := cells6 BK693.out; obtain ⟨Ao63, co63, eo63⟩ := Kd.N_slice HO_4.out; subst eo63) | ((with_reducible refine gate_callee (f := 35) rfl ?_); refine goesL_ (some 42) rfl rfl Tryd.func35 (by kernel_rfl) rfl #[.agg #[.bool ((rd_T47 l0 x16_1).f0), .bool ((rd_T47 l0 x16_1).f1), .int .i64 ((rd_T47 l0 x16_1).f2), .int .i64 ((rd_T47 l0 x16_1).f3), .int .i64 ((rd_T47 l0 x16_1).f4), .slice A692_5 ((rd_T47 l0 x16_1).f5).length c692_5]] rfl tq ?_; (with_reducible refine (impl_Batch_copyOf.calls k1 ((rd_T47 l0 x16_1).f0) ((rd_T47 l0 x16_1).f1) ((rd_T47 l0 x16_1).f2) ((rd_T47 l0 x16_1).f3) ((rd_T47 l0 x16_1).f4) _ _ ((rd_T47 l0 x16_1).f5) t717 t718 t719 t720 t721 t722 _ ?side1 ?side2 A59.out).mono ?_); (case side1 => exact Kd.C_below HR692_5.out zb); (case side2 => exact HC692_5.out); rintro e w64 ⟨v723, rfl, ho0, hb⟩; have u_v723 := tsv Tryd.prog v723 ho0; refine ⟨_, rfl, ?_⟩; have HO724 := Aside0.mk (Kd.N_lower (Kd.N_mono (ok' := fun k_ => (w.heap.size ≤ k_) ∧ some k_ ≠ (.slice Ao63 x4_1.length co63 : Value).ownBlock ∧ k_ ≠ gb693) (Kd.S_N (Kd.S_bound ho0)) (fun k_ hk_ => ⟨(Nat.le_trans (below_size zb) hk_.2.1), (tfr HO_4 k_ hk_.2.1), (tfB BK693 k_ hk_.2.1)⟩)) (below_size zb)); replace HO_4 := tNe HO_4 ho0 hb; replace BK693 := tBp (o' := .cells #[.bool ((rd_T47 l0 x16_1).f0), .bool ((rd_T47 l0 x16_1).f1), .int .i64 ((rd_T47 l0 x16_1).f2), .int .i64 ((rd_T47 l0 x16_1).f3), .int .i64 ((rd_T47 l0 x16_1).f4), .slice A692_5 ((rd_T47 l0 x16_1).f5).length c692_5] 47 (0, 0)) BK693 hb; replace HB := tBs HB hb; (try clear hb); (try clear hb2); (try clear hk); (try clear hi); (try clear ho0); obtain ⟨Ao66, co66, eo66⟩ := Kd.N_slice HO724.out; subst eo66) | ((with_reducible refine gate_builtin (b := .append) (xs := #[.tmp 40, .tmp 43]) rfl ?_); at_builtin; refine Kd.N_append k47 (w0 := w) w.heap.size rfl (.tmp 40) (.tmp 43) 23 47 (.agg #[(.bool false), (.bool false), (.int .i64 0), (.int .i64 0), (.int .i64 0), (.slice none 0 0)]) 56 rfl Tryd.underlying23 info47 rfl (by decide) (by omega) (.slice Ao63 x4_1.length co63) x4_1 (⟨t717, t718, t719, t720, t721, t722⟩ : S47) [.bool t717, .bool t718, .int .i64 t719, .int .i64 t720, .int .i64 t721, .slice Ao66 t722.length co66] (fun k_ => (w.heap.size ≤ k_) ∧ k_ ≠ gb693) (fun k_ => ((fun k_ => (w.heap.size ≤ k_) ∧ k_ ≠ gb693)) k_ ∧ some k_ ≠ (.slice Ao63 x4_1.length co63 : Value).ownBlock) rfl rfl ?aP (fun _ hk => hk) ?aF ?aO ?aB ?aS ?aL ?_; (case aP => exact (k47_mkF _ _ (⟨t717, t718, t719, t720, t721, t722⟩ : S47) (Kd.N_reads' (Kd.N_mono (ok' := (fun k_ => ((fun k_ => (w.heap.size ≤ k_) ∧ k_ ≠ gb693)) k_ ∧ some k_ ≠ (.slice Ao63 x4_1.length co63 : Value).ownBlock)) (HO724.out) (fun k_ hk => ⟨⟨hk.1, hk.2.2⟩, hk.2.1⟩))).2.1 (Kd.N_F (Kd.N_mono (ok' := (fun k_ => ((fun k_ => (w.heap.size ≤ k_) ∧ k_ ≠ gb693)) k_ ∧ some k_ ≠ (.slice Ao63 x4_1.length co63 : Value).ownBlock)) (HO724.out) (fun k_ hk => ⟨⟨hk.1, hk.2.2⟩, hk.2.1⟩))))); (case aB => exact zb); (case aF => exact (fun k_ hk => ⟨(Nat.le_trans (below_size zb) hk), tfB BK693 k_ hk⟩)); (case aO => exact (tNm HO_4.out)); (case aS => exact (below_size zb)); (case aL => have := LMc60.out; omega); intro v726 w65 ho hb hg hat; rw [← Ny725.out] at ho; replace BK693 := Aside0.mk (blk_grown (tH BK693.out) hg (Kd.N_away HO_4.out (fun _ hk => hk.1.2))); replace HB := Aside0.mk (hb); have HO727 := Aside0.mk (ho); clear HO_4 HO724; clear ho hb hg hat))
         go_roundg k1
         case measure => have := HK1.out; omega
         case rel => exact ⟨(y725), (wrap64 (x16_1 + 1)), tr, H', ⟨by have := HK1.out; omega⟩, ⟨tNm HO727.out⟩, ⟨zb⟩⟩
        ·rw [if_neg c60] at H
         exact absurd H (by simp)
      ·rw [if_neg c9] at H
       exact absurd H (by simp)
     ·rw [if_neg c8] at H
      exact absurd H (by simp)
    ·rw [if_neg c7] at H
     have c7b0 : decide (x16_1 < (l0.length : Int)) = false := decide_eq_false c7
     clear c7
     simp only [Option.some.injEq, Prod.mk.injEq] at H
     obtain ⟨rfl, rfl⟩ := H
     go_wp2
     go_ret2
     exact ⟨_, by first | rfl | (simp [errW_none, errW_some] <;> rfl) | (simp [*, errW_none, errW_some] <;> rfl), tN HO_4.out, zb⟩
 ·replace c3 := Bool.eq_false_iff.mpr c3
  subst c3
  rw [if_neg (show ¬ (false = true) by decide)] at H
  simp only [Option.some.injEq, Prod.mk.injEq] at H
  obtain ⟨rfl, rfl⟩ := H
  go_enter Tryd.func25, Tryd.ntmps25
  go_wp2_with (first | ((with_reducible refine gate_callee (f := 17) rfl ?_); refine goesL_ (some 11) rfl rfl Tryd.func17 (by kernel_rfl) rfl #[.slice A0 l0.length c0] rfl tq ?_; (with_reducible refine (impl_LogValid.calls k _ _ l0 false _ ?side1 ?side2 A2.out).mono ?_); (case side1 => exact tC HR0.out); (case side2 => exact HC0.out); rintro e w67 ⟨rfl, hb⟩; refine ⟨_, rfl, ?_⟩; replace HB := tBs HB hb; (try clear hb); (try clear hb2); (try clear hk); (try clear hi)))
  go_ret2
  exact ⟨_, by first | rfl | (simp [errW_none, errW_some] <;> rfl) | (simp [*, errW_none, errW_some] <;> rfl), by first | exact Kd.R_nil _ _ _ _ _ | exact Kd.N_nil _ _ _ _ _ | exact Kd.V_nil _ _ _ _ _ | exact Kd.Q_nil _ _ _ _ _ | exact Kd.S_nil _ _ _ _ _, zb⟩

end Go.Proofs.YtbbboachakkgiaaDoor.G

namespace Go.Proofs.YtbbboachakkgiaaDoor.G
open Go.RowKit Go.Proofs.YtbbboachakkgiaaDoorW.PrintWords Go.Proofs.YtbbboachakkgiaaDoorW.PrintLast Go.Proofs.YtbbboachakkgiaaDoorW.PrintMore
theorem pos_of {n : Nat} {i : Int} (h1 : (i < (n : Int)) = True) (h0 : (0 ≤ i) = True) : 0 < n := by
  have := of_eq_true h1
  have := of_eq_true h0
  omega
theorem Kd.V_away {α : Type} {d : Kd α} {e base n c g : Nat} {W : World} {ok : Nat → Prop} {ad : Addr} {xs : List α} (h : Kd.V d e W base ok (.slice (some ad) n c) xs) (hok : ∀ k, ok k → k ≠ g) (hn : 0 < xs.length := by exact pos_of (by assumption) (by assumption)) (hs : 0 < d.sz := by decide) : some g ≠ (Value.slice (some ad) n c).ownBlock := fun he => by
  have h1 : ok ad.block := Kd.F_in (Kd.V_at h).2.2 rfl hn hs
  have h2 : g = ad.block := by simpa [Value.ownBlock] using he
  exact hok _ h1 h2.symm
end Go.Proofs.YtbbboachakkgiaaDoor.G

namespace Go.Proofs.YtbbboachakkgiaaDoor.G
open Go.RowKit Go.Proofs.YtbbboachakkgiaaDoorW.PrintWords Go.Proofs.YtbbboachakkgiaaDoorW.PrintLast Go.Proofs.YtbbboachakkgiaaDoorW.PrintMore
attribute [local go_sem] max2_int min2_int max_two min_two max_three min_three max_four min_four   -- for this text's walks alone
set_option linter.unusedVariables false
set_option linter.unusedSimpArgs false

def spec_BatchJoin.j0 : Nat → Bool → Bool → Bool → Int → Int → Int → List (S33) → Bool → Bool → Int → Int → Int → List (S33) → Option (Bool × Bool × Int × Int × Int × (List (S33)) × Bool)
 | 0, _, _, _, _, _, _, _, _, _, _, _, _, _ => none
 | k + 1, x31, x729000, x729001, x729002, x729003, x729004, x729005, x730000, x730001, x730002, x730003, x730004, x730005 => if x31 = true then (some (false, false, 0, 0, 0, ([] : List (S33)), false)) else ((some (([] : List (S33)) : List (S33))).bind fun y733 => (if y733.length + x729005.length < 1759218604441 then ((some (y733 ++ x729005 : List (S33))).bind fun y736 => (if y736.length + x730005.length < 1759218604441 then ((spec_l31Free.f k x729000 (y736 ++ x730005)).bind fun bt742 => ((spec_BatchValid.f k bt742.1 bt742.2.1 bt742.2.2.1 bt742.2.2.2.1 bt742.2.2.2.2.1 bt742.2.2.2.2.2).bind fun t751 => (if t751 = true then (some (bt742.1, bt742.2.1, bt742.2.2.1, bt742.2.2.2.1, bt742.2.2.2.2.1, bt742.2.2.2.2.2, true)) else (some (false, false, 0, 0, 0, ([] : List (S33)), false))))) else (none))) else (none)))
def spec_BatchJoin.f (k : Nat) (a0_0 : Bool) (a0_1 : Bool) (a0_2 : Int) (a0_3 : Int) (a0_4 : Int) (l0_5 : List (S33)) (a1_0 : Bool) (a1_1 : Bool) (a1_2 : Int) (a1_3 : Int) (a1_4 : Int) (l1_5 : List (S33)) : Option (Bool × Bool × Int × Int × Int × (List (S33)) × Bool) := (spec_BatchValid.f k a0_0 a0_1 a0_2 a0_3 a0_4 l0_5).bind fun t731 => (if t731 = true then ((spec_BatchValid.f k a1_0 a1_1 a1_2 a1_3 a1_4 l1_5).bind fun t732 => (if t732 = true then (if a0_2 = 255 then (if a1_2 = 255 then (spec_BatchJoin.j0 k (a0_0 != a1_0) a0_0 a0_1 a0_2 a0_3 a0_4 l0_5 a1_0 a1_1 a1_2 a1_3 a1_4 l1_5) else (spec_BatchJoin.j0 k true a0_0 a0_1 a0_2 a0_3 a0_4 l0_5 a1_0 a1_1 a1_2 a1_3 a1_4 l1_5)) else (spec_BatchJoin.j0 k true a0_0 a0_1 a0_2 a0_3 a0_4 l0_5 a1_0 a1_1 a1_2 a1_3 a1_4 l1_5)) else (spec_BatchJoin.j0 k true a0_0 a0_1 a0_2 a0_3 a0_4 l0_5 a1_0 a1_1 a1_2 a1_3 a1_4 l1_5))) else (spec_BatchJoin.j0 k true a0_0 a0_1 a0_2 a0_3 a0_4 l0_5 a1_0 a1_1 a1_2 a1_3 a1_4 l1_5))
def spec_BatchJoin.T3 : Bool × List (List Nat × List Nat) := (true, [([], []), ([0], [0]), ([], []), ([], []), ([3], [3]), ([2, 4], [2, 4]), ([], []), ([6], [6]), ([5, 7, 5], [5, 7]), ([1, 8, 8], [1, 8]), ([], []), ([10, 9, 9, 0, 1, 2, 3, 4, 5, 6, 7, 8, 9, 10], [9, 10])])
def spec_BatchJoin.B3 : List Nat := [0, 1, 0, 0, 8, 28, 0, 64, 252, 511, 0, 2047]
theorem spec_BatchJoin.tab3 : rtab .any (opsOf Tryd.f50 3) = spec_BatchJoin.T3 := by kernel_rfl
theorem spec_BatchJoin.bits3 : waitsOk spec_BatchJoin.T3.2 spec_BatchJoin.B3 = true := by kernel_rfl
end Go.Proofs.YtbbboachakkgiaaDoor.G

