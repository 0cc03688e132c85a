/- A text of seat YtbbboachakkgiaaDoor: what the law FnEvenTwice needs of this repo's texts (by pack.py). Not trusted: Lean checks it. -/
import Derived.Test.YtbbboachakkgiaaDoorKFnEvenTwice12
namespace Go.Proofs.YtbbboachakkgiaaDoor.G
open Go.RowKit Go.Proofs.YtbbboachakkgiaaDoorW.PrintWords Go.Proofs.YtbbboachakkgiaaDoorW.PrintLast Go.Proofs.YtbbboachakkgiaaDoorW.PrintMore
attribute [local go_sem] max2_int min2_int max_two min_two max_three min_three max_four min_four   -- for this text's walks alone
set_option linter.unusedVariables false
set_option linter.unusedSimpArgs false

def spec_LogEven.l0 : Nat → List (S47) → List (S47) → Int → Option ((List (S47)) × Bool)
 | 0, _, _, _ => none
 | k + 1, x0, x4, x5 => if x5 < (x0.length : Int) then (if (x4.length : Int) > 0 then (if 0 ≤ (wrap64 ((x4.length : Int) - 1)) then (if (wrap64 ((x4.length : Int) - 1)) < (x4.length : Int) then (if 0 ≤ x5 then ((spec_BatchJoin.f k ((rd_T47 x4 (wrap64 ((x4.length : Int) - 1))).f0) ((rd_T47 x4 (wrap64 ((x4.length : Int) - 1))).f1) ((rd_T47 x4 (wrap64 ((x4.length : Int) - 1))).f2) ((rd_T47 x4 (wrap64 ((x4.length : Int) - 1))).f3) ((rd_T47 x4 (wrap64 ((x4.length : Int) - 1))).f4) ((rd_T47 x4 (wrap64 ((x4.length : Int) - 1))).f5) ((rd_T47 x0 x5).f0) ((rd_T47 x0 x5).f1) ((rd_T47 x0 x5).f2) ((rd_T47 x0 x5).f3) ((rd_T47 x0 x5).f4) ((rd_T47 x0 x5).f5)).bind fun bt758 => (if bt758.2.2.2.2.2.2 = true then (spec_LogEven.l0 k x0 (x4.set ((wrap64 ((x4.length : Int) - 1)) : Int).toNat (⟨bt758.1, bt758.2.1, bt758.2.2.1, bt758.2.2.2.1, bt758.2.2.2.2.1, bt758.2.2.2.2.2.1⟩ : S47)) (wrap64 (x5 + 1))) else ((spec_l12Batch.f k ((rd_T47 x0 x5).f0) ((rd_T47 x0 x5).f1) ((rd_T47 x0 x5).f2) ((rd_T47 x0 x5).f3) ((rd_T47 x0 x5).f4) ((rd_T47 x0 x5).f5)).bind fun bt770 => (if x4.length < 2513169434916 then (spec_LogEven.l0 k x0 (x4 ++ [(⟨bt770.1, bt770.2.1, bt770.2.2.1, bt770.2.2.2.1, bt770.2.2.2.2.1, bt770.2.2.2.2.2⟩ : S47)]) (wrap64 (x5 + 1))) else (none))))) else (none)) else (none)) else (none)) else (if 0 ≤ x5 then ((spec_l12Batch.f k ((rd_T47 x0 x5).f0) ((rd_T47 x0 x5).f1) ((rd_T47 x0 x5).f2) ((rd_T47 x0 x5).f3) ((rd_T47 x0 x5).f4) ((rd_T47 x0 x5).f5)).bind fun bt782 => (if x4.length < 2513169434916 then (spec_LogEven.l0 k x0 (x4 ++ [(⟨bt782.1, bt782.2.1, bt782.2.2.1, bt782.2.2.2.1, bt782.2.2.2.2.1, bt782.2.2.2.2.2⟩ : S47)]) (wrap64 (x5 + 1))) else (none))) else (none))) else (some (x4, true))
def spec_LogEven.f (k : Nat) (l0 : List (S47)) : Option ((List (S47)) × Bool) := (some (([] : List (S47)) : List (S47))).bind fun y752 => ((spec_LogValid.f k l0).bind fun t755 => (if t755 = true then (spec_LogEven.l0 k l0 y752 0) else (some (y752, false))))
def spec_LogEven.T8 : Bool × List (List Nat × List Nat) := (true, [([], []), ([], []), ([1], [1]), ([2], [2]), ([0, 3], [0, 3]), ([4], [4]), ([], []), ([], []), ([6, 7], [6, 7]), ([8], [8]), ([5, 9], [5, 9]), ([10], [10]), ([11], [11]), ([11], [11]), ([], []), ([14, 12, 10, 0, 1, 2, 3, 4, 5, 6, 7, 8, 9, 10, 11, 12, 14], [12, 14]), ([13, 15, 0, 1, 2, 3, 4, 5, 6, 7, 8, 9, 10, 11, 12, 13, 14, 15], [13])])
def spec_LogEven.B8 : List Nat := [0, 0, 2, 6, 15, 31, 0, 0, 192, 448, 1023, 2047, 4095, 4095, 0, 24575, 65535]
theorem spec_LogEven.tab8 : rtab .any (opsOf Tryd.f26 8) = spec_LogEven.T8 := by kernel_rfl
theorem spec_LogEven.bits8 : waitsOk spec_LogEven.T8.2 spec_LogEven.B8 = true := by kernel_rfl
set_option maxHeartbeats 8000000 in
set_option maxRecDepth 100000 in
theorem spec_LogEven.calls (k : Nat) (P0_ : Nat → Prop) (A0 : Option Addr) (c0 : Nat) (l0 : List (S47)) (r1 : List (S47)) (r2 : Bool) (w : World) (hs0 : Kd.V k47 47 w w.heap.size (fun k_ => P0_ k_) (.slice A0 l0.length c0) l0) (h : spec_LogEven.f k l0 = some (r1, r2)) :
  Calls Tryd.prog 26 #[.slice A0 l0.length c0] w fun e w' => ∃ v0_ : Value, e = .returned (.tuple #[v0_, .bool r2]) ∧ Kd.N k47 47 w' w.heap.size (fun k_ => (P0_ k_ ∨ w.heap.size ≤ k_)) v0_ r1 ∧ Below w.heap.size w w' := by
 have hu47 := Tryd.underlying47
 have HO0 := Aside0.mk (show Kd.V k47 47 w w.heap.size (fun k_ => (P0_ k_ ∨ w.heap.size ≤ k_)) (.slice A0 l0.length c0) l0 from Kd.V_mono hs0 (fun k_ hk => .inl hk))
 have HB := Aside0.mk (Below.refl w.heap.size w)
 have H : ((some (([] : List (S47)) : List (S47))).bind fun y752 => ((spec_LogValid.f k l0).bind fun t755 => (if t755 = true then (spec_LogEven.l0 k l0 y752 0) else (some (y752, false))))) = some (r1, r2) := h
 clear h
 obtain ⟨y752, hy752⟩ : ∃ y_ : List (S47), y_ = (([] : List (S47))) := ⟨_, rfl⟩
 replace H : ((spec_LogValid.f k l0).bind fun t755 => (if t755 = true then (spec_LogEven.l0 k l0 y752 0) else (some (y752, false)))) = some (r1, r2) := by first | (rw [hy752]; with_reducible exact H) | (have H2_ := (Option.bind_some _ _).symm.trans H; rw [hy752]; with_reducible exact H2_) | (have H2_ := (Option.bind_some _ _).symm.trans H; with_reducible exact H2_) | with_reducible exact H | (rw [hy752]; exact H) | exact H
 have Ny752 := Aside0.mk hy752
 clear hy752
 replace H := tbe H
 obtain ⟨t755, A2, H⟩ := H
 by_cases c3 : t755 = true
 ·subst c3
  rw [if_pos rfl] at H
  have H' := Aside0.mk H
  clear H
  go_enter Tryd.func26, Tryd.ntmps26
  go_wp2_with (first | ((with_reducible refine gate_dst (N := 8) rfl ?_); refine Kd.N_lit k47 _ 47 ?hg (N' := 8) ?hd (xs := ([] : List (S47))) (inner := []) (ok := (fun k_ => (P0_ k_ ∨ w.heap.size ≤ k_))) (okp := (fun k_ => (P0_ k_ ∨ w.heap.size ≤ k_))) ?hr ?hp (fun _ hk => hk) ((show ∀ k_, w.heap.size ≤ k_ → (fun k_ => (P0_ k_ ∨ w.heap.size ≤ k_)) k_ from fun k_ hk => (.inr (Nat.le_trans (below_size zb) hk))) _ (Nat.le_refl _)) (Below.refl _ _) (Nat.le_refl _) (by simp) ?_; (case hd => rfl); (case hg => rfl); (case hr => first | (go_simp; done) | (go_simp; rfl)); (case hp => exact (Reps.none _ _)); intro v753 w4 ho5 hb hg_ hnew_; clear hg_ hnew_; (first | rw [← Ny752.out] at ho5 | (simp only [Int.reduceToNat] at ho5; rw [← Ny752.out] at ho5)); replace HO0 := tVe HO0 ho5 hb; have HO754 := tNl ho5 HB; replace HB := tBs HB hb; clear hb ho5) | ((with_reducible refine gate_callee (f := 38) rfl ?_); refine goesL_ (some 10) rfl rfl Tryd.func38 (by kernel_rfl) rfl #[.slice A0 l0.length c0] rfl tq ?_; (with_reducible refine (spec_LogValid.calls k _ _ l0 true _ ?side1 ?side2 A2.out).mono ?_); (case side1 => repeat (first | exact (Kd.V_reads' HO0.out).2.2 | (with_reducible refine Kd.C_alloc ?_ _) | (with_reducible refine Kd.C_drewN ?_ _) | (with_reducible refine Kd.C_drew ?_))); (case side2 => exact (Kd.V_reads' HO0.out).2.1); rintro e w6 ⟨rfl, hb⟩; refine ⟨_, rfl, ?_⟩; replace HO0 := tVb HO0 hb; replace HO754 := tNb HO754 hb; replace HB := tBs HB hb; (try clear hb); (try clear hb2); (try clear hk); (try clear hi)))
  go_loopg [4, 5] k (fun kq v4 v5 w' => ∃ (x0_1 : List (S47)) (x4_1 : List (S47)) (x5_1 : Int), v5 = .int .i64 x5_1 ∧ Aside0 (spec_LogEven.l0 kq x0_1 x4_1 x5_1 = some (r1, r2)) ∧ Aside0 (kq ≤ k) ∧ Aside0 (Kd.V k47 47 w' w.heap.size (fun k_ => (P0_ k_ ∨ w.heap.size ≤ k_) ∧ some k_ ≠ (v4 : Value).ownBlock) (.slice A0 l0.length c0) x0_1) ∧ Aside0 (Kd.N k47 47 w' w.heap.size (fun k_ => (P0_ k_ ∨ w.heap.size ≤ k_)) v4 x4_1) ∧ Aside0 (Below w.heap.size w w'))
  case atStart => exact ⟨(l0), (y752), (0), tr, H', ⟨Nat.le_refl _⟩, ⟨tV HO0.out⟩, ⟨tN HO754.out⟩, ⟨zb⟩⟩
  case round =>
   clear H'
   try clear c3
   obtain ⟨x0_1, x4_1, x5_1, rfl, HA, HK1, HO_0, HO_4, HB⟩ := hrel
   have hl0_1 := (Kd.V_reads' HO_0.out).1
   rw [hl0_1] at HO_0
   (try simp only [hl0_1])
   (try simp only [hl0_1] at HO_4)
   cases gk with
   | zero => exact absurd HA.out (by simp [spec_LogEven.l0])
   | succ k1 =>
    have H := HA.out
    clear HA
    simp only [spec_LogEven.l0] at H
    by_cases c7 : x5_1 < (x0_1.length : Int)
    ·rw [if_pos c7] at H
     have c7b0 : decide (x5_1 < (x0_1.length : Int)) = true := decide_eq_true c7
     clear c7
     by_cases c8 : (x4_1.length : Int) > 0
     ·rw [if_pos c8] at H
      have c8b0 : decide (0 < (x4_1.length : Int)) = true := decide_eq_true c8
      have c8b1 : decide (0 < x4_1.length) = true := decide_eq_true (by omega)
      clear c8
      obtain ⟨ji9, hji9⟩ : ∃ j_ : Int, (wrap64 ((x4_1.length : Int) - 1)) = j_ := ⟨_, rfl⟩
      replace H : (if 0 ≤ (ji9) then (if (ji9) < (x4_1.length : Int) then (if 0 ≤ x5_1 then ((spec_BatchJoin.f k1 ((rd_T47 x4_1 (ji9)).f0) ((rd_T47 x4_1 (ji9)).f1) ((rd_T47 x4_1 (ji9)).f2) ((rd_T47 x4_1 (ji9)).f3) ((rd_T47 x4_1 (ji9)).f4) ((rd_T47 x4_1 (ji9)).f5) ((rd_T47 x0_1 x5_1).f0) ((rd_T47 x0_1 x5_1).f1) ((rd_T47 x0_1 x5_1).f2) ((rd_T47 x0_1 x5_1).f3) ((rd_T47 x0_1 x5_1).f4) ((rd_T47 x0_1 x5_1).f5)).bind fun bt758 => (if bt758.2.2.2.2.2.2 = true then (spec_LogEven.l0 k1 x0_1 (x4_1.set ((ji9) : Int).toNat (⟨bt758.1, bt758.2.1, bt758.2.2.1, bt758.2.2.2.1, bt758.2.2.2.2.1, bt758.2.2.2.2.2.1⟩ : S47)) (wrap64 (x5_1 + 1))) else ((spec_l12Batch.f k1 ((rd_T47 x0_1 x5_1).f0) ((rd_T47 x0_1 x5_1).f1) ((rd_T47 x0_1 x5_1).f2) ((rd_T47 x0_1 x5_1).f3) ((rd_T47 x0_1 x5_1).f4) ((rd_T47 x0_1 x5_1).f5)).bind fun bt770 => (if x4_1.length < 2513169434916 then (spec_LogEven.l0 k1 x0_1 (x4_1 ++ [(⟨bt770.1, bt770.2.1, bt770.2.2.1, bt770.2.2.2.1, bt770.2.2.2.2.1, bt770.2.2.2.2.2⟩ : S47)]) (wrap64 (x5_1 + 1))) else (none))))) else (none)) else (none)) else (none)) = some (r1, r2) := by first | (rw [hji9] at H; exact H) | (simp only [hji9] at H ⊢; exact H)
      have hji9w : (IntKind.i64.wrap ((x4_1.length : Int) - 1)) = ji9 := (i64_w _).trans hji9
      by_cases c10 : 0 ≤ (ji9)
      ·rw [if_pos c10] at H
       have c10b0 : decide (0 ≤ (ji9)) = true := decide_eq_true c10
       clear c10
       by_cases c11 : (ji9) < (x4_1.length : Int)
       ·rw [if_pos c11] at H
        have c11b0 : decide ((ji9) < (x4_1.length : Int)) = true := decide_eq_true c11
        clear c11
        by_cases c12 : 0 ≤ x5_1
        ·rw [if_pos c12] at H
         have c12b0 : decide (0 ≤ x5_1) = true := decide_eq_true c12
         clear c12
         replace H := tbe H
         obtain ⟨⟨t758, t759, t760, t761, t762, t763, t766⟩, A13, H⟩ := H
         dsimp only at H
         by_cases c14 : t766 = true
         ·subst c14
          rw [if_pos rfl] at H
          obtain ⟨y768, hy768⟩ : ∃ y_ : List (S47), y_ = (x4_1.set ((ji9) : Int).toNat (⟨t758, t759, t760, t761, t762, t763⟩ : S47)) := ⟨_, rfl⟩
          replace H : (spec_LogEven.l0 k1 x0_1 y768 (wrap64 (x5_1 + 1))) = some (r1, r2) := by first | (rw [hy768]; with_reducible exact H) | (have H2_ := (Option.bind_some _ _).symm.trans H; rw [hy768]; with_reducible exact H2_) | (have H2_ := (Option.bind_some _ _).symm.trans H; with_reducible exact H2_) | with_reducible exact H | (rw [hy768]; exact H) | exact H
          have Ny768 := Aside0.mk hy768
          clear hy768
          have H' := Aside0.mk H
          clear H
          obtain ⟨Ao16, co16, eo16⟩ := Kd.N_slice HO_4.out
          subst eo16
          try go_wp2
          replace HO_0 := Aside0.mk (Kd.V_drew HO_0.out)
          replace HO_4 := Aside0.mk (Kd.N_drew HO_4.out)
          replace HB := Aside0.mk (below_drew1 HB.out)
          have p756 : 0 ≤ ((ji9) : Int) := td
          have q756 : (ji9) < (x4_1.length : Int) := td
          obtain ⟨ad756, A756_5, c756_5, e756, hx756_0, hx756_1, hx756_2, hx756_3, hx756_4, hx756_5, hl756_5, hi756_5⟩ := at_T47 (Kd.N_reads' HO_4.out).2.2 (ji9) p756 q756
          cases e756
          obtain ⟨ce756, hce756, hMe756, hcc756⟩ := Kd.N_get HO_4.out z47 (ji9) p756 (by first | exact q756 | exact td | (have e_ := (Kd.N_reads' HO_4.out).1; omega))
          obtain ⟨ua756_5, uc756_5, rfl, ul756_5, ge756_5⟩ := k47_openF hMe756
          have hv756_5 := hcc756 5 _ rfl
          rw [add_field _ _ 5 (by omega)] at hv756_5
          replace hv756_5 := Option.some.inj (hv756_5.symm.trans hx756_5)
          injection hv756_5 with hva_ hvn_ hvc_
          rw [hva_] at ge756_5
          rw [hvc_] at ul756_5
          have HL756_5 := Aside0.mk (show Kd.V k33 33 _ w.heap.size _ _ ((rd_T47 x4_1 (ji9)).f5) from Kd.V_mk ul756_5 ge756_5)
          clear hva_ hvn_ hvc_ ge756_5 ul756_5
          clear hcc756 hce756
          have HR756_5 := Aside0.mk hi756_5
          have HC756_5 := Aside0.mk hl756_5
          clear hi756_5 hl756_5
          replace p756 := eq_true p756
          replace q756 := eq_true q756
          have p757 : 0 ≤ (x5_1 : Int) := td
          have q757 : x5_1 < (x0_1.length : Int) := td
          obtain ⟨ad757, A757_5, c757_5, e757, hx757_0, hx757_1, hx757_2, hx757_3, hx757_4, hx757_5, hl757_5, hi757_5⟩ := at_T47 (Kd.V_reads' HO_0.out).2.2 x5_1 p757 q757
          cases e757
          obtain ⟨ce757, hce757, hMe757, hcc757⟩ := Kd.V_get HO_0.out z47 x5_1 p757 (by first | exact q757 | exact td | (have e_ := (Kd.V_reads' HO_0.out).1; omega))
          obtain ⟨ua757_5, uc757_5, rfl, ul757_5, ge757_5⟩ := k47_openF hMe757
          have hv757_5 := hcc757 5 _ rfl
          rw [add_field _ _ 5 (by omega)] at hv757_5
          replace hv757_5 := Option.some.inj (hv757_5.symm.trans hx757_5)
          injection hv757_5 with hva_ hvn_ hvc_
          rw [hva_] at ge757_5
          rw [hvc_] at ul757_5
          have HL757_5 := Aside0.mk (show Kd.V k33 33 _ w.heap.size _ _ ((rd_T47 x0_1 x5_1).f5) from Kd.V_mk ul757_5 ge757_5)
          clear hva_ hvn_ hvc_ ge757_5 ul757_5
          clear hcc757 hce757
          have HR757_5 := Aside0.mk hi757_5
          have HC757_5 := Aside0.mk hl757_5
          clear hi757_5 hl757_5
          replace p757 := eq_true p757
          replace q757 := eq_true q757
          refine start_ (n := 17) (S := fun w' => w'.cell? (ad756.add (((ji9)).toNat * 6)) = some (.bool ((rd_T47 x4_1 (ji9)).f0)) ∧ w'.cell? ⟨(ad756.add (((ji9)).toNat * 6)).block, (ad756.add (((ji9)).toNat * 6)).off + 1, none⟩ = some (.bool ((rd_T47 x4_1 (ji9)).f1)) ∧ w'.cell? ⟨(ad756.add (((ji9)).toNat * 6)).block, (ad756.add (((ji9)).toNat * 6)).off + 2, none⟩ = some (.int .i64 ((rd_T47 x4_1 (ji9)).f2)) ∧ w'.cell? ⟨(ad756.add (((ji9)).toNat * 6)).block, (ad756.add (((ji9)).toNat * 6)).off + 3, none⟩ = some (.int .i64 ((rd_T47 x4_1 (ji9)).f3)) ∧ w'.cell? ⟨(ad756.add (((ji9)).toNat * 6)).block, (ad756.add (((ji9)).toNat * 6)).off + 4, none⟩ = some (.int .i64 ((rd_T47 x4_1 (ji9)).f4)) ∧ w'.cell? ⟨(ad756.add (((ji9)).toNat * 6)).block, (ad756.add (((ji9)).toNat * 6)).off + 5, none⟩ = some (.slice A756_5 ((rd_T47 x4_1 (ji9)).f5).length c756_5) ∧ w'.cell? (ad757.add ((x5_1).toNat * 6)) = some (.bool ((rd_T47 x0_1 x5_1).f0)) ∧ w'.cell? ⟨(ad757.add ((x5_1).toNat * 6)).block, (ad757.add ((x5_1).toNat * 6)).off + 1, none⟩ = some (.bool ((rd_T47 x0_1 x5_1).f1)) ∧ w'.cell? ⟨(ad757.add ((x5_1).toNat * 6)).block, (ad757.add ((x5_1).toNat * 6)).off + 2, none⟩ = some (.int .i64 ((rd_T47 x0_1 x5_1).f2)) ∧ w'.cell? ⟨(ad757.add ((x5_1).toNat * 6)).block, (ad757.add ((x5_1).toNat * 6)).off + 3, none⟩ = some (.int .i64 ((rd_T47 x0_1 x5_1).f3)) ∧ w'.cell? ⟨(ad757.add ((x5_1).toNat * 6)).block, (ad757.add ((x5_1).toNat * 6)).off + 4, none⟩ = some (.int .i64 ((rd_T47 x0_1 x5_1).f4)) ∧ w'.cell? ⟨(ad757.add ((x5_1).toNat * 6)).block, (ad757.add ((x5_1).toNat * 6)).off + 5, none⟩ = some (.slice A757_5 ((rd_T47 x0_1 x5_1).f5).length c757_5)) (ds := []) #[false, false, false, false, false, false, false, false, false, false, false, false, false, false, false, false, false] (by kernel_rfl) rfl rfl ⟨hx756_0, hx756_1, hx756_2, hx756_3, hx756_4, hx756_5, hx757_0, hx757_1, hx757_2, hx757_3, hx757_4, hx757_5⟩ (fun hHeld => ?_); refine with_tabW spec_LogEven.tab8 spec_LogEven.bits8 (fun HT_ HW_ => ?_)
          generalize wr.drew = w17 at HO_0 HO_4 HB HL756_5 HL757_5 HR756_5 HR757_5 hx756_0 hx756_1 hx756_2 hx756_3 hx756_4 hx756_5 hx757_0 hx757_1 hx757_2 hx757_3 hx757_4 hx757_5 hHeld ⊢
          refine tpu 0 (some 23) #[true, false, false, false, false, false, false, false, false, false, false, false, false, false, false, false, false] ?_
          refine tpu 1 (some 24) #[true, true, false, false, false, false, false, false, false, false, false, false, false, false, false, false, false] ?_
          refine tpu 2 (some 25) #[true, true, true, false, false, false, false, false, false, false, false, false, false, false, false, false, false] ?_
          refine tpu 3 (some 26) #[true, true, true, true, false, false, false, false, false, false, false, false, false, false, false, false, false] ?_
          refine tpu 4 (some 27) #[true, true, true, true, true, false, false, false, false, false, false, false, false, false, false, false, false] ?_
          refine tpu 6 (some 29) #[true, true, true, true, true, false, true, false, false, false, false, false, false, false, false, false, false] ?_
          refine tpu 7 (some 30) #[true, true, true, true, true, false, true, true, false, false, false, false, false, false, false, false, false] ?_
          refine tpu 8 (some 31) #[true, true, true, true, true, false, true, true, true, false, false, false, false, false, false, false, false] ?_
          refine tta 5 (some 28) #[true, true, true, true, true, true, true, true, true, false, false, false, false, false, false, false, false] hHeld ?_ (hy := by rintro w' ⟨s0, s1, s2, s3, s4, s5, s6, s7, s8, s9, s10, s11⟩; go_simp; with_reducible rfl)
          refine tta 9 (some 32) #[true, true, true, true, true, true, true, true, true, true, false, false, false, false, false, false, false] hHeld ?_ (hy := by rintro w' ⟨s0, s1, s2, s3, s4, s5, s6, s7, s8, s9, s10, s11⟩; go_simp; with_reducible rfl)
          refine join_ (σ := Value × Nat) 2 #[true, true, true, true, true, true, true, true, true, true, true, true, true, true, true, false, false] (fun s_ => [(33, .tuple #[.agg #[.bool t758, .bool t759, .int .i64 t760, .int .i64 t761, .int .i64 t762, s_.1], .bool true]), (6, .pointer (some ⟨s_.2, 0, none⟩)), (22, .tuple #[.agg #[.bool t758, .bool t759, .int .i64 t760, .int .i64 t761, .int .i64 t762, s_.1], .bool true]), (34, .agg #[.bool t758, .bool t759, .int .i64 t760, .int .i64 t761, .int .i64 t762, s_.1]), (35, .bool true)]) (fun s_ w' => (w'.cell? (ad756.add (((ji9)).toNat * 6)) = some (.bool ((rd_T47 x4_1 (ji9)).f0)) ∧ w'.cell? ⟨(ad756.add (((ji9)).toNat * 6)).block, (ad756.add (((ji9)).toNat * 6)).off + 1, none⟩ = some (.bool ((rd_T47 x4_1 (ji9)).f1)) ∧ w'.cell? ⟨(ad756.add (((ji9)).toNat * 6)).block, (ad756.add (((ji9)).toNat * 6)).off + 2, none⟩ = some (.int .i64 ((rd_T47 x4_1 (ji9)).f2)) ∧ w'.cell? ⟨(ad756.add (((ji9)).toNat * 6)).block, (ad756.add (((ji9)).toNat * 6)).off + 3, none⟩ = some (.int .i64 ((rd_T47 x4_1 (ji9)).f3)) ∧ w'.cell? ⟨(ad756.add (((ji9)).toNat * 6)).block, (ad756.add (((ji9)).toNat * 6)).off + 4, none⟩ = some (.int .i64 ((rd_T47 x4_1 (ji9)).f4)) ∧ w'.cell? ⟨(ad756.add (((ji9)).toNat * 6)).block, (ad756.add (((ji9)).toNat * 6)).off + 5, none⟩ = some (.slice A756_5 ((rd_T47 x4_1 (ji9)).f5).length c756_5) ∧ w'.cell? (ad757.add ((x5_1).toNat * 6)) = some (.bool ((rd_T47 x0_1 x5_1).f0)) ∧ w'.cell? ⟨(ad757.add ((x5_1).toNat * 6)).block, (ad757.add ((x5_1).toNat * 6)).off + 1, none⟩ = some (.bool ((rd_T47 x0_1 x5_1).f1)) ∧ w'.cell? ⟨(ad757.add ((x5_1).toNat * 6)).block, (ad757.add ((x5_1).toNat * 6)).off + 2, none⟩ = some (.int .i64 ((rd_T47 x0_1 x5_1).f2)) ∧ w'.cell? ⟨(ad757.add ((x5_1).toNat * 6)).block, (ad757.add ((x5_1).toNat * 6)).off + 3, none⟩ = some (.int .i64 ((rd_T47 x0_1 x5_1).f3)) ∧ w'.cell? ⟨(ad757.add ((x5_1).toNat * 6)).block, (ad757.add ((x5_1).toNat * 6)).off + 4, none⟩ = some (.int .i64 ((rd_T47 x0_1 x5_1).f4)) ∧ w'.cell? ⟨(ad757.add ((x5_1).toNat * 6)).block, (ad757.add ((x5_1).toNat * 6)).off + 5, none⟩ = some (.slice A757_5 ((rd_T47 x0_1 x5_1).f5).length c757_5)) ∧ (Kd.V k33 33 w' w.heap.size (fun k_ => (P0_ k_ ∨ w.heap.size ≤ k_) ∧ some k_ ≠ (s_.1 : Value).ownBlock ∧ some k_ ≠ (.slice (some ad756) x4_1.length co16 : Value).ownBlock ∧ k_ ≠ s_.2) (.slice A756_5 ((rd_T47 x4_1 (ji9)).f5).length c756_5) ((rd_T47 x4_1 (ji9)).f5)) ∧ (Kd.V k33 33 w' w.heap.size (fun k_ => (P0_ k_ ∨ w.heap.size ≤ k_) ∧ some k_ ≠ (s_.1 : Value).ownBlock ∧ some k_ ≠ (.slice (some ad756) x4_1.length co16 : Value).ownBlock ∧ k_ ≠ s_.2) (.slice A757_5 ((rd_T47 x0_1 x5_1).f5).length c757_5) ((rd_T47 x0_1 x5_1).f5)) ∧ (Kd.N k33 33 w' w.heap.size (fun k_ => (P0_ k_ ∨ w.heap.size ≤ k_) ∧ some k_ ≠ (.slice (some ad756) x4_1.length co16 : Value).ownBlock ∧ k_ ≠ s_.2) s_.1 t763) ∧ (Kd.V k47 47 w' w.heap.size (fun k_ => (P0_ k_ ∨ w.heap.size ≤ k_) ∧ some k_ ≠ (s_.1 : Value).ownBlock ∧ some k_ ≠ (.slice (some ad756) x4_1.length co16 : Value).ownBlock ∧ k_ ≠ s_.2) (.slice (some ad757) x0_1.length c0) x0_1) ∧ (Kd.N k47 47 w' w.heap.size (fun k_ => (P0_ k_ ∨ w.heap.size ≤ k_) ∧ some k_ ≠ (s_.1 : Value).ownBlock ∧ k_ ≠ s_.2) (.slice (some ad756) x4_1.length co16) x4_1) ∧ (w'.heap[s_.2]? = some (.cells #[.bool false, .bool false, .int .i64 0, .int .i64 0, .int .i64 0, .slice none 0 0] 47 (0, 0))) ∧ (w.heap.size ≤ s_.2) ∧ (w.heap.size ≤ s_.2) ∧ (Below w.heap.size w w')) ?_ ?_
          rotate_left
          ·intro hCont
           refine two_ (i := 10) (j := 14) (Ni := some 33) (Nj := some 6) #[true, true, true, true, true, true, true, true, true, true, true, false, false, false, false, false, false] #[true, true, true, true, true, true, true, true, true, true, false, false, false, false, true, false, false] rfl rfl rfl rfl (two_of HT_.out (by kernel_rfl)) (by decide) (by decide) (fun K hK => ?_) (fun K hK => ?_)
           ·skip
            refine goes_ Tryd.func50 (by kernel_rfl) rfl #[.agg #[.bool ((rd_T47 x4_1 (ji9)).f0), .bool ((rd_T47 x4_1 (ji9)).f1), .int .i64 ((rd_T47 x4_1 (ji9)).f2), .int .i64 ((rd_T47 x4_1 (ji9)).f3), .int .i64 ((rd_T47 x4_1 (ji9)).f4), .slice A756_5 ((rd_T47 x4_1 (ji9)).f5).length c756_5], .agg #[.bool ((rd_T47 x0_1 x5_1).f0), .bool ((rd_T47 x0_1 x5_1).f1), .int .i64 ((rd_T47 x0_1 x5_1).f2), .int .i64 ((rd_T47 x0_1 x5_1).f3), .int .i64 ((rd_T47 x0_1 x5_1).f4), .slice A757_5 ((rd_T47 x0_1 x5_1).f5).length c757_5]] (by rfl) rfl rfl (by (try simp only [List.map_toArray, List.map_cons, List.map_nil]); first | done | (simp only [hji9]; rfl) | rfl | (simp only [List.length_drop, List.length_take]; rfl)) ?_
            with_reducible refine (spec_BatchJoin.calls k1 ((rd_T47 x4_1 (ji9)).f0) ((rd_T47 x4_1 (ji9)).f1) ((rd_T47 x4_1 (ji9)).f2) ((rd_T47 x4_1 (ji9)).f3) ((rd_T47 x4_1 (ji9)).f4) (fun k_ => ((P0_ k_ ∨ w.heap.size ≤ k_) ∧ some k_ ≠ (.slice (some ad756) x4_1.length co16 : Value).ownBlock)) _ _ ((rd_T47 x4_1 (ji9)).f5) ((rd_T47 x0_1 x5_1).f0) ((rd_T47 x0_1 x5_1).f1) ((rd_T47 x0_1 x5_1).f2) ((rd_T47 x0_1 x5_1).f3) ((rd_T47 x0_1 x5_1).f4) (fun k_ => ((P0_ k_ ∨ w.heap.size ≤ k_) ∧ some k_ ≠ (.slice (some ad756) x4_1.length co16 : Value).ownBlock)) _ _ ((rd_T47 x0_1 x5_1).f5) t758 t759 t760 t761 t762 t763 true _ ?side1 ?side2 A13.out).mono ?_
            (case side1 => exact HL756_5.out)
            (case side2 => exact HL757_5.out)
            rintro e w18 ⟨v764, rfl, ho0, hb⟩
            have HS0_ := tcb hb hHeld.1
            have HS1_ := tcb hb hHeld.2.1
            have HS2_ := tcb hb hHeld.2.2.1
            have HS3_ := tcb hb hHeld.2.2.2.1
            have HS4_ := tcb hb hHeld.2.2.2.2.1
            have HS5_ := tcb hb hHeld.2.2.2.2.2.1
            have HS6_ := tcb hb hHeld.2.2.2.2.2.2.1
            have HS7_ := tcb hb hHeld.2.2.2.2.2.2.2.1
            have HS8_ := tcb hb hHeld.2.2.2.2.2.2.2.2.1
            have HS9_ := tcb hb hHeld.2.2.2.2.2.2.2.2.2.1
            have HS10_ := tcb hb hHeld.2.2.2.2.2.2.2.2.2.2.1
            have HS11_ := tcb hb hHeld.2.2.2.2.2.2.2.2.2.2.2
            refine ⟨_, rfl, ?_⟩
            replace HO_0 := tVe HO_0 ho0 hb
            replace HL756_5 := tVe HL756_5 ho0 hb
            replace HL757_5 := tVe HL757_5 ho0 hb
            have HO765 := Aside0.mk (Kd.N_lower (Kd.N_mono (ok' := fun k_ => (P0_ k_ ∨ w.heap.size ≤ k_) ∧ some k_ ≠ (.slice (some ad756) x4_1.length co16 : Value).ownBlock) ho0 (fun k_ hk_ => ⟨Or.elim hk_ (fun hs_ => Or.elim hs_ (fun hs_ => hs_.1) (fun hs_ => hs_.1)) (fun hn_ => (.inr (Nat.le_trans (below_size zb) hn_))), Or.elim hk_ (fun hs_ => Or.elim hs_ (fun hs_ => hs_.2) (fun hs_ => hs_.2)) (fun hn_ => (tfr HO_4 k_ hn_))⟩)) (below_size zb))
            replace HO_4 := tNe HO_4 ho0 hb
            replace HR756_5 := tCb HR756_5 hb
            replace HR757_5 := tCb HR757_5 hb
            replace HB := tBs HB hb
            (try clear hb)
            (try clear hb2)
            (try clear hk)
            (try clear hi)
            (try clear ho0)
            refine hK.out _ _ ⟨HS0_, HS1_, HS2_, HS3_, HS4_, HS5_, HS6_, HS7_, HS8_, HS9_, HS10_, HS11_⟩ (fun hHeld => ?_)
            clear hK K
            refine tnm (some 33) ?_
            refine tpu 11 (some 22) #[true, true, true, true, true, true, true, true, true, true, true, true, false, false, false, false, false] ?_
            refine tpu 12 (some 34) #[true, true, true, true, true, true, true, true, true, true, true, true, true, false, false, false, false] ?_
            refine tpu 13 (some 35) #[true, true, true, true, true, true, true, true, true, true, true, true, true, true, false, false, false] ?_
            refine one_ (i := 14) (N := some 6) #[true, true, true, true, true, true, true, true, true, true, true, true, true, true, true, false, false] rfl rfl (one_of HT_.out (by kernel_rfl)) (by decide) (fun K hK => ?_)
            refine box_step ?hg (N := 6) ?hd (cs := #[.bool false, .bool false, .int .i64 0, .int .i64 0, .int .i64 0, .slice none 0 0]) (t := 47) ?hr ?_; (case hd => rfl); (case hg => rfl); (case hr => first | (go_simp; done) | (go_simp; rfl))
            intro gb767 hg w19 hbox hb
            have HS0_ := tcb hb hHeld.1
            have HS1_ := tcb hb hHeld.2.1
            have HS2_ := tcb hb hHeld.2.2.1
            have HS3_ := tcb hb hHeld.2.2.2.1
            have HS4_ := tcb hb hHeld.2.2.2.2.1
            have HS5_ := tcb hb hHeld.2.2.2.2.2.1
            have HS6_ := tcb hb hHeld.2.2.2.2.2.2.1
            have HS7_ := tcb hb hHeld.2.2.2.2.2.2.2.1
            have HS8_ := tcb hb hHeld.2.2.2.2.2.2.2.2.1
            have HS9_ := tcb hb hHeld.2.2.2.2.2.2.2.2.2.1
            have HS10_ := tcb hb hHeld.2.2.2.2.2.2.2.2.2.2.1
            have HS11_ := tcb hb hHeld.2.2.2.2.2.2.2.2.2.2.2
            replace HO_0 := tVB HO_0 hg hb
            replace HO_4 := tNB HO_4 hg hb
            replace HL756_5 := tVB HL756_5 hg hb
            replace HL757_5 := tVB HL757_5 hg hb
            replace HO765 := tNB HO765 hg hb
            replace HR756_5 := tCb HR756_5 hb
            replace HR757_5 := tCb HR757_5 hb
            have BK767 := Aside0.mk (hbox)
            have GW767 := tge HB hg
            have GE767 := tge HB hg
            replace HB := tBs HB hb
            clear hb hbox hg
            refine hK.out _ _ ⟨HS0_, HS1_, HS2_, HS3_, HS4_, HS5_, HS6_, HS7_, HS8_, HS9_, HS10_, HS11_⟩ (fun hHeld => ?_)
            clear hK K
            refine tnm (some 6) ?_
            exact tnx (hCont (v764, gb767) _ ⟨hHeld, (tVm HL756_5.out), (tVm HL757_5.out), (tNm HO765.out), (tVm HO_0.out), (tNm HO_4.out), (tH BK767.out), GW767.out, GE767.out, zb⟩)
           ·skip
            refine box_step ?hg (N := 6) ?hd (cs := #[.bool false, .bool false, .int .i64 0, .int .i64 0, .int .i64 0, .slice none 0 0]) (t := 47) ?hr ?_; (case hd => rfl); (case hg => rfl); (case hr => first | (go_simp; done) | (go_simp; rfl))
            intro gb767 hg w18 hbox hb
            have HS0_ := tcb hb hHeld.1
            have HS1_ := tcb hb hHeld.2.1
            have HS2_ := tcb hb hHeld.2.2.1
            have HS3_ := tcb hb hHeld.2.2.2.1
            have HS4_ := tcb hb hHeld.2.2.2.2.1
            have HS5_ := tcb hb hHeld.2.2.2.2.2.1
            have HS6_ := tcb hb hHeld.2.2.2.2.2.2.1
            have HS7_ := tcb hb hHeld.2.2.2.2.2.2.2.1
            have HS8_ := tcb hb hHeld.2.2.2.2.2.2.2.2.1
            have HS9_ := tcb hb hHeld.2.2.2.2.2.2.2.2.2.1
            have HS10_ := tcb hb hHeld.2.2.2.2.2.2.2.2.2.2.1
            have HS11_ := tcb hb hHeld.2.2.2.2.2.2.2.2.2.2.2
            replace HO_0 := tVB HO_0 hg hb
            replace HO_4 := tNB HO_4 hg hb
            replace HL756_5 := tVB HL756_5 hg hb
            replace HL757_5 := tVB HL757_5 hg hb
            replace HR756_5 := tCb HR756_5 hb
            replace HR757_5 := tCb HR757_5 hb
            have BK767 := Aside0.mk (hbox)
            have GW767 := tge HB hg
            have GE767 := tge HB hg
            replace HB := tBs HB hb
            clear hb hbox hg
            refine hK.out _ _ ⟨HS0_, HS1_, HS2_, HS3_, HS4_, HS5_, HS6_, HS7_, HS8_, HS9_, HS10_, HS11_⟩ (fun hHeld => ?_)
            clear hK K
            refine tnm (some 6) ?_
            refine one_ (i := 10) (N := some 33) #[true, true, true, true, true, true, true, true, true, true, true, false, false, false, true, false, false] rfl rfl (one_of HT_.out (by kernel_rfl)) (by decide) (fun K hK => ?_)
            refine goes_ Tryd.func50 (by kernel_rfl) rfl #[.agg #[.bool ((rd_T47 x4_1 (ji9)).f0), .bool ((rd_T47 x4_1 (ji9)).f1), .int .i64 ((rd_T47 x4_1 (ji9)).f2), .int .i64 ((rd_T47 x4_1 (ji9)).f3), .int .i64 ((rd_T47 x4_1 (ji9)).f4), .slice A756_5 ((rd_T47 x4_1 (ji9)).f5).length c756_5], .agg #[.bool ((rd_T47 x0_1 x5_1).f0), .bool ((rd_T47 x0_1 x5_1).f1), .int .i64 ((rd_T47 x0_1 x5_1).f2), .int .i64 ((rd_T47 x0_1 x5_1).f3), .int .i64 ((rd_T47 x0_1 x5_1).f4), .slice A757_5 ((rd_T47 x0_1 x5_1).f5).length c757_5]] (by rfl) rfl rfl (by (try simp only [List.map_toArray, List.map_cons, List.map_nil]); first | done | (simp only [hji9]; rfl) | rfl | (simp only [List.length_drop, List.length_take]; rfl)) ?_
            with_reducible refine (spec_BatchJoin.calls k1 ((rd_T47 x4_1 (ji9)).f0) ((rd_T47 x4_1 (ji9)).f1) ((rd_T47 x4_1 (ji9)).f2) ((rd_T47 x4_1 (ji9)).f3) ((rd_T47 x4_1 (ji9)).f4) (fun k_ => (((P0_ k_ ∨ w.heap.size ≤ k_) ∧ some k_ ≠ (.slice (some ad756) x4_1.length co16 : Value).ownBlock) ∧ k_ ≠ gb767)) _ _ ((rd_T47 x4_1 (ji9)).f5) ((rd_T47 x0_1 x5_1).f0) ((rd_T47 x0_1 x5_1).f1) ((rd_T47 x0_1 x5_1).f2) ((rd_T47 x0_1 x5_1).f3) ((rd_T47 x0_1 x5_1).f4) (fun k_ => (((P0_ k_ ∨ w.heap.size ≤ k_) ∧ some k_ ≠ (.slice (some ad756) x4_1.length co16 : Value).ownBlock) ∧ k_ ≠ gb767)) _ _ ((rd_T47 x0_1 x5_1).f5) t758 t759 t760 t761 t762 t763 true _ ?side1 ?side2 A13.out).mono ?_
            (case side1 => exact HL756_5.out)
            (case side2 => exact HL757_5.out)
            rintro e w19 ⟨v764, rfl, ho0, hb⟩
            have HS0_ := tcb hb hHeld.1
            have HS1_ := tcb hb hHeld.2.1
            have HS2_ := tcb hb hHeld.2.2.1
            have HS3_ := tcb hb hHeld.2.2.2.1
            have HS4_ := tcb hb hHeld.2.2.2.2.1
            have HS5_ := tcb hb hHeld.2.2.2.2.2.1
            have HS6_ := tcb hb hHeld.2.2.2.2.2.2.1
            have HS7_ := tcb hb hHeld.2.2.2.2.2.2.2.1
            have HS8_ := tcb hb hHeld.2.2.2.2.2.2.2.2.1
            have HS9_ := tcb hb hHeld.2.2.2.2.2.2.2.2.2.1
            have HS10_ := tcb hb hHeld.2.2.2.2.2.2.2.2.2.2.1
            have HS11_ := tcb hb hHeld.2.2.2.2.2.2.2.2.2.2.2
            refine ⟨_, rfl, ?_⟩
            replace HO_0 := tVe HO_0 ho0 hb
            replace HL756_5 := tVe HL756_5 ho0 hb
            replace HL757_5 := tVe HL757_5 ho0 hb
            have HO765 := Aside0.mk (Kd.N_lower (Kd.N_mono (ok' := fun k_ => (P0_ k_ ∨ w.heap.size ≤ k_) ∧ some k_ ≠ (.slice (some ad756) x4_1.length co16 : Value).ownBlock ∧ k_ ≠ gb767) ho0 (fun k_ hk_ => ⟨Or.elim hk_ (fun hs_ => Or.elim hs_ (fun hs_ => hs_.1.1) (fun hs_ => hs_.1.1)) (fun hn_ => (.inr (Nat.le_trans (below_size zb) hn_))), Or.elim hk_ (fun hs_ => Or.elim hs_ (fun hs_ => hs_.1.2) (fun hs_ => hs_.1.2)) (fun hn_ => (tfr HO_4 k_ hn_)), Or.elim hk_ (fun hs_ => Or.elim hs_ (fun hs_ => hs_.2) (fun hs_ => hs_.2)) (fun hn_ => (tfB BK767 k_ hn_))⟩)) (below_size zb))
            replace HO_4 := tNe HO_4 ho0 hb
            replace HR756_5 := tCb HR756_5 hb
            replace HR757_5 := tCb HR757_5 hb
            replace BK767 := tBb BK767 hb
            replace HB := tBs HB hb
            (try clear hb)
            (try clear hb2)
            (try clear hk)
            (try clear hi)
            (try clear ho0)
            refine hK.out _ _ ⟨HS0_, HS1_, HS2_, HS3_, HS4_, HS5_, HS6_, HS7_, HS8_, HS9_, HS10_, HS11_⟩ (fun hHeld => ?_)
            clear hK K
            refine tnm (some 33) ?_
            refine tpu 11 (some 22) #[true, true, true, true, true, true, true, true, true, true, true, true, false, false, true, false, false] ?_
            refine tpu 12 (some 34) #[true, true, true, true, true, true, true, true, true, true, true, true, true, false, true, false, false] ?_
            refine tpu 13 (some 35) #[true, true, true, true, true, true, true, true, true, true, true, true, true, true, true, false, false] ?_
            exact tnx (hCont (v764, gb767) _ ⟨hHeld, (tVm HL756_5.out), (tVm HL757_5.out), (tN HO765.out), (tVm HO_0.out), (tNm HO_4.out), (tH BK767.out), GW767.out, GE767.out, zb⟩)
          rintro ⟨v764, gb767⟩ w20 ⟨hS_, h0_, h1_, h2_, h3_, h4_, h5_, h6_, h7_, h8_⟩
          have n0_ : Aside0 (Kd.V k33 33 w20 w.heap.size (fun k_ => (P0_ k_ ∨ w.heap.size ≤ k_) ∧ some k_ ≠ (v764 : Value).ownBlock ∧ some k_ ≠ (.slice (some ad756) x4_1.length co16 : Value).ownBlock ∧ k_ ≠ gb767) (.slice A756_5 ((rd_T47 x4_1 (ji9)).f5).length c756_5) ((rd_T47 x4_1 (ji9)).f5)) := ⟨h0_⟩
          have n1_ : Aside0 (Kd.V k33 33 w20 w.heap.size (fun k_ => (P0_ k_ ∨ w.heap.size ≤ k_) ∧ some k_ ≠ (v764 : Value).ownBlock ∧ some k_ ≠ (.slice (some ad756) x4_1.length co16 : Value).ownBlock ∧ k_ ≠ gb767) (.slice A757_5 ((rd_T47 x0_1 x5_1).f5).length c757_5) ((rd_T47 x0_1 x5_1).f5)) := ⟨h1_⟩
          have n2_ : Aside0 (Kd.N k33 33 w20 w.heap.size (fun k_ => (P0_ k_ ∨ w.heap.size ≤ k_) ∧ some k_ ≠ (.slice (some ad756) x4_1.length co16 : Value).ownBlock ∧ k_ ≠ gb767) v764 t763) := ⟨h2_⟩
          have n3_ : Aside0 (Kd.V k47 47 w20 w.heap.size (fun k_ => (P0_ k_ ∨ w.heap.size ≤ k_) ∧ some k_ ≠ (v764 : Value).ownBlock ∧ some k_ ≠ (.slice (some ad756) x4_1.length co16 : Value).ownBlock ∧ k_ ≠ gb767) (.slice (some ad757) x0_1.length c0) x0_1) := ⟨h3_⟩
          have n4_ : Aside0 (Kd.N k47 47 w20 w.heap.size (fun k_ => (P0_ k_ ∨ w.heap.size ≤ k_) ∧ some k_ ≠ (v764 : Value).ownBlock ∧ k_ ≠ gb767) (.slice (some ad756) x4_1.length co16) x4_1) := ⟨h4_⟩
          have n5_ : Aside0 (w20.heap[gb767]? = some (.cells #[.bool false, .bool false, .int .i64 0, .int .i64 0, .int .i64 0, .slice none 0 0] 47 (0, 0))) := ⟨h5_⟩
          have n6_ : Aside0 (w.heap.size ≤ gb767) := ⟨h6_⟩
          have n7_ : Aside0 (w.heap.size ≤ gb767) := ⟨h7_⟩
          have n8_ : Aside0 (Below w.heap.size w w20) := ⟨h8_⟩
          clear HO_0
          clear HO_4
          clear HB
          clear h0_ h1_ h2_ h3_ h4_ h5_ h6_ h7_ h8_
          have HL756_5 := n0_
          have HL757_5 := n1_
          have HO765 := n2_
          have HO_0 := n3_
          have HO_4 := n4_
          have BK767 := n5_
          have GW767 := n6_
          have GE767 := n7_
          have HB := n8_
          clear n0_ n1_ n2_ n3_ n4_ n5_ n6_ n7_ n8_
          have hHeld : w20.cell? (ad756.add (((ji9)).toNat * 6)) = some (.bool ((rd_T47 x4_1 (ji9)).f0)) ∧ w20.cell? ⟨(ad756.add (((ji9)).toNat * 6)).block, (ad756.add (((ji9)).toNat * 6)).off + 1, none⟩ = some (.bool ((rd_T47 x4_1 (ji9)).f1)) ∧ w20.cell? ⟨(ad756.add (((ji9)).toNat * 6)).block, (ad756.add (((ji9)).toNat * 6)).off + 2, none⟩ = some (.int .i64 ((rd_T47 x4_1 (ji9)).f2)) ∧ w20.cell? ⟨(ad756.add (((ji9)).toNat * 6)).block, (ad756.add (((ji9)).toNat * 6)).off + 3, none⟩ = some (.int .i64 ((rd_T47 x4_1 (ji9)).f3)) ∧ w20.cell? ⟨(ad756.add (((ji9)).toNat * 6)).block, (ad756.add (((ji9)).toNat * 6)).off + 4, none⟩ = some (.int .i64 ((rd_T47 x4_1 (ji9)).f4)) ∧ w20.cell? ⟨(ad756.add (((ji9)).toNat * 6)).block, (ad756.add (((ji9)).toNat * 6)).off + 5, none⟩ = some (.slice A756_5 ((rd_T47 x4_1 (ji9)).f5).length c756_5) ∧ w20.cell? (ad757.add ((x5_1).toNat * 6)) = some (.bool ((rd_T47 x0_1 x5_1).f0)) ∧ w20.cell? ⟨(ad757.add ((x5_1).toNat * 6)).block, (ad757.add ((x5_1).toNat * 6)).off + 1, none⟩ = some (.bool ((rd_T47 x0_1 x5_1).f1)) ∧ w20.cell? ⟨(ad757.add ((x5_1).toNat * 6)).block, (ad757.add ((x5_1).toNat * 6)).off + 2, none⟩ = some (.int .i64 ((rd_T47 x0_1 x5_1).f2)) ∧ w20.cell? ⟨(ad757.add ((x5_1).toNat * 6)).block, (ad757.add ((x5_1).toNat * 6)).off + 3, none⟩ = some (.int .i64 ((rd_T47 x0_1 x5_1).f3)) ∧ w20.cell? ⟨(ad757.add ((x5_1).toNat * 6)).block, (ad757.add ((x5_1).toNat * 6)).off + 4, none⟩ = some (.int .i64 ((rd_T47 x0_1 x5_1).f4)) ∧ w20.cell? ⟨(ad757.add ((x5_1).toNat * 6)).block, (ad757.add ((x5_1).toNat * 6)).off + 5, none⟩ = some (.slice A757_5 ((rd_T47 x0_1 x5_1).f5).length c757_5) := hS_
          obtain ⟨Ao26, co26, eo26⟩ := Kd.N_slice HO765.out
          (first | subst eo26 | (injection eo26 with f1_ f2_ f3_; have f4_ := f1_.symm; have f5_ := f3_.symm; clear f1_ f2_ f3_; subst f4_; subst f5_))
          refine tnp ?_
          refine one_ (i := 15) (N := none) #[true, true, true, true, true, true, true, true, true, true, true, true, true, true, true, true, false] rfl rfl (one_of HT_.out (by kernel_rfl)) (by decide) (fun K hK => ?_)
          have hs21 : w20.cell? ⟨gb767, 0, none⟩ = some (.bool false) := (blk_cell BK767.out 0).trans rfl
          have hfs21 := blk_frozen BK767.out 0
          have hs22 : w20.cell? ⟨gb767, 1, none⟩ = some (.bool false) := (blk_cell BK767.out 1).trans rfl
          have hfs22 := blk_frozen BK767.out 1
          have hs23 : w20.cell? ⟨gb767, 2, none⟩ = some (.int .i64 0) := (blk_cell BK767.out 2).trans rfl
          have hfs23 := blk_frozen BK767.out 2
          have hs24 : w20.cell? ⟨gb767, 3, none⟩ = some (.int .i64 0) := (blk_cell BK767.out 3).trans rfl
          have hfs24 := blk_frozen BK767.out 3
          have hs25 : w20.cell? ⟨gb767, 4, none⟩ = some (.int .i64 0) := (blk_cell BK767.out 4).trans rfl
          have hfs25 := blk_frozen BK767.out 4
          have hs27 : w20.cell? ⟨gb767, 5, none⟩ = some (.slice none 0 0) := (blk_cell BK767.out 5).trans rfl
          have hfs27 := blk_frozen BK767.out 5
          refine tsk ?_
          refine hK.out _ _ ⟨(tcg (Kd.own_blk (Kd.N_away HO_4.out (fun _ hk => hk.2.2))) hHeld.1), (tcg (Kd.own_blk (Kd.N_away HO_4.out (fun _ hk => hk.2.2))) hHeld.2.1), (tcg (Kd.own_blk (Kd.N_away HO_4.out (fun _ hk => hk.2.2))) hHeld.2.2.1), (tcg (Kd.own_blk (Kd.N_away HO_4.out (fun _ hk => hk.2.2))) hHeld.2.2.2.1), (tcg (Kd.own_blk (Kd.N_away HO_4.out (fun _ hk => hk.2.2))) hHeld.2.2.2.2.1), (tcg (Kd.own_blk (Kd.N_away HO_4.out (fun _ hk => hk.2.2))) hHeld.2.2.2.2.2.1), (tcg (Kd.own_blk (Kd.V_away HO_0.out (fun _ hk => hk.2.2.2))) hHeld.2.2.2.2.2.2.1), (tcg (Kd.own_blk (Kd.V_away HO_0.out (fun _ hk => hk.2.2.2))) hHeld.2.2.2.2.2.2.2.1), (tcg (Kd.own_blk (Kd.V_away HO_0.out (fun _ hk => hk.2.2.2))) hHeld.2.2.2.2.2.2.2.2.1), (tcg (Kd.own_blk (Kd.V_away HO_0.out (fun _ hk => hk.2.2.2))) hHeld.2.2.2.2.2.2.2.2.2.1), (tcg (Kd.own_blk (Kd.V_away HO_0.out (fun _ hk => hk.2.2.2))) hHeld.2.2.2.2.2.2.2.2.2.2.1), (tcg (Kd.own_blk (Kd.V_away HO_0.out (fun _ hk => hk.2.2.2))) hHeld.2.2.2.2.2.2.2.2.2.2.2)⟩ (fun hHeld => ?_)
          clear hK K
          refine tpu 16 (some 7) #[true, true, true, true, true, true, true, true, true, true, true, true, true, true, true, true, true] ?_
          refine done_ (done_of HT_.out (by kernel_rfl)) ?_
          have n0_ : Aside0 (Kd.V k47 47 ((((((w20.setCell ⟨gb767, 0, none⟩ (.bool t758)).setCell ⟨gb767, 1, none⟩ (.bool t759)).setCell ⟨gb767, 2, none⟩ (.int .i64 t760)).setCell ⟨gb767, 3, none⟩ (.int .i64 t761)).setCell ⟨gb767, 4, none⟩ (.int .i64 t762)).setCell ⟨gb767, 5, none⟩ (.slice Ao26 t763.length co26)) w.heap.size (fun k_ => (P0_ k_ ∨ w.heap.size ≤ k_) ∧ some k_ ≠ (.slice (some ad756) x4_1.length co16 : Value).ownBlock ∧ some k_ ≠ (.slice Ao26 t763.length co26 : Value).ownBlock ∧ k_ ≠ gb767) (.slice (some ad757) x0_1.length c0) x0_1) := ⟨tVm HO_0.out⟩
          have n1_ : Aside0 (Kd.N k47 47 ((((((w20.setCell ⟨gb767, 0, none⟩ (.bool t758)).setCell ⟨gb767, 1, none⟩ (.bool t759)).setCell ⟨gb767, 2, none⟩ (.int .i64 t760)).setCell ⟨gb767, 3, none⟩ (.int .i64 t761)).setCell ⟨gb767, 4, none⟩ (.int .i64 t762)).setCell ⟨gb767, 5, none⟩ (.slice Ao26 t763.length co26)) w.heap.size (fun k_ => (P0_ k_ ∨ w.heap.size ≤ k_) ∧ some k_ ≠ (.slice Ao26 t763.length co26 : Value).ownBlock ∧ k_ ≠ gb767) (.slice (some ad756) x4_1.length co16) x4_1) := ⟨tNm HO_4.out⟩
          have n2_ : Aside0 (Kd.V k33 33 ((((((w20.setCell ⟨gb767, 0, none⟩ (.bool t758)).setCell ⟨gb767, 1, none⟩ (.bool t759)).setCell ⟨gb767, 2, none⟩ (.int .i64 t760)).setCell ⟨gb767, 3, none⟩ (.int .i64 t761)).setCell ⟨gb767, 4, none⟩ (.int .i64 t762)).setCell ⟨gb767, 5, none⟩ (.slice Ao26 t763.length co26)) w.heap.size (fun k_ => (P0_ k_ ∨ w.heap.size ≤ k_) ∧ some k_ ≠ (.slice (some ad756) x4_1.length co16 : Value).ownBlock ∧ some k_ ≠ (.slice Ao26 t763.length co26 : Value).ownBlock ∧ k_ ≠ gb767) (.slice A756_5 ((rd_T47 x4_1 (ji9)).f5).length c756_5) ((rd_T47 x4_1 (ji9)).f5)) := ⟨tVm HL756_5.out⟩
          have n3_ : Aside0 (Kd.V k33 33 ((((((w20.setCell ⟨gb767, 0, none⟩ (.bool t758)).setCell ⟨gb767, 1, none⟩ (.bool t759)).setCell ⟨gb767, 2, none⟩ (.int .i64 t760)).setCell ⟨gb767, 3, none⟩ (.int .i64 t761)).setCell ⟨gb767, 4, none⟩ (.int .i64 t762)).setCell ⟨gb767, 5, none⟩ (.slice Ao26 t763.length co26)) w.heap.size (fun k_ => (P0_ k_ ∨ w.heap.size ≤ k_) ∧ some k_ ≠ (.slice (some ad756) x4_1.length co16 : Value).ownBlock ∧ some k_ ≠ (.slice Ao26 t763.length co26 : Value).ownBlock ∧ k_ ≠ gb767) (.slice A757_5 ((rd_T47 x0_1 x5_1).f5).length c757_5) ((rd_T47 x0_1 x5_1).f5)) := ⟨tVm HL757_5.out⟩
          have n4_ : Aside0 (Kd.N k33 33 ((((((w20.setCell ⟨gb767, 0, none⟩ (.bool t758)).setCell ⟨gb767, 1, none⟩ (.bool t759)).setCell ⟨gb767, 2, none⟩ (.int .i64 t760)).setCell ⟨gb767, 3, none⟩ (.int .i64 t761)).setCell ⟨gb767, 4, none⟩ (.int .i64 t762)).setCell ⟨gb767, 5, none⟩ (.slice Ao26 t763.length co26)) w.heap.size (fun k_ => (P0_ k_ ∨ w.heap.size ≤ k_) ∧ some k_ ≠ (.slice (some ad756) x4_1.length co16 : Value).ownBlock ∧ k_ ≠ gb767) (.slice Ao26 t763.length co26) t763) := ⟨tNm HO765.out⟩
          have n5_ : Aside0 (((((((w20.setCell ⟨gb767, 0, none⟩ (.bool t758)).setCell ⟨gb767, 1, none⟩ (.bool t759)).setCell ⟨gb767, 2, none⟩ (.int .i64 t760)).setCell ⟨gb767, 3, none⟩ (.int .i64 t761)).setCell ⟨gb767, 4, none⟩ (.int .i64 t762)).setCell ⟨gb767, 5, none⟩ (.slice Ao26 t763.length co26)).heap[gb767]? = some (.cells #[.bool t758, .bool t759, .int .i64 t760, .int .i64 t761, .int .i64 t762, .slice Ao26 t763.length co26] 47 (0, 0))) := ⟨tP BK767.out⟩
          have n6_ : Aside0 (Below w.heap.size w ((((((w20.setCell ⟨gb767, 0, none⟩ (.bool t758)).setCell ⟨gb767, 1, none⟩ (.bool t759)).setCell ⟨gb767, 2, none⟩ (.int .i64 t760)).setCell ⟨gb767, 3, none⟩ (.int .i64 t761)).setCell ⟨gb767, 4, none⟩ (.int .i64 t762)).setCell ⟨gb767, 5, none⟩ (.slice Ao26 t763.length co26))) := ⟨zb⟩
          (try clear HO_0)
          (try clear HO_4)
          (try clear HL756_5)
          (try clear HL757_5)
          (try clear HO765)
          (try clear BK767)
          (try clear HB)
          generalize ((((((w20.setCell ⟨gb767, 0, none⟩ (.bool t758)).setCell ⟨gb767, 1, none⟩ (.bool t759)).setCell ⟨gb767, 2, none⟩ (.int .i64 t760)).setCell ⟨gb767, 3, none⟩ (.int .i64 t761)).setCell ⟨gb767, 4, none⟩ (.int .i64 t762)).setCell ⟨gb767, 5, none⟩ (.slice Ao26 t763.length co26)) = w28 at n0_ n1_ n2_ n3_ n4_ n5_ n6_ ⊢
          have HO_0 := n0_
          have HO_4 := n1_
          have HL756_5 := n2_
          have HL757_5 := n3_
          have HO765 := n4_
          have BK767 := n5_
          have HB := n6_
          clear n0_ n1_ n2_ n3_ n4_ n5_ n6_
          obtain ⟨hcz29_0, hcz29_1, hcz29_2, hcz29_3, hcz29_4, hcz29_5, hfz29_0, hfz29_1, hfz29_2, hfz29_3, hfz29_4, hfz29_5⟩ := cells6 BK767.out
          have p15 : 0 ≤ ((ji9) : Int) := td
          have q15 : ((ji9) : Int) < ((x4_1.length : Int) : Int) := td
          obtain ⟨go15, co15, eo15, gb15, gl15, cl15, HG15⟩ := Kd.N_form HO_4.out (by omega)
          (first | cases eo15 | (injection eo15 with ea_ en_ ec_; (first | subst ea_ | (injection ea_ with ea_; subst ea_)); subst ec_; clear en_))
          have GB15 := Aside0.mk gb15
          have GG15 := Aside0.mk HG15
          clear gb15 gl15 HG15
          (first | simp only [add_plain] at hx756_0 | skip)
          (first | simp only [add_plain] at hx756_1 | skip)
          (first | simp only [add_plain] at hx756_2 | skip)
          (first | simp only [add_plain] at hx756_3 | skip)
          (first | simp only [add_plain] at hx756_4 | skip)
          (first | simp only [add_plain] at hx756_5 | skip)
          obtain ⟨ce15, hcl15, hM15, hcc15, hfr15⟩ := Kd.N_elem HO_4.out z47 ((ji9) : Int) p15 q15
          obtain ⟨ua15_5, uc15_5, rfl, ul15_5, ge15_5⟩ := k47_openF hM15
          have hx15_0 : w28.cell? ⟨go15, ((ji9) : Int).toNat * 6, none⟩ = some (.bool ((rd_T47 x4_1 (ji9)).f0)) := hcc15 0 _ rfl
          have hx15_1 : w28.cell? ⟨go15, ((ji9) : Int).toNat * 6 + 1, none⟩ = some (.bool ((rd_T47 x4_1 (ji9)).f1)) := hcc15 1 _ rfl
          have hx15_2 : w28.cell? ⟨go15, ((ji9) : Int).toNat * 6 + 2, none⟩ = some (.int .i64 ((rd_T47 x4_1 (ji9)).f2)) := hcc15 2 _ rfl
          have hx15_3 : w28.cell? ⟨go15, ((ji9) : Int).toNat * 6 + 3, none⟩ = some (.int .i64 ((rd_T47 x4_1 (ji9)).f3)) := hcc15 3 _ rfl
          have hx15_4 : w28.cell? ⟨go15, ((ji9) : Int).toNat * 6 + 4, none⟩ = some (.int .i64 ((rd_T47 x4_1 (ji9)).f4)) := hcc15 4 _ rfl
          have hx15_5 : w28.cell? ⟨go15, ((ji9) : Int).toNat * 6 + 5, none⟩ = some (.slice ua15_5 ((rd_T47 x4_1 (ji9)).f5).length uc15_5) := hcc15 5 _ rfl
          have hf15_0 : w28.frozen? ⟨go15, ((ji9) : Int).toNat * 6, none⟩ = false := hfr15 0
          have hf15_1 : w28.frozen? ⟨go15, ((ji9) : Int).toNat * 6 + 1, none⟩ = false := hfr15 1
          have hf15_2 : w28.frozen? ⟨go15, ((ji9) : Int).toNat * 6 + 2, none⟩ = false := hfr15 2
          have hf15_3 : w28.frozen? ⟨go15, ((ji9) : Int).toNat * 6 + 3, none⟩ = false := hfr15 3
          have hf15_4 : w28.frozen? ⟨go15, ((ji9) : Int).toNat * 6 + 4, none⟩ = false := hfr15 4
          have hf15_5 : w28.frozen? ⟨go15, ((ji9) : Int).toNat * 6 + 5, none⟩ = false := hfr15 5
          clear hcl15 hcc15 hfr15 hM15
          replace p15 := eq_true p15
          replace q15 := eq_true q15
          have HX30 := Aside0.mk (show Kd.N k47 47 w28 w.heap.size (fun k_ => (P0_ k_ ∨ w.heap.size ≤ k_) ∧ k_ ≠ gb767) (.slice (some ⟨go15, 0, none⟩) x4_1.length co16) x4_1 from (tNm HO_4.out))
          obtain ⟨ce30, hcl30, hM30, hcc30, hfr30⟩ := Kd.N_elem HX30.out z47 ((ji9) : Int) (td) (by have h_ : ((ji9) : Int) < ((x4_1.length : Int) : Int) := td; first | exact h_ | (have e_ := (Kd.N_reads' HO_4.out).1; omega) | simpa using h_)
          obtain ⟨ua30_5, uc30_5, rfl, ul30_5, ge30_5⟩ := k47_openF hM30
          have HP30 := Kd.N_seg HX30.out ((ji9) : Int) (td) (by have h_ : ((ji9) : Int) < ((x4_1.length : Int) : Int) := td; first | exact h_ | (have e_ := (Kd.N_reads' HO_4.out).1; omega) | simpa using h_) (seg := [.bool t758, .bool t759, .int .i64 t760, .int .i64 t761, .int .i64 t762, .slice Ao26 t763.length co26]) (j := 0) hcl30 hcc30 (show 6 ≤ 6 from by decide) (x' := (⟨t758, t759, t760, t761, t762, t763⟩ : S47)) (k47_mkF _ _ (⟨t758, t759, t760, t761, t762, t763⟩ : S47) (Kd.N_reads' (Kd.N_mono (ok' := (fun k_ => ((fun k_ => (P0_ k_ ∨ w.heap.size ≤ k_) ∧ k_ ≠ gb767)) k_ ∧ k_ ≠ go15)) (HO765.out) (fun k_ hk => ⟨⟨hk.1, hk.2.2⟩, fun e_ => (hk.2.1) (by rw [e_]; rfl)⟩))).2.1 (Kd.N_F (Kd.N_mono (ok' := (fun k_ => ((fun k_ => (P0_ k_ ∨ w.heap.size ≤ k_) ∧ k_ ≠ gb767)) k_ ∧ k_ ≠ go15)) (HO765.out) (fun k_ hk => ⟨⟨hk.1, hk.2.2⟩, fun e_ => (hk.2.1) (by rw [e_]; rfl)⟩)))) (fun _ hk => hk)
          have hx30_0 := hcc30 0 _ rfl
          (try simp only [show (k47).sz = 6 from rfl, Nat.mul_one, Nat.add_zero] at hx30_0)
          have hf30_0 := hfr30 0
          (try simp only [show (k47).sz = 6 from rfl, Nat.mul_one, Nat.add_zero] at hf30_0)
          have hx30_1 := hcc30 1 _ rfl
          (try simp only [show (k47).sz = 6 from rfl, Nat.mul_one, Nat.add_zero] at hx30_1)
          have hf30_1 := hfr30 1
          (try simp only [show (k47).sz = 6 from rfl, Nat.mul_one, Nat.add_zero] at hf30_1)
          have hx30_2 := hcc30 2 _ rfl
          (try simp only [show (k47).sz = 6 from rfl, Nat.mul_one, Nat.add_zero] at hx30_2)
          have hf30_2 := hfr30 2
          (try simp only [show (k47).sz = 6 from rfl, Nat.mul_one, Nat.add_zero] at hf30_2)
          have hx30_3 := hcc30 3 _ rfl
          (try simp only [show (k47).sz = 6 from rfl, Nat.mul_one, Nat.add_zero] at hx30_3)
          have hf30_3 := hfr30 3
          (try simp only [show (k47).sz = 6 from rfl, Nat.mul_one, Nat.add_zero] at hf30_3)
          have hx30_4 := hcc30 4 _ rfl
          (try simp only [show (k47).sz = 6 from rfl, Nat.mul_one, Nat.add_zero] at hx30_4)
          have hf30_4 := hfr30 4
          (try simp only [show (k47).sz = 6 from rfl, Nat.mul_one, Nat.add_zero] at hf30_4)
          have hx30_5 := hcc30 5 _ rfl
          (try simp only [show (k47).sz = 6 from rfl, Nat.mul_one, Nat.add_zero] at hx30_5)
          have hf30_5 := hfr30 5
          (try simp only [show (k47).sz = 6 from rfl, Nat.mul_one, Nat.add_zero] at hf30_5)
          clear hcl30 hcc30 hfr30 hM30
          try go_wp2_with (first | ((with_reducible refine gate_store (t := 47) (p := 42) rfl ?_); refine store_event (t := 47) (p := 42) (v := ?vo_w31) (w1 := ((((((w28.setCell ⟨go15, ((ji9) : Int).toNat * 6, none⟩ (.bool t758)).setCell ⟨go15, ((ji9) : Int).toNat * 6 + 1, none⟩ (.bool t759)).setCell ⟨go15, ((ji9) : Int).toNat * 6 + 2, none⟩ (.int .i64 t760)).setCell ⟨go15, ((ji9) : Int).toNat * 6 + 3, none⟩ (.int .i64 t761)).setCell ⟨go15, ((ji9) : Int).toNat * 6 + 4, none⟩ (.int .i64 t762)).setCell ⟨go15, ((ji9) : Int).toNat * 6 + 5, none⟩ (.slice Ao26 t763.length co26))) ?hg ?ho ?hn ?hr ?_; (case ho => rfl); (case hg => rfl); (case hn => rfl); (case hr => first | (go_simp; done) | (go_simp; rfl)); intro w31 hw; have hg : w28.grownBy w31 (some go15) := (by rw [hw]; exact HP30.2); have hp_ : Kd.N k47 47 w31 w.heap.size (fun k_ => (P0_ k_ ∨ w.heap.size ≤ k_) ∧ k_ ≠ gb767) (.slice (some ⟨go15, 0, none⟩) x4_1.length co16) y768 := (by rw [hw, Ny768.out]; exact HP30.1); clear HP30; replace HO_0 := Aside0.mk (Kd.V_afterv (v := (.slice (some ⟨go15, 0, none⟩) x4_1.length co16)) (v1 := (.slice (some ⟨go15, 0, none⟩) x4_1.length co16)) (ok := (fun k_ => (P0_ k_ ∨ w.heap.size ≤ k_) ∧ some k_ ≠ (.slice Ao26 t763.length co26 : Value).ownBlock ∧ k_ ≠ gb767)) (tVm HO_0.out) hg (.inl rfl)); replace HL756_5 := Aside0.mk (Kd.V_afterv (v := (.slice (some ⟨go15, 0, none⟩) x4_1.length co16)) (v1 := (.slice (some ⟨go15, 0, none⟩) x4_1.length co16)) (ok := (fun k_ => (P0_ k_ ∨ w.heap.size ≤ k_) ∧ some k_ ≠ (.slice Ao26 t763.length co26 : Value).ownBlock ∧ k_ ≠ gb767)) (tVm HL756_5.out) hg (.inl rfl)); replace HL757_5 := Aside0.mk (Kd.V_afterv (v := (.slice (some ⟨go15, 0, none⟩) x4_1.length co16)) (v1 := (.slice (some ⟨go15, 0, none⟩) x4_1.length co16)) (ok := (fun k_ => (P0_ k_ ∨ w.heap.size ≤ k_) ∧ some k_ ≠ (.slice Ao26 t763.length co26 : Value).ownBlock ∧ k_ ≠ gb767)) (tVm HL757_5.out) hg (.inl rfl)); replace BK767 := Aside0.mk (blk_grown (tH BK767.out) hg (Kd.N_away HO_4.out (fun _ hk => hk.2.2))); replace HO_4 := Aside0.mk (hp_); replace HB := Aside0.mk ((by rw [hw]; exact below_set (below_set (below_set (below_set (below_set (below_set (HB.out) GB15.out) GB15.out) GB15.out) GB15.out) GB15.out) GB15.out : Below w.heap.size w w31)); clear HO765; clear hg hw hp_))
          (try simp only [← hl0_1])
          go_roundg k1
          case measure => have := HK1.out; omega
          case rel => exact ⟨(x0_1), (y768), (wrap64 (x5_1 + 1)), tr, H', ⟨by have := HK1.out; omega⟩, ⟨by (try simp only [hl0_1]); (with_reducible repeat (first | apply Kd.V_alloc | apply Kd.V_drewN | apply Kd.V_drew)); exact Kd.V_mono HO_0.out (fun _ hk => ⟨hk.1.1, hk.2⟩)⟩, ⟨by (try simp only [hl0_1]); (with_reducible repeat (first | apply Kd.N_alloc | apply Kd.N_drewN | apply Kd.N_drew)); exact Kd.N_mono HO_4.out (fun _ hk => hk.1)⟩, ⟨zb⟩⟩
         ·replace c14 := Bool.eq_false_iff.mpr c14
          subst c14
          rw [if_neg (show ¬ (false = true) by decide)] at H
          replace H := tbe H
          obtain ⟨⟨t770, t771, t772, t773, t774, t775⟩, A32, H⟩ := H
          dsimp only at H
          by_cases c33 : x4_1.length < 2513169434916
          ·rw [if_pos c33] at H
           have LMc33 := Aside0.mk c33
           clear c33
           obtain ⟨y778, hy778⟩ : ∃ y_ : List (S47), y_ = (x4_1 ++ [(⟨t770, t771, t772, t773, t774, t775⟩ : S47)]) := ⟨_, rfl⟩
           replace H : (spec_LogEven.l0 k1 x0_1 y778 (wrap64 (x5_1 + 1))) = some (r1, r2) := by first | (rw [hy778]; with_reducible exact H) | (have H2_ := (Option.bind_some _ _).symm.trans H; rw [hy778]; with_reducible exact H2_) | (have H2_ := (Option.bind_some _ _).symm.trans H; with_reducible exact H2_) | with_reducible exact H | (rw [hy778]; exact H) | exact H
           have Ny778 := Aside0.mk hy778
           clear hy778
           have H' := Aside0.mk H
           clear H
           obtain ⟨Ao34, co34, eo34⟩ := Kd.N_slice HO_4.out
           subst eo34
           try go_wp2
           replace HO_0 := Aside0.mk (Kd.V_drew HO_0.out)
           replace HO_4 := Aside0.mk (Kd.N_drew HO_4.out)
           replace HB := Aside0.mk (below_drew1 HB.out)
           have p756 : 0 ≤ ((ji9) : Int) := td
           have q756 : (ji9) < (x4_1.length : Int) := td
           obtain ⟨ad756, A756_5, c756_5, e756, hx756_0, hx756_1, hx756_2, hx756_3, hx756_4, hx756_5, hl756_5, hi756_5⟩ := at_T47 (Kd.N_reads' HO_4.out).2.2 (ji9) p756 q756
           cases e756
           obtain ⟨ce756, hce756, hMe756, hcc756⟩ := Kd.N_get HO_4.out z47 (ji9) p756 (by first | exact q756 | exact td | (have e_ := (Kd.N_reads' HO_4.out).1; omega))
           obtain ⟨ua756_5, uc756_5, rfl, ul756_5, ge756_5⟩ := k47_openF hMe756
           have hv756_5 := hcc756 5 _ rfl
           rw [add_field _ _ 5 (by omega)] at hv756_5
           replace hv756_5 := Option.some.inj (hv756_5.symm.trans hx756_5)
           injection hv756_5 with hva_ hvn_ hvc_
           rw [hva_] at ge756_5
           rw [hvc_] at ul756_5
           have HL756_5 := Aside0.mk (show Kd.V k33 33 _ w.heap.size _ _ ((rd_T47 x4_1 (ji9)).f5) from Kd.V_mk ul756_5 ge756_5)
           clear hva_ hvn_ hvc_ ge756_5 ul756_5
           clear hcc756 hce756
           have HR756_5 := Aside0.mk hi756_5
           have HC756_5 := Aside0.mk hl756_5
           clear hi756_5 hl756_5
           replace p756 := eq_true p756
           replace q756 := eq_true q756
           have p757 : 0 ≤ (x5_1 : Int) := td
           have q757 : x5_1 < (x0_1.length : Int) := td
           obtain ⟨ad757, A757_5, c757_5, e757, hx757_0, hx757_1, hx757_2, hx757_3, hx757_4, hx757_5, hl757_5, hi757_5⟩ := at_T47 (Kd.V_reads' HO_0.out).2.2 x5_1 p757 q757
           cases e757
           obtain ⟨ce757, hce757, hMe757, hcc757⟩ := Kd.V_get HO_0.out z47 x5_1 p757 (by first | exact q757 | exact td | (have e_ := (Kd.V_reads' HO_0.out).1; omega))
           obtain ⟨ua757_5, uc757_5, rfl, ul757_5, ge757_5⟩ := k47_openF hMe757
           have hv757_5 := hcc757 5 _ rfl
           rw [add_field _ _ 5 (by omega)] at hv757_5
           replace hv757_5 := Option.some.inj (hv757_5.symm.trans hx757_5)
           injection hv757_5 with hva_ hvn_ hvc_
           rw [hva_] at ge757_5
           rw [hvc_] at ul757_5
           have HL757_5 := Aside0.mk (show Kd.V k33 33 _ w.heap.size _ _ ((rd_T47 x0_1 x5_1).f5) from Kd.V_mk ul757_5 ge757_5)
           clear hva_ hvn_ hvc_ ge757_5 ul757_5
           clear hcc757 hce757
           have HR757_5 := Aside0.mk hi757_5
           have HC757_5 := Aside0.mk hl757_5
           clear hi757_5 hl757_5
           replace p757 := eq_true p757
           replace q757 := eq_true q757
           refine start_ (n := 17) (S := fun w' => w'.cell? (ad756.add (((ji9)).toNat * 6)) = some (.bool ((rd_T47 x4_1 (ji9)).f0)) ∧ w'.cell? ⟨(ad756.add (((ji9)).toNat * 6)).block, (ad756.add (((ji9)).toNat * 6)).off + 1, none⟩ = some (.bool ((rd_T47 x4_1 (ji9)).f1)) ∧ w'.cell? ⟨(ad756.add (((ji9)).toNat * 6)).block, (ad756.add (((ji9)).toNat * 6)).off + 2, none⟩ = some (.int .i64 ((rd_T47 x4_1 (ji9)).f2)) ∧ w'.cell? ⟨(ad756.add (((ji9)).toNat * 6)).block, (ad756.add (((ji9)).toNat * 6)).off + 3, none⟩ = some (.int .i64 ((rd_T47 x4_1 (ji9)).f3)) ∧ w'.cell? ⟨(ad756.add (((ji9)).toNat * 6)).block, (ad756.add (((ji9)).toNat * 6)).off + 4, none⟩ = some (.int .i64 ((rd_T47 x4_1 (ji9)).f4)) ∧ w'.cell? ⟨(ad756.add (((ji9)).toNat * 6)).block, (ad756.add (((ji9)).toNat * 6)).off + 5, none⟩ = some (.slice A756_5 ((rd_T47 x4_1 (ji9)).f5).length c756_5) ∧ w'.cell? (ad757.add ((x5_1).toNat * 6)) = some (.bool ((rd_T47 x0_1 x5_1).f0)) ∧ w'.cell? ⟨(ad757.add ((x5_1).toNat * 6)).block, (ad757.add ((x5_1).toNat * 6)).off + 1, none⟩ = some (.bool ((rd_T47 x0_1 x5_1).f1)) ∧ w'.cell? ⟨(ad757.add ((x5_1).toNat * 6)).block, (ad757.add ((x5_1).toNat * 6)).off + 2, none⟩ = some (.int .i64 ((rd_T47 x0_1 x5_1).f2)) ∧ w'.cell? ⟨(ad757.add ((x5_1).toNat * 6)).block, (ad757.add ((x5_1).toNat * 6)).off + 3, none⟩ = some (.int .i64 ((rd_T47 x0_1 x5_1).f3)) ∧ w'.cell? ⟨(ad757.add ((x5_1).toNat * 6)).block, (ad757.add ((x5_1).toNat * 6)).off + 4, none⟩ = some (.int .i64 ((rd_T47 x0_1 x5_1).f4)) ∧ w'.cell? ⟨(ad757.add ((x5_1).toNat * 6)).block, (ad757.add ((x5_1).toNat * 6)).off + 5, none⟩ = some (.slice A757_5 ((rd_T47 x0_1 x5_1).f5).length c757_5)) (ds := []) #[false, false, false, false, false, false, false, false, false, false, false, false, false, false, false, false, false] (by kernel_rfl) rfl rfl ⟨hx756_0, hx756_1, hx756_2, hx756_3, hx756_4, hx756_5, hx757_0, hx757_1, hx757_2, hx757_3, hx757_4, hx757_5⟩ (fun hHeld => ?_); refine with_tabW spec_LogEven.tab8 spec_LogEven.bits8 (fun HT_ HW_ => ?_)
           generalize wr.drew = w35 at HO_0 HO_4 HB HL756_5 HL757_5 HR756_5 HR757_5 hx756_0 hx756_1 hx756_2 hx756_3 hx756_4 hx756_5 hx757_0 hx757_1 hx757_2 hx757_3 hx757_4 hx757_5 hHeld ⊢
           refine tpu 0 (some 23) #[true, false, false, false, false, false, false, false, false, false, false, false, false, false, false, false, false] ?_
           refine tpu 1 (some 24) #[true, true, false, false, false, false, false, false, false, false, false, false, false, false, false, false, false] ?_
           refine tpu 2 (some 25) #[true, true, true, false, false, false, false, false, false, false, false, false, false, false, false, false, false] ?_
           refine tpu 3 (some 26) #[true, true, true, true, false, false, false, false, false, false, false, false, false, false, false, false, false] ?_
           refine tpu 4 (some 27) #[true, true, true, true, true, false, false, false, false, false, false, false, false, false, false, false, false] ?_
           refine tpu 6 (some 29) #[true, true, true, true, true, false, true, false, false, false, false, false, false, false, false, false, false] ?_
           refine tpu 7 (some 30) #[true, true, true, true, true, false, true, true, false, false, false, false, false, false, false, false, false] ?_
           refine tpu 8 (some 31) #[true, true, true, true, true, false, true, true, true, false, false, false, false, false, false, false, false] ?_
           refine tta 5 (some 28) #[true, true, true, true, true, true, true, true, true, false, false, false, false, false, false, false, false] hHeld ?_ (hy := by rintro w' ⟨s0, s1, s2, s3, s4, s5, s6, s7, s8, s9, s10, s11⟩; go_simp; with_reducible rfl)
           refine tta 9 (some 32) #[true, true, true, true, true, true, true, true, true, true, false, false, false, false, false, false, false] hHeld ?_ (hy := by rintro w' ⟨s0, s1, s2, s3, s4, s5, s6, s7, s8, s9, s10, s11⟩; go_simp; with_reducible rfl)
           refine join_ (σ := Value × Nat) 2 #[true, true, true, true, true, true, true, true, true, true, true, true, true, true, true, false, false] (fun s_ => [(33, .tuple #[.agg #[.bool t758, .bool t759, .int .i64 t760, .int .i64 t761, .int .i64 t762, s_.1], .bool false]), (6, .pointer (some ⟨s_.2, 0, none⟩)), (22, .tuple #[.agg #[.bool t758, .bool t759, .int .i64 t760, .int .i64 t761, .int .i64 t762, s_.1], .bool false]), (34, .agg #[.bool t758, .bool t759, .int .i64 t760, .int .i64 t761, .int .i64 t762, s_.1]), (35, .bool false)]) (fun s_ w' => (w'.cell? (ad756.add (((ji9)).toNat * 6)) = some (.bool ((rd_T47 x4_1 (ji9)).f0)) ∧ w'.cell? ⟨(ad756.add (((ji9)).toNat * 6)).block, (ad756.add (((ji9)).toNat * 6)).off + 1, none⟩ = some (.bool ((rd_T47 x4_1 (ji9)).f1)) ∧ w'.cell? ⟨(ad756.add (((ji9)).toNat * 6)).block, (ad756.add (((ji9)).toNat * 6)).off + 2, none⟩ = some (.int .i64 ((rd_T47 x4_1 (ji9)).f2)) ∧ w'.cell? ⟨(ad756.add (((ji9)).toNat * 6)).block, (ad756.add (((ji9)).toNat * 6)).off + 3, none⟩ = some (.int .i64 ((rd_T47 x4_1 (ji9)).f3)) ∧ w'.cell? ⟨(ad756.add (((ji9)).toNat * 6)).block, (ad756.add (((ji9)).toNat * 6)).off + 4, none⟩ = some (.int .i64 ((rd_T47 x4_1 (ji9)).f4)) ∧ w'.cell? ⟨(ad756.add (((ji9)).toNat * 6)).block, (ad756.add (((ji9)).toNat * 6)).off + 5, none⟩ = some (.slice A756_5 ((rd_T47 x4_1 (ji9)).f5).length c756_5) ∧ w'.cell? (ad757.add ((x5_1).toNat * 6)) = some (.bool ((rd_T47 x0_1 x5_1).f0)) ∧ w'.cell? ⟨(ad757.add ((x5_1).toNat * 6)).block, (ad757.add ((x5_1).toNat * 6)).off + 1, none⟩ = some (.bool ((rd_T47 x0_1 x5_1).f1)) ∧ w'.cell? ⟨(ad757.add ((x5_1).toNat * 6)).block, (ad757.add ((x5_1).toNat * 6)).off + 2, none⟩ = some (.int .i64 ((rd_T47 x0_1 x5_1).f2)) ∧ w'.cell? ⟨(ad757.add ((x5_1).toNat * 6)).block, (ad757.add ((x5_1).toNat * 6)).off + 3, none⟩ = some (.int .i64 ((rd_T47 x0_1 x5_1).f3)) ∧ w'.cell? ⟨(ad757.add ((x5_1).toNat * 6)).block, (ad757.add ((x5_1).toNat * 6)).off + 4, none⟩ = some (.int .i64 ((rd_T47 x0_1 x5_1).f4)) ∧ w'.cell? ⟨(ad757.add ((x5_1).toNat * 6)).block, (ad757.add ((x5_1).toNat * 6)).off + 5, none⟩ = some (.slice A757_5 ((rd_T47 x0_1 x5_1).f5).length c757_5)) ∧ (Kd.V k33 33 w' w.heap.size (fun k_ => (P0_ k_ ∨ w.heap.size ≤ k_) ∧ some k_ ≠ (s_.1 : Value).ownBlock ∧ some k_ ≠ (.slice (some ad756) x4_1.length co34 : Value).ownBlock ∧ k_ ≠ s_.2) (.slice A756_5 ((rd_T47 x4_1 (ji9)).f5).length c756_5) ((rd_T47 x4_1 (ji9)).f5)) ∧ (Kd.V k33 33 w' w.heap.size (fun k_ => (P0_ k_ ∨ w.heap.size ≤ k_) ∧ some k_ ≠ (s_.1 : Value).ownBlock ∧ some k_ ≠ (.slice (some ad756) x4_1.length co34 : Value).ownBlock ∧ k_ ≠ s_.2) (.slice A757_5 ((rd_T47 x0_1 x5_1).f5).length c757_5) ((rd_T47 x0_1 x5_1).f5)) ∧ (Kd.N k33 33 w' w.heap.size (fun k_ => (P0_ k_ ∨ w.heap.size ≤ k_) ∧ some k_ ≠ (.slice (some ad756) x4_1.length co34 : Value).ownBlock ∧ k_ ≠ s_.2) s_.1 t763) ∧ (Kd.V k47 47 w' w.heap.size (fun k_ => (P0_ k_ ∨ w.heap.size ≤ k_) ∧ some k_ ≠ (s_.1 : Value).ownBlock ∧ some k_ ≠ (.slice (some ad756) x4_1.length co34 : Value).ownBlock ∧ k_ ≠ s_.2) (.slice (some ad757) x0_1.length c0) x0_1) ∧ (Kd.N k47 47 w' w.heap.size (fun k_ => (P0_ k_ ∨ w.heap.size ≤ k_) ∧ some k_ ≠ (s_.1 : Value).ownBlock ∧ k_ ≠ s_.2) (.slice (some ad756) x4_1.length co34) x4_1) ∧ (w'.heap[s_.2]? = some (.cells #[.bool false, .bool false, .int .i64 0, .int .i64 0, .int .i64 0, .slice none 0 0] 47 (0, 0))) ∧ (w.heap.size ≤ s_.2) ∧ (w.heap.size ≤ s_.2) ∧ (Below w.heap.size w w')) ?_ ?_
           rotate_left
           ·intro hCont
            refine two_ (i := 10) (j := 14) (Ni := some 33) (Nj := some 6) #[true, true, true, true, true, true, true, true, true, true, true, false, false, false, false, false, false] #[true, true, true, true, true, true, true, true, true, true, false, false, false, false, true, false, false] rfl rfl rfl rfl (two_of HT_.out (by kernel_rfl)) (by decide) (by decide) (fun K hK => ?_) (fun K hK => ?_)
            ·skip
             refine goes_ Tryd.func50 (by kernel_rfl) rfl #[.agg #[.bool ((rd_T47 x4_1 (ji9)).f0), .bool ((rd_T47 x4_1 (ji9)).f1), .int .i64 ((rd_T47 x4_1 (ji9)).f2), .int .i64 ((rd_T47 x4_1 (ji9)).f3), .int .i64 ((rd_T47 x4_1 (ji9)).f4), .slice A756_5 ((rd_T47 x4_1 (ji9)).f5).length c756_5], .agg #[.bool ((rd_T47 x0_1 x5_1).f0), .bool ((rd_T47 x0_1 x5_1).f1), .int .i64 ((rd_T47 x0_1 x5_1).f2), .int .i64 ((rd_T47 x0_1 x5_1).f3), .int .i64 ((rd_T47 x0_1 x5_1).f4), .slice A757_5 ((rd_T47 x0_1 x5_1).f5).length c757_5]] (by rfl) rfl rfl (by (try simp only [List.map_toArray, List.map_cons, List.map_nil]); first | done | (simp only [hji9]; rfl) | rfl | (simp only [List.length_drop, List.length_take]; rfl)) ?_
             with_reducible refine (spec_BatchJoin.calls k1 ((rd_T47 x4_1 (ji9)).f0) ((rd_T47 x4_1 (ji9)).f1) ((rd_T47 x4_1 (ji9)).f2) ((rd_T47 x4_1 (ji9)).f3) ((rd_T47 x4_1 (ji9)).f4) (fun k_ => ((P0_ k_ ∨ w.heap.size ≤ k_) ∧ some k_ ≠ (.slice (some ad756) x4_1.length co34 : Value).ownBlock)) _ _ ((rd_T47 x4_1 (ji9)).f5) ((rd_T47 x0_1 x5_1).f0) ((rd_T47 x0_1 x5_1).f1) ((rd_T47 x0_1 x5_1).f2) ((rd_T47 x0_1 x5_1).f3) ((rd_T47 x0_1 x5_1).f4) (fun k_ => ((P0_ k_ ∨ w.heap.size ≤ k_) ∧ some k_ ≠ (.slice (some ad756) x4_1.length co34 : Value).ownBlock)) _ _ ((rd_T47 x0_1 x5_1).f5) t758 t759 t760 t761 t762 t763 false _ ?side1 ?side2 A13.out).mono ?_
             (case side1 => exact HL756_5.out)
             (case side2 => exact HL757_5.out)
             rintro e w36 ⟨v764, rfl, ho0, hb⟩
             have HS0_ := tcb hb hHeld.1
             have HS1_ := tcb hb hHeld.2.1
             have HS2_ := tcb hb hHeld.2.2.1
             have HS3_ := tcb hb hHeld.2.2.2.1
             have HS4_ := tcb hb hHeld.2.2.2.2.1
             have HS5_ := tcb hb hHeld.2.2.2.2.2.1
             have HS6_ := tcb hb hHeld.2.2.2.2.2.2.1
             have HS7_ := tcb hb hHeld.2.2.2.2.2.2.2.1
             have HS8_ := tcb hb hHeld.2.2.2.2.2.2.2.2.1
             have HS9_ := tcb hb hHeld.2.2.2.2.2.2.2.2.2.1
             have HS10_ := tcb hb hHeld.2.2.2.2.2.2.2.2.2.2.1
             have HS11_ := tcb hb hHeld.2.2.2.2.2.2.2.2.2.2.2
             refine ⟨_, rfl, ?_⟩
             replace HO_0 := tVe HO_0 ho0 hb
             replace HL756_5 := tVe HL756_5 ho0 hb
             replace HL757_5 := tVe HL757_5 ho0 hb
             have HO765 := Aside0.mk (Kd.N_lower (Kd.N_mono (ok' := fun k_ => (P0_ k_ ∨ w.heap.size ≤ k_) ∧ some k_ ≠ (.slice (some ad756) x4_1.length co34 : Value).ownBlock) ho0 (fun k_ hk_ => ⟨Or.elim hk_ (fun hs_ => Or.elim hs_ (fun hs_ => hs_.1) (fun hs_ => hs_.1)) (fun hn_ => (.inr (Nat.le_trans (below_size zb) hn_))), Or.elim hk_ (fun hs_ => Or.elim hs_ (fun hs_ => hs_.2) (fun hs_ => hs_.2)) (fun hn_ => (tfr HO_4 k_ hn_))⟩)) (below_size zb))
             replace HO_4 := tNe HO_4 ho0 hb
             replace HR756_5 := tCb HR756_5 hb
             replace HR757_5 := tCb HR757_5 hb
             replace HB := tBs HB hb
             (try clear hb)
             (try clear hb2)
             (try clear hk)
             (try clear hi)
             (try clear ho0)
             refine hK.out _ _ ⟨HS0_, HS1_, HS2_, HS3_, HS4_, HS5_, HS6_, HS7_, HS8_, HS9_, HS10_, HS11_⟩ (fun hHeld => ?_)
             clear hK K
             refine tnm (some 33) ?_
             refine tpu 11 (some 22) #[true, true, true, true, true, true, true, true, true, true, true, true, false, false, false, false, false] ?_
             refine tpu 12 (some 34) #[true, true, true, true, true, true, true, true, true, true, true, true, true, false, false, false, false] ?_
             refine tpu 13 (some 35) #[true, true, true, true, true, true, true, true, true, true, true, true, true, true, false, false, false] ?_
             refine one_ (i := 14) (N := some 6) #[true, true, true, true, true, true, true, true, true, true, true, true, true, true, true, false, false] rfl rfl (one_of HT_.out (by kernel_rfl)) (by decide) (fun K hK => ?_)
             refine box_step ?hg (N := 6) ?hd (cs := #[.bool false, .bool false, .int .i64 0, .int .i64 0, .int .i64 0, .slice none 0 0]) (t := 47) ?hr ?_; (case hd => rfl); (case hg => rfl); (case hr => first | (go_simp; done) | (go_simp; rfl))
             intro gb767 hg w37 hbox hb
             have HS0_ := tcb hb hHeld.1
             have HS1_ := tcb hb hHeld.2.1
             have HS2_ := tcb hb hHeld.2.2.1
             have HS3_ := tcb hb hHeld.2.2.2.1
             have HS4_ := tcb hb hHeld.2.2.2.2.1
             have HS5_ := tcb hb hHeld.2.2.2.2.2.1
             have HS6_ := tcb hb hHeld.2.2.2.2.2.2.1
             have HS7_ := tcb hb hHeld.2.2.2.2.2.2.2.1
             have HS8_ := tcb hb hHeld.2.2.2.2.2.2.2.2.1
             have HS9_ := tcb hb hHeld.2.2.2.2.2.2.2.2.2.1
             have HS10_ := tcb hb hHeld.2.2.2.2.2.2.2.2.2.2.1
             have HS11_ := tcb hb hHeld.2.2.2.2.2.2.2.2.2.2.2
             replace HO_0 := tVB HO_0 hg hb
             replace HO_4 := tNB HO_4 hg hb
             replace HL756_5 := tVB HL756_5 hg hb
             replace HL757_5 := tVB HL757_5 hg hb
             replace HO765 := tNB HO765 hg hb
             replace HR756_5 := tCb HR756_5 hb
             replace HR757_5 := tCb HR757_5 hb
             have BK767 := Aside0.mk (hbox)
             have GW767 := tge HB hg
             have GE767 := tge HB hg
             replace HB := tBs HB hb
             clear hb hbox hg
             refine hK.out _ _ ⟨HS0_, HS1_, HS2_, HS3_, HS4_, HS5_, HS6_, HS7_, HS8_, HS9_, HS10_, HS11_⟩ (fun hHeld => ?_)
             clear hK K
             refine tnm (some 6) ?_
             exact tnx (hCont (v764, gb767) _ ⟨hHeld, (tVm HL756_5.out), (tVm HL757_5.out), (tNm HO765.out), (tVm HO_0.out), (tNm HO_4.out), (tH BK767.out), GW767.out, GE767.out, zb⟩)
            ·skip
             refine box_step ?hg (N := 6) ?hd (cs := #[.bool false, .bool false, .int .i64 0, .int .i64 0, .int .i64 0, .slice none 0 0]) (t := 47) ?hr ?_; (case hd => rfl); (case hg => rfl); (case hr => first | (go_simp; done) | (go_simp; rfl))
             intro gb767 hg w36 hbox hb
             have HS0_ := tcb hb hHeld.1
             have HS1_ := tcb hb hHeld.2.1
             have HS2_ := tcb hb hHeld.2.2.1
             have HS3_ := tcb hb hHeld.2.2.2.1
             have HS4_ := tcb hb hHeld.2.2.2.2.1
             have HS5_ := tcb hb hHeld.2.2.2.2.2.1
             have HS6_ := tcb hb hHeld.2.2.2.2.2.2.1
             have HS7_ := tcb hb hHeld.2.2.2.2.2.2.2.1
             have HS8_ := tcb hb hHeld.2.2.2.2.2.2.2.2.1
             have HS9_ := tcb hb hHeld.2.2.2.2.2.2.2.2.2.1
             have HS10_ := tcb hb hHeld.2.2.2.2.2.2.2.2.2.2.1
             have HS11_ := tcb hb hHeld.2.2.2.2.2.2.2.2.2.2.2
             replace HO_0 := tVB HO_0 hg hb
             replace HO_4 := tNB HO_4 hg hb
             replace HL756_5 := tVB HL756_5 hg hb
             replace HL757_5 := tVB HL757_5 hg hb
             replace HR756_5 := tCb HR756_5 hb
             replace HR757_5 := tCb HR757_5 hb
             have BK767 := Aside0.mk (hbox)
             have GW767 := tge HB hg
             have GE767 := tge HB hg
             replace HB := tBs HB hb
             clear hb hbox hg
             refine hK.out _ _ ⟨HS0_, HS1_, HS2_, HS3_, HS4_, HS5_, HS6_, HS7_, HS8_, HS9_, HS10_, HS11_⟩ (fun hHeld => ?_)
             clear hK K
             refine tnm (some 6) ?_
             refine one_ (i := 10) (N := some 33) #[true, true, true, true, true, true, true, true, true, true, true, false, false, false, true, false, false] rfl rfl (one_of HT_.out (by kernel_rfl)) (by decide) (fun K hK => ?_)
             refine goes_ Tryd.func50 (by kernel_rfl) rfl #[.agg #[.bool ((rd_T47 x4_1 (ji9)).f0), .bool ((rd_T47 x4_1 (ji9)).f1), .int .i64 ((rd_T47 x4_1 (ji9)).f2), .int .i64 ((rd_T47 x4_1 (ji9)).f3), .int .i64 ((rd_T47 x4_1 (ji9)).f4), .slice A756_5 ((rd_T47 x4_1 (ji9)).f5).length c756_5], .agg #[.bool ((rd_T47 x0_1 x5_1).f0), .bool ((rd_T47 x0_1 x5_1).f1), .int .i64 ((rd_T47 x0_1 x5_1).f2), .int .i64 ((rd_T47 x0_1 x5_1).f3), .int .i64 ((rd_T47 x0_1 x5_1).f4), .slice A757_5 ((rd_T47 x0_1 x5_1).f5).length c757_5]] (by rfl) rfl rfl (by (try simp only [List.map_toArray, List.map_cons, List.map_nil]); first | done | (simp only [hji9]; rfl) | rfl | (simp only [List.length_drop, List.length_take]; rfl)) ?_
             with_reducible refine (spec_BatchJoin.calls k1 ((rd_T47 x4_1 (ji9)).f0) ((rd_T47 x4_1 (ji9)).f1) ((rd_T47 x4_1 (ji9)).f2) ((rd_T47 x4_1 (ji9)).f3) ((rd_T47 x4_1 (ji9)).f4) (fun k_ => (((P0_ k_ ∨ w.heap.size ≤ k_) ∧ some k_ ≠ (.slice (some ad756) x4_1.length co34 : Value).ownBlock) ∧ k_ ≠ gb767)) _ _ ((rd_T47 x4_1 (ji9)).f5) ((rd_T47 x0_1 x5_1).f0) ((rd_T47 x0_1 x5_1).f1) ((rd_T47 x0_1 x5_1).f2) ((rd_T47 x0_1 x5_1).f3) ((rd_T47 x0_1 x5_1).f4) (fun k_ => (((P0_ k_ ∨ w.heap.size ≤ k_) ∧ some k_ ≠ (.slice (some ad756) x4_1.length co34 : Value).ownBlock) ∧ k_ ≠ gb767)) _ _ ((rd_T47 x0_1 x5_1).f5) t758 t759 t760 t761 t762 t763 false _ ?side1 ?side2 A13.out).mono ?_
             (case side1 => exact HL756_5.out)
             (case side2 => exact HL757_5.out)
             rintro e w37 ⟨v764, rfl, ho0, hb⟩
             have HS0_ := tcb hb hHeld.1
             have HS1_ := tcb hb hHeld.2.1
             have HS2_ := tcb hb hHeld.2.2.1
             have HS3_ := tcb hb hHeld.2.2.2.1
             have HS4_ := tcb hb hHeld.2.2.2.2.1
             have HS5_ := tcb hb hHeld.2.2.2.2.2.1
             have HS6_ := tcb hb hHeld.2.2.2.2.2.2.1
             have HS7_ := tcb hb hHeld.2.2.2.2.2.2.2.1
             have HS8_ := tcb hb hHeld.2.2.2.2.2.2.2.2.1
             have HS9_ := tcb hb hHeld.2.2.2.2.2.2.2.2.2.1
             have HS10_ := tcb hb hHeld.2.2.2.2.2.2.2.2.2.2.1
             have HS11_ := tcb hb hHeld.2.2.2.2.2.2.2.2.2.2.2
             refine ⟨_, rfl, ?_⟩
             replace HO_0 := tVe HO_0 ho0 hb
             replace HL756_5 := tVe HL756_5 ho0 hb
             replace HL757_5 := tVe HL757_5 ho0 hb
             have HO765 := Aside0.mk (Kd.N_lower (Kd.N_mono (ok' := fun k_ => (P0_ k_ ∨ w.heap.size ≤ k_) ∧ some k_ ≠ (.slice (some ad756) x4_1.length co34 : Value).ownBlock ∧ k_ ≠ gb767) ho0 (fun k_ hk_ => ⟨Or.elim hk_ (fun hs_ => Or.elim hs_ (fun hs_ => hs_.1.1) (fun hs_ => hs_.1.1)) (fun hn_ => (.inr (Nat.le_trans (below_size zb) hn_))), Or.elim hk_ (fun hs_ => Or.elim hs_ (fun hs_ => hs_.1.2) (fun hs_ => hs_.1.2)) (fun hn_ => (tfr HO_4 k_ hn_)), Or.elim hk_ (fun hs_ => Or.elim hs_ (fun hs_ => hs_.2) (fun hs_ => hs_.2)) (fun hn_ => (tfB BK767 k_ hn_))⟩)) (below_size zb))
             replace HO_4 := tNe HO_4 ho0 hb
             replace HR756_5 := tCb HR756_5 hb
             replace HR757_5 := tCb HR757_5 hb
             replace BK767 := tBb BK767 hb
             replace HB := tBs HB hb
             (try clear hb)
             (try clear hb2)
             (try clear hk)
             (try clear hi)
             (try clear ho0)
             refine hK.out _ _ ⟨HS0_, HS1_, HS2_, HS3_, HS4_, HS5_, HS6_, HS7_, HS8_, HS9_, HS10_, HS11_⟩ (fun hHeld => ?_)
             clear hK K
             refine tnm (some 33) ?_
             refine tpu 11 (some 22) #[true, true, true, true, true, true, true, true, true, true, true, true, false, false, true, false, false] ?_
             refine tpu 12 (some 34) #[true, true, true, true, true, true, true, true, true, true, true, true, true, false, true, false, false] ?_
             refine tpu 13 (some 35) #[true, true, true, true, true, true, true, true, true, true, true, true, true, true, true, false, false] ?_
             exact tnx (hCont (v764, gb767) _ ⟨hHeld, (tVm HL756_5.out), (tVm HL757_5.out), (tN HO765.out), (tVm HO_0.out), (tNm HO_4.out), (tH BK767.out), GW767.out, GE767.out, zb⟩)
           rintro ⟨v764, gb767⟩ w38 ⟨hS_, h0_, h1_, h2_, h3_, h4_, h5_, h6_, h7_, h8_⟩
           have n0_ : Aside0 (Kd.V k33 33 w38 w.heap.size (fun k_ => (P0_ k_ ∨ w.heap.size ≤ k_) ∧ some k_ ≠ (v764 : Value).ownBlock ∧ some k_ ≠ (.slice (some ad756) x4_1.length co34 : Value).ownBlock ∧ k_ ≠ gb767) (.slice A756_5 ((rd_T47 x4_1 (ji9)).f5).length c756_5) ((rd_T47 x4_1 (ji9)).f5)) := ⟨h0_⟩
           have n1_ : Aside0 (Kd.V k33 33 w38 w.heap.size (fun k_ => (P0_ k_ ∨ w.heap.size ≤ k_) ∧ some k_ ≠ (v764 : Value).ownBlock ∧ some k_ ≠ (.slice (some ad756) x4_1.length co34 : Value).ownBlock ∧ k_ ≠ gb767) (.slice A757_5 ((rd_T47 x0_1 x5_1).f5).length c757_5) ((rd_T47 x0_1 x5_1).f5)) := ⟨h1_⟩
           have n2_ : Aside0 (Kd.N k33 33 w38 w.heap.size (fun k_ => (P0_ k_ ∨ w.heap.size ≤ k_) ∧ some k_ ≠ (.slice (some ad756) x4_1.length co34 : Value).ownBlock ∧ k_ ≠ gb767) v764 t763) := ⟨h2_⟩
           have n3_ : Aside0 (Kd.V k47 47 w38 w.heap.size (fun k_ => (P0_ k_ ∨ w.heap.size ≤ k_) ∧ some k_ ≠ (v764 : Value).ownBlock ∧ some k_ ≠ (.slice (some ad756) x4_1.length co34 : Value).ownBlock ∧ k_ ≠ gb767) (.slice (some ad757) x0_1.length c0) x0_1) := ⟨h3_⟩
           have n4_ : Aside0 (Kd.N k47 47 w38 w.heap.size (fun k_ => (P0_ k_ ∨ w.heap.size ≤ k_) ∧ some k_ ≠ (v764 : Value).ownBlock ∧ k_ ≠ gb767) (.slice (some ad756) x4_1.length co34) x4_1) := ⟨h4_⟩
           have n5_ : Aside0 (w38.heap[gb767]? = some (.cells #[.bool false, .bool false, .int .i64 0, .int .i64 0, .int .i64 0, .slice none 0 0] 47 (0, 0))) := ⟨h5_⟩
           have n6_ : Aside0 (w.heap.size ≤ gb767) := ⟨h6_⟩
           have n7_ : Aside0 (w.heap.size ≤ gb767) := ⟨h7_⟩
           have n8_ : Aside0 (Below w.heap.size w w38) := ⟨h8_⟩
           clear HO_0
           clear HO_4
           clear HB
           clear h0_ h1_ h2_ h3_ h4_ h5_ h6_ h7_ h8_
           have HL756_5 := n0_
           have HL757_5 := n1_
           have HO765 := n2_
           have HO_0 := n3_
           have HO_4 := n4_
           have BK767 := n5_
           have GW767 := n6_
           have GE767 := n7_
           have HB := n8_
           clear n0_ n1_ n2_ n3_ n4_ n5_ n6_ n7_ n8_
           have hHeld : w38.cell? (ad756.add (((ji9)).toNat * 6)) = some (.bool ((rd_T47 x4_1 (ji9)).f0)) ∧ w38.cell? ⟨(ad756.add (((ji9)).toNat * 6)).block, (ad756.add (((ji9)).toNat * 6)).off + 1, none⟩ = some (.bool ((rd_T47 x4_1 (ji9)).f1)) ∧ w38.cell? ⟨(ad756.add (((ji9)).toNat * 6)).block, (ad756.add (((ji9)).toNat * 6)).off + 2, none⟩ = some (.int .i64 ((rd_T47 x4_1 (ji9)).f2)) ∧ w38.cell? ⟨(ad756.add (((ji9)).toNat * 6)).block, (ad756.add (((ji9)).toNat * 6)).off + 3, none⟩ = some (.int .i64 ((rd_T47 x4_1 (ji9)).f3)) ∧ w38.cell? ⟨(ad756.add (((ji9)).toNat * 6)).block, (ad756.add (((ji9)).toNat * 6)).off + 4, none⟩ = some (.int .i64 ((rd_T47 x4_1 (ji9)).f4)) ∧ w38.cell? ⟨(ad756.add (((ji9)).toNat * 6)).block, (ad756.add (((ji9)).toNat * 6)).off + 5, none⟩ = some (.slice A756_5 ((rd_T47 x4_1 (ji9)).f5).length c756_5) ∧ w38.cell? (ad757.add ((x5_1).toNat * 6)) = some (.bool ((rd_T47 x0_1 x5_1).f0)) ∧ w38.cell? ⟨(ad757.add ((x5_1).toNat * 6)).block, (ad757.add ((x5_1).toNat * 6)).off + 1, none⟩ = some (.bool ((rd_T47 x0_1 x5_1).f1)) ∧ w38.cell? ⟨(ad757.add ((x5_1).toNat * 6)).block, (ad757.add ((x5_1).toNat * 6)).off + 2, none⟩ = some (.int .i64 ((rd_T47 x0_1 x5_1).f2)) ∧ w38.cell? ⟨(ad757.add ((x5_1).toNat * 6)).block, (ad757.add ((x5_1).toNat * 6)).off + 3, none⟩ = some (.int .i64 ((rd_T47 x0_1 x5_1).f3)) ∧ w38.cell? ⟨(ad757.add ((x5_1).toNat * 6)).block, (ad757.add ((x5_1).toNat * 6)).off + 4, none⟩ = some (.int .i64 ((rd_T47 x0_1 x5_1).f4)) ∧ w38.cell? ⟨(ad757.add ((x5_1).toNat * 6)).block, (ad757.add ((x5_1).toNat * 6)).off + 5, none⟩ = some (.slice A757_5 ((rd_T47 x0_1 x5_1).f5).length c757_5) := hS_
           obtain ⟨Ao44, co44, eo44⟩ := Kd.N_slice HO765.out
           (first | subst eo44 | (injection eo44 with f1_ f2_ f3_; have f4_ := f1_.symm; have f5_ := f3_.symm; clear f1_ f2_ f3_; subst f4_; subst f5_))
           refine tnp ?_
           refine one_ (i := 15) (N := none) #[true, true, true, true, true, true, true, true, true, true, true, true, true, true, true, true, false] rfl rfl (one_of HT_.out (by kernel_rfl)) (by decide) (fun K hK => ?_)
           have hs39 : w38.cell? ⟨gb767, 0, none⟩ = some (.bool false) := (blk_cell BK767.out 0).trans rfl
           have hfs39 := blk_frozen BK767.out 0
           have hs40 : w38.cell? ⟨gb767, 1, none⟩ = some (.bool false) := (blk_cell BK767.out 1).trans rfl
           have hfs40 := blk_frozen BK767.out 1
           have hs41 : w38.cell? ⟨gb767, 2, none⟩ = some (.int .i64 0) := (blk_cell BK767.out 2).trans rfl
           have hfs41 := blk_frozen BK767.out 2
           have hs42 : w38.cell? ⟨gb767, 3, none⟩ = some (.int .i64 0) := (blk_cell BK767.out 3).trans rfl
           have hfs42 := blk_frozen BK767.out 3
           have hs43 : w38.cell? ⟨gb767, 4, none⟩ = some (.int .i64 0) := (blk_cell BK767.out 4).trans rfl
           have hfs43 := blk_frozen BK767.out 4
           have hs45 : w38.cell? ⟨gb767, 5, none⟩ = some (.slice none 0 0) := (blk_cell BK767.out 5).trans rfl
           have hfs45 := blk_frozen BK767.out 5
           refine tsk ?_
           refine hK.out _ _ ⟨(tcg (Kd.own_blk (Kd.N_away HO_4.out (fun _ hk => hk.2.2))) hHeld.1), (tcg (Kd.own_blk (Kd.N_away HO_4.out (fun _ hk => hk.2.2))) hHeld.2.1), (tcg (Kd.own_blk (Kd.N_away HO_4.out (fun _ hk => hk.2.2))) hHeld.2.2.1), (tcg (Kd.own_blk (Kd.N_away HO_4.out (fun _ hk => hk.2.2))) hHeld.2.2.2.1), (tcg (Kd.own_blk (Kd.N_away HO_4.out (fun _ hk => hk.2.2))) hHeld.2.2.2.2.1), (tcg (Kd.own_blk (Kd.N_away HO_4.out (fun _ hk => hk.2.2))) hHeld.2.2.2.2.2.1), (tcg (Kd.own_blk (Kd.V_away HO_0.out (fun _ hk => hk.2.2.2))) hHeld.2.2.2.2.2.2.1), (tcg (Kd.own_blk (Kd.V_away HO_0.out (fun _ hk => hk.2.2.2))) hHeld.2.2.2.2.2.2.2.1), (tcg (Kd.own_blk (Kd.V_away HO_0.out (fun _ hk => hk.2.2.2))) hHeld.2.2.2.2.2.2.2.2.1), (tcg (Kd.own_blk (Kd.V_away HO_0.out (fun _ hk => hk.2.2.2))) hHeld.2.2.2.2.2.2.2.2.2.1), (tcg (Kd.own_blk (Kd.V_away HO_0.out (fun _ hk => hk.2.2.2))) hHeld.2.2.2.2.2.2.2.2.2.2.1), (tcg (Kd.own_blk (Kd.V_away HO_0.out (fun _ hk => hk.2.2.2))) hHeld.2.2.2.2.2.2.2.2.2.2.2)⟩ (fun hHeld => ?_)
           clear hK K
           refine tpu 16 (some 7) #[true, true, true, true, true, true, true, true, true, true, true, true, true, true, true, true, true] ?_
           refine done_ (done_of HT_.out (by kernel_rfl)) ?_
           have n0_ : Aside0 (Kd.V k47 47 ((((((w38.setCell ⟨gb767, 0, none⟩ (.bool t758)).setCell ⟨gb767, 1, none⟩ (.bool t759)).setCell ⟨gb767, 2, none⟩ (.int .i64 t760)).setCell ⟨gb767, 3, none⟩ (.int .i64 t761)).setCell ⟨gb767, 4, none⟩ (.int .i64 t762)).setCell ⟨gb767, 5, none⟩ (.slice Ao44 t763.length co44)) w.heap.size (fun k_ => (P0_ k_ ∨ w.heap.size ≤ k_) ∧ some k_ ≠ (.slice (some ad756) x4_1.length co34 : Value).ownBlock ∧ some k_ ≠ (.slice Ao44 t763.length co44 : Value).ownBlock ∧ k_ ≠ gb767) (.slice (some ad757) x0_1.length c0) x0_1) := ⟨tVm HO_0.out⟩
           have n1_ : Aside0 (Kd.N k47 47 ((((((w38.setCell ⟨gb767, 0, none⟩ (.bool t758)).setCell ⟨gb767, 1, none⟩ (.bool t759)).setCell ⟨gb767, 2, none⟩ (.int .i64 t760)).setCell ⟨gb767, 3, none⟩ (.int .i64 t761)).setCell ⟨gb767, 4, none⟩ (.int .i64 t762)).setCell ⟨gb767, 5, none⟩ (.slice Ao44 t763.length co44)) w.heap.size (fun k_ => (P0_ k_ ∨ w.heap.size ≤ k_) ∧ some k_ ≠ (.slice Ao44 t763.length co44 : Value).ownBlock ∧ k_ ≠ gb767) (.slice (some ad756) x4_1.length co34) x4_1) := ⟨tNm HO_4.out⟩
           have n2_ : Aside0 (Kd.V k33 33 ((((((w38.setCell ⟨gb767, 0, none⟩ (.bool t758)).setCell ⟨gb767, 1, none⟩ (.bool t759)).setCell ⟨gb767, 2, none⟩ (.int .i64 t760)).setCell ⟨gb767, 3, none⟩ (.int .i64 t761)).setCell ⟨gb767, 4, none⟩ (.int .i64 t762)).setCell ⟨gb767, 5, none⟩ (.slice Ao44 t763.length co44)) w.heap.size (fun k_ => (P0_ k_ ∨ w.heap.size ≤ k_) ∧ some k_ ≠ (.slice (some ad756) x4_1.length co34 : Value).ownBlock ∧ some k_ ≠ (.slice Ao44 t763.length co44 : Value).ownBlock ∧ k_ ≠ gb767) (.slice A756_5 ((rd_T47 x4_1 (ji9)).f5).length c756_5) ((rd_T47 x4_1 (ji9)).f5)) := ⟨tVm HL756_5.out⟩
           have n3_ : Aside0 (Kd.V k33 33 ((((((w38.setCell ⟨gb767, 0, none⟩ (.bool t758)).setCell ⟨gb767, 1, none⟩ (.bool t759)).setCell ⟨gb767, 2, none⟩ (.int .i64 t760)).setCell ⟨gb767, 3, none⟩ (.int .i64 t761)).setCell ⟨gb767, 4, none⟩ (.int .i64 t762)).setCell ⟨gb767, 5, none⟩ (.slice Ao44 t763.length co44)) w.heap.size (fun k_ => (P0_ k_ ∨ w.heap.size ≤ k_) ∧ some k_ ≠ (.slice (some ad756) x4_1.length co34 : Value).ownBlock ∧ some k_ ≠ (.slice Ao44 t763.length co44 : Value).ownBlock ∧ k_ ≠ gb767) (.slice A757_5 ((rd_T47 x0_1 x5_1).f5).length c757_5) ((rd_T47 x0_1 x5_1).f5)) := ⟨tVm HL757_5.out⟩
           have n4_ : Aside0 (Kd.N k33 33 ((((((w38.setCell ⟨gb767, 0, none⟩ (.bool t758)).setCell ⟨gb767, 1, none⟩ (.bool t759)).setCell ⟨gb767, 2, none⟩ (.int .i64 t760)).setCell ⟨gb767, 3, none⟩ (.int .i64 t761)).setCell ⟨gb767, 4, none⟩ (.int .i64 t762)).setCell ⟨gb767, 5, none⟩ (.slice Ao44 t763.length co44)) w.heap.size (fun k_ => (P0_ k_ ∨ w.heap.size ≤ k_) ∧ some k_ ≠ (.slice (some ad756) x4_1.length co34 : Value).ownBlock ∧ k_ ≠ gb767) (.slice Ao44 t763.length co44) t763) := ⟨tNm HO765.out⟩
           have n5_ : Aside0 (((((((w38.setCell ⟨gb767, 0, none⟩ (.bool t758)).setCell ⟨gb767, 1, none⟩ (.bool t759)).setCell ⟨gb767, 2, none⟩ (.int .i64 t760)).setCell ⟨gb767, 3, none⟩ (.int .i64 t761)).setCell ⟨gb767, 4, none⟩ (.int .i64 t762)).setCell ⟨gb767, 5, none⟩ (.slice Ao44 t763.length co44)).heap[gb767]? = some (.cells #[.bool t758, .bool t759, .int .i64 t760, .int .i64 t761, .int .i64 t762, .slice Ao44 t763.length co44] 47 (0, 0))) := ⟨tP BK767.out⟩
           have n6_ : Aside0 (Below w.heap.size w ((((((w38.setCell ⟨gb767, 0, none⟩ (.bool t758)).setCell ⟨gb767, 1, none⟩ (.bool t759)).setCell ⟨gb767, 2, none⟩ (.int .i64 t760)).setCell ⟨gb767, 3, none⟩ (.int .i64 t761)).setCell ⟨gb767, 4, none⟩ (.int .i64 t762)).setCell ⟨gb767, 5, none⟩ (.slice Ao44 t763.length co44))) := ⟨zb⟩
           (try clear HO_0)
           (try clear HO_4)
           (try clear HL756_5)
           (try clear HL757_5)
           (try clear HO765)
           (try clear BK767)
           (try clear HB)
           generalize ((((((w38.setCell ⟨gb767, 0, none⟩ (.bool t758)).setCell ⟨gb767, 1, none⟩ (.bool t759)).setCell ⟨gb767, 2, none⟩ (.int .i64 t760)).setCell ⟨gb767, 3, none⟩ (.int .i64 t761)).setCell ⟨gb767, 4, none⟩ (.int .i64 t762)).setCell ⟨gb767, 5, none⟩ (.slice Ao44 t763.length co44)) = w46 at n0_ n1_ n2_ n3_ n4_ n5_ n6_ ⊢
           have HO_0 := n0_
           have HO_4 := n1_
           have HL756_5 := n2_
           have HL757_5 := n3_
           have HO765 := n4_
           have BK767 := n5_
           have HB := n6_
           clear n0_ n1_ n2_ n3_ n4_ n5_ n6_
           have p769 : 0 ≤ (x5_1 : Int) := td
           have q769 : x5_1 < (x0_1.length : Int) := td
           obtain ⟨ad769, A769_5, c769_5, e769, hx769_0, hx769_1, hx769_2, hx769_3, hx769_4, hx769_5, hl769_5, hi769_5⟩ := at_T47 (Kd.V_reads' HO_0.out).2.2 x5_1 p769 q769
           obtain rfl : ad757 = ad769 := (by injection e769)
           obtain ⟨ce769, hce769, hMe769, hcc769⟩ := Kd.V_get HO_0.out z47 x5_1 p769 (by first | exact q769 | exact td | (have e_ := (Kd.V_reads' HO_0.out).1; omega))
           obtain ⟨ua769_5, uc769_5, rfl, ul769_5, ge769_5⟩ := k47_openF hMe769
           have hv769_5 := hcc769 5 _ rfl
           rw [add_field _ _ 5 (by omega)] at hv769_5
           replace hv769_5 := Option.some.inj (hv769_5.symm.trans hx769_5)
           injection hv769_5 with hva_ hvn_ hvc_
           rw [hva_] at ge769_5
           rw [hvc_] at ul769_5
           have HL769_5 := Aside0.mk (show Kd.V k33 33 _ w.heap.size _ _ ((rd_T47 x0_1 x5_1).f5) from Kd.V_mk ul769_5 ge769_5)
           clear hva_ hvn_ hvc_ ge769_5 ul769_5
           clear hcc769 hce769
           have HR769_5 := Aside0.mk hi769_5
           have HC769_5 := Aside0.mk hl769_5
           clear hi769_5 hl769_5
           replace p769 := eq_true p769
           replace q769 := eq_true q769
           try go_wp2_with (first | ((with_reducible refine gate_callee (f := 40) rfl ?_); refine goesL_ (some 48) rfl rfl Tryd.func40 (by kernel_rfl) rfl #[.agg #[.bool ((rd_T47 x0_1 x5_1).f0), .bool ((rd_T47 x0_1 x5_1).f1), .int .i64 ((rd_T47 x0_1 x5_1).f2), .int .i64 ((rd_T47 x0_1 x5_1).f3), .int .i64 ((rd_T47 x0_1 x5_1).f4), .slice A769_5 ((rd_T47 x0_1 x5_1).f5).length c769_5]] rfl tq ?_; (with_reducible refine (spec_l12Batch.calls k1 ((rd_T47 x0_1 x5_1).f0) ((rd_T47 x0_1 x5_1).f1) ((rd_T47 x0_1 x5_1).f2) ((rd_T47 x0_1 x5_1).f3) ((rd_T47 x0_1 x5_1).f4) _ _ ((rd_T47 x0_1 x5_1).f5) t770 t771 t772 t773 t774 t775 _ ?side1 ?side2 A32.out).mono ?_); (case side1 => exact tC (tC HR769_5.out)); (case side2 => exact HC769_5.out); rintro e w47 ⟨v776, rfl, ho0, hb⟩; have u_v776 := tsv Tryd.prog v776 ho0; refine ⟨_, rfl, ?_⟩; replace HO_0 := tVe HO_0 ho0 hb; replace HL756_5 := tVe HL756_5 ho0 hb; replace HL757_5 := tVe HL757_5 ho0 hb; replace HL769_5 := tVe HL769_5 ho0 hb; have HO777 := Aside0.mk (Kd.N_lower (Kd.N_mono (ok' := fun k_ => (P0_ k_ ∨ w.heap.size ≤ k_) ∧ some k_ ≠ (.slice (some ad756) x4_1.length co34 : Value).ownBlock ∧ some k_ ≠ (.slice Ao44 t763.length co44 : Value).ownBlock ∧ k_ ≠ gb767) (Kd.S_N (Kd.S_bound ho0)) (fun k_ hk_ => ⟨(.inr (Nat.le_trans (below_size zb) hk_.2.1)), (tfr HO_4 k_ hk_.2.1), (tfr HO765 k_ hk_.2.1), (tfB BK767 k_ hk_.2.1)⟩)) (below_size zb)); replace HO_4 := tNe HO_4 ho0 hb; replace HO765 := tNe HO765 ho0 hb; replace BK767 := tBb BK767 hb; replace HR769_5 := tCb HR769_5 hb; replace HB := tBs HB hb; (try clear hb); (try clear hb2); (try clear hk); (try clear hi); (try clear ho0); obtain ⟨Ao49, co49, eo49⟩ := Kd.N_slice HO777.out; subst eo49) | ((with_reducible refine gate_builtin (b := .append) (xs := #[.tmp 43, .tmp 49]) rfl ?_); at_builtin; refine Kd.N_append k47 (w0 := w) w.heap.size rfl (.tmp 43) (.tmp 49) 23 47 (.agg #[(.bool false), (.bool false), (.int .i64 0), (.int .i64 0), (.int .i64 0), (.slice none 0 0)]) 56 rfl Tryd.underlying23 info47 rfl (by decide) (by omega) (.slice (some ad756) x4_1.length co34) x4_1 (⟨t770, t771, t772, t773, t774, t775⟩ : S47) [.bool t770, .bool t771, .int .i64 t772, .int .i64 t773, .int .i64 t774, .slice Ao49 t775.length co49] (fun k_ => (P0_ k_ ∨ w.heap.size ≤ k_) ∧ some k_ ≠ (.slice Ao44 t763.length co44 : Value).ownBlock ∧ k_ ≠ gb767) (fun k_ => ((fun k_ => (P0_ k_ ∨ w.heap.size ≤ k_) ∧ some k_ ≠ (.slice Ao44 t763.length co44 : Value).ownBlock ∧ k_ ≠ gb767)) k_ ∧ some k_ ≠ (.slice (some ad756) x4_1.length co34 : Value).ownBlock) rfl rfl ?aP (fun _ hk => hk) ?aF ?aO ?aB ?aS ?aL ?_; (case aP => exact (k47_mkF _ _ (⟨t770, t771, t772, t773, t774, t775⟩ : S47) (Kd.N_reads' (Kd.N_mono (ok' := (fun k_ => ((fun k_ => (P0_ k_ ∨ w.heap.size ≤ k_) ∧ some k_ ≠ (.slice Ao44 t763.length co44 : Value).ownBlock ∧ k_ ≠ gb767)) k_ ∧ some k_ ≠ (.slice (some ad756) x4_1.length co34 : Value).ownBlock)) (HO777.out) (fun k_ hk => ⟨⟨hk.1, ⟨hk.2.2.1, hk.2.2.2⟩⟩, hk.2.1⟩))).2.1 (Kd.N_F (Kd.N_mono (ok' := (fun k_ => ((fun k_ => (P0_ k_ ∨ w.heap.size ≤ k_) ∧ some k_ ≠ (.slice Ao44 t763.length co44 : Value).ownBlock ∧ k_ ≠ gb767)) k_ ∧ some k_ ≠ (.slice (some ad756) x4_1.length co34 : Value).ownBlock)) (HO777.out) (fun k_ hk => ⟨⟨hk.1, ⟨hk.2.2.1, hk.2.2.2⟩⟩, hk.2.1⟩))))); (case aB => exact zb); (case aF => exact (fun k_ hk => ⟨(.inr (Nat.le_trans (below_size zb) hk)), tfr HO765 k_ hk, tfB BK767 k_ hk⟩)); (case aO => exact (tNm HO_4.out)); (case aS => exact (below_size zb)); (case aL => have := LMc33.out; omega); intro v779 w48 ho hb hg hat; rw [← Ny778.out] at ho; replace HO_0 := Aside0.mk (Kd.V_afterv (ok := (fun k_ => (P0_ k_ ∨ w.heap.size ≤ k_) ∧ some k_ ≠ (.slice Ao44 t763.length co44 : Value).ownBlock ∧ some k_ ≠ (.slice Ao49 t775.length co49 : Value).ownBlock ∧ k_ ≠ gb767)) (tVm HO_0.out) hg hat); replace HL756_5 := Aside0.mk (Kd.V_afterv (ok := (fun k_ => (P0_ k_ ∨ w.heap.size ≤ k_) ∧ some k_ ≠ (.slice Ao44 t763.length co44 : Value).ownBlock ∧ some k_ ≠ (.slice Ao49 t775.length co49 : Value).ownBlock ∧ k_ ≠ gb767)) (tVm HL756_5.out) hg hat); replace HL757_5 := Aside0.mk (Kd.V_afterv (ok := (fun k_ => (P0_ k_ ∨ w.heap.size ≤ k_) ∧ some k_ ≠ (.slice Ao44 t763.length co44 : Value).ownBlock ∧ some k_ ≠ (.slice Ao49 t775.length co49 : Value).ownBlock ∧ k_ ≠ gb767)) (tVm HL757_5.out) hg hat); replace HO765 := Aside0.mk (Kd.N_afterv (ok := (fun k_ => (P0_ k_ ∨ w.heap.size ≤ k_) ∧ some k_ ≠ (.slice Ao49 t775.length co49 : Value).ownBlock ∧ k_ ≠ gb767)) (tNm HO765.out) hg hat); replace BK767 := Aside0.mk (blk_grown (tH BK767.out) hg (Kd.N_away HO_4.out (fun _ hk => hk.1.2.2))); replace HL769_5 := Aside0.mk (Kd.V_afterv (ok := (fun k_ => (P0_ k_ ∨ w.heap.size ≤ k_) ∧ some k_ ≠ (.slice Ao44 t763.length co44 : Value).ownBlock ∧ some k_ ≠ (.slice Ao49 t775.length co49 : Value).ownBlock ∧ k_ ≠ gb767)) (tVm HL769_5.out) hg hat); replace HB := Aside0.mk (hb); have HO780 := Aside0.mk (ho); clear HO_4 HO777; clear ho hb hg hat))
           (try simp only [← hl0_1])
           go_roundg k1
           case measure => have := HK1.out; omega
           case rel => exact ⟨(x0_1), (y778), (wrap64 (x5_1 + 1)), tr, H', ⟨by have := HK1.out; omega⟩, ⟨by (try simp only [hl0_1]); (with_reducible repeat (first | apply Kd.V_alloc | apply Kd.V_drewN | apply Kd.V_drew)); exact Kd.V_mono HO_0.out (fun _ hk => ⟨hk.1.1, hk.2⟩)⟩, ⟨by (try simp only [hl0_1]); (with_reducible repeat (first | apply Kd.N_alloc | apply Kd.N_drewN | apply Kd.N_drew)); exact Kd.N_mono HO780.out (fun _ hk => hk.1)⟩, ⟨zb⟩⟩
          ·rw [if_neg c33] at H
           exact absurd H (by simp)
        ·rw [if_neg c12] at H
         exact absurd H (by simp)
       ·rw [if_neg c11] at H
        exact absurd H (by simp)
      ·rw [if_neg c10] at H
       exact absurd H (by simp)
     ·rw [if_neg c8] at H
      have c8b0 : decide (0 < (x4_1.length : Int)) = false := decide_eq_false c8
      have c8b1 : decide (0 < x4_1.length) = false := decide_eq_false (by omega)
      clear c8
      by_cases c50 : 0 ≤ x5_1
      ·rw [if_pos c50] at H
       have c50b0 : decide (0 ≤ x5_1) = true := decide_eq_true c50
       clear c50
       replace H := tbe H
       obtain ⟨⟨t782, t783, t784, t785, t786, t787⟩, A51, H⟩ := H
       dsimp only at H
       by_cases c52 : x4_1.length < 2513169434916
       ·rw [if_pos c52] at H
        have LMc52 := Aside0.mk c52
        clear c52
        obtain ⟨y790, hy790⟩ : ∃ y_ : List (S47), y_ = (x4_1 ++ [(⟨t782, t783, t784, t785, t786, t787⟩ : S47)]) := ⟨_, rfl⟩
        replace H : (spec_LogEven.l0 k1 x0_1 y790 (wrap64 (x5_1 + 1))) = some (r1, r2) := by first | (rw [hy790]; with_reducible exact H) | (have H2_ := (Option.bind_some _ _).symm.trans H; rw [hy790]; with_reducible exact H2_) | (have H2_ := (Option.bind_some _ _).symm.trans H; with_reducible exact H2_) | with_reducible exact H | (rw [hy790]; exact H) | exact H
        have Ny790 := Aside0.mk hy790
        clear hy790
        have H' := Aside0.mk H
        clear H
        obtain ⟨Ao53, co53, eo53⟩ := Kd.N_slice HO_4.out
        subst eo53
        have p781 : 0 ≤ (x5_1 : Int) := td
        have q781 : x5_1 < (x0_1.length : Int) := td
        obtain ⟨ad781, A781_5, c781_5, e781, hx781_0, hx781_1, hx781_2, hx781_3, hx781_4, hx781_5, hl781_5, hi781_5⟩ := at_T47 (Kd.V_reads' HO_0.out).2.2 x5_1 p781 q781
        cases e781
        obtain ⟨ce781, hce781, hMe781, hcc781⟩ := Kd.V_get HO_0.out z47 x5_1 p781 (by first | exact q781 | exact td | (have e_ := (Kd.V_reads' HO_0.out).1; omega))
        obtain ⟨ua781_5, uc781_5, rfl, ul781_5, ge781_5⟩ := k47_openF hMe781
        have hv781_5 := hcc781 5 _ rfl
        rw [add_field _ _ 5 (by omega)] at hv781_5
        replace hv781_5 := Option.some.inj (hv781_5.symm.trans hx781_5)
        injection hv781_5 with hva_ hvn_ hvc_
        rw [hva_] at ge781_5
        rw [hvc_] at ul781_5
        have HL781_5 := Aside0.mk (show Kd.V k33 33 _ w.heap.size _ _ ((rd_T47 x0_1 x5_1).f5) from Kd.V_mk ul781_5 ge781_5)
        clear hva_ hvn_ hvc_ ge781_5 ul781_5
        clear hcc781 hce781
        have HR781_5 := Aside0.mk hi781_5
        have HC781_5 := Aside0.mk hl781_5
        clear hi781_5 hl781_5
        replace p781 := eq_true p781
        replace q781 := eq_true q781
        go_wp2_with (first | ((with_reducible refine gate_callee (f := 40) rfl ?_); refine goesL_ (some 48) rfl rfl Tryd.func40 (by kernel_rfl) rfl #[.agg #[.bool ((rd_T47 x0_1 x5_1).f0), .bool ((rd_T47 x0_1 x5_1).f1), .int .i64 ((rd_T47 x0_1 x5_1).f2), .int .i64 ((rd_T47 x0_1 x5_1).f3), .int .i64 ((rd_T47 x0_1 x5_1).f4), .slice A781_5 ((rd_T47 x0_1 x5_1).f5).length c781_5]] rfl tq ?_; (with_reducible refine (spec_l12Batch.calls k1 ((rd_T47 x0_1 x5_1).f0) ((rd_T47 x0_1 x5_1).f1) ((rd_T47 x0_1 x5_1).f2) ((rd_T47 x0_1 x5_1).f3) ((rd_T47 x0_1 x5_1).f4) _ _ ((rd_T47 x0_1 x5_1).f5) t782 t783 t784 t785 t786 t787 _ ?side1 ?side2 A51.out).mono ?_); (case side1 => exact tC (tC HR781_5.out)); (case side2 => exact HC781_5.out); rintro e w54 ⟨v788, rfl, ho0, hb⟩; have u_v788 := tsv Tryd.prog v788 ho0; refine ⟨_, rfl, ?_⟩; replace HO_0 := tVe HO_0 ho0 hb; replace HL781_5 := tVe HL781_5 ho0 hb; have HO789 := Aside0.mk (Kd.N_lower (Kd.N_mono (ok' := fun k_ => (P0_ k_ ∨ w.heap.size ≤ k_) ∧ some k_ ≠ (.slice Ao53 x4_1.length co53 : Value).ownBlock) (Kd.S_N (Kd.S_bound ho0)) (fun k_ hk_ => ⟨(.inr (Nat.le_trans (below_size zb) hk_.2.1)), (tfr HO_4 k_ hk_.2.1)⟩)) (below_size zb)); replace HO_4 := tNe HO_4 ho0 hb; replace HR781_5 := tCb HR781_5 hb; replace HB := tBs HB hb; (try clear hb); (try clear hb2); (try clear hk); (try clear hi); (try clear ho0); obtain ⟨Ao56, co56, eo56⟩ := Kd.N_slice HO789.out; subst eo56) | ((with_reducible refine gate_builtin (b := .append) (xs := #[.tmp 43, .tmp 49]) rfl ?_); at_builtin; refine Kd.N_append k47 (w0 := w) w.heap.size rfl (.tmp 43) (.tmp 49) 23 47 (.agg #[(.bool false), (.bool false), (.int .i64 0), (.int .i64 0), (.int .i64 0), (.slice none 0 0)]) 56 rfl Tryd.underlying23 info47 rfl (by decide) (by omega) (.slice Ao53 x4_1.length co53) x4_1 (⟨t782, t783, t784, t785, t786, t787⟩ : S47) [.bool t782, .bool t783, .int .i64 t784, .int .i64 t785, .int .i64 t786, .slice Ao56 t787.length co56] (fun k_ => (P0_ k_ ∨ w.heap.size ≤ k_)) (fun k_ => ((fun k_ => (P0_ k_ ∨ w.heap.size ≤ k_))) k_ ∧ some k_ ≠ (.slice Ao53 x4_1.length co53 : Value).ownBlock) rfl rfl ?aP (fun _ hk => hk) ?aF ?aO ?aB ?aS ?aL ?_; (case aP => exact (k47_mkF _ _ (⟨t782, t783, t784, t785, t786, t787⟩ : S47) (Kd.N_reads' (Kd.N_mono (ok' := (fun k_ => ((fun k_ => (P0_ k_ ∨ w.heap.size ≤ k_))) k_ ∧ some k_ ≠ (.slice Ao53 x4_1.length co53 : Value).ownBlock)) (HO789.out) (fun k_ hk => ⟨hk.1, hk.2⟩))).2.1 (Kd.N_F (Kd.N_mono (ok' := (fun k_ => ((fun k_ => (P0_ k_ ∨ w.heap.size ≤ k_))) k_ ∧ some k_ ≠ (.slice Ao53 x4_1.length co53 : Value).ownBlock)) (HO789.out) (fun k_ hk => ⟨hk.1, hk.2⟩))))); (case aB => exact zb); (case aF => exact (fun k_ hk => (.inr (Nat.le_trans (below_size zb) hk)))); (case aO => exact (tNm HO_4.out)); (case aS => exact (below_size zb)); (case aL => have := LMc52.out; omega); intro v791 w55 ho hb hg hat; rw [← Ny790.out] at ho; replace HO_0 := Aside0.mk (Kd.V_afterv (ok := (fun k_ => (P0_ k_ ∨ w.heap.size ≤ k_) ∧ some k_ ≠ (.slice Ao56 t787.length co56 : Value).ownBlock)) (tVm HO_0.out) hg hat); replace HL781_5 := Aside0.mk (Kd.V_afterv (ok := (fun k_ => (P0_ k_ ∨ w.heap.size ≤ k_) ∧ some k_ ≠ (.slice Ao56 t787.length co56 : Value).ownBlock)) (tVm HL781_5.out) hg hat); replace HB := Aside0.mk (hb); have HO792 := Aside0.mk (ho); clear HO_4 HO789; clear ho hb hg hat))
        (try simp only [← hl0_1])
        go_roundg k1
        case measure => have := HK1.out; omega
        case rel => exact ⟨(x0_1), (y790), (wrap64 (x5_1 + 1)), tr, H', ⟨by have := HK1.out; omega⟩, ⟨by (try simp only [hl0_1]); (with_reducible repeat (first | apply Kd.V_alloc | apply Kd.V_drewN | apply Kd.V_drew)); exact Kd.V_mono HO_0.out (fun _ hk => ⟨hk.1.1, hk.2⟩)⟩, ⟨by (try simp only [hl0_1]); (with_reducible repeat (first | apply Kd.N_alloc | apply Kd.N_drewN | apply Kd.N_drew)); exact HO792.out⟩, ⟨zb⟩⟩
       ·rw [if_neg c52] at H
        exact absurd H (by simp)
      ·rw [if_neg c50] at H
       exact absurd H (by simp)
    ·rw [if_neg c7] at H
     have c7b0 : decide (x5_1 < (x0_1.length : Int)) = false := decide_eq_false c7
     clear c7
     simp only [Option.some.injEq, Prod.mk.injEq] at H
     obtain ⟨rfl, rfl⟩ := H
     go_wp2
     go_ret2
     exact ⟨_, by first | rfl | (simp [errW_none, errW_some] <;> rfl) | (simp [*, errW_none, errW_some] <;> rfl), tN HO_4.out, zb⟩
 ·replace c3 := Bool.eq_false_iff.mpr c3
  subst c3
  rw [if_neg (show ¬ (false = true) by decide)] at H
  simp only [Option.some.injEq, Prod.mk.injEq] at H
  obtain ⟨rfl, rfl⟩ := H
  go_enter Tryd.func26, Tryd.ntmps26
  go_wp2_with (first | ((with_reducible refine gate_dst (N := 8) rfl ?_); refine Kd.N_lit k47 _ 47 ?hg (N' := 8) ?hd (xs := ([] : List (S47))) (inner := []) (ok := (fun k_ => (P0_ k_ ∨ w.heap.size ≤ k_))) (okp := (fun k_ => (P0_ k_ ∨ w.heap.size ≤ k_))) ?hr ?hp (fun _ hk => hk) ((show ∀ k_, w.heap.size ≤ k_ → (fun k_ => (P0_ k_ ∨ w.heap.size ≤ k_)) k_ from fun k_ hk => (.inr (Nat.le_trans (below_size zb) hk))) _ (Nat.le_refl _)) (Below.refl _ _) (Nat.le_refl _) (by simp) ?_; (case hd => rfl); (case hg => rfl); (case hr => first | (go_simp; done) | (go_simp; rfl)); (case hp => exact (Reps.none _ _)); intro v753 w57 ho58 hb hg_ hnew_; clear hg_ hnew_; (first | rw [← Ny752.out] at ho58 | (simp only [Int.reduceToNat] at ho58; rw [← Ny752.out] at ho58)); replace HO0 := tVe HO0 ho58 hb; have HO754 := tNl ho58 HB; replace HB := tBs HB hb; clear hb ho58) | ((with_reducible refine gate_callee (f := 38) rfl ?_); refine goesL_ (some 10) rfl rfl Tryd.func38 (by kernel_rfl) rfl #[.slice A0 l0.length c0] rfl tq ?_; (with_reducible refine (spec_LogValid.calls k _ _ l0 false _ ?side1 ?side2 A2.out).mono ?_); (case side1 => repeat (first | exact (Kd.V_reads' HO0.out).2.2 | (with_reducible refine Kd.C_alloc ?_ _) | (with_reducible refine Kd.C_drewN ?_ _) | (with_reducible refine Kd.C_drew ?_))); (case side2 => exact (Kd.V_reads' HO0.out).2.1); rintro e w59 ⟨rfl, hb⟩; refine ⟨_, rfl, ?_⟩; replace HO0 := tVb HO0 hb; replace HO754 := tNb HO754 hb; replace HB := tBs HB hb; (try clear hb); (try clear hb2); (try clear hk); (try clear hi)))
  go_ret2
  exact ⟨_, by first | rfl | (simp [errW_none, errW_some] <;> rfl) | (simp [*, errW_none, errW_some] <;> rfl), tN HO754.out, zb⟩

end Go.Proofs.YtbbboachakkgiaaDoor.G

