/- A text of seat YtfjkpdhldeopaaaDoor: what the law FnExactLogEven needs of this repo's texts (by pack.py). Not trusted: Lean checks it. -/
import Derived.Test.YtfjkpdhldeopaaaDoorKFnExactLogEven11
import Derived.Deep.Slices
import Derived.SizedLaws
namespace Go.Proofs.YtfjkpdhldeopaaaDoor.G
open Go.RowKit Go.Proofs.YtfjkpdhldeopaaaDoorW.PrintWords Go.Proofs.YtfjkpdhldeopaaaDoorW.PrintLast Go.Proofs.YtfjkpdhldeopaaaDoorW.PrintMore
attribute [local go_sem] max2_int min2_int max_two min_two max_three min_three max_four min_four   -- for this text's walks alone
set_option linter.unusedVariables false
set_option linter.unusedSimpArgs false

def spec_LogEven.l0 : Nat → List (S28) → List (S28) → Int → Option ((List (S28)) × Bool)
 | 0, _, _, _ => none
 | k + 1, x0, x4, x5 => if x5 < (x0.length : Int) then (if (x4.length : Int) > 0 then (if 0 ≤ (wrap64 ((x4.length : Int) - 1)) then (if (wrap64 ((x4.length : Int) - 1)) < (x4.length : Int) then (if 0 ≤ x5 then ((spec_BatchJoin.f k ((rd_T28 x4 (wrap64 ((x4.length : Int) - 1))).f0) ((rd_T28 x4 (wrap64 ((x4.length : Int) - 1))).f1) ((rd_T28 x4 (wrap64 ((x4.length : Int) - 1))).f2) ((rd_T28 x4 (wrap64 ((x4.length : Int) - 1))).f3) ((rd_T28 x4 (wrap64 ((x4.length : Int) - 1))).f4) ((rd_T28 x4 (wrap64 ((x4.length : Int) - 1))).f5) ((rd_T28 x0 x5).f0) ((rd_T28 x0 x5).f1) ((rd_T28 x0 x5).f2) ((rd_T28 x0 x5).f3) ((rd_T28 x0 x5).f4) ((rd_T28 x0 x5).f5)).bind fun bt539 => (if bt539.2.2.2.2.2.2 = true then (spec_LogEven.l0 k x0 (x4.set ((wrap64 ((x4.length : Int) - 1)) : Int).toNat (⟨bt539.1, bt539.2.1, bt539.2.2.1, bt539.2.2.2.1, bt539.2.2.2.2.1, bt539.2.2.2.2.2.1⟩ : S28)) (wrap64 (x5 + 1))) else ((spec_l12Batch.f k ((rd_T28 x0 x5).f0) ((rd_T28 x0 x5).f1) ((rd_T28 x0 x5).f2) ((rd_T28 x0 x5).f3) ((rd_T28 x0 x5).f4) ((rd_T28 x0 x5).f5)).bind fun bt551 => (if x4.length < 2513169434916 then (spec_LogEven.l0 k x0 (x4 ++ [(⟨bt551.1, bt551.2.1, bt551.2.2.1, bt551.2.2.2.1, bt551.2.2.2.2.1, bt551.2.2.2.2.2⟩ : S28)]) (wrap64 (x5 + 1))) else (none))))) else (none)) else (none)) else (none)) else (if 0 ≤ x5 then ((spec_l12Batch.f k ((rd_T28 x0 x5).f0) ((rd_T28 x0 x5).f1) ((rd_T28 x0 x5).f2) ((rd_T28 x0 x5).f3) ((rd_T28 x0 x5).f4) ((rd_T28 x0 x5).f5)).bind fun bt563 => (if x4.length < 2513169434916 then (spec_LogEven.l0 k x0 (x4 ++ [(⟨bt563.1, bt563.2.1, bt563.2.2.1, bt563.2.2.2.1, bt563.2.2.2.2.1, bt563.2.2.2.2.2⟩ : S28)]) (wrap64 (x5 + 1))) else (none))) else (none))) else (some (x4, true))
def spec_LogEven.f (k : Nat) (l0 : List (S28)) : Option ((List (S28)) × Bool) := (some (([] : List (S28)) : List (S28))).bind fun y533 => ((spec_LogValid.f k l0).bind fun t536 => (if t536 = true then (spec_LogEven.l0 k l0 y533 0) else (some (y533, false))))
def spec_LogEven.T8 : Bool × List (List Nat × List Nat) := (true, [([], []), ([], []), ([1], [1]), ([2], [2]), ([0, 3], [0, 3]), ([4], [4]), ([], []), ([], []), ([6, 7], [6, 7]), ([8], [8]), ([5, 9], [5, 9]), ([10], [10]), ([11], [11]), ([11], [11]), ([], []), ([14, 12, 10, 0, 1, 2, 3, 4, 5, 6, 7, 8, 9, 10, 11, 12, 14], [12, 14]), ([13, 15, 0, 1, 2, 3, 4, 5, 6, 7, 8, 9, 10, 11, 12, 13, 14, 15], [13])])
def spec_LogEven.B8 : List Nat := [0, 0, 2, 6, 15, 31, 0, 0, 192, 448, 1023, 2047, 4095, 4095, 0, 24575, 65535]
theorem spec_LogEven.tab8 : rtab .any (opsOf Tryd.f23 8) = spec_LogEven.T8 := by kernel_rfl
theorem spec_LogEven.bits8 : waitsOk spec_LogEven.T8.2 spec_LogEven.B8 = true := by kernel_rfl
set_option maxHeartbeats 8000000 in
set_option maxRecDepth 100000 in
theorem spec_LogEven.calls (k : Nat) (P0_ : Nat → Prop) (A0 : Option Addr) (c0 : Nat) (l0 : List (S28)) (r1 : List (S28)) (r2 : Bool) (w : World) (hs0 : Kd.V k28 28 w w.heap.size (fun k_ => P0_ k_) (.slice A0 l0.length c0) l0) (h : spec_LogEven.f k l0 = some (r1, r2)) :
  Calls Tryd.prog 23 #[.slice A0 l0.length c0] w fun e w' => ∃ v0_ : Value, e = .returned (.tuple #[v0_, .bool r2]) ∧ Kd.N k28 28 w' w.heap.size (fun k_ => (P0_ k_ ∨ w.heap.size ≤ k_)) v0_ r1 ∧ Below w.heap.size w w' := by
 have hu28 := Tryd.underlying28
 have HO0 := Aside0.mk (show Kd.V k28 28 w w.heap.size (fun k_ => (P0_ k_ ∨ w.heap.size ≤ k_)) (.slice A0 l0.length c0) l0 from Kd.V_mono hs0 (fun k_ hk => .inl hk))
 have HB := Aside0.mk (Below.refl w.heap.size w)
 have H : ((some (([] : List (S28)) : List (S28))).bind fun y533 => ((spec_LogValid.f k l0).bind fun t536 => (if t536 = true then (spec_LogEven.l0 k l0 y533 0) else (some (y533, false))))) = some (r1, r2) := h
 clear h
 obtain ⟨y533, hy533⟩ : ∃ y_ : List (S28), y_ = (([] : List (S28))) := ⟨_, rfl⟩
 replace H : ((spec_LogValid.f k l0).bind fun t536 => (if t536 = true then (spec_LogEven.l0 k l0 y533 0) else (some (y533, false)))) = some (r1, r2) := by first | (rw [hy533]; with_reducible exact H) | (have H2_ := (Option.bind_some _ _).symm.trans H; rw [hy533]; with_reducible exact H2_) | (have H2_ := (Option.bind_some _ _).symm.trans H; with_reducible exact H2_) | with_reducible exact H | (rw [hy533]; exact H) | exact H
 have Ny533 := Aside0.mk hy533
 clear hy533
 replace H := tbe H
 obtain ⟨t536, A2, H⟩ := H
 by_cases c3 : t536 = true
 ·subst c3
  rw [if_pos rfl] at H
  have H' := Aside0.mk H
  clear H
  go_enter Tryd.func23, Tryd.ntmps23
  go_wp2_with (first | ((with_reducible refine gate_dst (N := 8) rfl ?_); refine Kd.N_lit k28 _ 28 ?hg (N' := 8) ?hd (xs := ([] : List (S28))) (inner := []) (ok := (fun k_ => (P0_ k_ ∨ w.heap.size ≤ k_))) (okp := (fun k_ => (P0_ k_ ∨ w.heap.size ≤ k_))) ?hr ?hp (fun _ hk => hk) ((show ∀ k_, w.heap.size ≤ k_ → (fun k_ => (P0_ k_ ∨ w.heap.size ≤ k_)) k_ from fun k_ hk => (.inr (Nat.le_trans (below_size zb) hk))) _ (Nat.le_refl _)) (Below.refl _ _) (Nat.le_refl _) (by simp) ?_; (case hd => rfl); (case hg => rfl); (case hr => first | (go_simp; done) | (go_simp; rfl)); (case hp => exact (Reps.none _ _)); intro v534 w4 ho5 hb hg_ hnew_; clear hg_ hnew_; (first | rw [← Ny533.out] at ho5 | (simp only [Int.reduceToNat] at ho5; rw [← Ny533.out] at ho5)); replace HO0 := tVe HO0 ho5 hb; have HO535 := tNl ho5 HB; replace HB := tBs HB hb; clear hb ho5) | ((with_reducible refine gate_callee (f := 35) rfl ?_); refine goesL_ (some 10) rfl rfl Tryd.func35 (by kernel_rfl) rfl #[.slice A0 l0.length c0] rfl tq ?_; (with_reducible refine (spec_LogValid.calls k _ _ l0 true _ ?side1 ?side2 A2.out).mono ?_); (case side1 => repeat (first | exact (Kd.V_reads' HO0.out).2.2 | (with_reducible refine Kd.C_alloc ?_ _) | (with_reducible refine Kd.C_drewN ?_ _) | (with_reducible refine Kd.C_drew ?_))); (case side2 => exact (Kd.V_reads' HO0.out).2.1); rintro e w6 ⟨rfl, hb⟩; refine ⟨_, rfl, ?_⟩; replace HO0 := tVb HO0 hb; replace HO535 := tNb HO535 hb; replace HB := tBs HB hb; (try clear hb); (try clear hb2); (try clear hk); (try clear hi)))
  go_loopg [4, 5] k (fun kq v4 v5 w' => ∃ (x0_1 : List (S28)) (x4_1 : List (S28)) (x5_1 : Int), v5 = .int .i64 x5_1 ∧ Aside0 (spec_LogEven.l0 kq x0_1 x4_1 x5_1 = some (r1, r2)) ∧ Aside0 (kq ≤ k) ∧ Aside0 (Kd.V k28 28 w' w.heap.size (fun k_ => (P0_ k_ ∨ w.heap.size ≤ k_) ∧ some k_ ≠ (v4 : Value).ownBlock) (.slice A0 l0.length c0) x0_1) ∧ Aside0 (Kd.N k28 28 w' w.heap.size (fun k_ => (P0_ k_ ∨ w.heap.size ≤ k_)) v4 x4_1) ∧ Aside0 (Below w.heap.size w w'))
  case atStart => exact ⟨(l0), (y533), (0), tr, H', ⟨Nat.le_refl _⟩, ⟨tV HO0.out⟩, ⟨tN HO535.out⟩, ⟨zb⟩⟩
  case round =>
   clear H'
   try clear c3
   obtain ⟨x0_1, x4_1, x5_1, rfl, HA, HK1, HO_0, HO_4, HB⟩ := hrel
   have hl0_1 := (Kd.V_reads' HO_0.out).1
   rw [hl0_1] at HO_0
   (try simp only [hl0_1])
   (try simp only [hl0_1] at HO_4)
   cases gk with
   | zero => exact absurd HA.out (by simp [spec_LogEven.l0])
   | succ k1 =>
    have H := HA.out
    clear HA
    simp only [spec_LogEven.l0] at H
    by_cases c7 : x5_1 < (x0_1.length : Int)
    ·rw [if_pos c7] at H
     have c7b0 : decide (x5_1 < (x0_1.length : Int)) = true := decide_eq_true c7
     clear c7
     by_cases c8 : (x4_1.length : Int) > 0
     ·rw [if_pos c8] at H
      have c8b0 : decide (0 < (x4_1.length : Int)) = true := decide_eq_true c8
      have c8b1 : decide (0 < x4_1.length) = true := decide_eq_true (by omega)
      clear c8
      obtain ⟨ji9, hji9⟩ : ∃ j_ : Int, (wrap64 ((x4_1.length : Int) - 1)) = j_ := ⟨_, rfl⟩
      replace H : (if 0 ≤ (ji9) then (if (ji9) < (x4_1.length : Int) then (if 0 ≤ x5_1 then ((spec_BatchJoin.f k1 ((rd_T28 x4_1 (ji9)).f0) ((rd_T28 x4_1 (ji9)).f1) ((rd_T28 x4_1 (ji9)).f2) ((rd_T28 x4_1 (ji9)).f3) ((rd_T28 x4_1 (ji9)).f4) ((rd_T28 x4_1 (ji9)).f5) ((rd_T28 x0_1 x5_1).f0) ((rd_T28 x0_1 x5_1).f1) ((rd_T28 x0_1 x5_1).f2) ((rd_T28 x0_1 x5_1).f3) ((rd_T28 x0_1 x5_1).f4) ((rd_T28 x0_1 x5_1).f5)).bind fun bt539 => (if bt539.2.2.2.2.2.2 = true then (spec_LogEven.l0 k1 x0_1 (x4_1.set ((ji9) : Int).toNat (⟨bt539.1, bt539.2.1, bt539.2.2.1, bt539.2.2.2.1, bt539.2.2.2.2.1, bt539.2.2.2.2.2.1⟩ : S28)) (wrap64 (x5_1 + 1))) else ((spec_l12Batch.f k1 ((rd_T28 x0_1 x5_1).f0) ((rd_T28 x0_1 x5_1).f1) ((rd_T28 x0_1 x5_1).f2) ((rd_T28 x0_1 x5_1).f3) ((rd_T28 x0_1 x5_1).f4) ((rd_T28 x0_1 x5_1).f5)).bind fun bt551 => (if x4_1.length < 2513169434916 then (spec_LogEven.l0 k1 x0_1 (x4_1 ++ [(⟨bt551.1, bt551.2.1, bt551.2.2.1, bt551.2.2.2.1, bt551.2.2.2.2.1, bt551.2.2.2.2.2⟩ : S28)]) (wrap64 (x5_1 + 1))) else (none))))) else (none)) else (none)) else (none)) = some (r1, r2) := by first | (rw [hji9] at H; exact H) | (simp only [hji9] at H ⊢; exact H)
      have hji9w : (IntKind.i64.wrap ((x4_1.length : Int) - 1)) = ji9 := (i64_w _).trans hji9
      by_cases c10 : 0 ≤ (ji9)
      ·rw [if_pos c10] at H
       have c10b0 : decide (0 ≤ (ji9)) = true := decide_eq_true c10
       clear c10
       by_cases c11 : (ji9) < (x4_1.length : Int)
       ·rw [if_pos c11] at H
        have c11b0 : decide ((ji9) < (x4_1.length : Int)) = true := decide_eq_true c11
        clear c11
        by_cases c12 : 0 ≤ x5_1
        ·rw [if_pos c12] at H
         have c12b0 : decide (0 ≤ x5_1) = true := decide_eq_true c12
         clear c12
         replace H := tbe H
         obtain ⟨⟨t539, t540, t541, t542, t543, t544, t547⟩, A13, H⟩ := H
         dsimp only at H
         by_cases c14 : t547 = true
         ·subst c14
          rw [if_pos rfl] at H
          obtain ⟨y549, hy549⟩ : ∃ y_ : List (S28), y_ = (x4_1.set ((ji9) : Int).toNat (⟨t539, t540, t541, t542, t543, t544⟩ : S28)) := ⟨_, rfl⟩
          replace H : (spec_LogEven.l0 k1 x0_1 y549 (wrap64 (x5_1 + 1))) = some (r1, r2) := by first | (rw [hy549]; with_reducible exact H) | (have H2_ := (Option.bind_some _ _).symm.trans H; rw [hy549]; with_reducible exact H2_) | (have H2_ := (Option.bind_some _ _).symm.trans H; with_reducible exact H2_) | with_reducible exact H | (rw [hy549]; exact H) | exact H
          have Ny549 := Aside0.mk hy549
          clear hy549
          have H' := Aside0.mk H
          clear H
          obtain ⟨Ao16, co16, eo16⟩ := Kd.N_slice HO_4.out
          subst eo16
          try go_wp2
          replace HO_0 := Aside0.mk (Kd.V_drew HO_0.out)
          replace HO_4 := Aside0.mk (Kd.N_drew HO_4.out)
          replace HB := Aside0.mk (below_drew1 HB.out)
          have p537 : 0 ≤ ((ji9) : Int) := td
          have q537 : (ji9) < (x4_1.length : Int) := td
          obtain ⟨ad537, A537_5, c537_5, e537, hx537_0, hx537_1, hx537_2, hx537_3, hx537_4, hx537_5, hl537_5, hi537_5⟩ := at_T28 (Kd.N_reads' HO_4.out).2.2 (ji9) p537 q537
          cases e537
          obtain ⟨ce537, hce537, hMe537, hcc537⟩ := Kd.N_get HO_4.out z28 (ji9) p537 (by first | exact q537 | exact td | (have e_ := (Kd.N_reads' HO_4.out).1; omega))
          obtain ⟨ua537_5, uc537_5, rfl, ul537_5, ge537_5⟩ := k28_openF hMe537
          have hv537_5 := hcc537 5 _ rfl
          rw [add_field _ _ 5 (by omega)] at hv537_5
          replace hv537_5 := Option.some.inj (hv537_5.symm.trans hx537_5)
          injection hv537_5 with hva_ hvn_ hvc_
          rw [hva_] at ge537_5
          rw [hvc_] at ul537_5
          have HL537_5 := Aside0.mk (show Kd.V k62 62 _ w.heap.size _ _ ((rd_T28 x4_1 (ji9)).f5) from Kd.V_mk ul537_5 ge537_5)
          clear hva_ hvn_ hvc_ ge537_5 ul537_5
          clear hcc537 hce537
          have HR537_5 := Aside0.mk hi537_5
          have HC537_5 := Aside0.mk hl537_5
          clear hi537_5 hl537_5
          replace p537 := eq_true p537
          replace q537 := eq_true q537
          have p538 : 0 ≤ (x5_1 : Int) := td
          have q538 : x5_1 < (x0_1.length : Int) := td
          obtain ⟨ad538, A538_5, c538_5, e538, hx538_0, hx538_1, hx538_2, hx538_3, hx538_4, hx538_5, hl538_5, hi538_5⟩ := at_T28 (Kd.V_reads' HO_0.out).2.2 x5_1 p538 q538
          cases e538
          obtain ⟨ce538, hce538, hMe538, hcc538⟩ := Kd.V_get HO_0.out z28 x5_1 p538 (by first | exact q538 | exact td | (have e_ := (Kd.V_reads' HO_0.out).1; omega))
          obtain ⟨ua538_5, uc538_5, rfl, ul538_5, ge538_5⟩ := k28_openF hMe538
          have hv538_5 := hcc538 5 _ rfl
          rw [add_field _ _ 5 (by omega)] at hv538_5
          replace hv538_5 := Option.some.inj (hv538_5.symm.trans hx538_5)
          injection hv538_5 with hva_ hvn_ hvc_
          rw [hva_] at ge538_5
          rw [hvc_] at ul538_5
          have HL538_5 := Aside0.mk (show Kd.V k62 62 _ w.heap.size _ _ ((rd_T28 x0_1 x5_1).f5) from Kd.V_mk ul538_5 ge538_5)
          clear hva_ hvn_ hvc_ ge538_5 ul538_5
          clear hcc538 hce538
          have HR538_5 := Aside0.mk hi538_5
          have HC538_5 := Aside0.mk hl538_5
          clear hi538_5 hl538_5
          replace p538 := eq_true p538
          replace q538 := eq_true q538
          refine start_ (n := 17) (S := fun w' => w'.cell? (ad537.add (((ji9)).toNat * 6)) = some (.bool ((rd_T28 x4_1 (ji9)).f0)) ∧ w'.cell? ⟨(ad537.add (((ji9)).toNat * 6)).block, (ad537.add (((ji9)).toNat * 6)).off + 1, none⟩ = some (.bool ((rd_T28 x4_1 (ji9)).f1)) ∧ w'.cell? ⟨(ad537.add (((ji9)).toNat * 6)).block, (ad537.add (((ji9)).toNat * 6)).off + 2, none⟩ = some (.int .i64 ((rd_T28 x4_1 (ji9)).f2)) ∧ w'.cell? ⟨(ad537.add (((ji9)).toNat * 6)).block, (ad537.add (((ji9)).toNat * 6)).off + 3, none⟩ = some (.int .i64 ((rd_T28 x4_1 (ji9)).f3)) ∧ w'.cell? ⟨(ad537.add (((ji9)).toNat * 6)).block, (ad537.add (((ji9)).toNat * 6)).off + 4, none⟩ = some (.int .i64 ((rd_T28 x4_1 (ji9)).f4)) ∧ w'.cell? ⟨(ad537.add (((ji9)).toNat * 6)).block, (ad537.add (((ji9)).toNat * 6)).off + 5, none⟩ = some (.slice A537_5 ((rd_T28 x4_1 (ji9)).f5).length c537_5) ∧ w'.cell? (ad538.add ((x5_1).toNat * 6)) = some (.bool ((rd_T28 x0_1 x5_1).f0)) ∧ w'.cell? ⟨(ad538.add ((x5_1).toNat * 6)).block, (ad538.add ((x5_1).toNat * 6)).off + 1, none⟩ = some (.bool ((rd_T28 x0_1 x5_1).f1)) ∧ w'.cell? ⟨(ad538.add ((x5_1).toNat * 6)).block, (ad538.add ((x5_1).toNat * 6)).off + 2, none⟩ = some (.int .i64 ((rd_T28 x0_1 x5_1).f2)) ∧ w'.cell? ⟨(ad538.add ((x5_1).toNat * 6)).block, (ad538.add ((x5_1).toNat * 6)).off + 3, none⟩ = some (.int .i64 ((rd_T28 x0_1 x5_1).f3)) ∧ w'.cell? ⟨(ad538.add ((x5_1).toNat * 6)).block, (ad538.add ((x5_1).toNat * 6)).off + 4, none⟩ = some (.int .i64 ((rd_T28 x0_1 x5_1).f4)) ∧ w'.cell? ⟨(ad538.add ((x5_1).toNat * 6)).block, (ad538.add ((x5_1).toNat * 6)).off + 5, none⟩ = some (.slice A538_5 ((rd_T28 x0_1 x5_1).f5).length c538_5)) (ds := []) #[false, false, false, false, false, false, false, false, false, false, false, false, false, false, false, false, false] (by kernel_rfl) rfl rfl ⟨hx537_0, hx537_1, hx537_2, hx537_3, hx537_4, hx537_5, hx538_0, hx538_1, hx538_2, hx538_3, hx538_4, hx538_5⟩ (fun hHeld => ?_); refine with_tabW spec_LogEven.tab8 spec_LogEven.bits8 (fun HT_ HW_ => ?_)
          generalize wr.drew = w17 at HO_0 HO_4 HB HL537_5 HL538_5 HR537_5 HR538_5 hx537_0 hx537_1 hx537_2 hx537_3 hx537_4 hx537_5 hx538_0 hx538_1 hx538_2 hx538_3 hx538_4 hx538_5 hHeld ⊢
          refine tpu 0 (some 23) #[true, false, false, false, false, false, false, false, false, false, false, false, false, false, false, false, false] ?_
          refine tpu 1 (some 24) #[true, true, false, false, false, false, false, false, false, false, false, false, false, false, false, false, false] ?_
          refine tpu 2 (some 25) #[true, true, true, false, false, false, false, false, false, false, false, false, false, false, false, false, false] ?_
          refine tpu 3 (some 26) #[true, true, true, true, false, false, false, false, false, false, false, false, false, false, false, false, false] ?_
          refine tpu 4 (some 27) #[true, true, true, true, true, false, false, false, false, false, false, false, false, false, false, false, false] ?_
          refine tpu 6 (some 29) #[true, true, true, true, true, false, true, false, false, false, false, false, false, false, false, false, false] ?_
          refine tpu 7 (some 30) #[true, true, true, true, true, false, true, true, false, false, false, false, false, false, false, false, false] ?_
          refine tpu 8 (some 31) #[true, true, true, true, true, false, true, true, true, false, false, false, false, false, false, false, false] ?_
          refine tta 5 (some 28) #[true, true, true, true, true, true, true, true, true, false, false, false, false, false, false, false, false] hHeld ?_ (hy := by rintro w' ⟨s0, s1, s2, s3, s4, s5, s6, s7, s8, s9, s10, s11⟩; go_simp; with_reducible rfl)
          refine tta 9 (some 32) #[true, true, true, true, true, true, true, true, true, true, false, false, false, false, false, false, false] hHeld ?_ (hy := by rintro w' ⟨s0, s1, s2, s3, s4, s5, s6, s7, s8, s9, s10, s11⟩; go_simp; with_reducible rfl)
          refine join_ (σ := Value × Nat) 2 #[true, true, true, true, true, true, true, true, true, true, true, true, true, true, true, false, false] (fun s_ => [(33, .tuple #[.agg #[.bool t539, .bool t540, .int .i64 t541, .int .i64 t542, .int .i64 t543, s_.1], .bool true]), (6, .pointer (some ⟨s_.2, 0, none⟩)), (22, .tuple #[.agg #[.bool t539, .bool t540, .int .i64 t541, .int .i64 t542, .int .i64 t543, s_.1], .bool true]), (34, .agg #[.bool t539, .bool t540, .int .i64 t541, .int .i64 t542, .int .i64 t543, s_.1]), (35, .bool true)]) (fun s_ w' => (w'.cell? (ad537.add (((ji9)).toNat * 6)) = some (.bool ((rd_T28 x4_1 (ji9)).f0)) ∧ w'.cell? ⟨(ad537.add (((ji9)).toNat * 6)).block, (ad537.add (((ji9)).toNat * 6)).off + 1, none⟩ = some (.bool ((rd_T28 x4_1 (ji9)).f1)) ∧ w'.cell? ⟨(ad537.add (((ji9)).toNat * 6)).block, (ad537.add (((ji9)).toNat * 6)).off + 2, none⟩ = some (.int .i64 ((rd_T28 x4_1 (ji9)).f2)) ∧ w'.cell? ⟨(ad537.add (((ji9)).toNat * 6)).block, (ad537.add (((ji9)).toNat * 6)).off + 3, none⟩ = some (.int .i64 ((rd_T28 x4_1 (ji9)).f3)) ∧ w'.cell? ⟨(ad537.add (((ji9)).toNat * 6)).block, (ad537.add (((ji9)).toNat * 6)).off + 4, none⟩ = some (.int .i64 ((rd_T28 x4_1 (ji9)).f4)) ∧ w'.cell? ⟨(ad537.add (((ji9)).toNat * 6)).block, (ad537.add (((ji9)).toNat * 6)).off + 5, none⟩ = some (.slice A537_5 ((rd_T28 x4_1 (ji9)).f5).length c537_5) ∧ w'.cell? (ad538.add ((x5_1).toNat * 6)) = some (.bool ((rd_T28 x0_1 x5_1).f0)) ∧ w'.cell? ⟨(ad538.add ((x5_1).toNat * 6)).block, (ad538.add ((x5_1).toNat * 6)).off + 1, none⟩ = some (.bool ((rd_T28 x0_1 x5_1).f1)) ∧ w'.cell? ⟨(ad538.add ((x5_1).toNat * 6)).block, (ad538.add ((x5_1).toNat * 6)).off + 2, none⟩ = some (.int .i64 ((rd_T28 x0_1 x5_1).f2)) ∧ w'.cell? ⟨(ad538.add ((x5_1).toNat * 6)).block, (ad538.add ((x5_1).toNat * 6)).off + 3, none⟩ = some (.int .i64 ((rd_T28 x0_1 x5_1).f3)) ∧ w'.cell? ⟨(ad538.add ((x5_1).toNat * 6)).block, (ad538.add ((x5_1).toNat * 6)).off + 4, none⟩ = some (.int .i64 ((rd_T28 x0_1 x5_1).f4)) ∧ w'.cell? ⟨(ad538.add ((x5_1).toNat * 6)).block, (ad538.add ((x5_1).toNat * 6)).off + 5, none⟩ = some (.slice A538_5 ((rd_T28 x0_1 x5_1).f5).length c538_5)) ∧ (Kd.V k62 62 w' w.heap.size (fun k_ => (P0_ k_ ∨ w.heap.size ≤ k_) ∧ some k_ ≠ (s_.1 : Value).ownBlock ∧ some k_ ≠ (.slice (some ad537) x4_1.length co16 : Value).ownBlock ∧ k_ ≠ s_.2) (.slice A537_5 ((rd_T28 x4_1 (ji9)).f5).length c537_5) ((rd_T28 x4_1 (ji9)).f5)) ∧ (Kd.V k62 62 w' w.heap.size (fun k_ => (P0_ k_ ∨ w.heap.size ≤ k_) ∧ some k_ ≠ (s_.1 : Value).ownBlock ∧ some k_ ≠ (.slice (some ad537) x4_1.length co16 : Value).ownBlock ∧ k_ ≠ s_.2) (.slice A538_5 ((rd_T28 x0_1 x5_1).f5).length c538_5) ((rd_T28 x0_1 x5_1).f5)) ∧ (Kd.N k62 62 w' w.heap.size (fun k_ => (P0_ k_ ∨ w.heap.size ≤ k_) ∧ some k_ ≠ (.slice (some ad537) x4_1.length co16 : Value).ownBlock ∧ k_ ≠ s_.2) s_.1 t544) ∧ (Kd.V k28 28 w' w.heap.size (fun k_ => (P0_ k_ ∨ w.heap.size ≤ k_) ∧ some k_ ≠ (s_.1 : Value).ownBlock ∧ some k_ ≠ (.slice (some ad537) x4_1.length co16 : Value).ownBlock ∧ k_ ≠ s_.2) (.slice (some ad538) x0_1.length c0) x0_1) ∧ (Kd.N k28 28 w' w.heap.size (fun k_ => (P0_ k_ ∨ w.heap.size ≤ k_) ∧ some k_ ≠ (s_.1 : Value).ownBlock ∧ k_ ≠ s_.2) (.slice (some ad537) x4_1.length co16) x4_1) ∧ (w'.heap[s_.2]? = some (.cells #[.bool false, .bool false, .int .i64 0, .int .i64 0, .int .i64 0, .slice none 0 0] 28 (0, 0))) ∧ (w.heap.size ≤ s_.2) ∧ (w.heap.size ≤ s_.2) ∧ (Below w.heap.size w w')) ?_ ?_
          rotate_left
          ·intro hCont
           refine two_ (i := 10) (j := 14) (Ni := some 33) (Nj := some 6) #[true, true, true, true, true, true, true, true, true, true, true, false, false, false, false, false, false] #[true, true, true, true, true, true, true, true, true, true, false, false, false, false, true, false, false] rfl rfl rfl rfl (two_of HT_.out (by kernel_rfl)) (by decide) (by decide) (fun K hK => ?_) (fun K hK => ?_)
           ·skip
            refine goes_ Tryd.func8 (by kernel_rfl) rfl #[.agg #[.bool ((rd_T28 x4_1 (ji9)).f0), .bool ((rd_T28 x4_1 (ji9)).f1), .int .i64 ((rd_T28 x4_1 (ji9)).f2), .int .i64 ((rd_T28 x4_1 (ji9)).f3), .int .i64 ((rd_T28 x4_1 (ji9)).f4), .slice A537_5 ((rd_T28 x4_1 (ji9)).f5).length c537_5], .agg #[.bool ((rd_T28 x0_1 x5_1).f0), .bool ((rd_T28 x0_1 x5_1).f1), .int .i64 ((rd_T28 x0_1 x5_1).f2), .int .i64 ((rd_T28 x0_1 x5_1).f3), .int .i64 ((rd_T28 x0_1 x5_1).f4), .slice A538_5 ((rd_T28 x0_1 x5_1).f5).length c538_5]] (by rfl) rfl rfl (by (try simp only [List.map_toArray, List.map_cons, List.map_nil]); first | done | (simp only [hji9]; rfl) | rfl | (simp only [List.length_drop, List.length_take]; rfl)) ?_
            with_reducible refine (spec_BatchJoin.calls k1 ((rd_T28 x4_1 (ji9)).f0) ((rd_T28 x4_1 (ji9)).f1) ((rd_T28 x4_1 (ji9)).f2) ((rd_T28 x4_1 (ji9)).f3) ((rd_T28 x4_1 (ji9)).f4) (fun k_ => ((P0_ k_ ∨ w.heap.size ≤ k_) ∧ some k_ ≠ (.slice (some ad537) x4_1.length co16 : Value).ownBlock)) _ _ ((rd_T28 x4_1 (ji9)).f5) ((rd_T28 x0_1 x5_1).f0) ((rd_T28 x0_1 x5_1).f1) ((rd_T28 x0_1 x5_1).f2) ((rd_T28 x0_1 x5_1).f3) ((rd_T28 x0_1 x5_1).f4) (fun k_ => ((P0_ k_ ∨ w.heap.size ≤ k_) ∧ some k_ ≠ (.slice (some ad537) x4_1.length co16 : Value).ownBlock)) _ _ ((rd_T28 x0_1 x5_1).f5) t539 t540 t541 t542 t543 t544 true _ ?side1 ?side2 A13.out).mono ?_
            (case side1 => exact HL537_5.out)
            (case side2 => exact HL538_5.out)
            rintro e w18 ⟨v545, rfl, ho0, hb⟩
            have HS0_ := tcb hb hHeld.1
            have HS1_ := tcb hb hHeld.2.1
            have HS2_ := tcb hb hHeld.2.2.1
            have HS3_ := tcb hb hHeld.2.2.2.1
            have HS4_ := tcb hb hHeld.2.2.2.2.1
            have HS5_ := tcb hb hHeld.2.2.2.2.2.1
            have HS6_ := tcb hb hHeld.2.2.2.2.2.2.1
            have HS7_ := tcb hb hHeld.2.2.2.2.2.2.2.1
            have HS8_ := tcb hb hHeld.2.2.2.2.2.2.2.2.1
            have HS9_ := tcb hb hHeld.2.2.2.2.2.2.2.2.2.1
            have HS10_ := tcb hb hHeld.2.2.2.2.2.2.2.2.2.2.1
            have HS11_ := tcb hb hHeld.2.2.2.2.2.2.2.2.2.2.2
            refine ⟨_, rfl, ?_⟩
            replace HO_0 := tVe HO_0 ho0 hb
            replace HL537_5 := tVe HL537_5 ho0 hb
            replace HL538_5 := tVe HL538_5 ho0 hb
            have HO546 := Aside0.mk (Kd.N_lower (Kd.N_mono (ok' := fun k_ => (P0_ k_ ∨ w.heap.size ≤ k_) ∧ some k_ ≠ (.slice (some ad537) x4_1.length co16 : Value).ownBlock) ho0 (fun k_ hk_ => ⟨Or.elim hk_ (fun hs_ => Or.elim hs_ (fun hs_ => hs_.1) (fun hs_ => hs_.1)) (fun hn_ => (.inr (Nat.le_trans (below_size zb) hn_))), Or.elim hk_ (fun hs_ => Or.elim hs_ (fun hs_ => hs_.2) (fun hs_ => hs_.2)) (fun hn_ => (tfr HO_4 k_ hn_))⟩)) (below_size zb))
            replace HO_4 := tNe HO_4 ho0 hb
            replace HR537_5 := tCb HR537_5 hb
            replace HR538_5 := tCb HR538_5 hb
            replace HB := tBs HB hb
            (try clear hb)
            (try clear hb2)
            (try clear hk)
            (try clear hi)
            (try clear ho0)
            refine hK.out _ _ ⟨HS0_, HS1_, HS2_, HS3_, HS4_, HS5_, HS6_, HS7_, HS8_, HS9_, HS10_, HS11_⟩ (fun hHeld => ?_)
            clear hK K
            refine tnm (some 33) ?_
            refine tpu 11 (some 22) #[true, true, true, true, true, true, true, true, true, true, true, true, false, false, false, false, false] ?_
            refine tpu 12 (some 34) #[true, true, true, true, true, true, true, true, true, true, true, true, true, false, false, false, false] ?_
            refine tpu 13 (some 35) #[true, true, true, true, true, true, true, true, true, true, true, true, true, true, false, false, false] ?_
            refine one_ (i := 14) (N := some 6) #[true, true, true, true, true, true, true, true, true, true, true, true, true, true, true, false, false] rfl rfl (one_of HT_.out (by kernel_rfl)) (by decide) (fun K hK => ?_)
            refine box_step ?hg (N := 6) ?hd (cs := #[.bool false, .bool false, .int .i64 0, .int .i64 0, .int .i64 0, .slice none 0 0]) (t := 28) ?hr ?_; (case hd => rfl); (case hg => rfl); (case hr => first | (go_simp; done) | (go_simp; rfl))
            intro gb548 hg w19 hbox hb
            have HS0_ := tcb hb hHeld.1
            have HS1_ := tcb hb hHeld.2.1
            have HS2_ := tcb hb hHeld.2.2.1
            have HS3_ := tcb hb hHeld.2.2.2.1
            have HS4_ := tcb hb hHeld.2.2.2.2.1
            have HS5_ := tcb hb hHeld.2.2.2.2.2.1
            have HS6_ := tcb hb hHeld.2.2.2.2.2.2.1
            have HS7_ := tcb hb hHeld.2.2.2.2.2.2.2.1
            have HS8_ := tcb hb hHeld.2.2.2.2.2.2.2.2.1
            have HS9_ := tcb hb hHeld.2.2.2.2.2.2.2.2.2.1
            have HS10_ := tcb hb hHeld.2.2.2.2.2.2.2.2.2.2.1
            have HS11_ := tcb hb hHeld.2.2.2.2.2.2.2.2.2.2.2
            replace HO_0 := tVB HO_0 hg hb
            replace HO_4 := tNB HO_4 hg hb
            replace HL537_5 := tVB HL537_5 hg hb
            replace HL538_5 := tVB HL538_5 hg hb
            replace HO546 := tNB HO546 hg hb
            replace HR537_5 := tCb HR537_5 hb
            replace HR538_5 := tCb HR538_5 hb
            have BK548 := Aside0.mk (hbox)
            have GW548 := tge HB hg
            have GE548 := tge HB hg
            replace HB := tBs HB hb
            clear hb hbox hg
            refine hK.out _ _ ⟨HS0_, HS1_, HS2_, HS3_, HS4_, HS5_, HS6_, HS7_, HS8_, HS9_, HS10_, HS11_⟩ (fun hHeld => ?_)
            clear hK K
            refine tnm (some 6) ?_
            exact tnx (hCont (v545, gb548) _ ⟨hHeld, (tVm HL537_5.out), (tVm HL538_5.out), (tNm HO546.out), (tVm HO_0.out), (tNm HO_4.out), (tH BK548.out), GW548.out, GE548.out, zb⟩)
           ·skip
            refine box_step ?hg (N := 6) ?hd (cs := #[.bool false, .bool false, .int .i64 0, .int .i64 0, .int .i64 0, .slice none 0 0]) (t := 28) ?hr ?_; (case hd => rfl); (case hg => rfl); (case hr => first | (go_simp; done) | (go_simp; rfl))
            intro gb548 hg w18 hbox hb
            have HS0_ := tcb hb hHeld.1
            have HS1_ := tcb hb hHeld.2.1
            have HS2_ := tcb hb hHeld.2.2.1
            have HS3_ := tcb hb hHeld.2.2.2.1
            have HS4_ := tcb hb hHeld.2.2.2.2.1
            have HS5_ := tcb hb hHeld.2.2.2.2.2.1
            have HS6_ := tcb hb hHeld.2.2.2.2.2.2.1
            have HS7_ := tcb hb hHeld.2.2.2.2.2.2.2.1
            have HS8_ := tcb hb hHeld.2.2.2.2.2.2.2.2.1
            have HS9_ := tcb hb hHeld.2.2.2.2.2.2.2.2.2.1
            have HS10_ := tcb hb hHeld.2.2.2.2.2.2.2.2.2.2.1
            have HS11_ := tcb hb hHeld.2.2.2.2.2.2.2.2.2.2.2
            replace HO_0 := tVB HO_0 hg hb
            replace HO_4 := tNB HO_4 hg hb
            replace HL537_5 := tVB HL537_5 hg hb
            replace HL538_5 := tVB HL538_5 hg hb
            replace HR537_5 := tCb HR537_5 hb
            replace HR538_5 := tCb HR538_5 hb
            have BK548 := Aside0.mk (hbox)
            have GW548 := tge HB hg
            have GE548 := tge HB hg
            replace HB := tBs HB hb
            clear hb hbox hg
            refine hK.out _ _ ⟨HS0_, HS1_, HS2_, HS3_, HS4_, HS5_, HS6_, HS7_, HS8_, HS9_, HS10_, HS11_⟩ (fun hHeld => ?_)
            clear hK K
            refine tnm (some 6) ?_
            refine one_ (i := 10) (N := some 33) #[true, true, true, true, true, true, true, true, true, true, true, false, false, false, true, false, false] rfl rfl (one_of HT_.out (by kernel_rfl)) (by decide) (fun K hK => ?_)
            refine goes_ Tryd.func8 (by kernel_rfl) rfl #[.agg #[.bool ((rd_T28 x4_1 (ji9)).f0), .bool ((rd_T28 x4_1 (ji9)).f1), .int .i64 ((rd_T28 x4_1 (ji9)).f2), .int .i64 ((rd_T28 x4_1 (ji9)).f3), .int .i64 ((rd_T28 x4_1 (ji9)).f4), .slice A537_5 ((rd_T28 x4_1 (ji9)).f5).length c537_5], .agg #[.bool ((rd_T28 x0_1 x5_1).f0), .bool ((rd_T28 x0_1 x5_1).f1), .int .i64 ((rd_T28 x0_1 x5_1).f2), .int .i64 ((rd_T28 x0_1 x5_1).f3), .int .i64 ((rd_T28 x0_1 x5_1).f4), .slice A538_5 ((rd_T28 x0_1 x5_1).f5).length c538_5]] (by rfl) rfl rfl (by (try simp only [List.map_toArray, List.map_cons, List.map_nil]); first | done | (simp only [hji9]; rfl) | rfl | (simp only [List.length_drop, List.length_take]; rfl)) ?_
            with_reducible refine (spec_BatchJoin.calls k1 ((rd_T28 x4_1 (ji9)).f0) ((rd_T28 x4_1 (ji9)).f1) ((rd_T28 x4_1 (ji9)).f2) ((rd_T28 x4_1 (ji9)).f3) ((rd_T28 x4_1 (ji9)).f4) (fun k_ => (((P0_ k_ ∨ w.heap.size ≤ k_) ∧ some k_ ≠ (.slice (some ad537) x4_1.length co16 : Value).ownBlock) ∧ k_ ≠ gb548)) _ _ ((rd_T28 x4_1 (ji9)).f5) ((rd_T28 x0_1 x5_1).f0) ((rd_T28 x0_1 x5_1).f1) ((rd_T28 x0_1 x5_1).f2) ((rd_T28 x0_1 x5_1).f3) ((rd_T28 x0_1 x5_1).f4) (fun k_ => (((P0_ k_ ∨ w.heap.size ≤ k_) ∧ some k_ ≠ (.slice (some ad537) x4_1.length co16 : Value).ownBlock) ∧ k_ ≠ gb548)) _ _ ((rd_T28 x0_1 x5_1).f5) t539 t540 t541 t542 t543 t544 true _ ?side1 ?side2 A13.out).mono ?_
            (case side1 => exact HL537_5.out)
            (case side2 => exact HL538_5.out)
            rintro e w19 ⟨v545, rfl, ho0, hb⟩
            have HS0_ := tcb hb hHeld.1
            have HS1_ := tcb hb hHeld.2.1
            have HS2_ := tcb hb hHeld.2.2.1
            have HS3_ := tcb hb hHeld.2.2.2.1
            have HS4_ := tcb hb hHeld.2.2.2.2.1
            have HS5_ := tcb hb hHeld.2.2.2.2.2.1
            have HS6_ := tcb hb hHeld.2.2.2.2.2.2.1
            have HS7_ := tcb hb hHeld.2.2.2.2.2.2.2.1
            have HS8_ := tcb hb hHeld.2.2.2.2.2.2.2.2.1
            have HS9_ := tcb hb hHeld.2.2.2.2.2.2.2.2.2.1
            have HS10_ := tcb hb hHeld.2.2.2.2.2.2.2.2.2.2.1
            have HS11_ := tcb hb hHeld.2.2.2.2.2.2.2.2.2.2.2
            refine ⟨_, rfl, ?_⟩
            replace HO_0 := tVe HO_0 ho0 hb
            replace HL537_5 := tVe HL537_5 ho0 hb
            replace HL538_5 := tVe HL538_5 ho0 hb
            have HO546 := Aside0.mk (Kd.N_lower (Kd.N_mono (ok' := fun k_ => (P0_ k_ ∨ w.heap.size ≤ k_) ∧ some k_ ≠ (.slice (some ad537) x4_1.length co16 : Value).ownBlock ∧ k_ ≠ gb548) ho0 (fun k_ hk_ => ⟨Or.elim hk_ (fun hs_ => Or.elim hs_ (fun hs_ => hs_.1.1) (fun hs_ => hs_.1.1)) (fun hn_ => (.inr (Nat.le_trans (below_size zb) hn_))), Or.elim hk_ (fun hs_ => Or.elim hs_ (fun hs_ => hs_.1.2) (fun hs_ => hs_.1.2)) (fun hn_ => (tfr HO_4 k_ hn_)), Or.elim hk_ (fun hs_ => Or.elim hs_ (fun hs_ => hs_.2) (fun hs_ => hs_.2)) (fun hn_ => (tfB BK548 k_ hn_))⟩)) (below_size zb))
            replace HO_4 := tNe HO_4 ho0 hb
            replace HR537_5 := tCb HR537_5 hb
            replace HR538_5 := tCb HR538_5 hb
            replace BK548 := tBb BK548 hb
            replace HB := tBs HB hb
            (try clear hb)
            (try clear hb2)
            (try clear hk)
            (try clear hi)
            (try clear ho0)
            refine hK.out _ _ ⟨HS0_, HS1_, HS2_, HS3_, HS4_, HS5_, HS6_, HS7_, HS8_, HS9_, HS10_, HS11_⟩ (fun hHeld => ?_)
            clear hK K
            refine tnm (some 33) ?_
            refine tpu 11 (some 22) #[true, true, true, true, true, true, true, true, true, true, true, true, false, false, true, false, false] ?_
            refine tpu 12 (some 34) #[true, true, true, true, true, true, true, true, true, true, true, true, true, false, true, false, false] ?_
            refine tpu 13 (some 35) #[true, true, true, true, true, true, true, true, true, true, true, true, true, true, true, false, false] ?_
            exact tnx (hCont (v545, gb548) _ ⟨hHeld, (tVm HL537_5.out), (tVm HL538_5.out), (tN HO546.out), (tVm HO_0.out), (tNm HO_4.out), (tH BK548.out), GW548.out, GE548.out, zb⟩)
          rintro ⟨v545, gb548⟩ w20 ⟨hS_, h0_, h1_, h2_, h3_, h4_, h5_, h6_, h7_, h8_⟩
          try dsimp only at hS_ h0_ h1_ h2_ h3_ h4_ h5_ h6_ h7_ h8_
          clear HO_0 HO_4 HB
          have HL537_5 := Aside0.mk h0_
          have HL538_5 := Aside0.mk h1_
          have HO546 := Aside0.mk h2_
          have HO_0 := Aside0.mk h3_
          have HO_4 := Aside0.mk h4_
          have BK548 := Aside0.mk h5_
          have GW548 := Aside0.mk h6_
          have GE548 := Aside0.mk h7_
          have HB := Aside0.mk h8_
          clear h0_ h1_ h2_ h3_ h4_ h5_ h6_ h7_ h8_
          have hHeld := hS_
          obtain ⟨Ao26, co26, eo26⟩ := Kd.N_slice HO546.out
          (first | subst eo26 | (injection eo26 with f1_ f2_ f3_; have f4_ := f1_.symm; have f5_ := f3_.symm; clear f1_ f2_ f3_; subst f4_; subst f5_))
          refine tnp ?_
          refine one_ (i := 15) (N := none) #[true, true, true, true, true, true, true, true, true, true, true, true, true, true, true, true, false] rfl rfl (one_of HT_.out (by kernel_rfl)) (by decide) (fun K hK => ?_)
          have hs21 : w20.cell? ⟨gb548, 0, none⟩ = some (.bool false) := (blk_cell BK548.out 0).trans rfl
          have hfs21 := blk_frozen BK548.out 0
          have hs22 : w20.cell? ⟨gb548, 1, none⟩ = some (.bool false) := (blk_cell BK548.out 1).trans rfl
          have hfs22 := blk_frozen BK548.out 1
          have hs23 : w20.cell? ⟨gb548, 2, none⟩ = some (.int .i64 0) := (blk_cell BK548.out 2).trans rfl
          have hfs23 := blk_frozen BK548.out 2
          have hs24 : w20.cell? ⟨gb548, 3, none⟩ = some (.int .i64 0) := (blk_cell BK548.out 3).trans rfl
          have hfs24 := blk_frozen BK548.out 3
          have hs25 : w20.cell? ⟨gb548, 4, none⟩ = some (.int .i64 0) := (blk_cell BK548.out 4).trans rfl
          have hfs25 := blk_frozen BK548.out 4
          have hs27 : w20.cell? ⟨gb548, 5, none⟩ = some (.slice none 0 0) := (blk_cell BK548.out 5).trans rfl
          have hfs27 := blk_frozen BK548.out 5
          refine tsk ?_
          refine hK.out _ _ ⟨(tcg (Kd.own_blk (Kd.N_away HO_4.out (fun _ hk => hk.2.2))) hHeld.1), (tcg (Kd.own_blk (Kd.N_away HO_4.out (fun _ hk => hk.2.2))) hHeld.2.1), (tcg (Kd.own_blk (Kd.N_away HO_4.out (fun _ hk => hk.2.2))) hHeld.2.2.1), (tcg (Kd.own_blk (Kd.N_away HO_4.out (fun _ hk => hk.2.2))) hHeld.2.2.2.1), (tcg (Kd.own_blk (Kd.N_away HO_4.out (fun _ hk => hk.2.2))) hHeld.2.2.2.2.1), (tcg (Kd.own_blk (Kd.N_away HO_4.out (fun _ hk => hk.2.2))) hHeld.2.2.2.2.2.1), (tcg (Kd.own_blk (Kd.V_away HO_0.out (fun _ hk => hk.2.2.2))) hHeld.2.2.2.2.2.2.1), (tcg (Kd.own_blk (Kd.V_away HO_0.out (fun _ hk => hk.2.2.2))) hHeld.2.2.2.2.2.2.2.1), (tcg (Kd.own_blk (Kd.V_away HO_0.out (fun _ hk => hk.2.2.2))) hHeld.2.2.2.2.2.2.2.2.1), (tcg (Kd.own_blk (Kd.V_away HO_0.out (fun _ hk => hk.2.2.2))) hHeld.2.2.2.2.2.2.2.2.2.1), (tcg (Kd.own_blk (Kd.V_away HO_0.out (fun _ hk => hk.2.2.2))) hHeld.2.2.2.2.2.2.2.2.2.2.1), (tcg (Kd.own_blk (Kd.V_away HO_0.out (fun _ hk => hk.2.2.2))) hHeld.2.2.2.2.2.2.2.2.2.2.2)⟩ (fun hHeld => ?_)
          clear hK K
          refine tpu 16 (some 7) #[true, true, true, true, true, true, true, true, true, true, true, true, true, true, true, true, true] ?_
          refine done_ (done_of HT_.out (by kernel_rfl)) ?_
          have n0_ : Aside0 (Kd.V k28 28 ((((((w20.setCell ⟨gb548, 0, none⟩ (.bool t539)).setCell ⟨gb548, 1, none⟩ (.bool t540)).setCell ⟨gb548, 2, none⟩ (.int .i64 t541)).setCell ⟨gb548, 3, none⟩ (.int .i64 t542)).setCell ⟨gb548, 4, none⟩ (.int .i64 t543)).setCell ⟨gb548, 5, none⟩ (.slice Ao26 t544.length co26)) w.heap.size (fun k_ => (P0_ k_ ∨ w.heap.size ≤ k_) ∧ some k_ ≠ (.slice (some ad537) x4_1.length co16 : Value).ownBlock ∧ some k_ ≠ (.slice Ao26 t544.length co26 : Value).ownBlock ∧ k_ ≠ gb548) (.slice (some ad538) x0_1.length c0) x0_1) := ⟨tVm HO_0.out⟩
          have n1_ : Aside0 (Kd.N k28 28 ((((((w20.setCell ⟨gb548, 0, none⟩ (.bool t539)).setCell ⟨gb548, 1, none⟩ (.bool t540)).setCell ⟨gb548, 2, none⟩ (.int .i64 t541)).setCell ⟨gb548, 3, none⟩ (.int .i64 t542)).setCell ⟨gb548, 4, none⟩ (.int .i64 t543)).setCell ⟨gb548, 5, none⟩ (.slice Ao26 t544.length co26)) w.heap.size (fun k_ => (P0_ k_ ∨ w.heap.size ≤ k_) ∧ some k_ ≠ (.slice Ao26 t544.length co26 : Value).ownBlock ∧ k_ ≠ gb548) (.slice (some ad537) x4_1.length co16) x4_1) := ⟨tNm HO_4.out⟩
          have n2_ : Aside0 (Kd.V k62 62 ((((((w20.setCell ⟨gb548, 0, none⟩ (.bool t539)).setCell ⟨gb548, 1, none⟩ (.bool t540)).setCell ⟨gb548, 2, none⟩ (.int .i64 t541)).setCell ⟨gb548, 3, none⟩ (.int .i64 t542)).setCell ⟨gb548, 4, none⟩ (.int .i64 t543)).setCell ⟨gb548, 5, none⟩ (.slice Ao26 t544.length co26)) w.heap.size (fun k_ => (P0_ k_ ∨ w.heap.size ≤ k_) ∧ some k_ ≠ (.slice (some ad537) x4_1.length co16 : Value).ownBlock ∧ some k_ ≠ (.slice Ao26 t544.length co26 : Value).ownBlock ∧ k_ ≠ gb548) (.slice A537_5 ((rd_T28 x4_1 (ji9)).f5).length c537_5) ((rd_T28 x4_1 (ji9)).f5)) := ⟨tVm HL537_5.out⟩
          have n3_ : Aside0 (Kd.V k62 62 ((((((w20.setCell ⟨gb548, 0, none⟩ (.bool t539)).setCell ⟨gb548, 1, none⟩ (.bool t540)).setCell ⟨gb548, 2, none⟩ (.int .i64 t541)).setCell ⟨gb548, 3, none⟩ (.int .i64 t542)).setCell ⟨gb548, 4, none⟩ (.int .i64 t543)).setCell ⟨gb548, 5, none⟩ (.slice Ao26 t544.length co26)) w.heap.size (fun k_ => (P0_ k_ ∨ w.heap.size ≤ k_) ∧ some k_ ≠ (.slice (some ad537) x4_1.length co16 : Value).ownBlock ∧ some k_ ≠ (.slice Ao26 t544.length co26 : Value).ownBlock ∧ k_ ≠ gb548) (.slice A538_5 ((rd_T28 x0_1 x5_1).f5).length c538_5) ((rd_T28 x0_1 x5_1).f5)) := ⟨tVm HL538_5.out⟩
          have n4_ : Aside0 (Kd.N k62 62 ((((((w20.setCell ⟨gb548, 0, none⟩ (.bool t539)).setCell ⟨gb548, 1, none⟩ (.bool t540)).setCell ⟨gb548, 2, none⟩ (.int .i64 t541)).setCell ⟨gb548, 3, none⟩ (.int .i64 t542)).setCell ⟨gb548, 4, none⟩ (.int .i64 t543)).setCell ⟨gb548, 5, none⟩ (.slice Ao26 t544.length co26)) w.heap.size (fun k_ => (P0_ k_ ∨ w.heap.size ≤ k_) ∧ some k_ ≠ (.slice (some ad537) x4_1.length co16 : Value).ownBlock ∧ k_ ≠ gb548) (.slice Ao26 t544.length co26) t544) := ⟨tNm HO546.out⟩
          have n5_ : Aside0 (((((((w20.setCell ⟨gb548, 0, none⟩ (.bool t539)).setCell ⟨gb548, 1, none⟩ (.bool t540)).setCell ⟨gb548, 2, none⟩ (.int .i64 t541)).setCell ⟨gb548, 3, none⟩ (.int .i64 t542)).setCell ⟨gb548, 4, none⟩ (.int .i64 t543)).setCell ⟨gb548, 5, none⟩ (.slice Ao26 t544.length co26)).heap[gb548]? = some (.cells #[.bool t539, .bool t540, .int .i64 t541, .int .i64 t542, .int .i64 t543, .slice Ao26 t544.length co26] 28 (0, 0))) := ⟨tP BK548.out⟩
          have n6_ : Aside0 (Below w.heap.size w ((((((w20.setCell ⟨gb548, 0, none⟩ (.bool t539)).setCell ⟨gb548, 1, none⟩ (.bool t540)).setCell ⟨gb548, 2, none⟩ (.int .i64 t541)).setCell ⟨gb548, 3, none⟩ (.int .i64 t542)).setCell ⟨gb548, 4, none⟩ (.int .i64 t543)).setCell ⟨gb548, 5, none⟩ (.slice Ao26 t544.length co26))) := ⟨zb⟩
          (try clear HO_0)
          (try clear HO_4)
          (try clear HL537_5)
          (try clear HL538_5)
          (try clear HO546)
          (try clear BK548)
          (try clear HB)
          generalize ((((((w20.setCell ⟨gb548, 0, none⟩ (.bool t539)).setCell ⟨gb548, 1, none⟩ (.bool t540)).setCell ⟨gb548, 2, none⟩ (.int .i64 t541)).setCell ⟨gb548, 3, none⟩ (.int .i64 t542)).setCell ⟨gb548, 4, none⟩ (.int .i64 t543)).setCell ⟨gb548, 5, none⟩ (.slice Ao26 t544.length co26)) = w28 at n0_ n1_ n2_ n3_ n4_ n5_ n6_ ⊢
          have HO_0 := n0_
          have HO_4 := n1_
          have HL537_5 := n2_
          have HL538_5 := n3_
          have HO546 := n4_
          have BK548 := n5_
          have HB := n6_
          clear n0_ n1_ n2_ n3_ n4_ n5_ n6_
          obtain ⟨hcz29_0, hcz29_1, hcz29_2, hcz29_3, hcz29_4, hcz29_5, hfz29_0, hfz29_1, hfz29_2, hfz29_3, hfz29_4, hfz29_5⟩ := cells6 BK548.out
          have p15 : 0 ≤ ((ji9) : Int) := td
          have q15 : ((ji9) : Int) < ((x4_1.length : Int) : Int) := td
          obtain ⟨go15, co15, eo15, gb15, gl15, cl15, HG15⟩ := Kd.N_form HO_4.out (by omega)
          (first | cases eo15 | (injection eo15 with ea_ en_ ec_; (first | subst ea_ | (injection ea_ with ea_; subst ea_)); subst ec_; clear en_))
          have GB15 := Aside0.mk gb15
          have GG15 := Aside0.mk HG15
          clear gb15 gl15 HG15
          (first | simp only [add_plain] at hx537_0 | skip)
          (first | simp only [add_plain] at hx537_1 | skip)
          (first | simp only [add_plain] at hx537_2 | skip)
          (first | simp only [add_plain] at hx537_3 | skip)
          (first | simp only [add_plain] at hx537_4 | skip)
          (first | simp only [add_plain] at hx537_5 | skip)
          obtain ⟨ce15, hcl15, hM15, hcc15, hfr15⟩ := Kd.N_elem HO_4.out z28 ((ji9) : Int) p15 q15
          obtain ⟨ua15_5, uc15_5, rfl, ul15_5, ge15_5⟩ := k28_openF hM15
          have hx15_0 : w28.cell? ⟨go15, ((ji9) : Int).toNat * 6, none⟩ = some (.bool ((rd_T28 x4_1 (ji9)).f0)) := hcc15 0 _ rfl
          have hx15_1 : w28.cell? ⟨go15, ((ji9) : Int).toNat * 6 + 1, none⟩ = some (.bool ((rd_T28 x4_1 (ji9)).f1)) := hcc15 1 _ rfl
          have hx15_2 : w28.cell? ⟨go15, ((ji9) : Int).toNat * 6 + 2, none⟩ = some (.int .i64 ((rd_T28 x4_1 (ji9)).f2)) := hcc15 2 _ rfl
          have hx15_3 : w28.cell? ⟨go15, ((ji9) : Int).toNat * 6 + 3, none⟩ = some (.int .i64 ((rd_T28 x4_1 (ji9)).f3)) := hcc15 3 _ rfl
          have hx15_4 : w28.cell? ⟨go15, ((ji9) : Int).toNat * 6 + 4, none⟩ = some (.int .i64 ((rd_T28 x4_1 (ji9)).f4)) := hcc15 4 _ rfl
          have hx15_5 : w28.cell? ⟨go15, ((ji9) : Int).toNat * 6 + 5, none⟩ = some (.slice ua15_5 ((rd_T28 x4_1 (ji9)).f5).length uc15_5) := hcc15 5 _ rfl
          have hf15_0 : w28.frozen? ⟨go15, ((ji9) : Int).toNat * 6, none⟩ = false := hfr15 0
          have hf15_1 : w28.frozen? ⟨go15, ((ji9) : Int).toNat * 6 + 1, none⟩ = false := hfr15 1
          have hf15_2 : w28.frozen? ⟨go15, ((ji9) : Int).toNat * 6 + 2, none⟩ = false := hfr15 2
          have hf15_3 : w28.frozen? ⟨go15, ((ji9) : Int).toNat * 6 + 3, none⟩ = false := hfr15 3
          have hf15_4 : w28.frozen? ⟨go15, ((ji9) : Int).toNat * 6 + 4, none⟩ = false := hfr15 4
          have hf15_5 : w28.frozen? ⟨go15, ((ji9) : Int).toNat * 6 + 5, none⟩ = false := hfr15 5
          clear hcl15 hcc15 hfr15 hM15
          replace p15 := eq_true p15
          replace q15 := eq_true q15
          have HX30 := Aside0.mk (show Kd.N k28 28 w28 w.heap.size (fun k_ => (P0_ k_ ∨ w.heap.size ≤ k_) ∧ k_ ≠ gb548) (.slice (some ⟨go15, 0, none⟩) x4_1.length co16) x4_1 from (tNm HO_4.out))
          obtain ⟨ce30, hcl30, hM30, hcc30, hfr30⟩ := Kd.N_elem HX30.out z28 ((ji9) : Int) (td) (by have h_ : ((ji9) : Int) < ((x4_1.length : Int) : Int) := td; first | exact h_ | (have e_ := (Kd.N_reads' HO_4.out).1; omega) | simpa using h_)
          obtain ⟨ua30_5, uc30_5, rfl, ul30_5, ge30_5⟩ := k28_openF hM30
          have HP30 := Kd.N_seg HX30.out ((ji9) : Int) (td) (by have h_ : ((ji9) : Int) < ((x4_1.length : Int) : Int) := td; first | exact h_ | (have e_ := (Kd.N_reads' HO_4.out).1; omega) | simpa using h_) (seg := [.bool t539, .bool t540, .int .i64 t541, .int .i64 t542, .int .i64 t543, .slice Ao26 t544.length co26]) (j := 0) hcl30 hcc30 (show 6 ≤ 6 from by decide) (x' := (⟨t539, t540, t541, t542, t543, t544⟩ : S28)) (k28_mkF _ _ (⟨t539, t540, t541, t542, t543, t544⟩ : S28) (Kd.N_reads' (Kd.N_mono (ok' := (fun k_ => ((fun k_ => (P0_ k_ ∨ w.heap.size ≤ k_) ∧ k_ ≠ gb548)) k_ ∧ k_ ≠ go15)) (HO546.out) (fun k_ hk => ⟨⟨hk.1, hk.2.2⟩, fun e_ => (hk.2.1) (by rw [e_]; rfl)⟩))).2.1 (Kd.N_F (Kd.N_mono (ok' := (fun k_ => ((fun k_ => (P0_ k_ ∨ w.heap.size ≤ k_) ∧ k_ ≠ gb548)) k_ ∧ k_ ≠ go15)) (HO546.out) (fun k_ hk => ⟨⟨hk.1, hk.2.2⟩, fun e_ => (hk.2.1) (by rw [e_]; rfl)⟩)))) (fun _ hk => hk)
          have hx30_0 := hcc30 0 _ rfl
          (try simp only [show (k28).sz = 6 from rfl, Nat.mul_one, Nat.add_zero] at hx30_0)
          have hf30_0 := hfr30 0
          (try simp only [show (k28).sz = 6 from rfl, Nat.mul_one, Nat.add_zero] at hf30_0)
          have hx30_1 := hcc30 1 _ rfl
          (try simp only [show (k28).sz = 6 from rfl, Nat.mul_one, Nat.add_zero] at hx30_1)
          have hf30_1 := hfr30 1
          (try simp only [show (k28).sz = 6 from rfl, Nat.mul_one, Nat.add_zero] at hf30_1)
          have hx30_2 := hcc30 2 _ rfl
          (try simp only [show (k28).sz = 6 from rfl, Nat.mul_one, Nat.add_zero] at hx30_2)
          have hf30_2 := hfr30 2
          (try simp only [show (k28).sz = 6 from rfl, Nat.mul_one, Nat.add_zero] at hf30_2)
          have hx30_3 := hcc30 3 _ rfl
          (try simp only [show (k28).sz = 6 from rfl, Nat.mul_one, Nat.add_zero] at hx30_3)
          have hf30_3 := hfr30 3
          (try simp only [show (k28).sz = 6 from rfl, Nat.mul_one, Nat.add_zero] at hf30_3)
          have hx30_4 := hcc30 4 _ rfl
          (try simp only [show (k28).sz = 6 from rfl, Nat.mul_one, Nat.add_zero] at hx30_4)
          have hf30_4 := hfr30 4
          (try simp only [show (k28).sz = 6 from rfl, Nat.mul_one, Nat.add_zero] at hf30_4)
          have hx30_5 := hcc30 5 _ rfl
          (try simp only [show (k28).sz = 6 from rfl, Nat.mul_one, Nat.add_zero] at hx30_5)
          have hf30_5 := hfr30 5
          (try simp only [show (k28).sz = 6 from rfl, Nat.mul_one, Nat.add_zero] at hf30_5)
          clear hcl30 hcc30 hfr30 hM30
          try go_wp2_with (first | ((with_reducible refine gate_store (t := 28) (p := 42) rfl ?_); refine store_event (t := 28) (p := 42) (v := ?vo_w31) (w1 := ((((((w28.setCell ⟨go15, ((ji9) : Int).toNat * 6, none⟩ (.bool t539)).setCell ⟨go15, ((ji9) : Int).toNat * 6 + 1, none⟩ (.bool t540)).setCell ⟨go15, ((ji9) : Int).toNat * 6 + 2, none⟩ (.int .i64 t541)).setCell ⟨go15, ((ji9) : Int).toNat * 6 + 3, none⟩ (.int .i64 t542)).setCell ⟨go15, ((ji9) : Int).toNat * 6 + 4, none⟩ (.int .i64 t543)).setCell ⟨go15, ((ji9) : Int).toNat * 6 + 5, none⟩ (.slice Ao26 t544.length co26))) ?hg ?ho ?hn ?hr ?_; (case ho => rfl); (case hg => rfl); (case hn => rfl); (case hr => first | (go_simp; done) | (go_simp; rfl)); intro w31 hw; have hg : w28.grownBy w31 (some go15) := (by rw [hw]; exact HP30.2); have hp_ : Kd.N k28 28 w31 w.heap.size (fun k_ => (P0_ k_ ∨ w.heap.size ≤ k_) ∧ k_ ≠ gb548) (.slice (some ⟨go15, 0, none⟩) x4_1.length co16) y549 := (by rw [hw, Ny549.out]; exact HP30.1); clear HP30; replace HO_0 := Aside0.mk (Kd.V_afterv (v := (.slice (some ⟨go15, 0, none⟩) x4_1.length co16)) (v1 := (.slice (some ⟨go15, 0, none⟩) x4_1.length co16)) (ok := (fun k_ => (P0_ k_ ∨ w.heap.size ≤ k_) ∧ some k_ ≠ (.slice Ao26 t544.length co26 : Value).ownBlock ∧ k_ ≠ gb548)) (tVm HO_0.out) hg (.inl rfl)); replace HL537_5 := Aside0.mk (Kd.V_afterv (v := (.slice (some ⟨go15, 0, none⟩) x4_1.length co16)) (v1 := (.slice (some ⟨go15, 0, none⟩) x4_1.length co16)) (ok := (fun k_ => (P0_ k_ ∨ w.heap.size ≤ k_) ∧ some k_ ≠ (.slice Ao26 t544.length co26 : Value).ownBlock ∧ k_ ≠ gb548)) (tVm HL537_5.out) hg (.inl rfl)); replace HL538_5 := Aside0.mk (Kd.V_afterv (v := (.slice (some ⟨go15, 0, none⟩) x4_1.length co16)) (v1 := (.slice (some ⟨go15, 0, none⟩) x4_1.length co16)) (ok := (fun k_ => (P0_ k_ ∨ w.heap.size ≤ k_) ∧ some k_ ≠ (.slice Ao26 t544.length co26 : Value).ownBlock ∧ k_ ≠ gb548)) (tVm HL538_5.out) hg (.inl rfl)); replace BK548 := Aside0.mk (blk_grown (tH BK548.out) hg (Kd.N_away HO_4.out (fun _ hk => hk.2.2))); replace HO_4 := Aside0.mk (hp_); replace HB := Aside0.mk ((by rw [hw]; exact below_set (below_set (below_set (below_set (below_set (below_set (HB.out) GB15.out) GB15.out) GB15.out) GB15.out) GB15.out) GB15.out : Below w.heap.size w w31)); clear HO546; clear hg hw hp_))
          (try simp only [← hl0_1])
          go_roundg k1
          case measure => have := HK1.out; omega
          case rel => exact ⟨(x0_1), (y549), (wrap64 (x5_1 + 1)), tr, H', ⟨by have := HK1.out; omega⟩, ⟨by (try simp only [hl0_1]); (with_reducible repeat (first | apply Kd.V_alloc | apply Kd.V_drewN | apply Kd.V_drew)); exact Kd.V_mono HO_0.out (fun _ hk => ⟨hk.1.1, hk.2⟩)⟩, ⟨by (try simp only [hl0_1]); (with_reducible repeat (first | apply Kd.N_alloc | apply Kd.N_drewN | apply Kd.N_drew)); exact Kd.N_mono HO_4.out (fun _ hk => hk.1)⟩, ⟨zb⟩⟩
         ·replace c14 := Bool.eq_false_iff.mpr c14
          subst c14
          rw [if_neg (show ¬ (false = true) by decide)] at H
          replace H := tbe H
          obtain ⟨⟨t551, t552, t553, t554, t555, t556⟩, A32, H⟩ := H
          dsimp only at H
          by_cases c33 : x4_1.length < 2513169434916
          ·rw [if_pos c33] at H
           have LMc33 := Aside0.mk c33
           clear c33
           obtain ⟨y559, hy559⟩ : ∃ y_ : List (S28), y_ = (x4_1 ++ [(⟨t551, t552, t553, t554, t555, t556⟩ : S28)]) := ⟨_, rfl⟩
           replace H : (spec_LogEven.l0 k1 x0_1 y559 (wrap64 (x5_1 + 1))) = some (r1, r2) := by first | (rw [hy559]; with_reducible exact H) | (have H2_ := (Option.bind_some _ _).symm.trans H; rw [hy559]; with_reducible exact H2_) | (have H2_ := (Option.bind_some _ _).symm.trans H; with_reducible exact H2_) | with_reducible exact H | (rw [hy559]; exact H) | exact H
           have Ny559 := Aside0.mk hy559
           clear hy559
           have H' := Aside0.mk H
           clear H
           obtain ⟨Ao34, co34, eo34⟩ := Kd.N_slice HO_4.out
           subst eo34
           try go_wp2
           replace HO_0 := Aside0.mk (Kd.V_drew HO_0.out)
           replace HO_4 := Aside0.mk (Kd.N_drew HO_4.out)
           replace HB := Aside0.mk (below_drew1 HB.out)
           have p537 : 0 ≤ ((ji9) : Int) := td
           have q537 : (ji9) < (x4_1.length : Int) := td
           obtain ⟨ad537, A537_5, c537_5, e537, hx537_0, hx537_1, hx537_2, hx537_3, hx537_4, hx537_5, hl537_5, hi537_5⟩ := at_T28 (Kd.N_reads' HO_4.out).2.2 (ji9) p537 q537
           cases e537
           obtain ⟨ce537, hce537, hMe537, hcc537⟩ := Kd.N_get HO_4.out z28 (ji9) p537 (by first | exact q537 | exact td | (have e_ := (Kd.N_reads' HO_4.out).1; omega))
           obtain ⟨ua537_5, uc537_5, rfl, ul537_5, ge537_5⟩ := k28_openF hMe537
           have hv537_5 := hcc537 5 _ rfl
           rw [add_field _ _ 5 (by omega)] at hv537_5
           replace hv537_5 := Option.some.inj (hv537_5.symm.trans hx537_5)
           injection hv537_5 with hva_ hvn_ hvc_
           rw [hva_] at ge537_5
           rw [hvc_] at ul537_5
           have HL537_5 := Aside0.mk (show Kd.V k62 62 _ w.heap.size _ _ ((rd_T28 x4_1 (ji9)).f5) from Kd.V_mk ul537_5 ge537_5)
           clear hva_ hvn_ hvc_ ge537_5 ul537_5
           clear hcc537 hce537
           have HR537_5 := Aside0.mk hi537_5
           have HC537_5 := Aside0.mk hl537_5
           clear hi537_5 hl537_5
           replace p537 := eq_true p537
           replace q537 := eq_true q537
           have p538 : 0 ≤ (x5_1 : Int) := td
           have q538 : x5_1 < (x0_1.length : Int) := td
           obtain ⟨ad538, A538_5, c538_5, e538, hx538_0, hx538_1, hx538_2, hx538_3, hx538_4, hx538_5, hl538_5, hi538_5⟩ := at_T28 (Kd.V_reads' HO_0.out).2.2 x5_1 p538 q538
           cases e538
           obtain ⟨ce538, hce538, hMe538, hcc538⟩ := Kd.V_get HO_0.out z28 x5_1 p538 (by first | exact q538 | exact td | (have e_ := (Kd.V_reads' HO_0.out).1; omega))
           obtain ⟨ua538_5, uc538_5, rfl, ul538_5, ge538_5⟩ := k28_openF hMe538
           have hv538_5 := hcc538 5 _ rfl
           rw [add_field _ _ 5 (by omega)] at hv538_5
           replace hv538_5 := Option.some.inj (hv538_5.symm.trans hx538_5)
           injection hv538_5 with hva_ hvn_ hvc_
           rw [hva_] at ge538_5
           rw [hvc_] at ul538_5
           have HL538_5 := Aside0.mk (show Kd.V k62 62 _ w.heap.size _ _ ((rd_T28 x0_1 x5_1).f5) from Kd.V_mk ul538_5 ge538_5)
           clear hva_ hvn_ hvc_ ge538_5 ul538_5
           clear hcc538 hce538
           have HR538_5 := Aside0.mk hi538_5
           have HC538_5 := Aside0.mk hl538_5
           clear hi538_5 hl538_5
           replace p538 := eq_true p538
           replace q538 := eq_true q538
           refine start_ (n := 17) (S := fun w' => w'.cell? (ad537.add (((ji9)).toNat * 6)) = some (.bool ((rd_T28 x4_1 (ji9)).f0)) ∧ w'.cell? ⟨(ad537.add (((ji9)).toNat * 6)).block, (ad537.add (((ji9)).toNat * 6)).off + 1, none⟩ = some (.bool ((rd_T28 x4_1 (ji9)).f1)) ∧ w'.cell? ⟨(ad537.add (((ji9)).toNat * 6)).block, (ad537.add (((ji9)).toNat * 6)).off + 2, none⟩ = some (.int .i64 ((rd_T28 x4_1 (ji9)).f2)) ∧ w'.cell? ⟨(ad537.add (((ji9)).toNat * 6)).block, (ad537.add (((ji9)).toNat * 6)).off + 3, none⟩ = some (.int .i64 ((rd_T28 x4_1 (ji9)).f3)) ∧ w'.cell? ⟨(ad537.add (((ji9)).toNat * 6)).block, (ad537.add (((ji9)).toNat * 6)).off + 4, none⟩ = some (.int .i64 ((rd_T28 x4_1 (ji9)).f4)) ∧ w'.cell? ⟨(ad537.add (((ji9)).toNat * 6)).block, (ad537.add (((ji9)).toNat * 6)).off + 5, none⟩ = some (.slice A537_5 ((rd_T28 x4_1 (ji9)).f5).length c537_5) ∧ w'.cell? (ad538.add ((x5_1).toNat * 6)) = some (.bool ((rd_T28 x0_1 x5_1).f0)) ∧ w'.cell? ⟨(ad538.add ((x5_1).toNat * 6)).block, (ad538.add ((x5_1).toNat * 6)).off + 1, none⟩ = some (.bool ((rd_T28 x0_1 x5_1).f1)) ∧ w'.cell? ⟨(ad538.add ((x5_1).toNat * 6)).block, (ad538.add ((x5_1).toNat * 6)).off + 2, none⟩ = some (.int .i64 ((rd_T28 x0_1 x5_1).f2)) ∧ w'.cell? ⟨(ad538.add ((x5_1).toNat * 6)).block, (ad538.add ((x5_1).toNat * 6)).off + 3, none⟩ = some (.int .i64 ((rd_T28 x0_1 x5_1).f3)) ∧ w'.cell? ⟨(ad538.add ((x5_1).toNat * 6)).block, (ad538.add ((x5_1).toNat * 6)).off + 4, none⟩ = some (.int .i64 ((rd_T28 x0_1 x5_1).f4)) ∧ w'.cell? ⟨(ad538.add ((x5_1).toNat * 6)).block, (ad538.add ((x5_1).toNat * 6)).off + 5, none⟩ = some (.slice A538_5 ((rd_T28 x0_1 x5_1).f5).length c538_5)) (ds := []) #[false, false, false, false, false, false, false, false, false, false, false, false, false, false, false, false, false] (by kernel_rfl) rfl rfl ⟨hx537_0, hx537_1, hx537_2, hx537_3, hx537_4, hx537_5, hx538_0, hx538_1, hx538_2, hx538_3, hx538_4, hx538_5⟩ (fun hHeld => ?_); refine with_tabW spec_LogEven.tab8 spec_LogEven.bits8 (fun HT_ HW_ => ?_)
           generalize wr.drew = w35 at HO_0 HO_4 HB HL537_5 HL538_5 HR537_5 HR538_5 hx537_0 hx537_1 hx537_2 hx537_3 hx537_4 hx537_5 hx538_0 hx538_1 hx538_2 hx538_3 hx538_4 hx538_5 hHeld ⊢
           refine tpu 0 (some 23) #[true, false, false, false, false, false, false, false, false, false, false, false, false, false, false, false, false] ?_
           refine tpu 1 (some 24) #[true, true, false, false, false, false, false, false, false, false, false, false, false, false, false, false, false] ?_
           refine tpu 2 (some 25) #[true, true, true, false, false, false, false, false, false, false, false, false, false, false, false, false, false] ?_
           refine tpu 3 (some 26) #[true, true, true, true, false, false, false, false, false, false, false, false, false, false, false, false, false] ?_
           refine tpu 4 (some 27) #[true, true, true, true, true, false, false, false, false, false, false, false, false, false, false, false, false] ?_
           refine tpu 6 (some 29) #[true, true, true, true, true, false, true, false, false, false, false, false, false, false, false, false, false] ?_
           refine tpu 7 (some 30) #[true, true, true, true, true, false, true, true, false, false, false, false, false, false, false, false, false] ?_
           refine tpu 8 (some 31) #[true, true, true, true, true, false, true, true, true, false, false, false, false, false, false, false, false] ?_
           refine tta 5 (some 28) #[true, true, true, true, true, true, true, true, true, false, false, false, false, false, false, false, false] hHeld ?_ (hy := by rintro w' ⟨s0, s1, s2, s3, s4, s5, s6, s7, s8, s9, s10, s11⟩; go_simp; with_reducible rfl)
           refine tta 9 (some 32) #[true, true, true, true, true, true, true, true, true, true, false, false, false, false, false, false, false] hHeld ?_ (hy := by rintro w' ⟨s0, s1, s2, s3, s4, s5, s6, s7, s8, s9, s10, s11⟩; go_simp; with_reducible rfl)
           refine join_ (σ := Value × Nat) 2 #[true, true, true, true, true, true, true, true, true, true, true, true, true, true, true, false, false] (fun s_ => [(33, .tuple #[.agg #[.bool t539, .bool t540, .int .i64 t541, .int .i64 t542, .int .i64 t543, s_.1], .bool false]), (6, .pointer (some ⟨s_.2, 0, none⟩)), (22, .tuple #[.agg #[.bool t539, .bool t540, .int .i64 t541, .int .i64 t542, .int .i64 t543, s_.1], .bool false]), (34, .agg #[.bool t539, .bool t540, .int .i64 t541, .int .i64 t542, .int .i64 t543, s_.1]), (35, .bool false)]) (fun s_ w' => (w'.cell? (ad537.add (((ji9)).toNat * 6)) = some (.bool ((rd_T28 x4_1 (ji9)).f0)) ∧ w'.cell? ⟨(ad537.add (((ji9)).toNat * 6)).block, (ad537.add (((ji9)).toNat * 6)).off + 1, none⟩ = some (.bool ((rd_T28 x4_1 (ji9)).f1)) ∧ w'.cell? ⟨(ad537.add (((ji9)).toNat * 6)).block, (ad537.add (((ji9)).toNat * 6)).off + 2, none⟩ = some (.int .i64 ((rd_T28 x4_1 (ji9)).f2)) ∧ w'.cell? ⟨(ad537.add (((ji9)).toNat * 6)).block, (ad537.add (((ji9)).toNat * 6)).off + 3, none⟩ = some (.int .i64 ((rd_T28 x4_1 (ji9)).f3)) ∧ w'.cell? ⟨(ad537.add (((ji9)).toNat * 6)).block, (ad537.add (((ji9)).toNat * 6)).off + 4, none⟩ = some (.int .i64 ((rd_T28 x4_1 (ji9)).f4)) ∧ w'.cell? ⟨(ad537.add (((ji9)).toNat * 6)).block, (ad537.add (((ji9)).toNat * 6)).off + 5, none⟩ = some (.slice A537_5 ((rd_T28 x4_1 (ji9)).f5).length c537_5) ∧ w'.cell? (ad538.add ((x5_1).toNat * 6)) = some (.bool ((rd_T28 x0_1 x5_1).f0)) ∧ w'.cell? ⟨(ad538.add ((x5_1).toNat * 6)).block, (ad538.add ((x5_1).toNat * 6)).off + 1, none⟩ = some (.bool ((rd_T28 x0_1 x5_1).f1)) ∧ w'.cell? ⟨(ad538.add ((x5_1).toNat * 6)).block, (ad538.add ((x5_1).toNat * 6)).off + 2, none⟩ = some (.int .i64 ((rd_T28 x0_1 x5_1).f2)) ∧ w'.cell? ⟨(ad538.add ((x5_1).toNat * 6)).block, (ad538.add ((x5_1).toNat * 6)).off + 3, none⟩ = some (.int .i64 ((rd_T28 x0_1 x5_1).f3)) ∧ w'.cell? ⟨(ad538.add ((x5_1).toNat * 6)).block, (ad538.add ((x5_1).toNat * 6)).off + 4, none⟩ = some (.int .i64 ((rd_T28 x0_1 x5_1).f4)) ∧ w'.cell? ⟨(ad538.add ((x5_1).toNat * 6)).block, (ad538.add ((x5_1).toNat * 6)).off + 5, none⟩ = some (.slice A538_5 ((rd_T28 x0_1 x5_1).f5).length c538_5)) ∧ (Kd.V k62 62 w' w.heap.size (fun k_ => (P0_ k_ ∨ w.heap.size ≤ k_) ∧ some k_ ≠ (s_.1 : Value).ownBlock ∧ some k_ ≠ (.slice (some ad537) x4_1.length co34 : Value).ownBlock ∧ k_ ≠ s_.2) (.slice A537_5 ((rd_T28 x4_1 (ji9)).f5).length c537_5) ((rd_T28 x4_1 (ji9)).f5)) ∧ (Kd.V k62 62 w' w.heap.size (fun k_ => (P0_ k_ ∨ w.heap.size ≤ k_) ∧ some k_ ≠ (s_.1 : Value).ownBlock ∧ some k_ ≠ (.slice (some ad537) x4_1.length co34 : Value).ownBlock ∧ k_ ≠ s_.2) (.slice A538_5 ((rd_T28 x0_1 x5_1).f5).length c538_5) ((rd_T28 x0_1 x5_1).f5)) ∧ (Kd.N k62 62 w' w.heap.size (fun k_ => (P0_ k_ ∨ w.heap.size ≤ k_) ∧ some k_ ≠ (.slice (some ad537) x4_1.length co34 : Value).ownBlock ∧ k_ ≠ s_.2) s_.1 t544) ∧ (Kd.V k28 28 w' w.heap.size (fun k_ => (P0_ k_ ∨ w.heap.size ≤ k_) ∧ some k_ ≠ (s_.1 : Value).ownBlock ∧ some k_ ≠ (.slice (some ad537) x4_1.length co34 : Value).ownBlock ∧ k_ ≠ s_.2) (.slice (some ad538) x0_1.length c0) x0_1) ∧ (Kd.N k28 28 w' w.heap.size (fun k_ => (P0_ k_ ∨ w.heap.size ≤ k_) ∧ some k_ ≠ (s_.1 : Value).ownBlock ∧ k_ ≠ s_.2) (.slice (some ad537) x4_1.length co34) x4_1) ∧ (w'.heap[s_.2]? = some (.cells #[.bool false, .bool false, .int .i64 0, .int .i64 0, .int .i64 0, .slice none 0 0] 28 (0, 0))) ∧ (w.heap.size ≤ s_.2) ∧ (w.heap.size ≤ s_.2) ∧ (Below w.heap.size w w')) ?_ ?_
           rotate_left
           ·intro hCont
            refine two_ (i := 10) (j := 14) (Ni := some 33) (Nj := some 6) #[true, true, true, true, true, true, true, true, true, true, true, false, false, false, false, false, false] #[true, true, true, true, true, true, true, true, true, true, false, false, false, false, true, false, false] rfl rfl rfl rfl (two_of HT_.out (by kernel_rfl)) (by decide) (by decide) (fun K hK => ?_) (fun K hK => ?_)
            ·skip
             refine goes_ Tryd.func8 (by kernel_rfl) rfl #[.agg #[.bool ((rd_T28 x4_1 (ji9)).f0), .bool ((rd_T28 x4_1 (ji9)).f1), .int .i64 ((rd_T28 x4_1 (ji9)).f2), .int .i64 ((rd_T28 x4_1 (ji9)).f3), .int .i64 ((rd_T28 x4_1 (ji9)).f4), .slice A537_5 ((rd_T28 x4_1 (ji9)).f5).length c537_5], .agg #[.bool ((rd_T28 x0_1 x5_1).f0), .bool ((rd_T28 x0_1 x5_1).f1), .int .i64 ((rd_T28 x0_1 x5_1).f2), .int .i64 ((rd_T28 x0_1 x5_1).f3), .int .i64 ((rd_T28 x0_1 x5_1).f4), .slice A538_5 ((rd_T28 x0_1 x5_1).f5).length c538_5]] (by rfl) rfl rfl (by (try simp only [List.map_toArray, List.map_cons, List.map_nil]); first | done | (simp only [hji9]; rfl) | rfl | (simp only [List.length_drop, List.length_take]; rfl)) ?_
             with_reducible refine (spec_BatchJoin.calls k1 ((rd_T28 x4_1 (ji9)).f0) ((rd_T28 x4_1 (ji9)).f1) ((rd_T28 x4_1 (ji9)).f2) ((rd_T28 x4_1 (ji9)).f3) ((rd_T28 x4_1 (ji9)).f4) (fun k_ => ((P0_ k_ ∨ w.heap.size ≤ k_) ∧ some k_ ≠ (.slice (some ad537) x4_1.length co34 : Value).ownBlock)) _ _ ((rd_T28 x4_1 (ji9)).f5) ((rd_T28 x0_1 x5_1).f0) ((rd_T28 x0_1 x5_1).f1) ((rd_T28 x0_1 x5_1).f2) ((rd_T28 x0_1 x5_1).f3) ((rd_T28 x0_1 x5_1).f4) (fun k_ => ((P0_ k_ ∨ w.heap.size ≤ k_) ∧ some k_ ≠ (.slice (some ad537) x4_1.length co34 : Value).ownBlock)) _ _ ((rd_T28 x0_1 x5_1).f5) t539 t540 t541 t542 t543 t544 false _ ?side1 ?side2 A13.out).mono ?_
             (case side1 => exact HL537_5.out)
             (case side2 => exact HL538_5.out)
             rintro e w36 ⟨v545, rfl, ho0, hb⟩
             have HS0_ := tcb hb hHeld.1
             have HS1_ := tcb hb hHeld.2.1
             have HS2_ := tcb hb hHeld.2.2.1
             have HS3_ := tcb hb hHeld.2.2.2.1
             have HS4_ := tcb hb hHeld.2.2.2.2.1
             have HS5_ := tcb hb hHeld.2.2.2.2.2.1
             have HS6_ := tcb hb hHeld.2.2.2.2.2.2.1
             have HS7_ := tcb hb hHeld.2.2.2.2.2.2.2.1
             have HS8_ := tcb hb hHeld.2.2.2.2.2.2.2.2.1
             have HS9_ := tcb hb hHeld.2.2.2.2.2.2.2.2.2.1
             have HS10_ := tcb hb hHeld.2.2.2.2.2.2.2.2.2.2.1
             have HS11_ := tcb hb hHeld.2.2.2.2.2.2.2.2.2.2.2
             refine ⟨_, rfl, ?_⟩
             replace HO_0 := tVe HO_0 ho0 hb
             replace HL537_5 := tVe HL537_5 ho0 hb
             replace HL538_5 := tVe HL538_5 ho0 hb
             have HO546 := Aside0.mk (Kd.N_lower (Kd.N_mono (ok' := fun k_ => (P0_ k_ ∨ w.heap.size ≤ k_) ∧ some k_ ≠ (.slice (some ad537) x4_1.length co34 : Value).ownBlock) ho0 (fun k_ hk_ => ⟨Or.elim hk_ (fun hs_ => Or.elim hs_ (fun hs_ => hs_.1) (fun hs_ => hs_.1)) (fun hn_ => (.inr (Nat.le_trans (below_size zb) hn_))), Or.elim hk_ (fun hs_ => Or.elim hs_ (fun hs_ => hs_.2) (fun hs_ => hs_.2)) (fun hn_ => (tfr HO_4 k_ hn_))⟩)) (below_size zb))
             replace HO_4 := tNe HO_4 ho0 hb
             replace HR537_5 := tCb HR537_5 hb
             replace HR538_5 := tCb HR538_5 hb
             replace HB := tBs HB hb
             (try clear hb)
             (try clear hb2)
             (try clear hk)
             (try clear hi)
             (try clear ho0)
             refine hK.out _ _ ⟨HS0_, HS1_, HS2_, HS3_, HS4_, HS5_, HS6_, HS7_, HS8_, HS9_, HS10_, HS11_⟩ (fun hHeld => ?_)
             clear hK K
             refine tnm (some 33) ?_
             refine tpu 11 (some 22) #[true, true, true, true, true, true, true, true, true, true, true, true, false, false, false, false, false] ?_
             refine tpu 12 (some 34) #[true, true, true, true, true, true, true, true, true, true, true, true, true, false, false, false, false] ?_
             refine tpu 13 (some 35) #[true, true, true, true, true, true, true, true, true, true, true, true, true, true, false, false, false] ?_
             refine one_ (i := 14) (N := some 6) #[true, true, true, true, true, true, true, true, true, true, true, true, true, true, true, false, false] rfl rfl (one_of HT_.out (by kernel_rfl)) (by decide) (fun K hK => ?_)
             refine box_step ?hg (N := 6) ?hd (cs := #[.bool false, .bool false, .int .i64 0, .int .i64 0, .int .i64 0, .slice none 0 0]) (t := 28) ?hr ?_; (case hd => rfl); (case hg => rfl); (case hr => first | (go_simp; done) | (go_simp; rfl))
             intro gb548 hg w37 hbox hb
             have HS0_ := tcb hb hHeld.1
             have HS1_ := tcb hb hHeld.2.1
             have HS2_ := tcb hb hHeld.2.2.1
             have HS3_ := tcb hb hHeld.2.2.2.1
             have HS4_ := tcb hb hHeld.2.2.2.2.1
             have HS5_ := tcb hb hHeld.2.2.2.2.2.1
             have HS6_ := tcb hb hHeld.2.2.2.2.2.2.1
             have HS7_ := tcb hb hHeld.2.2.2.2.2.2.2.1
             have HS8_ := tcb hb hHeld.2.2.2.2.2.2.2.2.1
             have HS9_ := tcb hb hHeld.2.2.2.2.2.2.2.2.2.1
             have HS10_ := tcb hb hHeld.2.2.2.2.2.2.2.2.2.2.1
             have HS11_ := tcb hb hHeld.2.2.2.2.2.2.2.2.2.2.2
             replace HO_0 := tVB HO_0 hg hb
             replace HO_4 := tNB HO_4 hg hb
             replace HL537_5 := tVB HL537_5 hg hb
             replace HL538_5 := tVB HL538_5 hg hb
             replace HO546 := tNB HO546 hg hb
             replace HR537_5 := tCb HR537_5 hb
             replace HR538_5 := tCb HR538_5 hb
             have BK548 := Aside0.mk (hbox)
             have GW548 := tge HB hg
             have GE548 := tge HB hg
             replace HB := tBs HB hb
             clear hb hbox hg
             refine hK.out _ _ ⟨HS0_, HS1_, HS2_, HS3_, HS4_, HS5_, HS6_, HS7_, HS8_, HS9_, HS10_, HS11_⟩ (fun hHeld => ?_)
             clear hK K
             refine tnm (some 6) ?_
             exact tnx (hCont (v545, gb548) _ ⟨hHeld, (tVm HL537_5.out), (tVm HL538_5.out), (tNm HO546.out), (tVm HO_0.out), (tNm HO_4.out), (tH BK548.out), GW548.out, GE548.out, zb⟩)
            ·skip
             refine box_step ?hg (N := 6) ?hd (cs := #[.bool false, .bool false, .int .i64 0, .int .i64 0, .int .i64 0, .slice none 0 0]) (t := 28) ?hr ?_; (case hd => rfl); (case hg => rfl); (case hr => first | (go_simp; done) | (go_simp; rfl))
             intro gb548 hg w36 hbox hb
             have HS0_ := tcb hb hHeld.1
             have HS1_ := tcb hb hHeld.2.1
             have HS2_ := tcb hb hHeld.2.2.1
             have HS3_ := tcb hb hHeld.2.2.2.1
             have HS4_ := tcb hb hHeld.2.2.2.2.1
             have HS5_ := tcb hb hHeld.2.2.2.2.2.1
             have HS6_ := tcb hb hHeld.2.2.2.2.2.2.1
             have HS7_ := tcb hb hHeld.2.2.2.2.2.2.2.1
             have HS8_ := tcb hb hHeld.2.2.2.2.2.2.2.2.1
             have HS9_ := tcb hb hHeld.2.2.2.2.2.2.2.2.2.1
             have HS10_ := tcb hb hHeld.2.2.2.2.2.2.2.2.2.2.1
             have HS11_ := tcb hb hHeld.2.2.2.2.2.2.2.2.2.2.2
             replace HO_0 := tVB HO_0 hg hb
             replace HO_4 := tNB HO_4 hg hb
             replace HL537_5 := tVB HL537_5 hg hb
             replace HL538_5 := tVB HL538_5 hg hb
             replace HR537_5 := tCb HR537_5 hb
             replace HR538_5 := tCb HR538_5 hb
             have BK548 := Aside0.mk (hbox)
             have GW548 := tge HB hg
             have GE548 := tge HB hg
             replace HB := tBs HB hb
             clear hb hbox hg
             refine hK.out _ _ ⟨HS0_, HS1_, HS2_, HS3_, HS4_, HS5_, HS6_, HS7_, HS8_, HS9_, HS10_, HS11_⟩ (fun hHeld => ?_)
             clear hK K
             refine tnm (some 6) ?_
             refine one_ (i := 10) (N := some 33) #[true, true, true, true, true, true, true, true, true, true, true, false, false, false, true, false, false] rfl rfl (one_of HT_.out (by kernel_rfl)) (by decide) (fun K hK => ?_)
             refine goes_ Tryd.func8 (by kernel_rfl) rfl #[.agg #[.bool ((rd_T28 x4_1 (ji9)).f0), .bool ((rd_T28 x4_1 (ji9)).f1), .int .i64 ((rd_T28 x4_1 (ji9)).f2), .int .i64 ((rd_T28 x4_1 (ji9)).f3), .int .i64 ((rd_T28 x4_1 (ji9)).f4), .slice A537_5 ((rd_T28 x4_1 (ji9)).f5).length c537_5], .agg #[.bool ((rd_T28 x0_1 x5_1).f0), .bool ((rd_T28 x0_1 x5_1).f1), .int .i64 ((rd_T28 x0_1 x5_1).f2), .int .i64 ((rd_T28 x0_1 x5_1).f3), .int .i64 ((rd_T28 x0_1 x5_1).f4), .slice A538_5 ((rd_T28 x0_1 x5_1).f5).length c538_5]] (by rfl) rfl rfl (by (try simp only [List.map_toArray, List.map_cons, List.map_nil]); first | done | (simp only [hji9]; rfl) | rfl | (simp only [List.length_drop, List.length_take]; rfl)) ?_
             with_reducible refine (spec_BatchJoin.calls k1 ((rd_T28 x4_1 (ji9)).f0) ((rd_T28 x4_1 (ji9)).f1) ((rd_T28 x4_1 (ji9)).f2) ((rd_T28 x4_1 (ji9)).f3) ((rd_T28 x4_1 (ji9)).f4) (fun k_ => (((P0_ k_ ∨ w.heap.size ≤ k_) ∧ some k_ ≠ (.slice (some ad537) x4_1.length co34 : Value).ownBlock) ∧ k_ ≠ gb548)) _ _ ((rd_T28 x4_1 (ji9)).f5) ((rd_T28 x0_1 x5_1).f0) ((rd_T28 x0_1 x5_1).f1) ((rd_T28 x0_1 x5_1).f2) ((rd_T28 x0_1 x5_1).f3) ((rd_T28 x0_1 x5_1).f4) (fun k_ => (((P0_ k_ ∨ w.heap.size ≤ k_) ∧ some k_ ≠ (.slice (some ad537) x4_1.length co34 : Value).ownBlock) ∧ k_ ≠ gb548)) _ _ ((rd_T28 x0_1 x5_1).f5) t539 t540 t541 t542 t543 t544 false _ ?side1 ?side2 A13.out).mono ?_
             (case side1 => exact HL537_5.out)
             (case side2 => exact HL538_5.out)
             rintro e w37 ⟨v545, rfl, ho0, hb⟩
             have HS0_ := tcb hb hHeld.1
             have HS1_ := tcb hb hHeld.2.1
             have HS2_ := tcb hb hHeld.2.2.1
             have HS3_ := tcb hb hHeld.2.2.2.1
             have HS4_ := tcb hb hHeld.2.2.2.2.1
             have HS5_ := tcb hb hHeld.2.2.2.2.2.1
             have HS6_ := tcb hb hHeld.2.2.2.2.2.2.1
             have HS7_ := tcb hb hHeld.2.2.2.2.2.2.2.1
             have HS8_ := tcb hb hHeld.2.2.2.2.2.2.2.2.1
             have HS9_ := tcb hb hHeld.2.2.2.2.2.2.2.2.2.1
             have HS10_ := tcb hb hHeld.2.2.2.2.2.2.2.2.2.2.1
             have HS11_ := tcb hb hHeld.2.2.2.2.2.2.2.2.2.2.2
             refine ⟨_, rfl, ?_⟩
             replace HO_0 := tVe HO_0 ho0 hb
             replace HL537_5 := tVe HL537_5 ho0 hb
             replace HL538_5 := tVe HL538_5 ho0 hb
             have HO546 := Aside0.mk (Kd.N_lower (Kd.N_mono (ok' := fun k_ => (P0_ k_ ∨ w.heap.size ≤ k_) ∧ some k_ ≠ (.slice (some ad537) x4_1.length co34 : Value).ownBlock ∧ k_ ≠ gb548) ho0 (fun k_ hk_ => ⟨Or.elim hk_ (fun hs_ => Or.elim hs_ (fun hs_ => hs_.1.1) (fun hs_ => hs_.1.1)) (fun hn_ => (.inr (Nat.le_trans (below_size zb) hn_))), Or.elim hk_ (fun hs_ => Or.elim hs_ (fun hs_ => hs_.1.2) (fun hs_ => hs_.1.2)) (fun hn_ => (tfr HO_4 k_ hn_)), Or.elim hk_ (fun hs_ => Or.elim hs_ (fun hs_ => hs_.2) (fun hs_ => hs_.2)) (fun hn_ => (tfB BK548 k_ hn_))⟩)) (below_size zb))
             replace HO_4 := tNe HO_4 ho0 hb
             replace HR537_5 := tCb HR537_5 hb
             replace HR538_5 := tCb HR538_5 hb
             replace BK548 := tBb BK548 hb
             replace HB := tBs HB hb
             (try clear hb)
             (try clear hb2)
             (try clear hk)
             (try clear hi)
             (try clear ho0)
             refine hK.out _ _ ⟨HS0_, HS1_, HS2_, HS3_, HS4_, HS5_, HS6_, HS7_, HS8_, HS9_, HS10_, HS11_⟩ (fun hHeld => ?_)
             clear hK K
             refine tnm (some 33) ?_
             refine tpu 11 (some 22) #[true, true, true, true, true, true, true, true, true, true, true, true, false, false, true, false, false] ?_
             refine tpu 12 (some 34) #[true, true, true, true, true, true, true, true, true, true, true, true, true, false, true, false, false] ?_
             refine tpu 13 (some 35) #[true, true, true, true, true, true, true, true, true, true, true, true, true, true, true, false, false] ?_
             exact tnx (hCont (v545, gb548) _ ⟨hHeld, (tVm HL537_5.out), (tVm HL538_5.out), (tN HO546.out), (tVm HO_0.out), (tNm HO_4.out), (tH BK548.out), GW548.out, GE548.out, zb⟩)
           rintro ⟨v545, gb548⟩ w38 ⟨hS_, h0_, h1_, h2_, h3_, h4_, h5_, h6_, h7_, h8_⟩
           try dsimp only at hS_ h0_ h1_ h2_ h3_ h4_ h5_ h6_ h7_ h8_
           clear HO_0 HO_4 HB
           have HL537_5 := Aside0.mk h0_
           have HL538_5 := Aside0.mk h1_
           have HO546 := Aside0.mk h2_
           have HO_0 := Aside0.mk h3_
           have HO_4 := Aside0.mk h4_
           have BK548 := Aside0.mk h5_
           have GW548 := Aside0.mk h6_
           have GE548 := Aside0.mk h7_
           have HB := Aside0.mk h8_
           clear h0_ h1_ h2_ h3_ h4_ h5_ h6_ h7_ h8_
           have hHeld := hS_
           obtain ⟨Ao44, co44, eo44⟩ := Kd.N_slice HO546.out
           (first | subst eo44 | (injection eo44 with f1_ f2_ f3_; have f4_ := f1_.symm; have f5_ := f3_.symm; clear f1_ f2_ f3_; subst f4_; subst f5_))
           refine tnp ?_
           refine one_ (i := 15) (N := none) #[true, true, true, true, true, true, true, true, true, true, true, true, true, true, true, true, false] rfl rfl (one_of HT_.out (by kernel_rfl)) (by decide) (fun K hK => ?_)
           have hs39 : w38.cell? ⟨gb548, 0, none⟩ = some (.bool false) := (blk_cell BK548.out 0).trans rfl
           have hfs39 := blk_frozen BK548.out 0
           have hs40 : w38.cell? ⟨gb548, 1, none⟩ = some (.bool false) := (blk_cell BK548.out 1).trans rfl
           have hfs40 := blk_frozen BK548.out 1
           have hs41 : w38.cell? ⟨gb548, 2, none⟩ = some (.int .i64 0) := (blk_cell BK548.out 2).trans rfl
           have hfs41 := blk_frozen BK548.out 2
           have hs42 : w38.cell? ⟨gb548, 3, none⟩ = some (.int .i64 0) := (blk_cell BK548.out 3).trans rfl
           have hfs42 := blk_frozen BK548.out 3
           have hs43 : w38.cell? ⟨gb548, 4, none⟩ = some (.int .i64 0) := (blk_cell BK548.out 4).trans rfl
           have hfs43 := blk_frozen BK548.out 4
           have hs45 : w38.cell? ⟨gb548, 5, none⟩ = some (.slice none 0 0) := (blk_cell BK548.out 5).trans rfl
           have hfs45 := blk_frozen BK548.out 5
           refine tsk ?_
           refine hK.out _ _ ⟨(tcg (Kd.own_blk (Kd.N_away HO_4.out (fun _ hk => hk.2.2))) hHeld.1), (tcg (Kd.own_blk (Kd.N_away HO_4.out (fun _ hk => hk.2.2))) hHeld.2.1), (tcg (Kd.own_blk (Kd.N_away HO_4.out (fun _ hk => hk.2.2))) hHeld.2.2.1), (tcg (Kd.own_blk (Kd.N_away HO_4.out (fun _ hk => hk.2.2))) hHeld.2.2.2.1), (tcg (Kd.own_blk (Kd.N_away HO_4.out (fun _ hk => hk.2.2))) hHeld.2.2.2.2.1), (tcg (Kd.own_blk (Kd.N_away HO_4.out (fun _ hk => hk.2.2))) hHeld.2.2.2.2.2.1), (tcg (Kd.own_blk (Kd.V_away HO_0.out (fun _ hk => hk.2.2.2))) hHeld.2.2.2.2.2.2.1), (tcg (Kd.own_blk (Kd.V_away HO_0.out (fun _ hk => hk.2.2.2))) hHeld.2.2.2.2.2.2.2.1), (tcg (Kd.own_blk (Kd.V_away HO_0.out (fun _ hk => hk.2.2.2))) hHeld.2.2.2.2.2.2.2.2.1), (tcg (Kd.own_blk (Kd.V_away HO_0.out (fun _ hk => hk.2.2.2))) hHeld.2.2.2.2.2.2.2.2.2.1), (tcg (Kd.own_blk (Kd.V_away HO_0.out (fun _ hk => hk.2.2.2))) hHeld.2.2.2.2.2.2.2.2.2.2.1), (tcg (Kd.own_blk (Kd.V_away HO_0.out (fun _ hk => hk.2.2.2))) hHeld.2.2.2.2.2.2.2.2.2.2.2)⟩ (fun hHeld => ?_)
           clear hK K
           refine tpu 16 (some 7) #[true, true, true, true, true, true, true, true, true, true, true, true, true, true, true, true, true] ?_
           refine done_ (done_of HT_.out (by kernel_rfl)) ?_
           have n0_ : Aside0 (Kd.V k28 28 ((((((w38.setCell ⟨gb548, 0, none⟩ (.bool t539)).setCell ⟨gb548, 1, none⟩ (.bool t540)).setCell ⟨gb548, 2, none⟩ (.int .i64 t541)).setCell ⟨gb548, 3, none⟩ (.int .i64 t542)).setCell ⟨gb548, 4, none⟩ (.int .i64 t543)).setCell ⟨gb548, 5, none⟩ (.slice Ao44 t544.length co44)) w.heap.size (fun k_ => (P0_ k_ ∨ w.heap.size ≤ k_) ∧ some k_ ≠ (.slice (some ad537) x4_1.length co34 : Value).ownBlock ∧ some k_ ≠ (.slice Ao44 t544.length co44 : Value).ownBlock ∧ k_ ≠ gb548) (.slice (some ad538) x0_1.length c0) x0_1) := ⟨tVm HO_0.out⟩
           have n1_ : Aside0 (Kd.N k28 28 ((((((w38.setCell ⟨gb548, 0, none⟩ (.bool t539)).setCell ⟨gb548, 1, none⟩ (.bool t540)).setCell ⟨gb548, 2, none⟩ (.int .i64 t541)).setCell ⟨gb548, 3, none⟩ (.int .i64 t542)).setCell ⟨gb548, 4, none⟩ (.int .i64 t543)).setCell ⟨gb548, 5, none⟩ (.slice Ao44 t544.length co44)) w.heap.size (fun k_ => (P0_ k_ ∨ w.heap.size ≤ k_) ∧ some k_ ≠ (.slice Ao44 t544.length co44 : Value).ownBlock ∧ k_ ≠ gb548) (.slice (some ad537) x4_1.length co34) x4_1) := ⟨tNm HO_4.out⟩
           have n2_ : Aside0 (Kd.V k62 62 ((((((w38.setCell ⟨gb548, 0, none⟩ (.bool t539)).setCell ⟨gb548, 1, none⟩ (.bool t540)).setCell ⟨gb548, 2, none⟩ (.int .i64 t541)).setCell ⟨gb548, 3, none⟩ (.int .i64 t542)).setCell ⟨gb548, 4, none⟩ (.int .i64 t543)).setCell ⟨gb548, 5, none⟩ (.slice Ao44 t544.length co44)) w.heap.size (fun k_ => (P0_ k_ ∨ w.heap.size ≤ k_) ∧ some k_ ≠ (.slice (some ad537) x4_1.length co34 : Value).ownBlock ∧ some k_ ≠ (.slice Ao44 t544.length co44 : Value).ownBlock ∧ k_ ≠ gb548) (.slice A537_5 ((rd_T28 x4_1 (ji9)).f5).length c537_5) ((rd_T28 x4_1 (ji9)).f5)) := ⟨tVm HL537_5.out⟩
           have n3_ : Aside0 (Kd.V k62 62 ((((((w38.setCell ⟨gb548, 0, none⟩ (.bool t539)).setCell ⟨gb548, 1, none⟩ (.bool t540)).setCell ⟨gb548, 2, none⟩ (.int .i64 t541)).setCell ⟨gb548, 3, none⟩ (.int .i64 t542)).setCell ⟨gb548, 4, none⟩ (.int .i64 t543)).setCell ⟨gb548, 5, none⟩ (.slice Ao44 t544.length co44)) w.heap.size (fun k_ => (P0_ k_ ∨ w.heap.size ≤ k_) ∧ some k_ ≠ (.slice (some ad537) x4_1.length co34 : Value).ownBlock ∧ some k_ ≠ (.slice Ao44 t544.length co44 : Value).ownBlock ∧ k_ ≠ gb548) (.slice A538_5 ((rd_T28 x0_1 x5_1).f5).length c538_5) ((rd_T28 x0_1 x5_1).f5)) := ⟨tVm HL538_5.out⟩
           have n4_ : Aside0 (Kd.N k62 62 ((((((w38.setCell ⟨gb548, 0, none⟩ (.bool t539)).setCell ⟨gb548, 1, none⟩ (.bool t540)).setCell ⟨gb548, 2, none⟩ (.int .i64 t541)).setCell ⟨gb548, 3, none⟩ (.int .i64 t542)).setCell ⟨gb548, 4, none⟩ (.int .i64 t543)).setCell ⟨gb548, 5, none⟩ (.slice Ao44 t544.length co44)) w.heap.size (fun k_ => (P0_ k_ ∨ w.heap.size ≤ k_) ∧ some k_ ≠ (.slice (some ad537) x4_1.length co34 : Value).ownBlock ∧ k_ ≠ gb548) (.slice Ao44 t544.length co44) t544) := ⟨tNm HO546.out⟩
           have n5_ : Aside0 (((((((w38.setCell ⟨gb548, 0, none⟩ (.bool t539)).setCell ⟨gb548, 1, none⟩ (.bool t540)).setCell ⟨gb548, 2, none⟩ (.int .i64 t541)).setCell ⟨gb548, 3, none⟩ (.int .i64 t542)).setCell ⟨gb548, 4, none⟩ (.int .i64 t543)).setCell ⟨gb548, 5, none⟩ (.slice Ao44 t544.length co44)).heap[gb548]? = some (.cells #[.bool t539, .bool t540, .int .i64 t541, .int .i64 t542, .int .i64 t543, .slice Ao44 t544.length co44] 28 (0, 0))) := ⟨tP BK548.out⟩
           have n6_ : Aside0 (Below w.heap.size w ((((((w38.setCell ⟨gb548, 0, none⟩ (.bool t539)).setCell ⟨gb548, 1, none⟩ (.bool t540)).setCell ⟨gb548, 2, none⟩ (.int .i64 t541)).setCell ⟨gb548, 3, none⟩ (.int .i64 t542)).setCell ⟨gb548, 4, none⟩ (.int .i64 t543)).setCell ⟨gb548, 5, none⟩ (.slice Ao44 t544.length co44))) := ⟨zb⟩
           (try clear HO_0)
           (try clear HO_4)
           (try clear HL537_5)
           (try clear HL538_5)
           (try clear HO546)
           (try clear BK548)
           (try clear HB)
           generalize ((((((w38.setCell ⟨gb548, 0, none⟩ (.bool t539)).setCell ⟨gb548, 1, none⟩ (.bool t540)).setCell ⟨gb548, 2, none⟩ (.int .i64 t541)).setCell ⟨gb548, 3, none⟩ (.int .i64 t542)).setCell ⟨gb548, 4, none⟩ (.int .i64 t543)).setCell ⟨gb548, 5, none⟩ (.slice Ao44 t544.length co44)) = w46 at n0_ n1_ n2_ n3_ n4_ n5_ n6_ ⊢
           have HO_0 := n0_
           have HO_4 := n1_
           have HL537_5 := n2_
           have HL538_5 := n3_
           have HO546 := n4_
           have BK548 := n5_
           have HB := n6_
           clear n0_ n1_ n2_ n3_ n4_ n5_ n6_
           have p550 : 0 ≤ (x5_1 : Int) := td
           have q550 : x5_1 < (x0_1.length : Int) := td
           obtain ⟨ad550, A550_5, c550_5, e550, hx550_0, hx550_1, hx550_2, hx550_3, hx550_4, hx550_5, hl550_5, hi550_5⟩ := at_T28 (Kd.V_reads' HO_0.out).2.2 x5_1 p550 q550
           obtain rfl : ad538 = ad550 := (by injection e550)
           obtain ⟨ce550, hce550, hMe550, hcc550⟩ := Kd.V_get HO_0.out z28 x5_1 p550 (by first | exact q550 | exact td | (have e_ := (Kd.V_reads' HO_0.out).1; omega))
           obtain ⟨ua550_5, uc550_5, rfl, ul550_5, ge550_5⟩ := k28_openF hMe550
           have hv550_5 := hcc550 5 _ rfl
           rw [add_field _ _ 5 (by omega)] at hv550_5
           replace hv550_5 := Option.some.inj (hv550_5.symm.trans hx550_5)
           injection hv550_5 with hva_ hvn_ hvc_
           rw [hva_] at ge550_5
           rw [hvc_] at ul550_5
           have HL550_5 := Aside0.mk (show Kd.V k62 62 _ w.heap.size _ _ ((rd_T28 x0_1 x5_1).f5) from Kd.V_mk ul550_5 ge550_5)
           clear hva_ hvn_ hvc_ ge550_5 ul550_5
           clear hcc550 hce550
           have HR550_5 := Aside0.mk hi550_5
           have HC550_5 := Aside0.mk hl550_5
           clear hi550_5 hl550_5
           replace p550 := eq_true p550
           replace q550 := eq_true q550
           try go_wp2_with (first | ((with_reducible refine gate_callee (f := 37) rfl ?_); refine goesL_ (some 48) rfl rfl Tryd.func37 (by kernel_rfl) rfl #[.agg #[.bool ((rd_T28 x0_1 x5_1).f0), .bool ((rd_T28 x0_1 x5_1).f1), .int .i64 ((rd_T28 x0_1 x5_1).f2), .int .i64 ((rd_T28 x0_1 x5_1).f3), .int .i64 ((rd_T28 x0_1 x5_1).f4), .slice A550_5 ((rd_T28 x0_1 x5_1).f5).length c550_5]] rfl tq ?_; (with_reducible refine (spec_l12Batch.calls k1 ((rd_T28 x0_1 x5_1).f0) ((rd_T28 x0_1 x5_1).f1) ((rd_T28 x0_1 x5_1).f2) ((rd_T28 x0_1 x5_1).f3) ((rd_T28 x0_1 x5_1).f4) _ _ ((rd_T28 x0_1 x5_1).f5) t551 t552 t553 t554 t555 t556 _ ?side1 ?side2 A32.out).mono ?_); (case side1 => exact tC (tC HR550_5.out)); (case side2 => exact HC550_5.out); rintro e w47 ⟨v557, rfl, ho0, hb⟩; have u_v557 := tsv Tryd.prog v557 ho0; refine ⟨_, rfl, ?_⟩; replace HO_0 := tVe HO_0 ho0 hb; replace HL537_5 := tVe HL537_5 ho0 hb; replace HL538_5 := tVe HL538_5 ho0 hb; replace HL550_5 := tVe HL550_5 ho0 hb; have HO558 := Aside0.mk (Kd.N_lower (Kd.N_mono (ok' := fun k_ => (P0_ k_ ∨ w.heap.size ≤ k_) ∧ some k_ ≠ (.slice (some ad537) x4_1.length co34 : Value).ownBlock ∧ some k_ ≠ (.slice Ao44 t544.length co44 : Value).ownBlock ∧ k_ ≠ gb548) (Kd.S_N (Kd.S_bound ho0)) (fun k_ hk_ => ⟨(.inr (Nat.le_trans (below_size zb) hk_.2.1)), (tfr HO_4 k_ hk_.2.1), (tfr HO546 k_ hk_.2.1), (tfB BK548 k_ hk_.2.1)⟩)) (below_size zb)); replace HO_4 := tNe HO_4 ho0 hb; replace HO546 := tNe HO546 ho0 hb; replace BK548 := tBb BK548 hb; replace HR550_5 := tCb HR550_5 hb; replace HB := tBs HB hb; (try clear hb); (try clear hb2); (try clear hk); (try clear hi); (try clear ho0); obtain ⟨Ao49, co49, eo49⟩ := Kd.N_slice HO558.out; subst eo49) | ((with_reducible refine gate_builtin (b := .append) (xs := #[.tmp 43, .tmp 49]) rfl ?_); at_builtin; refine Kd.N_append k28 (w0 := w) w.heap.size rfl (.tmp 43) (.tmp 49) 40 28 (.agg #[(.bool false), (.bool false), (.int .i64 0), (.int .i64 0), (.int .i64 0), (.slice none 0 0)]) 56 rfl Tryd.underlying40 info28 rfl (by decide) (by omega) (.slice (some ad537) x4_1.length co34) x4_1 (⟨t551, t552, t553, t554, t555, t556⟩ : S28) [.bool t551, .bool t552, .int .i64 t553, .int .i64 t554, .int .i64 t555, .slice Ao49 t556.length co49] (fun k_ => (P0_ k_ ∨ w.heap.size ≤ k_) ∧ some k_ ≠ (.slice Ao44 t544.length co44 : Value).ownBlock ∧ k_ ≠ gb548) (fun k_ => ((fun k_ => (P0_ k_ ∨ w.heap.size ≤ k_) ∧ some k_ ≠ (.slice Ao44 t544.length co44 : Value).ownBlock ∧ k_ ≠ gb548)) k_ ∧ some k_ ≠ (.slice (some ad537) x4_1.length co34 : Value).ownBlock) rfl rfl ?aP (fun _ hk => hk) ?aF ?aO ?aB ?aS ?aL ?_; (case aP => exact (k28_mkF _ _ (⟨t551, t552, t553, t554, t555, t556⟩ : S28) (Kd.N_reads' (Kd.N_mono (ok' := (fun k_ => ((fun k_ => (P0_ k_ ∨ w.heap.size ≤ k_) ∧ some k_ ≠ (.slice Ao44 t544.length co44 : Value).ownBlock ∧ k_ ≠ gb548)) k_ ∧ some k_ ≠ (.slice (some ad537) x4_1.length co34 : Value).ownBlock)) (HO558.out) (fun k_ hk => ⟨⟨hk.1, ⟨hk.2.2.1, hk.2.2.2⟩⟩, hk.2.1⟩))).2.1 (Kd.N_F (Kd.N_mono (ok' := (fun k_ => ((fun k_ => (P0_ k_ ∨ w.heap.size ≤ k_) ∧ some k_ ≠ (.slice Ao44 t544.length co44 : Value).ownBlock ∧ k_ ≠ gb548)) k_ ∧ some k_ ≠ (.slice (some ad537) x4_1.length co34 : Value).ownBlock)) (HO558.out) (fun k_ hk => ⟨⟨hk.1, ⟨hk.2.2.1, hk.2.2.2⟩⟩, hk.2.1⟩))))); (case aB => exact zb); (case aF => exact (fun k_ hk => ⟨(.inr (Nat.le_trans (below_size zb) hk)), tfr HO546 k_ hk, tfB BK548 k_ hk⟩)); (case aO => exact (tNm HO_4.out)); (case aS => exact (below_size zb)); (case aL => have := LMc33.out; omega); intro v560 w48 ho hb hg hat; rw [← Ny559.out] at ho; replace HO_0 := Aside0.mk (Kd.V_afterv (ok := (fun k_ => (P0_ k_ ∨ w.heap.size ≤ k_) ∧ some k_ ≠ (.slice Ao44 t544.length co44 : Value).ownBlock ∧ some k_ ≠ (.slice Ao49 t556.length co49 : Value).ownBlock ∧ k_ ≠ gb548)) (tVm HO_0.out) hg hat); replace HL537_5 := Aside0.mk (Kd.V_afterv (ok := (fun k_ => (P0_ k_ ∨ w.heap.size ≤ k_) ∧ some k_ ≠ (.slice Ao44 t544.length co44 : Value).ownBlock ∧ some k_ ≠ (.slice Ao49 t556.length co49 : Value).ownBlock ∧ k_ ≠ gb548)) (tVm HL537_5.out) hg hat); replace HL538_5 := Aside0.mk (Kd.V_afterv (ok := (fun k_ => (P0_ k_ ∨ w.heap.size ≤ k_) ∧ some k_ ≠ (.slice Ao44 t544.length co44 : Value).ownBlock ∧ some k_ ≠ (.slice Ao49 t556.length co49 : Value).ownBlock ∧ k_ ≠ gb548)) (tVm HL538_5.out) hg hat); replace HO546 := Aside0.mk (Kd.N_afterv (ok := (fun k_ => (P0_ k_ ∨ w.heap.size ≤ k_) ∧ some k_ ≠ (.slice Ao49 t556.length co49 : Value).ownBlock ∧ k_ ≠ gb548)) (tNm HO546.out) hg hat); replace BK548 := Aside0.mk (blk_grown (tH BK548.out) hg (Kd.N_away HO_4.out (fun _ hk => hk.1.2.2))); replace HL550_5 := Aside0.mk (Kd.V_afterv (ok := (fun k_ => (P0_ k_ ∨ w.heap.size ≤ k_) ∧ some k_ ≠ (.slice Ao44 t544.length co44 : Value).ownBlock ∧ some k_ ≠ (.slice Ao49 t556.length co49 : Value).ownBlock ∧ k_ ≠ gb548)) (tVm HL550_5.out) hg hat); replace HB := Aside0.mk (hb); have HO561 := Aside0.mk (ho); clear HO_4 HO558; clear ho hb hg hat))
           (try simp only [← hl0_1])
           go_roundg k1
           case measure => have := HK1.out; omega
           case rel => exact ⟨(x0_1), (y559), (wrap64 (x5_1 + 1)), tr, H', ⟨by have := HK1.out; omega⟩, ⟨by (try simp only [hl0_1]); (with_reducible repeat (first | apply Kd.V_alloc | apply Kd.V_drewN | apply Kd.V_drew)); exact Kd.V_mono HO_0.out (fun _ hk => ⟨hk.1.1, hk.2⟩)⟩, ⟨by (try simp only [hl0_1]); (with_reducible repeat (first | apply Kd.N_alloc | apply Kd.N_drewN | apply Kd.N_drew)); exact Kd.N_mono HO561.out (fun _ hk => hk.1)⟩, ⟨zb⟩⟩
          ·rw [if_neg c33] at H
           exact absurd H (by simp)
        ·rw [if_neg c12] at H
         exact absurd H (by simp)
       ·rw [if_neg c11] at H
        exact absurd H (by simp)
      ·rw [if_neg c10] at H
       exact absurd H (by simp)
     ·rw [if_neg c8] at H
      have c8b0 : decide (0 < (x4_1.length : Int)) = false := decide_eq_false c8
      have c8b1 : decide (0 < x4_1.length) = false := decide_eq_false (by omega)
      clear c8
      by_cases c50 : 0 ≤ x5_1
      ·rw [if_pos c50] at H
       have c50b0 : decide (0 ≤ x5_1) = true := decide_eq_true c50
       clear c50
       replace H := tbe H
       obtain ⟨⟨t563, t564, t565, t566, t567, t568⟩, A51, H⟩ := H
       dsimp only at H
       by_cases c52 : x4_1.length < 2513169434916
       ·rw [if_pos c52] at H
        have LMc52 := Aside0.mk c52
        clear c52
        obtain ⟨y571, hy571⟩ : ∃ y_ : List (S28), y_ = (x4_1 ++ [(⟨t563, t564, t565, t566, t567, t568⟩ : S28)]) := ⟨_, rfl⟩
        replace H : (spec_LogEven.l0 k1 x0_1 y571 (wrap64 (x5_1 + 1))) = some (r1, r2) := by first | (rw [hy571]; with_reducible exact H) | (have H2_ := (Option.bind_some _ _).symm.trans H; rw [hy571]; with_reducible exact H2_) | (have H2_ := (Option.bind_some _ _).symm.trans H; with_reducible exact H2_) | with_reducible exact H | (rw [hy571]; exact H) | exact H
        have Ny571 := Aside0.mk hy571
        clear hy571
        have H' := Aside0.mk H
        clear H
        obtain ⟨Ao53, co53, eo53⟩ := Kd.N_slice HO_4.out
        subst eo53
        have p562 : 0 ≤ (x5_1 : Int) := td
        have q562 : x5_1 < (x0_1.length : Int) := td
        obtain ⟨ad562, A562_5, c562_5, e562, hx562_0, hx562_1, hx562_2, hx562_3, hx562_4, hx562_5, hl562_5, hi562_5⟩ := at_T28 (Kd.V_reads' HO_0.out).2.2 x5_1 p562 q562
        cases e562
        obtain ⟨ce562, hce562, hMe562, hcc562⟩ := Kd.V_get HO_0.out z28 x5_1 p562 (by first | exact q562 | exact td | (have e_ := (Kd.V_reads' HO_0.out).1; omega))
        obtain ⟨ua562_5, uc562_5, rfl, ul562_5, ge562_5⟩ := k28_openF hMe562
        have hv562_5 := hcc562 5 _ rfl
        rw [add_field _ _ 5 (by omega)] at hv562_5
        replace hv562_5 := Option.some.inj (hv562_5.symm.trans hx562_5)
        injection hv562_5 with hva_ hvn_ hvc_
        rw [hva_] at ge562_5
        rw [hvc_] at ul562_5
        have HL562_5 := Aside0.mk (show Kd.V k62 62 _ w.heap.size _ _ ((rd_T28 x0_1 x5_1).f5) from Kd.V_mk ul562_5 ge562_5)
        clear hva_ hvn_ hvc_ ge562_5 ul562_5
        clear hcc562 hce562
        have HR562_5 := Aside0.mk hi562_5
        have HC562_5 := Aside0.mk hl562_5
        clear hi562_5 hl562_5
        replace p562 := eq_true p562
        replace q562 := eq_true q562
        go_wp2_with (first | ((with_reducible refine gate_callee (f := 37) rfl ?_); refine goesL_ (some 48) rfl rfl Tryd.func37 (by kernel_rfl) rfl #[.agg #[.bool ((rd_T28 x0_1 x5_1).f0), .bool ((rd_T28 x0_1 x5_1).f1), .int .i64 ((rd_T28 x0_1 x5_1).f2), .int .i64 ((rd_T28 x0_1 x5_1).f3), .int .i64 ((rd_T28 x0_1 x5_1).f4), .slice A562_5 ((rd_T28 x0_1 x5_1).f5).length c562_5]] rfl tq ?_; (with_reducible refine (spec_l12Batch.calls k1 ((rd_T28 x0_1 x5_1).f0) ((rd_T28 x0_1 x5_1).f1) ((rd_T28 x0_1 x5_1).f2) ((rd_T28 x0_1 x5_1).f3) ((rd_T28 x0_1 x5_1).f4) _ _ ((rd_T28 x0_1 x5_1).f5) t563 t564 t565 t566 t567 t568 _ ?side1 ?side2 A51.out).mono ?_); (case side1 => exact tC (tC HR562_5.out)); (case side2 => exact HC562_5.out); rintro e w54 ⟨v569, rfl, ho0, hb⟩; have u_v569 := tsv Tryd.prog v569 ho0; refine ⟨_, rfl, ?_⟩; replace HO_0 := tVe HO_0 ho0 hb; replace HL562_5 := tVe HL562_5 ho0 hb; have HO570 := Aside0.mk (Kd.N_lower (Kd.N_mono (ok' := fun k_ => (P0_ k_ ∨ w.heap.size ≤ k_) ∧ some k_ ≠ (.slice Ao53 x4_1.length co53 : Value).ownBlock) (Kd.S_N (Kd.S_bound ho0)) (fun k_ hk_ => ⟨(.inr (Nat.le_trans (below_size zb) hk_.2.1)), (tfr HO_4 k_ hk_.2.1)⟩)) (below_size zb)); replace HO_4 := tNe HO_4 ho0 hb; replace HR562_5 := tCb HR562_5 hb; replace HB := tBs HB hb; (try clear hb); (try clear hb2); (try clear hk); (try clear hi); (try clear ho0); obtain ⟨Ao56, co56, eo56⟩ := Kd.N_slice HO570.out; subst eo56) | ((with_reducible refine gate_builtin (b := .append) (xs := #[.tmp 43, .tmp 49]) rfl ?_); at_builtin; refine Kd.N_append k28 (w0 := w) w.heap.size rfl (.tmp 43) (.tmp 49) 40 28 (.agg #[(.bool false), (.bool false), (.int .i64 0), (.int .i64 0), (.int .i64 0), (.slice none 0 0)]) 56 rfl Tryd.underlying40 info28 rfl (by decide) (by omega) (.slice Ao53 x4_1.length co53) x4_1 (⟨t563, t564, t565, t566, t567, t568⟩ : S28) [.bool t563, .bool t564, .int .i64 t565, .int .i64 t566, .int .i64 t567, .slice Ao56 t568.length co56] (fun k_ => (P0_ k_ ∨ w.heap.size ≤ k_)) (fun k_ => ((fun k_ => (P0_ k_ ∨ w.heap.size ≤ k_))) k_ ∧ some k_ ≠ (.slice Ao53 x4_1.length co53 : Value).ownBlock) rfl rfl ?aP (fun _ hk => hk) ?aF ?aO ?aB ?aS ?aL ?_; (case aP => exact (k28_mkF _ _ (⟨t563, t564, t565, t566, t567, t568⟩ : S28) (Kd.N_reads' (Kd.N_mono (ok' := (fun k_ => ((fun k_ => (P0_ k_ ∨ w.heap.size ≤ k_))) k_ ∧ some k_ ≠ (.slice Ao53 x4_1.length co53 : Value).ownBlock)) (HO570.out) (fun k_ hk => ⟨hk.1, hk.2⟩))).2.1 (Kd.N_F (Kd.N_mono (ok' := (fun k_ => ((fun k_ => (P0_ k_ ∨ w.heap.size ≤ k_))) k_ ∧ some k_ ≠ (.slice Ao53 x4_1.length co53 : Value).ownBlock)) (HO570.out) (fun k_ hk => ⟨hk.1, hk.2⟩))))); (case aB => exact zb); (case aF => exact (fun k_ hk => (.inr (Nat.le_trans (below_size zb) hk)))); (case aO => exact (tNm HO_4.out)); (case aS => exact (below_size zb)); (case aL => have := LMc52.out; omega); intro v572 w55 ho hb hg hat; rw [← Ny571.out] at ho; replace HO_0 := Aside0.mk (Kd.V_afterv (ok := (fun k_ => (P0_ k_ ∨ w.heap.size ≤ k_) ∧ some k_ ≠ (.slice Ao56 t568.length co56 : Value).ownBlock)) (tVm HO_0.out) hg hat); replace HL562_5 := Aside0.mk (Kd.V_afterv (ok := (fun k_ => (P0_ k_ ∨ w.heap.size ≤ k_) ∧ some k_ ≠ (.slice Ao56 t568.length co56 : Value).ownBlock)) (tVm HL562_5.out) hg hat); replace HB := Aside0.mk (hb); have HO573 := Aside0.mk (ho); clear HO_4 HO570; clear ho hb hg hat))
        (try simp only [← hl0_1])
        go_roundg k1
        case measure => have := HK1.out; omega
        case rel => exact ⟨(x0_1), (y571), (wrap64 (x5_1 + 1)), tr, H', ⟨by have := HK1.out; omega⟩, ⟨by (try simp only [hl0_1]); (with_reducible repeat (first | apply Kd.V_alloc | apply Kd.V_drewN | apply Kd.V_drew)); exact Kd.V_mono HO_0.out (fun _ hk => ⟨hk.1.1, hk.2⟩)⟩, ⟨by (try simp only [hl0_1]); (with_reducible repeat (first | apply Kd.N_alloc | apply Kd.N_drewN | apply Kd.N_drew)); exact HO573.out⟩, ⟨zb⟩⟩
       ·rw [if_neg c52] at H
        exact absurd H (by simp)
      ·rw [if_neg c50] at H
       exact absurd H (by simp)
    ·rw [if_neg c7] at H
     have c7b0 : decide (x5_1 < (x0_1.length : Int)) = false := decide_eq_false c7
     clear c7
     simp only [Option.some.injEq, Prod.mk.injEq] at H
     obtain ⟨rfl, rfl⟩ := H
     go_wp2
     go_ret2
     exact ⟨_, by first | rfl | (simp [errW_none, errW_some] <;> rfl) | (simp [*, errW_none, errW_some] <;> rfl), tN HO_4.out, zb⟩
 ·replace c3 := Bool.eq_false_iff.mpr c3
  subst c3
  rw [if_neg (show ¬ (false = true) by decide)] at H
  simp only [Option.some.injEq, Prod.mk.injEq] at H
  obtain ⟨rfl, rfl⟩ := H
  go_enter Tryd.func23, Tryd.ntmps23
  go_wp2_with (first | ((with_reducible refine gate_dst (N := 8) rfl ?_); refine Kd.N_lit k28 _ 28 ?hg (N' := 8) ?hd (xs := ([] : List (S28))) (inner := []) (ok := (fun k_ => (P0_ k_ ∨ w.heap.size ≤ k_))) (okp := (fun k_ => (P0_ k_ ∨ w.heap.size ≤ k_))) ?hr ?hp (fun _ hk => hk) ((show ∀ k_, w.heap.size ≤ k_ → (fun k_ => (P0_ k_ ∨ w.heap.size ≤ k_)) k_ from fun k_ hk => (.inr (Nat.le_trans (below_size zb) hk))) _ (Nat.le_refl _)) (Below.refl _ _) (Nat.le_refl _) (by simp) ?_; (case hd => rfl); (case hg => rfl); (case hr => first | (go_simp; done) | (go_simp; rfl)); (case hp => exact (Reps.none _ _)); intro v534 w57 ho58 hb hg_ hnew_; clear hg_ hnew_; (first | rw [← Ny533.out] at ho58 | (simp only [Int.reduceToNat] at ho58; rw [← Ny533.out] at ho58)); replace HO0 := tVe HO0 ho58 hb; have HO535 := tNl ho58 HB; replace HB := tBs HB hb; clear hb ho58) | ((with_reducible refine gate_callee (f := 35) rfl ?_); refine goesL_ (some 10) rfl rfl Tryd.func35 (by kernel_rfl) rfl #[.slice A0 l0.length c0] rfl tq ?_; (with_reducible refine (spec_LogValid.calls k _ _ l0 false _ ?side1 ?side2 A2.out).mono ?_); (case side1 => repeat (first | exact (Kd.V_reads' HO0.out).2.2 | (with_reducible refine Kd.C_alloc ?_ _) | (with_reducible refine Kd.C_drewN ?_ _) | (with_reducible refine Kd.C_drew ?_))); (case side2 => exact (Kd.V_reads' HO0.out).2.1); rintro e w59 ⟨rfl, hb⟩; refine ⟨_, rfl, ?_⟩; replace HO0 := tVb HO0 hb; replace HO535 := tNb HO535 hb; replace HB := tBs HB hb; (try clear hb); (try clear hb2); (try clear hk); (try clear hi)))
  go_ret2
  exact ⟨_, by first | rfl | (simp [errW_none, errW_some] <;> rfl) | (simp [*, errW_none, errW_some] <;> rfl), tN HO535.out, zb⟩

end Go.Proofs.YtfjkpdhldeopaaaDoor.G

namespace Go.Proofs.YtfjkpdhldeopaaaDoor.G
open Go.RowKit Go.Proofs.YtfjkpdhldeopaaaDoorW.PrintWords Go.Proofs.YtfjkpdhldeopaaaDoorW.PrintLast Go.Proofs.YtfjkpdhldeopaaaDoorW.PrintMore
set_option linter.unusedVariables false
set_option linter.unusedSimpArgs false
theorem sLogEven_St {k : Nat} {w W : World} {es : List En} {Y : Option Addr} {y : Nat} {x0 g : List S28} {ok : Bool} {P : Nat → Prop} (h : St w W (rowS kB 28 w.heap.size (.slice Y x0.length y) x0 P :: es)) (hf : spec_LogEven.f k x0 = some (g, ok)) :
    Calls Tryd.prog 23 #[.slice Y x0.length y] W fun e W' => ∃ (V : Option Addr) (q : Nat) (P' : Nat → Prop), e = .returned (.tuple #[.slice V g.length q, .bool ok]) ∧ g.length ≤ q ∧ St w W' (rowF k28 V g.length g P' :: es) := by
  have hF0 : Kd.F kB W P Y x0.length x0 := Kd.S_F (h.getS 0 rfl)
  have hF : Kd.F k28 W P Y x0.length x0 := hF0
  refine (spec_LogEven.calls k P Y y x0 g ok W (Kd.V_mk (h.getL 0 rfl) hF) hf).mono ?_
  rintro e W' ⟨v, rfl, hn, hb⟩
  obtain ⟨V, q, rfl, hl, _⟩ := Kd.N_reads hn
  refine ⟨V, q, fun k => (P k ∨ W.heap.size ≤ k) ∧ k < W'.heap.size, rfl, hl, ?_⟩
  exact h.merge1 (Kept.of_below hb _) (rowF _ V _ g _) (Kd.F_bound (Kd.N_F hn)) (fun k hk => hk) (below_step h.below hb)
structure FactsLE (k : Nat) (l : List S24) (t : Int) (x0 g : List S28) (ok : Bool) : Prop where
  s0 : laws_szBatchS.f k l 1048576 = some t
  t0 : 0 ≤ t
  c0 : laws_toBatchS.f k l = some x0
  sj : spec_LogEven.f k x0 = some (g, ok)
  ij : impl_LogEven.f k x0 = some (g, ok)
  eg : laws_eqBatchS.f k g g = some true
  ex : laws_eqBatchS.f k x0 x0 = some true
  hg : laws_heldBatchS.f k (mkBats 1 g) 1 = some (1 + (totB g : Int))
  bx : (totB x0 : Int) ≤ 2900000000000000000
  bg : (totB g : Int) ≤ 2900000000000000000
set_option maxRecDepth 1000000 in
set_option maxHeartbeats 4000000 in
theorem exLE [ErrA] (k : Nat) (A : Option Addr) (c : Nat) (l : List S24) (t : Int) (x0 g : List S28) (ok : Bool) (w : World) (hE : ErrOk [0] w) (hr : Kd.C k24 w A l.length l) (hc : l.length ≤ c) (h : FactsLE k l t x0 g ok) :
    Calls Tryd.prog 6 #[.slice A l.length c] w fun e w' => e = .returned (.bool true) ∧ Below w.heap.size w w' := by
  have HE := Aside0.mk hE
  have HR := Aside0.mk hr
  have HC := Aside0.mk hc
  have HF := Aside0.mk h
  have t0 := h.t0
  have HS := Aside0.mk (St.nil w)
  clear hE hr hc h
  go_enter Tryd.func6, Tryd.ntmps6
  go_upto_region 6 with (first
    | (go_at_call 16; with_reducible refine (laws_szBatchS.calls k A c l 1048576 t _ (Kd.C_below HR.out HS.out.below) HC.out HF.out.s0).mono ?_; rintro e W ⟨rfl, hb⟩; replace HS := Aside0.mk (HS.out.call hb); clear hb; skip)
    | (go_at_call 18; with_reducible refine (laws_toBatchS.callsB k A c l x0 _ (Kd.C_below HR.out HS.out.below) HC.out HF.out.c0).mono ?_; rintro e W ⟨v, rfl, hs, hb⟩; obtain ⟨V_rY, q_rY, rfl⟩ := Kd.S_slice hs; replace HS := Aside0.mk (HS.out.pushS hs hb); clear hs hb)
    | (go_at_call 23; with_reducible refine (sLogEven_St HS.out HF.out.sj).mono ?_; rintro e W ⟨V_rW, q_rW, P_, rfl, hl, h_⟩; have HL := Aside0.mk hl; clear HS; have HS := Aside0.mk h_; clear h_ hl))
  go_upto_region 10 with (first
    | (go_at_call 18; with_reducible refine (laws_toBatchS.callsB k A c l x0 _ (Kd.C_below HR.out HS.out.below) HC.out HF.out.c0).mono ?_; rintro e W ⟨v, rfl, hs, hb⟩; obtain ⟨V_rX, q_rX, rfl⟩ := Kd.S_slice hs; replace HS := Aside0.mk (HS.out.pushS hs hb); clear hs hb)
    | (go_at_call 24; with_reducible refine (impl_LogEven.callsB k _ _ x0 g ok _ (ErrOk.below HE.out HS.out.below) (kB_C (HS.out.getC 0 rfl)) (HS.out.getL 0 rfl) HF.out.ij).mono ?_; rintro e W ⟨v, rfl, hs, hb⟩; obtain ⟨V_rG, q_rG, rfl⟩ := Kd.S_slice hs; replace HS := Aside0.mk (HS.out.pushS hs hb); clear hs hb)
    | (go_at_call 20; with_reducible refine (laws_eqBatchS.calls k _ _ g _ _ g true _ (kB_C (HS.out.getC 0 rfl)) (HS.out.getL 0 rfl) (HS.out.getF 2 rfl) HL.out HF.out.eg).mono ?_; rintro e W ⟨rfl, hb⟩; replace HS := Aside0.mk (HS.out.call hb); clear hb; skip))
  go_upto_region 24 with (first
    | (go_at_call 18; with_reducible refine (laws_toBatchS.callsB k A c l x0 _ (Kd.C_below HR.out HS.out.below) HC.out HF.out.c0).mono ?_; rintro e W ⟨v, rfl, hs, hb⟩; obtain ⟨V_rU, q_rU, rfl⟩ := Kd.S_slice hs; replace HS := Aside0.mk (HS.out.pushS hs hb); clear hs hb)
    | (go_at_call 20; with_reducible refine (laws_eqBatchS.calls k _ _ x0 _ _ x0 true _ (kB_C (HS.out.getC 2 rfl)) (HS.out.getL 2 rfl) (kB_C (HS.out.getC 0 rfl)) (HS.out.getL 0 rfl) HF.out.ex).mono ?_; rintro e W ⟨rfl, hb⟩; replace HS := Aside0.mk (HS.out.call hb); clear hb; skip)
    | (go_at_call 21; with_reducible refine (laws_markBatchS.callsA _ _ x0 1 w _ HS.out.below (HS.out.getS 2 rfl) (by omega) (by have := HF.out.bx; omega)).mono ?_; rintro e W ⟨rfl, hs, hb, hk⟩; replace HS := Aside0.mk (HS.out.markS 2 rfl hs hb hk); clear hs hb hk; (try simp only [List.set_cons_zero, List.set_cons_succ] at HS); skip)
    | (go_at_call 20; with_reducible refine (laws_eqBatchS.calls k _ _ g _ _ g true _ (kB_C (HS.out.getC 1 rfl)) (HS.out.getL 1 rfl) (HS.out.getF 3 rfl) HL.out HF.out.eg).mono ?_; rintro e W ⟨rfl, hb⟩; replace HS := Aside0.mk (HS.out.call hb); clear hb; skip)
    | (go_at_call 21; with_reducible refine (laws_markBatchS.callsA _ _ g 1 w _ HS.out.below (HS.out.getS 1 rfl) (by omega) (by have := HF.out.bg; omega)).mono ?_; rintro e W ⟨rfl, hs, hb, hk⟩; replace HS := Aside0.mk (HS.out.markS 1 rfl hs hb hk); clear hs hb hk; (try simp only [List.set_cons_zero, List.set_cons_succ] at HS); skip)
    | (go_at_call 22; with_reducible refine (heldBatchS_A k _ g 1 _ _ _ (HS.out.getS 1 rfl) HF.out.hg).mono ?_; rintro e W ⟨rfl, hb⟩; replace HS := Aside0.mk (HS.out.call hb); clear hb; skip))
  go_wp2_with (first
    | (go_at_call 18; with_reducible refine (laws_toBatchS.callsB k A c l x0 _ (Kd.C_below HR.out HS.out.below) HC.out HF.out.c0).mono ?_; rintro e W ⟨v, rfl, hs, hb⟩; obtain ⟨V_rT, q_rT, rfl⟩ := Kd.S_slice hs; replace HS := Aside0.mk (HS.out.pushS hs hb); clear hs hb)
    | (go_at_call 24; with_reducible refine (impl_LogEven.callsB k _ _ x0 g ok _ (ErrOk.below HE.out HS.out.below) (kB_C (HS.out.getC 0 rfl)) (HS.out.getL 0 rfl) HF.out.ij).mono ?_; rintro e W ⟨v, rfl, hs, hb⟩; obtain ⟨V_rH, q_rH, rfl⟩ := Kd.S_slice hs; replace HS := Aside0.mk (HS.out.pushS hs hb); clear hs hb)
    | (go_at_call 20; with_reducible refine (laws_eqBatchS.calls k _ _ g _ _ g true _ (kB_C (HS.out.getC 0 rfl)) (HS.out.getL 0 rfl) (HS.out.getF 5 rfl) HL.out HF.out.eg).mono ?_; rintro e W ⟨rfl, hb⟩; replace HS := Aside0.mk (HS.out.call hb); clear hb; skip)
    | (go_at_call 22; with_reducible refine (heldBatchS_A k _ g 1 _ _ _ (HS.out.getS 3 rfl) HF.out.hg).mono ?_; rintro e W ⟨rfl, hb⟩; replace HS := Aside0.mk (HS.out.call hb); clear hb; skip))
  go_ret
  exact ⟨rfl, HS.out.below⟩
open Classical in
noncomputable def laws_FnExactLogEven.f (k : Nat) (l : List S24) : Option Bool :=
  if (∃ t, laws_szBatchS.f k l 1048576 = some t ∧ t < 0) ∨ ∃ (t : Int) (x0 g : List S28) (ok : Bool), FactsLE k l t x0 g ok then some true else none
set_option maxRecDepth 1000000 in
set_option maxHeartbeats 4000000 in
theorem laws_FnExactLogEven.calls [ErrA] (k : Nat) (A : Option Addr) (c : Nat) (l : List S24) (r : Bool) (w : World) (hE : ErrOk [0] w) (hr0 : Kd.C k24 w A l.length l) (hc0 : l.length ≤ c) (h : laws_FnExactLogEven.f k l = some r) :
    Calls Tryd.prog 6 #[.slice A l.length c] w fun e w' => e = .returned (.bool r) ∧ Below w.heap.size w w' := by
  unfold laws_FnExactLogEven.f at h
  split at h
  case isFalse => cases h
  case isTrue hx =>
    cases h
    have HS := Aside0.mk (St.nil w)
    rcases hx with ⟨t, s0, t0⟩ | ⟨t, x0, g, ok, h⟩
    · have HR0 := Aside0.mk hr0
      have HF := Aside0.mk s0
      clear hr0 s0 hE
      go_enter Tryd.func6, Tryd.ntmps6
      go_wp2_with (first
        | (go_at_call 16; with_reducible refine (laws_szBatchS.calls k A c l 1048576 t _ (Kd.C_below HR0.out HS.out.below) hc0 HF.out).mono ?_; rintro e W ⟨rfl, hb⟩; replace HS := Aside0.mk (HS.out.call hb); clear hb))
      go_ret
      exact ⟨rfl, HS.out.below⟩
    · exact exLE k A c l t x0 g ok w hE hr0 hc0 h
end Go.Proofs.YtfjkpdhldeopaaaDoor.G

namespace Go.Proofs.YtfjkpdhldeopaaaDoor.Rd
open Go.RowKit Go.Proofs.YtfjkpdhldeopaaaDoorW.PrintWords
set_option linter.unusedVariables false
section
variable {H : Type} {enc : TypeId × Value → H} {P : Program} {w : World} {base : Nat} {spare : Nat → Bool} {held : Bool}
/-- What a reading of type t gives: a value of the kind, and what is known of it. -/
def Opens (enc : TypeId × Value → H) (P : Program) (w : World) (base : Nat) (spare : Nat → Bool) (held : Bool) {α : Type} (t : TypeId) (d : Kd α) (ok : α → Prop) : Prop :=
  P.cellsOf t = d.sz ∧ ∀ fuel cs x, DataW.trod enc P w base spare held fuel t cs = some x → ∃ v, d.K w v cs ∧ ok v
theorem Opens.imp_ {α : Type} {t : TypeId} {d : Kd α} {ok ok' : α → Prop} (h : Opens enc P w base spare held t d ok) (hi : ∀ v, ok v → ok' v) : Opens enc P w base spare held t d ok' :=
  ⟨h.1, fun fuel cs x hx => by
    obtain ⟨v, hk, ho⟩ := h.2 fuel cs x hx
    exact ⟨v, hk, hi v ho⟩⟩
theorem opens_int {t : TypeId} {k : IntKind} (ht : P.underlying t = some (.int k)) (hc : P.cellsOf t = 1) : Opens enc P w base spare held t (Kd.int k) (fun n => (Lit.int k n).wf = true) := by
  refine ⟨hc, fun fuel cs x h => ?_⟩
  obtain ⟨n, rfl, _, hw⟩ := DataW.trod_int ht h
  exact ⟨n, rfl, hw⟩
theorem opens_bool {t : TypeId} (ht : P.underlying t = some .bool) (hc : P.cellsOf t = 1) : Opens enc P w base spare held t Kd.bool (fun _ => True) := by
  refine ⟨hc, fun fuel cs x h => ?_⟩
  obtain ⟨n, rfl, _⟩ := DataW.trod_bool ht h
  exact ⟨n, rfl, trivial⟩
theorem cells_len {base : Nat} {a : Addr} {n : Nat} {cs : List Value} (h : w.cells? base a n = some cs) : cs.length = n ∧ ∀ i u, cs[i]? = some u → w.cell? (a.add i) = some u := by
  unfold World.cells? at h
  split at h
  · rename_i hb
    refine ⟨by simpa using mapM_some_length h, fun i u hu => ?_⟩
    have hi : i < n := by
      have := (List.getElem?_eq_some_iff.1 hu).1
      have h2 : cs.length = n := by simpa using mapM_some_length h
      omega
    have := mapM_some_get h i i (by simp [hi])
    rw [hu] at this
    exact this
  · simp at h
theorem opens_row {α : Type} {t e : TypeId} {d : Kd α} {ok : α → Prop} (ht : P.underlying t = some (.slice e)) (hd : Opens enc P w base spare held e d ok) {fuel : Nat} {cs : List Value} {x : DataW H × List MemPlace}
    (h : DataW.trod enc P w base spare held fuel t cs = some x) : ∃ (A : Option Addr) (c : Nat) (xs : List α), cs = [.slice A xs.length c] ∧ xs.length ≤ c ∧ c ≤ maxLen ∧ d.C w A xs.length xs ∧ ∀ y ∈ xs, ok y := by
  rcases Go.Deep.open_slice ht h with ⟨rfl, _⟩ | ⟨a, len, cap, m, n, D, Pl, rfl, hb, hl, hm, hmm, _, hel⟩
  · exact ⟨none, 0, [], rfl, Nat.le_refl _, by unfold maxLen; omega, ⟨rfl, by simp, fun h0 => absurd h0 (by simp)⟩, by simp⟩
  have hlm : len ≤ m := by rw [hmm]; split <;> omega
  have hx : ∀ i, i < len → ∃ y : α, ok y ∧ ∃ c, c.length = d.sz ∧ d.K w y c ∧ ∀ j u, c[j]? = some u → w.cell? (a.add (i * d.sz + j)) = some u := by
    intro i hi
    obtain ⟨cs', h1, h2⟩ := hel i (by omega)
    obtain ⟨y, hk, ho⟩ := hd.2 _ _ _ h2
    obtain ⟨hl', hc'⟩ := cells_len h1
    refine ⟨y, ho, cs', by rw [hl', hd.1], hk, fun j u hu => ?_⟩
    have := hc' j u hu
    rw [Go.Deep.add_add, hd.1] at this
    exact this
  rcases Nat.eq_zero_or_pos len with h0 | h0
  · subst h0
    exact ⟨some a, cap, [], rfl, Nat.zero_le _, hm, ⟨rfl, by simp, fun h1 => absurd h1 (by simp)⟩, by simp⟩
  obtain ⟨y0, _⟩ := hx 0 h0
  haveI : Inhabited α := ⟨y0⟩
  obtain ⟨g, hg⟩ := Go.Deep.choose_lt hx
  have hlen : ((List.range len).map g).length = len := by simp
  refine ⟨some a, cap, (List.range len).map g, by rw [hlen], by rw [hlen]; exact hl, hm, ⟨rfl, by rw [hlen]; unfold maxLen at hm; omega, fun _ => ⟨a, rfl, fun j p hj => ?_⟩⟩, fun y hy => ?_⟩
  · have hj' : j < len := by
      have := (List.getElem?_eq_some_iff.1 hj).1
      omega
    rw [List.getElem?_map, List.getElem?_range hj'] at hj
    simp at hj
    subst hj
    obtain ⟨_, c, hc1, hc2, hc3⟩ := hg j hj'
    exact ⟨c, hc1, hc2, hc3⟩
  · obtain ⟨i, hi, rfl⟩ := List.mem_map.1 hy
    exact (hg i (List.mem_range.1 hi)).1
theorem opens_slice {α : Type} {t e : TypeId} {d : Kd α} {ok : α → Prop} (ht : P.underlying t = some (.slice e)) (hc : P.cellsOf t = 1) (hd : Opens enc P w base spare held e d ok) :
    Opens enc P w base spare held t (Kd.slice e d) (fun xs => xs.length ≤ maxLen ∧ ∀ y ∈ xs, ok y) := by
  refine ⟨hc, fun fuel cs x h => ?_⟩
  obtain ⟨A, c, xs, rfl, hl, hm, hC, ho⟩ := opens_row ht hd h
  exact ⟨xs, ⟨A, c, rfl, hl, hC⟩, Nat.le_trans hl hm, ho⟩
/-- A struct's fields, one behind the other, from a place of its cells on. -/
def OpensAt (enc : TypeId × Value → H) (P : Program) (w : World) (base : Nat) (spare : Nat → Bool) (held : Bool) {α : Type} (fs : List Field) (off : Nat) (d : Kd α) (ok : α → Prop) : Prop :=
  ∀ n (cs : List Value), cs.length = off + d.sz → (∀ f ∈ fs, ∃ x, DataW.trod enc P w base spare held n f.type ((cs.drop f.offset).take (P.cellsOf f.type)) = some x) → ∃ v, d.K w v (cs.drop off) ∧ ok v
theorem opens_last {α : Type} {f : Field} {off : Nat} {d : Kd α} {ok : α → Prop} (ho : f.offset = off) (hd : Opens enc P w base spare held f.type d ok) : OpensAt enc P w base spare held [f] off d ok := by
  intro n cs hl h
  obtain ⟨x, hx⟩ := h f (by simp)
  obtain ⟨v, hk, hok⟩ := hd.2 _ _ _ hx
  rw [ho, hd.1, List.take_of_length_le (by rw [List.length_drop]; omega)] at hk
  exact ⟨v, hk, hok⟩
theorem opens_more {α β : Type} {f : Field} {fs : List Field} {off : Nat} {d : Kd α} {d' : Kd β} {ok : α → Prop} {ok' : β → Prop} (ho : f.offset = off) (hd : Opens enc P w base spare held f.type d ok) (hr : OpensAt enc P w base spare held fs (off + d.sz) d' ok') :
    OpensAt enc P w base spare held (f :: fs) off (Kd.pair d d') (fun v => ok v.1 ∧ ok' v.2) := by
  intro n cs hl h
  have hl' : cs.length = off + (d.sz + d'.sz) := hl
  obtain ⟨x, hx⟩ := h f (by simp)
  obtain ⟨v, hk, hok⟩ := hd.2 _ _ _ hx
  obtain ⟨v', hk', hok'⟩ := hr n cs (by omega) (fun g hg => h g (by simp [hg]))
  rw [ho, hd.1] at hk
  refine ⟨(v, v'), ⟨_, _, ?_, hk, hk'⟩, hok, hok'⟩
  rw [← List.drop_drop, List.take_append_drop]
theorem opens_struct {α β : Type} {t : TypeId} {fs : Array Field} {d : Kd α} {f : β → α} {g : α → β} {ok : α → Prop} (ht : P.underlying t = some (.struct fs)) (hc : P.cellsOf t = d.sz) (hfg : ∀ a, f (g a) = a) (h : OpensAt enc P w base spare held fs.toList 0 d ok) :
    Opens enc P w base spare held t (Kd.iso d f) (fun v => ok (f v)) := by
  refine ⟨hc, fun fuel cs x hx => ?_⟩
  obtain ⟨xs, n, _, _, hl, hxs, hf⟩ := DataW.trod_struct ht hx
  obtain ⟨v, hk, hok⟩ := h n cs (by rw [hl, hc]; omega) (fun fl hfl => by
    obtain ⟨i, hi, rfl⟩ := List.getElem_of_mem hfl
    have hi' : i < fs.size := by simpa using hi
    refine ⟨xs[i]'(by omega), ?_⟩
    have := hf i fs[i] (by simp [hi'])
    rw [List.getElem?_eq_getElem (by omega)] at this
    simpa using this)
  refine ⟨g v, ?_, by show ok (f (g v)); rw [hfg]; exact hok⟩
  show d.K w (f (g v)) cs
  rw [hfg]
  simpa using hk
end
end Go.Proofs.YtfjkpdhldeopaaaDoor.Rd

namespace Go.Proofs.YtfjkpdhldeopaaaDoor.OFnExactLogEven
open Go.RowKit Go.Proofs.YtfjkpdhldeopaaaDoorW.PrintWords Go.Proofs.YtfjkpdhldeopaaaDoor.G
set_option linter.unusedVariables false
def Ok71 (x : S71) : Prop := ((Lit.int .i64 x.f0).wf = true) ∧ ((Lit.int .i64 x.f1).wf = true) ∧ (True) ∧ (x.f3.length ≤ maxLen ∧ ∀ y ∈ x.f3, (Lit.int .i64 y).wf = true) ∧ (True) ∧ (x.f5.length ≤ maxLen ∧ ∀ y ∈ x.f5, (Lit.int .i64 y).wf = true)
theorem open71 {H : Type} {enc : TypeId × Value → H} {w : World} {base : Nat} {spare : Nat → Bool} {held : Bool} : Rd.Opens enc Tryd.prog w base spare held 71 k71 Ok71 :=
  Rd.Opens.imp_ (Rd.opens_struct (g := fun p => (⟨p.1, p.2.1, p.2.2.1, p.2.2.2.1, p.2.2.2.2.1, p.2.2.2.2.2⟩ : S71)) Tryd.underlying71 (by kernel_rfl) (fun _ => rfl) (Rd.opens_more rfl (Rd.opens_int Tryd.underlying3 (by kernel_rfl)) (Rd.opens_more rfl (Rd.opens_int Tryd.underlying3 (by kernel_rfl)) (Rd.opens_more rfl (Rd.opens_bool Tryd.underlying4 (by kernel_rfl)) (Rd.opens_more rfl (Rd.opens_slice Tryd.underlying60 (by kernel_rfl) (Rd.opens_int Tryd.underlying3 (by kernel_rfl))) (Rd.opens_more rfl (Rd.opens_bool Tryd.underlying4 (by kernel_rfl)) (Rd.opens_last rfl (Rd.opens_slice Tryd.underlying60 (by kernel_rfl) (Rd.opens_int Tryd.underlying3 (by kernel_rfl)))))))))) (fun _ h => h)
def Ok24 (x : S24) : Prop := (True) ∧ (True) ∧ ((Lit.int .i64 x.f2).wf = true) ∧ ((Lit.int .i64 x.f3).wf = true) ∧ ((Lit.int .i64 x.f4).wf = true) ∧ (x.f5.length ≤ maxLen ∧ ∀ y ∈ x.f5, Ok71 y)
theorem open24 {H : Type} {enc : TypeId × Value → H} {w : World} {base : Nat} {spare : Nat → Bool} {held : Bool} : Rd.Opens enc Tryd.prog w base spare held 24 k24 Ok24 :=
  Rd.Opens.imp_ (Rd.opens_struct (g := fun p => (⟨p.1, p.2.1, p.2.2.1, p.2.2.2.1, p.2.2.2.2.1, p.2.2.2.2.2⟩ : S24)) Tryd.underlying24 (by kernel_rfl) (fun _ => rfl) (Rd.opens_more rfl (Rd.opens_bool Tryd.underlying4 (by kernel_rfl)) (Rd.opens_more rfl (Rd.opens_bool Tryd.underlying4 (by kernel_rfl)) (Rd.opens_more rfl (Rd.opens_int Tryd.underlying3 (by kernel_rfl)) (Rd.opens_more rfl (Rd.opens_int Tryd.underlying3 (by kernel_rfl)) (Rd.opens_more rfl (Rd.opens_int Tryd.underlying3 (by kernel_rfl)) (Rd.opens_last rfl (Rd.opens_slice Tryd.underlying22 (by kernel_rfl) open71)))))))) (fun _ h => h)
def Pure : Prop := ∀ (l0 : List (S24)), l0.length ≤ maxLen → (∀ y ∈ l0, Ok24 y) → ∃ k, laws_FnExactLogEven.f k l0 = some true
end Go.Proofs.YtfjkpdhldeopaaaDoor.OFnExactLogEven

namespace Go.Proofs.YtfjkpdhldeopaaaDoor.Pu
open Go.RowKit Go.Proofs.YtfjkpdhldeopaaaDoorW.PrintWords Go.Proofs.YtfjkpdhldeopaaaDoorW.PrintLast Go.Proofs.YtfjkpdhldeopaaaDoor.G
set_option linter.unusedVariables false
set_option linter.unusedSimpArgs false
theorem mkRow_rd (a : Int) (l : List S62) (i : Nat) (h : i < l.length) : rd_T62 (mkRow a l) (i : Int) = mkRec (a + (totR (l.take i) : Int)) l[i] := by
  rw [rdR_nat _ _ (by rw [mkRow_len]; exact h)]
  have e : mkRow a l = mkRow a (l.take i) ++ mkRow (a + (totR (l.take i) : Int)) (l.drop i) := by rw [← mkRow_append, List.take_append_drop]
  have hl : (mkRow a (l.take i)).length = i := by rw [mkRow_len, List.length_take]; omega
  have : (mkRow a l)[i]? = some (mkRec (a + (totR (l.take i) : Int)) l[i]) := by
    rw [e, List.getElem?_append_right (by omega), hl, Nat.sub_self, List.drop_eq_getElem_cons h]
    simp [mkRow]
  exact (List.getElem?_eq_some_iff.1 this).2
theorem heldR_loop (a : Int) (l : List S62) (hl : l.length ≤ 9223372036854775806) (h0 : 0 ≤ a) (h1 : a + (totR l : Int) ≤ 4000000000000000000) : ∀ d i, l.length - i = d → i ≤ l.length → Ev (fun k => laws_heldRecordS.l0 k (mkRow a l) (a + (totR (l.take i) : Int)) (i : Int)) (a + (totR l : Int)) := by
  intro d
  induction d with
  | zero =>
    intro i hd hi
    obtain rfl : i = l.length := by omega
    refine Ev.step (fun k => by rw [laws_heldRecordS.l0]) ?_
    rw [mkRow_len, List.take_length]
    simp only [if_neg (show ¬ ((l.length : Int) < (l.length : Int)) by omega)]
    exact Ev.now _
  | succ d ih =>
    intro i hd hi
    have hlt : i < l.length := by omega
    refine Ev.step (fun k => by rw [laws_heldRecordS.l0]) ?_
    rw [mkRow_len]
    have hrd := mkRow_rd a l i hlt
    have hnx := totR_take hlt
    have hle := cntR_le hlt
    have ih' := ih (i + 1) (by omega) (by omega)
    rw [hnx] at ih'
    have hb0 : 0 ≤ a + (totR (l.take i) : Int) := by omega
    have hb1 : a + (totR (l.take i) : Int) + (cntR l[i] : Int) ≤ 4000000000000000000 := by omega
    rw [show a + ((totR (l.take i) + cntR l[i] : Nat) : Int) = a + (totR (l.take i) : Int) + (cntR l[i] : Int) by omega] at ih'
    clear hnx hle
    generalize a + (totR (l.take i) : Int) = x1 at *
    rw [hrd]
    generalize l[i] = x at *
    have hc : (cntR x : Int) = 4 + x.f3.length + x.f5.length := by simp [cntR]
    have q7 : (i : Int) < (l.length : Int) := by clear ih ih' hrd; omega
    have q8 : (0 : Int) ≤ (i : Int) := by clear ih ih' hrd; omega
    have q9 : ¬ (x1 + 3 + (x.f3.length : Int) < 0) := by clear ih ih' hrd; omega
    have q10 : ¬ (x1 + 4 + (x.f3.length : Int) + (x.f5.length : Int) < 0) := by clear ih ih' hrd; omega
    have q11 : x1 + 4 + (x.f3.length : Int) + (x.f5.length : Int) = x1 + (cntR x : Int) := by clear ih ih' hrd; omega
    have q1 : x.f3.length ≤ 4000000000000000000 := by clear ih ih' hrd; omega
    have q2 : x.f5.length ≤ 4000000000000000000 := by clear ih ih' hrd; omega
    have q3 : 0 ≤ x1 + 3 := by clear ih ih' hrd; omega
    have q4 : x1 + 3 ≤ 4000000000000000000 := by clear ih ih' hrd; omega
    have q5 : 0 ≤ x1 + 4 + (x.f3.length : Int) := by clear ih ih' hrd; omega
    have q6 : x1 + 4 + (x.f3.length : Int) ≤ 4000000000000000000 := by clear ih ih' hrd; omega
    have wA : wrap64 (x1 + 1) = x1 + 1 := w64 (a := x1 + 1) (by omega) (by omega)
    have wB : wrap64 (x1 + 1 + 1) = x1 + 2 := by rw [w64 (a := x1 + 1 + 1) (by omega) (by omega)]; omega
    have wC : wrap64 (x1 + 2 + 1) = x1 + 3 := by rw [w64 (a := x1 + 2 + 1) (by omega) (by omega)]; omega
    have wD : wrap64 (x1 + 3 + (x.f3.length : Int) + 1) = x1 + 4 + x.f3.length := by rw [w64 (a := x1 + 3 + (x.f3.length : Int) + 1) (by omega) (by omega)]; omega
    have wE : wrap64 ((i : Int) + 1) = (i : Int) + 1 := w64 (a := (i : Int) + 1) (by omega) (by omega)
    simp only [if_pos q7, if_pos q8, mkRec, if_true, wA, wB, wC, bne_self_eq_false, Bool.false_eq_true, if_false]
    refine Ev.bind (heldIntS_ev (x1 + 3) x.f3.length q1 q3 q4) ?_
    simp only [if_neg q9, bne_self_eq_false, Bool.false_eq_true, if_false, wD]
    refine Ev.bind (heldIntS_ev (x1 + 4 + x.f3.length) x.f5.length q2 q5 q6) ?_
    simp only [if_neg q10, wE]
    rw [q11]
    exact ih'
theorem heldRecordS_ev (a : Int) (l : List S62) (hl : l.length ≤ 9223372036854775806) (h0 : 0 ≤ a) (h1 : a + (totR l : Int) ≤ 4000000000000000000) : Ev (fun k => laws_heldRecordS.f k (mkRow a l) a) (a + (totR l : Int)) := by
  unfold laws_heldRecordS.f
  have := heldR_loop a l hl h0 h1 l.length 0 (by omega) (by omega)
  simpa [totR] using this
theorem totR_small : ∀ (l : List S62), (∀ r ∈ l, r.f3.length ≤ 1048576 ∧ r.f5.length ≤ 1048576) → totR l ≤ l.length * 2097156
  | [], _ => by simp [totR]
  | x :: l, h => by
    have h1 := h x List.mem_cons_self
    have h2 := totR_small l (fun r hr => h r (List.mem_cons_of_mem _ hr))
    simp only [totR, cntR, List.length_cons, Nat.add_mul]
    omega
end Go.Proofs.YtfjkpdhldeopaaaDoor.Pu

namespace Go.Proofs.YtfjkpdhldeopaaaDoor.Pu
open Go.RowKit Go.Proofs.YtfjkpdhldeopaaaDoorW.PrintWords Go.Proofs.YtfjkpdhldeopaaaDoorW.PrintLast Go.Proofs.YtfjkpdhldeopaaaDoor.G
set_option linter.unusedVariables false
set_option linter.unusedSimpArgs false
def cvR (r : S71) : S62 := ⟨r.f0, r.f1, r.f2, r.f3, r.f4, r.f5⟩
theorem rdLR_nat (l : List S71) (i : Nat) (h : i < l.length) : rd_T71 l (i : Int) = l[i] := by
  unfold rd_T71
  simp [h]
theorem szIntS_some (l : List Int) (a : Int) (hl : l.length ≤ 9223372036854775807) (h0 : 0 ≤ a) (h1 : a ≤ 1048576) :
    laws_szIntS.f l a = some (if a - (l.length : Int) < 0 then -1 else a - (l.length : Int)) := by
  unfold laws_szIntS.f
  rw [w64 (a := a - (l.length : Int)) (by omega) (by omega)]
  split <;> rfl
/-- What a row of sizes tells: it is too much, or something is left and all is small. -/
def SzR (r : S71) : Prop := r.f3.length ≤ 1048576 ∧ r.f5.length ≤ 1048576
theorem szRecord_some (r : S71) (a : Int) (hl : r.f3.length ≤ 9223372036854775807 ∧ r.f5.length ≤ 9223372036854775807) (h0 : 0 ≤ a) (h1 : a ≤ 1048576) :
    ∃ t, laws_szRecord.f r.f0 r.f1 r.f2 r.f3 r.f4 r.f5 a = some t ∧ (t < 0 ∨ (0 ≤ t ∧ t ≤ a ∧ SzR r)) := by
  unfold laws_szRecord.f
  rw [szIntS_some _ _ hl.1 h0 h1, bindS]
  by_cases h : a - (r.f3.length : Int) < 0
  · rw [if_pos h, if_pos (by omega)]
    exact ⟨_, rfl, .inl (by omega)⟩
  · rw [if_neg h, if_neg h, szIntS_some _ _ hl.2 (by omega) (by omega), bindS]
    by_cases h2 : a - (r.f3.length : Int) - (r.f5.length : Int) < 0
    · rw [if_pos h2, if_pos (by omega)]
      exact ⟨_, rfl, .inl (by omega)⟩
    · rw [if_neg h2, if_neg h2]
      exact ⟨_, rfl, .inr ⟨by omega, by omega, by omega, by omega⟩⟩
theorem szRecordS_loop (l : List S71) (hl : l.length ≤ 9223372036854775807) (hs : ∀ r ∈ l, r.f3.length ≤ 9223372036854775807 ∧ r.f5.length ≤ 9223372036854775807) : ∀ d i (a : Int), l.length - i = d → 0 ≤ a → a ≤ 1048576 →
    EndsIn (fun k => laws_szRecordS.l0 k l a (i : Int)) (fun t => t < 0 ∨ (0 ≤ t ∧ t ≤ a ∧ ∀ r ∈ l.drop i, SzR r)) := by
  intro d
  induction d with
  | zero =>
    intro i a hi h0 h1
    refine EndsIn.step (fun k => by rw [laws_szRecordS.l0]) ?_
    simp only [if_neg (show ¬ ((i : Int) < (l.length : Int)) by omega)]
    refine EndsIn.now _ (.inr ⟨h0, by omega, ?_⟩)
    rw [List.drop_of_length_le (by omega)]
    simp
  | succ d ih =>
    intro i a hi h0 h1
    have hlt : i < l.length := by omega
    refine EndsIn.step (fun k => by rw [laws_szRecordS.l0]) ?_
    obtain ⟨t, ht, hc⟩ := szRecord_some l[i] a (hs _ (List.getElem_mem hlt)) h0 h1
    simp only [if_pos (show ((i : Int) < (l.length : Int)) by omega), if_pos (show (0 : Int) ≤ (i : Int) by omega), rdLR_nat l i hlt, ht, bindS, w64 (a := (i : Int) + 1) (by omega) (by omega)]
    rcases hc with h | ⟨h2, h3, h4⟩
    · simp only [if_pos h]
      exact EndsIn.now _ (.inl (by omega))
    · simp only [if_neg (show ¬ t < 0 by omega)]
      refine (ih (i + 1) t (by omega) h2 (by omega)).mono fun q hq => ?_
      rcases hq with hq | ⟨q0, q1, q2⟩
      · exact .inl hq
      · refine .inr ⟨q0, by omega, ?_⟩
        rw [List.drop_eq_getElem_cons hlt]
        intro g hg
        rcases List.mem_cons.1 hg with rfl | hg
        · exact h4
        · exact q2 g hg
theorem szRecordS_ends (l : List S71) (hl : l.length ≤ 9223372036854775807) (hs : ∀ r ∈ l, r.f3.length ≤ 9223372036854775807 ∧ r.f5.length ≤ 9223372036854775807) (a : Int) (h0 : 0 ≤ a) (h1 : a ≤ 1048576) :
    EndsIn (fun k => laws_szRecordS.f k l a) (fun t => t < 0 ∨ (0 ≤ t ∧ t ≤ a ∧ l.length ≤ 1048576 ∧ ∀ r ∈ l, SzR r)) := by
  unfold laws_szRecordS.f
  rw [w64 (a := a - (l.length : Int)) (by omega) (by omega)]
  by_cases h : a - (l.length : Int) < 0
  · simp only [if_pos h]
    exact EndsIn.now _ (.inl (by omega))
  · simp only [if_neg h]
    refine (szRecordS_loop l hl hs l.length 0 _ (by omega) (by omega) (by omega)).mono fun r hr => ?_
    rcases hr with hr | ⟨q0, q1, q2⟩
    · exact .inl hr
    · exact .inr ⟨q0, by omega, by omega, by simpa using q2⟩
theorem toIntS_loop (l : List Int) (hl : l.length ≤ 1048576) : ∀ d i, l.length - i = d → i ≤ l.length →
    Ev (fun k => laws_toIntS.l0 k l ((l.take i).map (fun x => x) ++ List.replicate (l.length - i) 0) (i : Int)) l := by
  intro d
  induction d with
  | zero =>
    intro i hi hle
    obtain rfl : i = l.length := by omega
    refine Ev.step (fun k => by rw [laws_toIntS.l0]) ?_
    simp only [if_neg (show ¬ ((l.length : Int) < (l.length : Int)) by omega), List.take_length, Nat.sub_self, List.replicate_zero, List.append_nil, List.map_id']
    exact Ev.now _
  | succ d ih =>
    intro i hi hle
    have hlt : i < l.length := by omega
    refine Ev.step (fun k => by rw [laws_toIntS.l0]) ?_
    simp only [if_pos (show ((i : Int) < (l.length : Int)) by omega), if_pos (show (0 : Int) ≤ (i : Int) by omega), rdi_nat l i hlt, fill_len (fun x : Int => x) 0 l i hle, w64 (a := (i : Int) + 1) (by omega) (by omega), Int.toNat_natCast]
    have := ih (i + 1) (by omega) (by omega)
    rw [← fill_set (fun x : Int => x) 0 l i hlt] at this
    exact this
theorem toIntS_ev (l : List Int) (hl : l.length ≤ 1048576) : Ev (fun k => laws_toIntS.f k l) l := by
  unfold laws_toIntS.f
  simp only [if_pos (show (0 : Int) ≤ (l.length : Int) by omega), Int.toNat_natCast, if_pos (show l.length ≤ 35184372088832 by omega)]
  have := toIntS_loop l hl l.length 0 (by omega) (by omega)
  simpa using this
theorem toRecord_ev (r : S71) (h : SzR r) : Ev (fun k => laws_toRecord.f k r.f0 r.f1 r.f2 r.f3 r.f4 r.f5) (r.f0, r.f1, r.f2, r.f3, r.f4, r.f5) := by
  unfold laws_toRecord.f
  exact Ev.bind (toIntS_ev _ h.1) (Ev.bind (toIntS_ev _ h.2) (Ev.now _))
theorem toRecordS_loop (l : List S71) (hl : l.length ≤ 1048576) (hs : ∀ r ∈ l, SzR r) : ∀ d i, l.length - i = d → i ≤ l.length →
    Ev (fun k => laws_toRecordS.l0 k l ((l.take i).map cvR ++ List.replicate (l.length - i) z62) (i : Int)) (l.map cvR) := by
  intro d
  induction d with
  | zero =>
    intro i hi hle
    obtain rfl : i = l.length := by omega
    refine Ev.step (fun k => by rw [laws_toRecordS.l0]) ?_
    simp only [if_neg (show ¬ ((l.length : Int) < (l.length : Int)) by omega), List.take_length, Nat.sub_self, List.replicate_zero, List.append_nil]
    exact Ev.now _
  | succ d ih =>
    intro i hi hle
    have hlt : i < l.length := by omega
    refine Ev.step (fun k => by rw [laws_toRecordS.l0]) ?_
    simp only [if_pos (show ((i : Int) < (l.length : Int)) by omega), if_pos (show (0 : Int) ≤ (i : Int) by omega), rdLR_nat l i hlt, fill_len cvR z62 l i hle, w64 (a := (i : Int) + 1) (by omega) (by omega), Int.toNat_natCast]
    refine Ev.bind (toRecord_ev l[i] (hs _ (List.getElem_mem _))) ?_
    have := ih (i + 1) (by omega) (by omega)
    rw [← fill_set cvR z62 l i hlt] at this
    exact this
theorem toRecordS_ev (l : List S71) (hl : l.length ≤ 1048576) (hs : ∀ r ∈ l, SzR r) : Ev (fun k => laws_toRecordS.f k l) (l.map cvR) := by
  unfold laws_toRecordS.f
  simp only [if_pos (show (0 : Int) ≤ (l.length : Int) by omega), Int.toNat_natCast, if_pos (show l.length ≤ 3518437208883 by omega)]
  have := toRecordS_loop l hl hs l.length 0 (by omega) (by omega)
  simpa using this
theorem all_true {α} (l : List α) : l.all (fun _ => true) = true := List.all_eq_true.2 (fun _ _ => rfl)
theorem eqIntS_ev (l : List Int) (hl : l.length ≤ 9223372036854775807) : Ev (fun k => laws_eqIntS.f k l l) true := by
  unfold laws_eqIntS.f
  simp only [if_true]
  have := ev_all l hl (fun k i => laws_eqIntS.l0 k l l i) (fun k i => some true) (fun _ => true) true
    (fun k => by simp only [laws_eqIntS.l0]; rw [if_neg (by omega)])
    (fun k i h => by simp only [laws_eqIntS.l0]; rw [if_pos (by omega), if_pos (by omega), if_pos (by omega), if_true]; rfl)
    (fun i h => Ev.now _) l.length 0 (by omega) (by omega)
  rw [all_true] at this
  simpa using this
theorem eqRecord_ev (r : S62) (h : Lens r) : Ev (fun k => laws_eqRecord.f k r.f0 r.f1 r.f2 r.f3 r.f4 r.f5 r.f0 r.f1 r.f2 r.f3 r.f4 r.f5) true := by
  unfold laws_eqRecord.f
  simp only [if_true, bne_self_eq_false, Bool.false_eq_true, if_false]
  refine Ev.bind (eqIntS_ev _ h.1) ?_
  simp only [if_true]
  exact Ev.bind (eqIntS_ev _ h.2) (Ev.now _)
theorem eqRecordS_ev (l : List S62) (hl : l.length ≤ 9223372036854775807) (hs : ∀ r ∈ l, Lens r) : Ev (fun k => laws_eqRecordS.f k l l) true := by
  unfold laws_eqRecordS.f
  simp only [if_true]
  have := ev_all l hl (fun k i => laws_eqRecordS.l0 k l l i) (fun k i => laws_eqRecord.f k (rd_T62 l i).f0 (rd_T62 l i).f1 (rd_T62 l i).f2 (rd_T62 l i).f3 (rd_T62 l i).f4 (rd_T62 l i).f5 (rd_T62 l i).f0 (rd_T62 l i).f1 (rd_T62 l i).f2 (rd_T62 l i).f3 (rd_T62 l i).f4 (rd_T62 l i).f5) (fun _ => true) true
    (fun k => by simp only [laws_eqRecordS.l0]; rw [if_neg (by omega)])
    (fun k i h => by simp only [laws_eqRecordS.l0]; rw [if_pos (by omega), if_pos (by omega), if_pos (by omega)])
    (fun i h => by rw [rdR_nat l i h]; exact eqRecord_ev _ (hs _ (List.getElem_mem _))) l.length 0 (by omega) (by omega)
  rw [all_true] at this
  simpa using this
end Go.Proofs.YtfjkpdhldeopaaaDoor.Pu

namespace Go.Proofs.YtfjkpdhldeopaaaDoor.Pu
open Go.RowKit Go.Proofs.YtfjkpdhldeopaaaDoorW.PrintWords Go.Proofs.YtfjkpdhldeopaaaDoorW.PrintLast Go.Proofs.YtfjkpdhldeopaaaDoor.G
set_option linter.unusedVariables false
set_option linter.unusedSimpArgs false
def cvB (b : S24) : S28 := ⟨b.f0, b.f1, b.f2, b.f3, b.f4, b.f5.map cvR⟩
theorem rdLB_nat (l : List S24) (i : Nat) (h : i < l.length) : rd_T24 l (i : Int) = l[i] := by
  unfold rd_T24
  simp [h]
def SzB (b : S24) : Prop := b.f5.length ≤ 1048576 ∧ ∀ r ∈ b.f5, SzR r
/-- Parts whose lengths can be told. -/
def LenB (b : S24) : Prop := b.f5.length ≤ 9223372036854775807 ∧ ∀ r ∈ b.f5, r.f3.length ≤ 9223372036854775807 ∧ r.f5.length ≤ 9223372036854775807
theorem szBatch_ends (b : S24) (hs : LenB b) (a : Int) (h0 : 0 ≤ a) (h1 : a ≤ 1048576) :
    EndsIn (fun k => laws_szBatch.f k b.f0 b.f1 b.f2 b.f3 b.f4 b.f5 a) (fun t => t < 0 ∨ (0 ≤ t ∧ t ≤ a ∧ SzB b)) := by
  unfold laws_szBatch.f
  refine EndsIn.bind (szRecordS_ends b.f5 hs.1 hs.2 a h0 h1) fun t ht => ?_
  by_cases h : t < 0
  · simp only [if_pos h]
    exact EndsIn.now _ (.inl (by omega))
  · simp only [if_neg h]
    obtain ⟨t0, t1, n, z⟩ := ht.resolve_left h
    exact EndsIn.now _ (.inr ⟨t0, t1, n, z⟩)
theorem szBatchS_loop (l : List S24) (hl : l.length ≤ 9223372036854775807) (hs : ∀ b ∈ l, LenB b) : ∀ d i (a : Int), l.length - i = d → 0 ≤ a → a ≤ 1048576 →
    EndsIn (fun k => laws_szBatchS.l0 k l a (i : Int)) (fun t => t < 0 ∨ (0 ≤ t ∧ t ≤ a ∧ ∀ r ∈ l.drop i, SzB r)) := by
  intro d
  induction d with
  | zero =>
    intro i a hi h0 h1
    refine EndsIn.step (fun k => by rw [laws_szBatchS.l0]) ?_
    simp only [if_neg (show ¬ ((i : Int) < (l.length : Int)) by omega)]
    refine EndsIn.now _ (.inr ⟨h0, by omega, ?_⟩)
    rw [List.drop_of_length_le (by omega)]
    simp
  | succ d ih =>
    intro i a hi h0 h1
    have hlt : i < l.length := by omega
    refine EndsIn.step (fun k => by rw [laws_szBatchS.l0]) ?_
    simp only [if_pos (show ((i : Int) < (l.length : Int)) by omega), if_pos (show (0 : Int) ≤ (i : Int) by omega), rdLB_nat l i hlt, w64 (a := (i : Int) + 1) (by omega) (by omega)]
    refine EndsIn.bind (szBatch_ends l[i] (hs _ (List.getElem_mem hlt)) a h0 h1) fun t hc => ?_
    by_cases h : t < 0
    · simp only [if_pos h]
      exact EndsIn.now _ (.inl (by omega))
    · obtain ⟨h2, h3, h4⟩ := hc.resolve_left h
      simp only [if_neg h]
      refine (ih (i + 1) t (by omega) h2 (by omega)).mono fun q hq => ?_
      rcases hq with hq | ⟨q0, q1, q2⟩
      · exact .inl hq
      · refine .inr ⟨q0, by omega, ?_⟩
        rw [List.drop_eq_getElem_cons hlt]
        intro g hg
        rcases List.mem_cons.1 hg with rfl | hg
        · exact h4
        · exact q2 g hg
theorem szBatchS_ends (l : List S24) (hl : l.length ≤ 9223372036854775807) (hs : ∀ b ∈ l, LenB b) (a : Int) (h0 : 0 ≤ a) (h1 : a ≤ 1048576) :
    EndsIn (fun k => laws_szBatchS.f k l a) (fun t => t < 0 ∨ (0 ≤ t ∧ t ≤ a ∧ l.length ≤ 1048576 ∧ ∀ r ∈ l, SzB r)) := by
  unfold laws_szBatchS.f
  rw [w64 (a := a - (l.length : Int)) (by omega) (by omega)]
  by_cases h : a - (l.length : Int) < 0
  · simp only [if_pos h]
    exact EndsIn.now _ (.inl (by omega))
  · simp only [if_neg h]
    refine (szBatchS_loop l hl hs l.length 0 _ (by omega) (by omega) (by omega)).mono fun r hr => ?_
    rcases hr with hr | ⟨q0, q1, q2⟩
    · exact .inl hr
    · exact .inr ⟨q0, by omega, by omega, by simpa using q2⟩
theorem toBatch_ev (b : S24) (h : SzB b) : Ev (fun k => laws_toBatch.f k b.f0 b.f1 b.f2 b.f3 b.f4 b.f5) (b.f0, b.f1, b.f2, b.f3, b.f4, b.f5.map cvR) := by
  unfold laws_toBatch.f
  exact Ev.bind (toRecordS_ev _ h.1 h.2) (Ev.now _)
theorem toBatchS_loop (l : List S24) (hl : l.length ≤ 1048576) (hs : ∀ r ∈ l, SzB r) : ∀ d i, l.length - i = d → i ≤ l.length →
    Ev (fun k => laws_toBatchS.l0 k l ((l.take i).map cvB ++ List.replicate (l.length - i) z28) (i : Int)) (l.map cvB) := by
  intro d
  induction d with
  | zero =>
    intro i hi hle
    obtain rfl : i = l.length := by omega
    refine Ev.step (fun k => by rw [laws_toBatchS.l0]) ?_
    simp only [if_neg (show ¬ ((l.length : Int) < (l.length : Int)) by omega), List.take_length, Nat.sub_self, List.replicate_zero, List.append_nil]
    exact Ev.now _
  | succ d ih =>
    intro i hi hle
    have hlt : i < l.length := by omega
    refine Ev.step (fun k => by rw [laws_toBatchS.l0]) ?_
    simp only [if_pos (show ((i : Int) < (l.length : Int)) by omega), if_pos (show (0 : Int) ≤ (i : Int) by omega), rdLB_nat l i hlt, fill_len cvB z28 l i hle, w64 (a := (i : Int) + 1) (by omega) (by omega), Int.toNat_natCast]
    refine Ev.bind (toBatch_ev l[i] (hs _ (List.getElem_mem _))) ?_
    have := ih (i + 1) (by omega) (by omega)
    rw [← fill_set cvB z28 l i hlt] at this
    exact this
theorem toBatchS_ev (l : List S24) (hl : l.length ≤ 1048576) (hs : ∀ r ∈ l, SzB r) : Ev (fun k => laws_toBatchS.f k l) (l.map cvB) := by
  unfold laws_toBatchS.f
  simp only [if_pos (show (0 : Int) ≤ (l.length : Int) by omega), Int.toNat_natCast, if_pos (show l.length ≤ 5026338869833 by omega)]
  have := toBatchS_loop l hl hs l.length 0 (by omega) (by omega)
  simpa using this
theorem eqBatch_ev (b : S28) (h : RowR b.f5) : Ev (fun k => laws_eqBatch.f k b.f0 b.f1 b.f2 b.f3 b.f4 b.f5 b.f0 b.f1 b.f2 b.f3 b.f4 b.f5) true := by
  unfold laws_eqBatch.f
  simp only [if_true, bne_self_eq_false, Bool.false_eq_true, if_false]
  refine Ev.bind (eqRecordS_ev _ h.1 h.2) ?_
  simp only [if_true]
  exact Ev.now _
theorem eqBatchS_ev (l : List S28) (hb : RowB l) : Ev (fun k => laws_eqBatchS.f k l l) true := by
  have hl := hb.1
  unfold laws_eqBatchS.f
  simp only [if_true]
  have := ev_all l hl (fun k i => laws_eqBatchS.l0 k l l i) (fun k i => laws_eqBatch.f k (rd_T28 l i).f0 (rd_T28 l i).f1 (rd_T28 l i).f2 (rd_T28 l i).f3 (rd_T28 l i).f4 (rd_T28 l i).f5 (rd_T28 l i).f0 (rd_T28 l i).f1 (rd_T28 l i).f2 (rd_T28 l i).f3 (rd_T28 l i).f4 (rd_T28 l i).f5) (fun _ => true) true
    (fun k => by simp only [laws_eqBatchS.l0]; rw [if_neg (by omega)])
    (fun k i h => by simp only [laws_eqBatchS.l0]; rw [if_pos (by omega), if_pos (by omega), if_pos (by omega)])
    (fun i h => by rw [rdB_nat l i h]; exact eqBatch_ev _ (hb.2 _ (List.getElem_mem _))) l.length 0 (by omega) (by omega)
  rw [all_true] at this
  simpa using this
end Go.Proofs.YtfjkpdhldeopaaaDoor.Pu

namespace Go.Proofs.YtfjkpdhldeopaaaDoor.Pu
open Go.RowKit Go.Proofs.YtfjkpdhldeopaaaDoorW.PrintWords Go.Proofs.YtfjkpdhldeopaaaDoorW.PrintLast Go.Proofs.YtfjkpdhldeopaaaDoor.G
set_option linter.unusedVariables false
set_option linter.unusedSimpArgs false
theorem mkBats_rd (a : Int) (l : List S28) (i : Nat) (h : i < l.length) : rd_T28 (mkBats a l) (i : Int) = mkBat (a + (totB (l.take i) : Int)) l[i] := by
  rw [rdB_nat _ _ (by rw [mkBats_len]; exact h)]
  have e : mkBats a l = mkBats a (l.take i) ++ mkBats (a + (totB (l.take i) : Int)) (l.drop i) := by rw [← mkBats_append, List.take_append_drop]
  have hl : (mkBats a (l.take i)).length = i := by rw [mkBats_len, List.length_take]; omega
  have : (mkBats a l)[i]? = some (mkBat (a + (totB (l.take i) : Int)) l[i]) := by
    rw [e, List.getElem?_append_right (by omega), hl, Nat.sub_self, List.drop_eq_getElem_cons h]
    simp [mkBats]
  exact (List.getElem?_eq_some_iff.1 this).2
/-- Batches of bounded size. -/
def QB (b : S28) : Prop := b.f5.length ≤ 1048576 ∧ ∀ r ∈ b.f5, r.f3.length ≤ 1048576 ∧ r.f5.length ≤ 1048576
theorem heldB_loop (a : Int) (l : List S28) (hq : ∀ b ∈ l, QB b) (hl : l.length ≤ 9223372036854775806) (h0 : 0 ≤ a) (h1 : a + (totB l : Int) ≤ 3000000000000000000) : ∀ d i, l.length - i = d → i ≤ l.length → Ev (fun k => laws_heldBatchS.l0 k (mkBats a l) (a + (totB (l.take i) : Int)) (i : Int)) (a + (totB l : Int)) := by
  intro d
  induction d with
  | zero =>
    intro i hd hi
    obtain rfl : i = l.length := by omega
    refine Ev.step (fun k => by rw [laws_heldBatchS.l0]) ?_
    rw [mkBats_len, List.take_length]
    simp only [if_neg (show ¬ ((l.length : Int) < (l.length : Int)) by omega)]
    exact Ev.now _
  | succ d ih =>
    intro i hd hi
    have hlt : i < l.length := by omega
    refine Ev.step (fun k => by rw [laws_heldBatchS.l0]) ?_
    rw [mkBats_len]
    have hrd := mkBats_rd a l i hlt
    have hnx := totB_take hlt
    have hle := cntB_le hlt
    have hqi := hq l[i] (List.getElem_mem _)
    have ih' := ih (i + 1) (by omega) (by omega)
    rw [hnx] at ih'
    have hb0 : 0 ≤ a + (totB (l.take i) : Int) := by omega
    have hb1 : a + (totB (l.take i) : Int) + (cntB l[i] : Int) ≤ 3000000000000000000 := by omega
    rw [show a + ((totB (l.take i) + cntB l[i] : Nat) : Int) = a + (totB (l.take i) : Int) + (cntB l[i] : Int) by omega] at ih'
    clear hnx hle
    generalize a + (totB (l.take i) : Int) = x1 at *
    rw [hrd]
    generalize l[i] = x at *
    have hc : (cntB x : Int) = 5 + totR x.f5 := by simp [cntB]
    have q7 : (i : Int) < (l.length : Int) := by clear ih ih' hrd; omega
    have q8 : (0 : Int) ≤ (i : Int) := by clear ih ih' hrd; omega
    have q9 : ¬ (x1 + 5 + (totR x.f5 : Int) < 0) := by clear ih ih' hrd; omega
    have q11 : x1 + 5 + (totR x.f5 : Int) = x1 + (cntB x : Int) := by clear ih ih' hrd; omega
    have q1 : x.f5.length ≤ 9223372036854775806 := by have := hqi.1; clear ih ih' hrd; omega
    have q3 : 0 ≤ x1 + 5 := by clear ih ih' hrd; omega
    have q4 : x1 + 5 + (totR x.f5 : Int) ≤ 4000000000000000000 := by clear ih ih' hrd; omega
    have wA : wrap64 (x1 + 1) = x1 + 1 := w64 (a := x1 + 1) (by omega) (by omega)
    have wB : wrap64 (x1 + 1 + 1) = x1 + 2 := by rw [w64 (a := x1 + 1 + 1) (by omega) (by omega)]; omega
    have wC : wrap64 (x1 + 2 + 1) = x1 + 3 := by rw [w64 (a := x1 + 2 + 1) (by omega) (by omega)]; omega
    have wD : wrap64 (x1 + 3 + 1) = x1 + 4 := by rw [w64 (a := x1 + 3 + 1) (by omega) (by omega)]; omega
    have wF : wrap64 (x1 + 4 + 1) = x1 + 5 := by rw [w64 (a := x1 + 4 + 1) (by omega) (by omega)]; omega
    have wE : wrap64 ((i : Int) + 1) = (i : Int) + 1 := w64 (a := (i : Int) + 1) (by omega) (by omega)
    simp only [if_pos q7, if_pos q8, mkBat, if_true, wA, wB, wC, wD, wF, bne_self_eq_false, Bool.false_eq_true, if_false]
    refine Ev.bind (heldRecordS_ev (x1 + 5) x.f5 q1 q3 q4) ?_
    simp only [if_neg q9, wE]
    rw [q11]
    exact ih'
theorem heldBatchS_ev (a : Int) (l : List S28) (hq : ∀ b ∈ l, QB b) (hl : l.length ≤ 9223372036854775806) (h0 : 0 ≤ a) (h1 : a + (totB l : Int) ≤ 3000000000000000000) : Ev (fun k => laws_heldBatchS.f k (mkBats a l) a) (a + (totB l : Int)) := by
  unfold laws_heldBatchS.f
  have := heldB_loop a l hq hl h0 h1 l.length 0 (by omega) (by omega)
  simpa [totB] using this
theorem totB_small : ∀ (l : List S28), (∀ b ∈ l, QB b) → totB l ≤ l.length * 2199027449861
  | [], _ => by simp [totB]
  | x :: l, h => by
    have h1 := h x List.mem_cons_self
    have h2 := totB_small l (fun r hr => h r (List.mem_cons_of_mem _ hr))
    have h3 := totR_small x.f5 h1.2
    have h4 := h1.1
    simp only [totB, cntB, List.length_cons, Nat.add_mul]
    omega
theorem rowB_q {l : List S28} (hl : l.length ≤ 9223372036854775807) (h : ∀ b ∈ l, QB b) : RowB l := ⟨hl, fun b hb => ⟨by have := (h b hb).1; omega, fun r hr => by have := (h b hb).2 r hr; exact ⟨by omega, by omega⟩⟩⟩
theorem qB_cv {l : List S24} (hs : ∀ b ∈ l, SzB b) : ∀ b ∈ l.map cvB, QB b := by
  intro b hb
  obtain ⟨x, hx, rfl⟩ := List.mem_map.1 hb
  refine ⟨by show (x.f5.map cvR).length ≤ _; rw [List.length_map]; exact (hs x hx).1, fun r hr => ?_⟩
  obtain ⟨y, hy, rfl⟩ := List.mem_map.1 hr
  exact (hs x hx).2 y hy
end Go.Proofs.YtfjkpdhldeopaaaDoor.Pu

namespace Go.Proofs.YtfjkpdhldeopaaaDoor.Pu
open Go.RowKit Go.Proofs.YtfjkpdhldeopaaaDoorW.PrintWords Go.Proofs.YtfjkpdhldeopaaaDoorW.PrintLast Go.Proofs.YtfjkpdhldeopaaaDoorW.PrintMore Go.Proofs.YtfjkpdhldeopaaaDoor.G
set_option linter.unusedVariables false
set_option linter.unusedSimpArgs false
abbrev RT := S62
abbrev BT := S28
theorem copyOf_ev (x : RT) (h : x.f3.length ≤ 12 ∧ x.f5.length ≤ 12) : impl_Record_copyOf.f x.f0 x.f1 x.f2 x.f3 x.f4 x.f5 = some (x.f0, x.f1, x.f2, x.f3, x.f4, x.f5) := by
  simp only [impl_Record_copyOf.f, slices_Clone_int_int.f]
  rw [if_pos (by omega), if_pos (by omega)]
  rfl
end Go.Proofs.YtfjkpdhldeopaaaDoor.Pu

namespace Go.Proofs.YtfjkpdhldeopaaaDoor.Pu
open Go.RowKit Go.Proofs.YtfjkpdhldeopaaaDoorW.PrintWords Go.Proofs.YtfjkpdhldeopaaaDoorW.PrintLast Go.Proofs.YtfjkpdhldeopaaaDoorW.PrintMore Go.Proofs.YtfjkpdhldeopaaaDoor.G
set_option linter.unusedVariables false
set_option linter.unusedSimpArgs false
def ShortR (l : List RT) : Prop := l.length ≤ 6 ∧ ∀ r ∈ l, r.f3.length ≤ 12 ∧ r.f5.length ≤ 12
theorem short_of {b : BT} (h : batOk b = true) : ShortR b.f5 := ⟨(batOk_len h).2, fun r hr => by
  obtain ⟨i, hi, rfl⟩ := List.getElem_of_mem hr
  exact recOk_len (batOk_rec h i hi)⟩
theorem copyRecords_loop (l : List RT) (h : ShortR l) : ∀ d i, l.length - i = d → i ≤ l.length → Ev (fun k => impl_copyRecords.l0 k (l.take i) l (l.length : Int) (i : Int)) l := by
  intro d
  induction d with
  | zero =>
    intro i hd hi
    refine Ev.step (fun k => by rw [impl_copyRecords.l0]) ?_
    simp only [if_neg (show ¬ (i : Int) < (l.length : Int) by omega), List.take_of_length_le (show l.length ≤ i by omega)]
    exact Ev.now _
  | succ d ih =>
    intro i hd hi
    have hlt : i < l.length := by omega
    have hl := h.1
    refine Ev.step (fun k => by rw [impl_copyRecords.l0]) ?_
    simp only [if_pos (show (i : Int) < (l.length : Int) by omega), if_pos (show (0 : Int) ≤ (i : Int) by omega), rdR_nat l i hlt, copyOf_ev _ (h.2 _ (List.getElem_mem hlt)), bindS, w64 (a := (i : Int) + 1) (by omega) (by omega), if_pos (show (l.take i).length < 1759218604441 by rw [List.length_take]; omega)]
    have := ih (i + 1) (by omega) (by omega)
    rw [← List.take_append_getElem hlt] at this
    exact this
theorem copyRecords_ev (l : List RT) (h : ShortR l) : Ev (fun k => impl_copyRecords.f k l) l := by
  unfold impl_copyRecords.f
  have hl := h.1
  simp only [if_pos (show (0 : Int) ≤ (l.length : Int) by omega), if_pos (show ((l.length : Int)).toNat ≤ 3518437208883 by rw [Int.toNat_natCast]; omega)]
  have := copyRecords_loop l h _ 0 rfl (by omega)
  simpa using this
theorem copyBatch_ev (b : BT) (h : ShortR b.f5) : Ev (fun k => impl_Batch_copyOf.f k b.f0 b.f1 b.f2 b.f3 b.f4 b.f5) (b.f0, b.f1, b.f2, b.f3, b.f4, b.f5) := by
  unfold impl_Batch_copyOf.f
  exact Ev.bind (copyRecords_ev _ h) (Ev.now _)
theorem l12Copy_ev (x : RT) (h : x.f3.length ≤ 12 ∧ x.f5.length ≤ 12) : spec_l12Copy.f x.f0 x.f1 x.f2 x.f3 x.f4 x.f5 = some (x.f0, x.f1, x.f2, x.f3, x.f4, x.f5) := by
  unfold spec_l12Copy.f
  simp only [bindS, List.length_nil, List.nil_append]
  rw [if_pos (by omega), if_pos (by omega)]
theorem free_loop (p : Bool) (l : List RT) (h : l.length ≤ 12 ∧ ∀ r ∈ l, r.f3.length ≤ 12 ∧ r.f5.length ≤ 12) : ∀ d i, l.length - i = d → i ≤ l.length → Ev (fun k => spec_l31Free.l0 k l (i : Int) p false 255 0 0 (l.take i)) (p, false, 255, 0, 0, l) := by
  intro d
  induction d with
  | zero =>
    intro i hd hi
    refine Ev.step (fun k => by rw [spec_l31Free.l0]) ?_
    simp only [if_neg (show ¬ (i : Int) < (l.length : Int) by omega), List.take_of_length_le (show l.length ≤ i by omega)]
    exact Ev.now _
  | succ d ih =>
    intro i hd hi
    have hlt : i < l.length := by omega
    have hl := h.1
    refine Ev.step (fun k => by rw [spec_l31Free.l0]) ?_
    simp only [if_pos (show (i : Int) < (l.length : Int) by omega), if_pos (show (0 : Int) ≤ (i : Int) by omega), rdR_nat l i hlt, l12Copy_ev _ (h.2 _ (List.getElem_mem hlt)), bindS, w64 (a := (i : Int) + 1) (by omega) (by omega), if_pos (show (l.take i).length < 1759218604441 by rw [List.length_take]; omega)]
    have := ih (i + 1) (by omega) (by omega)
    rw [← List.take_append_getElem hlt] at this
    exact this
theorem free_ev12 (p : Bool) (l : List RT) (h : l.length ≤ 12 ∧ ∀ r ∈ l, r.f3.length ≤ 12 ∧ r.f5.length ≤ 12) : Ev (fun k => spec_l31Free.f k p l) (p, false, 255, 0, 0, l) := by
  unfold spec_l31Free.f
  have := free_loop p l h _ 0 rfl (by omega)
  simpa using this
theorem ShortR.take {l : List RT} (h : ShortR l) (n : Nat) : ShortR (l.take n) := ⟨by rw [List.length_take]; have := h.1; omega, fun r hr => h.2 r (List.mem_of_mem_take hr)⟩
theorem ShortR.drop {l : List RT} (h : ShortR l) (n : Nat) : ShortR (l.drop n) := ⟨by rw [List.length_drop]; have := h.1; omega, fun r hr => h.2 r (List.mem_of_mem_drop hr)⟩
end Go.Proofs.YtfjkpdhldeopaaaDoor.Pu

