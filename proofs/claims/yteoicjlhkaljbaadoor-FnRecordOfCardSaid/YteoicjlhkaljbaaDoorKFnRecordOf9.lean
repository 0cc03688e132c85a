/- A text of seat YteoicjlhkaljbaaDoor: what the law FnRecordOf needs of this repo's texts (by pack.py). Not trusted: Lean checks it. -/
import Derived.Test.YteoicjlhkaljbaaDoorKFnRecordOf8
import Derived.Deep.Slices
import Derived.SizedLaws
import Derived.Lib.SplitLaws
import Derived.Lib.Join
import Derived.Laws.BitsLemmas
namespace Go.Proofs.YteoicjlhkaljbaaDoor.G
open Go.RowKit Go.Proofs.YteoicjlhkaljbaaDoorW.PrintWords Go.Proofs.YteoicjlhkaljbaaDoorW.PrintLast Go.Proofs.YteoicjlhkaljbaaDoorW.PrintMore
attribute [local go_sem] max2_int min2_int max_two min_two max_three min_three max_four min_four   -- for this text's walks alone
set_option linter.unusedVariables false
set_option linter.unusedSimpArgs false

def spec_l6Rd_of.f (k : Nat) (s0_0 : List Int) (s0_1 : Int) (l1 : List ByteArray) : Option (ByteArray × Int) := (spec_l6Rd_pick.f k s0_0 s0_1 (l1.length : Int)).bind fun bt422 => (if 0 ≤ bt422.1 then (if bt422.1 < (l1.length : Int) then (some (rdOf ByteArray.empty l1 bt422.1, bt422.2)) else (none)) else (none))
set_option maxHeartbeats 8000000 in
set_option maxRecDepth 100000 in
theorem spec_l6Rd_of.calls (k : Nat) (g : Nat) (s0_0 : List Int) (s0_1 : Int) (A1 : Option Addr) (c1 : Nat) (l1 : List ByteArray) (r1 : ByteArray) (r2 : Int) (w0 w : World) (hI : IsS101 w0 w g s0_0 s0_1) (hB : Below w0.heap.size w0 w) (hr1 : Kd.C Kd.string w A1 l1.length l1) (hc1 : l1.length ≤ c1) (hf1 : ∀ ad, A1 = some ad → 0 < l1.length → ad.block ≠ g) (h : spec_l6Rd_of.f k s0_0 s0_1 l1 = some (r1, r2)) :
  Calls Tryd.prog 50 #[.pointer (some ⟨g, 0, none⟩), .slice A1 l1.length c1] w fun e w' => e = .returned (.string r1) ∧ IsS101 w0 w' g s0_0 r2 ∧ Below w0.heap.size w0 w' ∧ KeepBut w w' g none := by
 have HR1 := Aside0.mk hr1
 have HC1 := Aside0.mk hc1
 clear hr1 hc1
 have HI0 := Aside0.mk hI
 have HK := Aside0.mk (KeepBut.refl w g none)
 have HL := Aside0.mk hB.size
 clear hI
 have HW0 := Aside0.mk hB.size
 have HB := Aside0.mk hB
 clear hB
 have H : ((spec_l6Rd_pick.f k s0_0 s0_1 (l1.length : Int)).bind fun bt422 => (if 0 ≤ bt422.1 then (if bt422.1 < (l1.length : Int) then (some (rdOf ByteArray.empty l1 bt422.1, bt422.2)) else (none)) else (none))) = some (r1, r2) := h
 clear h
 replace H := tbe H
 obtain ⟨⟨t422, t423⟩, A3, H⟩ := H
 dsimp only at H
 by_cases c4 : 0 ≤ t422
 ·rw [if_pos c4] at H
  have c4b0 : decide (0 ≤ t422) = true := decide_eq_true c4
  clear c4
  by_cases c5 : t422 < (l1.length : Int)
  ·rw [if_pos c5] at H
   have c5b0 : decide (t422 < (l1.length : Int)) = true := decide_eq_true c5
   clear c5
   simp only [Option.some.injEq, Prod.mk.injEq] at H
   obtain ⟨rfl, rfl⟩ := H
   go_enter Tryd.func50, Tryd.ntmps50
   go_wp2_with (first | ((with_reducible refine gate_callee (f := 51) rfl ?_); refine goesL_ (some 9) rfl rfl Tryd.func51 (by kernel_rfl) rfl #[.pointer (some ⟨g, 0, none⟩), .int .i64 (l1.length : Int)] rfl tq ?_; (with_reducible refine (spec_l6Rd_pick.calls k g s0_0 s0_1 (l1.length : Int) t422 t423 w0 _ ?side1 ?side2 A3.out).mono ?_); (case side1 => exact zi101); (case side2 => exact zb); rintro e w6 ⟨rfl, hi, hb, hk⟩; refine ⟨_, rfl, ?_⟩; replace HK := tKt HK hk; replace HB := Aside0.mk (hb); replace HI0 := Aside0.mk (hi); (try clear hb); (try clear hb2); (try clear hk); (try clear hi); have p424 : 0 ≤ (t422 : Int) := td; have q424 : t422 < (l1.length : Int) := td; obtain ⟨ad424, e424, hx424_0⟩ := Kd.at_string HR1.out t422 p424 q424; cases e424; replace hx424_0 := keep_cell HK.out hx424_0 (by first | (rw [add_block]; exact hf1 _ rfl (by omega)) | exact hf1 _ rfl (by omega) | exact hf1 ad424 rfl (by omega)); replace p424 := eq_true p424; replace q424 := eq_true q424))
   go_ret
   exact ⟨by first | rfl | (simp [errW_none, errW_some] <;> rfl) | (simp [*, errW_none, errW_some] <;> rfl), zi101, zb, zk⟩
  ·rw [if_neg c5] at H
   exact absurd H (by simp)
 ·rw [if_neg c4] at H
  exact absurd H (by simp)

def spec_DrawRecordOf.f (k : Nat) (l0 : List Int) : Option (ByteArray) := (spec_l6Open.f l0).bind fun bt425 => ((spec_l91Record.f k bt425.1 bt425.2).bind fun bt428 => ((spec_RecordText.f k bt428.1 bt428.2.1 bt428.2.2.1 bt428.2.2.2.1 bt428.2.2.2.2.1 bt428.2.2.2.2.2.1).bind fun t439 => (if t439.toList = ([] : List UInt8) then ((spec_l6Rd_of.f k bt425.1 bt428.2.2.2.2.2.2 (([(⟨#[]⟩ : ByteArray), (⟨#[49, 32, 50, 32, 45, 32, 45]⟩ : ByteArray), (⟨#[48, 49, 32, 50, 32, 45, 32, 45]⟩ : ByteArray), (⟨#[49, 32, 50, 32, 120, 48, 32, 45]⟩ : ByteArray), (⟨#[49, 32, 50, 32, 120, 65, 65, 32, 45]⟩ : ByteArray), (⟨#[49, 32, 50, 32, 121, 32, 45]⟩ : ByteArray), (⟨#[49, 32, 50, 32, 45]⟩ : ByteArray)] : List ByteArray))).bind fun bt443 => (some bt443.1)) else ((spec_l6Rd_pick.f k bt425.1 bt428.2.2.2.2.2.2 (t439.size : Int)).bind fun bt445 => ((spec_l6Rd_pick.f k bt425.1 bt445.2 6).bind fun bt447 => (if bt447.1 = 0 then (if 0 ≤ bt445.1 then (if bt445.1 ≤ (t439.size : Int) then ((spec_l6Rd_of.f k bt425.1 bt447.2 (([(⟨#[48]⟩ : ByteArray), (⟨#[120]⟩ : ByteArray), (⟨#[32]⟩ : ByteArray), (⟨#[102]⟩ : ByteArray), (⟨#[45]⟩ : ByteArray)] : List ByteArray))).bind fun bt452 => (if (t439.extract 0 (bt445.1 : Int).toNat).size + bt452.1.size ≤ 9223372036854775807 then (if 0 ≤ (wrap64 (bt445.1 + 1)) then (if (wrap64 (bt445.1 + 1)) ≤ (t439.size : Int) then (if ((t439.extract 0 (bt445.1 : Int).toNat) ++ bt452.1).size + (t439.extract ((wrap64 (bt445.1 + 1)) : Int).toNat t439.size).size ≤ 9223372036854775807 then (some (((t439.extract 0 (bt445.1 : Int).toNat) ++ bt452.1) ++ (t439.extract ((wrap64 (bt445.1 + 1)) : Int).toNat t439.size))) else (none)) else (none)) else (none)) else (none))) else (none)) else (none)) else (some t439)))))))
def spec_DrawRecordOf.T7 : Bool × List (List Nat × List Nat) := (true, [([], []), ([], []), ([0, 1], [0, 1]), ([], []), ([], []), ([3, 4], [3, 4]), ([2, 5], [2, 5]), ([], []), ([], []), ([8], [8]), ([7, 9], [7, 9]), ([6, 10], [6, 10]), ([11, 5, 0, 1, 2, 3, 4, 5, 6, 7, 8, 9, 10, 11], [11])])
def spec_DrawRecordOf.B7 : List Nat := [0, 0, 3, 0, 0, 24, 63, 0, 0, 256, 896, 2047, 4095]
theorem spec_DrawRecordOf.tab7 : rtab .any (opsOf Tryd.f22 7) = spec_DrawRecordOf.T7 := by kernel_rfl
theorem spec_DrawRecordOf.bits7 : waitsOk spec_DrawRecordOf.T7.2 spec_DrawRecordOf.B7 = true := by kernel_rfl
set_option maxHeartbeats 8000000 in
set_option maxRecDepth 100000 in
theorem spec_DrawRecordOf.calls (k : Nat) (A0 : Option Addr) (c0 : Nat) (l0 : List Int) (r : ByteArray) (w : World) (hr0 : Kd.C (Kd.int .u8) w A0 l0.length l0) (hc0 : l0.length ≤ c0) (h : spec_DrawRecordOf.f k l0 = some r) :
  Calls Tryd.prog 22 #[.slice A0 l0.length c0] w fun e w' => e = .returned (.string r) ∧ Below w.heap.size w w' := by
 have HR0 := Aside0.mk hr0
 have HC0 := Aside0.mk hc0
 clear hr0 hc0
 have HB := Aside0.mk (Below.refl w.heap.size w)
 have H : ((spec_l6Open.f l0).bind fun bt425 => ((spec_l91Record.f k bt425.1 bt425.2).bind fun bt428 => ((spec_RecordText.f k bt428.1 bt428.2.1 bt428.2.2.1 bt428.2.2.2.1 bt428.2.2.2.2.1 bt428.2.2.2.2.2.1).bind fun t439 => (if t439.toList = ([] : List UInt8) then ((spec_l6Rd_of.f k bt425.1 bt428.2.2.2.2.2.2 (([(⟨#[]⟩ : ByteArray), (⟨#[49, 32, 50, 32, 45, 32, 45]⟩ : ByteArray), (⟨#[48, 49, 32, 50, 32, 45, 32, 45]⟩ : ByteArray), (⟨#[49, 32, 50, 32, 120, 48, 32, 45]⟩ : ByteArray), (⟨#[49, 32, 50, 32, 120, 65, 65, 32, 45]⟩ : ByteArray), (⟨#[49, 32, 50, 32, 121, 32, 45]⟩ : ByteArray), (⟨#[49, 32, 50, 32, 45]⟩ : ByteArray)] : List ByteArray))).bind fun bt443 => (some bt443.1)) else ((spec_l6Rd_pick.f k bt425.1 bt428.2.2.2.2.2.2 (t439.size : Int)).bind fun bt445 => ((spec_l6Rd_pick.f k bt425.1 bt445.2 6).bind fun bt447 => (if bt447.1 = 0 then (if 0 ≤ bt445.1 then (if bt445.1 ≤ (t439.size : Int) then ((spec_l6Rd_of.f k bt425.1 bt447.2 (([(⟨#[48]⟩ : ByteArray), (⟨#[120]⟩ : ByteArray), (⟨#[32]⟩ : ByteArray), (⟨#[102]⟩ : ByteArray), (⟨#[45]⟩ : ByteArray)] : List ByteArray))).bind fun bt452 => (if (t439.extract 0 (bt445.1 : Int).toNat).size + bt452.1.size ≤ 9223372036854775807 then (if 0 ≤ (wrap64 (bt445.1 + 1)) then (if (wrap64 (bt445.1 + 1)) ≤ (t439.size : Int) then (if ((t439.extract 0 (bt445.1 : Int).toNat) ++ bt452.1).size + (t439.extract ((wrap64 (bt445.1 + 1)) : Int).toNat t439.size).size ≤ 9223372036854775807 then (some (((t439.extract 0 (bt445.1 : Int).toNat) ++ bt452.1) ++ (t439.extract ((wrap64 (bt445.1 + 1)) : Int).toNat t439.size))) else (none)) else (none)) else (none)) else (none))) else (none)) else (none)) else (some t439)))))))) = some r := h
 clear h
 replace H := tbe H
 obtain ⟨⟨t425, t426⟩, A2, H⟩ := H
 dsimp only at H
 replace H := tbe H
 obtain ⟨⟨t428, t429, t430, t431, t434, t435, t438⟩, A3, H⟩ := H
 dsimp only at H
 replace H := tbe H
 obtain ⟨t439, A4, H⟩ := H
 by_cases c5 : t439.toList = ([] : List UInt8)
 ·rw [if_pos c5] at H
  have c5b0 : (t439.toList == ([] : List UInt8)) = true := beq_iff_eq.mpr c5
  have c5b1 : (t439.toList != ([] : List UInt8)) = false := bne_eq_false_iff_eq.mpr c5
  clear c5
  obtain ⟨y440, hy440⟩ : ∃ y_ : List ByteArray, y_ = (([(⟨#[]⟩ : ByteArray), (⟨#[49, 32, 50, 32, 45, 32, 45]⟩ : ByteArray), (⟨#[48, 49, 32, 50, 32, 45, 32, 45]⟩ : ByteArray), (⟨#[49, 32, 50, 32, 120, 48, 32, 45]⟩ : ByteArray), (⟨#[49, 32, 50, 32, 120, 65, 65, 32, 45]⟩ : ByteArray), (⟨#[49, 32, 50, 32, 121, 32, 45]⟩ : ByteArray), (⟨#[49, 32, 50, 32, 45]⟩ : ByteArray)] : List ByteArray)) := ⟨_, rfl⟩
  replace H : ((spec_l6Rd_of.f k t425 t438 y440).bind fun bt443 => (some bt443.1)) = some r := by first | (rw [hy440]; with_reducible exact H) | (have H2_ := (Option.bind_some _ _).symm.trans H; rw [hy440]; with_reducible exact H2_) | (have H2_ := (Option.bind_some _ _).symm.trans H; with_reducible exact H2_) | with_reducible exact H | (rw [hy440]; exact H) | exact H
  have Ny440 := Aside0.mk hy440
  clear hy440
  replace H := tbe H
  obtain ⟨⟨t443, t444⟩, A6, H⟩ := H
  dsimp only at H
  obtain rfl := Option.some.inj H
  go_enter Tryd.func22, Tryd.ntmps22
  go_wp2_with (first | ((with_reducible refine gate_callee (f := 34) rfl ?_); refine goesL_ (some 7) rfl rfl Tryd.func34 (by kernel_rfl) rfl #[.slice A0 l0.length c0] rfl tq ?_; (with_reducible refine (spec_l6Open.calls _ _ l0 t425 t426 w _ ?side1 ?side2 ?side3 A2.out).mono ?_); (case side1 => exact zb); (case side2 => exact HR0.out); (case side3 => exact HC0.out); rintro e w7 ⟨g427, rfl, hi, hb, hb2⟩; refine ⟨_, rfl, ?_⟩; replace HB := Aside0.mk (hb); have HI427 := Aside0.mk (hi); (try clear hb); (try clear hb2); (try clear hk); (try clear hi)) | ((with_reducible refine gate_callee (f := 33) rfl ?_); refine goesL_ (some 9) rfl rfl Tryd.func33 (by kernel_rfl) rfl #[.pointer (some ⟨g427, 0, none⟩)] rfl tq ?_; (with_reducible refine (spec_l91Record.calls k g427 t425 t426 t428 t429 t430 t431 t434 t435 t438 w _ ?side1 ?side2 A3.out).mono ?_); (case side1 => repeat (first | (with_reducible first | exact HI427.out | apply IsS101.alloc | apply IsS101.drewN | apply IsS101.drew | apply IsS101.set_1) | exact HI427.out)); (case side2 => repeat (first | (with_reducible first | exact HB.out | apply below_alloc | apply pw_below_drewN | apply below_drew1 | refine below_set ?_ (IsS101.ge HI427.out)) | exact HB.out)); rintro e w8 ⟨v432, v436, rfl, ho0, ho1, hi, hb, hk⟩; have u_v432 := tsv Tryd.prog v432 ho0; have u_v436 := tsv Tryd.prog v436 ho1; refine ⟨_, rfl, ?_⟩; have HO433 := Aside0.mk (Kd.R_lower ho0 (below_size (by repeat (first | (with_reducible first | exact HB.out | apply below_alloc | apply pw_below_drewN | apply below_drew1 | refine below_set ?_ (IsS101.ge HI427.out)) | exact HB.out)))); have HO437 := Aside0.mk (Kd.R_lower ho1 (below_size (by repeat (first | (with_reducible first | exact HB.out | apply below_alloc | apply pw_below_drewN | apply below_drew1 | refine below_set ?_ (IsS101.ge HI427.out)) | exact HB.out)))); replace HB := Aside0.mk (hb); replace HI427 := Aside0.mk (hi); (try clear hb); (try clear hb2); (try clear hk); (try clear hi); (try clear ho0); (try clear ho1); obtain ⟨Ao9, co9, eo9⟩ := Kd.R_slice HO433.out; subst eo9; obtain ⟨Ao10, co10, eo10⟩ := Kd.R_slice HO437.out; subst eo10) | ((with_reducible refine gate_callee (f := 14) rfl ?_); refine goesL_ (some 10) rfl rfl Tryd.func14 (by kernel_rfl) rfl #[.agg #[.int .i64 t428, .int .i64 t429, .bool t430, .slice Ao9 t431.length co9, .bool t434, .slice Ao10 t435.length co10]] rfl tq ?_; (with_reducible refine (spec_RecordText.calls k t428 t429 t430 _ _ t431 t434 _ _ t435 t439 _ ?side1 ?side2 ?side3 ?side4 A4.out).mono ?_); (case side1 => repeat (first | exact (Kd.R_reads' HO433.out).2.2 | (with_reducible refine Kd.C_alloc ?_ _) | (with_reducible refine Kd.C_drewN ?_ _) | (with_reducible refine Kd.C_drew ?_))); (case side2 => exact (Kd.R_reads' HO433.out).2.1); (case side3 => repeat (first | exact (Kd.R_reads' HO437.out).2.2 | (with_reducible refine Kd.C_alloc ?_ _) | (with_reducible refine Kd.C_drewN ?_ _) | (with_reducible refine Kd.C_drew ?_))); (case side4 => exact (Kd.R_reads' HO437.out).2.1); rintro e w11 ⟨rfl, hb⟩; refine ⟨_, rfl, ?_⟩; replace HO433 := tRb HO433 hb; replace HO437 := tRb HO437 hb; replace HB := Aside0.mk (below_step (by repeat (first | (with_reducible first | exact HB.out | apply below_alloc | apply pw_below_drewN | apply below_drew1 | refine below_set ?_ (IsS101.ge HI427.out)) | exact HB.out)) hb); replace HI427 := Aside0.mk (IsS101.below (by repeat (first | (with_reducible first | exact HI427.out | apply IsS101.alloc | apply IsS101.drewN | apply IsS101.drew | apply IsS101.set_1) | exact HI427.out)) hb); (try clear hb); (try clear hb2); (try clear hk); (try clear hi)) | ((with_reducible refine gate_dst (N := 14) rfl ?_); refine Kd.R_lit Kd.string _ 9 ?hg (N := 14) ?hd (xs := ([(⟨#[]⟩ : ByteArray), (⟨#[49, 32, 50, 32, 45, 32, 45]⟩ : ByteArray), (⟨#[48, 49, 32, 50, 32, 45, 32, 45]⟩ : ByteArray), (⟨#[49, 32, 50, 32, 120, 48, 32, 45]⟩ : ByteArray), (⟨#[49, 32, 50, 32, 120, 65, 65, 32, 45]⟩ : ByteArray), (⟨#[49, 32, 50, 32, 121, 32, 45]⟩ : ByteArray), (⟨#[49, 32, 50, 32, 45]⟩ : ByteArray)] : List ByteArray)) (inner := [.string (⟨#[]⟩ : ByteArray), .string (⟨#[49, 32, 50, 32, 45, 32, 45]⟩ : ByteArray), .string (⟨#[48, 49, 32, 50, 32, 45, 32, 45]⟩ : ByteArray), .string (⟨#[49, 32, 50, 32, 120, 48, 32, 45]⟩ : ByteArray), .string (⟨#[49, 32, 50, 32, 120, 65, 65, 32, 45]⟩ : ByteArray), .string (⟨#[49, 32, 50, 32, 121, 32, 45]⟩ : ByteArray), .string (⟨#[49, 32, 50, 32, 45]⟩ : ByteArray)]) (ok := fun _ => True) (okp := fun _ => True) ?hr ?hp (fun _ hk => hk) trivial (Below.refl _ _) (Nat.le_refl _) (by simp) ?_; (case hd => rfl); (case hg => rfl); (case hr => first | (go_simp; done) | (go_simp; rfl)); (case hp => exact (Reps.one (show Kd.M Kd.string _ _ _ (⟨#[]⟩ : ByteArray) [.string (⟨#[]⟩ : ByteArray)] from rfl) (Reps.one (show Kd.M Kd.string _ _ _ (⟨#[49, 32, 50, 32, 45, 32, 45]⟩ : ByteArray) [.string (⟨#[49, 32, 50, 32, 45, 32, 45]⟩ : ByteArray)] from rfl) (Reps.one (show Kd.M Kd.string _ _ _ (⟨#[48, 49, 32, 50, 32, 45, 32, 45]⟩ : ByteArray) [.string (⟨#[48, 49, 32, 50, 32, 45, 32, 45]⟩ : ByteArray)] from rfl) (Reps.one (show Kd.M Kd.string _ _ _ (⟨#[49, 32, 50, 32, 120, 48, 32, 45]⟩ : ByteArray) [.string (⟨#[49, 32, 50, 32, 120, 48, 32, 45]⟩ : ByteArray)] from rfl) (Reps.one (show Kd.M Kd.string _ _ _ (⟨#[49, 32, 50, 32, 120, 65, 65, 32, 45]⟩ : ByteArray) [.string (⟨#[49, 32, 50, 32, 120, 65, 65, 32, 45]⟩ : ByteArray)] from rfl) (Reps.one (show Kd.M Kd.string _ _ _ (⟨#[49, 32, 50, 32, 121, 32, 45]⟩ : ByteArray) [.string (⟨#[49, 32, 50, 32, 121, 32, 45]⟩ : ByteArray)] from rfl) (Reps.one (show Kd.M Kd.string _ _ _ (⟨#[49, 32, 50, 32, 45]⟩ : ByteArray) [.string (⟨#[49, 32, 50, 32, 45]⟩ : ByteArray)] from rfl) (Reps.none _ _))))))))); intro v441 w12 ho13 hb hg_ hnew_; clear hg_ hnew_; (first | rw [← Ny440.out] at ho13 | (simp only [Int.reduceToNat] at ho13; rw [← Ny440.out] at ho13)); replace HO433 := tRb HO433 hb; replace HO437 := tRb HO437 hb; have HO442 := Aside0.mk (Kd.R_lower ho13 (below_size (by repeat (first | (with_reducible first | exact HB.out | apply below_alloc | apply pw_below_drewN | apply below_drew1 | refine below_set ?_ (IsS101.ge HI427.out)) | exact HB.out)))); replace HB := Aside0.mk (below_step (by repeat (first | (with_reducible first | exact HB.out | apply below_alloc | apply pw_below_drewN | apply below_drew1 | refine below_set ?_ (IsS101.ge HI427.out)) | exact HB.out)) hb); replace HI427 := Aside0.mk (IsS101.below (by repeat (first | (with_reducible first | exact HI427.out | apply IsS101.alloc | apply IsS101.drewN | apply IsS101.drew | apply IsS101.set_1) | exact HI427.out)) hb); clear hb ho13; obtain ⟨Ao14, co14, eo14⟩ := Kd.R_slice HO442.out; subst eo14) | ((with_reducible refine gate_callee (f := 50) rfl ?_); refine goesL_ (some 15) rfl rfl Tryd.func50 (by kernel_rfl) rfl #[.pointer (some ⟨g427, 0, none⟩), .slice Ao14 y440.length co14] rfl tq ?_; (with_reducible refine (spec_l6Rd_of.calls k g427 t425 t438 _ _ y440 t443 t444 w _ ?side1 ?side2 ?side3 ?side4 ?side5 A6.out).mono ?_); (case side1 => repeat (first | (with_reducible first | exact HI427.out | apply IsS101.alloc | apply IsS101.drewN | apply IsS101.drew | apply IsS101.set_1) | exact HI427.out)); (case side2 => repeat (first | (with_reducible first | exact HB.out | apply below_alloc | apply pw_below_drewN | apply below_drew1 | refine below_set ?_ (IsS101.ge HI427.out)) | exact HB.out)); (case side3 => repeat (first | exact (Kd.R_reads' HO442.out).2.2 | (with_reducible refine Kd.C_alloc ?_ _) | (with_reducible refine Kd.C_drewN ?_ _) | (with_reducible refine Kd.C_drew ?_))); (case side4 => exact (Kd.R_reads' HO442.out).2.1); (case side5 => exact far_slice (IsS101.own_ne HI427.out HO442.out (by decide))); rintro e w15 ⟨rfl, hi, hb, hk⟩; refine ⟨_, rfl, ?_⟩; replace HO433 := Aside0.mk (Kd.R_mono (Kd.R_keep (IsS101.apart (show IsS101 w _ g427 t425 t438 from by repeat (first | (with_reducible first | exact HI427.out | apply IsS101.alloc | apply IsS101.drewN | apply IsS101.drew | apply IsS101.set_1) | exact HI427.out)) (tR HO433.out) (by decide)) hk (fun _ h => h.2)) (fun _ h => h.1)); replace HO437 := Aside0.mk (Kd.R_mono (Kd.R_keep (IsS101.apart (show IsS101 w _ g427 t425 t438 from by repeat (first | (with_reducible first | exact HI427.out | apply IsS101.alloc | apply IsS101.drewN | apply IsS101.drew | apply IsS101.set_1) | exact HI427.out)) (tR HO437.out) (by decide)) hk (fun _ h => h.2)) (fun _ h => h.1)); replace HO442 := Aside0.mk (Kd.R_mono (Kd.R_keep (IsS101.apart (show IsS101 w _ g427 t425 t438 from by repeat (first | (with_reducible first | exact HI427.out | apply IsS101.alloc | apply IsS101.drewN | apply IsS101.drew | apply IsS101.set_1) | exact HI427.out)) (tR HO442.out) (by decide)) hk (fun _ h => h.2)) (fun _ h => h.1)); replace HB := Aside0.mk (hb); replace HI427 := Aside0.mk (hi); (try clear hb); (try clear hb2); (try clear hk); (try clear hi)))
  go_ret
  exact ⟨by first | rfl | (simp [errW_none, errW_some] <;> rfl) | (simp [*, errW_none, errW_some] <;> rfl), by repeat (first | (with_reducible first | exact HB.out | apply below_alloc | apply pw_below_drewN | apply below_drew1 | refine below_set ?_ (IsS101.ge HI427.out)) | exact HB.out)⟩
 ·rw [if_neg c5] at H
  have c5b0 : (t439.toList == ([] : List UInt8)) = false := beq_eq_false_iff_ne.mpr c5
  have c5b1 : (t439.toList != ([] : List UInt8)) = true := bne_iff_ne.mpr c5
  replace H := tbe H
  obtain ⟨⟨t445, t446⟩, A16, H⟩ := H
  dsimp only at H
  replace H := tbe H
  obtain ⟨⟨t447, t448⟩, A17, H⟩ := H
  dsimp only at H
  by_cases c18 : t447 = 0
  ·rw [if_pos c18] at H
   have c18b0 : (t447 == 0) = true := beq_iff_eq.mpr c18
   have c18b1 : (t447 != 0) = false := bne_eq_false_iff_eq.mpr c18
   clear c18
   by_cases c19 : 0 ≤ t445
   ·rw [if_pos c19] at H
    have c19b0 := eq_true c19
    have c19b1 : decide (0 ≤ t445) = true := decide_eq_true c19
    clear c19
    by_cases c20 : t445 ≤ (t439.size : Int)
    ·rw [if_pos c20] at H
     have c20b0 := eq_true c20
     have c20b1 : decide (t445 ≤ (t439.size : Int)) = true := decide_eq_true c20
     clear c20
     obtain ⟨y449, hy449⟩ : ∃ y_ : List ByteArray, y_ = (([(⟨#[48]⟩ : ByteArray), (⟨#[120]⟩ : ByteArray), (⟨#[32]⟩ : ByteArray), (⟨#[102]⟩ : ByteArray), (⟨#[45]⟩ : ByteArray)] : List ByteArray)) := ⟨_, rfl⟩
     replace H : ((spec_l6Rd_of.f k t425 t448 y449).bind fun bt452 => (if (t439.extract 0 (t445 : Int).toNat).size + bt452.1.size ≤ 9223372036854775807 then (if 0 ≤ (wrap64 (t445 + 1)) then (if (wrap64 (t445 + 1)) ≤ (t439.size : Int) then (if ((t439.extract 0 (t445 : Int).toNat) ++ bt452.1).size + (t439.extract ((wrap64 (t445 + 1)) : Int).toNat t439.size).size ≤ 9223372036854775807 then (some (((t439.extract 0 (t445 : Int).toNat) ++ bt452.1) ++ (t439.extract ((wrap64 (t445 + 1)) : Int).toNat t439.size))) else (none)) else (none)) else (none)) else (none))) = some r := by first | (rw [hy449]; with_reducible exact H) | (have H2_ := (Option.bind_some _ _).symm.trans H; rw [hy449]; with_reducible exact H2_) | (have H2_ := (Option.bind_some _ _).symm.trans H; with_reducible exact H2_) | with_reducible exact H | (rw [hy449]; exact H) | exact H
     have Ny449 := Aside0.mk hy449
     clear hy449
     replace H := tbe H
     obtain ⟨⟨t452, t453⟩, A21, H⟩ := H
     dsimp only at H
     by_cases c22 : (t439.extract 0 (t445 : Int).toNat).size + t452.size ≤ 9223372036854775807
     ·rw [if_pos c22] at H
      have c22b0 := eq_true c22
      have c22b1 : decide ((t439.extract 0 (t445 : Int).toNat).size + t452.size ≤ 9223372036854775807) = true := decide_eq_true c22
      try have c22b2 : (9223372036854775807 < (t439.extract 0 (t445 : Int).toNat).size + t452.size) = False := eq_false (Nat.not_lt.2 c22)
      have c22q : t445 ≤ (t439.size : Int) := by first | assumption | exact of_eq_true (by assumption)
      have c22z : (9223372036854775807 < t445.toNat + t452.size) = False := eq_false (by have h_ := c22; simp only [ByteArray.size_extract] at h_; omega)
      obtain ⟨ji23, hji23⟩ : ∃ j_ : Int, (wrap64 (t445 + 1)) = j_ := ⟨_, rfl⟩
      replace H : (if 0 ≤ (ji23) then (if (ji23) ≤ (t439.size : Int) then (if ((t439.extract 0 (t445 : Int).toNat) ++ t452).size + (t439.extract ((ji23) : Int).toNat t439.size).size ≤ 9223372036854775807 then (some (((t439.extract 0 (t445 : Int).toNat) ++ t452) ++ (t439.extract ((ji23) : Int).toNat t439.size))) else (none)) else (none)) else (none)) = some r := by first | (rw [hji23] at H; exact H) | (simp only [hji23] at H ⊢; exact H)
      (try rw [hji23] at A2)
      (try rw [hji23] at A3)
      (try rw [hji23] at A4)
      (try rw [hji23] at A16)
      (try rw [hji23] at A17)
      (try rw [hji23] at A21)
      have hji23w : (IntKind.i64.wrap (t445 + 1)) = ji23 := (i64_w _).trans hji23
      by_cases c24 : 0 ≤ (ji23)
      ·rw [if_pos c24] at H
       have c24b0 := eq_true c24
       have c24b1 : decide (0 ≤ (ji23)) = true := decide_eq_true c24
       clear c24
       by_cases c25 : (ji23) ≤ (t439.size : Int)
       ·rw [if_pos c25] at H
        have c25b0 := eq_true c25
        have c25b1 : decide ((ji23) ≤ (t439.size : Int)) = true := decide_eq_true c25
        clear c25
        by_cases c26 : ((t439.extract 0 (t445 : Int).toNat) ++ t452).size + (t439.extract ((ji23) : Int).toNat t439.size).size ≤ 9223372036854775807
        ·rw [if_pos c26] at H
         have c26b0 := eq_true c26
         have c26b1 : decide (((t439.extract 0 (t445 : Int).toNat) ++ t452).size + (t439.extract ((ji23) : Int).toNat t439.size).size ≤ 9223372036854775807) = true := decide_eq_true c26
         try have c26b2 : (9223372036854775807 < ((t439.extract 0 (t445 : Int).toNat) ++ t452).size + (t439.extract ((ji23) : Int).toNat t439.size).size) = False := eq_false (Nat.not_lt.2 c26)
         (try (have c26y : (9223372036854775807 < (t439.extract 0 (t445 : Int).toNat).size + t452.size + (t439.extract ((ji23) : Int).toNat t439.size).size) = False := eq_false (by have h_ := c26; simp only [ByteArray.size_append] at h_; omega)))
         have c26z : (9223372036854775807 < t445.toNat + t452.size + (t439.size - ji23.toNat)) = False := eq_false (by have h_ := c26; have hq_ : t445 ≤ (t439.size : Int) := (by first | assumption | exact of_eq_true (by assumption)); simp only [ByteArray.size_append, ByteArray.size_extract] at h_; omega)
         obtain rfl := Option.some.inj H
         go_enter Tryd.func22, Tryd.ntmps22
         try go_wp2_with (first | ((with_reducible refine gate_callee (f := 34) rfl ?_); refine goesL_ (some 7) rfl rfl Tryd.func34 (by kernel_rfl) rfl #[.slice A0 l0.length c0] rfl tq ?_; (with_reducible refine (spec_l6Open.calls _ _ l0 t425 t426 w _ ?side1 ?side2 ?side3 A2.out).mono ?_); (case side1 => exact zb); (case side2 => exact HR0.out); (case side3 => exact HC0.out); rintro e w27 ⟨g427, rfl, hi, hb, hb2⟩; refine ⟨_, rfl, ?_⟩; replace HB := Aside0.mk (hb); have HI427 := Aside0.mk (hi); (try clear hb); (try clear hb2); (try clear hk); (try clear hi)) | ((with_reducible refine gate_callee (f := 33) rfl ?_); refine goesL_ (some 9) rfl rfl Tryd.func33 (by kernel_rfl) rfl #[.pointer (some ⟨g427, 0, none⟩)] rfl tq ?_; (with_reducible refine (spec_l91Record.calls k g427 t425 t426 t428 t429 t430 t431 t434 t435 t438 w _ ?side1 ?side2 A3.out).mono ?_); (case side1 => repeat (first | (with_reducible first | exact HI427.out | apply IsS101.alloc | apply IsS101.drewN | apply IsS101.drew | apply IsS101.set_1) | exact HI427.out)); (case side2 => repeat (first | (with_reducible first | exact HB.out | apply below_alloc | apply pw_below_drewN | apply below_drew1 | refine below_set ?_ (IsS101.ge HI427.out)) | exact HB.out)); rintro e w28 ⟨v432, v436, rfl, ho0, ho1, hi, hb, hk⟩; have u_v432 := tsv Tryd.prog v432 ho0; have u_v436 := tsv Tryd.prog v436 ho1; refine ⟨_, rfl, ?_⟩; have HO433 := Aside0.mk (Kd.R_lower ho0 (below_size (by repeat (first | (with_reducible first | exact HB.out | apply below_alloc | apply pw_below_drewN | apply below_drew1 | refine below_set ?_ (IsS101.ge HI427.out)) | exact HB.out)))); have HO437 := Aside0.mk (Kd.R_lower ho1 (below_size (by repeat (first | (with_reducible first | exact HB.out | apply below_alloc | apply pw_below_drewN | apply below_drew1 | refine below_set ?_ (IsS101.ge HI427.out)) | exact HB.out)))); replace HB := Aside0.mk (hb); replace HI427 := Aside0.mk (hi); (try clear hb); (try clear hb2); (try clear hk); (try clear hi); (try clear ho0); (try clear ho1); obtain ⟨Ao29, co29, eo29⟩ := Kd.R_slice HO433.out; subst eo29; obtain ⟨Ao30, co30, eo30⟩ := Kd.R_slice HO437.out; subst eo30) | ((with_reducible refine gate_callee (f := 14) rfl ?_); refine goesL_ (some 10) rfl rfl Tryd.func14 (by kernel_rfl) rfl #[.agg #[.int .i64 t428, .int .i64 t429, .bool t430, .slice Ao29 t431.length co29, .bool t434, .slice Ao30 t435.length co30]] rfl tq ?_; (with_reducible refine (spec_RecordText.calls k t428 t429 t430 _ _ t431 t434 _ _ t435 t439 _ ?side1 ?side2 ?side3 ?side4 A4.out).mono ?_); (case side1 => repeat (first | exact (Kd.R_reads' HO433.out).2.2 | (with_reducible refine Kd.C_alloc ?_ _) | (with_reducible refine Kd.C_drewN ?_ _) | (with_reducible refine Kd.C_drew ?_))); (case side2 => exact (Kd.R_reads' HO433.out).2.1); (case side3 => repeat (first | exact (Kd.R_reads' HO437.out).2.2 | (with_reducible refine Kd.C_alloc ?_ _) | (with_reducible refine Kd.C_drewN ?_ _) | (with_reducible refine Kd.C_drew ?_))); (case side4 => exact (Kd.R_reads' HO437.out).2.1); rintro e w31 ⟨rfl, hb⟩; refine ⟨_, rfl, ?_⟩; replace HO433 := tRb HO433 hb; replace HO437 := tRb HO437 hb; replace HB := Aside0.mk (below_step (by repeat (first | (with_reducible first | exact HB.out | apply below_alloc | apply pw_below_drewN | apply below_drew1 | refine below_set ?_ (IsS101.ge HI427.out)) | exact HB.out)) hb); replace HI427 := Aside0.mk (IsS101.below (by repeat (first | (with_reducible first | exact HI427.out | apply IsS101.alloc | apply IsS101.drewN | apply IsS101.drew | apply IsS101.set_1) | exact HI427.out)) hb); (try clear hb); (try clear hb2); (try clear hk); (try clear hi)) | ((with_reducible refine gate_callee (f := 51) rfl ?_); refine goesL_ (some 19) rfl rfl Tryd.func51 (by kernel_rfl) rfl #[.pointer (some ⟨g427, 0, none⟩), .int .i64 (t439.size : Int)] rfl tq ?_; (with_reducible refine (spec_l6Rd_pick.calls k g427 t425 t438 (t439.size : Int) t445 t446 w _ ?side1 ?side2 A16.out).mono ?_); (case side1 => repeat (first | (with_reducible first | exact HI427.out | apply IsS101.alloc | apply IsS101.drewN | apply IsS101.drew | apply IsS101.set_1) | exact HI427.out)); (case side2 => repeat (first | (with_reducible first | exact HB.out | apply below_alloc | apply pw_below_drewN | apply below_drew1 | refine below_set ?_ (IsS101.ge HI427.out)) | exact HB.out)); rintro e w32 ⟨rfl, hi, hb, hk⟩; refine ⟨_, rfl, ?_⟩; replace HO433 := Aside0.mk (Kd.R_mono (Kd.R_keep (IsS101.apart (show IsS101 w _ g427 t425 t438 from by repeat (first | (with_reducible first | exact HI427.out | apply IsS101.alloc | apply IsS101.drewN | apply IsS101.drew | apply IsS101.set_1) | exact HI427.out)) (tR HO433.out) (by decide)) hk (fun _ h => h.2)) (fun _ h => h.1)); replace HO437 := Aside0.mk (Kd.R_mono (Kd.R_keep (IsS101.apart (show IsS101 w _ g427 t425 t438 from by repeat (first | (with_reducible first | exact HI427.out | apply IsS101.alloc | apply IsS101.drewN | apply IsS101.drew | apply IsS101.set_1) | exact HI427.out)) (tR HO437.out) (by decide)) hk (fun _ h => h.2)) (fun _ h => h.1)); replace HB := Aside0.mk (hb); replace HI427 := Aside0.mk (hi); (try clear hb); (try clear hb2); (try clear hk); (try clear hi)) | ((with_reducible refine gate_callee (f := 51) rfl ?_); refine goesL_ (some 21) rfl rfl Tryd.func51 (by kernel_rfl) rfl #[.pointer (some ⟨g427, 0, none⟩), .int .i64 6] rfl tq ?_; (with_reducible refine (spec_l6Rd_pick.calls k g427 t425 t446 6 t447 t448 w _ ?side1 ?side2 A17.out).mono ?_); (case side1 => repeat (first | (with_reducible first | exact HI427.out | apply IsS101.alloc | apply IsS101.drewN | apply IsS101.drew | apply IsS101.set_1) | exact HI427.out)); (case side2 => repeat (first | (with_reducible first | exact HB.out | apply below_alloc | apply pw_below_drewN | apply below_drew1 | refine below_set ?_ (IsS101.ge HI427.out)) | exact HB.out)); rintro e w33 ⟨rfl, hi, hb, hk⟩; refine ⟨_, rfl, ?_⟩; replace HO433 := Aside0.mk (Kd.R_mono (Kd.R_keep (IsS101.apart (show IsS101 w _ g427 t425 t446 from by repeat (first | (with_reducible first | exact HI427.out | apply IsS101.alloc | apply IsS101.drewN | apply IsS101.drew | apply IsS101.set_1) | exact HI427.out)) (tR HO433.out) (by decide)) hk (fun _ h => h.2)) (fun _ h => h.1)); replace HO437 := Aside0.mk (Kd.R_mono (Kd.R_keep (IsS101.apart (show IsS101 w _ g427 t425 t446 from by repeat (first | (with_reducible first | exact HI427.out | apply IsS101.alloc | apply IsS101.drewN | apply IsS101.drew | apply IsS101.set_1) | exact HI427.out)) (tR HO437.out) (by decide)) hk (fun _ h => h.2)) (fun _ h => h.1)); replace HB := Aside0.mk (hb); replace HI427 := Aside0.mk (hi); (try clear hb); (try clear hb2); (try clear hk); (try clear hi)))
         replace HO433 := Aside0.mk (Kd.R_drew HO433.out)
         replace HO437 := Aside0.mk (Kd.R_drew HO437.out)
         replace HI427 := Aside0.mk (IsS101.drew HI427.out)
         replace HB := Aside0.mk (below_drew1 HB.out)
         refine start_ (n := 13) (S := fun w' => True) (ds := []) #[false, false, false, false, false, false, false, false, false, false, false, false, false] (by kernel_rfl) rfl rfl trivial (fun hHeld => ?_); refine with_tabW spec_DrawRecordOf.tab7 spec_DrawRecordOf.bits7 (fun HT_ HW_ => ?_)
         generalize w33.drew = w34 at HO433 HO437 HI427 HB hHeld ⊢
         refine tpu 0 (some 23) #[true, false, false, false, false, false, false, false, false, false, false, false, false] ?_
         refine tpu 1 (some 24) #[true, true, false, false, false, false, false, false, false, false, false, false, false] ?_
         refine tpu 2 (some 25) #[true, true, true, false, false, false, false, false, false, false, false, false, false] ?_
         refine tpu 3 (some 26) #[true, true, true, true, false, false, false, false, false, false, false, false, false] ?_
         refine tpu 7 (some 30) #[true, true, true, true, false, false, false, true, false, false, false, false, false] ?_
         refine tpu 8 (some 31) #[true, true, true, true, false, false, false, true, true, false, false, false, false] ?_
         refine tpu 9 (some 32) #[true, true, true, true, false, false, false, true, true, true, false, false, false] ?_
         refine tpu 10 (some 33) #[true, true, true, true, false, false, false, true, true, true, true, false, false] ?_
         refine one_ (i := 4) (N := some 27) #[true, true, true, true, true, false, false, true, true, true, true, false, false] rfl rfl (one_of HT_.out (by kernel_rfl)) (by decide) (fun K hK => ?_)
         refine Kd.R_lit_step Kd.string _ 9 ?hg (N := 27) ?hd (xs := ([(⟨#[48]⟩ : ByteArray), (⟨#[120]⟩ : ByteArray), (⟨#[32]⟩ : ByteArray), (⟨#[102]⟩ : ByteArray), (⟨#[45]⟩ : ByteArray)] : List ByteArray)) (inner := [.string (⟨#[48]⟩ : ByteArray), .string (⟨#[120]⟩ : ByteArray), .string (⟨#[32]⟩ : ByteArray), .string (⟨#[102]⟩ : ByteArray), .string (⟨#[45]⟩ : ByteArray)]) (ok := fun _ => True) (okp := fun _ => True) ?hr ?hp (fun _ hk => hk) trivial (Below.refl _ _) (Nat.le_refl _) (by simp) ?_; (case hd => rfl); (case hg => rfl); (case hr => first | (go_simp; done) | (go_simp; rfl)); (case hp => exact (Reps.one (show Kd.M Kd.string _ _ _ (⟨#[48]⟩ : ByteArray) [.string (⟨#[48]⟩ : ByteArray)] from rfl) (Reps.one (show Kd.M Kd.string _ _ _ (⟨#[120]⟩ : ByteArray) [.string (⟨#[120]⟩ : ByteArray)] from rfl) (Reps.one (show Kd.M Kd.string _ _ _ (⟨#[32]⟩ : ByteArray) [.string (⟨#[32]⟩ : ByteArray)] from rfl) (Reps.one (show Kd.M Kd.string _ _ _ (⟨#[102]⟩ : ByteArray) [.string (⟨#[102]⟩ : ByteArray)] from rfl) (Reps.one (show Kd.M Kd.string _ _ _ (⟨#[45]⟩ : ByteArray) [.string (⟨#[45]⟩ : ByteArray)] from rfl) (Reps.none _ _)))))))
         intro v450 w35 ho36 hb hg_ hnew_
         clear hg_ hnew_
         (first | rw [← Ny449.out] at ho36 | (simp only [Int.reduceToNat] at ho36; rw [← Ny449.out] at ho36))
         replace HO433 := tRb HO433 hb
         replace HO437 := tRb HO437 hb
         have HO451 := Aside0.mk (Kd.R_lower ho36 (below_size (by repeat (first | (with_reducible first | exact HB.out | apply below_alloc | apply pw_below_drewN | apply below_drew1 | refine below_set ?_ (IsS101.ge HI427.out)) | exact HB.out))))
         replace HB := Aside0.mk (below_step (by repeat (first | (with_reducible first | exact HB.out | apply below_alloc | apply pw_below_drewN | apply below_drew1 | refine below_set ?_ (IsS101.ge HI427.out)) | exact HB.out)) hb)
         replace HI427 := Aside0.mk (IsS101.below (by repeat (first | (with_reducible first | exact HI427.out | apply IsS101.alloc | apply IsS101.drewN | apply IsS101.drew | apply IsS101.set_1) | exact HI427.out)) hb)
         clear hb ho36
         obtain ⟨Ao37, co37, eo37⟩ := Kd.R_slice HO451.out
         (first | subst eo37 | (injection eo37 with f1_ f2_ f3_; have f4_ := f1_.symm; have f5_ := f3_.symm; clear f1_ f2_ f3_; subst f4_; subst f5_))
         refine hK.out _ _ trivial (fun hHeld => ?_)
         clear hK K
         refine tnm (some 27) ?_
         refine one_ (i := 5) (N := some 28) #[true, true, true, true, true, true, false, true, true, true, true, false, false] rfl rfl (one_of HT_.out (by kernel_rfl)) (by decide) (fun K hK => ?_)
         refine goes_ Tryd.func50 (by kernel_rfl) rfl #[.pointer (some ⟨g427, 0, none⟩), .slice Ao37 y449.length co37] (by rfl) rfl rfl tq ?_
         with_reducible refine (spec_l6Rd_of.calls k g427 t425 t448 _ _ y449 t452 t453 w _ ?side1 ?side2 ?side3 ?side4 ?side5 A21.out).mono ?_
         (case side1 => repeat (first | (with_reducible first | exact HI427.out | apply IsS101.alloc | apply IsS101.drewN | apply IsS101.drew | apply IsS101.set_1) | exact HI427.out))
         (case side2 => repeat (first | (with_reducible first | exact HB.out | apply below_alloc | apply pw_below_drewN | apply below_drew1 | refine below_set ?_ (IsS101.ge HI427.out)) | exact HB.out))
         (case side3 => repeat (first | exact (Kd.R_reads' HO451.out).2.2 | (with_reducible refine Kd.C_alloc ?_ _) | (with_reducible refine Kd.C_drewN ?_ _) | (with_reducible refine Kd.C_drew ?_)))
         (case side4 => exact (Kd.R_reads' HO451.out).2.1)
         (case side5 => exact far_slice (IsS101.own_ne HI427.out HO451.out (by decide)))
         rintro e w38 ⟨rfl, hi, hb, hk⟩
         refine ⟨_, rfl, ?_⟩
         replace HO433 := Aside0.mk (Kd.R_mono (Kd.R_keep (IsS101.apart (show IsS101 w _ g427 t425 t448 from by repeat (first | (with_reducible first | exact HI427.out | apply IsS101.alloc | apply IsS101.drewN | apply IsS101.drew | apply IsS101.set_1) | exact HI427.out)) (tR HO433.out) (by decide)) hk (fun _ h => h.2)) (fun _ h => h.1))
         replace HO437 := Aside0.mk (Kd.R_mono (Kd.R_keep (IsS101.apart (show IsS101 w _ g427 t425 t448 from by repeat (first | (with_reducible first | exact HI427.out | apply IsS101.alloc | apply IsS101.drewN | apply IsS101.drew | apply IsS101.set_1) | exact HI427.out)) (tR HO437.out) (by decide)) hk (fun _ h => h.2)) (fun _ h => h.1))
         replace HO451 := Aside0.mk (Kd.R_mono (Kd.R_keep (IsS101.apart (show IsS101 w _ g427 t425 t448 from by repeat (first | (with_reducible first | exact HI427.out | apply IsS101.alloc | apply IsS101.drewN | apply IsS101.drew | apply IsS101.set_1) | exact HI427.out)) (tR HO451.out) (by decide)) hk (fun _ h => h.2)) (fun _ h => h.1))
         replace HB := Aside0.mk (hb)
         replace HI427 := Aside0.mk (hi)
         (try clear hb)
         (try clear hb2)
         (try clear hk)
         (try clear hi)
         refine hK.out _ _ trivial (fun hHeld => ?_)
         clear hK K
         refine tnm (some 28) ?_
         refine tpu 6 (some 29) #[true, true, true, true, true, true, true, true, true, true, true, false, false] ?_
         refine tpu 11 (some 34) #[true, true, true, true, true, true, true, true, true, true, true, true, false] ?_
         refine tpu 12 (some 2) #[true, true, true, true, true, true, true, true, true, true, true, true, true] ?_
         refine done_ (done_of HT_.out (by kernel_rfl)) ?_
         try go_wp2
         go_ret
         exact ⟨by first | rfl | (simp [errW_none, errW_some] <;> rfl) | (simp only [← hji23]; first | rfl | (simp [errW_none, errW_some] <;> rfl)) | (simp [*, errW_none, errW_some] <;> rfl), by repeat (first | (with_reducible first | exact HB.out | apply below_alloc | apply pw_below_drewN | apply below_drew1 | refine below_set ?_ (IsS101.ge HI427.out)) | exact HB.out)⟩
        ·rw [if_neg c26] at H
         exact absurd H (by simp)
       ·rw [if_neg c25] at H
        exact absurd H (by simp)
      ·rw [if_neg c24] at H
       exact absurd H (by simp)
     ·rw [if_neg c22] at H
      exact absurd H (by simp)
    ·rw [if_neg c20] at H
     exact absurd H (by simp)
   ·rw [if_neg c19] at H
    exact absurd H (by simp)
  ·rw [if_neg c18] at H
   have c18b0 : (t447 == 0) = false := beq_eq_false_iff_ne.mpr c18
   have c18b1 : (t447 != 0) = true := bne_iff_ne.mpr c18
   obtain rfl := Option.some.inj H
   go_enter Tryd.func22, Tryd.ntmps22
   go_wp2_with (first | ((with_reducible refine gate_callee (f := 34) rfl ?_); refine goesL_ (some 7) rfl rfl Tryd.func34 (by kernel_rfl) rfl #[.slice A0 l0.length c0] rfl tq ?_; (with_reducible refine (spec_l6Open.calls _ _ l0 t425 t426 w _ ?side1 ?side2 ?side3 A2.out).mono ?_); (case side1 => exact zb); (case side2 => exact HR0.out); (case side3 => exact HC0.out); rintro e w39 ⟨g427, rfl, hi, hb, hb2⟩; refine ⟨_, rfl, ?_⟩; replace HB := Aside0.mk (hb); have HI427 := Aside0.mk (hi); (try clear hb); (try clear hb2); (try clear hk); (try clear hi)) | ((with_reducible refine gate_callee (f := 33) rfl ?_); refine goesL_ (some 9) rfl rfl Tryd.func33 (by kernel_rfl) rfl #[.pointer (some ⟨g427, 0, none⟩)] rfl tq ?_; (with_reducible refine (spec_l91Record.calls k g427 t425 t426 t428 t429 t430 t431 t434 t435 t438 w _ ?side1 ?side2 A3.out).mono ?_); (case side1 => repeat (first | (with_reducible first | exact HI427.out | apply IsS101.alloc | apply IsS101.drewN | apply IsS101.drew | apply IsS101.set_1) | exact HI427.out)); (case side2 => repeat (first | (with_reducible first | exact HB.out | apply below_alloc | apply pw_below_drewN | apply below_drew1 | refine below_set ?_ (IsS101.ge HI427.out)) | exact HB.out)); rintro e w40 ⟨v432, v436, rfl, ho0, ho1, hi, hb, hk⟩; have u_v432 := tsv Tryd.prog v432 ho0; have u_v436 := tsv Tryd.prog v436 ho1; refine ⟨_, rfl, ?_⟩; have HO433 := Aside0.mk (Kd.R_lower ho0 (below_size (by repeat (first | (with_reducible first | exact HB.out | apply below_alloc | apply pw_below_drewN | apply below_drew1 | refine below_set ?_ (IsS101.ge HI427.out)) | exact HB.out)))); have HO437 := Aside0.mk (Kd.R_lower ho1 (below_size (by repeat (first | (with_reducible first | exact HB.out | apply below_alloc | apply pw_below_drewN | apply below_drew1 | refine below_set ?_ (IsS101.ge HI427.out)) | exact HB.out)))); replace HB := Aside0.mk (hb); replace HI427 := Aside0.mk (hi); (try clear hb); (try clear hb2); (try clear hk); (try clear hi); (try clear ho0); (try clear ho1); obtain ⟨Ao41, co41, eo41⟩ := Kd.R_slice HO433.out; subst eo41; obtain ⟨Ao42, co42, eo42⟩ := Kd.R_slice HO437.out; subst eo42) | ((with_reducible refine gate_callee (f := 14) rfl ?_); refine goesL_ (some 10) rfl rfl Tryd.func14 (by kernel_rfl) rfl #[.agg #[.int .i64 t428, .int .i64 t429, .bool t430, .slice Ao41 t431.length co41, .bool t434, .slice Ao42 t435.length co42]] rfl tq ?_; (with_reducible refine (spec_RecordText.calls k t428 t429 t430 _ _ t431 t434 _ _ t435 t439 _ ?side1 ?side2 ?side3 ?side4 A4.out).mono ?_); (case side1 => repeat (first | exact (Kd.R_reads' HO433.out).2.2 | (with_reducible refine Kd.C_alloc ?_ _) | (with_reducible refine Kd.C_drewN ?_ _) | (with_reducible refine Kd.C_drew ?_))); (case side2 => exact (Kd.R_reads' HO433.out).2.1); (case side3 => repeat (first | exact (Kd.R_reads' HO437.out).2.2 | (with_reducible refine Kd.C_alloc ?_ _) | (with_reducible refine Kd.C_drewN ?_ _) | (with_reducible refine Kd.C_drew ?_))); (case side4 => exact (Kd.R_reads' HO437.out).2.1); rintro e w43 ⟨rfl, hb⟩; refine ⟨_, rfl, ?_⟩; replace HO433 := tRb HO433 hb; replace HO437 := tRb HO437 hb; replace HB := Aside0.mk (below_step (by repeat (first | (with_reducible first | exact HB.out | apply below_alloc | apply pw_below_drewN | apply below_drew1 | refine below_set ?_ (IsS101.ge HI427.out)) | exact HB.out)) hb); replace HI427 := Aside0.mk (IsS101.below (by repeat (first | (with_reducible first | exact HI427.out | apply IsS101.alloc | apply IsS101.drewN | apply IsS101.drew | apply IsS101.set_1) | exact HI427.out)) hb); (try clear hb); (try clear hb2); (try clear hk); (try clear hi)) | ((with_reducible refine gate_callee (f := 51) rfl ?_); refine goesL_ (some 19) rfl rfl Tryd.func51 (by kernel_rfl) rfl #[.pointer (some ⟨g427, 0, none⟩), .int .i64 (t439.size : Int)] rfl tq ?_; (with_reducible refine (spec_l6Rd_pick.calls k g427 t425 t438 (t439.size : Int) t445 t446 w _ ?side1 ?side2 A16.out).mono ?_); (case side1 => repeat (first | (with_reducible first | exact HI427.out | apply IsS101.alloc | apply IsS101.drewN | apply IsS101.drew | apply IsS101.set_1) | exact HI427.out)); (case side2 => repeat (first | (with_reducible first | exact HB.out | apply below_alloc | apply pw_below_drewN | apply below_drew1 | refine below_set ?_ (IsS101.ge HI427.out)) | exact HB.out)); rintro e w44 ⟨rfl, hi, hb, hk⟩; refine ⟨_, rfl, ?_⟩; replace HO433 := Aside0.mk (Kd.R_mono (Kd.R_keep (IsS101.apart (show IsS101 w _ g427 t425 t438 from by repeat (first | (with_reducible first | exact HI427.out | apply IsS101.alloc | apply IsS101.drewN | apply IsS101.drew | apply IsS101.set_1) | exact HI427.out)) (tR HO433.out) (by decide)) hk (fun _ h => h.2)) (fun _ h => h.1)); replace HO437 := Aside0.mk (Kd.R_mono (Kd.R_keep (IsS101.apart (show IsS101 w _ g427 t425 t438 from by repeat (first | (with_reducible first | exact HI427.out | apply IsS101.alloc | apply IsS101.drewN | apply IsS101.drew | apply IsS101.set_1) | exact HI427.out)) (tR HO437.out) (by decide)) hk (fun _ h => h.2)) (fun _ h => h.1)); replace HB := Aside0.mk (hb); replace HI427 := Aside0.mk (hi); (try clear hb); (try clear hb2); (try clear hk); (try clear hi)) | ((with_reducible refine gate_callee (f := 51) rfl ?_); refine goesL_ (some 21) rfl rfl Tryd.func51 (by kernel_rfl) rfl #[.pointer (some ⟨g427, 0, none⟩), .int .i64 6] rfl tq ?_; (with_reducible refine (spec_l6Rd_pick.calls k g427 t425 t446 6 t447 t448 w _ ?side1 ?side2 A17.out).mono ?_); (case side1 => repeat (first | (with_reducible first | exact HI427.out | apply IsS101.alloc | apply IsS101.drewN | apply IsS101.drew | apply IsS101.set_1) | exact HI427.out)); (case side2 => repeat (first | (with_reducible first | exact HB.out | apply below_alloc | apply pw_below_drewN | apply below_drew1 | refine below_set ?_ (IsS101.ge HI427.out)) | exact HB.out)); rintro e w45 ⟨rfl, hi, hb, hk⟩; refine ⟨_, rfl, ?_⟩; replace HO433 := Aside0.mk (Kd.R_mono (Kd.R_keep (IsS101.apart (show IsS101 w _ g427 t425 t446 from by repeat (first | (with_reducible first | exact HI427.out | apply IsS101.alloc | apply IsS101.drewN | apply IsS101.drew | apply IsS101.set_1) | exact HI427.out)) (tR HO433.out) (by decide)) hk (fun _ h => h.2)) (fun _ h => h.1)); replace HO437 := Aside0.mk (Kd.R_mono (Kd.R_keep (IsS101.apart (show IsS101 w _ g427 t425 t446 from by repeat (first | (with_reducible first | exact HI427.out | apply IsS101.alloc | apply IsS101.drewN | apply IsS101.drew | apply IsS101.set_1) | exact HI427.out)) (tR HO437.out) (by decide)) hk (fun _ h => h.2)) (fun _ h => h.1)); replace HB := Aside0.mk (hb); replace HI427 := Aside0.mk (hi); (try clear hb); (try clear hb2); (try clear hk); (try clear hi)))
   go_ret
   exact ⟨by first | rfl | (simp [errW_none, errW_some] <;> rfl) | (simp [*, errW_none, errW_some] <;> rfl), by repeat (first | (with_reducible first | exact HB.out | apply below_alloc | apply pw_below_drewN | apply below_drew1 | refine below_set ?_ (IsS101.ge HI427.out)) | exact HB.out)⟩

def laws_sameInts.l0 : Nat → List Int → List Int → Int → Option (Bool)
 | 0, _, _, _ => none
 | k + 1, x0, x1, x5 => if x5 < (x0.length : Int) then (if 0 ≤ x5 then (if x5 < (x1.length : Int) then (if (rd x0 x5) = (rd x1 x5) then (laws_sameInts.l0 k x0 x1 (wrap64 (x5 + 1))) else (some false)) else (none)) else (none)) else (some true)
def laws_sameInts.f (k : Nat) (l0 : List Int) (l1 : List Int) : Option (Bool) := if (l0.length : Int) = (l1.length : Int) then (laws_sameInts.l0 k l0 l1 0) else (some false)
set_option maxHeartbeats 8000000 in
set_option maxRecDepth 100000 in
theorem laws_sameInts.calls (k : Nat) (A0 : Option Addr) (c0 : Nat) (l0 : List Int) (A1 : Option Addr) (c1 : Nat) (l1 : List Int) (r : Bool) (w : World) (hr0 : Kd.C (Kd.int .i64) w A0 l0.length l0) (hc0 : l0.length ≤ c0) (hr1 : Kd.C (Kd.int .i64) w A1 l1.length l1) (hc1 : l1.length ≤ c1) (h : laws_sameInts.f k l0 l1 = some r) :
  Calls Tryd.prog 52 #[.slice A0 l0.length c0, .slice A1 l1.length c1] w fun e w' => e = .returned (.bool r) ∧ Drawn0 w w' := by
 have HR0 := Aside0.mk hr0
 have HC0 := Aside0.mk hc0
 clear hr0 hc0
 have HR1 := Aside0.mk hr1
 have HC1 := Aside0.mk hc1
 clear hr1 hc1
 have H : (if (l0.length : Int) = (l1.length : Int) then (laws_sameInts.l0 k l0 l1 0) else (some false)) = some r := h
 clear h
 by_cases c3 : (l0.length : Int) = (l1.length : Int)
 ·rw [if_pos c3] at H
  have c3b0 : ((l0.length : Int) == (l1.length : Int)) = true := beq_iff_eq.mpr c3
  have c3b1 : ((l0.length : Int) != (l1.length : Int)) = false := bne_eq_false_iff_eq.mpr c3
  have c3b2 : (l0.length == l1.length) = true := by first | simpa using c3 | (simp at c3 ⊢; omega)
  clear c3
  have H' := Aside0.mk H
  clear H
  go_enter Tryd.func52, Tryd.ntmps52
  go_wp2
  repeat (go_quiet (fail); try go_wp2)
  go_loopg [5] k (fun kq v5 w' => ∃ (x5_1 : Int), v5 = .int .i64 x5_1 ∧ Aside0 (laws_sameInts.l0 kq l0 l1 x5_1 = some r) ∧ Aside0 (kq ≤ k) ∧ Drawn0 w w')
  case atStart => exact ⟨(0), tr, H', ⟨Nat.le_refl _⟩, by repeat (first | exact Drawn0.refl _ | apply Drawn0.step)⟩
  case round =>
   clear H'
   try clear c1; try clear c3; try clear c3b0; try clear c3b1; try clear c3b2
   obtain ⟨x5_1, rfl, HA, HK1, ⟨m1, rfl⟩⟩ := hrel
   cases gk with
   | zero => exact absurd HA.out (by simp [laws_sameInts.l0])
   | succ k1 =>
    have H := HA.out
    clear HA
    simp only [laws_sameInts.l0] at H
    by_cases c4 : x5_1 < (l0.length : Int)
    ·rw [if_pos c4] at H
     have c4b0 : decide (x5_1 < (l0.length : Int)) = true := decide_eq_true c4
     clear c4
     by_cases c5 : 0 ≤ x5_1
     ·rw [if_pos c5] at H
      have c5b0 : decide (0 ≤ x5_1) = true := decide_eq_true c5
      clear c5
      by_cases c6 : x5_1 < (l1.length : Int)
      ·rw [if_pos c6] at H
       have c6b0 : decide (x5_1 < (l1.length : Int)) = true := decide_eq_true c6
       clear c6
       by_cases c7 : (rd l0 x5_1) = (rd l1 x5_1)
       ·rw [if_pos c7] at H
        have c7b0 : ((rd l0 x5_1) == (rd l1 x5_1)) = true := beq_iff_eq.mpr c7
        have c7b1 : ((rd l0 x5_1) != (rd l1 x5_1)) = false := bne_eq_false_iff_eq.mpr c7
        clear c7
        have H' := Aside0.mk H
        clear H
        have p454 : 0 ≤ (x5_1 : Int) := td
        have q454 : x5_1 < (l0.length : Int) := td
        obtain ⟨ad454, e454, hx454_0⟩ := Kd.at_int HR0.out x5_1 p454 q454
        cases e454
        replace p454 := eq_true p454
        replace q454 := eq_true q454
        have p455 : 0 ≤ (x5_1 : Int) := td
        have q455 : x5_1 < (l1.length : Int) := td
        obtain ⟨ad455, e455, hx455_0⟩ := Kd.at_int HR1.out x5_1 p455 q455
        cases e455
        replace p455 := eq_true p455
        replace q455 := eq_true q455
        go_wp2
        repeat (go_quiet (fail); try go_wp2)
        go_roundg k1
        case measure => have := HK1.out; omega
        case rel => exact ⟨(wrap64 (x5_1 + 1)), tr, H', ⟨by have := HK1.out; omega⟩, by repeat (first | exact Drawn0.refl _ | apply Drawn0.step)⟩
       ·rw [if_neg c7] at H
        have c7b0 : ((rd l0 x5_1) == (rd l1 x5_1)) = false := beq_eq_false_iff_ne.mpr c7
        have c7b1 : ((rd l0 x5_1) != (rd l1 x5_1)) = true := bne_iff_ne.mpr c7
        obtain rfl := Option.some.inj H
        have p454 : 0 ≤ (x5_1 : Int) := td
        have q454 : x5_1 < (l0.length : Int) := td
        obtain ⟨ad454, e454, hx454_0⟩ := Kd.at_int HR0.out x5_1 p454 q454
        cases e454
        replace p454 := eq_true p454
        replace q454 := eq_true q454
        have p455 : 0 ≤ (x5_1 : Int) := td
        have q455 : x5_1 < (l1.length : Int) := td
        obtain ⟨ad455, e455, hx455_0⟩ := Kd.at_int HR1.out x5_1 p455 q455
        cases e455
        replace p455 := eq_true p455
        replace q455 := eq_true q455
        go_wp2
        repeat (go_quiet (fail); try go_wp2)
        go_ret
        exact ⟨by first | rfl | (simp; done) | (simp [*]; done), by repeat (first | exact Drawn0.refl _ | apply Drawn0.step)⟩
      ·rw [if_neg c6] at H
       exact absurd H (by simp)
     ·rw [if_neg c5] at H
      exact absurd H (by simp)
    ·rw [if_neg c4] at H
     have c4b0 : decide (x5_1 < (l0.length : Int)) = false := decide_eq_false c4
     clear c4
     obtain rfl := Option.some.inj H
     go_wp2
     repeat (go_quiet (fail); try go_wp2)
     go_ret
     exact ⟨by first | rfl | (simp; done) | (simp [*]; done), by repeat (first | exact Drawn0.refl _ | apply Drawn0.step)⟩
 ·rw [if_neg c3] at H
  have c3b0 : ((l0.length : Int) == (l1.length : Int)) = false := beq_eq_false_iff_ne.mpr c3
  have c3b1 : ((l0.length : Int) != (l1.length : Int)) = true := bne_iff_ne.mpr c3
  have c3b2 : (l0.length == l1.length) = false := by first | simpa using c3 | (simp at c3 ⊢; omega)
  obtain rfl := Option.some.inj H
  go_enter Tryd.func52, Tryd.ntmps52
  go_wp2
  repeat (go_quiet (fail); try go_wp2)
  go_ret
  exact ⟨by first | rfl | (simp; done) | (simp [*]; done), by repeat (first | exact Drawn0.refl _ | apply Drawn0.step)⟩

def laws_sameRecord.f (k : Nat) (a0_0 : Int) (a0_1 : Int) (a0_2 : Bool) (l0_3 : List Int) (a0_4 : Bool) (l0_5 : List Int) (a1_0 : Int) (a1_1 : Int) (a1_2 : Bool) (l1_3 : List Int) (a1_4 : Bool) (l1_5 : List Int) : Option (Bool) := if a0_0 = a1_0 then (if a0_1 = a1_1 then (if (a0_2 == a1_2) = true then (if (a0_4 == a1_4) = true then ((laws_sameInts.f k l0_3 l1_3).bind fun t458 => (if t458 = true then ((laws_sameInts.f k l0_5 l1_5).bind fun t459 => (some t459)) else (some false))) else (some false)) else (some false)) else (some false)) else (some false)
set_option maxHeartbeats 8000000 in
set_option maxRecDepth 100000 in
theorem laws_sameRecord.calls (k : Nat) (a0_0 : Int) (a0_1 : Int) (a0_2 : Bool) (A0_3 : Option Addr) (c0_3 : Nat) (l0_3 : List Int) (a0_4 : Bool) (A0_5 : Option Addr) (c0_5 : Nat) (l0_5 : List Int) (a1_0 : Int) (a1_1 : Int) (a1_2 : Bool) (A1_3 : Option Addr) (c1_3 : Nat) (l1_3 : List Int) (a1_4 : Bool) (A1_5 : Option Addr) (c1_5 : Nat) (l1_5 : List Int) (r : Bool) (w : World) (hr0_3 : Kd.C (Kd.int .i64) w A0_3 l0_3.length l0_3) (hc0_3 : l0_3.length ≤ c0_3) (hr0_5 : Kd.C (Kd.int .i64) w A0_5 l0_5.length l0_5) (hc0_5 : l0_5.length ≤ c0_5) (hr1_3 : Kd.C (Kd.int .i64) w A1_3 l1_3.length l1_3) (hc1_3 : l1_3.length ≤ c1_3) (hr1_5 : Kd.C (Kd.int .i64) w A1_5 l1_5.length l1_5) (hc1_5 : l1_5.length ≤ c1_5) (h : laws_sameRecord.f k a0_0 a0_1 a0_2 l0_3 a0_4 l0_5 a1_0 a1_1 a1_2 l1_3 a1_4 l1_5 = some r) :
  Calls Tryd.prog 23 #[.agg #[.int .i64 a0_0, .int .i64 a0_1, .bool a0_2, .slice A0_3 l0_3.length c0_3, .bool a0_4, .slice A0_5 l0_5.length c0_5], .agg #[.int .i64 a1_0, .int .i64 a1_1, .bool a1_2, .slice A1_3 l1_3.length c1_3, .bool a1_4, .slice A1_5 l1_5.length c1_5]] w fun e w' => e = .returned (.bool r) ∧ Below w.heap.size w w' := by
 have hu25 := Tryd.underlying25
 have HR0_3 := Aside0.mk hr0_3
 have HC0_3 := Aside0.mk hc0_3
 clear hr0_3 hc0_3
 have HR0_5 := Aside0.mk hr0_5
 have HC0_5 := Aside0.mk hc0_5
 clear hr0_5 hc0_5
 have HR1_3 := Aside0.mk hr1_3
 have HC1_3 := Aside0.mk hc1_3
 clear hr1_3 hc1_3
 have HR1_5 := Aside0.mk hr1_5
 have HC1_5 := Aside0.mk hc1_5
 clear hr1_5 hc1_5
 have HB := Aside0.mk (Below.refl w.heap.size w)
 have H : (if a0_0 = a1_0 then (if a0_1 = a1_1 then (if (a0_2 == a1_2) = true then (if (a0_4 == a1_4) = true then ((laws_sameInts.f k l0_3 l1_3).bind fun t458 => (if t458 = true then ((laws_sameInts.f k l0_5 l1_5).bind fun t459 => (some t459)) else (some false))) else (some false)) else (some false)) else (some false)) else (some false)) = some r := h
 clear h
 by_cases c3 : a0_0 = a1_0
 ·rw [if_pos c3] at H
  have c3b0 : (a0_0 == a1_0) = true := beq_iff_eq.mpr c3
  have c3b1 : (a0_0 != a1_0) = false := bne_eq_false_iff_eq.mpr c3
  clear c3
  by_cases c4 : a0_1 = a1_1
  ·rw [if_pos c4] at H
   have c4b0 : (a0_1 == a1_1) = true := beq_iff_eq.mpr c4
   have c4b1 : (a0_1 != a1_1) = false := bne_eq_false_iff_eq.mpr c4
   clear c4
   by_cases c5 : (a0_2 == a1_2) = true
   ·rw [if_pos c5] at H
    have c5b0 : (a0_2 == a1_2) = true := c5
    (try (have c5b1 : decide (a0_2 = a1_2) = true := by simpa using c5))
    (try (have c5b2 : (a0_2 == a1_2) = true := by simpa using c5))
    clear c5
    by_cases c6 : (a0_4 == a1_4) = true
    ·rw [if_pos c6] at H
     have c6b0 : (a0_4 == a1_4) = true := c6
     (try (have c6b1 : decide (a0_4 = a1_4) = true := by simpa using c6))
     (try (have c6b2 : (a0_4 == a1_4) = true := by simpa using c6))
     clear c6
     replace H := tbe H
     obtain ⟨t458, A7, H⟩ := H
     by_cases c8 : t458 = true
     ·subst c8
      rw [if_pos rfl] at H
      replace H := tbe H
      obtain ⟨t459, A9, H⟩ := H
      obtain rfl := Option.some.inj H
      go_enter Tryd.func23, Tryd.ntmps23
      go_wp2_with (first | ((with_reducible refine gate_dst (N := 2) rfl ?_); refine box_event ?hg (N := 2) ?hd (cs := #[.int .i64 a0_0, .int .i64 a0_1, .bool a0_2, .slice A0_3 l0_3.length c0_3, .bool a0_4, .slice A0_5 l0_5.length c0_5]) (t := 25) ?hr ?_; (case hd => rfl); (case hg => rfl); (case hr => first | (go_simp; done) | (go_simp; rfl)); intro gb456 hg w10 hbox hb; have BK456 := Aside0.mk (hbox); have GW456 := tge HB hg; have GE456 := tge HB hg; replace HB := tBs HB hb; clear hb hbox hg) | ((with_reducible refine gate_dst (N := 3) rfl ?_); refine box_event ?hg (N := 3) ?hd (cs := #[.int .i64 a1_0, .int .i64 a1_1, .bool a1_2, .slice A1_3 l1_3.length c1_3, .bool a1_4, .slice A1_5 l1_5.length c1_5]) (t := 25) ?hr ?_; (case hd => rfl); (case hg => rfl); (case hr => first | (go_simp; done) | (go_simp; rfl)); intro gb457 hg w11 hbox hb; have BK457 := Aside0.mk (hbox); have GW457 := tge HB hg; have GE457 := tge HB hg; replace HB := tBs HB hb; have NB456_457 := tlt BK456 hg; have NB457_456 := tgt BK456 hg; replace BK456 := tBb BK456 hb; clear hb hbox hg; have hnb12 := NB456_457.out; have hnc12 := NB457_456.out; obtain ⟨hcz13_0, hcz13_1, hcz13_2, hcz13_3, hcz13_4, hcz13_5, hfz13_0, hfz13_1, hfz13_2, hfz13_3, hfz13_4, hfz13_5⟩ := cells6 BK456.out; obtain ⟨hcz14_0, hcz14_1, hcz14_2, hcz14_3, hcz14_4, hcz14_5, hfz14_0, hfz14_1, hfz14_2, hfz14_3, hfz14_4, hfz14_5⟩ := cells6 BK457.out) | (go_at_call 52; (with_reducible refine (laws_sameInts.calls k _ _ l0_3 _ _ l1_3 true _ ?side1 ?side2 ?side3 ?side4 A7.out).mono ?_); (case side1 => exact tC (Kd.C_below HR0_3.out HB.out)); (case side2 => exact HC0_3.out); (case side3 => exact tC (Kd.C_below HR1_3.out HB.out)); (case side4 => exact HC1_3.out); rintro e w' ⟨rfl, ⟨nd, rfl⟩⟩) | (go_at_call 52; (with_reducible refine (laws_sameInts.calls k _ _ l0_5 _ _ l1_5 t459 _ ?side1 ?side2 ?side3 ?side4 A9.out).mono ?_); (case side1 => exact tC (Kd.C_below HR0_5.out zb)); (case side2 => exact HC0_5.out); (case side3 => exact tC (Kd.C_below HR1_5.out zb)); (case side4 => exact HC1_5.out); rintro e w' ⟨rfl, ⟨nd, rfl⟩⟩))
      go_ret
      exact ⟨by first | rfl | (simp [errW_none, errW_some] <;> rfl) | (simp [*, errW_none, errW_some] <;> rfl), zb⟩
     ·replace c8 := Bool.eq_false_iff.mpr c8
      subst c8
      rw [if_neg (show ¬ (false = true) by decide)] at H
      obtain rfl := Option.some.inj H
      go_enter Tryd.func23, Tryd.ntmps23
      go_wp2_with (first | ((with_reducible refine gate_dst (N := 2) rfl ?_); refine box_event ?hg (N := 2) ?hd (cs := #[.int .i64 a0_0, .int .i64 a0_1, .bool a0_2, .slice A0_3 l0_3.length c0_3, .bool a0_4, .slice A0_5 l0_5.length c0_5]) (t := 25) ?hr ?_; (case hd => rfl); (case hg => rfl); (case hr => first | (go_simp; done) | (go_simp; rfl)); intro gb456 hg w15 hbox hb; have BK456 := Aside0.mk (hbox); have GW456 := tge HB hg; have GE456 := tge HB hg; replace HB := tBs HB hb; clear hb hbox hg) | ((with_reducible refine gate_dst (N := 3) rfl ?_); refine box_event ?hg (N := 3) ?hd (cs := #[.int .i64 a1_0, .int .i64 a1_1, .bool a1_2, .slice A1_3 l1_3.length c1_3, .bool a1_4, .slice A1_5 l1_5.length c1_5]) (t := 25) ?hr ?_; (case hd => rfl); (case hg => rfl); (case hr => first | (go_simp; done) | (go_simp; rfl)); intro gb457 hg w16 hbox hb; have BK457 := Aside0.mk (hbox); have GW457 := tge HB hg; have GE457 := tge HB hg; replace HB := tBs HB hb; have NB456_457 := tlt BK456 hg; have NB457_456 := tgt BK456 hg; replace BK456 := tBb BK456 hb; clear hb hbox hg; have hnb17 := NB456_457.out; have hnc17 := NB457_456.out; obtain ⟨hcz18_0, hcz18_1, hcz18_2, hcz18_3, hcz18_4, hcz18_5, hfz18_0, hfz18_1, hfz18_2, hfz18_3, hfz18_4, hfz18_5⟩ := cells6 BK456.out; obtain ⟨hcz19_0, hcz19_1, hcz19_2, hcz19_3, hcz19_4, hcz19_5, hfz19_0, hfz19_1, hfz19_2, hfz19_3, hfz19_4, hfz19_5⟩ := cells6 BK457.out) | (go_at_call 52; (with_reducible refine (laws_sameInts.calls k _ _ l0_3 _ _ l1_3 false _ ?side1 ?side2 ?side3 ?side4 A7.out).mono ?_); (case side1 => exact tC (Kd.C_below HR0_3.out HB.out)); (case side2 => exact HC0_3.out); (case side3 => exact tC (Kd.C_below HR1_3.out HB.out)); (case side4 => exact HC1_3.out); rintro e w' ⟨rfl, ⟨nd, rfl⟩⟩))
      go_ret
      exact ⟨by first | rfl | (simp [errW_none, errW_some] <;> rfl) | (simp [*, errW_none, errW_some] <;> rfl), zb⟩
    ·rw [if_neg c6] at H
     have c6b0 : (a0_4 == a1_4) = false := by simpa using c6
     (try (have c6b1 : decide (a0_4 = a1_4) = false := by simpa using c6))
     (try (have c6b2 : (a0_4 == a1_4) = false := by simpa using c6))
     (try (have c6b3 : ¬ (a0_4 = a1_4) := by simpa using c6))
     clear c6
     obtain rfl := Option.some.inj H
     go_enter Tryd.func23, Tryd.ntmps23
     go_wp2_with (first | ((with_reducible refine gate_dst (N := 2) rfl ?_); refine box_event ?hg (N := 2) ?hd (cs := #[.int .i64 a0_0, .int .i64 a0_1, .bool a0_2, .slice A0_3 l0_3.length c0_3, .bool a0_4, .slice A0_5 l0_5.length c0_5]) (t := 25) ?hr ?_; (case hd => rfl); (case hg => rfl); (case hr => first | (go_simp; done) | (go_simp; rfl)); intro gb456 hg w20 hbox hb; have BK456 := Aside0.mk (hbox); have GW456 := tge HB hg; have GE456 := tge HB hg; replace HB := tBs HB hb; clear hb hbox hg) | ((with_reducible refine gate_dst (N := 3) rfl ?_); refine box_event ?hg (N := 3) ?hd (cs := #[.int .i64 a1_0, .int .i64 a1_1, .bool a1_2, .slice A1_3 l1_3.length c1_3, .bool a1_4, .slice A1_5 l1_5.length c1_5]) (t := 25) ?hr ?_; (case hd => rfl); (case hg => rfl); (case hr => first | (go_simp; done) | (go_simp; rfl)); intro gb457 hg w21 hbox hb; have BK457 := Aside0.mk (hbox); have GW457 := tge HB hg; have GE457 := tge HB hg; replace HB := tBs HB hb; have NB456_457 := tlt BK456 hg; have NB457_456 := tgt BK456 hg; replace BK456 := tBb BK456 hb; clear hb hbox hg; have hnb22 := NB456_457.out; have hnc22 := NB457_456.out; obtain ⟨hcz23_0, hcz23_1, hcz23_2, hcz23_3, hcz23_4, hcz23_5, hfz23_0, hfz23_1, hfz23_2, hfz23_3, hfz23_4, hfz23_5⟩ := cells6 BK456.out; obtain ⟨hcz24_0, hcz24_1, hcz24_2, hcz24_3, hcz24_4, hcz24_5, hfz24_0, hfz24_1, hfz24_2, hfz24_3, hfz24_4, hfz24_5⟩ := cells6 BK457.out))
     go_ret
     exact ⟨by first | rfl | (simp [errW_none, errW_some] <;> rfl) | (simp [*, errW_none, errW_some] <;> rfl), zb⟩
   ·rw [if_neg c5] at H
    have c5b0 : (a0_2 == a1_2) = false := by simpa using c5
    (try (have c5b1 : decide (a0_2 = a1_2) = false := by simpa using c5))
    (try (have c5b2 : (a0_2 == a1_2) = false := by simpa using c5))
    (try (have c5b3 : ¬ (a0_2 = a1_2) := by simpa using c5))
    clear c5
    obtain rfl := Option.some.inj H
    go_enter Tryd.func23, Tryd.ntmps23
    go_wp2_with (first | ((with_reducible refine gate_dst (N := 2) rfl ?_); refine box_event ?hg (N := 2) ?hd (cs := #[.int .i64 a0_0, .int .i64 a0_1, .bool a0_2, .slice A0_3 l0_3.length c0_3, .bool a0_4, .slice A0_5 l0_5.length c0_5]) (t := 25) ?hr ?_; (case hd => rfl); (case hg => rfl); (case hr => first | (go_simp; done) | (go_simp; rfl)); intro gb456 hg w25 hbox hb; have BK456 := Aside0.mk (hbox); have GW456 := tge HB hg; have GE456 := tge HB hg; replace HB := tBs HB hb; clear hb hbox hg) | ((with_reducible refine gate_dst (N := 3) rfl ?_); refine box_event ?hg (N := 3) ?hd (cs := #[.int .i64 a1_0, .int .i64 a1_1, .bool a1_2, .slice A1_3 l1_3.length c1_3, .bool a1_4, .slice A1_5 l1_5.length c1_5]) (t := 25) ?hr ?_; (case hd => rfl); (case hg => rfl); (case hr => first | (go_simp; done) | (go_simp; rfl)); intro gb457 hg w26 hbox hb; have BK457 := Aside0.mk (hbox); have GW457 := tge HB hg; have GE457 := tge HB hg; replace HB := tBs HB hb; have NB456_457 := tlt BK456 hg; have NB457_456 := tgt BK456 hg; replace BK456 := tBb BK456 hb; clear hb hbox hg; have hnb27 := NB456_457.out; have hnc27 := NB457_456.out; obtain ⟨hcz28_0, hcz28_1, hcz28_2, hcz28_3, hcz28_4, hcz28_5, hfz28_0, hfz28_1, hfz28_2, hfz28_3, hfz28_4, hfz28_5⟩ := cells6 BK456.out; obtain ⟨hcz29_0, hcz29_1, hcz29_2, hcz29_3, hcz29_4, hcz29_5, hfz29_0, hfz29_1, hfz29_2, hfz29_3, hfz29_4, hfz29_5⟩ := cells6 BK457.out))
    go_ret
    exact ⟨by first | rfl | (simp [errW_none, errW_some] <;> rfl) | (simp [*, errW_none, errW_some] <;> rfl), zb⟩
  ·rw [if_neg c4] at H
   have c4b0 : (a0_1 == a1_1) = false := beq_eq_false_iff_ne.mpr c4
   have c4b1 : (a0_1 != a1_1) = true := bne_iff_ne.mpr c4
   obtain rfl := Option.some.inj H
   go_enter Tryd.func23, Tryd.ntmps23
   go_wp2_with (first | ((with_reducible refine gate_dst (N := 2) rfl ?_); refine box_event ?hg (N := 2) ?hd (cs := #[.int .i64 a0_0, .int .i64 a0_1, .bool a0_2, .slice A0_3 l0_3.length c0_3, .bool a0_4, .slice A0_5 l0_5.length c0_5]) (t := 25) ?hr ?_; (case hd => rfl); (case hg => rfl); (case hr => first | (go_simp; done) | (go_simp; rfl)); intro gb456 hg w30 hbox hb; have BK456 := Aside0.mk (hbox); have GW456 := tge HB hg; have GE456 := tge HB hg; replace HB := tBs HB hb; clear hb hbox hg) | ((with_reducible refine gate_dst (N := 3) rfl ?_); refine box_event ?hg (N := 3) ?hd (cs := #[.int .i64 a1_0, .int .i64 a1_1, .bool a1_2, .slice A1_3 l1_3.length c1_3, .bool a1_4, .slice A1_5 l1_5.length c1_5]) (t := 25) ?hr ?_; (case hd => rfl); (case hg => rfl); (case hr => first | (go_simp; done) | (go_simp; rfl)); intro gb457 hg w31 hbox hb; have BK457 := Aside0.mk (hbox); have GW457 := tge HB hg; have GE457 := tge HB hg; replace HB := tBs HB hb; have NB456_457 := tlt BK456 hg; have NB457_456 := tgt BK456 hg; replace BK456 := tBb BK456 hb; clear hb hbox hg; have hnb32 := NB456_457.out; have hnc32 := NB457_456.out; obtain ⟨hcz33_0, hcz33_1, hcz33_2, hcz33_3, hcz33_4, hcz33_5, hfz33_0, hfz33_1, hfz33_2, hfz33_3, hfz33_4, hfz33_5⟩ := cells6 BK456.out; obtain ⟨hcz34_0, hcz34_1, hcz34_2, hcz34_3, hcz34_4, hcz34_5, hfz34_0, hfz34_1, hfz34_2, hfz34_3, hfz34_4, hfz34_5⟩ := cells6 BK457.out))
   go_ret
   exact ⟨by first | rfl | (simp [errW_none, errW_some] <;> rfl) | (simp [*, errW_none, errW_some] <;> rfl), zb⟩
 ·rw [if_neg c3] at H
  have c3b0 : (a0_0 == a1_0) = false := beq_eq_false_iff_ne.mpr c3
  have c3b1 : (a0_0 != a1_0) = true := bne_iff_ne.mpr c3
  obtain rfl := Option.some.inj H
  go_enter Tryd.func23, Tryd.ntmps23
  go_wp2_with (first | ((with_reducible refine gate_dst (N := 2) rfl ?_); refine box_event ?hg (N := 2) ?hd (cs := #[.int .i64 a0_0, .int .i64 a0_1, .bool a0_2, .slice A0_3 l0_3.length c0_3, .bool a0_4, .slice A0_5 l0_5.length c0_5]) (t := 25) ?hr ?_; (case hd => rfl); (case hg => rfl); (case hr => first | (go_simp; done) | (go_simp; rfl)); intro gb456 hg w35 hbox hb; have BK456 := Aside0.mk (hbox); have GW456 := tge HB hg; have GE456 := tge HB hg; replace HB := tBs HB hb; clear hb hbox hg) | ((with_reducible refine gate_dst (N := 3) rfl ?_); refine box_event ?hg (N := 3) ?hd (cs := #[.int .i64 a1_0, .int .i64 a1_1, .bool a1_2, .slice A1_3 l1_3.length c1_3, .bool a1_4, .slice A1_5 l1_5.length c1_5]) (t := 25) ?hr ?_; (case hd => rfl); (case hg => rfl); (case hr => first | (go_simp; done) | (go_simp; rfl)); intro gb457 hg w36 hbox hb; have BK457 := Aside0.mk (hbox); have GW457 := tge HB hg; have GE457 := tge HB hg; replace HB := tBs HB hb; have NB456_457 := tlt BK456 hg; have NB457_456 := tgt BK456 hg; replace BK456 := tBb BK456 hb; clear hb hbox hg; have hnb37 := NB456_457.out; have hnc37 := NB457_456.out; obtain ⟨hcz38_0, hcz38_1, hcz38_2, hcz38_3, hcz38_4, hcz38_5, hfz38_0, hfz38_1, hfz38_2, hfz38_3, hfz38_4, hfz38_5⟩ := cells6 BK456.out; obtain ⟨hcz39_0, hcz39_1, hcz39_2, hcz39_3, hcz39_4, hcz39_5, hfz39_0, hfz39_1, hfz39_2, hfz39_3, hfz39_4, hfz39_5⟩ := cells6 BK457.out))
  go_ret
  exact ⟨by first | rfl | (simp [errW_none, errW_some] <;> rfl) | (simp [*, errW_none, errW_some] <;> rfl), zb⟩

end Go.Proofs.YteoicjlhkaljbaaDoor.G

namespace Go.Proofs.YteoicjlhkaljbaaDoor.G
open Go.RowKit Go.Proofs.YteoicjlhkaljbaaDoorW.PrintWords Go.Proofs.YteoicjlhkaljbaaDoorW.PrintLast Go.Proofs.YteoicjlhkaljbaaDoorW.PrintMore
attribute [local go_sem] max2_int min2_int max_two min_two max_three min_three max_four min_four   -- for this text's walks alone
set_option linter.unusedVariables false
set_option linter.unusedSimpArgs false

def laws_FnRecordOf.j0 : Nat → ByteArray → Bool → Bool → Bool → Int → Int → Bool → List Int → Bool → List Int → Int → Int → Bool → List Int → Bool → List Int → Option (Bool)
 | 0, _, _, _, _, _, _, _, _, _, _, _, _, _, _, _, _ => none
 | k + 1, x3, x5, x7, x35, x562000, x562001, x562002, x562003, x562004, x562005, x574000, x574001, x574002, x574003, x574004, x574005 => if x35 = true then (if (x5 == x7) = true then ((laws_sameRecord.f k x562000 x562001 x562002 x562003 x562004 x562005 x574000 x574001 x574002 x574003 x574004 x574005).bind fun t575 => (some t575)) else (some false)) else ((impl_RecordValid.f k x562000 x562001 x562002 x562003 x562004 x562005).bind fun t576 => (if t576 = true then ((impl_RecordText.f k x562000 x562001 x562002 x562003 x562004 x562005).bind fun t577 => (some (t577.toList == x3.toList))) else (some false)))
def laws_FnRecordOf.f (k : Nat) (l0 : List Int) : Option (Bool) := if (l0.length : Int) > 1048576 then (some true) else ((spec_DrawRecordOf.f k l0).bind fun t549 => ((impl_RecordOf.f k t549).bind fun bt550 => ((spec_RecordOf.f k t549).bind fun bt562 => (if (bt550.2.2.2.2.2.2 != bt562.2.2.2.2.2.2) = true then (laws_FnRecordOf.j0 k t549 bt550.2.2.2.2.2.2 bt562.2.2.2.2.2.2 true bt550.1 bt550.2.1 bt550.2.2.1 bt550.2.2.2.1 bt550.2.2.2.2.1 bt550.2.2.2.2.2.1 bt562.1 bt562.2.1 bt562.2.2.1 bt562.2.2.2.1 bt562.2.2.2.2.1 bt562.2.2.2.2.2.1) else ((laws_sameRecord.f k bt550.1 bt550.2.1 bt550.2.2.1 bt550.2.2.2.1 bt550.2.2.2.2.1 bt550.2.2.2.2.2.1 bt562.1 bt562.2.1 bt562.2.2.1 bt562.2.2.2.1 bt562.2.2.2.2.1 bt562.2.2.2.2.2.1).bind fun t574 => (if t574 = true then (laws_FnRecordOf.j0 k t549 bt550.2.2.2.2.2.2 bt562.2.2.2.2.2.2 (!bt550.2.2.2.2.2.2) bt550.1 bt550.2.1 bt550.2.2.1 bt550.2.2.2.1 bt550.2.2.2.2.1 bt550.2.2.2.2.2.1 bt562.1 bt562.2.1 bt562.2.2.1 bt562.2.2.2.1 bt562.2.2.2.2.1 bt562.2.2.2.2.2.1) else (laws_FnRecordOf.j0 k t549 bt550.2.2.2.2.2.2 bt562.2.2.2.2.2.2 true bt550.1 bt550.2.1 bt550.2.2.1 bt550.2.2.2.1 bt550.2.2.2.2.1 bt550.2.2.2.2.2.1 bt562.1 bt562.2.1 bt562.2.2.1 bt562.2.2.2.1 bt562.2.2.2.2.1 bt562.2.2.2.2.2.1)))))))
set_option maxHeartbeats 40000000 in
set_option maxRecDepth 100000 in
theorem laws_FnRecordOf.calls [ErrA] (k : Nat) (A0 : Option Addr) (c0 : Nat) (l0 : List Int) (r : Bool) (w : World) (hE : ErrOk [0, 1] w) (hr0 : Kd.C (Kd.int .u8) w A0 l0.length l0) (hc0 : l0.length ≤ c0) (h : laws_FnRecordOf.f k l0 = some r) :
  Calls Tryd.prog 8 #[.slice A0 l0.length c0] w fun e w' => e = .returned (.bool r) ∧ Below w.heap.size w w' := by
 have HE := Aside0.mk hE
 clear hE
 have hu25 := Tryd.underlying25
 have HR0 := Aside0.mk hr0
 have HC0 := Aside0.mk hc0
 clear hr0 hc0
 have HB := Aside0.mk (Below.refl w.heap.size w)
 have H : (if (l0.length : Int) > 1048576 then (some true) else ((spec_DrawRecordOf.f k l0).bind fun t549 => ((impl_RecordOf.f k t549).bind fun bt550 => ((spec_RecordOf.f k t549).bind fun bt562 => (if (bt550.2.2.2.2.2.2 != bt562.2.2.2.2.2.2) = true then (laws_FnRecordOf.j0 k t549 bt550.2.2.2.2.2.2 bt562.2.2.2.2.2.2 true bt550.1 bt550.2.1 bt550.2.2.1 bt550.2.2.2.1 bt550.2.2.2.2.1 bt550.2.2.2.2.2.1 bt562.1 bt562.2.1 bt562.2.2.1 bt562.2.2.2.1 bt562.2.2.2.2.1 bt562.2.2.2.2.2.1) else ((laws_sameRecord.f k bt550.1 bt550.2.1 bt550.2.2.1 bt550.2.2.2.1 bt550.2.2.2.2.1 bt550.2.2.2.2.2.1 bt562.1 bt562.2.1 bt562.2.2.1 bt562.2.2.2.1 bt562.2.2.2.2.1 bt562.2.2.2.2.2.1).bind fun t574 => (if t574 = true then (laws_FnRecordOf.j0 k t549 bt550.2.2.2.2.2.2 bt562.2.2.2.2.2.2 (!bt550.2.2.2.2.2.2) bt550.1 bt550.2.1 bt550.2.2.1 bt550.2.2.2.1 bt550.2.2.2.2.1 bt550.2.2.2.2.2.1 bt562.1 bt562.2.1 bt562.2.2.1 bt562.2.2.2.1 bt562.2.2.2.2.1 bt562.2.2.2.2.2.1) else (laws_FnRecordOf.j0 k t549 bt550.2.2.2.2.2.2 bt562.2.2.2.2.2.2 true bt550.1 bt550.2.1 bt550.2.2.1 bt550.2.2.2.1 bt550.2.2.2.2.1 bt550.2.2.2.2.2.1 bt562.1 bt562.2.1 bt562.2.2.1 bt562.2.2.2.1 bt562.2.2.2.2.1 bt562.2.2.2.2.2.1)))))))) = some r := h
 clear h
 by_cases c2 : (l0.length : Int) > 1048576
 ·rw [if_pos c2] at H
  have c2b0 : decide (1048576 < (l0.length : Int)) = true := decide_eq_true c2
  have c2b1 : decide (1048576 < l0.length) = true := decide_eq_true (by omega)
  clear c2
  obtain rfl := Option.some.inj H
  go_enter Tryd.func8, Tryd.ntmps8
  go_wp2
  all_goals go_ret
  all_goals exact ⟨by first | rfl | (simp [errW_none, errW_some] <;> rfl) | (simp [*, errW_none, errW_some] <;> rfl), zb⟩
 ·rw [if_neg c2] at H
  have c2b0 : decide (1048576 < (l0.length : Int)) = false := decide_eq_false c2
  have c2b1 : decide (1048576 < l0.length) = false := decide_eq_false (by omega)
  clear c2
  replace H := tbe H
  obtain ⟨t549, A3, H⟩ := H
  replace H := tbe H
  obtain ⟨⟨t550, t551, t552, t553, t556, t557, t560⟩, A4, H⟩ := H
  dsimp only at H
  replace H := tbe H
  obtain ⟨⟨t562, t563, t564, t565, t568, t569, t572⟩, A5, H⟩ := H
  dsimp only at H
  have HC6 := Aside0.mk H
  clear H
  go_enter Tryd.func8, Tryd.ntmps8
  go_upto_region 6 with (first | ((with_reducible refine gate_callee (f := 22) rfl ?_); refine goesL_ (some 12) rfl rfl Tryd.func22 (by kernel_rfl) rfl #[.slice A0 l0.length c0] rfl tq ?_; (with_reducible refine (spec_DrawRecordOf.calls k _ _ l0 t549 _ ?side1 ?side2 A3.out).mono ?_); (case side1 => exact tC HR0.out); (case side2 => exact HC0.out); rintro e w7 ⟨rfl, hb⟩; refine ⟨_, rfl, ?_⟩; replace HB := tBs HB hb; (try clear hb); (try clear hb2); (try clear hk); (try clear hi)) | ((with_reducible refine gate_callee (f := 19) rfl ?_); refine goesL_ (some 15) rfl rfl Tryd.func19 (by kernel_rfl) rfl #[.string t549] rfl tq ?_; (with_reducible refine (impl_RecordOf.calls (hE := ?sideE) k t549 t550 t551 t552 t553 t556 t557 t560 _ A4.out).mono ?_); (case sideE => exact ErrOk.below (HE.out.sub (by decide)) zb); rintro e w8 ⟨v554, v558, rfl, ho0, ho1, hb⟩; have u_v554 := tsv Tryd.prog v554 ho0; have u_v558 := tsv Tryd.prog v558 ho1; refine ⟨_, rfl, ?_⟩; have HO555 := tRl ho0 HB; have HO559 := tRl ho1 HB; replace HB := tBs HB hb; (try clear hb); (try clear hb2); (try clear hk); (try clear hi); (try clear ho0); (try clear ho1)) | ((with_reducible refine gate_dst (N := 4) rfl ?_); refine box_event ?hg (N := 4) ?hd (cs := #[.int .i64 0, .int .i64 0, .bool false, .slice none 0 0, .bool false, .slice none 0 0]) (t := 25) ?hr ?_; (case hd => rfl); (case hg => rfl); (case hr => first | (go_simp; done) | (go_simp; rfl)); intro gb561 hg w9 hbox hb; replace HO555 := tRb HO555 hb; replace HO559 := tRb HO559 hb; have BK561 := Aside0.mk (hbox); have GW561 := tge HB hg; have GE561 := tge HB hg; replace HB := tBs HB hb; clear hb hbox hg; obtain ⟨hcz10_0, hcz10_1, hcz10_2, hcz10_3, hcz10_4, hcz10_5, hfz10_0, hfz10_1, hfz10_2, hfz10_3, hfz10_4, hfz10_5⟩ := cells6 BK561.out; obtain ⟨Ao11, co11, eo11⟩ := Kd.R_slice HO555.out; subst eo11; obtain ⟨Ao12, co12, eo12⟩ := Kd.R_slice HO559.out; subst eo12) | ((with_reducible refine gate_callee (f := 18) rfl ?_); refine goesL_ (some 20) rfl rfl Tryd.func18 (by kernel_rfl) rfl #[.string t549] rfl tq ?_; (with_reducible refine (spec_RecordOf.calls k t549 t562 t563 t564 t565 t568 t569 t572 _ A5.out).mono ?_); rintro e w13 ⟨v566, v570, rfl, ho0, ho1, hb⟩; have u_v566 := tsv Tryd.prog v566 ho0; have u_v570 := tsv Tryd.prog v570 ho1; refine ⟨_, rfl, ?_⟩; have HO567 := Aside0.mk (Kd.R_lower (Kd.R_new' (Kd.R_new' ho0 (Kd.R_lt (tRt HO555.out BK561.out))) (Kd.R_lt (tRt HO559.out BK561.out))) (below_size zb)); have HO571 := Aside0.mk (Kd.R_lower (Kd.R_new' (Kd.R_new' ho1 (Kd.R_lt (tRt HO555.out BK561.out))) (Kd.R_lt (tRt HO559.out BK561.out))) (below_size zb)); replace HO555 := Aside0.mk (Kd.R_mono (Kd.R_told (Kd.R_told (Kd.R_old (tRt HO555.out BK561.out) hb) (Kd.R_base ho0)) (Kd.R_base ho1)) (fun _ h_ => h_.1)); replace HO559 := Aside0.mk (Kd.R_mono (Kd.R_told (Kd.R_told (Kd.R_old (tRt HO559.out BK561.out) hb) (Kd.R_base ho0)) (Kd.R_base ho1)) (fun _ h_ => h_.1)); replace BK561 := tBp (o' := .cells #[.int .i64 t550, .int .i64 t551, .bool t552, .slice Ao11 t553.length co11, .bool t556, .slice Ao12 t557.length co12] 25 (0, 0)) BK561 hb; replace HB := tBs HB hb; (try clear hb); (try clear hb2); (try clear hk); (try clear hi); (try clear ho0); (try clear ho1)) | ((with_reducible refine gate_dst (N := 6) rfl ?_); refine box_event ?hg (N := 6) ?hd (cs := #[.int .i64 0, .int .i64 0, .bool false, .slice none 0 0, .bool false, .slice none 0 0]) (t := 25) ?hr ?_; (case hd => rfl); (case hg => rfl); (case hr => first | (go_simp; done) | (go_simp; rfl)); intro gb573 hg w14 hbox hb; replace HO555 := tRb HO555 hb; replace HO559 := tRb HO559 hb; replace HO567 := tRb HO567 hb; replace HO571 := tRb HO571 hb; have BK573 := Aside0.mk (hbox); have GW573 := tge HB hg; have GE573 := tge HB hg; replace HB := tBs HB hb; have NB561_573 := tlt BK561 hg; have NB573_561 := tgt BK561 hg; replace BK561 := tBb BK561 hb; clear hb hbox hg; have hnb15 := NB573_561.out; have hnc15 := NB561_573.out; obtain ⟨hcz16_0, hcz16_1, hcz16_2, hcz16_3, hcz16_4, hcz16_5, hfz16_0, hfz16_1, hfz16_2, hfz16_3, hfz16_4, hfz16_5⟩ := cells6 BK573.out; obtain ⟨Ao17, co17, eo17⟩ := Kd.R_slice HO567.out; subst eo17; obtain ⟨Ao18, co18, eo18⟩ := Kd.R_slice HO571.out; subst eo18))
  (try simp only [Act.put, List.setIfInBounds_toArray, List.set_cons_zero, List.set_cons_succ])
  go_cut [35] (fun v35 wc => ∃ (kq : Nat) (x35_5 : Bool), v35 = .bool x35_5 ∧ Aside0 (laws_FnRecordOf.j0 kq t549 t560 t572 x35_5 t550 t551 t552 t553 t556 t557 t562 t563 t564 t565 t568 t569 = some r) ∧ Aside0 (kq ≤ k) ∧ Aside0 (Kd.R (Kd.int .i64) 3 wc w.heap.size (fun k_ => some k_ ≠ ((.slice Ao12 t557.length co12) : Value).ownBlock ∧ some k_ ≠ ((.slice Ao17 t565.length co17) : Value).ownBlock ∧ some k_ ≠ ((.slice Ao18 t569.length co18) : Value).ownBlock) (.slice Ao11 t553.length co11) t553) ∧ Aside0 (Kd.R (Kd.int .i64) 3 wc w.heap.size (fun k_ => some k_ ≠ ((.slice Ao11 t553.length co11) : Value).ownBlock ∧ some k_ ≠ ((.slice Ao17 t565.length co17) : Value).ownBlock ∧ some k_ ≠ ((.slice Ao18 t569.length co18) : Value).ownBlock) (.slice Ao12 t557.length co12) t557) ∧ Aside0 (Kd.R (Kd.int .i64) 3 wc w.heap.size (fun k_ => some k_ ≠ ((.slice Ao11 t553.length co11) : Value).ownBlock ∧ some k_ ≠ ((.slice Ao12 t557.length co12) : Value).ownBlock ∧ some k_ ≠ ((.slice Ao18 t569.length co18) : Value).ownBlock) (.slice Ao17 t565.length co17) t565) ∧ Aside0 (Kd.R (Kd.int .i64) 3 wc w.heap.size (fun k_ => some k_ ≠ ((.slice Ao11 t553.length co11) : Value).ownBlock ∧ some k_ ≠ ((.slice Ao12 t557.length co12) : Value).ownBlock ∧ some k_ ≠ ((.slice Ao17 t565.length co17) : Value).ownBlock) (.slice Ao18 t569.length co18) t569) ∧ Aside0 (wc.heap[gb561]? = some (.cells #[.int .i64 t550, .int .i64 t551, .bool t552, (.slice Ao11 t553.length co11), .bool t556, (.slice Ao12 t557.length co12)] 25 (0, 0))) ∧ Aside0 (wc.heap[gb573]? = some (.cells #[.int .i64 t562, .int .i64 t563, .bool t564, (.slice Ao17 t565.length co17), .bool t568, (.slice Ao18 t569.length co18)] 25 (0, 0))) ∧ Aside0 (Below w.heap.size w wc))
  case first =>
   have H := HC6.out
   clear HC6
   by_cases c19 : (t560 != t572) = true
   ·rw [if_pos c19] at H
    have c19b0 : (t560 != t572) = true := c19
    (try (have c19b1 : decide (t560 = t572) = false := by simpa using c19))
    (try (have c19b2 : (t560 == t572) = false := by simpa using c19))
    (try (have c19b3 : ¬ (t560 = t572) := by simpa using c19))
    clear c19
    (first | rw [c19b0] | (simp only [i64_w, i32_w]; rw [c19b0]) | skip)
    have H' := Aside0.mk H
    clear H
    go_wp2
    go_meet
    case rel => exact ⟨_, (true), tr, H', ⟨by first | omega | exact Nat.le_refl _⟩, ⟨tRm (Kd.R_types HO555.out BK573.out (by decide))⟩, ⟨tRm (Kd.R_types HO559.out BK573.out (by decide))⟩, ⟨tRm (Kd.R_types HO567.out BK573.out (by decide))⟩, ⟨tRm (Kd.R_types HO571.out BK573.out (by decide))⟩, ⟨tH BK561.out⟩, ⟨tP BK573.out⟩, ⟨zb⟩⟩
   ·rw [if_neg c19] at H
    have c19b0 : (t560 != t572) = false := by simpa using c19
    (try (have c19b1 : decide (t560 = t572) = true := by simpa using c19))
    (try (have c19b2 : (t560 == t572) = true := by simpa using c19))
    clear c19
    (first | rw [c19b0] | (simp only [i64_w, i32_w]; rw [c19b0]) | skip)
    replace H := tbe H
    obtain ⟨t574, A20, H⟩ := H
    by_cases c21 : t574 = true
    ·subst c21
     rw [if_pos rfl] at H
     have H' := Aside0.mk H
     clear H
     have hnb22 := NB561_573.out
     have hnc22 := NB573_561.out
     obtain ⟨hcz23_0, hcz23_1, hcz23_2, hcz23_3, hcz23_4, hcz23_5, hfz23_0, hfz23_1, hfz23_2, hfz23_3, hfz23_4, hfz23_5⟩ := cells6 BK561.out
     obtain ⟨hcz24_0, hcz24_1, hcz24_2, hcz24_3, hcz24_4, hcz24_5, hfz24_0, hfz24_1, hfz24_2, hfz24_3, hfz24_4, hfz24_5⟩ := cells6 BK573.out
     go_wp2_with (first | (go_at_call 23; (with_reducible refine (laws_sameRecord.calls k t550 t551 t552 _ _ t553 t556 _ _ t557 t562 t563 t564 _ _ t565 t568 _ _ t569 true _ ?side1 ?side2 ?side3 ?side4 ?side5 ?side6 ?side7 ?side8 A20.out).mono ?_); (case side1 => refine (Kd.R_reads' (e := 3) (base := w.heap.size) (ok := fun k_ => ((some k_ ≠ (.slice Ao12 t557.length co12 : Value).ownBlock ∧ some k_ ≠ (.slice Ao17 t565.length co17 : Value).ownBlock) ∧ some k_ ≠ (.slice Ao18 t569.length co18 : Value).ownBlock)) (n := t553.length) (c := co11) ?_).2.2; exact (tRt HO555.out BK573.out)); (case side2 => exact (Kd.R_reads' HO555.out).2.1); (case side3 => refine (Kd.R_reads' (e := 3) (base := w.heap.size) (ok := fun k_ => ((some k_ ≠ (.slice Ao11 t553.length co11 : Value).ownBlock ∧ some k_ ≠ (.slice Ao17 t565.length co17 : Value).ownBlock) ∧ some k_ ≠ (.slice Ao18 t569.length co18 : Value).ownBlock)) (n := t557.length) (c := co12) ?_).2.2; exact (tRt HO559.out BK573.out)); (case side4 => exact (Kd.R_reads' HO559.out).2.1); (case side5 => refine (Kd.R_reads' (e := 3) (base := w.heap.size) (ok := fun k_ => ((some k_ ≠ (.slice Ao18 t569.length co18 : Value).ownBlock ∧ some k_ ≠ (.slice Ao11 t553.length co11 : Value).ownBlock) ∧ some k_ ≠ (.slice Ao12 t557.length co12 : Value).ownBlock)) (n := t565.length) (c := co17) ?_).2.2; exact (tRt HO567.out BK573.out)); (case side6 => exact (Kd.R_reads' HO567.out).2.1); (case side7 => refine (Kd.R_reads' (e := 3) (base := w.heap.size) (ok := fun k_ => ((some k_ ≠ (.slice Ao17 t565.length co17 : Value).ownBlock ∧ some k_ ≠ (.slice Ao11 t553.length co11 : Value).ownBlock) ∧ some k_ ≠ (.slice Ao12 t557.length co12 : Value).ownBlock)) (n := t569.length) (c := co18) ?_).2.2; exact (tRt HO571.out BK573.out)); (case side8 => exact (Kd.R_reads' HO571.out).2.1); rintro e w25 ⟨rfl, hb⟩; replace HO555 := Aside0.mk (Kd.R_below (tRt HO555.out BK573.out) hb); replace HO559 := Aside0.mk (Kd.R_below (tRt HO559.out BK573.out) hb); replace HO567 := Aside0.mk (Kd.R_below (tRt HO567.out BK573.out) hb); replace HO571 := Aside0.mk (Kd.R_below (tRt HO571.out BK573.out) hb); replace BK561 := tBb BK561 hb; replace BK573 := tBp (o' := .cells #[.int .i64 t562, .int .i64 t563, .bool t564, .slice Ao17 t565.length co17, .bool t568, .slice Ao18 t569.length co18] 25 (0, 0)) BK573 hb; replace HB := tBs HB hb; (try clear hb); (try clear hb2); (try clear hk); (try clear hi)))
     go_meet
     case rel => exact ⟨_, (!t560), tr, H', ⟨by first | omega | exact Nat.le_refl _⟩, ⟨tRm HO555.out⟩, ⟨tRm HO559.out⟩, ⟨tRm HO567.out⟩, ⟨tRm HO571.out⟩, ⟨tH BK561.out⟩, ⟨tH BK573.out⟩, ⟨zb⟩⟩
    ·replace c21 := Bool.eq_false_iff.mpr c21
     subst c21
     rw [if_neg (show ¬ (false = true) by decide)] at H
     have H' := Aside0.mk H
     clear H
     have hnb26 := NB561_573.out
     have hnc26 := NB573_561.out
     obtain ⟨hcz27_0, hcz27_1, hcz27_2, hcz27_3, hcz27_4, hcz27_5, hfz27_0, hfz27_1, hfz27_2, hfz27_3, hfz27_4, hfz27_5⟩ := cells6 BK561.out
     obtain ⟨hcz28_0, hcz28_1, hcz28_2, hcz28_3, hcz28_4, hcz28_5, hfz28_0, hfz28_1, hfz28_2, hfz28_3, hfz28_4, hfz28_5⟩ := cells6 BK573.out
     go_wp2_with (first | (go_at_call 23; (with_reducible refine (laws_sameRecord.calls k t550 t551 t552 _ _ t553 t556 _ _ t557 t562 t563 t564 _ _ t565 t568 _ _ t569 false _ ?side1 ?side2 ?side3 ?side4 ?side5 ?side6 ?side7 ?side8 A20.out).mono ?_); (case side1 => refine (Kd.R_reads' (e := 3) (base := w.heap.size) (ok := fun k_ => ((some k_ ≠ (.slice Ao12 t557.length co12 : Value).ownBlock ∧ some k_ ≠ (.slice Ao17 t565.length co17 : Value).ownBlock) ∧ some k_ ≠ (.slice Ao18 t569.length co18 : Value).ownBlock)) (n := t553.length) (c := co11) ?_).2.2; exact (tRt HO555.out BK573.out)); (case side2 => exact (Kd.R_reads' HO555.out).2.1); (case side3 => refine (Kd.R_reads' (e := 3) (base := w.heap.size) (ok := fun k_ => ((some k_ ≠ (.slice Ao11 t553.length co11 : Value).ownBlock ∧ some k_ ≠ (.slice Ao17 t565.length co17 : Value).ownBlock) ∧ some k_ ≠ (.slice Ao18 t569.length co18 : Value).ownBlock)) (n := t557.length) (c := co12) ?_).2.2; exact (tRt HO559.out BK573.out)); (case side4 => exact (Kd.R_reads' HO559.out).2.1); (case side5 => refine (Kd.R_reads' (e := 3) (base := w.heap.size) (ok := fun k_ => ((some k_ ≠ (.slice Ao18 t569.length co18 : Value).ownBlock ∧ some k_ ≠ (.slice Ao11 t553.length co11 : Value).ownBlock) ∧ some k_ ≠ (.slice Ao12 t557.length co12 : Value).ownBlock)) (n := t565.length) (c := co17) ?_).2.2; exact (tRt HO567.out BK573.out)); (case side6 => exact (Kd.R_reads' HO567.out).2.1); (case side7 => refine (Kd.R_reads' (e := 3) (base := w.heap.size) (ok := fun k_ => ((some k_ ≠ (.slice Ao17 t565.length co17 : Value).ownBlock ∧ some k_ ≠ (.slice Ao11 t553.length co11 : Value).ownBlock) ∧ some k_ ≠ (.slice Ao12 t557.length co12 : Value).ownBlock)) (n := t569.length) (c := co18) ?_).2.2; exact (tRt HO571.out BK573.out)); (case side8 => exact (Kd.R_reads' HO571.out).2.1); rintro e w29 ⟨rfl, hb⟩; replace HO555 := Aside0.mk (Kd.R_below (tRt HO555.out BK573.out) hb); replace HO559 := Aside0.mk (Kd.R_below (tRt HO559.out BK573.out) hb); replace HO567 := Aside0.mk (Kd.R_below (tRt HO567.out BK573.out) hb); replace HO571 := Aside0.mk (Kd.R_below (tRt HO571.out BK573.out) hb); replace BK561 := tBb BK561 hb; replace BK573 := tBp (o' := .cells #[.int .i64 t562, .int .i64 t563, .bool t564, .slice Ao17 t565.length co17, .bool t568, .slice Ao18 t569.length co18] 25 (0, 0)) BK573 hb; replace HB := tBs HB hb; (try clear hb); (try clear hb2); (try clear hk); (try clear hi)))
     go_meet
     case rel => exact ⟨_, (true), tr, H', ⟨by first | omega | exact Nat.le_refl _⟩, ⟨tRm HO555.out⟩, ⟨tRm HO559.out⟩, ⟨tRm HO567.out⟩, ⟨tRm HO571.out⟩, ⟨tH BK561.out⟩, ⟨tH BK573.out⟩, ⟨zb⟩⟩
  case rest =>
   clear HC6
   try clear c2; try clear c2b0; try clear c2b1; try clear hcz10_0; try clear hcz10_1; try clear hcz10_2; try clear hcz10_3; try clear hcz10_4; try clear hcz10_5; try clear hcz16_0; try clear hcz16_1; try clear hcz16_2; try clear hcz16_3; try clear hcz16_4; try clear hcz16_5; try clear hfz10_0; try clear hfz10_1; try clear hfz10_2; try clear hfz10_3; try clear hfz10_4; try clear hfz10_5; try clear hfz16_0; try clear hfz16_1; try clear hfz16_2; try clear hfz16_3; try clear hfz16_4; try clear hfz16_5
   obtain ⟨kq, x35_5, rfl, HA, HJ5, HO_562003, HO_562005, HO_574003, HO_574005, BK561, BK573, HB⟩ := hcut
   cases kq with
   | zero => exact absurd HA.out (by simp [laws_FnRecordOf.j0])
   | succ kj5 =>
    have H := HA.out
    clear HA
    simp only [laws_FnRecordOf.j0] at H
    by_cases c30 : x35_5 = true
    ·subst c30
     rw [if_pos rfl] at H
     by_cases c31 : (t560 == t572) = true
     ·rw [if_pos c31] at H
      have c31b0 : (t560 == t572) = true := c31
      (try (have c31b1 : decide (t560 = t572) = true := by simpa using c31))
      (try (have c31b2 : (t560 == t572) = true := by simpa using c31))
      clear c31
      replace H := tbe H
      obtain ⟨t575, A32, H⟩ := H
      obtain rfl := Option.some.inj H
      have hnb33 := NB561_573.out
      have hnc33 := NB573_561.out
      obtain ⟨hcz34_0, hcz34_1, hcz34_2, hcz34_3, hcz34_4, hcz34_5, hfz34_0, hfz34_1, hfz34_2, hfz34_3, hfz34_4, hfz34_5⟩ := cells6 BK561.out
      obtain ⟨hcz35_0, hcz35_1, hcz35_2, hcz35_3, hcz35_4, hcz35_5, hfz35_0, hfz35_1, hfz35_2, hfz35_3, hfz35_4, hfz35_5⟩ := cells6 BK573.out
      go_wp2_with (first | (go_at_call 23; (with_reducible refine (laws_sameRecord.calls kj5 t550 t551 t552 _ _ t553 t556 _ _ t557 t562 t563 t564 _ _ t565 t568 _ _ t569 t575 _ ?side1 ?side2 ?side3 ?side4 ?side5 ?side6 ?side7 ?side8 A32.out).mono ?_); (case side1 => repeat (first | exact (Kd.R_reads' HO_562003.out).2.2 | (with_reducible refine Kd.C_alloc ?_ _) | (with_reducible refine Kd.C_drewN ?_ _) | (with_reducible refine Kd.C_drew ?_))); (case side2 => exact (Kd.R_reads' HO_562003.out).2.1); (case side3 => repeat (first | exact (Kd.R_reads' HO_562005.out).2.2 | (with_reducible refine Kd.C_alloc ?_ _) | (with_reducible refine Kd.C_drewN ?_ _) | (with_reducible refine Kd.C_drew ?_))); (case side4 => exact (Kd.R_reads' HO_562005.out).2.1); (case side5 => repeat (first | exact (Kd.R_reads' HO_574003.out).2.2 | (with_reducible refine Kd.C_alloc ?_ _) | (with_reducible refine Kd.C_drewN ?_ _) | (with_reducible refine Kd.C_drew ?_))); (case side6 => exact (Kd.R_reads' HO_574003.out).2.1); (case side7 => repeat (first | exact (Kd.R_reads' HO_574005.out).2.2 | (with_reducible refine Kd.C_alloc ?_ _) | (with_reducible refine Kd.C_drewN ?_ _) | (with_reducible refine Kd.C_drew ?_))); (case side8 => exact (Kd.R_reads' HO_574005.out).2.1); rintro e w36 ⟨rfl, hb⟩; replace HO_562003 := tRb HO_562003 hb; replace HO_562005 := tRb HO_562005 hb; replace HO_574003 := tRb HO_574003 hb; replace HO_574005 := tRb HO_574005 hb; replace BK561 := tBb BK561 hb; replace BK573 := tBb BK573 hb; replace HB := tBs HB hb; (try clear hb); (try clear hb2); (try clear hk); (try clear hi)))
      all_goals go_ret
      all_goals exact ⟨by first | rfl | (simp [errW_none, errW_some] <;> rfl) | (simp [*, errW_none, errW_some] <;> rfl), zb⟩
     ·rw [if_neg c31] at H
      have c31b0 : (t560 == t572) = false := by simpa using c31
      (try (have c31b1 : decide (t560 = t572) = false := by simpa using c31))
      (try (have c31b2 : (t560 == t572) = false := by simpa using c31))
      (try (have c31b3 : ¬ (t560 = t572) := by simpa using c31))
      clear c31
      obtain rfl := Option.some.inj H
      go_wp2
      all_goals go_ret
      all_goals exact ⟨by first | rfl | (simp [errW_none, errW_some] <;> rfl) | (simp [*, errW_none, errW_some] <;> rfl), zb⟩
    ·replace c30 := Bool.eq_false_iff.mpr c30
     subst c30
     rw [if_neg (show ¬ (false = true) by decide)] at H
     replace H := tbe H
     obtain ⟨t576, A37, H⟩ := H
     by_cases c38 : t576 = true
     ·subst c38
      rw [if_pos rfl] at H
      replace H := tbe H
      obtain ⟨t577, A39, H⟩ := H
      obtain rfl := Option.some.inj H
      have hnb40 := NB561_573.out
      have hnc40 := NB573_561.out
      obtain ⟨hcz41_0, hcz41_1, hcz41_2, hcz41_3, hcz41_4, hcz41_5, hfz41_0, hfz41_1, hfz41_2, hfz41_3, hfz41_4, hfz41_5⟩ := cells6 BK561.out
      go_wp2_with (first | ((with_reducible refine gate_callee (f := 24) rfl ?_); refine goesL_ (some 45) rfl rfl Tryd.func24 (by kernel_rfl) rfl #[.agg #[.int .i64 t550, .int .i64 t551, .bool t552, .slice Ao11 t553.length co11, .bool t556, .slice Ao12 t557.length co12]] rfl tq ?_; (with_reducible refine (impl_RecordValid.calls kj5 t550 t551 t552 _ _ t553 t556 _ _ t557 true _ ?side1 ?side2 ?side3 ?side4 A37.out).mono ?_); (case side1 => repeat (first | exact (Kd.R_reads' HO_562003.out).2.2 | (with_reducible refine Kd.C_alloc ?_ _) | (with_reducible refine Kd.C_drewN ?_ _) | (with_reducible refine Kd.C_drew ?_))); (case side2 => exact (Kd.R_reads' HO_562003.out).2.1); (case side3 => repeat (first | exact (Kd.R_reads' HO_562005.out).2.2 | (with_reducible refine Kd.C_alloc ?_ _) | (with_reducible refine Kd.C_drewN ?_ _) | (with_reducible refine Kd.C_drew ?_))); (case side4 => exact (Kd.R_reads' HO_562005.out).2.1); rintro e w42 ⟨rfl, hb⟩; refine ⟨_, rfl, ?_⟩; replace HO_562003 := tRb HO_562003 hb; replace HO_562005 := tRb HO_562005 hb; replace HO_574003 := tRb HO_574003 hb; replace HO_574005 := tRb HO_574005 hb; replace BK561 := tBb BK561 hb; replace BK573 := tBb BK573 hb; replace HB := tBs HB hb; (try clear hb); (try clear hb2); (try clear hk); (try clear hi); obtain ⟨hcz43_0, hcz43_1, hcz43_2, hcz43_3, hcz43_4, hcz43_5, hfz43_0, hfz43_1, hfz43_2, hfz43_3, hfz43_4, hfz43_5⟩ := cells6 BK561.out) | (go_at_call 13; (with_reducible refine (impl_RecordText.calls (hE := ?sideE) kj5 t550 t551 t552 _ _ t553 t556 _ _ t557 t577 _ ?side1 ?side2 ?side3 ?side4 A39.out).mono ?_); (case sideE => exact ErrOk.below (HE.out.sub (by decide)) zb); (case side1 => repeat (first | exact (Kd.R_reads' HO_562003.out).2.2 | (with_reducible refine Kd.C_alloc ?_ _) | (with_reducible refine Kd.C_drewN ?_ _) | (with_reducible refine Kd.C_drew ?_))); (case side2 => exact (Kd.R_reads' HO_562003.out).2.1); (case side3 => repeat (first | exact (Kd.R_reads' HO_562005.out).2.2 | (with_reducible refine Kd.C_alloc ?_ _) | (with_reducible refine Kd.C_drewN ?_ _) | (with_reducible refine Kd.C_drew ?_))); (case side4 => exact (Kd.R_reads' HO_562005.out).2.1); rintro e w44 ⟨rfl, hb⟩; replace HO_562003 := tRb HO_562003 hb; replace HO_562005 := tRb HO_562005 hb; replace HO_574003 := tRb HO_574003 hb; replace HO_574005 := tRb HO_574005 hb; replace BK561 := tBb BK561 hb; replace BK573 := tBb BK573 hb; replace HB := tBs HB hb; (try clear hb); (try clear hb2); (try clear hk); (try clear hi)))
      all_goals go_ret
      all_goals exact ⟨by first | rfl | (simp [errW_none, errW_some] <;> rfl) | (simp [*, errW_none, errW_some] <;> rfl), zb⟩
     ·replace c38 := Bool.eq_false_iff.mpr c38
      subst c38
      rw [if_neg (show ¬ (false = true) by decide)] at H
      obtain rfl := Option.some.inj H
      have hnb45 := NB561_573.out
      have hnc45 := NB573_561.out
      obtain ⟨hcz46_0, hcz46_1, hcz46_2, hcz46_3, hcz46_4, hcz46_5, hfz46_0, hfz46_1, hfz46_2, hfz46_3, hfz46_4, hfz46_5⟩ := cells6 BK561.out
      go_wp2_with (first | ((with_reducible refine gate_callee (f := 24) rfl ?_); refine goesL_ (some 45) rfl rfl Tryd.func24 (by kernel_rfl) rfl #[.agg #[.int .i64 t550, .int .i64 t551, .bool t552, .slice Ao11 t553.length co11, .bool t556, .slice Ao12 t557.length co12]] rfl tq ?_; (with_reducible refine (impl_RecordValid.calls kj5 t550 t551 t552 _ _ t553 t556 _ _ t557 false _ ?side1 ?side2 ?side3 ?side4 A37.out).mono ?_); (case side1 => repeat (first | exact (Kd.R_reads' HO_562003.out).2.2 | (with_reducible refine Kd.C_alloc ?_ _) | (with_reducible refine Kd.C_drewN ?_ _) | (with_reducible refine Kd.C_drew ?_))); (case side2 => exact (Kd.R_reads' HO_562003.out).2.1); (case side3 => repeat (first | exact (Kd.R_reads' HO_562005.out).2.2 | (with_reducible refine Kd.C_alloc ?_ _) | (with_reducible refine Kd.C_drewN ?_ _) | (with_reducible refine Kd.C_drew ?_))); (case side4 => exact (Kd.R_reads' HO_562005.out).2.1); rintro e w47 ⟨rfl, hb⟩; refine ⟨_, rfl, ?_⟩; replace HO_562003 := tRb HO_562003 hb; replace HO_562005 := tRb HO_562005 hb; replace HO_574003 := tRb HO_574003 hb; replace HO_574005 := tRb HO_574005 hb; replace BK561 := tBb BK561 hb; replace BK573 := tBb BK573 hb; replace HB := tBs HB hb; (try clear hb); (try clear hb2); (try clear hk); (try clear hi)))
      all_goals go_ret
      all_goals exact ⟨by first | rfl | (simp [errW_none, errW_some] <;> rfl) | (simp [*, errW_none, errW_some] <;> rfl), zb⟩

end Go.Proofs.YteoicjlhkaljbaaDoor.G

namespace Go.Proofs.YteoicjlhkaljbaaDoor.Rd
open Go.RowKit Go.Proofs.YteoicjlhkaljbaaDoorW.PrintWords
set_option linter.unusedVariables false
section
variable {H : Type} {enc : TypeId × Value → H} {P : Program} {w : World} {base : Nat} {spare : Nat → Bool} {held : Bool}
/-- What a reading of type t gives: a value of the kind, and what is known of it. -/
def Opens (enc : TypeId × Value → H) (P : Program) (w : World) (base : Nat) (spare : Nat → Bool) (held : Bool) {α : Type} (t : TypeId) (d : Kd α) (ok : α → Prop) : Prop :=
  P.cellsOf t = d.sz ∧ ∀ fuel cs x, DataW.trod enc P w base spare held fuel t cs = some x → ∃ v, d.K w v cs ∧ ok v
theorem Opens.imp_ {α : Type} {t : TypeId} {d : Kd α} {ok ok' : α → Prop} (h : Opens enc P w base spare held t d ok) (hi : ∀ v, ok v → ok' v) : Opens enc P w base spare held t d ok' :=
  ⟨h.1, fun fuel cs x hx => by
    obtain ⟨v, hk, ho⟩ := h.2 fuel cs x hx
    exact ⟨v, hk, hi v ho⟩⟩
theorem opens_int {t : TypeId} {k : IntKind} (ht : P.underlying t = some (.int k)) (hc : P.cellsOf t = 1) : Opens enc P w base spare held t (Kd.int k) (fun n => (Lit.int k n).wf = true) := by
  refine ⟨hc, fun fuel cs x h => ?_⟩
  obtain ⟨n, rfl, _, hw⟩ := DataW.trod_int ht h
  exact ⟨n, rfl, hw⟩
theorem cells_len {base : Nat} {a : Addr} {n : Nat} {cs : List Value} (h : w.cells? base a n = some cs) : cs.length = n ∧ ∀ i u, cs[i]? = some u → w.cell? (a.add i) = some u := by
  unfold World.cells? at h
  split at h
  · rename_i hb
    refine ⟨by simpa using mapM_some_length h, fun i u hu => ?_⟩
    have hi : i < n := by
      have := (List.getElem?_eq_some_iff.1 hu).1
      have h2 : cs.length = n := by simpa using mapM_some_length h
      omega
    have := mapM_some_get h i i (by simp [hi])
    rw [hu] at this
    exact this
  · simp at h
theorem opens_row {α : Type} {t e : TypeId} {d : Kd α} {ok : α → Prop} (ht : P.underlying t = some (.slice e)) (hd : Opens enc P w base spare held e d ok) {fuel : Nat} {cs : List Value} {x : DataW H × List MemPlace}
    (h : DataW.trod enc P w base spare held fuel t cs = some x) : ∃ (A : Option Addr) (c : Nat) (xs : List α), cs = [.slice A xs.length c] ∧ xs.length ≤ c ∧ c ≤ maxLen ∧ d.C w A xs.length xs ∧ ∀ y ∈ xs, ok y := by
  rcases Go.Deep.open_slice ht h with ⟨rfl, _⟩ | ⟨a, len, cap, m, n, D, Pl, rfl, hb, hl, hm, hmm, _, hel⟩
  · exact ⟨none, 0, [], rfl, Nat.le_refl _, by unfold maxLen; omega, ⟨rfl, by simp, fun h0 => absurd h0 (by simp)⟩, by simp⟩
  have hlm : len ≤ m := by rw [hmm]; split <;> omega
  have hx : ∀ i, i < len → ∃ y : α, ok y ∧ ∃ c, c.length = d.sz ∧ d.K w y c ∧ ∀ j u, c[j]? = some u → w.cell? (a.add (i * d.sz + j)) = some u := by
    intro i hi
    obtain ⟨cs', h1, h2⟩ := hel i (by omega)
    obtain ⟨y, hk, ho⟩ := hd.2 _ _ _ h2
    obtain ⟨hl', hc'⟩ := cells_len h1
    refine ⟨y, ho, cs', by rw [hl', hd.1], hk, fun j u hu => ?_⟩
    have := hc' j u hu
    rw [Go.Deep.add_add, hd.1] at this
    exact this
  rcases Nat.eq_zero_or_pos len with h0 | h0
  · subst h0
    exact ⟨some a, cap, [], rfl, Nat.zero_le _, hm, ⟨rfl, by simp, fun h1 => absurd h1 (by simp)⟩, by simp⟩
  obtain ⟨y0, _⟩ := hx 0 h0
  haveI : Inhabited α := ⟨y0⟩
  obtain ⟨g, hg⟩ := Go.Deep.choose_lt hx
  have hlen : ((List.range len).map g).length = len := by simp
  refine ⟨some a, cap, (List.range len).map g, by rw [hlen], by rw [hlen]; exact hl, hm, ⟨rfl, by rw [hlen]; unfold maxLen at hm; omega, fun _ => ⟨a, rfl, fun j p hj => ?_⟩⟩, fun y hy => ?_⟩
  · have hj' : j < len := by
      have := (List.getElem?_eq_some_iff.1 hj).1
      omega
    rw [List.getElem?_map, List.getElem?_range hj'] at hj
    simp at hj
    subst hj
    obtain ⟨_, c, hc1, hc2, hc3⟩ := hg j hj'
    exact ⟨c, hc1, hc2, hc3⟩
  · obtain ⟨i, hi, rfl⟩ := List.mem_map.1 hy
    exact (hg i (List.mem_range.1 hi)).1
end
end Go.Proofs.YteoicjlhkaljbaaDoor.Rd

namespace Go.Proofs.YteoicjlhkaljbaaDoor.OFnRecordOf
open Go.RowKit Go.Proofs.YteoicjlhkaljbaaDoorW.PrintWords Go.Proofs.YteoicjlhkaljbaaDoor.G
set_option linter.unusedVariables false
def Pure : Prop := ∀ (l0 : List Int), l0.length ≤ maxLen → (∀ y ∈ l0, (Lit.int .u8 y).wf = true) → ∃ k, laws_FnRecordOf.f k l0 = some true
end Go.Proofs.YteoicjlhkaljbaaDoor.OFnRecordOf

namespace Go.Proofs.YteoicjlhkaljbaaDoor.Pu
open Go.RowKit Go.Proofs.YteoicjlhkaljbaaDoorW.PrintWords Go.Proofs.YteoicjlhkaljbaaDoorW.PrintLast Go.Proofs.YteoicjlhkaljbaaDoor.G
set_option linter.unusedVariables false
set_option linter.unusedSimpArgs false
theorem str_one (x : Int) (h0 : 0 ≤ x) (h1 : x ≤ 255) : strOfNums [x] = ByteArray.mk [UInt8.ofNat x.toNat].toArray := by
  unfold strOfNums
  simp
theorem dec_ev : ∀ (m n : Nat), n < 10 ^ (m + 1) → n ≤ 1000000000000 → Ev (fun k => spec_l6Dec.f k (n : Int)) (ByteArray.mk (dec n).toArray) := by
  intro m
  induction m with
  | zero =>
    intro n h hn
    refine Ev.step (fun k => by rw [spec_l6Dec.f]) ?_
    have h10 : n < 10 := by simpa using h
    simp only [if_neg (show ¬ (n : Int) < -9223372036854775807 by omega), if_neg (show ¬ (n : Int) < 0 by omega), if_pos (show (n : Int) < 10 by omega), w64 (a := 48 + (n : Int)) (by omega) (by omega)]
    rw [show (48 + (n : Int)) % 256 = 48 + n by omega, str_one _ (by omega) (by omega)]
    unfold dec
    rw [dif_pos h10, show (48 + (n : Int)).toNat = 48 + n by omega]
    exact Ev.now _
  | succ m ih =>
    intro n h hn
    refine Ev.step (fun k => by rw [spec_l6Dec.f]) ?_
    by_cases h10 : n < 10
    · simp only [if_neg (show ¬ (n : Int) < -9223372036854775807 by omega), if_neg (show ¬ (n : Int) < 0 by omega), if_pos (show (n : Int) < 10 by omega), w64 (a := 48 + (n : Int)) (by omega) (by omega)]
      rw [show (48 + (n : Int)) % 256 = 48 + n by omega, str_one _ (by omega) (by omega)]
      unfold dec
      rw [dif_pos h10, show (48 + (n : Int)).toNat = 48 + n by omega]
      exact Ev.now _
    · have ht : Int.tdiv (n : Int) 10 = ((n / 10 : Nat) : Int) := by
        rw [Int.tdiv_eq_ediv_of_nonneg (by omega)]; omega
      have hm : Int.tmod (n : Int) 10 = ((n % 10 : Nat) : Int) := by
        rw [Int.tmod_eq_emod_of_nonneg (by omega)]; omega
      simp only [if_neg (show ¬ (n : Int) < -9223372036854775807 by omega), if_neg (show ¬ (n : Int) < 0 by omega), if_neg (show ¬ (n : Int) < 10 by omega), ht, hm, w64 (a := ((n / 10 : Nat) : Int)) (by omega) (by omega), w64 (a := 48 + ((n % 10 : Nat) : Int)) (by omega) (by omega)]
      have h1 : n / 10 < 10 ^ (m + 1) := by rw [Nat.pow_succ] at h; omega
      refine Ev.bind (ih (n / 10) h1 (by omega)) ?_
      simp only [bindS]
      rw [show (48 + ((n % 10 : Nat) : Int)) % 256 = 48 + ((n % 10 : Nat) : Int) by omega, str_one _ (by omega) (by omega), show (48 + ((n % 10 : Nat) : Int)).toNat = 48 + n % 10 by omega]
      have hl := dec_len (n / 10) 12 (by omega)
      have hs : (ByteArray.mk (dec (n / 10)).toArray).size + (ByteArray.mk [UInt8.ofNat (48 + n % 10)].toArray).size ≤ 9223372036854775807 := by
        rw [size_mk, size_mk]; simp only [List.length_singleton]; omega
      simp only [if_pos hs, app_mk]
      rw [show dec n = dec (n / 10) ++ [UInt8.ofNat (48 + n % 10)] by rw [dec, dif_neg h10]]
      exact Ev.now _
theorem hex_loop (l : List Int) (hl : l.length ≤ 1000000) (ho : l.all isB = true) : ∀ d i, l.length - i = d → i ≤ l.length →
    Ev (fun k => spec_BytesText.l0 k l digs (ByteArray.mk (hexOf (l.take i)).toArray) (i : Int)) (ByteArray.mk (hexOf l).toArray) := by
  intro d
  induction d with
  | zero =>
    intro i hi hle
    refine Ev.step (fun k => by rw [spec_BytesText.l0]) ?_
    simp only [if_neg (show ¬ ((i : Int) < (l.length : Int)) by omega)]
    rw [List.take_of_length_le (by omega)]
    exact Ev.now _
  | succ d ih =>
    intro i hi hle
    have hlt : i < l.length := by omega
    have hb := (isB_iff _).1 (List.all_eq_true.1 ho _ (List.getElem_mem hlt))
    obtain ⟨n, hn⟩ := Int.eq_ofNat_of_zero_le hb.1
    have hn2 : n ≤ 255 := by omega
    refine Ev.step (fun k => by rw [spec_BytesText.l0]) ?_
    simp only [if_pos (show (i : Int) < (l.length : Int) by omega)]
    refine Ev.bind (l1Ok_ev l (by omega)) ?_
    have ht : Int.tdiv (n : Int) 16 = ((n / 16 : Nat) : Int) := by
      rw [Int.tdiv_eq_ediv_of_nonneg (by omega)]; omega
    have hm : Int.tmod (n : Int) 16 = ((n % 16 : Nat) : Int) := by
      rw [Int.tmod_eq_emod_of_nonneg (by omega)]; omega
    have d1 := digs_at (n / 16) (by omega)
    have d2 := digs_at (n % 16) (by omega)
    have hsz : digs.size = 16 := rfl
    simp only [ho, if_true, if_pos (show (0 : Int) ≤ (i : Int) by omega), rdi_nat l i hlt, hn, ht, hm, w64 (a := ((n / 16 : Nat) : Int)) (by omega) (by omega), w64 (a := ((n / 16 : Nat) : Int) + 1) (by omega) (by omega), w64 (a := ((n % 16 : Nat) : Int) + 1) (by omega) (by omega), w64 (a := (i : Int) + 1) (by omega) (by omega),
      if_pos (show (0 : Int) ≤ ((n / 16 : Nat) : Int) by omega), if_pos (show ((n / 16 : Nat) : Int) ≤ ((n / 16 : Nat) : Int) + 1 by omega), if_pos (show ((n / 16 : Nat) : Int) + 1 ≤ (digs.size : Int) by rw [hsz]; omega),
      if_pos (show (0 : Int) ≤ ((n % 16 : Nat) : Int) by omega), if_pos (show ((n % 16 : Nat) : Int) ≤ ((n % 16 : Nat) : Int) + 1 by omega), if_pos (show ((n % 16 : Nat) : Int) + 1 ≤ (digs.size : Int) by rw [hsz]; omega),
      Int.toNat_natCast, show (((n / 16 : Nat) : Int) + 1).toNat = n / 16 + 1 by omega, show (((n % 16 : Nat) : Int) + 1).toNat = n % 16 + 1 by omega, d1, d2]
    have hll : (hexOf (l.take i)).length ≤ 2000000 := by rw [hexOf_len, List.length_take]; omega
    have s1 : (ByteArray.mk (hexOf (l.take i)).toArray).size + (ByteArray.mk [hx (n / 16)].toArray).size ≤ 9223372036854775807 := by
      rw [size_mk, size_mk]; simp only [List.length_singleton]; omega
    have s2 : (ByteArray.mk (hexOf (l.take i)).toArray ++ ByteArray.mk [hx (n / 16)].toArray).size + (ByteArray.mk [hx (n % 16)].toArray).size ≤ 9223372036854775807 := by
      rw [app_mk, size_mk, size_mk]; simp only [List.length_singleton, List.length_append]; omega
    simp only [if_pos s1, if_pos s2]
    simp only [app_mk]
    have := ih (i + 1) (by omega) (by omega)
    rw [List.take_succ_eq_append_getElem hlt, hexOf_snoc, hn, Int.toNat_natCast] at this
    simp only [List.append_assoc, List.cons_append, List.nil_append] at this ⊢
    exact this
theorem hex_ev (l : List Int) (hl : l.length ≤ 1000000) (ho : l.all isB = true) : Ev (fun k => spec_BytesText.f k l) (ByteArray.mk (hexOf l).toArray) := by
  unfold spec_BytesText.f
  have := hex_loop l hl ho l.length 0 (by omega) (by omega)
  exact this
def partT (has : Bool) (l : List Int) : List UInt8 := if has = true then 120 :: hexOf l else [45]
theorem part_ev (has : Bool) (l : List Int) (hl : l.length ≤ 1000000) (ho : has = true → l.all isB = true) : Ev (fun k => spec_l41Part.f k has l) (ByteArray.mk (partT has l).toArray) := by
  unfold spec_l41Part.f partT
  cases has
  · exact Ev.now _
  · simp only [if_true]
    refine Ev.bind (hex_ev l hl (ho rfl)) ?_
    have : 1 + (ByteArray.mk (hexOf l).toArray).size ≤ 9223372036854775807 := by rw [size_mk, hexOf_len]; omega
    simp only [if_pos this]
    rw [show (⟨#[120]⟩ : ByteArray) = ByteArray.mk [120].toArray from rfl, app_mk]
    exact Ev.now _
def textOf (r : S25) : List UInt8 := dec r.f0.toNat ++ 32 :: (dec r.f1.toNat ++ 32 :: (partT r.f2 r.f3 ++ 32 :: partT r.f4 r.f5))
theorem recOk_parts {r : S25} (h : recOk r = true) : (0 ≤ r.f0 ∧ r.f0 ≤ 99999) ∧ (0 ≤ r.f1 ∧ r.f1 ≤ 99999) ∧ (r.f2 = true → r.f3.all isB = true) ∧ (r.f4 = true → r.f5.all isB = true) ∧ (r.f2 = false → r.f3 = []) ∧ (r.f4 = false → r.f5 = []) := by
  unfold recOk partOk rng at h
  simp only [Bool.and_eq_true, decide_eq_true_eq] at h
  obtain ⟨⟨h0, h1⟩, h2, h3⟩ := h
  refine ⟨h0, h1, fun e => ?_, fun e => ?_, fun e => ?_, fun e => ?_⟩
  · rw [e] at h2; simp at h2; exact List.all_eq_true.2 h2.2
  · rw [e] at h3; simp at h3; exact List.all_eq_true.2 h3.2
  · rw [e] at h2; simpa using h2
  · rw [e] at h3; simpa using h3
theorem text_ev (r : S25) (h : recOk r = true) : Ev (fun k => spec_l41Text.f k r.f0 r.f1 r.f2 r.f3 r.f4 r.f5) (ByteArray.mk (textOf r).toArray) := by
  obtain ⟨h0, h1, h2, h3, _, _⟩ := recOk_parts h
  have hl := recOk_len h
  obtain ⟨a, ha⟩ := Int.eq_ofNat_of_zero_le h0.1
  obtain ⟨b, hb⟩ := Int.eq_ofNat_of_zero_le h1.1
  have la := dec_len a 4 (by omega)
  have lb := dec_len b 4 (by omega)
  have lp : (partT r.f2 r.f3).length ≤ 25 := by unfold partT; split; simp only [List.length_cons, hexOf_len]; omega; simp
  have lq : (partT r.f4 r.f5).length ≤ 25 := by unfold partT; split; simp only [List.length_cons, hexOf_len]; omega; simp
  unfold spec_l41Text.f
  rw [ha, hb]
  refine Ev.bind (dec_ev 4 a (by omega) (by omega)) ?_
  rw [show (⟨#[32]⟩ : ByteArray) = ByteArray.mk [32].toArray from rfl]
  simp only [if_pos (show (ByteArray.mk (dec a).toArray).size + 1 ≤ 9223372036854775807 by rw [size_mk]; omega)]
  refine Ev.bind (dec_ev 4 b (by omega) (by omega)) ?_
  simp only [app_mk]
  have e1 : (ByteArray.mk (dec a ++ [32]).toArray).size + (ByteArray.mk (dec b).toArray).size ≤ 9223372036854775807 := by rw [size_mk, size_mk]; simp only [List.length_append, List.length_singleton]; omega
  have e2 : (ByteArray.mk (dec a ++ [32] ++ dec b).toArray).size + 1 ≤ 9223372036854775807 := by rw [size_mk]; simp only [List.length_append, List.length_singleton]; omega
  simp only [if_pos e1, if_pos e2]
  refine Ev.bind (part_ev r.f2 r.f3 (by omega) h2) ?_
  simp only [app_mk]
  have e3 : (ByteArray.mk (dec a ++ [32] ++ dec b ++ [32]).toArray).size + (ByteArray.mk (partT r.f2 r.f3).toArray).size ≤ 9223372036854775807 := by rw [size_mk, size_mk]; simp only [List.length_append, List.length_singleton]; omega
  have e4 : (ByteArray.mk (dec a ++ [32] ++ dec b ++ [32] ++ partT r.f2 r.f3).toArray).size + 1 ≤ 9223372036854775807 := by rw [size_mk]; simp only [List.length_append, List.length_singleton]; omega
  simp only [if_pos e3, if_pos e4]
  refine Ev.bind (part_ev r.f4 r.f5 (by omega) h3) ?_
  simp only [app_mk]
  have e5 : (ByteArray.mk (dec a ++ [32] ++ dec b ++ [32] ++ partT r.f2 r.f3 ++ [32]).toArray).size + (ByteArray.mk (partT r.f4 r.f5).toArray).size ≤ 9223372036854775807 := by rw [size_mk, size_mk]; simp only [List.length_append, List.length_singleton]; omega
  simp only [if_pos e5]
  unfold textOf
  rw [ha, hb, Int.toNat_natCast, Int.toNat_natCast]
  have : dec a ++ [32] ++ dec b ++ [32] ++ partT r.f2 r.f3 ++ [32] ++ partT r.f4 r.f5 = dec a ++ 32 :: (dec b ++ 32 :: (partT r.f2 r.f3 ++ 32 :: partT r.f4 r.f5)) := by simp
  rw [this]
  exact Ev.now _
/-! one line, one record -/
theorem split_first {a b x y : List UInt8} {c : UInt8} (ha : c ∉ a) (hb : c ∉ b) (h : a ++ c :: x = b ++ c :: y) : a = b ∧ x = y := by
  induction a generalizing b with
  | nil =>
    cases b with
    | nil => simpa using h
    | cons d b =>
      simp only [List.nil_append, List.cons_append, List.cons.injEq] at h
      exact absurd (by simp [h.1]) hb
  | cons d a ih =>
    cases b with
    | nil =>
      simp only [List.nil_append, List.cons_append, List.cons.injEq] at h
      exact absurd (by simp [h.1]) ha
    | cons e b =>
      simp only [List.cons_append, List.cons.injEq] at h
      have := ih (fun m => ha (by simp [m])) (fun m => hb (by simp [m])) h.2
      exact ⟨by rw [h.1, this.1], this.2⟩
theorem dec_digit (n : Nat) : ∀ c ∈ dec n, 48 ≤ c.toNat ∧ c.toNat ≤ 57 := by
  induction n using Nat.strongRecOn with
  | ind n ih =>
    intro c hc
    unfold dec at hc
    split at hc
    · rename_i h
      simp only [List.mem_singleton] at hc
      subst hc
      simp only [UInt8.toNat_ofNat']
      omega
    · rename_i h
      rcases List.mem_append.1 hc with hc | hc
      · exact ih (n / 10) (by omega) c hc
      · simp only [List.mem_singleton] at hc
        subst hc
        simp only [UInt8.toNat_ofNat']
        omega
def val (l : List UInt8) : Nat := l.foldl (fun n c => 10 * n + (c.toNat - 48)) 0
theorem val_dec (n : Nat) : val (dec n) = n := by
  induction n using Nat.strongRecOn with
  | ind n ih =>
    unfold dec
    split
    · rename_i h
      simp only [val, List.foldl_cons, List.foldl_nil, UInt8.toNat_ofNat']
      omega
    · rename_i h
      have := ih (n / 10) (by omega)
      unfold val at this ⊢
      rw [List.foldl_append, this]
      simp only [List.foldl_cons, List.foldl_nil, UInt8.toNat_ofNat']
      omega
theorem dec_inj {a b : Nat} (h : dec a = dec b) : a = b := by rw [← val_dec a, ← val_dec b, h]
theorem dec_no (n : Nat) : (32 : UInt8) ∉ dec n := fun h => by
  have := dec_digit n 32 h
  simp at this
theorem hx_range (n : Nat) (h : n < 16) : 48 ≤ (hx n).toNat ∧ (hx n).toNat ≤ 102 := by
  unfold hx
  split <;> simp only [UInt8.toNat_ofNat'] <;> omega
theorem hx_inj {a b : Nat} (ha : a < 16) (hb : b < 16) (h : hx a = hx b) : a = b := by
  have h2 : (hx a).toNat = (hx b).toNat := by rw [h]
  unfold hx at h2
  split at h2 <;> split at h2 <;> simp only [UInt8.toNat_ofNat'] at h2 <;> omega
theorem part_no (has : Bool) (l : List Int) (ho : has = true → l.all isB = true) : (32 : UInt8) ∉ partT has l := by
  unfold partT
  cases has
  · simp
  · simp only [if_true, List.mem_cons, not_or]
    refine ⟨by decide, fun h => ?_⟩
    unfold hexOf at h
    obtain ⟨x, hx1, hx2⟩ := List.mem_flatMap.1 h
    have hb := (isB_iff _).1 (List.all_eq_true.1 (ho rfl) x hx1)
    simp only [List.mem_cons, List.not_mem_nil, or_false] at hx2
    rcases hx2 with h2 | h2
    · have := (hx_range (x.toNat / 16) (by omega)).1
      rw [← h2] at this
      simp at this
    · have := (hx_range (x.toNat % 16) (by omega)).1
      rw [← h2] at this
      simp at this
theorem hexOf_inj : ∀ {a b : List Int}, a.all isB = true → b.all isB = true → hexOf a = hexOf b → a = b
  | [], [], _, _, _ => rfl
  | [], y :: ys, _, _, h => by
    have := congrArg List.length h
    rw [hexOf_len, hexOf_len] at this
    simp at this
  | x :: xs, [], _, _, h => by
    have := congrArg List.length h
    rw [hexOf_len, hexOf_len] at this
    simp at this
  | x :: xs, y :: ys, ha, hb, h => by
    rw [List.all_cons, Bool.and_eq_true, isB_iff] at ha hb
    have h' : hx (x.toNat / 16) :: hx (x.toNat % 16) :: hexOf xs = hx (y.toNat / 16) :: hx (y.toNat % 16) :: hexOf ys := h
    simp only [List.cons.injEq] at h'
    obtain ⟨h1, h2, h3⟩ := h'
    have e1 := hx_inj (by omega) (by omega) h1
    have e2 := hx_inj (by omega) (by omega) h2
    have e3 := hexOf_inj ha.2 hb.2 h3
    rw [e3, show x = y by omega]
theorem partT_inj {h1 h2 : Bool} {a b : List Int} (ha : h1 = true → a.all isB = true) (hb : h2 = true → b.all isB = true) (na : h1 = false → a = []) (nb : h2 = false → b = []) (h : partT h1 a = partT h2 b) : h1 = h2 ∧ a = b := by
  unfold partT at h
  cases h1 <;> cases h2
  · exact ⟨rfl, by rw [na rfl, nb rfl]⟩
  · simp at h
  · simp at h
  · simp only [if_true, List.cons.injEq, true_and] at h
    exact ⟨rfl, hexOf_inj (ha rfl) (hb rfl) h⟩
theorem text_inj {a b : S25} (ha : recOk a = true) (hb : recOk b = true) (h : textOf a = textOf b) : a = b := by
  obtain ⟨a0, a1, a2, a3, a4, a5⟩ := recOk_parts ha
  obtain ⟨b0, b1, b2, b3, b4, b5⟩ := recOk_parts hb
  unfold textOf at h
  obtain ⟨e0, h⟩ := split_first (dec_no _) (dec_no _) h
  obtain ⟨e1, h⟩ := split_first (dec_no _) (dec_no _) h
  obtain ⟨e2, h⟩ := split_first (part_no _ _ a2) (part_no _ _ b2) h
  have k0 := dec_inj e0
  have k1 := dec_inj e1
  obtain ⟨k2, k3⟩ := partT_inj a2 b2 a4 b4 e2
  obtain ⟨k4, k5⟩ := partT_inj a3 b3 a5 b5 h
  cases a; cases b
  simp only at a0 a1 b0 b1 k0 k1 k2 k3 k4 k5
  subst k2 k3 k4 k5
  congr 1 <;> omega
end Go.Proofs.YteoicjlhkaljbaaDoor.Pu

namespace Go.Proofs.YteoicjlhkaljbaaDoor.Pu
open Go.RowKit Go.Proofs.YteoicjlhkaljbaaDoorW.PrintWords Go.Proofs.YteoicjlhkaljbaaDoorW.PrintLast Go.Proofs.YteoicjlhkaljbaaDoor.G
set_option linter.unusedVariables false
set_option linter.unusedSimpArgs false
def splitL : List UInt8 → List (List UInt8)
  | [] => [[]]
  | c :: l => if c = 32 then [] :: splitL l else (c :: (splitL l).headD []) :: (splitL l).tail
theorem splitL_ne (l : List UInt8) : splitL l ≠ [] := by
  cases l with
  | nil => simp [splitL]
  | cons c l => unfold splitL; split <;> simp
theorem splitL_none : ∀ {l : List UInt8}, (32 : UInt8) ∉ l → splitL l = [l]
  | [], _ => rfl
  | c :: l, h => by
    have hc : ¬ c = 32 := fun e => h (by simp [e])
    have ih := splitL_none (l := l) (fun m => h (by simp [m]))
    unfold splitL
    rw [if_neg hc, ih]
    rfl
theorem splitL_app : ∀ {a b : List UInt8}, (32 : UInt8) ∉ a → splitL (a ++ 32 :: b) = a :: splitL b
  | [], b, _ => by
    rw [List.nil_append]
    conv => lhs; unfold splitL
    rw [if_pos rfl]
  | c :: a, b, h => by
    have hc : ¬ c = 32 := fun e => h (by simp [e])
    have ih := splitL_app (a := a) (b := b) (fun m => h (by simp [m]))
    rw [List.cons_append]
    conv => lhs; unfold splitL
    rw [if_neg hc, ih]
    rfl
theorem splitL_join (l : List UInt8) : Lib.join (splitL l) [32] = l ∧ ∀ p ∈ splitL l, (32 : UInt8) ∉ p := by
  induction l with
  | nil => exact ⟨by simp [splitL, Lib.join_one], by simp [splitL]⟩
  | cons c l ih =>
    obtain ⟨h1, h2⟩ := ih
    have hne := splitL_ne l
    cases hs : splitL l with
    | nil => exact absurd hs hne
    | cons p ps =>
      rw [hs] at h1 h2
      unfold splitL
      by_cases hc : c = 32
      · rw [if_pos hc, hs]
        refine ⟨?_, fun q hq => ?_⟩
        · subst hc
          simp only [Lib.join, List.intercalate] at h1 ⊢
          simp only [List.intersperse_cons_cons, List.flatten_cons] at h1 ⊢
          simp [h1]
        · rcases List.mem_cons.1 hq with rfl | hq
          · simp
          · exact h2 q hq
      · rw [if_neg hc, hs]
        refine ⟨?_, fun q hq => ?_⟩
        · simp only [List.headD_cons, List.tail_cons]
          cases ps with
          | nil => rw [Lib.join_one] at h1 ⊢; rw [h1]
          | cons p2 ps =>
            simp only [Lib.join, List.intercalate] at h1 ⊢
            simp only [List.intersperse_cons_cons, List.flatten_cons] at h1 ⊢
            rw [List.cons_append, h1]
        · simp only [List.headD_cons, List.tail_cons] at hq
          rcases List.mem_cons.1 hq with rfl | hq
          · simp only [List.mem_cons, not_or]
            exact ⟨fun e => hc e.symm, h2 p (by simp)⟩
          · exact h2 q (List.mem_cons_of_mem _ hq)
/-- The library's cut. -/
theorem first_blank (l : List UInt8) : (Lib.index l [32] = -1 ∧ (32 : UInt8) ∉ l) ∨ ∃ a b, l = a ++ 32 :: b ∧ (32 : UInt8) ∉ a ∧ Lib.index l [32] = (a.length : Nat) := by
  induction l with
  | nil => exact .inl ⟨rfl, by simp⟩
  | cons c l ih =>
    by_cases hc : c = 32
    · subst hc
      exact .inr ⟨[], l, rfl, by simp, by simp [Lib.index]⟩
    · have hc2 : ¬ (32 : UInt8) = c := fun e => hc e.symm
      have hp : ([32] : List UInt8).isPrefixOf (c :: l) = false := by show ((32 : UInt8) == c && ([] : List UInt8).isPrefixOf l) = false; rw [beq_eq_false_iff_ne.2 hc2]; rfl
      rcases ih with ⟨h1, h2⟩ | ⟨a, b, e, ha, hi⟩
      · refine .inl ⟨?_, by simp [hc2, h2]⟩
        unfold Lib.index
        rw [hp, h1]
        rfl
      · refine .inr ⟨c :: a, b, by rw [e]; rfl, by simp [hc2, ha], ?_⟩
        unfold Lib.index
        rw [hp, hi]
        have : (((a.length : Nat) : Int) == -1) = false := by rw [beq_eq_false_iff_ne]; omega
        simp [this]
theorem splitK_eq : ∀ (n : Nat) (l : List UInt8), l.length ≤ n → Lib.splitK [32] 0 (Lib.count l [32]) l = splitL l := by
  intro n
  induction n with
  | zero =>
    intro l hl
    obtain rfl : l = [] := List.eq_nil_of_length_eq_zero (by omega)
    rw [Lib.count_miss (s := []) (sub := [32]) rfl]
    rfl
  | succ n ih =>
    intro l hl
    rcases first_blank l with ⟨h1, h2⟩ | ⟨a, b, e, ha, hi⟩
    · rw [Lib.count_miss h1, splitL_none h2]
      rfl
    · have hd : l.drop (a.length + ([32] : List UInt8).length) = b := by rw [e]; simp
      rw [Lib.count_hit (by simp) hi, hd, Nat.add_comm]
      unfold Lib.splitK
      have hm : ¬ (Lib.index l [32] == -1) = true := by rw [hi]; simp
      rw [if_neg hm, hi, Int.toNat_natCast, hd, ih b (by rw [e] at hl; simp at hl; omega)]
      rw [e, splitL_app ha]
      simp
theorem splitB_list (s : ByteArray) : (Lib.splitB ⟨#[32]⟩ 0 (Lib.countB s ⟨#[32]⟩) s).map (·.data.toList) = splitL s.data.toList := by
  rw [Lib.splitB_data]
  exact splitK_eq s.data.toList.length _ (Nat.le_refl _)
/-- The reference's cut. -/
theorem extract_list (s : ByteArray) (a b : Nat) : (s.extract a b).toList = (s.toList.drop a).take (b - a) := by
  rw [toList_data, toList_data, Lib.extract_data]
theorem bt_list (s : ByteArray) (i : Nat) (h : i < s.size) : bt s (i : Int) = ((s.toList[i]'(by rw [toList_data]; simpa using h)).toNat : Int) := by
  have := bt_get s i h
  simp only [toList_data]
  exact this
theorem toList_len (s : ByteArray) : s.toList.length = s.size := by rw [toList_data]; exact data_length s
theorem cut_loop (s : ByteArray) (hs : s.size ≤ 10000000) : ∀ d (i from_ : Nat) (out : List ByteArray), s.size - i = d → i ≤ s.size → from_ ≤ i → out.length ≤ i → (32 : UInt8) ∉ (s.toList.drop from_).take (i - from_) →
    EndsIn (fun k => spec_l41Cut.l0 k s out (from_ : Int) (i : Int)) (fun r => r.map ByteArray.toList = out.map ByteArray.toList ++ splitL (s.toList.drop from_)) := by
  intro d
  have hl := toList_len s
  induction d with
  | zero =>
    intro i f out hd hi hf ho hno
    obtain rfl : i = s.size := by omega
    refine EndsIn.step (fun k => by rw [spec_l41Cut.l0]) ?_
    simp only [if_neg (show ¬ ((s.size : Nat) : Int) < (s.size : Int) by omega), if_pos (show (0 : Int) ≤ (f : Int) by omega), if_pos (show (f : Int) ≤ (s.size : Int) by omega), if_pos (show out.length < 8796093022208 by omega)]
    refine EndsIn.now _ ?_
    have e : (s.toList.drop f).take (s.size - f) = s.toList.drop f := List.take_of_length_le (by rw [List.length_drop]; omega)
    rw [e] at hno
    rw [List.map_append, splitL_none hno, List.map_cons, List.map_nil, extract_list, Int.toNat_natCast, e]
  | succ d ih =>
    intro i f out hd hi hf ho hno
    have hlt : i < s.size := by omega
    refine EndsIn.step (fun k => by rw [spec_l41Cut.l0]) ?_
    simp only [if_pos (show (i : Int) < (s.size : Int) by omega), if_pos (show (0 : Int) ≤ (i : Int) by omega), if_pos (show (0 : Int) ≤ (f : Int) by omega), if_pos (show (f : Int) ≤ (i : Int) by omega), if_pos (show (i : Int) ≤ (s.size : Int) by omega), if_pos (show out.length < 8796093022208 by omega), bt_list s i hlt, w64 (a := (i : Int) + 1) (by omega) (by omega)]
    have hli : i < s.toList.length := by omega
    have hdrop : s.toList.drop f = (s.toList.drop f).take (i - f) ++ s.toList[i] :: s.toList.drop (i + 1) := by
      have h1 : (s.toList.drop f).drop (i - f) = s.toList.drop i := by rw [List.drop_drop]; congr 1; omega
      rw [← List.drop_eq_getElem_cons hli, ← h1, List.take_append_drop]
    by_cases hc : s.toList[i] = 32
    · have hc' : ((s.toList[i].toNat : Nat) : Int) = 32 := by rw [hc]; rfl
      simp only [if_pos hc']
      have := ih (i + 1) (i + 1) (out ++ [s.extract f i]) (by omega) (by omega) (by omega) (by simp; omega) (by simp)
      simp only [Int.toNat_natCast]
      refine EndsIn.mono (by exact_mod_cast this) fun r hr => ?_
      rw [hr, List.map_append, List.map_cons, List.map_nil, extract_list, List.append_assoc]
      congr 1
      rw [hdrop, hc, splitL_app hno]
      rw [← hc, ← hdrop]
      simp
    · have hc' : ¬ ((s.toList[i].toNat : Nat) : Int) = 32 := fun e => hc (UInt8.toNat_inj.1 (by simpa using (by omega : s.toList[i].toNat = 32)))
      simp only [if_neg hc']
      have hno2 : (32 : UInt8) ∉ (s.toList.drop f).take (i + 1 - f) := by
        have e : (s.toList.drop f).take (i + 1 - f) = (s.toList.drop f).take (i - f) ++ [s.toList[i]] := by
          have hlt2 : i - f < (s.toList.drop f).length := by rw [List.length_drop]; omega
          rw [show i + 1 - f = (i - f) + 1 by omega, List.take_succ_eq_append_getElem hlt2]
          simp only [List.getElem_drop]
          congr 3
          omega
        rw [e, List.mem_append, List.mem_singleton]
        rintro (h | h)
        · exact hno h
        · exact hc h.symm
      have := ih (i + 1) f out (by omega) (by omega) (by omega) (by omega) hno2
      exact_mod_cast this
theorem cut_ends (s : ByteArray) (hs : s.size ≤ 10000000) : EndsIn (fun k => spec_l41Cut.f k s) (fun r => r.map ByteArray.toList = splitL s.toList) := by
  unfold spec_l41Cut.f
  have := cut_loop s hs s.size 0 0 [] (by omega) (by omega) (by omega) (by simp) (by simp)
  refine EndsIn.mono (by exact_mod_cast this) fun r hr => ?_
  simpa using hr
end Go.Proofs.YteoicjlhkaljbaaDoor.Pu

namespace Go.Proofs.YteoicjlhkaljbaaDoor.Pu
open Go.RowKit Go.Proofs.YteoicjlhkaljbaaDoorW.PrintWords Go.Proofs.YteoicjlhkaljbaaDoorW.PrintLast Go.Proofs.YteoicjlhkaljbaaDoor.G
set_option linter.unusedVariables false
set_option linter.unusedSimpArgs false
def isDig (c : UInt8) : Bool := decide (48 ≤ c.toNat) && decide (c.toNat ≤ 57)
theorem val_snoc (l : List UInt8) (c : UInt8) : val (l ++ [c]) = 10 * val l + (c.toNat - 48) := by
  unfold val
  rw [List.foldl_append]
  rfl
theorem val_lt : ∀ (n : Nat) (l : List UInt8), l.length = n → l.all isDig = true → val l < 10 ^ l.length := by
  intro n
  induction n with
  | zero => intro l hl _; rw [List.eq_nil_of_length_eq_zero hl]; decide
  | succ n ih =>
    intro l hl ha
    obtain ⟨m, c, rfl⟩ : ∃ m c, l = m ++ [c] := by
      rcases List.eq_nil_or_concat l with rfl | ⟨m, c, rfl⟩
      · simp at hl
      · exact ⟨m, c, by simp⟩
    simp only [List.length_append, List.length_singleton] at hl
    rw [List.all_append, Bool.and_eq_true] at ha
    have h1 := ih m (by omega) ha.1
    have hc : isDig c = true := by simpa using ha.2
    unfold isDig at hc
    simp only [Bool.and_eq_true, decide_eq_true_eq] at hc
    rw [val_snoc, List.length_append, List.length_singleton, Nat.pow_succ]
    omega
/-- One to five digits, no zero ahead. -/
def shape (l : List UInt8) : Bool := decide (1 ≤ l.length) && decide (l.length ≤ 5) && !(decide (1 < l.length) && l.headD 0 == 48)
def numI (l : List UInt8) : Int × Bool := if (shape l && l.all isDig) = true then ((val l : Nat), true) else (0, false)
theorem dec_val : ∀ (n : Nat) (l : List UInt8), l.length = n → l ≠ [] → l.all isDig = true → (1 < l.length → l.headD 0 ≠ 48) → dec (val l) = l := by
  intro n
  induction n with
  | zero => intro l hl hne; exact absurd (List.eq_nil_of_length_eq_zero hl) hne
  | succ n ih =>
    intro l hl hne ha hz
    obtain ⟨m, c, rfl⟩ : ∃ m c, l = m ++ [c] := by
      rcases List.eq_nil_or_concat l with rfl | ⟨m, c, rfl⟩
      · simp at hl
      · exact ⟨m, c, by simp⟩
    simp only [List.length_append, List.length_singleton] at hl hz
    rw [List.all_append, Bool.and_eq_true] at ha
    have hc : isDig c = true := by simpa using ha.2
    unfold isDig at hc
    simp only [Bool.and_eq_true, decide_eq_true_eq] at hc
    have hcc : UInt8.ofNat (48 + (c.toNat - 48)) = c := by rw [show 48 + (c.toNat - 48) = c.toNat by omega]; simp
    rw [val_snoc]
    cases m with
    | nil =>
      show dec (10 * 0 + (c.toNat - 48)) = [c]
      unfold dec
      rw [dif_pos (by omega), show 48 + (10 * 0 + (c.toNat - 48)) = 48 + (c.toNat - 48) by omega, hcc]
    | cons x m =>
      have hz' : x ≠ 48 := by simpa using hz (by simp)
      have hm := ih (x :: m) (by omega) (by simp) ha.1 (fun _ => by simpa using hz')
      have hpos : 1 ≤ val (x :: m) := by
        rcases Nat.eq_zero_or_pos (val (x :: m)) with h0 | h0
        · rw [h0] at hm
          have : dec 0 = [48] := by unfold dec; rfl
          rw [this] at hm
          simp only [List.cons.injEq] at hm
          exact absurd hm.1.symm hz'
        · exact h0
      rw [dec, dif_neg (by omega), show (10 * val (x :: m) + (c.toNat - 48)) / 10 = val (x :: m) by omega, show (10 * val (x :: m) + (c.toNat - 48)) % 10 = c.toNat - 48 by omega, hm, hcc]
theorem dec_head (n : Nat) (h : 10 ≤ n) : (dec n).headD 0 ≠ 48 := by
  induction n using Nat.strongRecOn with
  | ind n ih =>
    have hd : dec n = dec (n / 10) ++ [UInt8.ofNat (48 + n % 10)] := by rw [dec, dif_neg (by omega)]
    rw [hd]
    by_cases h2 : n / 10 < 10
    · have : dec (n / 10) = [UInt8.ofNat (48 + n / 10)] := by rw [dec, dif_pos h2]
      rw [this]
      show UInt8.ofNat (48 + n / 10) ≠ 48
      intro e
      have := congrArg UInt8.toNat e
      simp only [UInt8.toNat_ofNat'] at this
      have h48 : (48 : UInt8).toNat = 48 := rfl
      omega
    · have := ih (n / 10) (by omega) (by omega)
      cases hq : dec (n / 10) with
      | nil => rw [hq] at this; have hl := dec_digit (n / 10); unfold dec at hq; split at hq <;> simp at hq
      | cons y ys => rw [hq] at this; simpa using this
theorem dec_ne (n : Nat) : dec n ≠ [] := by unfold dec; split <;> simp
theorem dec_all (n : Nat) : (dec n).all isDig = true := List.all_eq_true.2 fun c hc => by
  have := dec_digit n c hc
  unfold isDig
  simp only [Bool.and_eq_true, decide_eq_true_eq]
  exact this
theorem shape_dec (n : Nat) (h : n ≤ 99999) : shape (dec n) = true := by
  have h1 := dec_len n 4 (by omega)
  have h2 : 1 ≤ (dec n).length := List.length_pos_iff.2 (dec_ne n)
  unfold shape
  simp only [Bool.and_eq_true, decide_eq_true_eq, Bool.not_eq_true', Bool.and_eq_false_iff, decide_eq_false_iff_not, beq_eq_false_iff_ne]
  refine ⟨⟨h2, h1⟩, ?_⟩
  by_cases h10 : n < 10
  · left
    have : dec n = [UInt8.ofNat (48 + n)] := by rw [dec, dif_pos h10]
    rw [this]
    simp
  · exact .inr (dec_head n (by omega))
theorem numI_dec (n : Nat) (h : n ≤ 99999) : numI (dec n) = (((n : Nat) : Int), true) := by
  unfold numI
  rw [shape_dec n h, dec_all n, val_dec]
  rfl
theorem numI_inv {l : List UInt8} {n : Int} (h : numI l = (n, true)) : ∃ m : Nat, n = m ∧ m ≤ 99999 ∧ dec m = l := by
  unfold numI at h
  by_cases hs : (shape l && l.all isDig) = true
  · rw [if_pos hs] at h
    obtain rfl : ((val l : Nat) : Int) = n := congrArg Prod.fst h
    rw [Bool.and_eq_true] at hs
    obtain ⟨h1, h2⟩ := hs
    unfold shape at h1
    simp only [Bool.and_eq_true, decide_eq_true_eq, Bool.not_eq_true', Bool.and_eq_false_iff, decide_eq_false_iff_not, beq_eq_false_iff_ne] at h1
    have hv := val_lt l.length l rfl h2
    have hp : 10 ^ l.length ≤ 10 ^ 5 := Nat.pow_le_pow_right (by decide) h1.1.2
    refine ⟨val l, rfl, by omega, dec_val l.length l rfl (fun e => by rw [e] at h1; simp at h1) h2 (fun hl => ?_)⟩
    rcases h1.2 with h3 | h3
    · exact absurd hl h3
    · exact h3
  · rw [if_neg hs] at h
    cases h
theorem bt_dig (s : ByteArray) (i : Nat) (h : i < s.toList.length) : isDig s.toList[i] = (decide (¬ bt s (i : Int) < 48) && decide (¬ bt s (i : Int) > 57)) := by
  rw [bt_list s i (by rw [← toList_len]; exact h)]
  unfold isDig
  congr 1
  · exact decide_eq_decide.2 (by omega)
  · exact decide_eq_decide.2 (by omega)
/-- A loop over the digits of a word. -/
theorem num_loop {β : Type} (s : ByteArray) (hs : s.size ≤ 5) (L : Nat → Int → Int → Option β) (no : β) (yes : Int → β)
    (hend : ∀ k x, L (k + 1) x (s.size : Int) = some (yes x))
    (hstep : ∀ k x (i : Nat), i < s.size → L (k + 1) x (i : Int) = if bt s (i : Int) < 48 then some no else if bt s (i : Int) > 57 then some no else L k (wrap64 ((wrap64 (10 * x)) + ((bt s (i : Int) - 48) % 256))) (wrap64 ((i : Int) + 1))) :
    ∀ d i, s.size - i = d → i ≤ s.size → (s.toList.take i).all isDig = true → Ev (fun k => L k ((val (s.toList.take i) : Nat) : Int) (i : Int)) (if s.toList.all isDig = true then yes ((val s.toList : Nat) : Int) else no) := by
  intro d
  have hl := toList_len s
  induction d with
  | zero =>
    intro i hd hi ha
    obtain rfl : i = s.size := by omega
    refine Ev.step (fun k => hend k _) ?_
    have e : s.toList.take s.size = s.toList := List.take_of_length_le (by omega)
    rw [e] at ha ⊢
    rw [if_pos ha]
    exact Ev.now _
  | succ d ih =>
    intro i hd hi ha
    have hlt : i < s.size := by omega
    have hli : i < s.toList.length := by omega
    refine Ev.step (fun k => hstep k _ i hlt) ?_
    have hb := bt_dig s i hli
    have hbl := bt_list s i hlt
    have hno : isDig s.toList[i] = false → s.toList.all isDig = false := fun h => by
      rw [List.all_eq_false]
      exact ⟨_, List.getElem_mem hli, by simp [h]⟩
    by_cases h1 : bt s (i : Int) < 48
    · simp only [if_pos h1]
      rw [hno (by rw [hb]; simp [h1])]
      exact Ev.now _
    · simp only [if_neg h1]
      by_cases h2 : bt s (i : Int) > 57
      · simp only [if_pos h2]
        rw [hno (by rw [hb]; simp [h2])]
        exact Ev.now _
      · simp only [if_neg h2]
        have htk : s.toList.take (i + 1) = s.toList.take i ++ [s.toList[i]] := List.take_succ_eq_append_getElem hli
        have hv := val_lt (s.toList.take i).length (s.toList.take i) rfl ha
        have hp : 10 ^ (s.toList.take i).length ≤ 10 ^ 5 := Nat.pow_le_pow_right (by decide) (by rw [List.length_take]; omega)
        have hd2 : isDig s.toList[i] = true := by rw [hb]; simp; omega
        have := ih (i + 1) (by omega) (by omega) (by rw [htk, List.all_append, ha]; simpa using hd2)
        rw [htk, val_snoc] at this
        rw [w64 (a := 10 * ((val (s.toList.take i) : Nat) : Int)) (by omega) (by omega), hbl]
        have hr := (isDig_iff s.toList[i]).1 hd2
        rw [show ((s.toList[i].toNat : Int) - 48) % 256 = ((s.toList[i].toNat - 48 : Nat) : Int) by omega, w64 (by omega) (by omega), w64 (by omega) (by omega)]
        exact_mod_cast this
where isDig_iff (c : UInt8) : isDig c = true ↔ 48 ≤ c.toNat ∧ c.toNat ≤ 57 := by unfold isDig; simp
theorem bt_head (s : ByteArray) (h : 0 < s.size) : (bt s 0 == 48) = (s.toList.headD 0 == 48) := by
  have hl := toList_len s
  have := bt_list s 0 h
  rw [show ((0 : Nat) : Int) = 0 from rfl] at this
  rw [this]
  obtain ⟨c, l, hs⟩ : ∃ c l, s.toList = c :: l := by
    cases hs : s.toList with
    | nil => rw [hs] at hl; simp at hl; omega
    | cons c l => exact ⟨c, l, rfl⟩
  have h0 : s.toList[0]'(by rw [hs]; simp) = c := by simp [hs]
  rw [h0, hs, List.headD_cons]
  rw [Bool.eq_iff_iff, beq_iff_eq, beq_iff_eq]
  constructor
  · intro hh
    exact UInt8.toNat_inj.1 (by simpa using (by omega : c.toNat = 48))
  · rintro rfl
    rfl
theorem numberOf_ev (s : ByteArray) (hs : s.size ≤ 10000000) : Ev (fun k => impl_numberOf.f k s) (numI s.toList) := by
  have hl := toList_len s
  unfold impl_numberOf.f
  have hgo : 1 ≤ s.size → s.size ≤ 5 → shape s.toList = true → Ev (fun k => impl_numberOf.j0 k s false) (numI s.toList) := by
    intro h1 h5 hsh
    refine Ev.step (fun k => by rw [impl_numberOf.j0]) ?_
    simp only [Bool.false_eq_true, if_false]
    have := num_loop s h5 (fun k x i => impl_numberOf.l0 k s x (s.size : Int) i) ((0 : Int), false) (fun x => (x, true)) (fun k x => by simp only [impl_numberOf.l0]; rw [if_neg (by omega)])
      (fun k x i hi => by simp only [impl_numberOf.l0]; rw [if_pos (by omega), if_pos (by omega), if_pos (by omega)]) s.size 0 (by omega) (by omega) rfl
    unfold numI
    rw [hsh, Bool.true_and]
    exact this
  have hstop : shape s.toList = false → Ev (fun k => impl_numberOf.j0 k s true) (numI s.toList) := by
    intro h
    refine Ev.step (fun k => by rw [impl_numberOf.j0]) ?_
    simp only [if_true]
    unfold numI
    rw [h]
    exact Ev.now _
  by_cases h1 : (s.size : Int) < 1
  · simp only [if_pos h1]
    exact hstop (by unfold shape; rw [hl, decide_eq_false (by omega)]; rfl)
  · simp only [if_neg h1]
    by_cases h5 : (s.size : Int) > 5
    · simp only [if_pos h5]
      exact hstop (by unfold shape; rw [hl, decide_eq_false (show ¬ s.size ≤ 5 by omega)]; simp)
    · simp only [if_neg h5]
      by_cases h2 : (s.size : Int) > 1
      · simp only [if_pos h2, if_pos (show (0 : Int) < (s.size : Int) by omega), bt_head s (by omega)]
        have hsh : shape s.toList = !(s.toList.headD 0 == 48) := by
          unfold shape
          rw [hl, decide_eq_true (show 1 ≤ s.size by omega), decide_eq_true (show s.size ≤ 5 by omega), decide_eq_true (show 1 < s.size by omega)]
          rfl
        cases hh : (s.toList.headD 0 == 48)
        · exact hgo (by omega) (by omega) (by rw [hsh, hh]; rfl)
        · exact hstop (by rw [hsh, hh]; rfl)
      · simp only [if_neg h2]
        exact hgo (by omega) (by omega) (by unfold shape; rw [hl, decide_eq_true (show 1 ≤ s.size by omega), decide_eq_true (show s.size ≤ 5 by omega), decide_eq_false (show ¬ 1 < s.size by omega)]; rfl)
/-- The reference's number. -/
def numS (l : List UInt8) : Int := if (decide (1 ≤ l.length) && decide (l.length ≤ 5) && l.all isDig) = true then ((val l : Nat) : Int) else -1
theorem numS_dec (n : Nat) (h : n ≤ 99999) : numS (dec n) = (n : Nat) := by
  have h1 := dec_len n 4 (by omega)
  have h2 : 1 ≤ (dec n).length := List.length_pos_iff.2 (dec_ne n)
  unfold numS
  rw [decide_eq_true h2, decide_eq_true h1, dec_all n, val_dec]
  rfl
theorem number_ev (s : ByteArray) (hs : s.size ≤ 10000000) : Ev (fun k => spec_l41Number.f k s) (numS s.toList) := by
  have hl := toList_len s
  unfold spec_l41Number.f numS
  rw [in_ev, hl]
  simp only [bindS]
  rw [show (decide ((1 : Int) ≤ (s.size : Int)) && decide ((s.size : Int) ≤ 5)) = (decide (1 ≤ s.size) && decide (s.size ≤ 5)) by
    congr 1
    · exact decide_eq_decide.2 (by omega)
    · exact decide_eq_decide.2 (by omega)]
  by_cases h : (decide (1 ≤ s.size) && decide (s.size ≤ 5)) = true
  · rw [h]
    simp only [if_true, Bool.true_and]
    simp only [Bool.and_eq_true, decide_eq_true_eq] at h
    have := num_loop s h.2 (fun k x i => spec_l41Number.l0 k s x i) (-1 : Int) (fun x => x) (fun k x => by simp only [spec_l41Number.l0]; rw [if_neg (by omega)])
      (fun k x i hi => by simp only [spec_l41Number.l0]; rw [if_pos (by omega), if_pos (by omega)]) s.size 0 (by omega) (by omega) rfl
    exact this
  · have h' : (decide (1 ≤ s.size) && decide (s.size ≤ 5)) = false := by simpa using h
    rw [h']
    simp only [Bool.false_eq_true, if_false, Bool.false_and]
    exact Ev.now _
end Go.Proofs.YteoicjlhkaljbaaDoor.Pu

