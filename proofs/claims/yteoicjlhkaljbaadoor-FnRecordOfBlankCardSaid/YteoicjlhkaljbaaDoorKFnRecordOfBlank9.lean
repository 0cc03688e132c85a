/- A text of seat YteoicjlhkaljbaaDoor: what the law FnRecordOfBlank needs of this repo's texts (by pack.py). Not trusted: Lean checks it. -/
import Derived.Test.YteoicjlhkaljbaaDoorKFnRecordOfBlank8
import Derived.Deep.Slices
import Derived.SizedLaws
namespace Go.Proofs.YteoicjlhkaljbaaDoor.G
open Go.RowKit Go.Proofs.YteoicjlhkaljbaaDoorW.PrintWords Go.Proofs.YteoicjlhkaljbaaDoorW.PrintLast Go.Proofs.YteoicjlhkaljbaaDoorW.PrintMore
attribute [local go_sem] max2_int min2_int max_two min_two max_three min_three max_four min_four   -- for this text's walks alone
set_option linter.unusedVariables false
set_option linter.unusedSimpArgs false

def spec_l6Rd_of.f (k : Nat) (s0_0 : List Int) (s0_1 : Int) (l1 : List ByteArray) : Option (ByteArray × Int) := (spec_l6Rd_pick.f k s0_0 s0_1 (l1.length : Int)).bind fun bt422 => (if 0 ≤ bt422.1 then (if bt422.1 < (l1.length : Int) then (some (rdOf ByteArray.empty l1 bt422.1, bt422.2)) else (none)) else (none))
set_option maxHeartbeats 8000000 in
set_option maxRecDepth 100000 in
theorem spec_l6Rd_of.calls (k : Nat) (g : Nat) (s0_0 : List Int) (s0_1 : Int) (A1 : Option Addr) (c1 : Nat) (l1 : List ByteArray) (r1 : ByteArray) (r2 : Int) (w0 w : World) (hI : IsS101 w0 w g s0_0 s0_1) (hB : Below w0.heap.size w0 w) (hr1 : Kd.C Kd.string w A1 l1.length l1) (hc1 : l1.length ≤ c1) (hf1 : ∀ ad, A1 = some ad → 0 < l1.length → ad.block ≠ g) (h : spec_l6Rd_of.f k s0_0 s0_1 l1 = some (r1, r2)) :
  Calls Tryd.prog 50 #[.pointer (some ⟨g, 0, none⟩), .slice A1 l1.length c1] w fun e w' => e = .returned (.string r1) ∧ IsS101 w0 w' g s0_0 r2 ∧ Below w0.heap.size w0 w' ∧ KeepBut w w' g none := by
 have HR1 := Aside0.mk hr1
 have HC1 := Aside0.mk hc1
 clear hr1 hc1
 have HI0 := Aside0.mk hI
 have HK := Aside0.mk (KeepBut.refl w g none)
 have HL := Aside0.mk hB.size
 clear hI
 have HW0 := Aside0.mk hB.size
 have HB := Aside0.mk hB
 clear hB
 have H : ((spec_l6Rd_pick.f k s0_0 s0_1 (l1.length : Int)).bind fun bt422 => (if 0 ≤ bt422.1 then (if bt422.1 < (l1.length : Int) then (some (rdOf ByteArray.empty l1 bt422.1, bt422.2)) else (none)) else (none))) = some (r1, r2) := h
 clear h
 replace H := tbe H
 obtain ⟨⟨t422, t423⟩, A3, H⟩ := H
 dsimp only at H
 by_cases c4 : 0 ≤ t422
 ·rw [if_pos c4] at H
  have c4b0 : decide (0 ≤ t422) = true := decide_eq_true c4
  clear c4
  by_cases c5 : t422 < (l1.length : Int)
  ·rw [if_pos c5] at H
   have c5b0 : decide (t422 < (l1.length : Int)) = true := decide_eq_true c5
   clear c5
   simp only [Option.some.injEq, Prod.mk.injEq] at H
   obtain ⟨rfl, rfl⟩ := H
   go_enter Tryd.func50, Tryd.ntmps50
   go_wp2_with (first | ((with_reducible refine gate_callee (f := 51) rfl ?_); refine goesL_ (some 9) rfl rfl Tryd.func51 (by kernel_rfl) rfl #[.pointer (some ⟨g, 0, none⟩), .int .i64 (l1.length : Int)] rfl tq ?_; (with_reducible refine (spec_l6Rd_pick.calls k g s0_0 s0_1 (l1.length : Int) t422 t423 w0 _ ?side1 ?side2 A3.out).mono ?_); (case side1 => exact zi101); (case side2 => exact zb); rintro e w6 ⟨rfl, hi, hb, hk⟩; refine ⟨_, rfl, ?_⟩; replace HK := tKt HK hk; replace HB := Aside0.mk (hb); replace HI0 := Aside0.mk (hi); (try clear hb); (try clear hb2); (try clear hk); (try clear hi); have p424 : 0 ≤ (t422 : Int) := td; have q424 : t422 < (l1.length : Int) := td; obtain ⟨ad424, e424, hx424_0⟩ := Kd.at_string HR1.out t422 p424 q424; cases e424; replace hx424_0 := keep_cell HK.out hx424_0 (by first | (rw [add_block]; exact hf1 _ rfl (by omega)) | exact hf1 _ rfl (by omega) | exact hf1 ad424 rfl (by omega)); replace p424 := eq_true p424; replace q424 := eq_true q424))
   go_ret
   exact ⟨by first | rfl | (simp [errW_none, errW_some] <;> rfl) | (simp [*, errW_none, errW_some] <;> rfl), zi101, zb, zk⟩
  ·rw [if_neg c5] at H
   exact absurd H (by simp)
 ·rw [if_neg c4] at H
  exact absurd H (by simp)

def spec_DrawRecordOf.f (k : Nat) (l0 : List Int) : Option (ByteArray) := (spec_l6Open.f l0).bind fun bt425 => ((spec_l91Record.f k bt425.1 bt425.2).bind fun bt428 => ((spec_RecordText.f k bt428.1 bt428.2.1 bt428.2.2.1 bt428.2.2.2.1 bt428.2.2.2.2.1 bt428.2.2.2.2.2.1).bind fun t439 => (if t439.toList = ([] : List UInt8) then ((spec_l6Rd_of.f k bt425.1 bt428.2.2.2.2.2.2 (([(⟨#[]⟩ : ByteArray), (⟨#[49, 32, 50, 32, 45, 32, 45]⟩ : ByteArray), (⟨#[48, 49, 32, 50, 32, 45, 32, 45]⟩ : ByteArray), (⟨#[49, 32, 50, 32, 120, 48, 32, 45]⟩ : ByteArray), (⟨#[49, 32, 50, 32, 120, 65, 65, 32, 45]⟩ : ByteArray), (⟨#[49, 32, 50, 32, 121, 32, 45]⟩ : ByteArray), (⟨#[49, 32, 50, 32, 45]⟩ : ByteArray)] : List ByteArray))).bind fun bt443 => (some bt443.1)) else ((spec_l6Rd_pick.f k bt425.1 bt428.2.2.2.2.2.2 (t439.size : Int)).bind fun bt445 => ((spec_l6Rd_pick.f k bt425.1 bt445.2 6).bind fun bt447 => (if bt447.1 = 0 then (if 0 ≤ bt445.1 then (if bt445.1 ≤ (t439.size : Int) then ((spec_l6Rd_of.f k bt425.1 bt447.2 (([(⟨#[48]⟩ : ByteArray), (⟨#[120]⟩ : ByteArray), (⟨#[32]⟩ : ByteArray), (⟨#[102]⟩ : ByteArray), (⟨#[45]⟩ : ByteArray)] : List ByteArray))).bind fun bt452 => (if (t439.extract 0 (bt445.1 : Int).toNat).size + bt452.1.size ≤ 9223372036854775807 then (if 0 ≤ (wrap64 (bt445.1 + 1)) then (if (wrap64 (bt445.1 + 1)) ≤ (t439.size : Int) then (if ((t439.extract 0 (bt445.1 : Int).toNat) ++ bt452.1).size + (t439.extract ((wrap64 (bt445.1 + 1)) : Int).toNat t439.size).size ≤ 9223372036854775807 then (some (((t439.extract 0 (bt445.1 : Int).toNat) ++ bt452.1) ++ (t439.extract ((wrap64 (bt445.1 + 1)) : Int).toNat t439.size))) else (none)) else (none)) else (none)) else (none))) else (none)) else (none)) else (some t439)))))))
def spec_DrawRecordOf.T7 : Bool × List (List Nat × List Nat) := (true, [([], []), ([], []), ([0, 1], [0, 1]), ([], []), ([], []), ([3, 4], [3, 4]), ([2, 5], [2, 5]), ([], []), ([], []), ([8], [8]), ([7, 9], [7, 9]), ([6, 10], [6, 10]), ([11, 5, 0, 1, 2, 3, 4, 5, 6, 7, 8, 9, 10, 11], [11])])
def spec_DrawRecordOf.B7 : List Nat := [0, 0, 3, 0, 0, 24, 63, 0, 0, 256, 896, 2047, 4095]
theorem spec_DrawRecordOf.tab7 : rtab .any (opsOf Tryd.f22 7) = spec_DrawRecordOf.T7 := by kernel_rfl
theorem spec_DrawRecordOf.bits7 : waitsOk spec_DrawRecordOf.T7.2 spec_DrawRecordOf.B7 = true := by kernel_rfl
set_option maxHeartbeats 8000000 in
set_option maxRecDepth 100000 in
theorem spec_DrawRecordOf.calls (k : Nat) (A0 : Option Addr) (c0 : Nat) (l0 : List Int) (r : ByteArray) (w : World) (hr0 : Kd.C (Kd.int .u8) w A0 l0.length l0) (hc0 : l0.length ≤ c0) (h : spec_DrawRecordOf.f k l0 = some r) :
  Calls Tryd.prog 22 #[.slice A0 l0.length c0] w fun e w' => e = .returned (.string r) ∧ Below w.heap.size w w' := by
 have HR0 := Aside0.mk hr0
 have HC0 := Aside0.mk hc0
 clear hr0 hc0
 have HB := Aside0.mk (Below.refl w.heap.size w)
 have H : ((spec_l6Open.f l0).bind fun bt425 => ((spec_l91Record.f k bt425.1 bt425.2).bind fun bt428 => ((spec_RecordText.f k bt428.1 bt428.2.1 bt428.2.2.1 bt428.2.2.2.1 bt428.2.2.2.2.1 bt428.2.2.2.2.2.1).bind fun t439 => (if t439.toList = ([] : List UInt8) then ((spec_l6Rd_of.f k bt425.1 bt428.2.2.2.2.2.2 (([(⟨#[]⟩ : ByteArray), (⟨#[49, 32, 50, 32, 45, 32, 45]⟩ : ByteArray), (⟨#[48, 49, 32, 50, 32, 45, 32, 45]⟩ : ByteArray), (⟨#[49, 32, 50, 32, 120, 48, 32, 45]⟩ : ByteArray), (⟨#[49, 32, 50, 32, 120, 65, 65, 32, 45]⟩ : ByteArray), (⟨#[49, 32, 50, 32, 121, 32, 45]⟩ : ByteArray), (⟨#[49, 32, 50, 32, 45]⟩ : ByteArray)] : List ByteArray))).bind fun bt443 => (some bt443.1)) else ((spec_l6Rd_pick.f k bt425.1 bt428.2.2.2.2.2.2 (t439.size : Int)).bind fun bt445 => ((spec_l6Rd_pick.f k bt425.1 bt445.2 6).bind fun bt447 => (if bt447.1 = 0 then (if 0 ≤ bt445.1 then (if bt445.1 ≤ (t439.size : Int) then ((spec_l6Rd_of.f k bt425.1 bt447.2 (([(⟨#[48]⟩ : ByteArray), (⟨#[120]⟩ : ByteArray), (⟨#[32]⟩ : ByteArray), (⟨#[102]⟩ : ByteArray), (⟨#[45]⟩ : ByteArray)] : List ByteArray))).bind fun bt452 => (if (t439.extract 0 (bt445.1 : Int).toNat).size + bt452.1.size ≤ 9223372036854775807 then (if 0 ≤ (wrap64 (bt445.1 + 1)) then (if (wrap64 (bt445.1 + 1)) ≤ (t439.size : Int) then (if ((t439.extract 0 (bt445.1 : Int).toNat) ++ bt452.1).size + (t439.extract ((wrap64 (bt445.1 + 1)) : Int).toNat t439.size).size ≤ 9223372036854775807 then (some (((t439.extract 0 (bt445.1 : Int).toNat) ++ bt452.1) ++ (t439.extract ((wrap64 (bt445.1 + 1)) : Int).toNat t439.size))) else (none)) else (none)) else (none)) else (none))) else (none)) else (none)) else (some t439)))))))) = some r := h
 clear h
 replace H := tbe H
 obtain ⟨⟨t425, t426⟩, A2, H⟩ := H
 dsimp only at H
 replace H := tbe H
 obtain ⟨⟨t428, t429, t430, t431, t434, t435, t438⟩, A3, H⟩ := H
 dsimp only at H
 replace H := tbe H
 obtain ⟨t439, A4, H⟩ := H
 by_cases c5 : t439.toList = ([] : List UInt8)
 ·rw [if_pos c5] at H
  have c5b0 : (t439.toList == ([] : List UInt8)) = true := beq_iff_eq.mpr c5
  have c5b1 : (t439.toList != ([] : List UInt8)) = false := bne_eq_false_iff_eq.mpr c5
  clear c5
  obtain ⟨y440, hy440⟩ : ∃ y_ : List ByteArray, y_ = (([(⟨#[]⟩ : ByteArray), (⟨#[49, 32, 50, 32, 45, 32, 45]⟩ : ByteArray), (⟨#[48, 49, 32, 50, 32, 45, 32, 45]⟩ : ByteArray), (⟨#[49, 32, 50, 32, 120, 48, 32, 45]⟩ : ByteArray), (⟨#[49, 32, 50, 32, 120, 65, 65, 32, 45]⟩ : ByteArray), (⟨#[49, 32, 50, 32, 121, 32, 45]⟩ : ByteArray), (⟨#[49, 32, 50, 32, 45]⟩ : ByteArray)] : List ByteArray)) := ⟨_, rfl⟩
  replace H : ((spec_l6Rd_of.f k t425 t438 y440).bind fun bt443 => (some bt443.1)) = some r := by first | (rw [hy440]; with_reducible exact H) | (have H2_ := (Option.bind_some _ _).symm.trans H; rw [hy440]; with_reducible exact H2_) | (have H2_ := (Option.bind_some _ _).symm.trans H; with_reducible exact H2_) | with_reducible exact H | (rw [hy440]; exact H) | exact H
  have Ny440 := Aside0.mk hy440
  clear hy440
  replace H := tbe H
  obtain ⟨⟨t443, t444⟩, A6, H⟩ := H
  dsimp only at H
  obtain rfl := Option.some.inj H
  go_enter Tryd.func22, Tryd.ntmps22
  go_wp2_with (first | ((with_reducible refine gate_callee (f := 34) rfl ?_); refine goesL_ (some 7) rfl rfl Tryd.func34 (by kernel_rfl) rfl #[.slice A0 l0.length c0] rfl tq ?_; (with_reducible refine (spec_l6Open.calls _ _ l0 t425 t426 w _ ?side1 ?side2 ?side3 A2.out).mono ?_); (case side1 => exact zb); (case side2 => exact HR0.out); (case side3 => exact HC0.out); rintro e w7 ⟨g427, rfl, hi, hb, hb2⟩; refine ⟨_, rfl, ?_⟩; replace HB := Aside0.mk (hb); have HI427 := Aside0.mk (hi); (try clear hb); (try clear hb2); (try clear hk); (try clear hi)) | ((with_reducible refine gate_callee (f := 33) rfl ?_); refine goesL_ (some 9) rfl rfl Tryd.func33 (by kernel_rfl) rfl #[.pointer (some ⟨g427, 0, none⟩)] rfl tq ?_; (with_reducible refine (spec_l91Record.calls k g427 t425 t426 t428 t429 t430 t431 t434 t435 t438 w _ ?side1 ?side2 A3.out).mono ?_); (case side1 => repeat (first | (with_reducible first | exact HI427.out | apply IsS101.alloc | apply IsS101.drewN | apply IsS101.drew | apply IsS101.set_1) | exact HI427.out)); (case side2 => repeat (first | (with_reducible first | exact HB.out | apply below_alloc | apply pw_below_drewN | apply below_drew1 | refine below_set ?_ (IsS101.ge HI427.out)) | exact HB.out)); rintro e w8 ⟨v432, v436, rfl, ho0, ho1, hi, hb, hk⟩; have u_v432 := tsv Tryd.prog v432 ho0; have u_v436 := tsv Tryd.prog v436 ho1; refine ⟨_, rfl, ?_⟩; have HO433 := Aside0.mk (Kd.R_lower ho0 (below_size (by repeat (first | (with_reducible first | exact HB.out | apply below_alloc | apply pw_below_drewN | apply below_drew1 | refine below_set ?_ (IsS101.ge HI427.out)) | exact HB.out)))); have HO437 := Aside0.mk (Kd.R_lower ho1 (below_size (by repeat (first | (with_reducible first | exact HB.out | apply below_alloc | apply pw_below_drewN | apply below_drew1 | refine below_set ?_ (IsS101.ge HI427.out)) | exact HB.out)))); replace HB := Aside0.mk (hb); replace HI427 := Aside0.mk (hi); (try clear hb); (try clear hb2); (try clear hk); (try clear hi); (try clear ho0); (try clear ho1); obtain ⟨Ao9, co9, eo9⟩ := Kd.R_slice HO433.out; subst eo9; obtain ⟨Ao10, co10, eo10⟩ := Kd.R_slice HO437.out; subst eo10) | ((with_reducible refine gate_callee (f := 14) rfl ?_); refine goesL_ (some 10) rfl rfl Tryd.func14 (by kernel_rfl) rfl #[.agg #[.int .i64 t428, .int .i64 t429, .bool t430, .slice Ao9 t431.length co9, .bool t434, .slice Ao10 t435.length co10]] rfl tq ?_; (with_reducible refine (spec_RecordText.calls k t428 t429 t430 _ _ t431 t434 _ _ t435 t439 _ ?side1 ?side2 ?side3 ?side4 A4.out).mono ?_); (case side1 => repeat (first | exact (Kd.R_reads' HO433.out).2.2 | (with_reducible refine Kd.C_alloc ?_ _) | (with_reducible refine Kd.C_drewN ?_ _) | (with_reducible refine Kd.C_drew ?_))); (case side2 => exact (Kd.R_reads' HO433.out).2.1); (case side3 => repeat (first | exact (Kd.R_reads' HO437.out).2.2 | (with_reducible refine Kd.C_alloc ?_ _) | (with_reducible refine Kd.C_drewN ?_ _) | (with_reducible refine Kd.C_drew ?_))); (case side4 => exact (Kd.R_reads' HO437.out).2.1); rintro e w11 ⟨rfl, hb⟩; refine ⟨_, rfl, ?_⟩; replace HO433 := tRb HO433 hb; replace HO437 := tRb HO437 hb; replace HB := Aside0.mk (below_step (by repeat (first | (with_reducible first | exact HB.out | apply below_alloc | apply pw_below_drewN | apply below_drew1 | refine below_set ?_ (IsS101.ge HI427.out)) | exact HB.out)) hb); replace HI427 := Aside0.mk (IsS101.below (by repeat (first | (with_reducible first | exact HI427.out | apply IsS101.alloc | apply IsS101.drewN | apply IsS101.drew | apply IsS101.set_1) | exact HI427.out)) hb); (try clear hb); (try clear hb2); (try clear hk); (try clear hi)) | ((with_reducible refine gate_dst (N := 14) rfl ?_); refine Kd.R_lit Kd.string _ 9 ?hg (N := 14) ?hd (xs := ([(⟨#[]⟩ : ByteArray), (⟨#[49, 32, 50, 32, 45, 32, 45]⟩ : ByteArray), (⟨#[48, 49, 32, 50, 32, 45, 32, 45]⟩ : ByteArray), (⟨#[49, 32, 50, 32, 120, 48, 32, 45]⟩ : ByteArray), (⟨#[49, 32, 50, 32, 120, 65, 65, 32, 45]⟩ : ByteArray), (⟨#[49, 32, 50, 32, 121, 32, 45]⟩ : ByteArray), (⟨#[49, 32, 50, 32, 45]⟩ : ByteArray)] : List ByteArray)) (inner := [.string (⟨#[]⟩ : ByteArray), .string (⟨#[49, 32, 50, 32, 45, 32, 45]⟩ : ByteArray), .string (⟨#[48, 49, 32, 50, 32, 45, 32, 45]⟩ : ByteArray), .string (⟨#[49, 32, 50, 32, 120, 48, 32, 45]⟩ : ByteArray), .string (⟨#[49, 32, 50, 32, 120, 65, 65, 32, 45]⟩ : ByteArray), .string (⟨#[49, 32, 50, 32, 121, 32, 45]⟩ : ByteArray), .string (⟨#[49, 32, 50, 32, 45]⟩ : ByteArray)]) (ok := fun _ => True) (okp := fun _ => True) ?hr ?hp (fun _ hk => hk) trivial (Below.refl _ _) (Nat.le_refl _) (by simp) ?_; (case hd => rfl); (case hg => rfl); (case hr => first | (go_simp; done) | (go_simp; rfl)); (case hp => exact (Reps.one (show Kd.M Kd.string _ _ _ (⟨#[]⟩ : ByteArray) [.string (⟨#[]⟩ : ByteArray)] from rfl) (Reps.one (show Kd.M Kd.string _ _ _ (⟨#[49, 32, 50, 32, 45, 32, 45]⟩ : ByteArray) [.string (⟨#[49, 32, 50, 32, 45, 32, 45]⟩ : ByteArray)] from rfl) (Reps.one (show Kd.M Kd.string _ _ _ (⟨#[48, 49, 32, 50, 32, 45, 32, 45]⟩ : ByteArray) [.string (⟨#[48, 49, 32, 50, 32, 45, 32, 45]⟩ : ByteArray)] from rfl) (Reps.one (show Kd.M Kd.string _ _ _ (⟨#[49, 32, 50, 32, 120, 48, 32, 45]⟩ : ByteArray) [.string (⟨#[49, 32, 50, 32, 120, 48, 32, 45]⟩ : ByteArray)] from rfl) (Reps.one (show Kd.M Kd.string _ _ _ (⟨#[49, 32, 50, 32, 120, 65, 65, 32, 45]⟩ : ByteArray) [.string (⟨#[49, 32, 50, 32, 120, 65, 65, 32, 45]⟩ : ByteArray)] from rfl) (Reps.one (show Kd.M Kd.string _ _ _ (⟨#[49, 32, 50, 32, 121, 32, 45]⟩ : ByteArray) [.string (⟨#[49, 32, 50, 32, 121, 32, 45]⟩ : ByteArray)] from rfl) (Reps.one (show Kd.M Kd.string _ _ _ (⟨#[49, 32, 50, 32, 45]⟩ : ByteArray) [.string (⟨#[49, 32, 50, 32, 45]⟩ : ByteArray)] from rfl) (Reps.none _ _))))))))); intro v441 w12 ho13 hb hg_ hnew_; clear hg_ hnew_; (first | rw [← Ny440.out] at ho13 | (simp only [Int.reduceToNat] at ho13; rw [← Ny440.out] at ho13)); replace HO433 := tRb HO433 hb; replace HO437 := tRb HO437 hb; have HO442 := Aside0.mk (Kd.R_lower ho13 (below_size (by repeat (first | (with_reducible first | exact HB.out | apply below_alloc | apply pw_below_drewN | apply below_drew1 | refine below_set ?_ (IsS101.ge HI427.out)) | exact HB.out)))); replace HB := Aside0.mk (below_step (by repeat (first | (with_reducible first | exact HB.out | apply below_alloc | apply pw_below_drewN | apply below_drew1 | refine below_set ?_ (IsS101.ge HI427.out)) | exact HB.out)) hb); replace HI427 := Aside0.mk (IsS101.below (by repeat (first | (with_reducible first | exact HI427.out | apply IsS101.alloc | apply IsS101.drewN | apply IsS101.drew | apply IsS101.set_1) | exact HI427.out)) hb); clear hb ho13; obtain ⟨Ao14, co14, eo14⟩ := Kd.R_slice HO442.out; subst eo14) | ((with_reducible refine gate_callee (f := 50) rfl ?_); refine goesL_ (some 15) rfl rfl Tryd.func50 (by kernel_rfl) rfl #[.pointer (some ⟨g427, 0, none⟩), .slice Ao14 y440.length co14] rfl tq ?_; (with_reducible refine (spec_l6Rd_of.calls k g427 t425 t438 _ _ y440 t443 t444 w _ ?side1 ?side2 ?side3 ?side4 ?side5 A6.out).mono ?_); (case side1 => repeat (first | (with_reducible first | exact HI427.out | apply IsS101.alloc | apply IsS101.drewN | apply IsS101.drew | apply IsS101.set_1) | exact HI427.out)); (case side2 => repeat (first | (with_reducible first | exact HB.out | apply below_alloc | apply pw_below_drewN | apply below_drew1 | refine below_set ?_ (IsS101.ge HI427.out)) | exact HB.out)); (case side3 => repeat (first | exact (Kd.R_reads' HO442.out).2.2 | (with_reducible refine Kd.C_alloc ?_ _) | (with_reducible refine Kd.C_drewN ?_ _) | (with_reducible refine Kd.C_drew ?_))); (case side4 => exact (Kd.R_reads' HO442.out).2.1); (case side5 => exact far_slice (IsS101.own_ne HI427.out HO442.out (by decide))); rintro e w15 ⟨rfl, hi, hb, hk⟩; refine ⟨_, rfl, ?_⟩; replace HO433 := Aside0.mk (Kd.R_mono (Kd.R_keep (IsS101.apart (show IsS101 w _ g427 t425 t438 from by repeat (first | (with_reducible first | exact HI427.out | apply IsS101.alloc | apply IsS101.drewN | apply IsS101.drew | apply IsS101.set_1) | exact HI427.out)) (tR HO433.out) (by decide)) hk (fun _ h => h.2)) (fun _ h => h.1)); replace HO437 := Aside0.mk (Kd.R_mono (Kd.R_keep (IsS101.apart (show IsS101 w _ g427 t425 t438 from by repeat (first | (with_reducible first | exact HI427.out | apply IsS101.alloc | apply IsS101.drewN | apply IsS101.drew | apply IsS101.set_1) | exact HI427.out)) (tR HO437.out) (by decide)) hk (fun _ h => h.2)) (fun _ h => h.1)); replace HO442 := Aside0.mk (Kd.R_mono (Kd.R_keep (IsS101.apart (show IsS101 w _ g427 t425 t438 from by repeat (first | (with_reducible first | exact HI427.out | apply IsS101.alloc | apply IsS101.drewN | apply IsS101.drew | apply IsS101.set_1) | exact HI427.out)) (tR HO442.out) (by decide)) hk (fun _ h => h.2)) (fun _ h => h.1)); replace HB := Aside0.mk (hb); replace HI427 := Aside0.mk (hi); (try clear hb); (try clear hb2); (try clear hk); (try clear hi)))
  go_ret
  exact ⟨by first | rfl | (simp [errW_none, errW_some] <;> rfl) | (simp [*, errW_none, errW_some] <;> rfl), by repeat (first | (with_reducible first | exact HB.out | apply below_alloc | apply pw_below_drewN | apply below_drew1 | refine below_set ?_ (IsS101.ge HI427.out)) | exact HB.out)⟩
 ·rw [if_neg c5] at H
  have c5b0 : (t439.toList == ([] : List UInt8)) = false := beq_eq_false_iff_ne.mpr c5
  have c5b1 : (t439.toList != ([] : List UInt8)) = true := bne_iff_ne.mpr c5
  replace H := tbe H
  obtain ⟨⟨t445, t446⟩, A16, H⟩ := H
  dsimp only at H
  replace H := tbe H
  obtain ⟨⟨t447, t448⟩, A17, H⟩ := H
  dsimp only at H
  by_cases c18 : t447 = 0
  ·rw [if_pos c18] at H
   have c18b0 : (t447 == 0) = true := beq_iff_eq.mpr c18
   have c18b1 : (t447 != 0) = false := bne_eq_false_iff_eq.mpr c18
   clear c18
   by_cases c19 : 0 ≤ t445
   ·rw [if_pos c19] at H
    have c19b0 := eq_true c19
    have c19b1 : decide (0 ≤ t445) = true := decide_eq_true c19
    clear c19
    by_cases c20 : t445 ≤ (t439.size : Int)
    ·rw [if_pos c20] at H
     have c20b0 := eq_true c20
     have c20b1 : decide (t445 ≤ (t439.size : Int)) = true := decide_eq_true c20
     clear c20
     obtain ⟨y449, hy449⟩ : ∃ y_ : List ByteArray, y_ = (([(⟨#[48]⟩ : ByteArray), (⟨#[120]⟩ : ByteArray), (⟨#[32]⟩ : ByteArray), (⟨#[102]⟩ : ByteArray), (⟨#[45]⟩ : ByteArray)] : List ByteArray)) := ⟨_, rfl⟩
     replace H : ((spec_l6Rd_of.f k t425 t448 y449).bind fun bt452 => (if (t439.extract 0 (t445 : Int).toNat).size + bt452.1.size ≤ 9223372036854775807 then (if 0 ≤ (wrap64 (t445 + 1)) then (if (wrap64 (t445 + 1)) ≤ (t439.size : Int) then (if ((t439.extract 0 (t445 : Int).toNat) ++ bt452.1).size + (t439.extract ((wrap64 (t445 + 1)) : Int).toNat t439.size).size ≤ 9223372036854775807 then (some (((t439.extract 0 (t445 : Int).toNat) ++ bt452.1) ++ (t439.extract ((wrap64 (t445 + 1)) : Int).toNat t439.size))) else (none)) else (none)) else (none)) else (none))) = some r := by first | (rw [hy449]; with_reducible exact H) | (have H2_ := (Option.bind_some _ _).symm.trans H; rw [hy449]; with_reducible exact H2_) | (have H2_ := (Option.bind_some _ _).symm.trans H; with_reducible exact H2_) | with_reducible exact H | (rw [hy449]; exact H) | exact H
     have Ny449 := Aside0.mk hy449
     clear hy449
     replace H := tbe H
     obtain ⟨⟨t452, t453⟩, A21, H⟩ := H
     dsimp only at H
     by_cases c22 : (t439.extract 0 (t445 : Int).toNat).size + t452.size ≤ 9223372036854775807
     ·rw [if_pos c22] at H
      have c22b0 := eq_true c22
      have c22b1 : decide ((t439.extract 0 (t445 : Int).toNat).size + t452.size ≤ 9223372036854775807) = true := decide_eq_true c22
      try have c22b2 : (9223372036854775807 < (t439.extract 0 (t445 : Int).toNat).size + t452.size) = False := eq_false (Nat.not_lt.2 c22)
      have c22q : t445 ≤ (t439.size : Int) := by first | assumption | exact of_eq_true (by assumption)
      have c22z : (9223372036854775807 < t445.toNat + t452.size) = False := eq_false (by have h_ := c22; simp only [ByteArray.size_extract] at h_; omega)
      obtain ⟨ji23, hji23⟩ : ∃ j_ : Int, (wrap64 (t445 + 1)) = j_ := ⟨_, rfl⟩
      replace H : (if 0 ≤ (ji23) then (if (ji23) ≤ (t439.size : Int) then (if ((t439.extract 0 (t445 : Int).toNat) ++ t452).size + (t439.extract ((ji23) : Int).toNat t439.size).size ≤ 9223372036854775807 then (some (((t439.extract 0 (t445 : Int).toNat) ++ t452) ++ (t439.extract ((ji23) : Int).toNat t439.size))) else (none)) else (none)) else (none)) = some r := by first | (rw [hji23] at H; exact H) | (simp only [hji23] at H ⊢; exact H)
      (try rw [hji23] at A2)
      (try rw [hji23] at A3)
      (try rw [hji23] at A4)
      (try rw [hji23] at A16)
      (try rw [hji23] at A17)
      (try rw [hji23] at A21)
      have hji23w : (IntKind.i64.wrap (t445 + 1)) = ji23 := (i64_w _).trans hji23
      by_cases c24 : 0 ≤ (ji23)
      ·rw [if_pos c24] at H
       have c24b0 := eq_true c24
       have c24b1 : decide (0 ≤ (ji23)) = true := decide_eq_true c24
       clear c24
       by_cases c25 : (ji23) ≤ (t439.size : Int)
       ·rw [if_pos c25] at H
        have c25b0 := eq_true c25
        have c25b1 : decide ((ji23) ≤ (t439.size : Int)) = true := decide_eq_true c25
        clear c25
        by_cases c26 : ((t439.extract 0 (t445 : Int).toNat) ++ t452).size + (t439.extract ((ji23) : Int).toNat t439.size).size ≤ 9223372036854775807
        ·rw [if_pos c26] at H
         have c26b0 := eq_true c26
         have c26b1 : decide (((t439.extract 0 (t445 : Int).toNat) ++ t452).size + (t439.extract ((ji23) : Int).toNat t439.size).size ≤ 9223372036854775807) = true := decide_eq_true c26
         try have c26b2 : (9223372036854775807 < ((t439.extract 0 (t445 : Int).toNat) ++ t452).size + (t439.extract ((ji23) : Int).toNat t439.size).size) = False := eq_false (Nat.not_lt.2 c26)
         (try (have c26y : (9223372036854775807 < (t439.extract 0 (t445 : Int).toNat).size + t452.size + (t439.extract ((ji23) : Int).toNat t439.size).size) = False := eq_false (by have h_ := c26; simp only [ByteArray.size_append] at h_; omega)))
         have c26z : (9223372036854775807 < t445.toNat + t452.size + (t439.size - ji23.toNat)) = False := eq_false (by have h_ := c26; have hq_ : t445 ≤ (t439.size : Int) := (by first | assumption | exact of_eq_true (by assumption)); simp only [ByteArray.size_append, ByteArray.size_extract] at h_; omega)
         obtain rfl := Option.some.inj H
         go_enter Tryd.func22, Tryd.ntmps22
         try go_wp2_with (first | ((with_reducible refine gate_callee (f := 34) rfl ?_); refine goesL_ (some 7) rfl rfl Tryd.func34 (by kernel_rfl) rfl #[.slice A0 l0.length c0] rfl tq ?_; (with_reducible refine (spec_l6Open.calls _ _ l0 t425 t426 w _ ?side1 ?side2 ?side3 A2.out).mono ?_); (case side1 => exact zb); (case side2 => exact HR0.out); (case side3 => exact HC0.out); rintro e w27 ⟨g427, rfl, hi, hb, hb2⟩; refine ⟨_, rfl, ?_⟩; replace HB := Aside0.mk (hb); have HI427 := Aside0.mk (hi); (try clear hb); (try clear hb2); (try clear hk); (try clear hi)) | ((with_reducible refine gate_callee (f := 33) rfl ?_); refine goesL_ (some 9) rfl rfl Tryd.func33 (by kernel_rfl) rfl #[.pointer (some ⟨g427, 0, none⟩)] rfl tq ?_; (with_reducible refine (spec_l91Record.calls k g427 t425 t426 t428 t429 t430 t431 t434 t435 t438 w _ ?side1 ?side2 A3.out).mono ?_); (case side1 => repeat (first | (with_reducible first | exact HI427.out | apply IsS101.alloc | apply IsS101.drewN | apply IsS101.drew | apply IsS101.set_1) | exact HI427.out)); (case side2 => repeat (first | (with_reducible first | exact HB.out | apply below_alloc | apply pw_below_drewN | apply below_drew1 | refine below_set ?_ (IsS101.ge HI427.out)) | exact HB.out)); rintro e w28 ⟨v432, v436, rfl, ho0, ho1, hi, hb, hk⟩; have u_v432 := tsv Tryd.prog v432 ho0; have u_v436 := tsv Tryd.prog v436 ho1; refine ⟨_, rfl, ?_⟩; have HO433 := Aside0.mk (Kd.R_lower ho0 (below_size (by repeat (first | (with_reducible first | exact HB.out | apply below_alloc | apply pw_below_drewN | apply below_drew1 | refine below_set ?_ (IsS101.ge HI427.out)) | exact HB.out)))); have HO437 := Aside0.mk (Kd.R_lower ho1 (below_size (by repeat (first | (with_reducible first | exact HB.out | apply below_alloc | apply pw_below_drewN | apply below_drew1 | refine below_set ?_ (IsS101.ge HI427.out)) | exact HB.out)))); replace HB := Aside0.mk (hb); replace HI427 := Aside0.mk (hi); (try clear hb); (try clear hb2); (try clear hk); (try clear hi); (try clear ho0); (try clear ho1); obtain ⟨Ao29, co29, eo29⟩ := Kd.R_slice HO433.out; subst eo29; obtain ⟨Ao30, co30, eo30⟩ := Kd.R_slice HO437.out; subst eo30) | ((with_reducible refine gate_callee (f := 14) rfl ?_); refine goesL_ (some 10) rfl rfl Tryd.func14 (by kernel_rfl) rfl #[.agg #[.int .i64 t428, .int .i64 t429, .bool t430, .slice Ao29 t431.length co29, .bool t434, .slice Ao30 t435.length co30]] rfl tq ?_; (with_reducible refine (spec_RecordText.calls k t428 t429 t430 _ _ t431 t434 _ _ t435 t439 _ ?side1 ?side2 ?side3 ?side4 A4.out).mono ?_); (case side1 => repeat (first | exact (Kd.R_reads' HO433.out).2.2 | (with_reducible refine Kd.C_alloc ?_ _) | (with_reducible refine Kd.C_drewN ?_ _) | (with_reducible refine Kd.C_drew ?_))); (case side2 => exact (Kd.R_reads' HO433.out).2.1); (case side3 => repeat (first | exact (Kd.R_reads' HO437.out).2.2 | (with_reducible refine Kd.C_alloc ?_ _) | (with_reducible refine Kd.C_drewN ?_ _) | (with_reducible refine Kd.C_drew ?_))); (case side4 => exact (Kd.R_reads' HO437.out).2.1); rintro e w31 ⟨rfl, hb⟩; refine ⟨_, rfl, ?_⟩; replace HO433 := tRb HO433 hb; replace HO437 := tRb HO437 hb; replace HB := Aside0.mk (below_step (by repeat (first | (with_reducible first | exact HB.out | apply below_alloc | apply pw_below_drewN | apply below_drew1 | refine below_set ?_ (IsS101.ge HI427.out)) | exact HB.out)) hb); replace HI427 := Aside0.mk (IsS101.below (by repeat (first | (with_reducible first | exact HI427.out | apply IsS101.alloc | apply IsS101.drewN | apply IsS101.drew | apply IsS101.set_1) | exact HI427.out)) hb); (try clear hb); (try clear hb2); (try clear hk); (try clear hi)) | ((with_reducible refine gate_callee (f := 51) rfl ?_); refine goesL_ (some 19) rfl rfl Tryd.func51 (by kernel_rfl) rfl #[.pointer (some ⟨g427, 0, none⟩), .int .i64 (t439.size : Int)] rfl tq ?_; (with_reducible refine (spec_l6Rd_pick.calls k g427 t425 t438 (t439.size : Int) t445 t446 w _ ?side1 ?side2 A16.out).mono ?_); (case side1 => repeat (first | (with_reducible first | exact HI427.out | apply IsS101.alloc | apply IsS101.drewN | apply IsS101.drew | apply IsS101.set_1) | exact HI427.out)); (case side2 => repeat (first | (with_reducible first | exact HB.out | apply below_alloc | apply pw_below_drewN | apply below_drew1 | refine below_set ?_ (IsS101.ge HI427.out)) | exact HB.out)); rintro e w32 ⟨rfl, hi, hb, hk⟩; refine ⟨_, rfl, ?_⟩; replace HO433 := Aside0.mk (Kd.R_mono (Kd.R_keep (IsS101.apart (show IsS101 w _ g427 t425 t438 from by repeat (first | (with_reducible first | exact HI427.out | apply IsS101.alloc | apply IsS101.drewN | apply IsS101.drew | apply IsS101.set_1) | exact HI427.out)) (tR HO433.out) (by decide)) hk (fun _ h => h.2)) (fun _ h => h.1)); replace HO437 := Aside0.mk (Kd.R_mono (Kd.R_keep (IsS101.apart (show IsS101 w _ g427 t425 t438 from by repeat (first | (with_reducible first | exact HI427.out | apply IsS101.alloc | apply IsS101.drewN | apply IsS101.drew | apply IsS101.set_1) | exact HI427.out)) (tR HO437.out) (by decide)) hk (fun _ h => h.2)) (fun _ h => h.1)); replace HB := Aside0.mk (hb); replace HI427 := Aside0.mk (hi); (try clear hb); (try clear hb2); (try clear hk); (try clear hi)) | ((with_reducible refine gate_callee (f := 51) rfl ?_); refine goesL_ (some 21) rfl rfl Tryd.func51 (by kernel_rfl) rfl #[.pointer (some ⟨g427, 0, none⟩), .int .i64 6] rfl tq ?_; (with_reducible refine (spec_l6Rd_pick.calls k g427 t425 t446 6 t447 t448 w _ ?side1 ?side2 A17.out).mono ?_); (case side1 => repeat (first | (with_reducible first | exact HI427.out | apply IsS101.alloc | apply IsS101.drewN | apply IsS101.drew | apply IsS101.set_1) | exact HI427.out)); (case side2 => repeat (first | (with_reducible first | exact HB.out | apply below_alloc | apply pw_below_drewN | apply below_drew1 | refine below_set ?_ (IsS101.ge HI427.out)) | exact HB.out)); rintro e w33 ⟨rfl, hi, hb, hk⟩; refine ⟨_, rfl, ?_⟩; replace HO433 := Aside0.mk (Kd.R_mono (Kd.R_keep (IsS101.apart (show IsS101 w _ g427 t425 t446 from by repeat (first | (with_reducible first | exact HI427.out | apply IsS101.alloc | apply IsS101.drewN | apply IsS101.drew | apply IsS101.set_1) | exact HI427.out)) (tR HO433.out) (by decide)) hk (fun _ h => h.2)) (fun _ h => h.1)); replace HO437 := Aside0.mk (Kd.R_mono (Kd.R_keep (IsS101.apart (show IsS101 w _ g427 t425 t446 from by repeat (first | (with_reducible first | exact HI427.out | apply IsS101.alloc | apply IsS101.drewN | apply IsS101.drew | apply IsS101.set_1) | exact HI427.out)) (tR HO437.out) (by decide)) hk (fun _ h => h.2)) (fun _ h => h.1)); replace HB := Aside0.mk (hb); replace HI427 := Aside0.mk (hi); (try clear hb); (try clear hb2); (try clear hk); (try clear hi)))
         replace HO433 := Aside0.mk (Kd.R_drew HO433.out)
         replace HO437 := Aside0.mk (Kd.R_drew HO437.out)
         replace HI427 := Aside0.mk (IsS101.drew HI427.out)
         replace HB := Aside0.mk (below_drew1 HB.out)
         refine start_ (n := 13) (S := fun w' => True) (ds := []) #[false, false, false, false, false, false, false, false, false, false, false, false, false] (by kernel_rfl) rfl rfl trivial (fun hHeld => ?_); refine with_tabW spec_DrawRecordOf.tab7 spec_DrawRecordOf.bits7 (fun HT_ HW_ => ?_)
         generalize w33.drew = w34 at HO433 HO437 HI427 HB hHeld ⊢
         refine tpu 0 (some 23) #[true, false, false, false, false, false, false, false, false, false, false, false, false] ?_
         refine tpu 1 (some 24) #[true, true, false, false, false, false, false, false, false, false, false, false, false] ?_
         refine tpu 2 (some 25) #[true, true, true, false, false, false, false, false, false, false, false, false, false] ?_
         refine tpu 3 (some 26) #[true, true, true, true, false, false, false, false, false, false, false, false, false] ?_
         refine tpu 7 (some 30) #[true, true, true, true, false, false, false, true, false, false, false, false, false] ?_
         refine tpu 8 (some 31) #[true, true, true, true, false, false, false, true, true, false, false, false, false] ?_
         refine tpu 9 (some 32) #[true, true, true, true, false, false, false, true, true, true, false, false, false] ?_
         refine tpu 10 (some 33) #[true, true, true, true, false, false, false, true, true, true, true, false, false] ?_
         refine one_ (i := 4) (N := some 27) #[true, true, true, true, true, false, false, true, true, true, true, false, false] rfl rfl (one_of HT_.out (by kernel_rfl)) (by decide) (fun K hK => ?_)
         refine Kd.R_lit_step Kd.string _ 9 ?hg (N := 27) ?hd (xs := ([(⟨#[48]⟩ : ByteArray), (⟨#[120]⟩ : ByteArray), (⟨#[32]⟩ : ByteArray), (⟨#[102]⟩ : ByteArray), (⟨#[45]⟩ : ByteArray)] : List ByteArray)) (inner := [.string (⟨#[48]⟩ : ByteArray), .string (⟨#[120]⟩ : ByteArray), .string (⟨#[32]⟩ : ByteArray), .string (⟨#[102]⟩ : ByteArray), .string (⟨#[45]⟩ : ByteArray)]) (ok := fun _ => True) (okp := fun _ => True) ?hr ?hp (fun _ hk => hk) trivial (Below.refl _ _) (Nat.le_refl _) (by simp) ?_; (case hd => rfl); (case hg => rfl); (case hr => first | (go_simp; done) | (go_simp; rfl)); (case hp => exact (Reps.one (show Kd.M Kd.string _ _ _ (⟨#[48]⟩ : ByteArray) [.string (⟨#[48]⟩ : ByteArray)] from rfl) (Reps.one (show Kd.M Kd.string _ _ _ (⟨#[120]⟩ : ByteArray) [.string (⟨#[120]⟩ : ByteArray)] from rfl) (Reps.one (show Kd.M Kd.string _ _ _ (⟨#[32]⟩ : ByteArray) [.string (⟨#[32]⟩ : ByteArray)] from rfl) (Reps.one (show Kd.M Kd.string _ _ _ (⟨#[102]⟩ : ByteArray) [.string (⟨#[102]⟩ : ByteArray)] from rfl) (Reps.one (show Kd.M Kd.string _ _ _ (⟨#[45]⟩ : ByteArray) [.string (⟨#[45]⟩ : ByteArray)] from rfl) (Reps.none _ _)))))))
         intro v450 w35 ho36 hb hg_ hnew_
         clear hg_ hnew_
         (first | rw [← Ny449.out] at ho36 | (simp only [Int.reduceToNat] at ho36; rw [← Ny449.out] at ho36))
         replace HO433 := tRb HO433 hb
         replace HO437 := tRb HO437 hb
         have HO451 := Aside0.mk (Kd.R_lower ho36 (below_size (by repeat (first | (with_reducible first | exact HB.out | apply below_alloc | apply pw_below_drewN | apply below_drew1 | refine below_set ?_ (IsS101.ge HI427.out)) | exact HB.out))))
         replace HB := Aside0.mk (below_step (by repeat (first | (with_reducible first | exact HB.out | apply below_alloc | apply pw_below_drewN | apply below_drew1 | refine below_set ?_ (IsS101.ge HI427.out)) | exact HB.out)) hb)
         replace HI427 := Aside0.mk (IsS101.below (by repeat (first | (with_reducible first | exact HI427.out | apply IsS101.alloc | apply IsS101.drewN | apply IsS101.drew | apply IsS101.set_1) | exact HI427.out)) hb)
         clear hb ho36
         obtain ⟨Ao37, co37, eo37⟩ := Kd.R_slice HO451.out
         (first | subst eo37 | (injection eo37 with f1_ f2_ f3_; have f4_ := f1_.symm; have f5_ := f3_.symm; clear f1_ f2_ f3_; subst f4_; subst f5_))
         refine hK.out _ _ trivial (fun hHeld => ?_)
         clear hK K
         refine tnm (some 27) ?_
         refine one_ (i := 5) (N := some 28) #[true, true, true, true, true, true, false, true, true, true, true, false, false] rfl rfl (one_of HT_.out (by kernel_rfl)) (by decide) (fun K hK => ?_)
         refine goes_ Tryd.func50 (by kernel_rfl) rfl #[.pointer (some ⟨g427, 0, none⟩), .slice Ao37 y449.length co37] (by rfl) rfl rfl tq ?_
         with_reducible refine (spec_l6Rd_of.calls k g427 t425 t448 _ _ y449 t452 t453 w _ ?side1 ?side2 ?side3 ?side4 ?side5 A21.out).mono ?_
         (case side1 => repeat (first | (with_reducible first | exact HI427.out | apply IsS101.alloc | apply IsS101.drewN | apply IsS101.drew | apply IsS101.set_1) | exact HI427.out))
         (case side2 => repeat (first | (with_reducible first | exact HB.out | apply below_alloc | apply pw_below_drewN | apply below_drew1 | refine below_set ?_ (IsS101.ge HI427.out)) | exact HB.out))
         (case side3 => repeat (first | exact (Kd.R_reads' HO451.out).2.2 | (with_reducible refine Kd.C_alloc ?_ _) | (with_reducible refine Kd.C_drewN ?_ _) | (with_reducible refine Kd.C_drew ?_)))
         (case side4 => exact (Kd.R_reads' HO451.out).2.1)
         (case side5 => exact far_slice (IsS101.own_ne HI427.out HO451.out (by decide)))
         rintro e w38 ⟨rfl, hi, hb, hk⟩
         refine ⟨_, rfl, ?_⟩
         replace HO433 := Aside0.mk (Kd.R_mono (Kd.R_keep (IsS101.apart (show IsS101 w _ g427 t425 t448 from by repeat (first | (with_reducible first | exact HI427.out | apply IsS101.alloc | apply IsS101.drewN | apply IsS101.drew | apply IsS101.set_1) | exact HI427.out)) (tR HO433.out) (by decide)) hk (fun _ h => h.2)) (fun _ h => h.1))
         replace HO437 := Aside0.mk (Kd.R_mono (Kd.R_keep (IsS101.apart (show IsS101 w _ g427 t425 t448 from by repeat (first | (with_reducible first | exact HI427.out | apply IsS101.alloc | apply IsS101.drewN | apply IsS101.drew | apply IsS101.set_1) | exact HI427.out)) (tR HO437.out) (by decide)) hk (fun _ h => h.2)) (fun _ h => h.1))
         replace HO451 := Aside0.mk (Kd.R_mono (Kd.R_keep (IsS101.apart (show IsS101 w _ g427 t425 t448 from by repeat (first | (with_reducible first | exact HI427.out | apply IsS101.alloc | apply IsS101.drewN | apply IsS101.drew | apply IsS101.set_1) | exact HI427.out)) (tR HO451.out) (by decide)) hk (fun _ h => h.2)) (fun _ h => h.1))
         replace HB := Aside0.mk (hb)
         replace HI427 := Aside0.mk (hi)
         (try clear hb)
         (try clear hb2)
         (try clear hk)
         (try clear hi)
         refine hK.out _ _ trivial (fun hHeld => ?_)
         clear hK K
         refine tnm (some 28) ?_
         refine tpu 6 (some 29) #[true, true, true, true, true, true, true, true, true, true, true, false, false] ?_
         refine tpu 11 (some 34) #[true, true, true, true, true, true, true, true, true, true, true, true, false] ?_
         refine tpu 12 (some 2) #[true, true, true, true, true, true, true, true, true, true, true, true, true] ?_
         refine done_ (done_of HT_.out (by kernel_rfl)) ?_
         try go_wp2
         go_ret
         exact ⟨by first | rfl | (simp [errW_none, errW_some] <;> rfl) | (simp only [← hji23]; first | rfl | (simp [errW_none, errW_some] <;> rfl)) | (simp [*, errW_none, errW_some] <;> rfl), by repeat (first | (with_reducible first | exact HB.out | apply below_alloc | apply pw_below_drewN | apply below_drew1 | refine below_set ?_ (IsS101.ge HI427.out)) | exact HB.out)⟩
        ·rw [if_neg c26] at H
         exact absurd H (by simp)
       ·rw [if_neg c25] at H
        exact absurd H (by simp)
      ·rw [if_neg c24] at H
       exact absurd H (by simp)
     ·rw [if_neg c22] at H
      exact absurd H (by simp)
    ·rw [if_neg c20] at H
     exact absurd H (by simp)
   ·rw [if_neg c19] at H
    exact absurd H (by simp)
  ·rw [if_neg c18] at H
   have c18b0 : (t447 == 0) = false := beq_eq_false_iff_ne.mpr c18
   have c18b1 : (t447 != 0) = true := bne_iff_ne.mpr c18
   obtain rfl := Option.some.inj H
   go_enter Tryd.func22, Tryd.ntmps22
   go_wp2_with (first | ((with_reducible refine gate_callee (f := 34) rfl ?_); refine goesL_ (some 7) rfl rfl Tryd.func34 (by kernel_rfl) rfl #[.slice A0 l0.length c0] rfl tq ?_; (with_reducible refine (spec_l6Open.calls _ _ l0 t425 t426 w _ ?side1 ?side2 ?side3 A2.out).mono ?_); (case side1 => exact zb); (case side2 => exact HR0.out); (case side3 => exact HC0.out); rintro e w39 ⟨g427, rfl, hi, hb, hb2⟩; refine ⟨_, rfl, ?_⟩; replace HB := Aside0.mk (hb); have HI427 := Aside0.mk (hi); (try clear hb); (try clear hb2); (try clear hk); (try clear hi)) | ((with_reducible refine gate_callee (f := 33) rfl ?_); refine goesL_ (some 9) rfl rfl Tryd.func33 (by kernel_rfl) rfl #[.pointer (some ⟨g427, 0, none⟩)] rfl tq ?_; (with_reducible refine (spec_l91Record.calls k g427 t425 t426 t428 t429 t430 t431 t434 t435 t438 w _ ?side1 ?side2 A3.out).mono ?_); (case side1 => repeat (first | (with_reducible first | exact HI427.out | apply IsS101.alloc | apply IsS101.drewN | apply IsS101.drew | apply IsS101.set_1) | exact HI427.out)); (case side2 => repeat (first | (with_reducible first | exact HB.out | apply below_alloc | apply pw_below_drewN | apply below_drew1 | refine below_set ?_ (IsS101.ge HI427.out)) | exact HB.out)); rintro e w40 ⟨v432, v436, rfl, ho0, ho1, hi, hb, hk⟩; have u_v432 := tsv Tryd.prog v432 ho0; have u_v436 := tsv Tryd.prog v436 ho1; refine ⟨_, rfl, ?_⟩; have HO433 := Aside0.mk (Kd.R_lower ho0 (below_size (by repeat (first | (with_reducible first | exact HB.out | apply below_alloc | apply pw_below_drewN | apply below_drew1 | refine below_set ?_ (IsS101.ge HI427.out)) | exact HB.out)))); have HO437 := Aside0.mk (Kd.R_lower ho1 (below_size (by repeat (first | (with_reducible first | exact HB.out | apply below_alloc | apply pw_below_drewN | apply below_drew1 | refine below_set ?_ (IsS101.ge HI427.out)) | exact HB.out)))); replace HB := Aside0.mk (hb); replace HI427 := Aside0.mk (hi); (try clear hb); (try clear hb2); (try clear hk); (try clear hi); (try clear ho0); (try clear ho1); obtain ⟨Ao41, co41, eo41⟩ := Kd.R_slice HO433.out; subst eo41; obtain ⟨Ao42, co42, eo42⟩ := Kd.R_slice HO437.out; subst eo42) | ((with_reducible refine gate_callee (f := 14) rfl ?_); refine goesL_ (some 10) rfl rfl Tryd.func14 (by kernel_rfl) rfl #[.agg #[.int .i64 t428, .int .i64 t429, .bool t430, .slice Ao41 t431.length co41, .bool t434, .slice Ao42 t435.length co42]] rfl tq ?_; (with_reducible refine (spec_RecordText.calls k t428 t429 t430 _ _ t431 t434 _ _ t435 t439 _ ?side1 ?side2 ?side3 ?side4 A4.out).mono ?_); (case side1 => repeat (first | exact (Kd.R_reads' HO433.out).2.2 | (with_reducible refine Kd.C_alloc ?_ _) | (with_reducible refine Kd.C_drewN ?_ _) | (with_reducible refine Kd.C_drew ?_))); (case side2 => exact (Kd.R_reads' HO433.out).2.1); (case side3 => repeat (first | exact (Kd.R_reads' HO437.out).2.2 | (with_reducible refine Kd.C_alloc ?_ _) | (with_reducible refine Kd.C_drewN ?_ _) | (with_reducible refine Kd.C_drew ?_))); (case side4 => exact (Kd.R_reads' HO437.out).2.1); rintro e w43 ⟨rfl, hb⟩; refine ⟨_, rfl, ?_⟩; replace HO433 := tRb HO433 hb; replace HO437 := tRb HO437 hb; replace HB := Aside0.mk (below_step (by repeat (first | (with_reducible first | exact HB.out | apply below_alloc | apply pw_below_drewN | apply below_drew1 | refine below_set ?_ (IsS101.ge HI427.out)) | exact HB.out)) hb); replace HI427 := Aside0.mk (IsS101.below (by repeat (first | (with_reducible first | exact HI427.out | apply IsS101.alloc | apply IsS101.drewN | apply IsS101.drew | apply IsS101.set_1) | exact HI427.out)) hb); (try clear hb); (try clear hb2); (try clear hk); (try clear hi)) | ((with_reducible refine gate_callee (f := 51) rfl ?_); refine goesL_ (some 19) rfl rfl Tryd.func51 (by kernel_rfl) rfl #[.pointer (some ⟨g427, 0, none⟩), .int .i64 (t439.size : Int)] rfl tq ?_; (with_reducible refine (spec_l6Rd_pick.calls k g427 t425 t438 (t439.size : Int) t445 t446 w _ ?side1 ?side2 A16.out).mono ?_); (case side1 => repeat (first | (with_reducible first | exact HI427.out | apply IsS101.alloc | apply IsS101.drewN | apply IsS101.drew | apply IsS101.set_1) | exact HI427.out)); (case side2 => repeat (first | (with_reducible first | exact HB.out | apply below_alloc | apply pw_below_drewN | apply below_drew1 | refine below_set ?_ (IsS101.ge HI427.out)) | exact HB.out)); rintro e w44 ⟨rfl, hi, hb, hk⟩; refine ⟨_, rfl, ?_⟩; replace HO433 := Aside0.mk (Kd.R_mono (Kd.R_keep (IsS101.apart (show IsS101 w _ g427 t425 t438 from by repeat (first | (with_reducible first | exact HI427.out | apply IsS101.alloc | apply IsS101.drewN | apply IsS101.drew | apply IsS101.set_1) | exact HI427.out)) (tR HO433.out) (by decide)) hk (fun _ h => h.2)) (fun _ h => h.1)); replace HO437 := Aside0.mk (Kd.R_mono (Kd.R_keep (IsS101.apart (show IsS101 w _ g427 t425 t438 from by repeat (first | (with_reducible first | exact HI427.out | apply IsS101.alloc | apply IsS101.drewN | apply IsS101.drew | apply IsS101.set_1) | exact HI427.out)) (tR HO437.out) (by decide)) hk (fun _ h => h.2)) (fun _ h => h.1)); replace HB := Aside0.mk (hb); replace HI427 := Aside0.mk (hi); (try clear hb); (try clear hb2); (try clear hk); (try clear hi)) | ((with_reducible refine gate_callee (f := 51) rfl ?_); refine goesL_ (some 21) rfl rfl Tryd.func51 (by kernel_rfl) rfl #[.pointer (some ⟨g427, 0, none⟩), .int .i64 6] rfl tq ?_; (with_reducible refine (spec_l6Rd_pick.calls k g427 t425 t446 6 t447 t448 w _ ?side1 ?side2 A17.out).mono ?_); (case side1 => repeat (first | (with_reducible first | exact HI427.out | apply IsS101.alloc | apply IsS101.drewN | apply IsS101.drew | apply IsS101.set_1) | exact HI427.out)); (case side2 => repeat (first | (with_reducible first | exact HB.out | apply below_alloc | apply pw_below_drewN | apply below_drew1 | refine below_set ?_ (IsS101.ge HI427.out)) | exact HB.out)); rintro e w45 ⟨rfl, hi, hb, hk⟩; refine ⟨_, rfl, ?_⟩; replace HO433 := Aside0.mk (Kd.R_mono (Kd.R_keep (IsS101.apart (show IsS101 w _ g427 t425 t446 from by repeat (first | (with_reducible first | exact HI427.out | apply IsS101.alloc | apply IsS101.drewN | apply IsS101.drew | apply IsS101.set_1) | exact HI427.out)) (tR HO433.out) (by decide)) hk (fun _ h => h.2)) (fun _ h => h.1)); replace HO437 := Aside0.mk (Kd.R_mono (Kd.R_keep (IsS101.apart (show IsS101 w _ g427 t425 t446 from by repeat (first | (with_reducible first | exact HI427.out | apply IsS101.alloc | apply IsS101.drewN | apply IsS101.drew | apply IsS101.set_1) | exact HI427.out)) (tR HO437.out) (by decide)) hk (fun _ h => h.2)) (fun _ h => h.1)); replace HB := Aside0.mk (hb); replace HI427 := Aside0.mk (hi); (try clear hb); (try clear hb2); (try clear hk); (try clear hi)))
   go_ret
   exact ⟨by first | rfl | (simp [errW_none, errW_some] <;> rfl) | (simp [*, errW_none, errW_some] <;> rfl), by repeat (first | (with_reducible first | exact HB.out | apply below_alloc | apply pw_below_drewN | apply below_drew1 | refine below_set ?_ (IsS101.ge HI427.out)) | exact HB.out)⟩

def laws_sameInts.l0 : Nat → List Int → List Int → Int → Option (Bool)
 | 0, _, _, _ => none
 | k + 1, x0, x1, x5 => if x5 < (x0.length : Int) then (if 0 ≤ x5 then (if x5 < (x1.length : Int) then (if (rd x0 x5) = (rd x1 x5) then (laws_sameInts.l0 k x0 x1 (wrap64 (x5 + 1))) else (some false)) else (none)) else (none)) else (some true)
def laws_sameInts.f (k : Nat) (l0 : List Int) (l1 : List Int) : Option (Bool) := if (l0.length : Int) = (l1.length : Int) then (laws_sameInts.l0 k l0 l1 0) else (some false)
set_option maxHeartbeats 8000000 in
set_option maxRecDepth 100000 in
theorem laws_sameInts.calls (k : Nat) (A0 : Option Addr) (c0 : Nat) (l0 : List Int) (A1 : Option Addr) (c1 : Nat) (l1 : List Int) (r : Bool) (w : World) (hr0 : Kd.C (Kd.int .i64) w A0 l0.length l0) (hc0 : l0.length ≤ c0) (hr1 : Kd.C (Kd.int .i64) w A1 l1.length l1) (hc1 : l1.length ≤ c1) (h : laws_sameInts.f k l0 l1 = some r) :
  Calls Tryd.prog 52 #[.slice A0 l0.length c0, .slice A1 l1.length c1] w fun e w' => e = .returned (.bool r) ∧ Drawn0 w w' := by
 have HR0 := Aside0.mk hr0
 have HC0 := Aside0.mk hc0
 clear hr0 hc0
 have HR1 := Aside0.mk hr1
 have HC1 := Aside0.mk hc1
 clear hr1 hc1
 have H : (if (l0.length : Int) = (l1.length : Int) then (laws_sameInts.l0 k l0 l1 0) else (some false)) = some r := h
 clear h
 by_cases c3 : (l0.length : Int) = (l1.length : Int)
 ·rw [if_pos c3] at H
  have c3b0 : ((l0.length : Int) == (l1.length : Int)) = true := beq_iff_eq.mpr c3
  have c3b1 : ((l0.length : Int) != (l1.length : Int)) = false := bne_eq_false_iff_eq.mpr c3
  have c3b2 : (l0.length == l1.length) = true := by first | simpa using c3 | (simp at c3 ⊢; omega)
  clear c3
  have H' := Aside0.mk H
  clear H
  go_enter Tryd.func52, Tryd.ntmps52
  go_wp2
  repeat (go_quiet (fail); try go_wp2)
  go_loopg [5] k (fun kq v5 w' => ∃ (x5_1 : Int), v5 = .int .i64 x5_1 ∧ Aside0 (laws_sameInts.l0 kq l0 l1 x5_1 = some r) ∧ Aside0 (kq ≤ k) ∧ Drawn0 w w')
  case atStart => exact ⟨(0), tr, H', ⟨Nat.le_refl _⟩, by repeat (first | exact Drawn0.refl _ | apply Drawn0.step)⟩
  case round =>
   clear H'
   try clear c1; try clear c3; try clear c3b0; try clear c3b1; try clear c3b2
   obtain ⟨x5_1, rfl, HA, HK1, ⟨m1, rfl⟩⟩ := hrel
   cases gk with
   | zero => exact absurd HA.out (by simp [laws_sameInts.l0])
   | succ k1 =>
    have H := HA.out
    clear HA
    simp only [laws_sameInts.l0] at H
    by_cases c4 : x5_1 < (l0.length : Int)
    ·rw [if_pos c4] at H
     have c4b0 : decide (x5_1 < (l0.length : Int)) = true := decide_eq_true c4
     clear c4
     by_cases c5 : 0 ≤ x5_1
     ·rw [if_pos c5] at H
      have c5b0 : decide (0 ≤ x5_1) = true := decide_eq_true c5
      clear c5
      by_cases c6 : x5_1 < (l1.length : Int)
      ·rw [if_pos c6] at H
       have c6b0 : decide (x5_1 < (l1.length : Int)) = true := decide_eq_true c6
       clear c6
       by_cases c7 : (rd l0 x5_1) = (rd l1 x5_1)
       ·rw [if_pos c7] at H
        have c7b0 : ((rd l0 x5_1) == (rd l1 x5_1)) = true := beq_iff_eq.mpr c7
        have c7b1 : ((rd l0 x5_1) != (rd l1 x5_1)) = false := bne_eq_false_iff_eq.mpr c7
        clear c7
        have H' := Aside0.mk H
        clear H
        have p454 : 0 ≤ (x5_1 : Int) := td
        have q454 : x5_1 < (l0.length : Int) := td
        obtain ⟨ad454, e454, hx454_0⟩ := Kd.at_int HR0.out x5_1 p454 q454
        cases e454
        replace p454 := eq_true p454
        replace q454 := eq_true q454
        have p455 : 0 ≤ (x5_1 : Int) := td
        have q455 : x5_1 < (l1.length : Int) := td
        obtain ⟨ad455, e455, hx455_0⟩ := Kd.at_int HR1.out x5_1 p455 q455
        cases e455
        replace p455 := eq_true p455
        replace q455 := eq_true q455
        go_wp2
        repeat (go_quiet (fail); try go_wp2)
        go_roundg k1
        case measure => have := HK1.out; omega
        case rel => exact ⟨(wrap64 (x5_1 + 1)), tr, H', ⟨by have := HK1.out; omega⟩, by repeat (first | exact Drawn0.refl _ | apply Drawn0.step)⟩
       ·rw [if_neg c7] at H
        have c7b0 : ((rd l0 x5_1) == (rd l1 x5_1)) = false := beq_eq_false_iff_ne.mpr c7
        have c7b1 : ((rd l0 x5_1) != (rd l1 x5_1)) = true := bne_iff_ne.mpr c7
        obtain rfl := Option.some.inj H
        have p454 : 0 ≤ (x5_1 : Int) := td
        have q454 : x5_1 < (l0.length : Int) := td
        obtain ⟨ad454, e454, hx454_0⟩ := Kd.at_int HR0.out x5_1 p454 q454
        cases e454
        replace p454 := eq_true p454
        replace q454 := eq_true q454
        have p455 : 0 ≤ (x5_1 : Int) := td
        have q455 : x5_1 < (l1.length : Int) := td
        obtain ⟨ad455, e455, hx455_0⟩ := Kd.at_int HR1.out x5_1 p455 q455
        cases e455
        replace p455 := eq_true p455
        replace q455 := eq_true q455
        go_wp2
        repeat (go_quiet (fail); try go_wp2)
        go_ret
        exact ⟨by first | rfl | (simp; done) | (simp [*]; done), by repeat (first | exact Drawn0.refl _ | apply Drawn0.step)⟩
      ·rw [if_neg c6] at H
       exact absurd H (by simp)
     ·rw [if_neg c5] at H
      exact absurd H (by simp)
    ·rw [if_neg c4] at H
     have c4b0 : decide (x5_1 < (l0.length : Int)) = false := decide_eq_false c4
     clear c4
     obtain rfl := Option.some.inj H
     go_wp2
     repeat (go_quiet (fail); try go_wp2)
     go_ret
     exact ⟨by first | rfl | (simp; done) | (simp [*]; done), by repeat (first | exact Drawn0.refl _ | apply Drawn0.step)⟩
 ·rw [if_neg c3] at H
  have c3b0 : ((l0.length : Int) == (l1.length : Int)) = false := beq_eq_false_iff_ne.mpr c3
  have c3b1 : ((l0.length : Int) != (l1.length : Int)) = true := bne_iff_ne.mpr c3
  have c3b2 : (l0.length == l1.length) = false := by first | simpa using c3 | (simp at c3 ⊢; omega)
  obtain rfl := Option.some.inj H
  go_enter Tryd.func52, Tryd.ntmps52
  go_wp2
  repeat (go_quiet (fail); try go_wp2)
  go_ret
  exact ⟨by first | rfl | (simp; done) | (simp [*]; done), by repeat (first | exact Drawn0.refl _ | apply Drawn0.step)⟩

def laws_sameRecord.f (k : Nat) (a0_0 : Int) (a0_1 : Int) (a0_2 : Bool) (l0_3 : List Int) (a0_4 : Bool) (l0_5 : List Int) (a1_0 : Int) (a1_1 : Int) (a1_2 : Bool) (l1_3 : List Int) (a1_4 : Bool) (l1_5 : List Int) : Option (Bool) := if a0_0 = a1_0 then (if a0_1 = a1_1 then (if (a0_2 == a1_2) = true then (if (a0_4 == a1_4) = true then ((laws_sameInts.f k l0_3 l1_3).bind fun t458 => (if t458 = true then ((laws_sameInts.f k l0_5 l1_5).bind fun t459 => (some t459)) else (some false))) else (some false)) else (some false)) else (some false)) else (some false)
set_option maxHeartbeats 8000000 in
set_option maxRecDepth 100000 in
theorem laws_sameRecord.calls (k : Nat) (a0_0 : Int) (a0_1 : Int) (a0_2 : Bool) (A0_3 : Option Addr) (c0_3 : Nat) (l0_3 : List Int) (a0_4 : Bool) (A0_5 : Option Addr) (c0_5 : Nat) (l0_5 : List Int) (a1_0 : Int) (a1_1 : Int) (a1_2 : Bool) (A1_3 : Option Addr) (c1_3 : Nat) (l1_3 : List Int) (a1_4 : Bool) (A1_5 : Option Addr) (c1_5 : Nat) (l1_5 : List Int) (r : Bool) (w : World) (hr0_3 : Kd.C (Kd.int .i64) w A0_3 l0_3.length l0_3) (hc0_3 : l0_3.length ≤ c0_3) (hr0_5 : Kd.C (Kd.int .i64) w A0_5 l0_5.length l0_5) (hc0_5 : l0_5.length ≤ c0_5) (hr1_3 : Kd.C (Kd.int .i64) w A1_3 l1_3.length l1_3) (hc1_3 : l1_3.length ≤ c1_3) (hr1_5 : Kd.C (Kd.int .i64) w A1_5 l1_5.length l1_5) (hc1_5 : l1_5.length ≤ c1_5) (h : laws_sameRecord.f k a0_0 a0_1 a0_2 l0_3 a0_4 l0_5 a1_0 a1_1 a1_2 l1_3 a1_4 l1_5 = some r) :
  Calls Tryd.prog 23 #[.agg #[.int .i64 a0_0, .int .i64 a0_1, .bool a0_2, .slice A0_3 l0_3.length c0_3, .bool a0_4, .slice A0_5 l0_5.length c0_5], .agg #[.int .i64 a1_0, .int .i64 a1_1, .bool a1_2, .slice A1_3 l1_3.length c1_3, .bool a1_4, .slice A1_5 l1_5.length c1_5]] w fun e w' => e = .returned (.bool r) ∧ Below w.heap.size w w' := by
 have hu25 := Tryd.underlying25
 have HR0_3 := Aside0.mk hr0_3
 have HC0_3 := Aside0.mk hc0_3
 clear hr0_3 hc0_3
 have HR0_5 := Aside0.mk hr0_5
 have HC0_5 := Aside0.mk hc0_5
 clear hr0_5 hc0_5
 have HR1_3 := Aside0.mk hr1_3
 have HC1_3 := Aside0.mk hc1_3
 clear hr1_3 hc1_3
 have HR1_5 := Aside0.mk hr1_5
 have HC1_5 := Aside0.mk hc1_5
 clear hr1_5 hc1_5
 have HB := Aside0.mk (Below.refl w.heap.size w)
 have H : (if a0_0 = a1_0 then (if a0_1 = a1_1 then (if (a0_2 == a1_2) = true then (if (a0_4 == a1_4) = true then ((laws_sameInts.f k l0_3 l1_3).bind fun t458 => (if t458 = true then ((laws_sameInts.f k l0_5 l1_5).bind fun t459 => (some t459)) else (some false))) else (some false)) else (some false)) else (some false)) else (some false)) = some r := h
 clear h
 by_cases c3 : a0_0 = a1_0
 ·rw [if_pos c3] at H
  have c3b0 : (a0_0 == a1_0) = true := beq_iff_eq.mpr c3
  have c3b1 : (a0_0 != a1_0) = false := bne_eq_false_iff_eq.mpr c3
  clear c3
  by_cases c4 : a0_1 = a1_1
  ·rw [if_pos c4] at H
   have c4b0 : (a0_1 == a1_1) = true := beq_iff_eq.mpr c4
   have c4b1 : (a0_1 != a1_1) = false := bne_eq_false_iff_eq.mpr c4
   clear c4
   by_cases c5 : (a0_2 == a1_2) = true
   ·rw [if_pos c5] at H
    have c5b0 : (a0_2 == a1_2) = true := c5
    (try (have c5b1 : decide (a0_2 = a1_2) = true := by simpa using c5))
    (try (have c5b2 : (a0_2 == a1_2) = true := by simpa using c5))
    clear c5
    by_cases c6 : (a0_4 == a1_4) = true
    ·rw [if_pos c6] at H
     have c6b0 : (a0_4 == a1_4) = true := c6
     (try (have c6b1 : decide (a0_4 = a1_4) = true := by simpa using c6))
     (try (have c6b2 : (a0_4 == a1_4) = true := by simpa using c6))
     clear c6
     replace H := tbe H
     obtain ⟨t458, A7, H⟩ := H
     by_cases c8 : t458 = true
     ·subst c8
      rw [if_pos rfl] at H
      replace H := tbe H
      obtain ⟨t459, A9, H⟩ := H
      obtain rfl := Option.some.inj H
      go_enter Tryd.func23, Tryd.ntmps23
      go_wp2_with (first | ((with_reducible refine gate_dst (N := 2) rfl ?_); refine box_event ?hg (N := 2) ?hd (cs := #[.int .i64 a0_0, .int .i64 a0_1, .bool a0_2, .slice A0_3 l0_3.length c0_3, .bool a0_4, .slice A0_5 l0_5.length c0_5]) (t := 25) ?hr ?_; (case hd => rfl); (case hg => rfl); (case hr => first | (go_simp; done) | (go_simp; rfl)); intro gb456 hg w10 hbox hb; have BK456 := Aside0.mk (hbox); have GW456 := tge HB hg; have GE456 := tge HB hg; replace HB := tBs HB hb; clear hb hbox hg) | ((with_reducible refine gate_dst (N := 3) rfl ?_); refine box_event ?hg (N := 3) ?hd (cs := #[.int .i64 a1_0, .int .i64 a1_1, .bool a1_2, .slice A1_3 l1_3.length c1_3, .bool a1_4, .slice A1_5 l1_5.length c1_5]) (t := 25) ?hr ?_; (case hd => rfl); (case hg => rfl); (case hr => first | (go_simp; done) | (go_simp; rfl)); intro gb457 hg w11 hbox hb; have BK457 := Aside0.mk (hbox); have GW457 := tge HB hg; have GE457 := tge HB hg; replace HB := tBs HB hb; have NB456_457 := tlt BK456 hg; have NB457_456 := tgt BK456 hg; replace BK456 := tBb BK456 hb; clear hb hbox hg; have hnb12 := NB456_457.out; have hnc12 := NB457_456.out; obtain ⟨hcz13_0, hcz13_1, hcz13_2, hcz13_3, hcz13_4, hcz13_5, hfz13_0, hfz13_1, hfz13_2, hfz13_3, hfz13_4, hfz13_5⟩ := cells6 BK456.out; obtain ⟨hcz14_0, hcz14_1, hcz14_2, hcz14_3, hcz14_4, hcz14_5, hfz14_0, hfz14_1, hfz14_2, hfz14_3, hfz14_4, hfz14_5⟩ := cells6 BK457.out) | (go_at_call 52; (with_reducible refine (laws_sameInts.calls k _ _ l0_3 _ _ l1_3 true _ ?side1 ?side2 ?side3 ?side4 A7.out).mono ?_); (case side1 => exact tC (Kd.C_below HR0_3.out HB.out)); (case side2 => exact HC0_3.out); (case side3 => exact tC (Kd.C_below HR1_3.out HB.out)); (case side4 => exact HC1_3.out); rintro e w' ⟨rfl, ⟨nd, rfl⟩⟩) | (go_at_call 52; (with_reducible refine (laws_sameInts.calls k _ _ l0_5 _ _ l1_5 t459 _ ?side1 ?side2 ?side3 ?side4 A9.out).mono ?_); (case side1 => exact tC (Kd.C_below HR0_5.out zb)); (case side2 => exact HC0_5.out); (case side3 => exact tC (Kd.C_below HR1_5.out zb)); (case side4 => exact HC1_5.out); rintro e w' ⟨rfl, ⟨nd, rfl⟩⟩))
      go_ret
      exact ⟨by first | rfl | (simp [errW_none, errW_some] <;> rfl) | (simp [*, errW_none, errW_some] <;> rfl), zb⟩
     ·replace c8 := Bool.eq_false_iff.mpr c8
      subst c8
      rw [if_neg (show ¬ (false = true) by decide)] at H
      obtain rfl := Option.some.inj H
      go_enter Tryd.func23, Tryd.ntmps23
      go_wp2_with (first | ((with_reducible refine gate_dst (N := 2) rfl ?_); refine box_event ?hg (N := 2) ?hd (cs := #[.int .i64 a0_0, .int .i64 a0_1, .bool a0_2, .slice A0_3 l0_3.length c0_3, .bool a0_4, .slice A0_5 l0_5.length c0_5]) (t := 25) ?hr ?_; (case hd => rfl); (case hg => rfl); (case hr => first | (go_simp; done) | (go_simp; rfl)); intro gb456 hg w15 hbox hb; have BK456 := Aside0.mk (hbox); have GW456 := tge HB hg; have GE456 := tge HB hg; replace HB := tBs HB hb; clear hb hbox hg) | ((with_reducible refine gate_dst (N := 3) rfl ?_); refine box_event ?hg (N := 3) ?hd (cs := #[.int .i64 a1_0, .int .i64 a1_1, .bool a1_2, .slice A1_3 l1_3.length c1_3, .bool a1_4, .slice A1_5 l1_5.length c1_5]) (t := 25) ?hr ?_; (case hd => rfl); (case hg => rfl); (case hr => first | (go_simp; done) | (go_simp; rfl)); intro gb457 hg w16 hbox hb; have BK457 := Aside0.mk (hbox); have GW457 := tge HB hg; have GE457 := tge HB hg; replace HB := tBs HB hb; have NB456_457 := tlt BK456 hg; have NB457_456 := tgt BK456 hg; replace BK456 := tBb BK456 hb; clear hb hbox hg; have hnb17 := NB456_457.out; have hnc17 := NB457_456.out; obtain ⟨hcz18_0, hcz18_1, hcz18_2, hcz18_3, hcz18_4, hcz18_5, hfz18_0, hfz18_1, hfz18_2, hfz18_3, hfz18_4, hfz18_5⟩ := cells6 BK456.out; obtain ⟨hcz19_0, hcz19_1, hcz19_2, hcz19_3, hcz19_4, hcz19_5, hfz19_0, hfz19_1, hfz19_2, hfz19_3, hfz19_4, hfz19_5⟩ := cells6 BK457.out) | (go_at_call 52; (with_reducible refine (laws_sameInts.calls k _ _ l0_3 _ _ l1_3 false _ ?side1 ?side2 ?side3 ?side4 A7.out).mono ?_); (case side1 => exact tC (Kd.C_below HR0_3.out HB.out)); (case side2 => exact HC0_3.out); (case side3 => exact tC (Kd.C_below HR1_3.out HB.out)); (case side4 => exact HC1_3.out); rintro e w' ⟨rfl, ⟨nd, rfl⟩⟩))
      go_ret
      exact ⟨by first | rfl | (simp [errW_none, errW_some] <;> rfl) | (simp [*, errW_none, errW_some] <;> rfl), zb⟩
    ·rw [if_neg c6] at H
     have c6b0 : (a0_4 == a1_4) = false := by simpa using c6
     (try (have c6b1 : decide (a0_4 = a1_4) = false := by simpa using c6))
     (try (have c6b2 : (a0_4 == a1_4) = false := by simpa using c6))
     (try (have c6b3 : ¬ (a0_4 = a1_4) := by simpa using c6))
     clear c6
     obtain rfl := Option.some.inj H
     go_enter Tryd.func23, Tryd.ntmps23
     go_wp2_with (first | ((with_reducible refine gate_dst (N := 2) rfl ?_); refine box_event ?hg (N := 2) ?hd (cs := #[.int .i64 a0_0, .int .i64 a0_1, .bool a0_2, .slice A0_3 l0_3.length c0_3, .bool a0_4, .slice A0_5 l0_5.length c0_5]) (t := 25) ?hr ?_; (case hd => rfl); (case hg => rfl); (case hr => first | (go_simp; done) | (go_simp; rfl)); intro gb456 hg w20 hbox hb; have BK456 := Aside0.mk (hbox); have GW456 := tge HB hg; have GE456 := tge HB hg; replace HB := tBs HB hb; clear hb hbox hg) | ((with_reducible refine gate_dst (N := 3) rfl ?_); refine box_event ?hg (N := 3) ?hd (cs := #[.int .i64 a1_0, .int .i64 a1_1, .bool a1_2, .slice A1_3 l1_3.length c1_3, .bool a1_4, .slice A1_5 l1_5.length c1_5]) (t := 25) ?hr ?_; (case hd => rfl); (case hg => rfl); (case hr => first | (go_simp; done) | (go_simp; rfl)); intro gb457 hg w21 hbox hb; have BK457 := Aside0.mk (hbox); have GW457 := tge HB hg; have GE457 := tge HB hg; replace HB := tBs HB hb; have NB456_457 := tlt BK456 hg; have NB457_456 := tgt BK456 hg; replace BK456 := tBb BK456 hb; clear hb hbox hg; have hnb22 := NB456_457.out; have hnc22 := NB457_456.out; obtain ⟨hcz23_0, hcz23_1, hcz23_2, hcz23_3, hcz23_4, hcz23_5, hfz23_0, hfz23_1, hfz23_2, hfz23_3, hfz23_4, hfz23_5⟩ := cells6 BK456.out; obtain ⟨hcz24_0, hcz24_1, hcz24_2, hcz24_3, hcz24_4, hcz24_5, hfz24_0, hfz24_1, hfz24_2, hfz24_3, hfz24_4, hfz24_5⟩ := cells6 BK457.out))
     go_ret
     exact ⟨by first | rfl | (simp [errW_none, errW_some] <;> rfl) | (simp [*, errW_none, errW_some] <;> rfl), zb⟩
   ·rw [if_neg c5] at H
    have c5b0 : (a0_2 == a1_2) = false := by simpa using c5
    (try (have c5b1 : decide (a0_2 = a1_2) = false := by simpa using c5))
    (try (have c5b2 : (a0_2 == a1_2) = false := by simpa using c5))
    (try (have c5b3 : ¬ (a0_2 = a1_2) := by simpa using c5))
    clear c5
    obtain rfl := Option.some.inj H
    go_enter Tryd.func23, Tryd.ntmps23
    go_wp2_with (first | ((with_reducible refine gate_dst (N := 2) rfl ?_); refine box_event ?hg (N := 2) ?hd (cs := #[.int .i64 a0_0, .int .i64 a0_1, .bool a0_2, .slice A0_3 l0_3.length c0_3, .bool a0_4, .slice A0_5 l0_5.length c0_5]) (t := 25) ?hr ?_; (case hd => rfl); (case hg => rfl); (case hr => first | (go_simp; done) | (go_simp; rfl)); intro gb456 hg w25 hbox hb; have BK456 := Aside0.mk (hbox); have GW456 := tge HB hg; have GE456 := tge HB hg; replace HB := tBs HB hb; clear hb hbox hg) | ((with_reducible refine gate_dst (N := 3) rfl ?_); refine box_event ?hg (N := 3) ?hd (cs := #[.int .i64 a1_0, .int .i64 a1_1, .bool a1_2, .slice A1_3 l1_3.length c1_3, .bool a1_4, .slice A1_5 l1_5.length c1_5]) (t := 25) ?hr ?_; (case hd => rfl); (case hg => rfl); (case hr => first | (go_simp; done) | (go_simp; rfl)); intro gb457 hg w26 hbox hb; have BK457 := Aside0.mk (hbox); have GW457 := tge HB hg; have GE457 := tge HB hg; replace HB := tBs HB hb; have NB456_457 := tlt BK456 hg; have NB457_456 := tgt BK456 hg; replace BK456 := tBb BK456 hb; clear hb hbox hg; have hnb27 := NB456_457.out; have hnc27 := NB457_456.out; obtain ⟨hcz28_0, hcz28_1, hcz28_2, hcz28_3, hcz28_4, hcz28_5, hfz28_0, hfz28_1, hfz28_2, hfz28_3, hfz28_4, hfz28_5⟩ := cells6 BK456.out; obtain ⟨hcz29_0, hcz29_1, hcz29_2, hcz29_3, hcz29_4, hcz29_5, hfz29_0, hfz29_1, hfz29_2, hfz29_3, hfz29_4, hfz29_5⟩ := cells6 BK457.out))
    go_ret
    exact ⟨by first | rfl | (simp [errW_none, errW_some] <;> rfl) | (simp [*, errW_none, errW_some] <;> rfl), zb⟩
  ·rw [if_neg c4] at H
   have c4b0 : (a0_1 == a1_1) = false := beq_eq_false_iff_ne.mpr c4
   have c4b1 : (a0_1 != a1_1) = true := bne_iff_ne.mpr c4
   obtain rfl := Option.some.inj H
   go_enter Tryd.func23, Tryd.ntmps23
   go_wp2_with (first | ((with_reducible refine gate_dst (N := 2) rfl ?_); refine box_event ?hg (N := 2) ?hd (cs := #[.int .i64 a0_0, .int .i64 a0_1, .bool a0_2, .slice A0_3 l0_3.length c0_3, .bool a0_4, .slice A0_5 l0_5.length c0_5]) (t := 25) ?hr ?_; (case hd => rfl); (case hg => rfl); (case hr => first | (go_simp; done) | (go_simp; rfl)); intro gb456 hg w30 hbox hb; have BK456 := Aside0.mk (hbox); have GW456 := tge HB hg; have GE456 := tge HB hg; replace HB := tBs HB hb; clear hb hbox hg) | ((with_reducible refine gate_dst (N := 3) rfl ?_); refine box_event ?hg (N := 3) ?hd (cs := #[.int .i64 a1_0, .int .i64 a1_1, .bool a1_2, .slice A1_3 l1_3.length c1_3, .bool a1_4, .slice A1_5 l1_5.length c1_5]) (t := 25) ?hr ?_; (case hd => rfl); (case hg => rfl); (case hr => first | (go_simp; done) | (go_simp; rfl)); intro gb457 hg w31 hbox hb; have BK457 := Aside0.mk (hbox); have GW457 := tge HB hg; have GE457 := tge HB hg; replace HB := tBs HB hb; have NB456_457 := tlt BK456 hg; have NB457_456 := tgt BK456 hg; replace BK456 := tBb BK456 hb; clear hb hbox hg; have hnb32 := NB456_457.out; have hnc32 := NB457_456.out; obtain ⟨hcz33_0, hcz33_1, hcz33_2, hcz33_3, hcz33_4, hcz33_5, hfz33_0, hfz33_1, hfz33_2, hfz33_3, hfz33_4, hfz33_5⟩ := cells6 BK456.out; obtain ⟨hcz34_0, hcz34_1, hcz34_2, hcz34_3, hcz34_4, hcz34_5, hfz34_0, hfz34_1, hfz34_2, hfz34_3, hfz34_4, hfz34_5⟩ := cells6 BK457.out))
   go_ret
   exact ⟨by first | rfl | (simp [errW_none, errW_some] <;> rfl) | (simp [*, errW_none, errW_some] <;> rfl), zb⟩
 ·rw [if_neg c3] at H
  have c3b0 : (a0_0 == a1_0) = false := beq_eq_false_iff_ne.mpr c3
  have c3b1 : (a0_0 != a1_0) = true := bne_iff_ne.mpr c3
  obtain rfl := Option.some.inj H
  go_enter Tryd.func23, Tryd.ntmps23
  go_wp2_with (first | ((with_reducible refine gate_dst (N := 2) rfl ?_); refine box_event ?hg (N := 2) ?hd (cs := #[.int .i64 a0_0, .int .i64 a0_1, .bool a0_2, .slice A0_3 l0_3.length c0_3, .bool a0_4, .slice A0_5 l0_5.length c0_5]) (t := 25) ?hr ?_; (case hd => rfl); (case hg => rfl); (case hr => first | (go_simp; done) | (go_simp; rfl)); intro gb456 hg w35 hbox hb; have BK456 := Aside0.mk (hbox); have GW456 := tge HB hg; have GE456 := tge HB hg; replace HB := tBs HB hb; clear hb hbox hg) | ((with_reducible refine gate_dst (N := 3) rfl ?_); refine box_event ?hg (N := 3) ?hd (cs := #[.int .i64 a1_0, .int .i64 a1_1, .bool a1_2, .slice A1_3 l1_3.length c1_3, .bool a1_4, .slice A1_5 l1_5.length c1_5]) (t := 25) ?hr ?_; (case hd => rfl); (case hg => rfl); (case hr => first | (go_simp; done) | (go_simp; rfl)); intro gb457 hg w36 hbox hb; have BK457 := Aside0.mk (hbox); have GW457 := tge HB hg; have GE457 := tge HB hg; replace HB := tBs HB hb; have NB456_457 := tlt BK456 hg; have NB457_456 := tgt BK456 hg; replace BK456 := tBb BK456 hb; clear hb hbox hg; have hnb37 := NB456_457.out; have hnc37 := NB457_456.out; obtain ⟨hcz38_0, hcz38_1, hcz38_2, hcz38_3, hcz38_4, hcz38_5, hfz38_0, hfz38_1, hfz38_2, hfz38_3, hfz38_4, hfz38_5⟩ := cells6 BK456.out; obtain ⟨hcz39_0, hcz39_1, hcz39_2, hcz39_3, hcz39_4, hcz39_5, hfz39_0, hfz39_1, hfz39_2, hfz39_3, hfz39_4, hfz39_5⟩ := cells6 BK457.out))
  go_ret
  exact ⟨by first | rfl | (simp [errW_none, errW_some] <;> rfl) | (simp [*, errW_none, errW_some] <;> rfl), zb⟩

end Go.Proofs.YteoicjlhkaljbaaDoor.G

namespace Go.Proofs.YteoicjlhkaljbaaDoor.G
open Go.RowKit Go.Proofs.YteoicjlhkaljbaaDoorW.PrintWords Go.Proofs.YteoicjlhkaljbaaDoorW.PrintLast Go.Proofs.YteoicjlhkaljbaaDoorW.PrintMore
attribute [local go_sem] max2_int min2_int max_two min_two max_three min_three max_four min_four   -- for this text's walks alone
set_option linter.unusedVariables false
set_option linter.unusedSimpArgs false

def laws_FnRecordOfBlank.j0 : Nat → ByteArray → Bool → Bool → Bool → Int → Int → Bool → List Int → Bool → List Int → Int → Int → Bool → List Int → Bool → List Int → Option (Bool)
 | 0, _, _, _, _, _, _, _, _, _, _, _, _, _, _, _, _ => none
 | k + 1, x3, x5, x7, x41, x473000, x473001, x473002, x473003, x473004, x473005, x485000, x485001, x485002, x485003, x485004, x485005 => if x41 = true then (if (x5 == x7) = true then ((laws_sameRecord.f k x473000 x473001 x473002 x473003 x473004 x473005 x485000 x485001 x485002 x485003 x485004 x485005).bind fun t486 => (some t486)) else (some false)) else (if x3.size + 1 ≤ 9223372036854775807 then ((impl_RecordOf.f k (x3 ++ (⟨#[32]⟩ : ByteArray))).bind fun bt487 => (if 1 + x3.size ≤ 9223372036854775807 then ((impl_RecordOf.f k ((⟨#[32]⟩ : ByteArray) ++ x3)).bind fun bt499 => ((impl_RecordOf.f k ((⟨#[48]⟩ : ByteArray) ++ x3)).bind fun bt511 => (if bt487.2.2.2.2.2.2 = true then (some false) else (if bt499.2.2.2.2.2.2 = true then (some false) else (some (!bt511.2.2.2.2.2.2)))))) else (none))) else (none))
def laws_FnRecordOfBlank.f (k : Nat) (l0 : List Int) : Option (Bool) := if (l0.length : Int) > 1048576 then (some true) else ((spec_DrawRecordOf.f k l0).bind fun t460 => ((impl_RecordOf.f k t460).bind fun bt461 => ((spec_RecordOf.f k t460).bind fun bt473 => (if (bt461.2.2.2.2.2.2 != bt473.2.2.2.2.2.2) = true then (laws_FnRecordOfBlank.j0 k t460 bt461.2.2.2.2.2.2 bt473.2.2.2.2.2.2 true bt461.1 bt461.2.1 bt461.2.2.1 bt461.2.2.2.1 bt461.2.2.2.2.1 bt461.2.2.2.2.2.1 bt473.1 bt473.2.1 bt473.2.2.1 bt473.2.2.2.1 bt473.2.2.2.2.1 bt473.2.2.2.2.2.1) else ((laws_sameRecord.f k bt461.1 bt461.2.1 bt461.2.2.1 bt461.2.2.2.1 bt461.2.2.2.2.1 bt461.2.2.2.2.2.1 bt473.1 bt473.2.1 bt473.2.2.1 bt473.2.2.2.1 bt473.2.2.2.2.1 bt473.2.2.2.2.2.1).bind fun t485 => (if t485 = true then (laws_FnRecordOfBlank.j0 k t460 bt461.2.2.2.2.2.2 bt473.2.2.2.2.2.2 (!bt461.2.2.2.2.2.2) bt461.1 bt461.2.1 bt461.2.2.1 bt461.2.2.2.1 bt461.2.2.2.2.1 bt461.2.2.2.2.2.1 bt473.1 bt473.2.1 bt473.2.2.1 bt473.2.2.2.1 bt473.2.2.2.2.1 bt473.2.2.2.2.2.1) else (laws_FnRecordOfBlank.j0 k t460 bt461.2.2.2.2.2.2 bt473.2.2.2.2.2.2 true bt461.1 bt461.2.1 bt461.2.2.1 bt461.2.2.2.1 bt461.2.2.2.2.1 bt461.2.2.2.2.2.1 bt473.1 bt473.2.1 bt473.2.2.1 bt473.2.2.2.1 bt473.2.2.2.2.1 bt473.2.2.2.2.2.1)))))))
set_option maxHeartbeats 40000000 in
set_option maxRecDepth 100000 in
theorem laws_FnRecordOfBlank.calls [ErrA] (k : Nat) (A0 : Option Addr) (c0 : Nat) (l0 : List Int) (r : Bool) (w : World) (hE : ErrOk [0] w) (hr0 : Kd.C (Kd.int .u8) w A0 l0.length l0) (hc0 : l0.length ≤ c0) (h : laws_FnRecordOfBlank.f k l0 = some r) :
  Calls Tryd.prog 6 #[.slice A0 l0.length c0] w fun e w' => e = .returned (.bool r) ∧ Below w.heap.size w w' := by
 have HE := Aside0.mk hE
 clear hE
 have hu25 := Tryd.underlying25
 have HR0 := Aside0.mk hr0
 have HC0 := Aside0.mk hc0
 clear hr0 hc0
 have HB := Aside0.mk (Below.refl w.heap.size w)
 have H : (if (l0.length : Int) > 1048576 then (some true) else ((spec_DrawRecordOf.f k l0).bind fun t460 => ((impl_RecordOf.f k t460).bind fun bt461 => ((spec_RecordOf.f k t460).bind fun bt473 => (if (bt461.2.2.2.2.2.2 != bt473.2.2.2.2.2.2) = true then (laws_FnRecordOfBlank.j0 k t460 bt461.2.2.2.2.2.2 bt473.2.2.2.2.2.2 true bt461.1 bt461.2.1 bt461.2.2.1 bt461.2.2.2.1 bt461.2.2.2.2.1 bt461.2.2.2.2.2.1 bt473.1 bt473.2.1 bt473.2.2.1 bt473.2.2.2.1 bt473.2.2.2.2.1 bt473.2.2.2.2.2.1) else ((laws_sameRecord.f k bt461.1 bt461.2.1 bt461.2.2.1 bt461.2.2.2.1 bt461.2.2.2.2.1 bt461.2.2.2.2.2.1 bt473.1 bt473.2.1 bt473.2.2.1 bt473.2.2.2.1 bt473.2.2.2.2.1 bt473.2.2.2.2.2.1).bind fun t485 => (if t485 = true then (laws_FnRecordOfBlank.j0 k t460 bt461.2.2.2.2.2.2 bt473.2.2.2.2.2.2 (!bt461.2.2.2.2.2.2) bt461.1 bt461.2.1 bt461.2.2.1 bt461.2.2.2.1 bt461.2.2.2.2.1 bt461.2.2.2.2.2.1 bt473.1 bt473.2.1 bt473.2.2.1 bt473.2.2.2.1 bt473.2.2.2.2.1 bt473.2.2.2.2.2.1) else (laws_FnRecordOfBlank.j0 k t460 bt461.2.2.2.2.2.2 bt473.2.2.2.2.2.2 true bt461.1 bt461.2.1 bt461.2.2.1 bt461.2.2.2.1 bt461.2.2.2.2.1 bt461.2.2.2.2.2.1 bt473.1 bt473.2.1 bt473.2.2.1 bt473.2.2.2.1 bt473.2.2.2.2.1 bt473.2.2.2.2.2.1)))))))) = some r := h
 clear h
 by_cases c2 : (l0.length : Int) > 1048576
 ·rw [if_pos c2] at H
  have c2b0 : decide (1048576 < (l0.length : Int)) = true := decide_eq_true c2
  have c2b1 : decide (1048576 < l0.length) = true := decide_eq_true (by omega)
  clear c2
  obtain rfl := Option.some.inj H
  go_enter Tryd.func6, Tryd.ntmps6
  go_wp2
  all_goals go_ret
  all_goals exact ⟨by first | rfl | (simp [errW_none, errW_some] <;> rfl) | (simp [*, errW_none, errW_some] <;> rfl), zb⟩
 ·rw [if_neg c2] at H
  have c2b0 : decide (1048576 < (l0.length : Int)) = false := decide_eq_false c2
  have c2b1 : decide (1048576 < l0.length) = false := decide_eq_false (by omega)
  clear c2
  replace H := tbe H
  obtain ⟨t460, A3, H⟩ := H
  replace H := tbe H
  obtain ⟨⟨t461, t462, t463, t464, t467, t468, t471⟩, A4, H⟩ := H
  dsimp only at H
  replace H := tbe H
  obtain ⟨⟨t473, t474, t475, t476, t479, t480, t483⟩, A5, H⟩ := H
  dsimp only at H
  have HC6 := Aside0.mk H
  clear H
  go_enter Tryd.func6, Tryd.ntmps6
  go_upto_region 6 with (first | ((with_reducible refine gate_callee (f := 22) rfl ?_); refine goesL_ (some 18) rfl rfl Tryd.func22 (by kernel_rfl) rfl #[.slice A0 l0.length c0] rfl tq ?_; (with_reducible refine (spec_DrawRecordOf.calls k _ _ l0 t460 _ ?side1 ?side2 A3.out).mono ?_); (case side1 => exact tC HR0.out); (case side2 => exact HC0.out); rintro e w7 ⟨rfl, hb⟩; refine ⟨_, rfl, ?_⟩; replace HB := tBs HB hb; (try clear hb); (try clear hb2); (try clear hk); (try clear hi)) | ((with_reducible refine gate_callee (f := 19) rfl ?_); refine goesL_ (some 21) rfl rfl Tryd.func19 (by kernel_rfl) rfl #[.string t460] rfl tq ?_; (with_reducible refine (impl_RecordOf.calls (hE := ?sideE) k t460 t461 t462 t463 t464 t467 t468 t471 _ A4.out).mono ?_); (case sideE => exact ErrOk.below (HE.out.sub (by decide)) zb); rintro e w8 ⟨v465, v469, rfl, ho0, ho1, hb⟩; have u_v465 := tsv Tryd.prog v465 ho0; have u_v469 := tsv Tryd.prog v469 ho1; refine ⟨_, rfl, ?_⟩; have HO466 := tRl ho0 HB; have HO470 := tRl ho1 HB; replace HB := tBs HB hb; (try clear hb); (try clear hb2); (try clear hk); (try clear hi); (try clear ho0); (try clear ho1)) | ((with_reducible refine gate_dst (N := 4) rfl ?_); refine box_event ?hg (N := 4) ?hd (cs := #[.int .i64 0, .int .i64 0, .bool false, .slice none 0 0, .bool false, .slice none 0 0]) (t := 25) ?hr ?_; (case hd => rfl); (case hg => rfl); (case hr => first | (go_simp; done) | (go_simp; rfl)); intro gb472 hg w9 hbox hb; replace HO466 := tRb HO466 hb; replace HO470 := tRb HO470 hb; have BK472 := Aside0.mk (hbox); have GW472 := tge HB hg; have GE472 := tge HB hg; replace HB := tBs HB hb; clear hb hbox hg; obtain ⟨hcz10_0, hcz10_1, hcz10_2, hcz10_3, hcz10_4, hcz10_5, hfz10_0, hfz10_1, hfz10_2, hfz10_3, hfz10_4, hfz10_5⟩ := cells6 BK472.out; obtain ⟨Ao11, co11, eo11⟩ := Kd.R_slice HO466.out; subst eo11; obtain ⟨Ao12, co12, eo12⟩ := Kd.R_slice HO470.out; subst eo12) | ((with_reducible refine gate_callee (f := 18) rfl ?_); refine goesL_ (some 26) rfl rfl Tryd.func18 (by kernel_rfl) rfl #[.string t460] rfl tq ?_; (with_reducible refine (spec_RecordOf.calls k t460 t473 t474 t475 t476 t479 t480 t483 _ A5.out).mono ?_); rintro e w13 ⟨v477, v481, rfl, ho0, ho1, hb⟩; have u_v477 := tsv Tryd.prog v477 ho0; have u_v481 := tsv Tryd.prog v481 ho1; refine ⟨_, rfl, ?_⟩; have HO478 := Aside0.mk (Kd.R_lower (Kd.R_new' (Kd.R_new' ho0 (Kd.R_lt (tRt HO466.out BK472.out))) (Kd.R_lt (tRt HO470.out BK472.out))) (below_size zb)); have HO482 := Aside0.mk (Kd.R_lower (Kd.R_new' (Kd.R_new' ho1 (Kd.R_lt (tRt HO466.out BK472.out))) (Kd.R_lt (tRt HO470.out BK472.out))) (below_size zb)); replace HO466 := Aside0.mk (Kd.R_mono (Kd.R_told (Kd.R_told (Kd.R_old (tRt HO466.out BK472.out) hb) (Kd.R_base ho0)) (Kd.R_base ho1)) (fun _ h_ => h_.1)); replace HO470 := Aside0.mk (Kd.R_mono (Kd.R_told (Kd.R_told (Kd.R_old (tRt HO470.out BK472.out) hb) (Kd.R_base ho0)) (Kd.R_base ho1)) (fun _ h_ => h_.1)); replace BK472 := tBp (o' := .cells #[.int .i64 t461, .int .i64 t462, .bool t463, .slice Ao11 t464.length co11, .bool t467, .slice Ao12 t468.length co12] 25 (0, 0)) BK472 hb; replace HB := tBs HB hb; (try clear hb); (try clear hb2); (try clear hk); (try clear hi); (try clear ho0); (try clear ho1)) | ((with_reducible refine gate_dst (N := 6) rfl ?_); refine box_event ?hg (N := 6) ?hd (cs := #[.int .i64 0, .int .i64 0, .bool false, .slice none 0 0, .bool false, .slice none 0 0]) (t := 25) ?hr ?_; (case hd => rfl); (case hg => rfl); (case hr => first | (go_simp; done) | (go_simp; rfl)); intro gb484 hg w14 hbox hb; replace HO466 := tRb HO466 hb; replace HO470 := tRb HO470 hb; replace HO478 := tRb HO478 hb; replace HO482 := tRb HO482 hb; have BK484 := Aside0.mk (hbox); have GW484 := tge HB hg; have GE484 := tge HB hg; replace HB := tBs HB hb; have NB472_484 := tlt BK472 hg; have NB484_472 := tgt BK472 hg; replace BK472 := tBb BK472 hb; clear hb hbox hg; have hnb15 := NB484_472.out; have hnc15 := NB472_484.out; obtain ⟨hcz16_0, hcz16_1, hcz16_2, hcz16_3, hcz16_4, hcz16_5, hfz16_0, hfz16_1, hfz16_2, hfz16_3, hfz16_4, hfz16_5⟩ := cells6 BK484.out; obtain ⟨Ao17, co17, eo17⟩ := Kd.R_slice HO478.out; subst eo17; obtain ⟨Ao18, co18, eo18⟩ := Kd.R_slice HO482.out; subst eo18))
  (try simp only [Act.put, List.setIfInBounds_toArray, List.set_cons_zero, List.set_cons_succ])
  go_cut [41] (fun v41 wc => ∃ (kq : Nat) (x41_5 : Bool), v41 = .bool x41_5 ∧ Aside0 (laws_FnRecordOfBlank.j0 kq t460 t471 t483 x41_5 t461 t462 t463 t464 t467 t468 t473 t474 t475 t476 t479 t480 = some r) ∧ Aside0 (kq ≤ k) ∧ Aside0 (Kd.R (Kd.int .i64) 3 wc w.heap.size (fun k_ => some k_ ≠ ((.slice Ao12 t468.length co12) : Value).ownBlock ∧ some k_ ≠ ((.slice Ao17 t476.length co17) : Value).ownBlock ∧ some k_ ≠ ((.slice Ao18 t480.length co18) : Value).ownBlock) (.slice Ao11 t464.length co11) t464) ∧ Aside0 (Kd.R (Kd.int .i64) 3 wc w.heap.size (fun k_ => some k_ ≠ ((.slice Ao11 t464.length co11) : Value).ownBlock ∧ some k_ ≠ ((.slice Ao17 t476.length co17) : Value).ownBlock ∧ some k_ ≠ ((.slice Ao18 t480.length co18) : Value).ownBlock) (.slice Ao12 t468.length co12) t468) ∧ Aside0 (Kd.R (Kd.int .i64) 3 wc w.heap.size (fun k_ => some k_ ≠ ((.slice Ao11 t464.length co11) : Value).ownBlock ∧ some k_ ≠ ((.slice Ao12 t468.length co12) : Value).ownBlock ∧ some k_ ≠ ((.slice Ao18 t480.length co18) : Value).ownBlock) (.slice Ao17 t476.length co17) t476) ∧ Aside0 (Kd.R (Kd.int .i64) 3 wc w.heap.size (fun k_ => some k_ ≠ ((.slice Ao11 t464.length co11) : Value).ownBlock ∧ some k_ ≠ ((.slice Ao12 t468.length co12) : Value).ownBlock ∧ some k_ ≠ ((.slice Ao17 t476.length co17) : Value).ownBlock) (.slice Ao18 t480.length co18) t480) ∧ Aside0 (wc.heap[gb472]? = some (.cells #[.int .i64 t461, .int .i64 t462, .bool t463, (.slice Ao11 t464.length co11), .bool t467, (.slice Ao12 t468.length co12)] 25 (0, 0))) ∧ Aside0 (wc.heap[gb484]? = some (.cells #[.int .i64 t473, .int .i64 t474, .bool t475, (.slice Ao17 t476.length co17), .bool t479, (.slice Ao18 t480.length co18)] 25 (0, 0))) ∧ Aside0 (Below w.heap.size w wc))
  case first =>
   have H := HC6.out
   clear HC6
   by_cases c19 : (t471 != t483) = true
   ·rw [if_pos c19] at H
    have c19b0 : (t471 != t483) = true := c19
    (try (have c19b1 : decide (t471 = t483) = false := by simpa using c19))
    (try (have c19b2 : (t471 == t483) = false := by simpa using c19))
    (try (have c19b3 : ¬ (t471 = t483) := by simpa using c19))
    clear c19
    (first | rw [c19b0] | (simp only [i64_w, i32_w]; rw [c19b0]) | skip)
    have H' := Aside0.mk H
    clear H
    go_wp2
    go_meet
    case rel => exact ⟨_, (true), tr, H', ⟨by first | omega | exact Nat.le_refl _⟩, ⟨tRm (Kd.R_types HO466.out BK484.out (by decide))⟩, ⟨tRm (Kd.R_types HO470.out BK484.out (by decide))⟩, ⟨tRm (Kd.R_types HO478.out BK484.out (by decide))⟩, ⟨tRm (Kd.R_types HO482.out BK484.out (by decide))⟩, ⟨tH BK472.out⟩, ⟨tP BK484.out⟩, ⟨zb⟩⟩
   ·rw [if_neg c19] at H
    have c19b0 : (t471 != t483) = false := by simpa using c19
    (try (have c19b1 : decide (t471 = t483) = true := by simpa using c19))
    (try (have c19b2 : (t471 == t483) = true := by simpa using c19))
    clear c19
    (first | rw [c19b0] | (simp only [i64_w, i32_w]; rw [c19b0]) | skip)
    replace H := tbe H
    obtain ⟨t485, A20, H⟩ := H
    by_cases c21 : t485 = true
    ·subst c21
     rw [if_pos rfl] at H
     have H' := Aside0.mk H
     clear H
     have hnb22 := NB472_484.out
     have hnc22 := NB484_472.out
     obtain ⟨hcz23_0, hcz23_1, hcz23_2, hcz23_3, hcz23_4, hcz23_5, hfz23_0, hfz23_1, hfz23_2, hfz23_3, hfz23_4, hfz23_5⟩ := cells6 BK472.out
     obtain ⟨hcz24_0, hcz24_1, hcz24_2, hcz24_3, hcz24_4, hcz24_5, hfz24_0, hfz24_1, hfz24_2, hfz24_3, hfz24_4, hfz24_5⟩ := cells6 BK484.out
     go_wp2_with (first | (go_at_call 23; (with_reducible refine (laws_sameRecord.calls k t461 t462 t463 _ _ t464 t467 _ _ t468 t473 t474 t475 _ _ t476 t479 _ _ t480 true _ ?side1 ?side2 ?side3 ?side4 ?side5 ?side6 ?side7 ?side8 A20.out).mono ?_); (case side1 => refine (Kd.R_reads' (e := 3) (base := w.heap.size) (ok := fun k_ => ((some k_ ≠ (.slice Ao12 t468.length co12 : Value).ownBlock ∧ some k_ ≠ (.slice Ao17 t476.length co17 : Value).ownBlock) ∧ some k_ ≠ (.slice Ao18 t480.length co18 : Value).ownBlock)) (n := t464.length) (c := co11) ?_).2.2; exact (tRt HO466.out BK484.out)); (case side2 => exact (Kd.R_reads' HO466.out).2.1); (case side3 => refine (Kd.R_reads' (e := 3) (base := w.heap.size) (ok := fun k_ => ((some k_ ≠ (.slice Ao11 t464.length co11 : Value).ownBlock ∧ some k_ ≠ (.slice Ao17 t476.length co17 : Value).ownBlock) ∧ some k_ ≠ (.slice Ao18 t480.length co18 : Value).ownBlock)) (n := t468.length) (c := co12) ?_).2.2; exact (tRt HO470.out BK484.out)); (case side4 => exact (Kd.R_reads' HO470.out).2.1); (case side5 => refine (Kd.R_reads' (e := 3) (base := w.heap.size) (ok := fun k_ => ((some k_ ≠ (.slice Ao18 t480.length co18 : Value).ownBlock ∧ some k_ ≠ (.slice Ao11 t464.length co11 : Value).ownBlock) ∧ some k_ ≠ (.slice Ao12 t468.length co12 : Value).ownBlock)) (n := t476.length) (c := co17) ?_).2.2; exact (tRt HO478.out BK484.out)); (case side6 => exact (Kd.R_reads' HO478.out).2.1); (case side7 => refine (Kd.R_reads' (e := 3) (base := w.heap.size) (ok := fun k_ => ((some k_ ≠ (.slice Ao17 t476.length co17 : Value).ownBlock ∧ some k_ ≠ (.slice Ao11 t464.length co11 : Value).ownBlock) ∧ some k_ ≠ (.slice Ao12 t468.length co12 : Value).ownBlock)) (n := t480.length) (c := co18) ?_).2.2; exact (tRt HO482.out BK484.out)); (case side8 => exact (Kd.R_reads' HO482.out).2.1); rintro e w25 ⟨rfl, hb⟩; replace HO466 := Aside0.mk (Kd.R_below (tRt HO466.out BK484.out) hb); replace HO470 := Aside0.mk (Kd.R_below (tRt HO470.out BK484.out) hb); replace HO478 := Aside0.mk (Kd.R_below (tRt HO478.out BK484.out) hb); replace HO482 := Aside0.mk (Kd.R_below (tRt HO482.out BK484.out) hb); replace BK472 := tBb BK472 hb; replace BK484 := tBp (o' := .cells #[.int .i64 t473, .int .i64 t474, .bool t475, .slice Ao17 t476.length co17, .bool t479, .slice Ao18 t480.length co18] 25 (0, 0)) BK484 hb; replace HB := tBs HB hb; (try clear hb); (try clear hb2); (try clear hk); (try clear hi)))
     go_meet
     case rel => exact ⟨_, (!t471), tr, H', ⟨by first | omega | exact Nat.le_refl _⟩, ⟨tRm HO466.out⟩, ⟨tRm HO470.out⟩, ⟨tRm HO478.out⟩, ⟨tRm HO482.out⟩, ⟨tH BK472.out⟩, ⟨tH BK484.out⟩, ⟨zb⟩⟩
    ·replace c21 := Bool.eq_false_iff.mpr c21
     subst c21
     rw [if_neg (show ¬ (false = true) by decide)] at H
     have H' := Aside0.mk H
     clear H
     have hnb26 := NB472_484.out
     have hnc26 := NB484_472.out
     obtain ⟨hcz27_0, hcz27_1, hcz27_2, hcz27_3, hcz27_4, hcz27_5, hfz27_0, hfz27_1, hfz27_2, hfz27_3, hfz27_4, hfz27_5⟩ := cells6 BK472.out
     obtain ⟨hcz28_0, hcz28_1, hcz28_2, hcz28_3, hcz28_4, hcz28_5, hfz28_0, hfz28_1, hfz28_2, hfz28_3, hfz28_4, hfz28_5⟩ := cells6 BK484.out
     go_wp2_with (first | (go_at_call 23; (with_reducible refine (laws_sameRecord.calls k t461 t462 t463 _ _ t464 t467 _ _ t468 t473 t474 t475 _ _ t476 t479 _ _ t480 false _ ?side1 ?side2 ?side3 ?side4 ?side5 ?side6 ?side7 ?side8 A20.out).mono ?_); (case side1 => refine (Kd.R_reads' (e := 3) (base := w.heap.size) (ok := fun k_ => ((some k_ ≠ (.slice Ao12 t468.length co12 : Value).ownBlock ∧ some k_ ≠ (.slice Ao17 t476.length co17 : Value).ownBlock) ∧ some k_ ≠ (.slice Ao18 t480.length co18 : Value).ownBlock)) (n := t464.length) (c := co11) ?_).2.2; exact (tRt HO466.out BK484.out)); (case side2 => exact (Kd.R_reads' HO466.out).2.1); (case side3 => refine (Kd.R_reads' (e := 3) (base := w.heap.size) (ok := fun k_ => ((some k_ ≠ (.slice Ao11 t464.length co11 : Value).ownBlock ∧ some k_ ≠ (.slice Ao17 t476.length co17 : Value).ownBlock) ∧ some k_ ≠ (.slice Ao18 t480.length co18 : Value).ownBlock)) (n := t468.length) (c := co12) ?_).2.2; exact (tRt HO470.out BK484.out)); (case side4 => exact (Kd.R_reads' HO470.out).2.1); (case side5 => refine (Kd.R_reads' (e := 3) (base := w.heap.size) (ok := fun k_ => ((some k_ ≠ (.slice Ao18 t480.length co18 : Value).ownBlock ∧ some k_ ≠ (.slice Ao11 t464.length co11 : Value).ownBlock) ∧ some k_ ≠ (.slice Ao12 t468.length co12 : Value).ownBlock)) (n := t476.length) (c := co17) ?_).2.2; exact (tRt HO478.out BK484.out)); (case side6 => exact (Kd.R_reads' HO478.out).2.1); (case side7 => refine (Kd.R_reads' (e := 3) (base := w.heap.size) (ok := fun k_ => ((some k_ ≠ (.slice Ao17 t476.length co17 : Value).ownBlock ∧ some k_ ≠ (.slice Ao11 t464.length co11 : Value).ownBlock) ∧ some k_ ≠ (.slice Ao12 t468.length co12 : Value).ownBlock)) (n := t480.length) (c := co18) ?_).2.2; exact (tRt HO482.out BK484.out)); (case side8 => exact (Kd.R_reads' HO482.out).2.1); rintro e w29 ⟨rfl, hb⟩; replace HO466 := Aside0.mk (Kd.R_below (tRt HO466.out BK484.out) hb); replace HO470 := Aside0.mk (Kd.R_below (tRt HO470.out BK484.out) hb); replace HO478 := Aside0.mk (Kd.R_below (tRt HO478.out BK484.out) hb); replace HO482 := Aside0.mk (Kd.R_below (tRt HO482.out BK484.out) hb); replace BK472 := tBb BK472 hb; replace BK484 := tBp (o' := .cells #[.int .i64 t473, .int .i64 t474, .bool t475, .slice Ao17 t476.length co17, .bool t479, .slice Ao18 t480.length co18] 25 (0, 0)) BK484 hb; replace HB := tBs HB hb; (try clear hb); (try clear hb2); (try clear hk); (try clear hi)))
     go_meet
     case rel => exact ⟨_, (true), tr, H', ⟨by first | omega | exact Nat.le_refl _⟩, ⟨tRm HO466.out⟩, ⟨tRm HO470.out⟩, ⟨tRm HO478.out⟩, ⟨tRm HO482.out⟩, ⟨tH BK472.out⟩, ⟨tH BK484.out⟩, ⟨zb⟩⟩
  case rest =>
   clear HC6
   try clear c2; try clear c2b0; try clear c2b1; try clear hcz10_0; try clear hcz10_1; try clear hcz10_2; try clear hcz10_3; try clear hcz10_4; try clear hcz10_5; try clear hcz16_0; try clear hcz16_1; try clear hcz16_2; try clear hcz16_3; try clear hcz16_4; try clear hcz16_5; try clear hfz10_0; try clear hfz10_1; try clear hfz10_2; try clear hfz10_3; try clear hfz10_4; try clear hfz10_5; try clear hfz16_0; try clear hfz16_1; try clear hfz16_2; try clear hfz16_3; try clear hfz16_4; try clear hfz16_5
   obtain ⟨kq, x41_5, rfl, HA, HJ5, HO_473003, HO_473005, HO_485003, HO_485005, BK472, BK484, HB⟩ := hcut
   cases kq with
   | zero => exact absurd HA.out (by simp [laws_FnRecordOfBlank.j0])
   | succ kj5 =>
    have H := HA.out
    clear HA
    simp only [laws_FnRecordOfBlank.j0] at H
    by_cases c30 : x41_5 = true
    ·subst c30
     rw [if_pos rfl] at H
     by_cases c31 : (t471 == t483) = true
     ·rw [if_pos c31] at H
      have c31b0 : (t471 == t483) = true := c31
      (try (have c31b1 : decide (t471 = t483) = true := by simpa using c31))
      (try (have c31b2 : (t471 == t483) = true := by simpa using c31))
      clear c31
      replace H := tbe H
      obtain ⟨t486, A32, H⟩ := H
      obtain rfl := Option.some.inj H
      have hnb33 := NB472_484.out
      have hnc33 := NB484_472.out
      obtain ⟨hcz34_0, hcz34_1, hcz34_2, hcz34_3, hcz34_4, hcz34_5, hfz34_0, hfz34_1, hfz34_2, hfz34_3, hfz34_4, hfz34_5⟩ := cells6 BK472.out
      obtain ⟨hcz35_0, hcz35_1, hcz35_2, hcz35_3, hcz35_4, hcz35_5, hfz35_0, hfz35_1, hfz35_2, hfz35_3, hfz35_4, hfz35_5⟩ := cells6 BK484.out
      go_wp2_with (first | (go_at_call 23; (with_reducible refine (laws_sameRecord.calls kj5 t461 t462 t463 _ _ t464 t467 _ _ t468 t473 t474 t475 _ _ t476 t479 _ _ t480 t486 _ ?side1 ?side2 ?side3 ?side4 ?side5 ?side6 ?side7 ?side8 A32.out).mono ?_); (case side1 => repeat (first | exact (Kd.R_reads' HO_473003.out).2.2 | (with_reducible refine Kd.C_alloc ?_ _) | (with_reducible refine Kd.C_drewN ?_ _) | (with_reducible refine Kd.C_drew ?_))); (case side2 => exact (Kd.R_reads' HO_473003.out).2.1); (case side3 => repeat (first | exact (Kd.R_reads' HO_473005.out).2.2 | (with_reducible refine Kd.C_alloc ?_ _) | (with_reducible refine Kd.C_drewN ?_ _) | (with_reducible refine Kd.C_drew ?_))); (case side4 => exact (Kd.R_reads' HO_473005.out).2.1); (case side5 => repeat (first | exact (Kd.R_reads' HO_485003.out).2.2 | (with_reducible refine Kd.C_alloc ?_ _) | (with_reducible refine Kd.C_drewN ?_ _) | (with_reducible refine Kd.C_drew ?_))); (case side6 => exact (Kd.R_reads' HO_485003.out).2.1); (case side7 => repeat (first | exact (Kd.R_reads' HO_485005.out).2.2 | (with_reducible refine Kd.C_alloc ?_ _) | (with_reducible refine Kd.C_drewN ?_ _) | (with_reducible refine Kd.C_drew ?_))); (case side8 => exact (Kd.R_reads' HO_485005.out).2.1); rintro e w36 ⟨rfl, hb⟩; replace HO_473003 := tRb HO_473003 hb; replace HO_473005 := tRb HO_473005 hb; replace HO_485003 := tRb HO_485003 hb; replace HO_485005 := tRb HO_485005 hb; replace BK472 := tBb BK472 hb; replace BK484 := tBb BK484 hb; replace HB := tBs HB hb; (try clear hb); (try clear hb2); (try clear hk); (try clear hi)))
      all_goals go_ret
      all_goals exact ⟨by first | rfl | (simp [errW_none, errW_some] <;> rfl) | (simp [*, errW_none, errW_some] <;> rfl), zb⟩
     ·rw [if_neg c31] at H
      have c31b0 : (t471 == t483) = false := by simpa using c31
      (try (have c31b1 : decide (t471 = t483) = false := by simpa using c31))
      (try (have c31b2 : (t471 == t483) = false := by simpa using c31))
      (try (have c31b3 : ¬ (t471 = t483) := by simpa using c31))
      clear c31
      obtain rfl := Option.some.inj H
      go_wp2
      all_goals go_ret
      all_goals exact ⟨by first | rfl | (simp [errW_none, errW_some] <;> rfl) | (simp [*, errW_none, errW_some] <;> rfl), zb⟩
    ·replace c30 := Bool.eq_false_iff.mpr c30
     subst c30
     rw [if_neg (show ¬ (false = true) by decide)] at H
     by_cases c37 : t460.size + 1 ≤ 9223372036854775807
     ·rw [if_pos c37] at H
      have c37b0 := eq_true c37
      have c37b1 : decide (t460.size + 1 ≤ 9223372036854775807) = true := decide_eq_true c37
      try have c37b2 : (9223372036854775807 < t460.size + 1) = False := eq_false (Nat.not_lt.2 c37)
      replace H := tbe H
      obtain ⟨⟨t487, t488, t489, t490, t493, t494, t497⟩, A38, H⟩ := H
      dsimp only at H
      by_cases c39 : 1 + t460.size ≤ 9223372036854775807
      ·rw [if_pos c39] at H
       have c39b0 := eq_true c39
       have c39b1 : decide (1 + t460.size ≤ 9223372036854775807) = true := decide_eq_true c39
       try have c39b2 : (9223372036854775807 < 1 + t460.size) = False := eq_false (Nat.not_lt.2 c39)
       replace H := tbe H
       obtain ⟨⟨t499, t500, t501, t502, t505, t506, t509⟩, A40, H⟩ := H
       dsimp only at H
       replace H := tbe H
       obtain ⟨⟨t511, t512, t513, t514, t517, t518, t521⟩, A41, H⟩ := H
       dsimp only at H
       by_cases c42 : t497 = true
       ·subst c42
        rw [if_pos rfl] at H
        obtain rfl := Option.some.inj H
        go_wp2_with (first | ((with_reducible refine gate_callee (f := 19) rfl ?_); refine goesL_ (some 53) rfl rfl Tryd.func19 (by kernel_rfl) rfl #[.string (t460 ++ (⟨#[32]⟩ : ByteArray))] rfl tq ?_; (with_reducible refine (impl_RecordOf.calls (hE := ?sideE) kj5 (t460 ++ (⟨#[32]⟩ : ByteArray)) t487 t488 t489 t490 t493 t494 true _ A38.out).mono ?_); (case sideE => exact ErrOk.below (HE.out.sub (by decide)) zb); rintro e w43 ⟨v491, v495, rfl, ho0, ho1, hb⟩; have u_v491 := tsv Tryd.prog v491 ho0; have u_v495 := tsv Tryd.prog v495 ho1; refine ⟨_, rfl, ?_⟩; have HO492 := Aside0.mk (Kd.R_lower (Kd.R_new' (Kd.R_new' (Kd.R_new' (Kd.R_new' ho0 (Kd.R_lt (tR HO_473003.out))) (Kd.R_lt (tR HO_473005.out))) (Kd.R_lt (tR HO_485003.out))) (Kd.R_lt (tR HO_485005.out))) (below_size zb)); have HO496 := Aside0.mk (Kd.R_lower (Kd.R_new' (Kd.R_new' (Kd.R_new' (Kd.R_new' ho1 (Kd.R_lt (tR HO_473003.out))) (Kd.R_lt (tR HO_473005.out))) (Kd.R_lt (tR HO_485003.out))) (Kd.R_lt (tR HO_485005.out))) (below_size zb)); replace HO_473003 := Aside0.mk (Kd.R_mono (Kd.R_told (Kd.R_told (Kd.R_old (tR HO_473003.out) hb) (Kd.R_base ho0)) (Kd.R_base ho1)) (fun _ h_ => h_.1)); replace HO_473005 := Aside0.mk (Kd.R_mono (Kd.R_told (Kd.R_told (Kd.R_old (tR HO_473005.out) hb) (Kd.R_base ho0)) (Kd.R_base ho1)) (fun _ h_ => h_.1)); replace HO_485003 := Aside0.mk (Kd.R_mono (Kd.R_told (Kd.R_told (Kd.R_old (tR HO_485003.out) hb) (Kd.R_base ho0)) (Kd.R_base ho1)) (fun _ h_ => h_.1)); replace HO_485005 := Aside0.mk (Kd.R_mono (Kd.R_told (Kd.R_told (Kd.R_old (tR HO_485005.out) hb) (Kd.R_base ho0)) (Kd.R_base ho1)) (fun _ h_ => h_.1)); replace BK472 := tBb BK472 hb; replace BK484 := tBb BK484 hb; replace HB := tBs HB hb; (try clear hb); (try clear hb2); (try clear hk); (try clear hi); (try clear ho0); (try clear ho1)) | ((with_reducible refine gate_dst (N := 8) rfl ?_); refine box_event ?hg (N := 8) ?hd (cs := #[.int .i64 0, .int .i64 0, .bool false, .slice none 0 0, .bool false, .slice none 0 0]) (t := 25) ?hr ?_; (case hd => rfl); (case hg => rfl); (case hr => first | (go_simp; done) | (go_simp; rfl)); intro gb498 hg w44 hbox hb; replace HO_473003 := tRb HO_473003 hb; replace HO_473005 := tRb HO_473005 hb; replace HO_485003 := tRb HO_485003 hb; replace HO_485005 := tRb HO_485005 hb; replace HO492 := tRb HO492 hb; replace HO496 := tRb HO496 hb; have BK498 := Aside0.mk (hbox); have GW498 := tge HB hg; have GE498 := tge HB hg; replace HB := tBs HB hb; have NB472_498 := tlt BK472 hg; have NB498_472 := tgt BK472 hg; replace BK472 := tBb BK472 hb; have NB484_498 := tlt BK484 hg; have NB498_484 := tgt BK484 hg; replace BK484 := tBb BK484 hb; clear hb hbox hg; have hnb45 := NB498_472.out; have hnc45 := NB472_498.out; have hnb46 := NB498_484.out; have hnc46 := NB484_498.out; obtain ⟨hcz47_0, hcz47_1, hcz47_2, hcz47_3, hcz47_4, hcz47_5, hfz47_0, hfz47_1, hfz47_2, hfz47_3, hfz47_4, hfz47_5⟩ := cells6 BK498.out; obtain ⟨Ao48, co48, eo48⟩ := Kd.R_slice HO492.out; subst eo48; obtain ⟨Ao49, co49, eo49⟩ := Kd.R_slice HO496.out; subst eo49) | ((with_reducible refine gate_callee (f := 19) rfl ?_); refine goesL_ (some 59) rfl rfl Tryd.func19 (by kernel_rfl) rfl #[.string ((⟨#[32]⟩ : ByteArray) ++ t460)] rfl tq ?_; (with_reducible refine (impl_RecordOf.calls (hE := ?sideE) kj5 ((⟨#[32]⟩ : ByteArray) ++ t460) t499 t500 t501 t502 t505 t506 t509 _ A40.out).mono ?_); (case sideE => exact ErrOk.below (HE.out.sub (by decide)) zb); rintro e w50 ⟨v503, v507, rfl, ho0, ho1, hb⟩; have u_v503 := tsv Tryd.prog v503 ho0; have u_v507 := tsv Tryd.prog v507 ho1; refine ⟨_, rfl, ?_⟩; have HO504 := Aside0.mk (Kd.R_lower (Kd.R_new' (Kd.R_new' (Kd.R_new' (Kd.R_new' (Kd.R_new' (Kd.R_new' ho0 (Kd.R_lt (tRt HO_473003.out BK498.out))) (Kd.R_lt (tRt HO_473005.out BK498.out))) (Kd.R_lt (tRt HO_485003.out BK498.out))) (Kd.R_lt (tRt HO_485005.out BK498.out))) (Kd.R_lt (tRt HO492.out BK498.out))) (Kd.R_lt (tRt HO496.out BK498.out))) (below_size zb)); have HO508 := Aside0.mk (Kd.R_lower (Kd.R_new' (Kd.R_new' (Kd.R_new' (Kd.R_new' (Kd.R_new' (Kd.R_new' ho1 (Kd.R_lt (tRt HO_473003.out BK498.out))) (Kd.R_lt (tRt HO_473005.out BK498.out))) (Kd.R_lt (tRt HO_485003.out BK498.out))) (Kd.R_lt (tRt HO_485005.out BK498.out))) (Kd.R_lt (tRt HO492.out BK498.out))) (Kd.R_lt (tRt HO496.out BK498.out))) (below_size zb)); replace HO_473003 := Aside0.mk (Kd.R_mono (Kd.R_told (Kd.R_told (Kd.R_old (tRt HO_473003.out BK498.out) hb) (Kd.R_base ho0)) (Kd.R_base ho1)) (fun _ h_ => h_.1)); replace HO_473005 := Aside0.mk (Kd.R_mono (Kd.R_told (Kd.R_told (Kd.R_old (tRt HO_473005.out BK498.out) hb) (Kd.R_base ho0)) (Kd.R_base ho1)) (fun _ h_ => h_.1)); replace HO_485003 := Aside0.mk (Kd.R_mono (Kd.R_told (Kd.R_told (Kd.R_old (tRt HO_485003.out BK498.out) hb) (Kd.R_base ho0)) (Kd.R_base ho1)) (fun _ h_ => h_.1)); replace HO_485005 := Aside0.mk (Kd.R_mono (Kd.R_told (Kd.R_told (Kd.R_old (tRt HO_485005.out BK498.out) hb) (Kd.R_base ho0)) (Kd.R_base ho1)) (fun _ h_ => h_.1)); replace HO492 := Aside0.mk (Kd.R_mono (Kd.R_told (Kd.R_told (Kd.R_old (tRt HO492.out BK498.out) hb) (Kd.R_base ho0)) (Kd.R_base ho1)) (fun _ h_ => h_.1)); replace HO496 := Aside0.mk (Kd.R_mono (Kd.R_told (Kd.R_told (Kd.R_old (tRt HO496.out BK498.out) hb) (Kd.R_base ho0)) (Kd.R_base ho1)) (fun _ h_ => h_.1)); replace BK472 := tBb BK472 hb; replace BK484 := tBb BK484 hb; replace BK498 := tBp (o' := .cells #[.int .i64 t487, .int .i64 t488, .bool t489, .slice Ao48 t490.length co48, .bool t493, .slice Ao49 t494.length co49] 25 (0, 0)) BK498 hb; replace HB := tBs HB hb; (try clear hb); (try clear hb2); (try clear hk); (try clear hi); (try clear ho0); (try clear ho1)) | ((with_reducible refine gate_dst (N := 10) rfl ?_); refine box_event ?hg (N := 10) ?hd (cs := #[.int .i64 0, .int .i64 0, .bool false, .slice none 0 0, .bool false, .slice none 0 0]) (t := 25) ?hr ?_; (case hd => rfl); (case hg => rfl); (case hr => first | (go_simp; done) | (go_simp; rfl)); intro gb510 hg w51 hbox hb; replace HO_473003 := tRb HO_473003 hb; replace HO_473005 := tRb HO_473005 hb; replace HO_485003 := tRb HO_485003 hb; replace HO_485005 := tRb HO_485005 hb; replace HO492 := tRb HO492 hb; replace HO496 := tRb HO496 hb; replace HO504 := tRb HO504 hb; replace HO508 := tRb HO508 hb; have BK510 := Aside0.mk (hbox); have GW510 := tge HB hg; have GE510 := tge HB hg; replace HB := tBs HB hb; have NB472_510 := tlt BK472 hg; have NB510_472 := tgt BK472 hg; replace BK472 := tBb BK472 hb; have NB484_510 := tlt BK484 hg; have NB510_484 := tgt BK484 hg; replace BK484 := tBb BK484 hb; have NB498_510 := tlt BK498 hg; have NB510_498 := tgt BK498 hg; replace BK498 := tBb BK498 hb; clear hb hbox hg; have hnb52 := NB510_472.out; have hnc52 := NB472_510.out; have hnb53 := NB510_484.out; have hnc53 := NB484_510.out; have hnb54 := NB510_498.out; have hnc54 := NB498_510.out; obtain ⟨hcz55_0, hcz55_1, hcz55_2, hcz55_3, hcz55_4, hcz55_5, hfz55_0, hfz55_1, hfz55_2, hfz55_3, hfz55_4, hfz55_5⟩ := cells6 BK510.out; obtain ⟨Ao56, co56, eo56⟩ := Kd.R_slice HO504.out; subst eo56; obtain ⟨Ao57, co57, eo57⟩ := Kd.R_slice HO508.out; subst eo57) | ((with_reducible refine gate_callee (f := 19) rfl ?_); refine goesL_ (some 65) rfl rfl Tryd.func19 (by kernel_rfl) rfl #[.string ((⟨#[48]⟩ : ByteArray) ++ t460)] rfl tq ?_; (with_reducible refine (impl_RecordOf.calls (hE := ?sideE) kj5 ((⟨#[48]⟩ : ByteArray) ++ t460) t511 t512 t513 t514 t517 t518 t521 _ A41.out).mono ?_); (case sideE => exact ErrOk.below (HE.out.sub (by decide)) zb); rintro e w58 ⟨v515, v519, rfl, ho0, ho1, hb⟩; have u_v515 := tsv Tryd.prog v515 ho0; have u_v519 := tsv Tryd.prog v519 ho1; refine ⟨_, rfl, ?_⟩; have HO516 := Aside0.mk (Kd.R_lower (Kd.R_new' (Kd.R_new' (Kd.R_new' (Kd.R_new' (Kd.R_new' (Kd.R_new' (Kd.R_new' (Kd.R_new' ho0 (Kd.R_lt (tRt HO_473003.out BK510.out))) (Kd.R_lt (tRt HO_473005.out BK510.out))) (Kd.R_lt (tRt HO_485003.out BK510.out))) (Kd.R_lt (tRt HO_485005.out BK510.out))) (Kd.R_lt (tRt HO492.out BK510.out))) (Kd.R_lt (tRt HO496.out BK510.out))) (Kd.R_lt (tRt HO504.out BK510.out))) (Kd.R_lt (tRt HO508.out BK510.out))) (below_size zb)); have HO520 := Aside0.mk (Kd.R_lower (Kd.R_new' (Kd.R_new' (Kd.R_new' (Kd.R_new' (Kd.R_new' (Kd.R_new' (Kd.R_new' (Kd.R_new' ho1 (Kd.R_lt (tRt HO_473003.out BK510.out))) (Kd.R_lt (tRt HO_473005.out BK510.out))) (Kd.R_lt (tRt HO_485003.out BK510.out))) (Kd.R_lt (tRt HO_485005.out BK510.out))) (Kd.R_lt (tRt HO492.out BK510.out))) (Kd.R_lt (tRt HO496.out BK510.out))) (Kd.R_lt (tRt HO504.out BK510.out))) (Kd.R_lt (tRt HO508.out BK510.out))) (below_size zb)); replace HO_473003 := Aside0.mk (Kd.R_mono (Kd.R_told (Kd.R_told (Kd.R_old (tRt HO_473003.out BK510.out) hb) (Kd.R_base ho0)) (Kd.R_base ho1)) (fun _ h_ => h_.1)); replace HO_473005 := Aside0.mk (Kd.R_mono (Kd.R_told (Kd.R_told (Kd.R_old (tRt HO_473005.out BK510.out) hb) (Kd.R_base ho0)) (Kd.R_base ho1)) (fun _ h_ => h_.1)); replace HO_485003 := Aside0.mk (Kd.R_mono (Kd.R_told (Kd.R_told (Kd.R_old (tRt HO_485003.out BK510.out) hb) (Kd.R_base ho0)) (Kd.R_base ho1)) (fun _ h_ => h_.1)); replace HO_485005 := Aside0.mk (Kd.R_mono (Kd.R_told (Kd.R_told (Kd.R_old (tRt HO_485005.out BK510.out) hb) (Kd.R_base ho0)) (Kd.R_base ho1)) (fun _ h_ => h_.1)); replace HO492 := Aside0.mk (Kd.R_mono (Kd.R_told (Kd.R_told (Kd.R_old (tRt HO492.out BK510.out) hb) (Kd.R_base ho0)) (Kd.R_base ho1)) (fun _ h_ => h_.1)); replace HO496 := Aside0.mk (Kd.R_mono (Kd.R_told (Kd.R_told (Kd.R_old (tRt HO496.out BK510.out) hb) (Kd.R_base ho0)) (Kd.R_base ho1)) (fun _ h_ => h_.1)); replace HO504 := Aside0.mk (Kd.R_mono (Kd.R_told (Kd.R_told (Kd.R_old (tRt HO504.out BK510.out) hb) (Kd.R_base ho0)) (Kd.R_base ho1)) (fun _ h_ => h_.1)); replace HO508 := Aside0.mk (Kd.R_mono (Kd.R_told (Kd.R_told (Kd.R_old (tRt HO508.out BK510.out) hb) (Kd.R_base ho0)) (Kd.R_base ho1)) (fun _ h_ => h_.1)); replace BK472 := tBb BK472 hb; replace BK484 := tBb BK484 hb; replace BK498 := tBb BK498 hb; replace BK510 := tBp (o' := .cells #[.int .i64 t499, .int .i64 t500, .bool t501, .slice Ao56 t502.length co56, .bool t505, .slice Ao57 t506.length co57] 25 (0, 0)) BK510 hb; replace HB := tBs HB hb; (try clear hb); (try clear hb2); (try clear hk); (try clear hi); (try clear ho0); (try clear ho1)) | ((with_reducible refine gate_dst (N := 12) rfl ?_); refine box_event ?hg (N := 12) ?hd (cs := #[.int .i64 0, .int .i64 0, .bool false, .slice none 0 0, .bool false, .slice none 0 0]) (t := 25) ?hr ?_; (case hd => rfl); (case hg => rfl); (case hr => first | (go_simp; done) | (go_simp; rfl)); intro gb522 hg w59 hbox hb; replace HO_473003 := tRb HO_473003 hb; replace HO_473005 := tRb HO_473005 hb; replace HO_485003 := tRb HO_485003 hb; replace HO_485005 := tRb HO_485005 hb; replace HO492 := tRb HO492 hb; replace HO496 := tRb HO496 hb; replace HO504 := tRb HO504 hb; replace HO508 := tRb HO508 hb; replace HO516 := tRb HO516 hb; replace HO520 := tRb HO520 hb; have BK522 := Aside0.mk (hbox); have GW522 := tge HB hg; have GE522 := tge HB hg; replace HB := tBs HB hb; have NB472_522 := tlt BK472 hg; have NB522_472 := tgt BK472 hg; replace BK472 := tBb BK472 hb; have NB484_522 := tlt BK484 hg; have NB522_484 := tgt BK484 hg; replace BK484 := tBb BK484 hb; have NB498_522 := tlt BK498 hg; have NB522_498 := tgt BK498 hg; replace BK498 := tBb BK498 hb; have NB510_522 := tlt BK510 hg; have NB522_510 := tgt BK510 hg; replace BK510 := tBb BK510 hb; clear hb hbox hg; have hnb60 := NB522_472.out; have hnc60 := NB472_522.out; have hnb61 := NB522_484.out; have hnc61 := NB484_522.out; have hnb62 := NB522_498.out; have hnc62 := NB498_522.out; have hnb63 := NB522_510.out; have hnc63 := NB510_522.out; obtain ⟨hcz64_0, hcz64_1, hcz64_2, hcz64_3, hcz64_4, hcz64_5, hfz64_0, hfz64_1, hfz64_2, hfz64_3, hfz64_4, hfz64_5⟩ := cells6 BK522.out; obtain ⟨Ao65, co65, eo65⟩ := Kd.R_slice HO516.out; subst eo65; obtain ⟨Ao66, co66, eo66⟩ := Kd.R_slice HO520.out; subst eo66))
        all_goals go_ret
        all_goals exact ⟨by first | rfl | (simp [errW_none, errW_some] <;> rfl) | (simp [*, errW_none, errW_some] <;> rfl), zb⟩
       ·replace c42 := Bool.eq_false_iff.mpr c42
        subst c42
        rw [if_neg (show ¬ (false = true) by decide)] at H
        by_cases c67 : t509 = true
        ·subst c67
         rw [if_pos rfl] at H
         obtain rfl := Option.some.inj H
         go_wp2_with (first | ((with_reducible refine gate_callee (f := 19) rfl ?_); refine goesL_ (some 53) rfl rfl Tryd.func19 (by kernel_rfl) rfl #[.string (t460 ++ (⟨#[32]⟩ : ByteArray))] rfl tq ?_; (with_reducible refine (impl_RecordOf.calls (hE := ?sideE) kj5 (t460 ++ (⟨#[32]⟩ : ByteArray)) t487 t488 t489 t490 t493 t494 false _ A38.out).mono ?_); (case sideE => exact ErrOk.below (HE.out.sub (by decide)) zb); rintro e w68 ⟨v491, v495, rfl, ho0, ho1, hb⟩; have u_v491 := tsv Tryd.prog v491 ho0; have u_v495 := tsv Tryd.prog v495 ho1; refine ⟨_, rfl, ?_⟩; have HO492 := Aside0.mk (Kd.R_lower (Kd.R_new' (Kd.R_new' (Kd.R_new' (Kd.R_new' ho0 (Kd.R_lt (tR HO_473003.out))) (Kd.R_lt (tR HO_473005.out))) (Kd.R_lt (tR HO_485003.out))) (Kd.R_lt (tR HO_485005.out))) (below_size zb)); have HO496 := Aside0.mk (Kd.R_lower (Kd.R_new' (Kd.R_new' (Kd.R_new' (Kd.R_new' ho1 (Kd.R_lt (tR HO_473003.out))) (Kd.R_lt (tR HO_473005.out))) (Kd.R_lt (tR HO_485003.out))) (Kd.R_lt (tR HO_485005.out))) (below_size zb)); replace HO_473003 := Aside0.mk (Kd.R_mono (Kd.R_told (Kd.R_told (Kd.R_old (tR HO_473003.out) hb) (Kd.R_base ho0)) (Kd.R_base ho1)) (fun _ h_ => h_.1)); replace HO_473005 := Aside0.mk (Kd.R_mono (Kd.R_told (Kd.R_told (Kd.R_old (tR HO_473005.out) hb) (Kd.R_base ho0)) (Kd.R_base ho1)) (fun _ h_ => h_.1)); replace HO_485003 := Aside0.mk (Kd.R_mono (Kd.R_told (Kd.R_told (Kd.R_old (tR HO_485003.out) hb) (Kd.R_base ho0)) (Kd.R_base ho1)) (fun _ h_ => h_.1)); replace HO_485005 := Aside0.mk (Kd.R_mono (Kd.R_told (Kd.R_told (Kd.R_old (tR HO_485005.out) hb) (Kd.R_base ho0)) (Kd.R_base ho1)) (fun _ h_ => h_.1)); replace BK472 := tBb BK472 hb; replace BK484 := tBb BK484 hb; replace HB := tBs HB hb; (try clear hb); (try clear hb2); (try clear hk); (try clear hi); (try clear ho0); (try clear ho1)) | ((with_reducible refine gate_dst (N := 8) rfl ?_); refine box_event ?hg (N := 8) ?hd (cs := #[.int .i64 0, .int .i64 0, .bool false, .slice none 0 0, .bool false, .slice none 0 0]) (t := 25) ?hr ?_; (case hd => rfl); (case hg => rfl); (case hr => first | (go_simp; done) | (go_simp; rfl)); intro gb498 hg w69 hbox hb; replace HO_473003 := tRb HO_473003 hb; replace HO_473005 := tRb HO_473005 hb; replace HO_485003 := tRb HO_485003 hb; replace HO_485005 := tRb HO_485005 hb; replace HO492 := tRb HO492 hb; replace HO496 := tRb HO496 hb; have BK498 := Aside0.mk (hbox); have GW498 := tge HB hg; have GE498 := tge HB hg; replace HB := tBs HB hb; have NB472_498 := tlt BK472 hg; have NB498_472 := tgt BK472 hg; replace BK472 := tBb BK472 hb; have NB484_498 := tlt BK484 hg; have NB498_484 := tgt BK484 hg; replace BK484 := tBb BK484 hb; clear hb hbox hg; have hnb70 := NB498_472.out; have hnc70 := NB472_498.out; have hnb71 := NB498_484.out; have hnc71 := NB484_498.out; obtain ⟨hcz72_0, hcz72_1, hcz72_2, hcz72_3, hcz72_4, hcz72_5, hfz72_0, hfz72_1, hfz72_2, hfz72_3, hfz72_4, hfz72_5⟩ := cells6 BK498.out; obtain ⟨Ao73, co73, eo73⟩ := Kd.R_slice HO492.out; subst eo73; obtain ⟨Ao74, co74, eo74⟩ := Kd.R_slice HO496.out; subst eo74) | ((with_reducible refine gate_callee (f := 19) rfl ?_); refine goesL_ (some 59) rfl rfl Tryd.func19 (by kernel_rfl) rfl #[.string ((⟨#[32]⟩ : ByteArray) ++ t460)] rfl tq ?_; (with_reducible refine (impl_RecordOf.calls (hE := ?sideE) kj5 ((⟨#[32]⟩ : ByteArray) ++ t460) t499 t500 t501 t502 t505 t506 true _ A40.out).mono ?_); (case sideE => exact ErrOk.below (HE.out.sub (by decide)) zb); rintro e w75 ⟨v503, v507, rfl, ho0, ho1, hb⟩; have u_v503 := tsv Tryd.prog v503 ho0; have u_v507 := tsv Tryd.prog v507 ho1; refine ⟨_, rfl, ?_⟩; have HO504 := Aside0.mk (Kd.R_lower (Kd.R_new' (Kd.R_new' (Kd.R_new' (Kd.R_new' (Kd.R_new' (Kd.R_new' ho0 (Kd.R_lt (tRt HO_473003.out BK498.out))) (Kd.R_lt (tRt HO_473005.out BK498.out))) (Kd.R_lt (tRt HO_485003.out BK498.out))) (Kd.R_lt (tRt HO_485005.out BK498.out))) (Kd.R_lt (tRt HO492.out BK498.out))) (Kd.R_lt (tRt HO496.out BK498.out))) (below_size zb)); have HO508 := Aside0.mk (Kd.R_lower (Kd.R_new' (Kd.R_new' (Kd.R_new' (Kd.R_new' (Kd.R_new' (Kd.R_new' ho1 (Kd.R_lt (tRt HO_473003.out BK498.out))) (Kd.R_lt (tRt HO_473005.out BK498.out))) (Kd.R_lt (tRt HO_485003.out BK498.out))) (Kd.R_lt (tRt HO_485005.out BK498.out))) (Kd.R_lt (tRt HO492.out BK498.out))) (Kd.R_lt (tRt HO496.out BK498.out))) (below_size zb)); replace HO_473003 := Aside0.mk (Kd.R_mono (Kd.R_told (Kd.R_told (Kd.R_old (tRt HO_473003.out BK498.out) hb) (Kd.R_base ho0)) (Kd.R_base ho1)) (fun _ h_ => h_.1)); replace HO_473005 := Aside0.mk (Kd.R_mono (Kd.R_told (Kd.R_told (Kd.R_old (tRt HO_473005.out BK498.out) hb) (Kd.R_base ho0)) (Kd.R_base ho1)) (fun _ h_ => h_.1)); replace HO_485003 := Aside0.mk (Kd.R_mono (Kd.R_told (Kd.R_told (Kd.R_old (tRt HO_485003.out BK498.out) hb) (Kd.R_base ho0)) (Kd.R_base ho1)) (fun _ h_ => h_.1)); replace HO_485005 := Aside0.mk (Kd.R_mono (Kd.R_told (Kd.R_told (Kd.R_old (tRt HO_485005.out BK498.out) hb) (Kd.R_base ho0)) (Kd.R_base ho1)) (fun _ h_ => h_.1)); replace HO492 := Aside0.mk (Kd.R_mono (Kd.R_told (Kd.R_told (Kd.R_old (tRt HO492.out BK498.out) hb) (Kd.R_base ho0)) (Kd.R_base ho1)) (fun _ h_ => h_.1)); replace HO496 := Aside0.mk (Kd.R_mono (Kd.R_told (Kd.R_told (Kd.R_old (tRt HO496.out BK498.out) hb) (Kd.R_base ho0)) (Kd.R_base ho1)) (fun _ h_ => h_.1)); replace BK472 := tBb BK472 hb; replace BK484 := tBb BK484 hb; replace BK498 := tBp (o' := .cells #[.int .i64 t487, .int .i64 t488, .bool t489, .slice Ao73 t490.length co73, .bool t493, .slice Ao74 t494.length co74] 25 (0, 0)) BK498 hb; replace HB := tBs HB hb; (try clear hb); (try clear hb2); (try clear hk); (try clear hi); (try clear ho0); (try clear ho1)) | ((with_reducible refine gate_dst (N := 10) rfl ?_); refine box_event ?hg (N := 10) ?hd (cs := #[.int .i64 0, .int .i64 0, .bool false, .slice none 0 0, .bool false, .slice none 0 0]) (t := 25) ?hr ?_; (case hd => rfl); (case hg => rfl); (case hr => first | (go_simp; done) | (go_simp; rfl)); intro gb510 hg w76 hbox hb; replace HO_473003 := tRb HO_473003 hb; replace HO_473005 := tRb HO_473005 hb; replace HO_485003 := tRb HO_485003 hb; replace HO_485005 := tRb HO_485005 hb; replace HO492 := tRb HO492 hb; replace HO496 := tRb HO496 hb; replace HO504 := tRb HO504 hb; replace HO508 := tRb HO508 hb; have BK510 := Aside0.mk (hbox); have GW510 := tge HB hg; have GE510 := tge HB hg; replace HB := tBs HB hb; have NB472_510 := tlt BK472 hg; have NB510_472 := tgt BK472 hg; replace BK472 := tBb BK472 hb; have NB484_510 := tlt BK484 hg; have NB510_484 := tgt BK484 hg; replace BK484 := tBb BK484 hb; have NB498_510 := tlt BK498 hg; have NB510_498 := tgt BK498 hg; replace BK498 := tBb BK498 hb; clear hb hbox hg; have hnb77 := NB510_472.out; have hnc77 := NB472_510.out; have hnb78 := NB510_484.out; have hnc78 := NB484_510.out; have hnb79 := NB510_498.out; have hnc79 := NB498_510.out; obtain ⟨hcz80_0, hcz80_1, hcz80_2, hcz80_3, hcz80_4, hcz80_5, hfz80_0, hfz80_1, hfz80_2, hfz80_3, hfz80_4, hfz80_5⟩ := cells6 BK510.out; obtain ⟨Ao81, co81, eo81⟩ := Kd.R_slice HO504.out; subst eo81; obtain ⟨Ao82, co82, eo82⟩ := Kd.R_slice HO508.out; subst eo82) | ((with_reducible refine gate_callee (f := 19) rfl ?_); refine goesL_ (some 65) rfl rfl Tryd.func19 (by kernel_rfl) rfl #[.string ((⟨#[48]⟩ : ByteArray) ++ t460)] rfl tq ?_; (with_reducible refine (impl_RecordOf.calls (hE := ?sideE) kj5 ((⟨#[48]⟩ : ByteArray) ++ t460) t511 t512 t513 t514 t517 t518 t521 _ A41.out).mono ?_); (case sideE => exact ErrOk.below (HE.out.sub (by decide)) zb); rintro e w83 ⟨v515, v519, rfl, ho0, ho1, hb⟩; have u_v515 := tsv Tryd.prog v515 ho0; have u_v519 := tsv Tryd.prog v519 ho1; refine ⟨_, rfl, ?_⟩; have HO516 := Aside0.mk (Kd.R_lower (Kd.R_new' (Kd.R_new' (Kd.R_new' (Kd.R_new' (Kd.R_new' (Kd.R_new' (Kd.R_new' (Kd.R_new' ho0 (Kd.R_lt (tRt HO_473003.out BK510.out))) (Kd.R_lt (tRt HO_473005.out BK510.out))) (Kd.R_lt (tRt HO_485003.out BK510.out))) (Kd.R_lt (tRt HO_485005.out BK510.out))) (Kd.R_lt (tRt HO492.out BK510.out))) (Kd.R_lt (tRt HO496.out BK510.out))) (Kd.R_lt (tRt HO504.out BK510.out))) (Kd.R_lt (tRt HO508.out BK510.out))) (below_size zb)); have HO520 := Aside0.mk (Kd.R_lower (Kd.R_new' (Kd.R_new' (Kd.R_new' (Kd.R_new' (Kd.R_new' (Kd.R_new' (Kd.R_new' (Kd.R_new' ho1 (Kd.R_lt (tRt HO_473003.out BK510.out))) (Kd.R_lt (tRt HO_473005.out BK510.out))) (Kd.R_lt (tRt HO_485003.out BK510.out))) (Kd.R_lt (tRt HO_485005.out BK510.out))) (Kd.R_lt (tRt HO492.out BK510.out))) (Kd.R_lt (tRt HO496.out BK510.out))) (Kd.R_lt (tRt HO504.out BK510.out))) (Kd.R_lt (tRt HO508.out BK510.out))) (below_size zb)); replace HO_473003 := Aside0.mk (Kd.R_mono (Kd.R_told (Kd.R_told (Kd.R_old (tRt HO_473003.out BK510.out) hb) (Kd.R_base ho0)) (Kd.R_base ho1)) (fun _ h_ => h_.1)); replace HO_473005 := Aside0.mk (Kd.R_mono (Kd.R_told (Kd.R_told (Kd.R_old (tRt HO_473005.out BK510.out) hb) (Kd.R_base ho0)) (Kd.R_base ho1)) (fun _ h_ => h_.1)); replace HO_485003 := Aside0.mk (Kd.R_mono (Kd.R_told (Kd.R_told (Kd.R_old (tRt HO_485003.out BK510.out) hb) (Kd.R_base ho0)) (Kd.R_base ho1)) (fun _ h_ => h_.1)); replace HO_485005 := Aside0.mk (Kd.R_mono (Kd.R_told (Kd.R_told (Kd.R_old (tRt HO_485005.out BK510.out) hb) (Kd.R_base ho0)) (Kd.R_base ho1)) (fun _ h_ => h_.1)); replace HO492 := Aside0.mk (Kd.R_mono (Kd.R_told (Kd.R_told (Kd.R_old (tRt HO492.out BK510.out) hb) (Kd.R_base ho0)) (Kd.R_base ho1)) (fun _ h_ => h_.1)); replace HO496 := Aside0.mk (Kd.R_mono (Kd.R_told (Kd.R_told (Kd.R_old (tRt HO496.out BK510.out) hb) (Kd.R_base ho0)) (Kd.R_base ho1)) (fun _ h_ => h_.1)); replace HO504 := Aside0.mk (Kd.R_mono (Kd.R_told (Kd.R_told (Kd.R_old (tRt HO504.out BK510.out) hb) (Kd.R_base ho0)) (Kd.R_base ho1)) (fun _ h_ => h_.1)); replace HO508 := Aside0.mk (Kd.R_mono (Kd.R_told (Kd.R_told (Kd.R_old (tRt HO508.out BK510.out) hb) (Kd.R_base ho0)) (Kd.R_base ho1)) (fun _ h_ => h_.1)); replace BK472 := tBb BK472 hb; replace BK484 := tBb BK484 hb; replace BK498 := tBb BK498 hb; replace BK510 := tBp (o' := .cells #[.int .i64 t499, .int .i64 t500, .bool t501, .slice Ao81 t502.length co81, .bool t505, .slice Ao82 t506.length co82] 25 (0, 0)) BK510 hb; replace HB := tBs HB hb; (try clear hb); (try clear hb2); (try clear hk); (try clear hi); (try clear ho0); (try clear ho1)) | ((with_reducible refine gate_dst (N := 12) rfl ?_); refine box_event ?hg (N := 12) ?hd (cs := #[.int .i64 0, .int .i64 0, .bool false, .slice none 0 0, .bool false, .slice none 0 0]) (t := 25) ?hr ?_; (case hd => rfl); (case hg => rfl); (case hr => first | (go_simp; done) | (go_simp; rfl)); intro gb522 hg w84 hbox hb; replace HO_473003 := tRb HO_473003 hb; replace HO_473005 := tRb HO_473005 hb; replace HO_485003 := tRb HO_485003 hb; replace HO_485005 := tRb HO_485005 hb; replace HO492 := tRb HO492 hb; replace HO496 := tRb HO496 hb; replace HO504 := tRb HO504 hb; replace HO508 := tRb HO508 hb; replace HO516 := tRb HO516 hb; replace HO520 := tRb HO520 hb; have BK522 := Aside0.mk (hbox); have GW522 := tge HB hg; have GE522 := tge HB hg; replace HB := tBs HB hb; have NB472_522 := tlt BK472 hg; have NB522_472 := tgt BK472 hg; replace BK472 := tBb BK472 hb; have NB484_522 := tlt BK484 hg; have NB522_484 := tgt BK484 hg; replace BK484 := tBb BK484 hb; have NB498_522 := tlt BK498 hg; have NB522_498 := tgt BK498 hg; replace BK498 := tBb BK498 hb; have NB510_522 := tlt BK510 hg; have NB522_510 := tgt BK510 hg; replace BK510 := tBb BK510 hb; clear hb hbox hg; have hnb85 := NB522_472.out; have hnc85 := NB472_522.out; have hnb86 := NB522_484.out; have hnc86 := NB484_522.out; have hnb87 := NB522_498.out; have hnc87 := NB498_522.out; have hnb88 := NB522_510.out; have hnc88 := NB510_522.out; obtain ⟨hcz89_0, hcz89_1, hcz89_2, hcz89_3, hcz89_4, hcz89_5, hfz89_0, hfz89_1, hfz89_2, hfz89_3, hfz89_4, hfz89_5⟩ := cells6 BK522.out; obtain ⟨Ao90, co90, eo90⟩ := Kd.R_slice HO516.out; subst eo90; obtain ⟨Ao91, co91, eo91⟩ := Kd.R_slice HO520.out; subst eo91))
         all_goals go_ret
         all_goals exact ⟨by first | rfl | (simp [errW_none, errW_some] <;> rfl) | (simp [*, errW_none, errW_some] <;> rfl), zb⟩
        ·replace c67 := Bool.eq_false_iff.mpr c67
         subst c67
         rw [if_neg (show ¬ (false = true) by decide)] at H
         obtain rfl := Option.some.inj H
         go_wp2_with (first | ((with_reducible refine gate_callee (f := 19) rfl ?_); refine goesL_ (some 53) rfl rfl Tryd.func19 (by kernel_rfl) rfl #[.string (t460 ++ (⟨#[32]⟩ : ByteArray))] rfl tq ?_; (with_reducible refine (impl_RecordOf.calls (hE := ?sideE) kj5 (t460 ++ (⟨#[32]⟩ : ByteArray)) t487 t488 t489 t490 t493 t494 false _ A38.out).mono ?_); (case sideE => exact ErrOk.below (HE.out.sub (by decide)) zb); rintro e w92 ⟨v491, v495, rfl, ho0, ho1, hb⟩; have u_v491 := tsv Tryd.prog v491 ho0; have u_v495 := tsv Tryd.prog v495 ho1; refine ⟨_, rfl, ?_⟩; have HO492 := Aside0.mk (Kd.R_lower (Kd.R_new' (Kd.R_new' (Kd.R_new' (Kd.R_new' ho0 (Kd.R_lt (tR HO_473003.out))) (Kd.R_lt (tR HO_473005.out))) (Kd.R_lt (tR HO_485003.out))) (Kd.R_lt (tR HO_485005.out))) (below_size zb)); have HO496 := Aside0.mk (Kd.R_lower (Kd.R_new' (Kd.R_new' (Kd.R_new' (Kd.R_new' ho1 (Kd.R_lt (tR HO_473003.out))) (Kd.R_lt (tR HO_473005.out))) (Kd.R_lt (tR HO_485003.out))) (Kd.R_lt (tR HO_485005.out))) (below_size zb)); replace HO_473003 := Aside0.mk (Kd.R_mono (Kd.R_told (Kd.R_told (Kd.R_old (tR HO_473003.out) hb) (Kd.R_base ho0)) (Kd.R_base ho1)) (fun _ h_ => h_.1)); replace HO_473005 := Aside0.mk (Kd.R_mono (Kd.R_told (Kd.R_told (Kd.R_old (tR HO_473005.out) hb) (Kd.R_base ho0)) (Kd.R_base ho1)) (fun _ h_ => h_.1)); replace HO_485003 := Aside0.mk (Kd.R_mono (Kd.R_told (Kd.R_told (Kd.R_old (tR HO_485003.out) hb) (Kd.R_base ho0)) (Kd.R_base ho1)) (fun _ h_ => h_.1)); replace HO_485005 := Aside0.mk (Kd.R_mono (Kd.R_told (Kd.R_told (Kd.R_old (tR HO_485005.out) hb) (Kd.R_base ho0)) (Kd.R_base ho1)) (fun _ h_ => h_.1)); replace BK472 := tBb BK472 hb; replace BK484 := tBb BK484 hb; replace HB := tBs HB hb; (try clear hb); (try clear hb2); (try clear hk); (try clear hi); (try clear ho0); (try clear ho1)) | ((with_reducible refine gate_dst (N := 8) rfl ?_); refine box_event ?hg (N := 8) ?hd (cs := #[.int .i64 0, .int .i64 0, .bool false, .slice none 0 0, .bool false, .slice none 0 0]) (t := 25) ?hr ?_; (case hd => rfl); (case hg => rfl); (case hr => first | (go_simp; done) | (go_simp; rfl)); intro gb498 hg w93 hbox hb; replace HO_473003 := tRb HO_473003 hb; replace HO_473005 := tRb HO_473005 hb; replace HO_485003 := tRb HO_485003 hb; replace HO_485005 := tRb HO_485005 hb; replace HO492 := tRb HO492 hb; replace HO496 := tRb HO496 hb; have BK498 := Aside0.mk (hbox); have GW498 := tge HB hg; have GE498 := tge HB hg; replace HB := tBs HB hb; have NB472_498 := tlt BK472 hg; have NB498_472 := tgt BK472 hg; replace BK472 := tBb BK472 hb; have NB484_498 := tlt BK484 hg; have NB498_484 := tgt BK484 hg; replace BK484 := tBb BK484 hb; clear hb hbox hg; have hnb94 := NB498_472.out; have hnc94 := NB472_498.out; have hnb95 := NB498_484.out; have hnc95 := NB484_498.out; obtain ⟨hcz96_0, hcz96_1, hcz96_2, hcz96_3, hcz96_4, hcz96_5, hfz96_0, hfz96_1, hfz96_2, hfz96_3, hfz96_4, hfz96_5⟩ := cells6 BK498.out; obtain ⟨Ao97, co97, eo97⟩ := Kd.R_slice HO492.out; subst eo97; obtain ⟨Ao98, co98, eo98⟩ := Kd.R_slice HO496.out; subst eo98) | ((with_reducible refine gate_callee (f := 19) rfl ?_); refine goesL_ (some 59) rfl rfl Tryd.func19 (by kernel_rfl) rfl #[.string ((⟨#[32]⟩ : ByteArray) ++ t460)] rfl tq ?_; (with_reducible refine (impl_RecordOf.calls (hE := ?sideE) kj5 ((⟨#[32]⟩ : ByteArray) ++ t460) t499 t500 t501 t502 t505 t506 false _ A40.out).mono ?_); (case sideE => exact ErrOk.below (HE.out.sub (by decide)) zb); rintro e w99 ⟨v503, v507, rfl, ho0, ho1, hb⟩; have u_v503 := tsv Tryd.prog v503 ho0; have u_v507 := tsv Tryd.prog v507 ho1; refine ⟨_, rfl, ?_⟩; have HO504 := Aside0.mk (Kd.R_lower (Kd.R_new' (Kd.R_new' (Kd.R_new' (Kd.R_new' (Kd.R_new' (Kd.R_new' ho0 (Kd.R_lt (tRt HO_473003.out BK498.out))) (Kd.R_lt (tRt HO_473005.out BK498.out))) (Kd.R_lt (tRt HO_485003.out BK498.out))) (Kd.R_lt (tRt HO_485005.out BK498.out))) (Kd.R_lt (tRt HO492.out BK498.out))) (Kd.R_lt (tRt HO496.out BK498.out))) (below_size zb)); have HO508 := Aside0.mk (Kd.R_lower (Kd.R_new' (Kd.R_new' (Kd.R_new' (Kd.R_new' (Kd.R_new' (Kd.R_new' ho1 (Kd.R_lt (tRt HO_473003.out BK498.out))) (Kd.R_lt (tRt HO_473005.out BK498.out))) (Kd.R_lt (tRt HO_485003.out BK498.out))) (Kd.R_lt (tRt HO_485005.out BK498.out))) (Kd.R_lt (tRt HO492.out BK498.out))) (Kd.R_lt (tRt HO496.out BK498.out))) (below_size zb)); replace HO_473003 := Aside0.mk (Kd.R_mono (Kd.R_told (Kd.R_told (Kd.R_old (tRt HO_473003.out BK498.out) hb) (Kd.R_base ho0)) (Kd.R_base ho1)) (fun _ h_ => h_.1)); replace HO_473005 := Aside0.mk (Kd.R_mono (Kd.R_told (Kd.R_told (Kd.R_old (tRt HO_473005.out BK498.out) hb) (Kd.R_base ho0)) (Kd.R_base ho1)) (fun _ h_ => h_.1)); replace HO_485003 := Aside0.mk (Kd.R_mono (Kd.R_told (Kd.R_told (Kd.R_old (tRt HO_485003.out BK498.out) hb) (Kd.R_base ho0)) (Kd.R_base ho1)) (fun _ h_ => h_.1)); replace HO_485005 := Aside0.mk (Kd.R_mono (Kd.R_told (Kd.R_told (Kd.R_old (tRt HO_485005.out BK498.out) hb) (Kd.R_base ho0)) (Kd.R_base ho1)) (fun _ h_ => h_.1)); replace HO492 := Aside0.mk (Kd.R_mono (Kd.R_told (Kd.R_told (Kd.R_old (tRt HO492.out BK498.out) hb) (Kd.R_base ho0)) (Kd.R_base ho1)) (fun _ h_ => h_.1)); replace HO496 := Aside0.mk (Kd.R_mono (Kd.R_told (Kd.R_told (Kd.R_old (tRt HO496.out BK498.out) hb) (Kd.R_base ho0)) (Kd.R_base ho1)) (fun _ h_ => h_.1)); replace BK472 := tBb BK472 hb; replace BK484 := tBb BK484 hb; replace BK498 := tBp (o' := .cells #[.int .i64 t487, .int .i64 t488, .bool t489, .slice Ao97 t490.length co97, .bool t493, .slice Ao98 t494.length co98] 25 (0, 0)) BK498 hb; replace HB := tBs HB hb; (try clear hb); (try clear hb2); (try clear hk); (try clear hi); (try clear ho0); (try clear ho1)) | ((with_reducible refine gate_dst (N := 10) rfl ?_); refine box_event ?hg (N := 10) ?hd (cs := #[.int .i64 0, .int .i64 0, .bool false, .slice none 0 0, .bool false, .slice none 0 0]) (t := 25) ?hr ?_; (case hd => rfl); (case hg => rfl); (case hr => first | (go_simp; done) | (go_simp; rfl)); intro gb510 hg w100 hbox hb; replace HO_473003 := tRb HO_473003 hb; replace HO_473005 := tRb HO_473005 hb; replace HO_485003 := tRb HO_485003 hb; replace HO_485005 := tRb HO_485005 hb; replace HO492 := tRb HO492 hb; replace HO496 := tRb HO496 hb; replace HO504 := tRb HO504 hb; replace HO508 := tRb HO508 hb; have BK510 := Aside0.mk (hbox); have GW510 := tge HB hg; have GE510 := tge HB hg; replace HB := tBs HB hb; have NB472_510 := tlt BK472 hg; have NB510_472 := tgt BK472 hg; replace BK472 := tBb BK472 hb; have NB484_510 := tlt BK484 hg; have NB510_484 := tgt BK484 hg; replace BK484 := tBb BK484 hb; have NB498_510 := tlt BK498 hg; have NB510_498 := tgt BK498 hg; replace BK498 := tBb BK498 hb; clear hb hbox hg; have hnb101 := NB510_472.out; have hnc101 := NB472_510.out; have hnb102 := NB510_484.out; have hnc102 := NB484_510.out; have hnb103 := NB510_498.out; have hnc103 := NB498_510.out; obtain ⟨hcz104_0, hcz104_1, hcz104_2, hcz104_3, hcz104_4, hcz104_5, hfz104_0, hfz104_1, hfz104_2, hfz104_3, hfz104_4, hfz104_5⟩ := cells6 BK510.out; obtain ⟨Ao105, co105, eo105⟩ := Kd.R_slice HO504.out; subst eo105; obtain ⟨Ao106, co106, eo106⟩ := Kd.R_slice HO508.out; subst eo106) | ((with_reducible refine gate_callee (f := 19) rfl ?_); refine goesL_ (some 65) rfl rfl Tryd.func19 (by kernel_rfl) rfl #[.string ((⟨#[48]⟩ : ByteArray) ++ t460)] rfl tq ?_; (with_reducible refine (impl_RecordOf.calls (hE := ?sideE) kj5 ((⟨#[48]⟩ : ByteArray) ++ t460) t511 t512 t513 t514 t517 t518 t521 _ A41.out).mono ?_); (case sideE => exact ErrOk.below (HE.out.sub (by decide)) zb); rintro e w107 ⟨v515, v519, rfl, ho0, ho1, hb⟩; have u_v515 := tsv Tryd.prog v515 ho0; have u_v519 := tsv Tryd.prog v519 ho1; refine ⟨_, rfl, ?_⟩; have HO516 := Aside0.mk (Kd.R_lower (Kd.R_new' (Kd.R_new' (Kd.R_new' (Kd.R_new' (Kd.R_new' (Kd.R_new' (Kd.R_new' (Kd.R_new' ho0 (Kd.R_lt (tRt HO_473003.out BK510.out))) (Kd.R_lt (tRt HO_473005.out BK510.out))) (Kd.R_lt (tRt HO_485003.out BK510.out))) (Kd.R_lt (tRt HO_485005.out BK510.out))) (Kd.R_lt (tRt HO492.out BK510.out))) (Kd.R_lt (tRt HO496.out BK510.out))) (Kd.R_lt (tRt HO504.out BK510.out))) (Kd.R_lt (tRt HO508.out BK510.out))) (below_size zb)); have HO520 := Aside0.mk (Kd.R_lower (Kd.R_new' (Kd.R_new' (Kd.R_new' (Kd.R_new' (Kd.R_new' (Kd.R_new' (Kd.R_new' (Kd.R_new' ho1 (Kd.R_lt (tRt HO_473003.out BK510.out))) (Kd.R_lt (tRt HO_473005.out BK510.out))) (Kd.R_lt (tRt HO_485003.out BK510.out))) (Kd.R_lt (tRt HO_485005.out BK510.out))) (Kd.R_lt (tRt HO492.out BK510.out))) (Kd.R_lt (tRt HO496.out BK510.out))) (Kd.R_lt (tRt HO504.out BK510.out))) (Kd.R_lt (tRt HO508.out BK510.out))) (below_size zb)); replace HO_473003 := Aside0.mk (Kd.R_mono (Kd.R_told (Kd.R_told (Kd.R_old (tRt HO_473003.out BK510.out) hb) (Kd.R_base ho0)) (Kd.R_base ho1)) (fun _ h_ => h_.1)); replace HO_473005 := Aside0.mk (Kd.R_mono (Kd.R_told (Kd.R_told (Kd.R_old (tRt HO_473005.out BK510.out) hb) (Kd.R_base ho0)) (Kd.R_base ho1)) (fun _ h_ => h_.1)); replace HO_485003 := Aside0.mk (Kd.R_mono (Kd.R_told (Kd.R_told (Kd.R_old (tRt HO_485003.out BK510.out) hb) (Kd.R_base ho0)) (Kd.R_base ho1)) (fun _ h_ => h_.1)); replace HO_485005 := Aside0.mk (Kd.R_mono (Kd.R_told (Kd.R_told (Kd.R_old (tRt HO_485005.out BK510.out) hb) (Kd.R_base ho0)) (Kd.R_base ho1)) (fun _ h_ => h_.1)); replace HO492 := Aside0.mk (Kd.R_mono (Kd.R_told (Kd.R_told (Kd.R_old (tRt HO492.out BK510.out) hb) (Kd.R_base ho0)) (Kd.R_base ho1)) (fun _ h_ => h_.1)); replace HO496 := Aside0.mk (Kd.R_mono (Kd.R_told (Kd.R_told (Kd.R_old (tRt HO496.out BK510.out) hb) (Kd.R_base ho0)) (Kd.R_base ho1)) (fun _ h_ => h_.1)); replace HO504 := Aside0.mk (Kd.R_mono (Kd.R_told (Kd.R_told (Kd.R_old (tRt HO504.out BK510.out) hb) (Kd.R_base ho0)) (Kd.R_base ho1)) (fun _ h_ => h_.1)); replace HO508 := Aside0.mk (Kd.R_mono (Kd.R_told (Kd.R_told (Kd.R_old (tRt HO508.out BK510.out) hb) (Kd.R_base ho0)) (Kd.R_base ho1)) (fun _ h_ => h_.1)); replace BK472 := tBb BK472 hb; replace BK484 := tBb BK484 hb; replace BK498 := tBb BK498 hb; replace BK510 := tBp (o' := .cells #[.int .i64 t499, .int .i64 t500, .bool t501, .slice Ao105 t502.length co105, .bool t505, .slice Ao106 t506.length co106] 25 (0, 0)) BK510 hb; replace HB := tBs HB hb; (try clear hb); (try clear hb2); (try clear hk); (try clear hi); (try clear ho0); (try clear ho1)) | ((with_reducible refine gate_dst (N := 12) rfl ?_); refine box_event ?hg (N := 12) ?hd (cs := #[.int .i64 0, .int .i64 0, .bool false, .slice none 0 0, .bool false, .slice none 0 0]) (t := 25) ?hr ?_; (case hd => rfl); (case hg => rfl); (case hr => first | (go_simp; done) | (go_simp; rfl)); intro gb522 hg w108 hbox hb; replace HO_473003 := tRb HO_473003 hb; replace HO_473005 := tRb HO_473005 hb; replace HO_485003 := tRb HO_485003 hb; replace HO_485005 := tRb HO_485005 hb; replace HO492 := tRb HO492 hb; replace HO496 := tRb HO496 hb; replace HO504 := tRb HO504 hb; replace HO508 := tRb HO508 hb; replace HO516 := tRb HO516 hb; replace HO520 := tRb HO520 hb; have BK522 := Aside0.mk (hbox); have GW522 := tge HB hg; have GE522 := tge HB hg; replace HB := tBs HB hb; have NB472_522 := tlt BK472 hg; have NB522_472 := tgt BK472 hg; replace BK472 := tBb BK472 hb; have NB484_522 := tlt BK484 hg; have NB522_484 := tgt BK484 hg; replace BK484 := tBb BK484 hb; have NB498_522 := tlt BK498 hg; have NB522_498 := tgt BK498 hg; replace BK498 := tBb BK498 hb; have NB510_522 := tlt BK510 hg; have NB522_510 := tgt BK510 hg; replace BK510 := tBb BK510 hb; clear hb hbox hg; have hnb109 := NB522_472.out; have hnc109 := NB472_522.out; have hnb110 := NB522_484.out; have hnc110 := NB484_522.out; have hnb111 := NB522_498.out; have hnc111 := NB498_522.out; have hnb112 := NB522_510.out; have hnc112 := NB510_522.out; obtain ⟨hcz113_0, hcz113_1, hcz113_2, hcz113_3, hcz113_4, hcz113_5, hfz113_0, hfz113_1, hfz113_2, hfz113_3, hfz113_4, hfz113_5⟩ := cells6 BK522.out; obtain ⟨Ao114, co114, eo114⟩ := Kd.R_slice HO516.out; subst eo114; obtain ⟨Ao115, co115, eo115⟩ := Kd.R_slice HO520.out; subst eo115))
         all_goals go_ret
         all_goals exact ⟨by first | rfl | (simp [errW_none, errW_some] <;> rfl) | (simp [*, errW_none, errW_some] <;> rfl), zb⟩
      ·rw [if_neg c39] at H
       exact absurd H (by simp)
     ·rw [if_neg c37] at H
      exact absurd H (by simp)

end Go.Proofs.YteoicjlhkaljbaaDoor.G

namespace Go.Proofs.YteoicjlhkaljbaaDoor.Rd
open Go.RowKit Go.Proofs.YteoicjlhkaljbaaDoorW.PrintWords
set_option linter.unusedVariables false
section
variable {H : Type} {enc : TypeId × Value → H} {P : Program} {w : World} {base : Nat} {spare : Nat → Bool} {held : Bool}
/-- What a reading of type t gives: a value of the kind, and what is known of it. -/
def Opens (enc : TypeId × Value → H) (P : Program) (w : World) (base : Nat) (spare : Nat → Bool) (held : Bool) {α : Type} (t : TypeId) (d : Kd α) (ok : α → Prop) : Prop :=
  P.cellsOf t = d.sz ∧ ∀ fuel cs x, DataW.trod enc P w base spare held fuel t cs = some x → ∃ v, d.K w v cs ∧ ok v
theorem Opens.imp_ {α : Type} {t : TypeId} {d : Kd α} {ok ok' : α → Prop} (h : Opens enc P w base spare held t d ok) (hi : ∀ v, ok v → ok' v) : Opens enc P w base spare held t d ok' :=
  ⟨h.1, fun fuel cs x hx => by
    obtain ⟨v, hk, ho⟩ := h.2 fuel cs x hx
    exact ⟨v, hk, hi v ho⟩⟩
theorem opens_int {t : TypeId} {k : IntKind} (ht : P.underlying t = some (.int k)) (hc : P.cellsOf t = 1) : Opens enc P w base spare held t (Kd.int k) (fun n => (Lit.int k n).wf = true) := by
  refine ⟨hc, fun fuel cs x h => ?_⟩
  obtain ⟨n, rfl, _, hw⟩ := DataW.trod_int ht h
  exact ⟨n, rfl, hw⟩
theorem cells_len {base : Nat} {a : Addr} {n : Nat} {cs : List Value} (h : w.cells? base a n = some cs) : cs.length = n ∧ ∀ i u, cs[i]? = some u → w.cell? (a.add i) = some u := by
  unfold World.cells? at h
  split at h
  · rename_i hb
    refine ⟨by simpa using mapM_some_length h, fun i u hu => ?_⟩
    have hi : i < n := by
      have := (List.getElem?_eq_some_iff.1 hu).1
      have h2 : cs.length = n := by simpa using mapM_some_length h
      omega
    have := mapM_some_get h i i (by simp [hi])
    rw [hu] at this
    exact this
  · simp at h
theorem opens_row {α : Type} {t e : TypeId} {d : Kd α} {ok : α → Prop} (ht : P.underlying t = some (.slice e)) (hd : Opens enc P w base spare held e d ok) {fuel : Nat} {cs : List Value} {x : DataW H × List MemPlace}
    (h : DataW.trod enc P w base spare held fuel t cs = some x) : ∃ (A : Option Addr) (c : Nat) (xs : List α), cs = [.slice A xs.length c] ∧ xs.length ≤ c ∧ c ≤ maxLen ∧ d.C w A xs.length xs ∧ ∀ y ∈ xs, ok y := by
  rcases Go.Deep.open_slice ht h with ⟨rfl, _⟩ | ⟨a, len, cap, m, n, D, Pl, rfl, hb, hl, hm, hmm, _, hel⟩
  · exact ⟨none, 0, [], rfl, Nat.le_refl _, by unfold maxLen; omega, ⟨rfl, by simp, fun h0 => absurd h0 (by simp)⟩, by simp⟩
  have hlm : len ≤ m := by rw [hmm]; split <;> omega
  have hx : ∀ i, i < len → ∃ y : α, ok y ∧ ∃ c, c.length = d.sz ∧ d.K w y c ∧ ∀ j u, c[j]? = some u → w.cell? (a.add (i * d.sz + j)) = some u := by
    intro i hi
    obtain ⟨cs', h1, h2⟩ := hel i (by omega)
    obtain ⟨y, hk, ho⟩ := hd.2 _ _ _ h2
    obtain ⟨hl', hc'⟩ := cells_len h1
    refine ⟨y, ho, cs', by rw [hl', hd.1], hk, fun j u hu => ?_⟩
    have := hc' j u hu
    rw [Go.Deep.add_add, hd.1] at this
    exact this
  rcases Nat.eq_zero_or_pos len with h0 | h0
  · subst h0
    exact ⟨some a, cap, [], rfl, Nat.zero_le _, hm, ⟨rfl, by simp, fun h1 => absurd h1 (by simp)⟩, by simp⟩
  obtain ⟨y0, _⟩ := hx 0 h0
  haveI : Inhabited α := ⟨y0⟩
  obtain ⟨g, hg⟩ := Go.Deep.choose_lt hx
  have hlen : ((List.range len).map g).length = len := by simp
  refine ⟨some a, cap, (List.range len).map g, by rw [hlen], by rw [hlen]; exact hl, hm, ⟨rfl, by rw [hlen]; unfold maxLen at hm; omega, fun _ => ⟨a, rfl, fun j p hj => ?_⟩⟩, fun y hy => ?_⟩
  · have hj' : j < len := by
      have := (List.getElem?_eq_some_iff.1 hj).1
      omega
    rw [List.getElem?_map, List.getElem?_range hj'] at hj
    simp at hj
    subst hj
    obtain ⟨_, c, hc1, hc2, hc3⟩ := hg j hj'
    exact ⟨c, hc1, hc2, hc3⟩
  · obtain ⟨i, hi, rfl⟩ := List.mem_map.1 hy
    exact (hg i (List.mem_range.1 hi)).1
end
end Go.Proofs.YteoicjlhkaljbaaDoor.Rd

namespace Go.Proofs.YteoicjlhkaljbaaDoor.OFnRecordOfBlank
open Go.RowKit Go.Proofs.YteoicjlhkaljbaaDoorW.PrintWords Go.Proofs.YteoicjlhkaljbaaDoor.G
set_option linter.unusedVariables false
def Pure : Prop := ∀ (l0 : List Int), l0.length ≤ maxLen → (∀ y ∈ l0, (Lit.int .u8 y).wf = true) → ∃ k, laws_FnRecordOfBlank.f k l0 = some true
end Go.Proofs.YteoicjlhkaljbaaDoor.OFnRecordOfBlank

namespace Go.Proofs.YteoicjlhkaljbaaDoor.Pu
open Go.RowKit Go.Proofs.YteoicjlhkaljbaaDoorW.PrintWords Go.Proofs.YteoicjlhkaljbaaDoorW.PrintLast Go.Proofs.YteoicjlhkaljbaaDoor.G
set_option linter.unusedVariables false
set_option linter.unusedSimpArgs false
/-- A loop that asks each element, and stops at the first that says no. -/
theorem ev_all {α : Type} (l : List α) (hl : l.length ≤ 9223372036854775807) (L : Nat → Int → Option Bool) (F : Nat → Nat → Option Bool) (p : α → Bool) (last : Bool)
    (hend : ∀ k, L (k + 1) (l.length : Int) = some last)
    (hstep : ∀ k (i : Nat), i < l.length → L (k + 1) (i : Int) = (F k i).bind fun t => if t = true then L k (wrap64 ((i : Int) + 1)) else some false)
    (hF : ∀ i (h : i < l.length), Ev (fun k => F k i) (p l[i])) : ∀ d i, l.length - i = d → i ≤ l.length → Ev (fun k => L k (i : Int)) ((l.drop i).all p && last) := by
  intro d
  induction d with
  | zero =>
    intro i hi hle
    obtain rfl : i = l.length := by omega
    refine Ev.step (fun k => hend k) ?_
    rw [List.drop_length]
    exact Ev.now _
  | succ d ih =>
    intro i hi hle
    have hlt : i < l.length := by omega
    refine Ev.step (fun k => hstep k i hlt) ?_
    refine Ev.bind (hF i hlt) ?_
    rw [List.drop_eq_getElem_cons hlt, List.all_cons]
    cases hp : p l[i]
    · exact Ev.now _
    · simp only [if_true, Bool.true_and, w64 (a := (i : Int) + 1) (by omega) (by omega)]
      exact ih (i + 1) (by omega) (by omega)
theorem rdi_nat (l : List Int) (i : Nat) (h : i < l.length) : rd l (i : Int) = l[i] := by
  unfold rd
  simp [h]
theorem within_ev (a b c : Int) : impl_within.f a b c = some (decide (b ≤ a) && decide (a ≤ c)) := by
  unfold impl_within.f
  by_cases h : a ≥ b
  · rw [if_pos h, show decide (b ≤ a) = true from decide_eq_true h]; rfl
  · rw [if_neg h, show decide (b ≤ a) = false from decide_eq_false h]; rfl
theorem in_ev (a b c : Int) : spec_l6In.f a b c = some (decide (b ≤ a) && decide (a ≤ c)) := by
  unfold spec_l6In.f
  by_cases h : a ≥ b
  · rw [if_pos h, show decide (b ≤ a) = true from decide_eq_true h]; rfl
  · rw [if_neg h, show decide (b ≤ a) = false from decide_eq_false h]; rfl
def isB (x : Int) : Bool := decide (0 ≤ x) && decide (x ≤ 255)
theorem isByte_ev (x : Int) : impl_isByte.f x = some (isB x) := by
  unfold impl_isByte.f isB
  by_cases h : x ≥ 0
  · rw [if_pos h, show decide (0 ≤ x) = true from decide_eq_true h]; rfl
  · rw [if_neg h, show decide (0 ≤ x) = false from decide_eq_false h]; rfl
theorem isB_iff (x : Int) : isB x = true ↔ 0 ≤ x ∧ x ≤ 255 := by
  unfold isB
  simp
theorem allBytes_ev (l : List Int) (hl : l.length ≤ 9223372036854775807) : Ev (fun k => impl_allBytes.f k l) (l.all isB) := by
  unfold impl_allBytes.f
  have := ev_all l hl (fun k i => impl_allBytes.l0 k l (l.length : Int) i) (fun k i => some (isB (rd l (i : Int)))) isB true
    (fun k => by simp only [impl_allBytes.l0]; rw [if_neg (by omega)])
    (fun k i h => by simp only [impl_allBytes.l0]; rw [if_pos (by omega), if_pos (by omega), if_pos (by omega), isByte_ev])
    (fun i h => by rw [rdi_nat l i h]; exact Ev.now _) l.length 0 (by omega) (by omega)
  simpa using this
theorem l1Ok_ev (l : List Int) (hl : l.length ≤ 9223372036854775807) : Ev (fun k => spec_l1Ok.f k l) (l.all isB) := by
  unfold spec_l1Ok.f
  have := ev_all l hl (fun k i => spec_l1Ok.l0 k l i) (fun k i => some (isB (rd l (i : Int)))) isB true
    (fun k => by simp only [spec_l1Ok.l0]; rw [if_neg (by omega)])
    (fun k i h => by simp only [spec_l1Ok.l0]; rw [if_pos (by omega), if_pos (by omega), in_ev]; rfl)
    (fun i h => by rw [rdi_nat l i h]; exact Ev.now _) l.length 0 (by omega) (by omega)
  simpa using this
def partOk (has : Bool) (l : List Int) : Bool := if has = true then decide (l.length ≤ 12) && l.all isB else decide (l.length = 0)
theorem partValid_ev (has : Bool) (l : List Int) (hl : l.length ≤ 9223372036854775807) : Ev (fun k => impl_partValid.f k has l) (partOk has l) := by
  unfold impl_partValid.f partOk
  cases has
  · simp only [Bool.false_eq_true, if_false]
    rw [show ((l.length : Int) == 0) = decide (l.length = 0) from by rw [Bool.eq_iff_iff]; simp]
    exact Ev.now _
  · simp only [if_true]
    by_cases h : (l.length : Int) ≤ 12
    · simp only [if_pos h]
      rw [show decide (l.length ≤ 12) = true from decide_eq_true (by omega), Bool.true_and]
      exact Ev.bind (allBytes_ev l hl) (Ev.now _)
    · simp only [if_neg h]
      rw [show decide (l.length ≤ 12) = false from decide_eq_false (by omega)]
      exact Ev.now _
theorem l3Part_ev (has : Bool) (l : List Int) (hl : l.length ≤ 9223372036854775807) : Ev (fun k => spec_l3Part.f k has l) (partOk has l) := by
  unfold spec_l3Part.f partOk
  cases has
  · simp only [Bool.false_eq_true, if_false]
    by_cases h : (l.length : Int) = 0
    · simp only [if_pos h]
      obtain rfl : l = [] := List.length_eq_zero_iff.1 (by omega)
      refine Ev.bind (l1Ok_ev [] (by simp)) ?_
      exact Ev.now _
    · simp only [if_neg h]
      rw [show decide (l.length = 0) = false from decide_eq_false (by omega)]
      exact Ev.now _
  · simp only [if_true]
    refine Ev.bind (l1Ok_ev l hl) ?_
    rw [show decide ((l.length : Int) ≤ 12) = decide (l.length ≤ 12) from decide_eq_decide.2 (by omega)]
    cases l.all isB
    · simp only [Bool.false_eq_true, if_false, Bool.and_false]
      exact Ev.now _
    · simp only [if_true, Bool.and_true]
      exact Ev.now _
def rng (x : Int) : Bool := decide (0 ≤ x) && decide (x ≤ 99999)
def recOk (r : S25) : Bool := (rng r.f0 && rng r.f1) && (partOk r.f2 r.f3 && partOk r.f4 r.f5)
/-- Lengths that can be told. -/
def Lens (r : S25) : Prop := r.f3.length ≤ 9223372036854775807 ∧ r.f5.length ≤ 9223372036854775807
theorem RecordValid_ev (r : S25) (hr : Lens r) : Ev (fun k => impl_RecordValid.f k r.f0 r.f1 r.f2 r.f3 r.f4 r.f5) (recOk r) := by
  unfold impl_RecordValid.f recOk impl_baseValid.f
  simp only [within_ev, Option.bind_some]
  change Ev (fun k => ((if rng r.f0 = true then some (rng r.f1) else some false)).bind _) _
  cases rng r.f0
  · simp only [Bool.false_eq_true, if_false, Option.bind_some, Bool.false_and]
    exact Ev.now _
  · cases rng r.f1
    · simp only [if_true, Option.bind_some, Bool.false_eq_true, if_false, Bool.true_and, Bool.false_and]
      exact Ev.now _
    · simp only [if_true, Option.bind_some, Bool.true_and]
      refine Ev.bind (partValid_ev _ _ hr.1) ?_
      cases partOk r.f2 r.f3
      · exact Ev.now _
      · simp only [if_true, Bool.true_and]
        exact Ev.bind (partValid_ev _ _ hr.2) (Ev.now _)
theorem sRecordValid_ev (r : S25) (hr : Lens r) : Ev (fun k => spec_RecordValid.f k r.f0 r.f1 r.f2 r.f3 r.f4 r.f5) (recOk r) := by
  unfold spec_RecordValid.f recOk
  simp only [in_ev, Option.bind_some]
  change Ev (fun k => if rng r.f0 = true then (if rng r.f1 = true then _ else some false) else some false) _
  cases rng r.f0
  · simp only [Bool.false_eq_true, if_false, Bool.false_and]
    exact Ev.now _
  · cases rng r.f1
    · simp only [if_true, Bool.false_eq_true, if_false, Bool.true_and, Bool.false_and]
      exact Ev.now _
    · simp only [if_true, Bool.true_and]
      refine Ev.bind (l3Part_ev _ _ hr.1) ?_
      cases partOk r.f2 r.f3
      · exact Ev.now _
      · simp only [if_true, Bool.true_and]
        exact Ev.bind (l3Part_ev _ _ hr.2) (Ev.now _)
theorem rdR_nat (l : List S25) (i : Nat) (h : i < l.length) : rd_T25 l (i : Int) = l[i] := by
  unfold rd_T25
  simp [h]
theorem recOk_len {r : S25} (h : recOk r = true) : r.f3.length ≤ 12 ∧ r.f5.length ≤ 12 := by
  unfold recOk partOk at h
  simp only [Bool.and_eq_true] at h
  obtain ⟨_, h1, h2⟩ := h
  constructor
  · cases h3 : r.f2 <;> rw [h3] at h1 <;> simp at h1
    · simp [h1]
    · omega
  · cases h3 : r.f4 <;> rw [h3] at h2 <;> simp at h2
    · simp [h2]
    · omega
end Go.Proofs.YteoicjlhkaljbaaDoor.Pu

